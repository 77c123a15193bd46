/- RecAgree of the reference. No condition. -/
import Derived.Test.Ytjeijflpejhkhaamajr
import Derived.Test.Ytjeijflpejhkhaafx
import Derived.Test.Ytjeijflpejhkhaabook
namespace Go.Proofs.Ytjeijflpejhkhaa.Sp
open Go Go.RowKit
set_option linter.unusedVariables false
set_option linter.unusedSimpArgs false
set_option maxRecDepth 10000
set_option maxHeartbeats 1000000
variable {w0 W : World} {L : List Asn}
/-- What all books and most disks must have. -/
def bookAt (x : Wld) (k q : Nat) : Prop := ∀ (hk : k < x.recs.length) (hq : q < (bookL x.recs[k]).length), fixA x ((q : Int) + 1) = ((bookL x.recs[k])[q], true)
def majAt (x : Wld) (ix : Int) : Prop := ∀ s, MajS x ix s → fixA x ix = (s.text, true)
structure AgreeP (x : Wld) : Prop where
  books : ∀ k q, bookAt x k q
  majs : ∀ m : Nat, m < 60 → majAt x ((m : Int) + 1)
theorem fix_eq {x : Wld} {ix : Int} {t : ByteArray} (h1 : (fixA x ix).2 = true) (h2 : (fixA x ix).1 = t) : fixA x ix = (t, true) := by
  cases h : fixA x ix; simp_all
theorem recs_ok {x : Wld} (h : worldB x = true) {k : Nat} (hk : k < x.recs.length) : validB x.recs[k] = true := by
  simp only [worldB, Bool.and_eq_true] at h
  have h2 := allN_iff.1 h.1.1.2 k hk
  rw [recB_at hk, Bool.and_eq_true, Bool.and_eq_true] at h2
  exact h2.1.1
theorem book60 (x : Rcd) : (bookL x).length ≤ 60 := by
  unfold bookL
  split
  · rename_i h; have := disk_of_valid h; simp; omega
  · simp
theorem specAgree (x : Wld) (i : AtW) (h : RoW false w0 x i) (hn : SmallW x) (HM : Mem w0 W L) : Calls Try.prog 10 #[.agg (encW x i).toArray] W fun e W' => ∃ b, e = .returned (.bool b) ∧ (b = true ↔ worldB x = true ∧ AgreeP x) ∧ Mem w0 W' L := by
  refine enter Try.func10 rfl Try.ntmps10 [(0, .agg (encW x i).toArray)] rfl ⟨rfl, trivial⟩ ?_
  have h0 := h
  have hr := h.recs
  have n1 := hn.recs
  unfold encW
  by_cases hw : worldB x = true
  rotate_left
  · simp only [Bool.not_eq_true] at hw
    repeat (first | (refine gGP ?_; first | refine gp (p_assign rfl) ?_ | refine gp (p_not rfl) ?_) | (refine gGV ?_; refine gv (p_loads rfl) ?_) | (refine gL ?_; first | refine s_gp rfl rfl ?_ | refine s_gv HM rfl ?_ | (refine gCall ?_; (refine s_fn rfl rfl ?_; (go_at_call 15; refine (specWorldOk x i h0 hn HM).mono ?_; rintro e W1 ⟨rfl, HM1⟩; refine ⟨_, rfl, ?_⟩; clear HM; have HM := HM1; clear HM1))) | (refine s_box HM rfl rfl ?_; intro g W1 HM1; clear HM; have HM := HM1; clear HM1) | refine l_nil ?_) | (refine gC ?_; first | refine c_seq ?_ | refine c_region ?_ | refine c_ret ?_ | refine c_yes rfl (by (simp; omega)) ?_) | (refine gN ?_; first | refine n_then ?_ | refine r_then ?_))
    exact ret_tmp rfl rfl ⟨_, rfl, by simp [hw], HM.sb⟩
  replace HM := HM.rod hr
  repeat (first | (refine gGP ?_; first | refine gp (p_assign rfl) ?_ | refine gp (p_not rfl) ?_) | (refine gGV ?_; refine gv (p_loads rfl) ?_) | (refine gL ?_; first | refine s_gp rfl rfl ?_ | refine s_gv HM rfl ?_ | (refine gCall ?_; (refine s_fn rfl rfl ?_; (go_at_call 15; refine (specWorldOk x i h0 hn HM).mono ?_; rintro e W1 ⟨rfl, HM1⟩; refine ⟨_, rfl, ?_⟩; clear HM; have HM := HM1; clear HM1))) | (refine s_box HM rfl rfl ?_; intro g W1 HM1; clear HM; have HM := HM1; clear HM1) | refine l_nil ?_) | (refine gC ?_; first | refine c_seq ?_ | refine c_region ?_ | refine c_block ?_ | refine c_skip ?_ | refine c_no rfl (by first | rfl | (simp; omega)) ?_) | (refine gN ?_; refine n_then ?_))
  refine c_loop (σ := Nat) (fun k => [(1, .pointer (some ⟨g, 0, none⟩)), (3, .int .i64 k)]) (fun k W1 => k ≤ x.recs.length ∧ (∀ j q, j < k → bookAt x j q) ∧ Mem w0 W1 _) (fun k => x.recs.length - k) 0 (by repeat (first | exact trivial | refine And.intro (by first | rfl | exact look_int rfl (by omega)) ?_)) ⟨Nat.zero_le _, fun j q hj => by omega, HM⟩ ?_
  clear HM
  rintro k W1 ⟨hk, hp, HM⟩
  by_cases hlt : k < x.recs.length
  · have hnk := hn.recss _ (List.getElem_mem hlt)
    have hb60 := book60 x.recs[k]
    obtain ⟨cc, ⟨j, rfl, hh⟩, HM⟩ := HM.roOpen (A := i.b0.1) k hlt
    unfold encRcd at HM
    repeat (first | (refine gGP ?_; first | refine gp (p_move rfl) ?_ | refine gp (p_assign rfl) ?_ | (refine gGB ?_; refine gp (p_lss rfl rfl) ?_) | refine gp (p_field rfl (by simp only [Nat.reduceAdd]; rfl)) ?_ | refine gp (p_indexr HM rfl (by first | with_reducible rfl | omega) rfl (by omega) (by omega)) ?_ | refine gp (p_len rfl) ?_) | (refine gGV ?_; first | refine gv (p_load rfl) ?_ | refine gv (p_loadwr rfl rfl rfl) ?_) | (refine gL ?_; first | refine s_gp rfl rfl ?_ | refine s_gv HM rfl ?_ | (refine gCall ?_; (refine s_fn rfl rfl ?_; (go_at_call 25; refine (specBook x.recs[k] j hh.ro hnk HM).mono ?_; rintro e W1 ⟨A0, c0, rfl, HM1⟩; refine ⟨_, rfl, ?_⟩; clear HM; have HM := HM1; clear HM1))) | refine l_nil ?_) | (refine gC ?_; first | refine c_seq ?_ | refine c_region ?_ | refine c_block ?_ | refine c_skip ?_ | refine c_yes rfl (by first | rfl | (simp; omega)) ?_) | (refine gN ?_; refine n_then ?_))
    refine c_loop (σ := Nat) (fun q => [(1, .pointer (some ⟨g, 0, none⟩)), (3, .int .i64 k), (4, .slice A0 (bookL x.recs[k]).length c0), (5, .int .i64 q)]) (fun q W1 => q ≤ (bookL x.recs[k]).length ∧ (∀ j, j < q → bookAt x k j) ∧ Mem w0 W1 _) (fun q => (bookL x.recs[k]).length - q) 0 (by repeat (first | exact trivial | refine And.intro (by first | rfl | exact look_int rfl (by omega)) ?_)) ⟨Nat.zero_le _, fun j hj => by omega, HM⟩ ?_
    clear HM
    rintro q W1 ⟨hq, hp2, HM⟩
    by_cases hql : q < (bookL x.recs[k]).length
    · have e0 := rd_at (d := tStr) hql
      by_cases d1 : (fixA x ((q : Int) + 1)).2 = true
      rotate_left
      · have hno : ¬ AgreeP x := fun ha => d1 (by rw [ha.books k q hlt hql])
        simp only [Bool.not_eq_true] at d1
        repeat (first | (refine gGP ?_; first | refine gp (p_move rfl) ?_ | refine gp (p_assign rfl) ?_ | (refine gGB ?_; first | refine gp (p_lss rfl rfl) ?_ | refine gp (p_add rfl rfl (by exact wr (by omega) (by omega))) ?_) | refine gp (p_len rfl) ?_ | refine gp (p_not rfl) ?_ | refine gp (p_extract rfl rfl) ?_ | refine gp (p_pick1 rfl (by (simp; omega)) rfl) ?_) | (refine gGV ?_; refine gv (p_loads rfl) ?_) | (refine gL ?_; first | refine s_gp rfl rfl ?_ | refine s_gv HM rfl ?_ | (refine gCall ?_; (refine s_fn rfl rfl ?_; (go_at_call 26; refine (specFixed x i _ h0 hn.fixed HM).mono ?_; rintro e W1 ⟨rfl, HM1⟩; refine ⟨_, rfl, ?_⟩; clear HM; have HM := HM1; clear HM1))) | refine l_nil ?_ | refine s_guard_off rfl rfl rfl rfl (by (simp; omega)) rfl rfl ?_) | (refine gC ?_; first | refine c_seq ?_ | refine c_region ?_ | refine c_block ?_ | refine c_skip ?_ | refine c_ret ?_ | refine c_yes rfl (by first | rfl | (simp; omega)) ?_) | (refine gN ?_; first | refine n_then ?_ | refine r_then ?_ | refine r_block ?_))
        exact ret_tmp rfl rfl ⟨_, rfl, by simp [hno], HM.sb⟩
      by_cases d2 : (fixA x ((q : Int) + 1)).1 = rd tStr (bookL x.recs[k]) q
      rotate_left
      · have hno : ¬ AgreeP x := fun ha => d2 (by rw [ha.books k q hlt hql, e0])
        repeat (first | (refine gGP ?_; first | refine gp (p_move rfl) ?_ | refine gp (p_assign rfl) ?_ | (refine gGB ?_; first | refine gp (p_lss rfl rfl) ?_ | refine gp (p_sneq rfl rfl) ?_ | refine gp (p_add rfl rfl (by exact wr (by omega) (by omega))) ?_) | refine gp (p_indexo HM rfl (by first | with_reducible rfl | omega) rfl (by omega) (by omega)) ?_ | refine gp (p_len rfl) ?_ | refine gp (p_not rfl) ?_ | refine gp (p_extract rfl rfl) ?_ | refine gp (p_pick0 rfl (by (simp; omega)) rfl) ?_) | (refine gGV ?_; first | refine gv (p_loado rfl rfl (by omega) (by omega) rfl) ?_ | refine gv (p_loads rfl) ?_) | (refine gL ?_; first | refine s_gp rfl rfl ?_ | refine s_gv HM rfl ?_ | (refine gCall ?_; (refine s_fn rfl rfl ?_; (go_at_call 26; refine (specFixed x i _ h0 hn.fixed HM).mono ?_; rintro e W1 ⟨rfl, HM1⟩; refine ⟨_, rfl, ?_⟩; clear HM; have HM := HM1; clear HM1))) | refine l_nil ?_ | refine s_guard_on rfl rfl rfl rfl (by (simp; omega)) ?_) | (refine gC ?_; first | refine c_seq ?_ | refine c_region ?_ | refine c_block ?_ | refine c_skip ?_ | refine c_ret ?_ | refine c_yes rfl (by (simp; omega)) ?_) | (refine gN ?_; first | refine n_then ?_ | refine r_then ?_ | refine r_block ?_))
        exact ret_tmp rfl rfl ⟨_, rfl, by simp [hno], HM.sb⟩
      repeat (first | (refine gGP ?_; first | refine gp (p_move rfl) ?_ | refine gp (p_assign rfl) ?_ | (refine gGB ?_; first | refine gp (p_lss rfl rfl) ?_ | refine gp (p_sneq rfl rfl) ?_ | refine gp (p_add rfl rfl (by exact wr (by omega) (by omega))) ?_) | refine gp (p_indexo HM rfl (by first | with_reducible rfl | omega) rfl (by omega) (by omega)) ?_ | refine gp (p_len rfl) ?_ | refine gp (p_not rfl) ?_ | refine gp (p_extract rfl rfl) ?_ | refine gp (p_pick0 rfl (by (simp; omega)) rfl) ?_) | (refine gGV ?_; first | refine gv (p_loado rfl rfl (by omega) (by omega) rfl) ?_ | refine gv (p_loads rfl) ?_) | (refine gL ?_; first | refine s_gp rfl rfl ?_ | refine s_gv HM rfl ?_ | (refine gCall ?_; (refine s_fn rfl rfl ?_; (go_at_call 26; refine (specFixed x i _ h0 hn.fixed HM).mono ?_; rintro e W1 ⟨rfl, HM1⟩; refine ⟨_, rfl, ?_⟩; clear HM; have HM := HM1; clear HM1))) | refine l_nil ?_ | refine s_guard_on rfl rfl rfl rfl (by (simp; omega)) ?_) | (refine gC ?_; first | refine c_seq ?_ | refine c_region ?_ | refine c_block ?_ | refine c_skip ?_ | refine c_yes rfl (by (simp; omega)) ?_ | refine c_no rfl (by (simp; omega)) ?_) | (refine gN ?_; first | refine n_then ?_ | refine n_block ?_))
      exact n_round (q + 1) (by repeat (first | exact trivial | refine And.intro (by first | rfl | exact look_int rfl (by omega)) ?_)) ⟨by omega, fun j hj => by
        by_cases e : j = q
        · subst e; exact fun _ _ => fix_eq d1 (d2.trans e0)
        · exact hp2 j (by omega), HM.sb⟩ (by omega)
    · repeat (first | (refine gGP ?_; first | refine gp (p_move rfl) ?_ | refine gp (p_assign rfl) ?_ | (refine gGB ?_; first | refine gp (p_lss rfl rfl) ?_ | refine gp (p_add rfl rfl (by exact wr (by omega) (by omega))) ?_) | refine gp (p_len rfl) ?_) | (refine gL ?_; first | refine s_gp rfl rfl ?_ | refine l_nil ?_) | (refine gC ?_; first | refine c_seq ?_ | refine c_region ?_ | refine c_exit ?_ | refine c_no rfl (by (simp; omega)) ?_) | (refine gN ?_; first | refine n_then ?_ | refine n_block ?_ | refine x_then ?_ | refine x_here ?_))
      exact n_round (k + 1) (by repeat (first | exact trivial | refine And.intro (by first | rfl | exact look_int rfl (by omega)) ?_)) ⟨by omega, fun j q2 hj => by
        by_cases e : j = k
        · subst e; exact fun a b => hp2 q2 (by omega) a b
        · exact hp j q2 (by omega), HM.sb⟩ (by omega)
  obtain rfl : k = x.recs.length := by omega
  repeat (first | (refine gGP ?_; first | refine gp (p_move rfl) ?_ | refine gp (p_assign rfl) ?_ | (refine gGB ?_; refine gp (p_lss rfl rfl) ?_) | refine gp (p_field rfl (by simp only [Nat.reduceAdd]; rfl)) ?_ | refine gp (p_len rfl) ?_) | (refine gGV ?_; refine gv (p_load rfl) ?_) | (refine gL ?_; first | refine s_gp rfl rfl ?_ | refine s_gv HM rfl ?_ | refine l_nil ?_) | (refine gC ?_; first | refine c_seq ?_ | refine c_region ?_ | refine c_block ?_ | refine c_exit ?_ | refine c_no rfl (by first | rfl | (simp; done) | fail) ?_) | (refine gN ?_; first | refine n_then ?_ | refine x_then ?_ | refine x_here ?_))
  refine c_loop (σ := Nat) (fun m => [(1, .pointer (some ⟨g, 0, none⟩)), (8, .int .i64 ((m : Int) + 1))]) (fun m W1 => m ≤ 60 ∧ (∀ j : Nat, j < m → majAt x ((j : Int) + 1)) ∧ Mem w0 W1 _) (fun m => 60 - m) 0 (by repeat (first | exact trivial | refine And.intro (by first | rfl | exact look_int rfl (by omega)) ?_)) ⟨Nat.zero_le _, fun j hj => by omega, HM⟩ ?_
  clear HM
  rintro m W1 ⟨hm, hp2, HM⟩
  by_cases hml : m < 60
  · repeat (first | (refine gGP ?_; first | refine gp (p_move rfl) ?_ | refine gp (p_assign rfl) ?_ | (refine gGB ?_; refine gp (p_leq rfl rfl) ?_) | refine gp (p_extract rfl rfl) ?_) | (refine gGV ?_; refine gv (p_loads rfl) ?_) | (refine gL ?_; first | refine s_gp rfl rfl ?_ | refine s_gv HM rfl ?_ | (refine gCall ?_; (refine s_fn rfl rfl ?_; first | (go_at_call 16; refine (specMaj x i _ h0 hn.recs (safe_of hw) HM).mono ?_; rintro e W1 ⟨t1, b1, rfl, hmj, HM1⟩; refine ⟨_, rfl, ?_⟩; clear HM; have HM := HM1; clear HM1) | (go_at_call 26; refine (specFixed x i _ h0 hn.fixed HM).mono ?_; rintro e W1 ⟨rfl, HM1⟩; refine ⟨_, rfl, ?_⟩; clear HM; have HM := HM1; clear HM1))) | refine l_nil ?_) | (refine gC ?_; first | refine c_seq ?_ | refine c_region ?_ | refine c_block ?_ | refine c_skip ?_ | refine c_yes rfl (by (simp; omega)) ?_) | (refine gN ?_; refine n_then ?_))
    by_cases d0 : b1 = true
    rotate_left
    · have hnm : majAt x ((m : Int) + 1) := fun s hs => absurd hs ((hmj.no (by simpa using d0)).2 s)
      simp only [Bool.not_eq_true] at d0
      repeat (first | (refine gGP ?_; first | refine gp (p_move rfl) ?_ | refine gp (p_assign rfl) ?_ | (refine gGB ?_; refine gp (p_add rfl rfl (by exact wr (by omega) (by omega))) ?_) | refine gp (p_pick0 rfl (by assumption) rfl) ?_) | (refine gL ?_; first | refine s_gp rfl rfl ?_ | refine l_nil ?_ | refine s_guard_off rfl rfl rfl rfl (by first | rfl | assumption) rfl rfl ?_ | refine s_guard_un rfl rfl rfl rfl rfl rfl ?_) | (refine gC ?_; first | refine c_region ?_ | refine c_skip ?_ | refine c_no rfl (by rfl) ?_) | (refine gN ?_; first | refine n_then ?_ | refine n_block ?_))
      exact n_round (m + 1) (by repeat (first | exact trivial | refine And.intro (by first | rfl | exact look_int rfl (by omega)) ?_)) ⟨by omega, fun j hj => by
        by_cases e : j = m
        · subst e; exact hnm
        · exact hp2 j (by omega), HM.sb⟩ (by omega)
    obtain ⟨s, hs, rfl⟩ := hmj.yes d0
    by_cases d1 : (fixA x ((m : Int) + 1)).2 = true
    rotate_left
    · have hno : ¬ AgreeP x := fun ha => d1 (by rw [ha.majs m hml s hs])
      simp only [Bool.not_eq_true] at d1
      repeat (first | (refine gGP ?_; first | refine gp (p_move rfl) ?_ | refine gp (p_assign rfl) ?_ | refine gp (p_not rfl) ?_ | refine gp (p_pick1 rfl (by first | assumption | (simp; omega)) rfl) ?_) | (refine gL ?_; first | refine s_gp rfl rfl ?_ | refine l_nil ?_ | refine s_guard_on rfl rfl rfl rfl (by assumption) ?_ | refine s_guard_off rfl rfl rfl rfl (by (simp; omega)) rfl rfl ?_) | (refine gC ?_; first | refine c_seq ?_ | refine c_region ?_ | refine c_ret ?_ | refine c_yes rfl (by rfl) ?_) | (refine gN ?_; first | refine n_then ?_ | refine r_then ?_ | refine r_block ?_))
      exact ret_tmp rfl rfl ⟨_, rfl, by simp [hno], HM.sb⟩
    by_cases d2 : (fixA x ((m : Int) + 1)).1 = s.text
    rotate_left
    · have hno : ¬ AgreeP x := fun ha => d2 (by rw [ha.majs m hml s hs])
      repeat (first | (refine gGP ?_; first | refine gp (p_move rfl) ?_ | refine gp (p_assign rfl) ?_ | (refine gGB ?_; refine gp (p_sneq rfl rfl) ?_) | refine gp (p_not rfl) ?_ | refine gp (p_pick1 rfl (by assumption) rfl) ?_ | refine gp (p_pick0 rfl (by (simp; omega)) rfl) ?_) | (refine gL ?_; first | refine s_gp rfl rfl ?_ | refine l_nil ?_ | refine s_guard_on rfl rfl rfl rfl (by first | assumption | (simp; omega)) ?_) | (refine gC ?_; first | refine c_seq ?_ | refine c_region ?_ | refine c_ret ?_ | refine c_yes rfl (by (simp; omega)) ?_) | (refine gN ?_; first | refine n_then ?_ | refine r_then ?_ | refine r_block ?_))
      exact ret_tmp rfl rfl ⟨_, rfl, by simp [hno], HM.sb⟩
    repeat (first | (refine gGP ?_; first | refine gp (p_move rfl) ?_ | refine gp (p_assign rfl) ?_ | (refine gGB ?_; first | refine gp (p_sneq rfl rfl) ?_ | refine gp (p_add rfl rfl (by exact wr (by omega) (by omega))) ?_) | refine gp (p_not rfl) ?_ | refine gp (p_pick1 rfl (by assumption) rfl) ?_ | refine gp (p_pick0 rfl (by (simp; omega)) rfl) ?_) | (refine gL ?_; first | refine s_gp rfl rfl ?_ | refine l_nil ?_ | refine s_guard_on rfl rfl rfl rfl (by first | assumption | (simp; omega)) ?_) | (refine gC ?_; first | refine c_region ?_ | refine c_skip ?_ | refine c_no rfl (by (simp; omega)) ?_) | (refine gN ?_; first | refine n_then ?_ | refine n_block ?_))
    exact n_round (m + 1) (by repeat (first | exact trivial | refine And.intro (by first | rfl | exact look_int rfl (by omega)) ?_)) ⟨by omega, fun j hj => by
      by_cases e : j = m
      · subst e; exact fun u hu => by rw [MajS_one hu hs]; exact fix_eq d1 d2
      · exact hp2 j (by omega), HM.sb⟩ (by omega)
  · repeat (first | (refine gGP ?_; first | refine gp (p_move rfl) ?_ | refine gp (p_assign rfl) ?_ | (refine gGB ?_; refine gp (p_leq rfl rfl) ?_)) | (refine gL ?_; first | refine s_gp rfl rfl ?_ | refine l_nil ?_) | (refine gC ?_; first | refine c_seq ?_ | refine c_region ?_ | refine c_exit ?_ | refine c_ret ?_ | refine c_no rfl (by (simp; omega)) ?_) | (refine gN ?_; first | refine n_then ?_ | refine x_then ?_ | refine x_here ?_))
    exact ret_tmp rfl rfl ⟨_, rfl, ⟨fun _ => ⟨hw, ⟨fun j q hj => hp j q hj hj, fun j hj => hp2 j (by omega)⟩⟩, fun _ => rfl⟩, HM.sb⟩
end Go.Proofs.Ytjeijflpejhkhaa.Sp
