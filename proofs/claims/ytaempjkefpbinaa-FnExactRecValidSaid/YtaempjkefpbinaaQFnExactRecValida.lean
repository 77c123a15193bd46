/- What the parts of a recorder answer, in lists and whole numbers alone; no condition. -/
import Derived.Test.YtaempjkefpbinaaPFnExactRecValidx
import Derived.Test.YtaempjkefpbinaaOpen
import Derived.Test.YtaempjkefpbinaaPb
import Derived.Test.YtaempjkefpbinaaWk
namespace Go.Proofs.Ytaempjkefpbinaa.QFnExactRecValid
open Go.RowKit Go.Proofs.Ytaempjkefpbinaa.PFnExactRecValid Go.Proofs.YtaempjkefpbinaaW.PrintWords Go.Proofs.YtaempjkefpbinaaW.PrintLast Go.Proofs.YtaempjkefpbinaaW.PrintMore Go.Proofs.Ytaempjkefpbinaa.Pb Go.Proofs.Ytaempjkefpbinaa.Op Go.Proofs.Ytaempjkefpbinaa.Wk
set_option linter.unusedSimpArgs false
set_option linter.unusedVariables false

theorem l1In (a b c : Int) : spec_l1In.f a b c = some (decide (b ≤ a ∧ a ≤ c)) := by
  unfold spec_l1In.f
  by_cases h : a ≥ b
  · rw [if_pos h]; simp only [ge_iff_le] at h; simp [h]
  · rw [if_neg h]; simp only [ge_iff_le] at h; simp [h]
theorem within (a b c : Int) : impl_within.f a b c = some (decide (b ≤ a ∧ a ≤ c)) := by
  unfold impl_within.f
  by_cases h : a ≥ b
  · rw [if_pos h]; simp only [ge_iff_le] at h; simp [h]
  · rw [if_neg h]; simp only [ge_iff_le] at h; simp [h]

/-! ### slots that are ok -/
def slotB (s : S81) : Bool := decide (0 ≤ s.f0 ∧ s.f0 ≤ 1000000) && (decide (s.f1.size ≤ 100) && (!decide (s.f0 = 0) || decide (s.f1.toList = ([] : List UInt8))))
def slotsB (xs : List S81) : Bool := decide (xs.length ≤ 60) && xs.all slotB

theorem specSlotsOk (xs : List S81) (k : Nat) (hk : xs.length < k) : spec_l1SlotsOk.f k xs = some (slotsB xs) := by
  unfold spec_l1SlotsOk.f slotsB
  by_cases hl : (xs.length : Int) > 60
  · rw [if_pos hl]; simp; omega
  · rw [if_neg hl]
    have e : decide (xs.length ≤ 60) = true := decide_eq_true (by omega)
    rw [e, Bool.true_and]
    refine loopInd xs.length (fun k i => spec_l1SlotsOk.l0 k xs (i : Int) = some ((xs.drop i).all slotB)) ?_ ?_ 0 k (Nat.zero_le _) (by omega)
    · intro k
      simp only [spec_l1SlotsOk.l0]
      rw [if_neg (by omega), List.drop_length]; rfl
    · intro k i hi ih
      simp only [spec_l1SlotsOk.l0]
      rw [if_pos (by omega), if_pos (by omega), wrapSucc hi (by omega), ih, dropAt hi, List.all_cons]
      unfold rd_T81
      rw [getDAt hi, l1In]
      simp only [Option.bind_some, slotB]
      by_cases h1 : 0 ≤ xs[i].f0 ∧ xs[i].f0 ≤ 1000000
      · simp only [h1, and_self, decide_true, if_true, Bool.true_and]
        by_cases h2 : xs[i].f1.size ≤ 100
        · rw [if_neg (by omega)]
          by_cases h3 : xs[i].f0 = 0
          · by_cases h4 : xs[i].f1.toList = ([] : List UInt8) <;> simp [h2, h3, h4]
          · simp [h2, h3]
        · rw [if_pos (by omega)]; simp [h2]
      · simp [h1]

theorem implSlotsOk (xs : List S81) (k : Nat) (hk : xs.length < k) : impl_slotsOk.f k xs = some (slotsB xs) := by
  unfold impl_slotsOk.f slotsB
  by_cases hl : (xs.length : Int) > 60
  · rw [if_pos hl]; simp; omega
  · rw [if_neg hl]
    have e : decide (xs.length ≤ 60) = true := decide_eq_true (by omega)
    rw [e, Bool.true_and]
    refine loopInd xs.length (fun k i => impl_slotsOk.l0 k xs (xs.length : Int) (i : Int) = some ((xs.drop i).all slotB)) ?_ ?_ 0 k (Nat.zero_le _) (by omega)
    · intro k
      simp only [impl_slotsOk.l0]
      rw [if_neg (by omega), List.drop_length]; rfl
    · intro k i hi ih
      simp only [impl_slotsOk.l0]
      rw [if_pos (by omega), if_pos (by omega), if_pos (by omega), wrapSucc hi (by omega), ih, dropAt hi, List.all_cons]
      unfold rd_T81
      rw [getDAt hi, within]
      simp only [Option.bind_some, slotB]
      by_cases h1 : 0 ≤ xs[i].f0 ∧ xs[i].f0 ≤ 1000000
      · simp only [h1, and_self, decide_true, if_true, Bool.true_and]
        by_cases h2 : xs[i].f1.size ≤ 100
        · rw [if_neg (by omega)]
          by_cases h3 : xs[i].f0 = 0
          · by_cases h4 : xs[i].f1.toList = ([] : List UInt8) <;> simp [h2, h3, h4]
          · simp [h2, h3]
        · rw [if_pos (by omega)]; simp [h2]
      · simp [h1]

/-! ### sizes of slots -/
theorem szSlot (x : S78) (a : Int) (h0 : 0 ≤ a) (ha : a ≤ 1048576) (hs : x.f1.size ≤ maxLen) :
    ∃ r, laws_szRecSlot.f x.f0 x.f1 a = some r ∧ r ≤ a ∧ -1 ≤ r := by
  unfold laws_szRecSlot.f maxLen at *
  rw [wrapIn (by omega) (by omega)]
  by_cases h : a - (x.f1.size : Int) < 0
  · rw [if_pos h]; exact ⟨_, rfl, by omega, by omega⟩
  · rw [if_neg h]; exact ⟨_, rfl, by omega, by omega⟩

theorem szSlotS (xs : List S78) (a : Int) (h0 : 0 ≤ a) (ha : a ≤ 1048576) (hl : xs.length ≤ maxLen) (hs : ∀ x ∈ xs, x.f1.size ≤ maxLen) (k : Nat) (hk : xs.length < k) :
    ∃ r, laws_szRecSlotS.f k xs a = some r ∧ r ≤ a ∧ -1 ≤ r ∧ (0 ≤ r → (xs.length : Int) ≤ a) := by
  have hl' : xs.length ≤ 9223372036854775807 := by unfold maxLen at hl; omega
  unfold laws_szRecSlotS.f
  rw [wrapIn (by omega) (by omega)]
  by_cases h : a - (xs.length : Int) < 0
  · rw [if_pos h]; exact ⟨_, rfl, by omega, by omega, fun _ => by omega⟩
  · rw [if_neg h]
    have hsm : xs.length ≤ 1048576 := by omega
    have key := loopInd xs.length (fun k i => ∀ b : Int, 0 ≤ b → b ≤ a - xs.length → ∃ r, laws_szRecSlotS.l0 k xs b (i : Int) = some r ∧ r ≤ b ∧ -1 ≤ r) ?_ ?_ 0 k (Nat.zero_le _) (by omega) (a - xs.length) (by omega) (by omega)
    · obtain ⟨r, h1, h2, h3⟩ := key
      exact ⟨r, h1, by omega, h3, fun _ => by omega⟩
    · intro k b hb _
      refine ⟨b, ?_, by omega, by omega⟩
      simp only [laws_szRecSlotS.l0]
      rw [if_neg (by omega)]
    · intro k i hi ih b hb hba
      simp only [laws_szRecSlotS.l0]
      rw [if_pos (by omega), if_pos (by omega), wrapSucc hi (by omega)]
      unfold rd_T78
      rw [getDAt hi]
      obtain ⟨t, ht, hta, htm⟩ := szSlot xs[i] b hb (by omega) (hs _ (List.getElem_mem hi))
      rw [ht]
      simp only [Option.bind_some]
      by_cases hneg : t < 0
      · rw [if_pos hneg]; exact ⟨_, rfl, by omega, by omega⟩
      · rw [if_neg hneg]
        obtain ⟨r, h1, h2, h3⟩ := ih t (by omega) (by omega)
        exact ⟨r, h1, by omega, h3⟩

/-! ### mirrors of slots -/
def mSlot (x : S78) : S81 := ⟨x.f0, x.f1⟩
theorem toSlotS (xs : List S78) (hl : xs.length ≤ 1048576) (k : Nat) (hk : xs.length < k) : laws_toRecSlotS.f k xs = some (xs.map mSlot) := by
  unfold laws_toRecSlotS.f
  rw [if_pos (by omega), if_pos (by rw [Int.toNat_natCast]; omega), Int.toNat_natCast]
  have key := loopInd xs.length (fun k i => laws_toRecSlotS.l0 k xs (fill (xs.map mSlot) z81 i) (i : Int) = some (xs.map mSlot)) ?_ ?_ 0 k (Nat.zero_le _) (by omega)
  · rw [fill_zero, List.length_map] at key
    exact key
  · intro k
    simp only [laws_toRecSlotS.l0]
    rw [if_neg (by omega)]
    have := fill_all (xs.map mSlot) z81
    rw [List.length_map] at this
    rw [this]
  · intro k i hi ih
    simp only [laws_toRecSlotS.l0]
    have hfl := fill_length (xs.map mSlot) z81 i (by rw [List.length_map]; omega)
    rw [List.length_map] at hfl
    rw [if_pos (by omega), if_pos (by omega), wrapSucc hi (by omega)]
    unfold laws_toRecSlot.f rd_T78
    rw [getDAt hi]
    simp only [Option.bind_some]
    rw [if_pos (by rw [hfl]; omega), Int.toNat_natCast]
    have hs := fill_set (xs.map mSlot) z81 i (by rw [List.length_map]; omega)
    rw [List.getElem_map] at hs
    have e : (⟨xs[i].f0, xs[i].f1⟩ : S81) = mSlot xs[i] := rfl
    rw [e, hs]
    exact ih

/-! ### messages that are ok -/
def msgB (a0 a1 a2 a3 a4 a5 : Int) (a6 : ByteArray) (xs : List S81) (o : Int) : Bool :=
  decide (1 ≤ a0 ∧ a0 ≤ 9) && (decide (1 ≤ a1 ∧ a1 ≤ o) && (decide (1 ≤ a2 ∧ a2 ≤ o) && (decide (0 ≤ a3 ∧ a3 ≤ 1000000) && (decide (0 ≤ a4 ∧ a4 ≤ 60) && (decide (0 ≤ a5 ∧ a5 ≤ 60) && (decide ((a6.size : Int) ≤ 100) && slotsB xs))))))
theorem specMsgOk (a0 a1 a2 a3 a4 a5 : Int) (a6 : ByteArray) (xs : List S81) (o : Int) (k : Nat) (hk : xs.length < k) : spec_RecMessageOk.f k a0 a1 a2 a3 a4 a5 a6 xs o = some (msgB a0 a1 a2 a3 a4 a5 a6 xs o) := by
  unfold spec_RecMessageOk.f msgB
  simp only [l1In, Option.bind_some, specSlotsOk xs k hk]
  by_cases h0 : 1 ≤ a0 ∧ a0 ≤ 9
  · by_cases h1 : 1 ≤ a1 ∧ a1 ≤ o
    · by_cases h2 : 1 ≤ a2 ∧ a2 ≤ o
      · by_cases h3 : 0 ≤ a3 ∧ a3 ≤ 1000000
        · by_cases h4 : 0 ≤ a4 ∧ a4 ≤ 60
          · by_cases h5 : 0 ≤ a5 ∧ a5 ≤ 60
            · by_cases h6 : (a6.size : Int) ≤ 100
              · simp only [h0, h1, h2, h3, h4, h5, h6, and_self, decide_true, if_true, Bool.true_and]
              · simp [h0, h1, h2, h3, h4, h5, h6]
            · simp [h0, h1, h2, h3, h4, h5]
          · simp [h0, h1, h2, h3, h4]
        · simp [h0, h1, h2, h3]
      · simp [h0, h1, h2]
    · simp [h0, h1]
  · simp [h0]
theorem implMsgOk (a0 a1 a2 a3 a4 a5 : Int) (a6 : ByteArray) (xs : List S81) (o : Int) (k : Nat) (hk : xs.length < k) : impl_RecMessageOk.f k a0 a1 a2 a3 a4 a5 a6 xs o = some (msgB a0 a1 a2 a3 a4 a5 a6 xs o) := by
  unfold impl_RecMessageOk.f msgB
  simp only [within, Option.bind_some, implSlotsOk xs k hk]
  by_cases h0 : 1 ≤ a0 ∧ a0 ≤ 9
  · by_cases h1 : 1 ≤ a1 ∧ a1 ≤ o
    · by_cases h2 : 1 ≤ a2 ∧ a2 ≤ o
      · by_cases h3 : 0 ≤ a3 ∧ a3 ≤ 1000000
        · by_cases h4 : 0 ≤ a4 ∧ a4 ≤ 60
          · by_cases h5 : 0 ≤ a5 ∧ a5 ≤ 60
            · by_cases h6 : (a6.size : Int) ≤ 100
              · simp only [h0, h1, h2, h3, h4, h5, h6, and_self, decide_true, if_true, Bool.true_and]
              · simp [h0, h1, h2, h3, h4, h5, h6]
            · simp [h0, h1, h2, h3, h4, h5]
          · simp [h0, h1, h2, h3, h4]
        · simp [h0, h1, h2, h3]
      · simp [h0, h1, h2]
    · simp [h0, h1]
  · simp [h0]

theorem szMsg (a0 a1 a2 a3 a4 a5 : Int) (a6 : ByteArray) (xs : List S78) (a : Int) (h0 : 0 ≤ a) (ha : a ≤ 1048576) (h6 : a6.size ≤ maxLen) (hl : xs.length ≤ maxLen) (hs : ∀ x ∈ xs, x.f1.size ≤ maxLen) (k : Nat) (hk : xs.length < k) :
    ∃ r, laws_szRecMessage.f k a0 a1 a2 a3 a4 a5 a6 xs a = some r ∧ r ≤ a ∧ -1 ≤ r ∧ (0 ≤ r → (xs.length : Int) ≤ a) := by
  unfold laws_szRecMessage.f
  have h6' : a6.size ≤ 9223372036854775807 := by unfold maxLen at h6; omega
  rw [wrapIn (by omega) (by omega)]
  by_cases h : a - (a6.size : Int) < 0
  · rw [if_pos h]; exact ⟨_, rfl, by omega, by omega, fun _ => by omega⟩
  · rw [if_neg h]
    obtain ⟨r, hr, h1, h2, h3⟩ := szSlotS xs (a - (a6.size : Int)) (by omega) (by omega) hl hs k hk
    rw [hr]
    simp only [Option.bind_some]
    by_cases hn : r < 0
    · rw [if_pos hn]; exact ⟨_, rfl, by omega, by omega, fun _ => by omega⟩
    · rw [if_neg hn]; exact ⟨_, rfl, by omega, by omega, fun h => by have := h3 h; omega⟩

/-! ### disks that are ok -/
def placeB (p n : Int) (s : S81) (i : Nat) : Bool := decide (s.f0 ≤ p) && (!decide ((i : Int) < n) || !decide (s.f0 = 0))
def placesB (p n : Int) : List S81 → Nat → Bool
  | [], _ => true
  | s :: r, i => placeB p n s i && placesB p n r (i + 1)
def diskB (p n : Int) (xs : List S81) : Bool := decide (0 ≤ p ∧ p ≤ 1000000) && (slotsB xs && (decide (0 ≤ n ∧ n ≤ xs.length) && placesB p n xs 0))

theorem specDiskOk (p n : Int) (xs : List S81) (k : Nat) (hk : xs.length + 1 < k) : spec_RecDiskOk.f k p n xs = some (diskB p n xs) := by
  obtain ⟨k, rfl⟩ : ∃ m, k = m + 1 := ⟨k - 1, by omega⟩
  unfold spec_RecDiskOk.f diskB
  rw [l1In, specSlotsOk xs _ (by omega), l1In]
  simp only [Option.bind_some, spec_RecDiskOk.j0]
  by_cases h1 : 0 ≤ p ∧ p ≤ 1000000
  · by_cases h2 : slotsB xs = true
    · by_cases h3 : 0 ≤ n ∧ n ≤ (xs.length : Int)
      · simp only [h1, h2, h3, and_self, decide_true, if_true, Bool.true_and, Bool.not_true, Bool.false_eq_true, if_false]
        have hl : xs.length ≤ 60 := by
          unfold slotsB at h2
          simp only [Bool.and_eq_true, decide_eq_true_eq] at h2
          exact h2.1
        refine loopInd xs.length (fun k i => spec_RecDiskOk.l0 k (i : Int) p n xs = some (placesB p n (xs.drop i) i)) ?_ ?_ 0 k (Nat.zero_le _) (by omega)
        · intro k
          simp only [spec_RecDiskOk.l0]
          rw [if_neg (by omega), List.drop_length]; rfl
        · intro k i hi ih
          simp only [spec_RecDiskOk.l0]
          rw [if_pos (by omega), if_pos (by omega), wrapSucc hi (by omega), ih, dropAt hi]
          unfold rd_T81
          rw [getDAt hi]
          simp only [placesB, placeB]
          by_cases c1 : xs[i].f0 ≤ p
          · rw [if_neg (by omega)]
            by_cases c2 : (i : Int) < n <;> by_cases c3 : xs[i].f0 = 0 <;> simp [c1, c2, c3]
            all_goals (intro h; omega)
          · rw [if_pos (by omega)]; simp [c1]
      · simp [h1, h2, h3]
    · simp [h1, h2]
  · simp [h1]

theorem implDiskOk (p n : Int) (xs : List S81) (k : Nat) (hk : xs.length + 1 < k) : impl_RecDiskOk.f k p n xs = some (diskB p n xs) := by
  obtain ⟨k, rfl⟩ : ∃ m, k = m + 1 := ⟨k - 1, by omega⟩
  unfold impl_RecDiskOk.f diskB
  rw [within, implSlotsOk xs _ (by omega), within]
  simp only [Option.bind_some, impl_RecDiskOk.j0]
  by_cases h1 : 0 ≤ p ∧ p ≤ 1000000
  · by_cases h2 : slotsB xs = true
    · by_cases h3 : 0 ≤ n ∧ n ≤ (xs.length : Int)
      · simp only [h1, h2, h3, and_self, decide_true, if_true, Bool.true_and, Bool.not_true, Bool.false_eq_true, if_false]
        have hl : xs.length ≤ 60 := by
          unfold slotsB at h2
          simp only [Bool.and_eq_true, decide_eq_true_eq] at h2
          exact h2.1
        refine loopInd xs.length (fun k i => impl_RecDiskOk.l0 k xs (xs.length : Int) (i : Int) p n xs = some (placesB p n (xs.drop i) i)) ?_ ?_ 0 k (Nat.zero_le _) (by omega)
        · intro k
          simp only [impl_RecDiskOk.l0]
          rw [if_neg (by omega), List.drop_length]; rfl
        · intro k i hi ih
          simp only [impl_RecDiskOk.l0]
          rw [if_pos (by omega), if_pos (by omega), if_pos (by omega), wrapSucc hi (by omega), ih, dropAt hi]
          unfold rd_T81
          rw [getDAt hi]
          simp only [placesB, placeB]
          by_cases c1 : xs[i].f0 ≤ p
          · rw [if_neg (by omega)]
            by_cases c2 : (i : Int) < n <;> by_cases c3 : xs[i].f0 = 0 <;> simp [c1, c2, c3]
            all_goals (intro h; omega)
          · rw [if_pos (by omega)]; simp [c1]
      · simp [h1, h2, h3]
    · simp [h1, h2]
  · simp [h1]

/-! ### slots that are one and the same -/
theorem eqSlotS (xs : List S81) (hl : xs.length ≤ 9223372036854775807) (k : Nat) (hk : xs.length < k) : laws_eqRecSlotS.f k xs xs = some true := by
  unfold laws_eqRecSlotS.f
  rw [if_pos rfl]
  refine loopInd xs.length (fun k i => laws_eqRecSlotS.l0 k xs xs (i : Int) = some true) ?_ ?_ 0 k (Nat.zero_le _) (by omega)
  · intro k
    simp only [laws_eqRecSlotS.l0]
    rw [if_neg (by omega)]
  · intro k i hi ih
    simp only [laws_eqRecSlotS.l0]
    rw [if_pos (by omega), if_pos (by omega), if_pos (by omega), wrapSucc hi (by omega)]
    unfold laws_eqRecSlot.f
    simp only [if_true, Option.bind_some]
    exact ih

/-! ### what is one and the same -/
theorem eqStrS (xs : List ByteArray) (hl : xs.length ≤ 9223372036854775807) (k : Nat) (hk : xs.length < k) : laws_eqStringS.f k xs xs = some true := by
  unfold laws_eqStringS.f
  rw [if_pos rfl]
  refine loopInd xs.length (fun k i => laws_eqStringS.l0 k xs xs (i : Int) = some true) ?_ ?_ 0 k (Nat.zero_le _) (by omega)
  · intro k
    simp only [laws_eqStringS.l0]
    rw [if_neg (by omega)]
  · intro k i hi ih
    simp only [laws_eqStringS.l0]
    rw [if_pos (by omega), if_pos (by omega), if_pos (by omega), if_pos trivial, wrapSucc hi (by omega)]
    exact ih
theorem eqNumS (xs : List Int) (hl : xs.length ≤ 9223372036854775807) (k : Nat) (hk : xs.length < k) : laws_eqIntS.f k xs xs = some true := by
  unfold laws_eqIntS.f
  rw [if_pos rfl]
  refine loopInd xs.length (fun k i => laws_eqIntS.l0 k xs xs (i : Int) = some true) ?_ ?_ 0 k (Nat.zero_le _) (by omega)
  · intro k
    simp only [laws_eqIntS.l0]
    rw [if_neg (by omega)]
  · intro k i hi ih
    simp only [laws_eqIntS.l0]
    rw [if_pos (by omega), if_pos (by omega), if_pos (by omega), if_pos trivial, wrapSucc hi (by omega)]
    exact ih
theorem eqAckS (xs : List S66) (hl : xs.length ≤ 9223372036854775807) (hx : ∀ x ∈ xs, x.f1.length ≤ 9223372036854775807) : ∃ K, ∀ k, K ≤ k → laws_eqRecAckS.f k xs xs = some true := by
  obtain ⟨K, hK⟩ := uniform (P := fun k (x : S66) => laws_eqRecAck.f k x.f0 x.f1 x.f0 x.f1 = some true) (fun k x h => laws_eqRecAck.mono _ _ _ _ k _ h) xs (fun x hm => ⟨x.f1.length + 1, by
    unfold laws_eqRecAck.f
    rw [eqNumS x.f1 (hx x hm) _ (by omega)]
    simp⟩)
  refine ⟨xs.length + K + 1, fun k hk => ?_⟩
  unfold laws_eqRecAckS.f
  rw [if_pos rfl]
  refine loopIndB xs.length K (fun k i => laws_eqRecAckS.l0 k xs xs (i : Int) = some true) ?_ ?_ 0 k (Nat.zero_le _) (by omega)
  · intro k
    simp only [laws_eqRecAckS.l0]
    rw [if_neg (by omega)]
  · intro k i hi hk ih
    simp only [laws_eqRecAckS.l0]
    rw [if_pos (by omega), if_pos (by omega), if_pos (by omega), wrapSucc hi (by omega)]
    unfold rd_T66
    rw [getDAt hi, hK k hk _ (List.getElem_mem hi)]
    simp only [Option.bind_some, if_true]
    exact ih
theorem eqMsgS (xs : List S54) (hl : xs.length ≤ 9223372036854775807) (hx : ∀ x ∈ xs, x.f7.length ≤ 9223372036854775807) : ∃ K, ∀ k, K ≤ k → laws_eqRecMessageS.f k xs xs = some true := by
  obtain ⟨K, hK⟩ := uniform (P := fun k (x : S54) => laws_eqRecMessage.f k x.f0 x.f1 x.f2 x.f3 x.f4 x.f5 x.f6 x.f7 x.f0 x.f1 x.f2 x.f3 x.f4 x.f5 x.f6 x.f7 = some true) (fun k x h => laws_eqRecMessage.mono _ _ _ _ _ _ _ _ _ _ _ _ _ _ _ _ k _ h) xs (fun x hm => ⟨x.f7.length + 1, by
    unfold laws_eqRecMessage.f
    rw [eqSlotS x.f7 (hx x hm) _ (by omega)]
    simp⟩)
  refine ⟨xs.length + K + 1, fun k hk => ?_⟩
  unfold laws_eqRecMessageS.f
  rw [if_pos rfl]
  refine loopIndB xs.length K (fun k i => laws_eqRecMessageS.l0 k xs xs (i : Int) = some true) ?_ ?_ 0 k (Nat.zero_le _) (by omega)
  · intro k
    simp only [laws_eqRecMessageS.l0]
    rw [if_neg (by omega)]
  · intro k i hi hk ih
    simp only [laws_eqRecMessageS.l0]
    rw [if_pos (by omega), if_pos (by omega), if_pos (by omega), wrapSucc hi (by omega)]
    unfold rd_T54
    rw [getDAt hi, hK k hk _ (List.getElem_mem hi)]
    simp only [Option.bind_some, if_true]
    exact ih
theorem eqDisk (p n : Int) (xs : List S81) (hl : xs.length ≤ 9223372036854775807) : laws_eqRecDisk.f (xs.length + 1) p n xs p n xs = some true := by
  unfold laws_eqRecDisk.f
  rw [eqSlotS xs hl _ (by omega)]
  simp

/-! ### all places from i on -/
def allFrom (q : Nat → Bool) (n i : Nat) : Bool := (List.range' i (n - i)).all q
theorem allFrom_end (q : Nat → Bool) (n : Nat) : allFrom q n n = true := by simp [allFrom]
theorem allFrom_step (q : Nat → Bool) {n i : Nat} (h : i < n) : allFrom q n i = (q i && allFrom q n (i + 1)) := by
  unfold allFrom
  obtain ⟨d, hd⟩ : ∃ d, n - i = d + 1 := ⟨n - i - 1, by omega⟩
  rw [hd, List.range'_succ, List.all_cons, show n - (i + 1) = d from by omega]

/-! ### numbers that rise -/
def numAt (xs : List Int) (o : Int) (i : Nat) : Bool := decide (1 ≤ rd xs (i : Int) ∧ rd xs (i : Int) ≤ o) && (decide (i = 0) || decide (rd xs ((i - 1 : Nat) : Int) < rd xs (i : Int)))
theorem numAt_eq (xs : List Int) (o : Int) (i : Nat) : numAt xs o i = (decide (1 ≤ rd xs (i : Int) ∧ rd xs (i : Int) ≤ o) && (decide (i = 0) || decide (rd xs ((i - 1 : Nat) : Int) < rd xs (i : Int)))) := rfl
def numsB (xs : List Int) (o : Int) : Bool := allFrom (numAt xs o) xs.length 0
theorem wrapPred {i n : Nat} (h0 : i ≠ 0) (h : i < n) (hn : n ≤ 9223372036854775807) : wrap64 ((i : Int) - 1) = ((i - 1 : Nat) : Int) := by unfold wrap64; omega
theorem specNumbers (xs : List Int) (o : Int) (hl : xs.length ≤ 9223372036854775807) (k : Nat) (hk : xs.length < k) : spec_l2Numbers.f k xs o = some (numsB xs o) := by
  unfold spec_l2Numbers.f numsB
  refine loopInd xs.length (fun k i => spec_l2Numbers.l0 k xs o (i : Int) = some (allFrom (numAt xs o) xs.length i)) ?_ ?_ 0 k (Nat.zero_le _) (by omega)
  · intro k
    simp only [spec_l2Numbers.l0]
    rw [if_neg (by omega), allFrom_end]
  · intro k i hi ih
    simp only [spec_l2Numbers.l0]
    rw [if_pos (by omega), if_pos (by omega), wrapSucc hi hl, ih, l1In, allFrom_step _ hi]
    simp only [Option.bind_some]
    rw [numAt_eq]
    by_cases c1 : 1 ≤ rd xs (i : Int) ∧ rd xs (i : Int) ≤ o
    · rw [if_pos (decide_eq_true c1)]
      rw [decide_eq_true c1]
      by_cases c2 : i = 0
      · rw [if_neg (by omega)]; simp [c2]
      · rw [if_pos (by omega), wrapPred c2 hi hl, if_pos (by omega), if_pos (by omega)]
        by_cases c3 : rd xs ((i - 1 : Nat) : Int) < rd xs (i : Int)
        · rw [if_neg (by omega)]; simp only [decide_eq_true c3, Bool.or_true, Bool.true_and]
        · rw [if_pos (by omega)]; simp only [decide_eq_false c3, decide_eq_false c2, Bool.or_self, Bool.and_false, Bool.false_and]
    · rw [if_neg (by simpa using c1), decide_eq_false c1]; simp only [Bool.false_and]
theorem implPeople (xs : List Int) (o : Int) (hl : xs.length ≤ 9223372036854775807) (k : Nat) (hk : xs.length < k) : impl_people.f k xs o = some (numsB xs o) := by
  unfold impl_people.f numsB
  refine loopInd xs.length (fun k i => impl_people.l0 k xs o xs (xs.length : Int) (i : Int) = some (allFrom (numAt xs o) xs.length i)) ?_ ?_ 0 k (Nat.zero_le _) (by omega)
  · intro k
    simp only [impl_people.l0]
    rw [if_neg (by omega), allFrom_end]
  · intro k i hi ih
    simp only [impl_people.l0]
    rw [if_pos (by omega), if_pos (by omega), if_pos (by omega), wrapSucc hi hl, ih, within, allFrom_step _ hi]
    simp only [Option.bind_some]
    rw [numAt_eq]
    by_cases c1 : 1 ≤ rd xs (i : Int) ∧ rd xs (i : Int) ≤ o
    · rw [if_pos (decide_eq_true c1)]
      rw [decide_eq_true c1]
      by_cases c2 : i = 0
      · rw [if_neg (by omega)]; simp [c2]
      · rw [if_pos (by omega), wrapPred c2 hi hl, if_pos (by omega), if_pos (by omega)]
        by_cases c3 : rd xs ((i - 1 : Nat) : Int) < rd xs (i : Int)
        · rw [if_neg (by omega)]; simp only [decide_eq_true c3, Bool.or_true, Bool.true_and]
        · rw [if_pos (by omega)]; simp only [decide_eq_false c3, decide_eq_false c2, Bool.or_self, Bool.and_false, Bool.false_and]
    · rw [if_neg (by simpa using c1), decide_eq_false c1]; simp only [Bool.false_and]

/-! ### acks that rise -/
def ackAt (xs : List S66) (o : Int) (i : Nat) : Bool := decide (1 ≤ (rd_T66 xs i).f0 ∧ (rd_T66 xs i).f0 ≤ 60) && (numsB (rd_T66 xs i).f1 o && (decide (i = 0) || decide ((rd_T66 xs ((i - 1 : Nat) : Int)).f0 < (rd_T66 xs i).f0)))
theorem ackAt_eq (xs : List S66) (o : Int) (i : Nat) : ackAt xs o i = (decide (1 ≤ (rd_T66 xs i).f0 ∧ (rd_T66 xs i).f0 ≤ 60) && (numsB (rd_T66 xs i).f1 o && (decide (i = 0) || decide ((rd_T66 xs ((i - 1 : Nat) : Int)).f0 < (rd_T66 xs i).f0)))) := rfl
def acksB (xs : List S66) (o : Int) : Bool := allFrom (ackAt xs o) xs.length 0
theorem specAcks (xs : List S66) (o : Int) (hl : xs.length ≤ 9223372036854775807) (B : Nat) (hB : ∀ i : Nat, i < xs.length → (rd_T66 xs i).f1.length < B ∧ (rd_T66 xs i).f1.length ≤ 9223372036854775807) (k : Nat) (hk : xs.length + B < k) : spec_l2AcksOk.f k xs o = some (acksB xs o) := by
  unfold spec_l2AcksOk.f acksB
  refine loopIndB xs.length B (fun k i => spec_l2AcksOk.l0 k xs o (i : Int) = some (allFrom (ackAt xs o) xs.length i)) ?_ ?_ 0 k (Nat.zero_le _) (by omega)
  · intro k
    simp only [spec_l2AcksOk.l0]
    rw [if_neg (by omega), allFrom_end]
  · intro k i hi hBk ih
    simp only [spec_l2AcksOk.l0]
    rw [if_pos (by omega), if_pos (by omega), wrapSucc hi hl, ih, l1In, specNumbers _ _ (hB i hi).2 _ (by have := (hB i hi).1; omega), allFrom_step _ hi]
    simp only [Option.bind_some]
    rw [ackAt_eq]
    by_cases c1 : 1 ≤ (rd_T66 xs i).f0 ∧ (rd_T66 xs i).f0 ≤ 60
    · rw [if_pos (decide_eq_true c1)]
      rw [decide_eq_true c1]
      cases hc : numsB (rd_T66 xs i).f1 o with
      | false => rw [if_neg (by simp)]; simp only [Bool.false_and, Bool.and_false]
      | true =>
        rw [if_pos rfl]
        by_cases c2 : i = 0
        · rw [if_neg (by omega)]; simp [c2]
        · rw [if_pos (by omega), wrapPred c2 hi hl, if_pos (by omega), if_pos (by omega)]
          by_cases c3 : (rd_T66 xs ((i - 1 : Nat) : Int)).f0 < (rd_T66 xs i).f0
          · rw [if_neg (by omega)]; simp only [decide_eq_true c3, Bool.or_true, Bool.true_and]
          · rw [if_pos (by omega)]; simp only [decide_eq_false c3, decide_eq_false c2, Bool.or_self, Bool.and_false, Bool.false_and]
    · rw [if_neg (by simpa using c1), decide_eq_false c1]; simp only [Bool.false_and]

/-! ### wishes, each one once -/
def newAt (xs : List ByteArray) (i : Nat) : Bool := allFrom (fun j => !decide ((rdOf ByteArray.empty xs (j : Int)).toList = (rdOf ByteArray.empty xs (i : Int)).toList)) i 0
def wishAt (xs : List ByteArray) (i : Nat) : Bool := decide (1 ≤ ((rdOf ByteArray.empty xs (i : Int)).size : Int) ∧ ((rdOf ByteArray.empty xs (i : Int)).size : Int) ≤ 100) && newAt xs i
theorem wishAt_eq (xs : List ByteArray) (i : Nat) : wishAt xs i = (decide (1 ≤ ((rdOf ByteArray.empty xs (i : Int)).size : Int) ∧ ((rdOf ByteArray.empty xs (i : Int)).size : Int) ≤ 100) && newAt xs i) := rfl
def wishesB (xs : List ByteArray) : Bool := decide (xs.length ≤ 20) && allFrom (wishAt xs) xs.length 0
theorem specWishes (xs : List ByteArray) (k : Nat) (hk : 25 * xs.length < k) : spec_l2WishesOk.f k xs = some (wishesB xs) := by
  unfold spec_l2WishesOk.f wishesB
  by_cases hl : xs.length ≤ 20
  · rw [if_neg (by omega), decide_eq_true hl, Bool.true_and]
    have key : ∀ d i k, i + d = xs.length → 25 * d < k → spec_l2WishesOk.l0 k xs (i : Int) = some (allFrom (wishAt xs) xs.length i) := by
      intro d
      induction d with
      | zero =>
        intro i k hd hk
        obtain ⟨k, rfl⟩ : ∃ m, k = m + 1 := ⟨k - 1, by omega⟩
        have e : i = xs.length := by omega
        subst e
        simp only [spec_l2WishesOk.l0]
        rw [if_neg (by omega), allFrom_end]
      | succ d ihd =>
        intro i k hd hk
        obtain ⟨k, rfl⟩ : ∃ m, k = m + 2 := ⟨k - 2, by omega⟩
        have hi : i < xs.length := by omega
        have inner : ∀ e j k, j + e = i → 25 * d + e + 1 < k → spec_l2WishesOk.l1 k xs (i : Int) (j : Int) = some (allFrom (fun j => !decide ((rdOf ByteArray.empty xs (j : Int)).toList = (rdOf ByteArray.empty xs (i : Int)).toList)) i j && allFrom (wishAt xs) xs.length (i + 1)) := by
          intro e
          induction e with
          | zero =>
            intro j k hj hk
            obtain ⟨k, rfl⟩ : ∃ m, k = m + 1 := ⟨k - 1, by omega⟩
            have e : j = i := by omega
            subst e
            simp only [spec_l2WishesOk.l1]
            rw [if_neg (by omega), allFrom_end, Bool.true_and, wrapSucc hi (by omega), ihd (j + 1) k (by omega) (by omega)]
          | succ e ihe =>
            intro j k hj hk
            obtain ⟨k, rfl⟩ : ∃ m, k = m + 1 := ⟨k - 1, by omega⟩
            have hji : j < i := by omega
            simp only [spec_l2WishesOk.l1]
            rw [if_pos (by omega), if_pos (by omega), if_pos (by omega), if_pos (by omega), if_pos (by omega), wrapSucc hji (by omega), ihe (j + 1) k (by omega) (by omega), allFrom_step _ hji]
            by_cases c : (rdOf ByteArray.empty xs (j : Int)).toList = (rdOf ByteArray.empty xs (i : Int)).toList
            · rw [if_pos c]; simp only [decide_eq_true c, Bool.not_true, Bool.false_and]
            · rw [if_neg c]; simp only [decide_eq_false c, Bool.not_false, Bool.true_and]
        have h := inner i 0 k (by omega) (by omega)
        simp only [spec_l2WishesOk.l0, spec_l2WishesOk.j1]
        rw [if_pos (by omega), if_pos (by omega), allFrom_step _ hi]
        rw [show spec_l2WishesOk.l1 k xs (i : Int) 0 = some (newAt xs i && allFrom (wishAt xs) xs.length (i + 1)) from h]
        rw [wishAt_eq]
        by_cases c1 : ((rdOf ByteArray.empty xs (i : Int)).size : Int) < 1
        · rw [if_pos c1, if_pos trivial, decide_eq_false (by omega)]; simp only [Bool.false_and]
        · rw [if_neg c1]
          by_cases c2 : ((rdOf ByteArray.empty xs (i : Int)).size : Int) > 100
          · rw [if_pos (decide_eq_true c2), decide_eq_false (by omega)]; simp only [Bool.false_and]
          · rw [if_neg (by simpa using c2), decide_eq_true (by omega)]; simp only [Bool.true_and]
    exact key xs.length 0 k (by omega) hk
  · rw [if_pos (by omega), decide_eq_false hl, Bool.false_and]
theorem contains (xs : List ByteArray) (i : Nat) (hi : i < xs.length) (hl : xs.length ≤ 9223372036854775807) (k : Nat) (hk : i < k) : slices_Contains_string_string.f k (xs.take i) (rdOf ByteArray.empty xs (i : Int)) = some (!newAt xs i) := by
  unfold slices_Contains_string_string.f slices_Index_string_string.f newAt
  have hlen : (xs.take i).length = i := by rw [List.length_take]; omega
  rw [hlen]
  have key : ∃ r : Int, slices_Index_string_string.l0 k (xs.take i) (rdOf ByteArray.empty xs (i : Int)) (i : Int) ((0 : Nat) : Int) = some r ∧ decide (r ≥ 0) = !(allFrom (fun j => !decide ((rdOf ByteArray.empty xs (j : Int)).toList = (rdOf ByteArray.empty xs (i : Int)).toList)) i 0) := by
    refine loopInd i (fun k j => ∃ r : Int, slices_Index_string_string.l0 k (xs.take i) (rdOf ByteArray.empty xs (i : Int)) (i : Int) (j : Int) = some r ∧ decide (r ≥ 0) = !(allFrom (fun j => !decide ((rdOf ByteArray.empty xs (j : Int)).toList = (rdOf ByteArray.empty xs (i : Int)).toList)) i j)) ?_ ?_ 0 k (Nat.zero_le _) (by omega)
    · intro k
      refine ⟨-1, ?_, ?_⟩
      · simp only [slices_Index_string_string.l0]; rw [if_neg (by omega)]
      · rw [allFrom_end]; rfl
    · intro k j hj ⟨r, hr, hd⟩
      have e : rdOf ByteArray.empty (xs.take i) (j : Int) = rdOf ByteArray.empty xs (j : Int) := by
        unfold rdOf
        rw [getDAt (by omega), getDAt (by omega), List.getElem_take]
      simp only [slices_Index_string_string.l0]
      rw [if_pos (by omega), if_pos (by omega), if_pos (by omega), wrapSucc hj (by omega), hr, e, allFrom_step _ hj]
      by_cases c : (rdOf ByteArray.empty xs (j : Int)).toList = (rdOf ByteArray.empty xs (i : Int)).toList
      · refine ⟨(j : Int), by rw [if_pos c.symm], ?_⟩
        rw [decide_eq_true c, decide_eq_true (by omega)]; rfl
      · refine ⟨r, by rw [if_neg (fun h => c h.symm)], ?_⟩
        rw [decide_eq_false c, hd]; simp only [Bool.not_false, Bool.true_and]
  obtain ⟨r, hr, hd⟩ := key
  rw [show slices_Index_string_string.l0 k (xs.take i) (rdOf ByteArray.empty xs (i : Int)) (i : Int) 0 = some r from hr]
  simp only [Option.bind_some, hd]

/-! ### sizes of a recorder's parts -/
theorem szStr (xs : List ByteArray) (a : Int) (h0 : 0 ≤ a) (ha : a ≤ 1048576) (hl : xs.length ≤ maxLen) (hs : ∀ x ∈ xs, x.size ≤ maxLen) (k : Nat) (hk : xs.length < k) :
    ∃ r, laws_szStringS.f k xs a = some r ∧ r ≤ a ∧ -1 ≤ r ∧ (0 ≤ r → (xs.length : Int) ≤ a) := by
  have hl' : xs.length ≤ 9223372036854775807 := by unfold maxLen at hl; omega
  unfold laws_szStringS.f
  rw [wrapIn (by omega) (by omega)]
  by_cases h : a - (xs.length : Int) < 0
  · rw [if_pos h]; exact ⟨_, rfl, by omega, by omega, fun _ => by omega⟩
  · rw [if_neg h]
    have hsm : xs.length ≤ 1048576 := by omega
    have key := loopInd xs.length (fun k i => ∀ b : Int, 0 ≤ b → b ≤ a - xs.length → ∃ r, laws_szStringS.l0 k xs b (i : Int) = some r ∧ r ≤ b ∧ -1 ≤ r) ?_ ?_ 0 k (Nat.zero_le _) (by omega) (a - xs.length) (by omega) (by omega)
    · obtain ⟨r, h1, h2, h3⟩ := key
      exact ⟨r, h1, by omega, h3, fun _ => by omega⟩
    · intro k b hb _
      refine ⟨b, ?_, by omega, by omega⟩
      simp only [laws_szStringS.l0]
      rw [if_neg (by omega)]
    · intro k i hi ih b hb hba
      simp only [laws_szStringS.l0]
      have hx : xs[i].size ≤ 9223372036854775807 := by have := hs _ (List.getElem_mem hi); unfold maxLen at this; omega
      rw [if_pos (by omega), if_pos (by omega), wrapSucc hi (by omega)]
      unfold rdOf
      rw [getDAt hi, wrapIn (by omega) (by omega)]
      by_cases hneg : b - (xs[i].size : Int) < 0
      · rw [if_pos hneg]; exact ⟨_, rfl, by omega, by omega⟩
      · rw [if_neg hneg]
        obtain ⟨r, h1, h2, h3⟩ := ih (b - (xs[i].size : Int)) (by omega) (by omega)
        exact ⟨r, h1, by omega, h3⟩
theorem szNum (xs : List Int) (a : Int) (h0 : 0 ≤ a) (ha : a ≤ 1048576) (hl : xs.length ≤ maxLen) :
    ∃ r, laws_szIntS.f xs a = some r ∧ r ≤ a ∧ -1 ≤ r ∧ (0 ≤ r → (xs.length : Int) ≤ a) := by
  have hl' : xs.length ≤ 9223372036854775807 := by unfold maxLen at hl; omega
  unfold laws_szIntS.f
  rw [wrapIn (by omega) (by omega)]
  by_cases h : a - (xs.length : Int) < 0
  · rw [if_pos h]; exact ⟨_, rfl, by omega, by omega, fun _ => by omega⟩
  · rw [if_neg h]; exact ⟨_, rfl, by omega, by omega, fun _ => by omega⟩
theorem szMsgS (xs : List S75) (a : Int) (h0 : 0 ≤ a) (ha : a ≤ 1048576) (hl : xs.length ≤ maxLen) (hm : ∀ x ∈ xs, x.f6.size ≤ maxLen ∧ x.f7.length ≤ maxLen ∧ ∀ y ∈ x.f7, y.f1.size ≤ maxLen) (k : Nat) (hk : xs.length + 9223372036854775808 < k) :
    ∃ r, laws_szRecMessageS.f k xs a = some r ∧ r ≤ a ∧ -1 ≤ r ∧ (0 ≤ r → (xs.length : Int) ≤ a ∧ ∀ x ∈ xs, (x.f7.length : Int) ≤ a) := by
  have hl' : xs.length ≤ 9223372036854775807 := by unfold maxLen at hl; omega
  unfold laws_szRecMessageS.f
  rw [wrapIn (by omega) (by omega)]
  by_cases h : a - (xs.length : Int) < 0
  · rw [if_pos h]; exact ⟨_, rfl, by omega, by omega, fun h => by omega⟩
  · rw [if_neg h]
    have hsm : xs.length ≤ 1048576 := by omega
    have key := loopIndB xs.length 9223372036854775808 (fun k i => ∀ b : Int, 0 ≤ b → b ≤ a - xs.length → ∃ r, laws_szRecMessageS.l0 k xs b (i : Int) = some r ∧ r ≤ b ∧ -1 ≤ r ∧ (0 ≤ r → ∀ (j : Nat) (hj : j < xs.length), i ≤ j → (xs[j].f7.length : Int) ≤ a)) ?_ ?_ 0 k (Nat.zero_le _) (by omega) (a - xs.length) (by omega) (by omega)
    · obtain ⟨r, h1, h2, h3, h4⟩ := key
      refine ⟨r, h1, by omega, h3, fun hr => ⟨by omega, fun x hx => ?_⟩⟩
      obtain ⟨j, hj, rfl⟩ := List.getElem_of_mem hx
      exact h4 hr j hj (Nat.zero_le _)
    · intro k b hb _
      refine ⟨b, ?_, by omega, by omega, fun _ j hj hij => by omega⟩
      simp only [laws_szRecMessageS.l0]
      rw [if_neg (by omega)]
    · intro k i hi hB ih b hb hba
      simp only [laws_szRecMessageS.l0]
      rw [if_pos (by omega), if_pos (by omega), wrapSucc hi (by omega)]
      unfold rd_T75
      rw [getDAt hi]
      obtain ⟨m1, m2, m3⟩ := hm _ (List.getElem_mem hi)
      obtain ⟨t, ht, hta, htm, htl⟩ := szMsg xs[i].f0 xs[i].f1 xs[i].f2 xs[i].f3 xs[i].f4 xs[i].f5 xs[i].f6 xs[i].f7 b hb (by omega) m1 m2 m3 k (by unfold maxLen at m2; omega)
      rw [ht]
      simp only [Option.bind_some]
      by_cases hneg : t < 0
      · rw [if_pos hneg]; exact ⟨_, rfl, by omega, by omega, fun h => by omega⟩
      · rw [if_neg hneg]
        obtain ⟨r, h1, h2, h3, h4⟩ := ih t (by omega) (by omega)
        refine ⟨r, h1, by omega, h3, fun hr j hj hij => ?_⟩
        by_cases e : i = j
        · subst e; have := htl (by omega); omega
        · exact h4 hr j hj (by omega)
theorem szAckS (xs : List S80) (a : Int) (h0 : 0 ≤ a) (ha : a ≤ 1048576) (hl : xs.length ≤ maxLen) (hm : ∀ x ∈ xs, x.f1.length ≤ maxLen) (k : Nat) (hk : xs.length < k) :
    ∃ r, laws_szRecAckS.f k xs a = some r ∧ r ≤ a ∧ -1 ≤ r ∧ (0 ≤ r → (xs.length : Int) ≤ a ∧ ∀ x ∈ xs, (x.f1.length : Int) ≤ a) := by
  have hl' : xs.length ≤ 9223372036854775807 := by unfold maxLen at hl; omega
  unfold laws_szRecAckS.f
  rw [wrapIn (by omega) (by omega)]
  by_cases h : a - (xs.length : Int) < 0
  · rw [if_pos h]; exact ⟨_, rfl, by omega, by omega, fun h => by omega⟩
  · rw [if_neg h]
    have hsm : xs.length ≤ 1048576 := by omega
    have key := loopInd xs.length (fun k i => ∀ b : Int, 0 ≤ b → b ≤ a - xs.length → ∃ r, laws_szRecAckS.l0 k xs b (i : Int) = some r ∧ r ≤ b ∧ -1 ≤ r ∧ (0 ≤ r → ∀ (j : Nat) (hj : j < xs.length), i ≤ j → (xs[j].f1.length : Int) ≤ a)) ?_ ?_ 0 k (Nat.zero_le _) (by omega) (a - xs.length) (by omega) (by omega)
    · obtain ⟨r, h1, h2, h3, h4⟩ := key
      refine ⟨r, h1, by omega, h3, fun hr => ⟨by omega, fun x hx => ?_⟩⟩
      obtain ⟨j, hj, rfl⟩ := List.getElem_of_mem hx
      exact h4 hr j hj (Nat.zero_le _)
    · intro k b hb _
      refine ⟨b, ?_, by omega, by omega, fun _ j hj hij => by omega⟩
      simp only [laws_szRecAckS.l0]
      rw [if_neg (by omega)]
    · intro k i hi ih b hb hba
      simp only [laws_szRecAckS.l0]
      rw [if_pos (by omega), if_pos (by omega), wrapSucc hi (by omega)]
      unfold rd_T80 laws_szRecAck.f
      rw [getDAt hi]
      obtain ⟨t, ht, hta, htm, htl⟩ := szNum xs[i].f1 b hb (by omega) (hm _ (List.getElem_mem hi))
      rw [ht]
      simp only [Option.bind_some]
      by_cases hneg : t < 0
      · rw [if_pos hneg]; simp only [Option.bind_some]; rw [if_pos (by omega)]; exact ⟨_, rfl, by omega, by omega, fun h => by omega⟩
      · rw [if_neg hneg]; simp only [Option.bind_some]; rw [if_neg hneg]
        obtain ⟨r, h1, h2, h3, h4⟩ := ih t (by omega) (by omega)
        refine ⟨r, h1, by omega, h3, fun hr j hj hij => ?_⟩
        by_cases e : i = j
        · subst e; have := htl (by omega); omega
        · exact h4 hr j hj (by omega)

/-! ### mirrors of a recorder's parts -/
theorem toStr (xs : List ByteArray) (hl : xs.length ≤ 1048576) (k : Nat) (hk : xs.length < k) : laws_toStringS.f k xs = some xs := by
  unfold laws_toStringS.f
  rw [if_pos (by omega), if_pos (by rw [Int.toNat_natCast]; omega), Int.toNat_natCast]
  have key := loopInd xs.length (fun k i => laws_toStringS.l0 k xs (fill xs (⟨#[]⟩ : ByteArray) i) (i : Int) = some xs) ?_ ?_ 0 k (Nat.zero_le _) (by omega)
  · rw [fill_zero] at key
    exact key
  · intro k
    simp only [laws_toStringS.l0]
    rw [if_neg (by omega), fill_all]
  · intro k i hi ih
    simp only [laws_toStringS.l0]
    have hfl := fill_length xs (⟨#[]⟩ : ByteArray) i (by omega)
    rw [if_pos (by omega), if_pos (by omega), wrapSucc hi (by omega)]
    unfold rdOf
    rw [getDAt hi, if_pos (by rw [hfl]; omega), Int.toNat_natCast, fill_set _ _ _ hi]
    exact ih
theorem toNum (xs : List Int) (hl : xs.length ≤ 1048576) (k : Nat) (hk : xs.length < k) : laws_toIntS.f k xs = some xs := by
  unfold laws_toIntS.f
  rw [if_pos (by omega), if_pos (by rw [Int.toNat_natCast]; omega), Int.toNat_natCast]
  have key := loopInd xs.length (fun k i => laws_toIntS.l0 k xs (fill xs 0 i) (i : Int) = some xs) ?_ ?_ 0 k (Nat.zero_le _) (by omega)
  · rw [fill_zero] at key
    exact key
  · intro k
    simp only [laws_toIntS.l0]
    rw [if_neg (by omega), fill_all]
  · intro k i hi ih
    simp only [laws_toIntS.l0]
    have hfl := fill_length xs 0 i (by omega)
    rw [if_pos (by omega), if_pos (by omega), wrapSucc hi (by omega)]
    unfold rd
    rw [getDAt hi, if_pos (by rw [hfl]; omega), Int.toNat_natCast, fill_set _ _ _ hi]
    exact ih
def mMsg (x : S75) : S54 := ⟨x.f0, x.f1, x.f2, x.f3, x.f4, x.f5, x.f6, x.f7.map mSlot⟩
def mAck (x : S80) : S66 := ⟨x.f0, x.f1⟩
theorem toMsgS (xs : List S75) (hl : xs.length ≤ 1048576) (hm : ∀ x ∈ xs, x.f7.length ≤ 1048576) (k : Nat) (hk : xs.length + 1048577 < k) : laws_toRecMessageS.f k xs = some (xs.map mMsg) := by
  unfold laws_toRecMessageS.f
  rw [if_pos (by omega), if_pos (by rw [Int.toNat_natCast]; omega), Int.toNat_natCast]
  have key := loopIndB xs.length 1048577 (fun k i => laws_toRecMessageS.l0 k xs (fill (xs.map mMsg) z54 i) (i : Int) = some (xs.map mMsg)) ?_ ?_ 0 k (Nat.zero_le _) (by omega)
  · rw [fill_zero, List.length_map] at key
    exact key
  · intro k
    simp only [laws_toRecMessageS.l0]
    rw [if_neg (by omega)]
    have := fill_all (xs.map mMsg) z54
    rw [List.length_map] at this
    rw [this]
  · intro k i hi hB ih
    simp only [laws_toRecMessageS.l0]
    have hfl := fill_length (xs.map mMsg) z54 i (by rw [List.length_map]; omega)
    rw [List.length_map] at hfl
    rw [if_pos (by omega), if_pos (by omega), wrapSucc hi (by omega)]
    unfold laws_toRecMessage.f rd_T75
    rw [getDAt hi]
    have hx := hm _ (List.getElem_mem hi)
    rw [toSlotS _ hx k (by omega)]
    simp only [Option.bind_some]
    rw [if_pos (by rw [hfl]; omega), Int.toNat_natCast]
    have hs := fill_set (xs.map mMsg) z54 i (by rw [List.length_map]; omega)
    rw [List.getElem_map] at hs
    rw [show (⟨xs[i].f0, xs[i].f1, xs[i].f2, xs[i].f3, xs[i].f4, xs[i].f5, xs[i].f6, xs[i].f7.map mSlot⟩ : S54) = mMsg xs[i] from rfl, hs]
    exact ih
theorem toAckS (xs : List S80) (hl : xs.length ≤ 1048576) (hm : ∀ x ∈ xs, x.f1.length ≤ 1048576) (k : Nat) (hk : xs.length + 1048577 < k) : laws_toRecAckS.f k xs = some (xs.map mAck) := by
  unfold laws_toRecAckS.f
  rw [if_pos (by omega), if_pos (by rw [Int.toNat_natCast]; omega), Int.toNat_natCast]
  have key := loopIndB xs.length 1048577 (fun k i => laws_toRecAckS.l0 k xs (fill (xs.map mAck) z66 i) (i : Int) = some (xs.map mAck)) ?_ ?_ 0 k (Nat.zero_le _) (by omega)
  · rw [fill_zero, List.length_map] at key
    exact key
  · intro k
    simp only [laws_toRecAckS.l0]
    rw [if_neg (by omega)]
    have := fill_all (xs.map mAck) z66
    rw [List.length_map] at this
    rw [this]
  · intro k i hi hB ih
    simp only [laws_toRecAckS.l0]
    have hfl := fill_length (xs.map mAck) z66 i (by rw [List.length_map]; omega)
    rw [List.length_map] at hfl
    rw [if_pos (by omega), if_pos (by omega), wrapSucc hi (by omega)]
    unfold laws_toRecAck.f rd_T80
    rw [getDAt hi]
    have hx := hm _ (List.getElem_mem hi)
    rw [toNum _ hx k (by omega)]
    simp only [Option.bind_some]
    rw [if_pos (by rw [hfl]; omega), Int.toNat_natCast]
    have hs := fill_set (xs.map mAck) z66 i (by rw [List.length_map]; omega)
    rw [List.getElem_map] at hs
    rw [show (⟨xs[i].f0, xs[i].f1⟩ : S66) = mAck xs[i] from rfl, hs]
    exact ih

abbrev QC (w : World) (f : Nat) (args : Array Value) (c : Bool) : Prop := ∀ W, Below w.heap.size w W → Calls Try.prog f args W fun e w' => e = .returned (.bool c) ∧ Below W.heap.size W w'
abbrev MC (w : World) (f : Nat) (o : Int) (q : S54 → Bool) : Prop := ∀ (x : S54) (A : Option Addr) (c : Nat) (W : World), Below w.heap.size w W → Kd.C k81 W A x.f7.length x.f7 → x.f7.length ≤ c → Calls Try.prog f #[.agg #[.int .i64 x.f0, .int .i64 x.f1, .int .i64 x.f2, .int .i64 x.f3, .int .i64 x.f4, .int .i64 x.f5, .string x.f6, .slice A x.f7.length c], .int .i64 o] W fun e w' => e = .returned (.bool (q x)) ∧ Below W.heap.size W w'
theorem allFrom_at (q : Nat → Bool) (n : Nat) (i : Int) (h0 : 0 ≤ i) (h1 : i < n) (hn : n ≤ 9223372036854775807) : allFrom q n i.toNat = (q i.toNat && allFrom q n (wrap64 (i + 1)).toNat) := by
  have e : (wrap64 (i + 1)).toNat = i.toNat + 1 := by rw [wrapIn (by omega) (by omega)]; omega
  rw [e, ← allFrom_step q (by omega)]
theorem recFactsH {W : World} {g : Nat} {t : TypeId} {a0 a1 a2 a3 a4 a5 a6 a7 a8 a9 a10 a11 a12 a13 a14 a15 a16 a17 : Value} (h : W.heap[g]? = some (.cells #[a0, a1, a2, a3, a4, a5, a6, a7, a8, a9, a10, a11, a12, a13, a14, a15, a16, a17] t (0, 0))) :
    W.cell? ⟨g, 0, none⟩ = some a0 ∧ W.cell? ⟨g, 1, none⟩ = some a1 ∧ W.cell? ⟨g, 3, none⟩ = some a3 ∧ W.cell? ⟨g, 4, none⟩ = some a4 ∧ W.cell? ⟨g, 5, none⟩ = some a5 ∧ W.cell? ⟨g, 6, none⟩ = some a6 ∧ W.cell? ⟨g, 7, none⟩ = some a7 ∧ W.cell? ⟨g, 8, none⟩ = some a8 ∧ W.cell? ⟨g, 9, none⟩ = some a9 ∧ W.cell? ⟨g, 10, none⟩ = some a10 ∧ W.cell? ⟨g, 14, none⟩ = some a14 ∧ W.cell? ⟨g, 15, none⟩ = some a15 ∧ W.cell? ⟨g, 17, none⟩ = some a17 :=
  have r := blk_cell h
  ⟨r 0, r 1, r 3, r 4, r 5, r 6, r 7, r 8, r 9, r 10, r 14, r 15, r 17⟩
theorem recFacts {W : World} {g : Nat} {t : TypeId} {a0 a1 a2 a3 a4 a5 a6 a7 a8 a9 a10 a11 a12 a13 a14 a15 a16 a17 : Value} (h : W.heap[g]? = some (.cells #[a0, a1, a2, a3, a4, a5, a6, a7, a8, a9, a10, a11, a12, a13, a14, a15, a16, a17] t (0, 0))) :
    W.cell? ⟨g, 1, none⟩ = some a1 ∧ W.cell? ⟨g, 2, none⟩ = some a2 ∧ W.cell? ⟨g, 6, none⟩ = some a6 ∧ W.cell? ⟨g, 9, none⟩ = some a9 ∧ W.cell? ⟨g, 10, none⟩ = some a10 ∧ W.cell? ⟨g, 11, none⟩ = some a11 ∧ W.cell? ⟨g, 12, none⟩ = some a12 ∧ W.cell? ⟨g, 13, none⟩ = some a13 ∧ W.cell? ⟨g, 14, none⟩ = some a14 ∧ W.cell? ⟨g, 15, none⟩ = some a15 ∧ W.cell? ⟨g, 16, none⟩ = some a16 ∧ W.cell? ⟨g, 17, none⟩ = some a17 :=
  have r := blk_cell h
  ⟨r 1, r 2, r 6, r 9, r 10, r 11, r 12, r 13, r 14, r 15, r 16, r 17⟩
theorem loopTrue {V R : Bool} {p : Nat → Bool} {n : Nat} {i : Int} (h : V = (allFrom p n i.toNat && R)) (h0 : 0 ≤ i) (h1 : i < n) (hn : n ≤ 9223372036854775807) (hx : p i.toNat = true) : V = (allFrom p n (wrap64 (i + 1)).toNat && R) := by
  rw [h, allFrom_at p n i h0 h1 hn, hx, Bool.true_and]
theorem loopFalse {V R : Bool} {p : Nat → Bool} {n : Nat} {i : Int} (h : V = (allFrom p n i.toNat && R)) (h0 : 0 ≤ i) (h1 : i < n) (hn : n ≤ 9223372036854775807) (hx : p i.toNat = false) : V = false := by
  rw [h, allFrom_at p n i h0 h1 hn, hx, Bool.false_and, Bool.false_and]
def specTail (r1 r2 r3 L T k8 kA kY kq b2 kS : Bool) : Bool := r1 && r2 && r3 && !(L && T) && (bif L || T then k8 && !(T && kA) && !(L && kY) else kq) && (b2 || kq && kS)

/-- A slice's value that reads as a list. -/
def Sl {α : Type} (e : Nat) (d : Kd α) (w : World) (x : List α) (v : Value) : Prop := ∃ A c, v = .slice A x.length c ∧ x.length ≤ c ∧ d.C w A x.length x
theorem Sl.below {α : Type} {e : Nat} {d : Kd α} {w w1 : World} {x : List α} {v : Value} (h : Sl e d w x v) (hb : Below w.heap.size w w1) : Sl e d w1 x v := by
  obtain ⟨A, c, h1, h2, h3⟩ := h
  exact ⟨A, c, h1, h2, Kd.C_below h3 hb⟩
theorem Sl.of_R {α : Type} {e : Nat} {d : Kd α} {w : World} {base : Nat} {ok : Nat → Prop} {x : List α} {v : Value} (h : d.R e w base ok v x) : Sl e d w x v := Kd.R_reads h
end Go.Proofs.Ytaempjkefpbinaa.QFnExactRecValid
