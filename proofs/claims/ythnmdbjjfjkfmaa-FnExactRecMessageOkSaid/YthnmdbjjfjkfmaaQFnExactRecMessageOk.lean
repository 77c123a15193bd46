/- RecMessageOk of the program and of the reference answer alike at every message (plain side). -/
import Derived.Test.YthnmdbjjfjkfmaaPFnExactRecMessageOkx
import Derived.Test.YthnmdbjjfjkfmaaOpen
import Derived.Test.YthnmdbjjfjkfmaaPb
namespace Go.Proofs.Ythnmdbjjfjkfmaa.QFnExactRecMessageOk
open Go.RowKit Go.Proofs.Ythnmdbjjfjkfmaa.PFnExactRecMessageOk Go.Proofs.YthnmdbjjfjkfmaaW.PrintWords Go.Proofs.YthnmdbjjfjkfmaaW.PrintLast Go.Proofs.Ythnmdbjjfjkfmaa.Pb Go.Proofs.Ythnmdbjjfjkfmaa.Op
set_option linter.unusedSimpArgs false
set_option linter.unusedVariables false

theorem l1In (a b c : Int) : spec_l1In.f a b c = some (decide (b ≤ a ∧ a ≤ c)) := by
  unfold spec_l1In.f
  by_cases h : a ≥ b
  · rw [if_pos h]; simp only [ge_iff_le] at h; simp [h]
  · rw [if_neg h]; simp only [ge_iff_le] at h; simp [h]
theorem within (a b c : Int) : impl_within.f a b c = some (decide (b ≤ a ∧ a ≤ c)) := by
  unfold impl_within.f
  by_cases h : a ≥ b
  · rw [if_pos h]; simp only [ge_iff_le] at h; simp [h]
  · rw [if_neg h]; simp only [ge_iff_le] at h; simp [h]

/-! ### slots that are ok -/
def slotB (s : S96) : Bool := decide (0 ≤ s.f0 ∧ s.f0 ≤ 1000000) && (decide (s.f1.size ≤ 100) && (!decide (s.f0 = 0) || decide (s.f1.toList = ([] : List UInt8))))
def slotsB (xs : List S96) : Bool := decide (xs.length ≤ 60) && xs.all slotB

theorem specSlotsOk (xs : List S96) (k : Nat) (hk : xs.length < k) : spec_l1SlotsOk.f k xs = some (slotsB xs) := by
  unfold spec_l1SlotsOk.f slotsB
  by_cases hl : (xs.length : Int) > 60
  · rw [if_pos hl]; simp; omega
  · rw [if_neg hl]
    have e : decide (xs.length ≤ 60) = true := decide_eq_true (by omega)
    rw [e, Bool.true_and]
    refine loopInd xs.length (fun k i => spec_l1SlotsOk.l0 k xs (i : Int) = some ((xs.drop i).all slotB)) ?_ ?_ 0 k (Nat.zero_le _) (by omega)
    · intro k
      simp only [spec_l1SlotsOk.l0]
      rw [if_neg (by omega), List.drop_length]; rfl
    · intro k i hi ih
      simp only [spec_l1SlotsOk.l0]
      rw [if_pos (by omega), if_pos (by omega), wrapSucc hi (by omega), ih, dropAt hi, List.all_cons]
      unfold rd_T96
      rw [getDAt hi, l1In]
      simp only [Option.bind_some, slotB]
      by_cases h1 : 0 ≤ xs[i].f0 ∧ xs[i].f0 ≤ 1000000
      · simp only [h1, and_self, decide_true, if_true, Bool.true_and]
        by_cases h2 : xs[i].f1.size ≤ 100
        · rw [if_neg (by omega)]
          by_cases h3 : xs[i].f0 = 0
          · by_cases h4 : xs[i].f1.toList = ([] : List UInt8) <;> simp [h2, h3, h4]
          · simp [h2, h3]
        · rw [if_pos (by omega)]; simp [h2]
      · simp [h1]

theorem implSlotsOk (xs : List S96) (k : Nat) (hk : xs.length < k) : impl_slotsOk.f k xs = some (slotsB xs) := by
  unfold impl_slotsOk.f slotsB
  by_cases hl : (xs.length : Int) > 60
  · rw [if_pos hl]; simp; omega
  · rw [if_neg hl]
    have e : decide (xs.length ≤ 60) = true := decide_eq_true (by omega)
    rw [e, Bool.true_and]
    refine loopInd xs.length (fun k i => impl_slotsOk.l0 k xs (xs.length : Int) (i : Int) = some ((xs.drop i).all slotB)) ?_ ?_ 0 k (Nat.zero_le _) (by omega)
    · intro k
      simp only [impl_slotsOk.l0]
      rw [if_neg (by omega), List.drop_length]; rfl
    · intro k i hi ih
      simp only [impl_slotsOk.l0]
      rw [if_pos (by omega), if_pos (by omega), if_pos (by omega), wrapSucc hi (by omega), ih, dropAt hi, List.all_cons]
      unfold rd_T96
      rw [getDAt hi, within]
      simp only [Option.bind_some, slotB]
      by_cases h1 : 0 ≤ xs[i].f0 ∧ xs[i].f0 ≤ 1000000
      · simp only [h1, and_self, decide_true, if_true, Bool.true_and]
        by_cases h2 : xs[i].f1.size ≤ 100
        · rw [if_neg (by omega)]
          by_cases h3 : xs[i].f0 = 0
          · by_cases h4 : xs[i].f1.toList = ([] : List UInt8) <;> simp [h2, h3, h4]
          · simp [h2, h3]
        · rw [if_pos (by omega)]; simp [h2]
      · simp [h1]

/-! ### sizes of slots -/
theorem szSlot (x : S94) (a : Int) (h0 : 0 ≤ a) (ha : a ≤ 1048576) (hs : x.f1.size ≤ maxLen) :
    ∃ r, laws_szRecSlot.f x.f0 x.f1 a = some r ∧ r ≤ a ∧ -1 ≤ r := by
  unfold laws_szRecSlot.f maxLen at *
  rw [wrapIn (by omega) (by omega)]
  by_cases h : a - (x.f1.size : Int) < 0
  · rw [if_pos h]; exact ⟨_, rfl, by omega, by omega⟩
  · rw [if_neg h]; exact ⟨_, rfl, by omega, by omega⟩

theorem szSlotS (xs : List S94) (a : Int) (h0 : 0 ≤ a) (ha : a ≤ 1048576) (hl : xs.length ≤ maxLen) (hs : ∀ x ∈ xs, x.f1.size ≤ maxLen) (k : Nat) (hk : xs.length < k) :
    ∃ r, laws_szRecSlotS.f k xs a = some r ∧ r ≤ a ∧ -1 ≤ r ∧ (0 ≤ r → (xs.length : Int) ≤ a) := by
  have hl' : xs.length ≤ 9223372036854775807 := by unfold maxLen at hl; omega
  unfold laws_szRecSlotS.f
  rw [wrapIn (by omega) (by omega)]
  by_cases h : a - (xs.length : Int) < 0
  · rw [if_pos h]; exact ⟨_, rfl, by omega, by omega, fun _ => by omega⟩
  · rw [if_neg h]
    have hsm : xs.length ≤ 1048576 := by omega
    have key := loopInd xs.length (fun k i => ∀ b : Int, 0 ≤ b → b ≤ a - xs.length → ∃ r, laws_szRecSlotS.l0 k xs b (i : Int) = some r ∧ r ≤ b ∧ -1 ≤ r) ?_ ?_ 0 k (Nat.zero_le _) (by omega) (a - xs.length) (by omega) (by omega)
    · obtain ⟨r, h1, h2, h3⟩ := key
      exact ⟨r, h1, by omega, h3, fun _ => by omega⟩
    · intro k b hb _
      refine ⟨b, ?_, by omega, by omega⟩
      simp only [laws_szRecSlotS.l0]
      rw [if_neg (by omega)]
    · intro k i hi ih b hb hba
      simp only [laws_szRecSlotS.l0]
      rw [if_pos (by omega), if_pos (by omega), wrapSucc hi (by omega)]
      unfold rd_T94
      rw [getDAt hi]
      obtain ⟨t, ht, hta, htm⟩ := szSlot xs[i] b hb (by omega) (hs _ (List.getElem_mem hi))
      rw [ht]
      simp only [Option.bind_some]
      by_cases hneg : t < 0
      · rw [if_pos hneg]; exact ⟨_, rfl, by omega, by omega⟩
      · rw [if_neg hneg]
        obtain ⟨r, h1, h2, h3⟩ := ih t (by omega) (by omega)
        exact ⟨r, h1, by omega, h3⟩

/-! ### mirrors of slots -/
def mSlot (x : S94) : S96 := ⟨x.f0, x.f1⟩
theorem toSlotS (xs : List S94) (hl : xs.length ≤ 1048576) (k : Nat) (hk : xs.length < k) : laws_toRecSlotS.f k xs = some (xs.map mSlot) := by
  unfold laws_toRecSlotS.f
  rw [if_pos (by omega), if_pos (by rw [Int.toNat_natCast]; omega), Int.toNat_natCast]
  have key := loopInd xs.length (fun k i => laws_toRecSlotS.l0 k xs (fill (xs.map mSlot) z96 i) (i : Int) = some (xs.map mSlot)) ?_ ?_ 0 k (Nat.zero_le _) (by omega)
  · rw [fill_zero, List.length_map] at key
    exact key
  · intro k
    simp only [laws_toRecSlotS.l0]
    rw [if_neg (by omega)]
    have := fill_all (xs.map mSlot) z96
    rw [List.length_map] at this
    rw [this]
  · intro k i hi ih
    simp only [laws_toRecSlotS.l0]
    have hfl := fill_length (xs.map mSlot) z96 i (by rw [List.length_map]; omega)
    rw [List.length_map] at hfl
    rw [if_pos (by omega), if_pos (by omega), wrapSucc hi (by omega)]
    unfold laws_toRecSlot.f rd_T94
    rw [getDAt hi]
    simp only [Option.bind_some]
    rw [if_pos (by rw [hfl]; omega), Int.toNat_natCast]
    have hs := fill_set (xs.map mSlot) z96 i (by rw [List.length_map]; omega)
    rw [List.getElem_map] at hs
    have e : (⟨xs[i].f0, xs[i].f1⟩ : S96) = mSlot xs[i] := rfl
    rw [e, hs]
    exact ih

/-! ### slots that are one and the same -/
theorem eqSlotS (xs : List S96) (hl : xs.length ≤ 4611686018427387904) (k : Nat) (hk : xs.length < k) : laws_eqRecSlotS.f k xs xs = some true := by
  unfold laws_eqRecSlotS.f
  rw [if_pos rfl]
  refine loopInd xs.length (fun k i => laws_eqRecSlotS.l0 k xs xs (i : Int) = some true) ?_ ?_ 0 k (Nat.zero_le _) (by omega)
  · intro k
    simp only [laws_eqRecSlotS.l0]
    rw [if_neg (by omega)]
  · intro k i hi ih
    simp only [laws_eqRecSlotS.l0]
    rw [if_pos (by omega), if_pos (by omega), if_pos (by omega), wrapSucc hi (by omega)]
    unfold laws_eqRecSlot.f
    simp only [if_true, Option.bind_some]
    exact ih

/-! ### messages that are ok -/
def msgB (a0 a1 a2 a3 a4 a5 : Int) (a6 : ByteArray) (xs : List S96) (o : Int) : Bool :=
  decide (1 ≤ a0 ∧ a0 ≤ 9) && (decide (1 ≤ a1 ∧ a1 ≤ o) && (decide (1 ≤ a2 ∧ a2 ≤ o) && (decide (0 ≤ a3 ∧ a3 ≤ 1000000) && (decide (0 ≤ a4 ∧ a4 ≤ 60) && (decide (0 ≤ a5 ∧ a5 ≤ 60) && (decide ((a6.size : Int) ≤ 100) && slotsB xs))))))
theorem specMsgOk (a0 a1 a2 a3 a4 a5 : Int) (a6 : ByteArray) (xs : List S96) (o : Int) (k : Nat) (hk : xs.length < k) : spec_RecMessageOk.f k a0 a1 a2 a3 a4 a5 a6 xs o = some (msgB a0 a1 a2 a3 a4 a5 a6 xs o) := by
  unfold spec_RecMessageOk.f msgB
  simp only [l1In, Option.bind_some, specSlotsOk xs k hk]
  by_cases h0 : 1 ≤ a0 ∧ a0 ≤ 9
  · by_cases h1 : 1 ≤ a1 ∧ a1 ≤ o
    · by_cases h2 : 1 ≤ a2 ∧ a2 ≤ o
      · by_cases h3 : 0 ≤ a3 ∧ a3 ≤ 1000000
        · by_cases h4 : 0 ≤ a4 ∧ a4 ≤ 60
          · by_cases h5 : 0 ≤ a5 ∧ a5 ≤ 60
            · by_cases h6 : (a6.size : Int) ≤ 100
              · simp only [h0, h1, h2, h3, h4, h5, h6, and_self, decide_true, if_true, Bool.true_and]
              · simp [h0, h1, h2, h3, h4, h5, h6]
            · simp [h0, h1, h2, h3, h4, h5]
          · simp [h0, h1, h2, h3, h4]
        · simp [h0, h1, h2, h3]
      · simp [h0, h1, h2]
    · simp [h0, h1]
  · simp [h0]
theorem implMsgOk (a0 a1 a2 a3 a4 a5 : Int) (a6 : ByteArray) (xs : List S96) (o : Int) (k : Nat) (hk : xs.length < k) : impl_RecMessageOk.f k a0 a1 a2 a3 a4 a5 a6 xs o = some (msgB a0 a1 a2 a3 a4 a5 a6 xs o) := by
  unfold impl_RecMessageOk.f msgB
  simp only [within, Option.bind_some, implSlotsOk xs k hk]
  by_cases h0 : 1 ≤ a0 ∧ a0 ≤ 9
  · by_cases h1 : 1 ≤ a1 ∧ a1 ≤ o
    · by_cases h2 : 1 ≤ a2 ∧ a2 ≤ o
      · by_cases h3 : 0 ≤ a3 ∧ a3 ≤ 1000000
        · by_cases h4 : 0 ≤ a4 ∧ a4 ≤ 60
          · by_cases h5 : 0 ≤ a5 ∧ a5 ≤ 60
            · by_cases h6 : (a6.size : Int) ≤ 100
              · simp only [h0, h1, h2, h3, h4, h5, h6, and_self, decide_true, if_true, Bool.true_and]
              · simp [h0, h1, h2, h3, h4, h5, h6]
            · simp [h0, h1, h2, h3, h4, h5]
          · simp [h0, h1, h2, h3, h4]
        · simp [h0, h1, h2, h3]
      · simp [h0, h1, h2]
    · simp [h0, h1]
  · simp [h0]

theorem szMsg (a0 a1 a2 a3 a4 a5 : Int) (a6 : ByteArray) (xs : List S94) (a : Int) (h0 : 0 ≤ a) (ha : a ≤ 1048576) (h6 : a6.size ≤ maxLen) (hl : xs.length ≤ maxLen) (hs : ∀ x ∈ xs, x.f1.size ≤ maxLen) (k : Nat) (hk : xs.length < k) :
    ∃ r, laws_szRecMessage.f k a0 a1 a2 a3 a4 a5 a6 xs a = some r ∧ r ≤ a ∧ -1 ≤ r ∧ (0 ≤ r → (xs.length : Int) ≤ a) := by
  unfold laws_szRecMessage.f
  have h6' : a6.size ≤ 9223372036854775807 := by unfold maxLen at h6; omega
  rw [wrapIn (by omega) (by omega)]
  by_cases h : a - (a6.size : Int) < 0
  · rw [if_pos h]; exact ⟨_, rfl, by omega, by omega, fun _ => by omega⟩
  · rw [if_neg h]
    obtain ⟨r, hr, h1, h2, h3⟩ := szSlotS xs (a - (a6.size : Int)) (by omega) (by omega) hl hs k hk
    rw [hr]
    simp only [Option.bind_some]
    by_cases hn : r < 0
    · rw [if_pos hn]; exact ⟨_, rfl, by omega, by omega, fun _ => by omega⟩
    · rw [if_neg hn]; exact ⟨_, rfl, by omega, by omega, fun h => by have := h3 h; omega⟩

/-- The law on messages, of whole numbers, texts and lists alone. -/
theorem law (a0 a1 a2 a3 a4 a5 : Int) (a6 : ByteArray) (xs : List S94) (o : Int) (h6 : a6.size ≤ maxLen) (hl : xs.length ≤ maxLen) (hs : ∀ x ∈ xs, x.f1.size ≤ maxLen) : laws_FnExactRecMessageOk.f (xs.length + 3) a0 a1 a2 a3 a4 a5 a6 xs o = some true := by
  unfold laws_FnExactRecMessageOk.f
  obtain ⟨r, hr, _, hm, hlen⟩ := szMsg a0 a1 a2 a3 a4 a5 a6 xs 1048576 (by omega) (by omega) h6 hl hs (xs.length + 3) (by omega)
  rw [hr]
  simp only [Option.bind_some]
  by_cases h : r < 0
  · rw [if_pos h]
  · rw [if_neg h]
    have hx : xs.length ≤ 1048576 := by have := hlen (by omega); omega
    unfold laws_toRecMessage.f
    rw [toSlotS xs hx _ (by omega)]
    simp only [Option.bind_some]
    rw [specMsgOk _ _ _ _ _ _ _ _ _ _ (by rw [List.length_map]; omega), implMsgOk _ _ _ _ _ _ _ _ _ _ (by rw [List.length_map]; omega)]
    simp only [Option.bind_some, bne_self_eq_false, Bool.false_eq_true, if_false]
    unfold laws_eqRecMessage.f
    rw [eqSlotS _ (by rw [List.length_map]; omega) _ (by rw [List.length_map]; omega)]
    simp

end Go.Proofs.Ythnmdbjjfjkfmaa.QFnExactRecMessageOk
