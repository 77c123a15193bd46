/- What the parts of a recorder answer, in lists and whole numbers alone; no condition. -/
import Derived.Test.YtjkhlhopfaapmaaPFnExactRecWorldOkx
import Derived.Test.YtjkhlhopfaapmaaOpen
import Derived.Test.YtjkhlhopfaapmaaPb
import Derived.Test.YtjkhlhopfaapmaaWk
namespace Go.Proofs.Ytjkhlhopfaapmaa.QFnExactRecWorldOk
open Go.RowKit Go.Proofs.Ytjkhlhopfaapmaa.PFnExactRecWorldOk Go.Proofs.YtjkhlhopfaapmaaW.PrintWords Go.Proofs.YtjkhlhopfaapmaaW.PrintLast Go.Proofs.YtjkhlhopfaapmaaW.PrintMore Go.Proofs.Ytjkhlhopfaapmaa.Pb Go.Proofs.Ytjkhlhopfaapmaa.Op Go.Proofs.Ytjkhlhopfaapmaa.Wk
set_option linter.unusedSimpArgs false
set_option linter.unusedVariables false

theorem l1In (a b c : Int) : spec_l1In.f a b c = some (decide (b ≤ a ∧ a ≤ c)) := by
  unfold spec_l1In.f
  by_cases h : a ≥ b
  · rw [if_pos h]; simp only [ge_iff_le] at h; simp [h]
  · rw [if_neg h]; simp only [ge_iff_le] at h; simp [h]
theorem within (a b c : Int) : impl_within.f a b c = some (decide (b ≤ a ∧ a ≤ c)) := by
  unfold impl_within.f
  by_cases h : a ≥ b
  · rw [if_pos h]; simp only [ge_iff_le] at h; simp [h]
  · rw [if_neg h]; simp only [ge_iff_le] at h; simp [h]

/-! ### slots that are ok -/
def slotB (s : S93) : Bool := decide (0 ≤ s.f0 ∧ s.f0 ≤ 1000000) && (decide (s.f1.size ≤ 100) && (!decide (s.f0 = 0) || decide (s.f1.toList = ([] : List UInt8))))
def slotsB (xs : List S93) : Bool := decide (xs.length ≤ 60) && xs.all slotB

theorem specSlotsOk (xs : List S93) (k : Nat) (hk : xs.length < k) : spec_l1SlotsOk.f k xs = some (slotsB xs) := by
  unfold spec_l1SlotsOk.f slotsB
  by_cases hl : (xs.length : Int) > 60
  · rw [if_pos hl]; simp; omega
  · rw [if_neg hl]
    have e : decide (xs.length ≤ 60) = true := decide_eq_true (by omega)
    rw [e, Bool.true_and]
    refine loopInd xs.length (fun k i => spec_l1SlotsOk.l0 k xs (i : Int) = some ((xs.drop i).all slotB)) ?_ ?_ 0 k (Nat.zero_le _) (by omega)
    · intro k
      simp only [spec_l1SlotsOk.l0]
      rw [if_neg (by omega), List.drop_length]; rfl
    · intro k i hi ih
      simp only [spec_l1SlotsOk.l0]
      rw [if_pos (by omega), if_pos (by omega), wrapSucc hi (by omega), ih, dropAt hi, List.all_cons]
      unfold rd_T93
      rw [getDAt hi, l1In]
      simp only [Option.bind_some, slotB]
      by_cases h1 : 0 ≤ xs[i].f0 ∧ xs[i].f0 ≤ 1000000
      · simp only [h1, and_self, decide_true, if_true, Bool.true_and]
        by_cases h2 : xs[i].f1.size ≤ 100
        · rw [if_neg (by omega)]
          by_cases h3 : xs[i].f0 = 0
          · by_cases h4 : xs[i].f1.toList = ([] : List UInt8) <;> simp [h2, h3, h4]
          · simp [h2, h3]
        · rw [if_pos (by omega)]; simp [h2]
      · simp [h1]

theorem implSlotsOk (xs : List S93) (k : Nat) (hk : xs.length < k) : impl_slotsOk.f k xs = some (slotsB xs) := by
  unfold impl_slotsOk.f slotsB
  by_cases hl : (xs.length : Int) > 60
  · rw [if_pos hl]; simp; omega
  · rw [if_neg hl]
    have e : decide (xs.length ≤ 60) = true := decide_eq_true (by omega)
    rw [e, Bool.true_and]
    refine loopInd xs.length (fun k i => impl_slotsOk.l0 k xs (xs.length : Int) (i : Int) = some ((xs.drop i).all slotB)) ?_ ?_ 0 k (Nat.zero_le _) (by omega)
    · intro k
      simp only [impl_slotsOk.l0]
      rw [if_neg (by omega), List.drop_length]; rfl
    · intro k i hi ih
      simp only [impl_slotsOk.l0]
      rw [if_pos (by omega), if_pos (by omega), if_pos (by omega), wrapSucc hi (by omega), ih, dropAt hi, List.all_cons]
      unfold rd_T93
      rw [getDAt hi, within]
      simp only [Option.bind_some, slotB]
      by_cases h1 : 0 ≤ xs[i].f0 ∧ xs[i].f0 ≤ 1000000
      · simp only [h1, and_self, decide_true, if_true, Bool.true_and]
        by_cases h2 : xs[i].f1.size ≤ 100
        · rw [if_neg (by omega)]
          by_cases h3 : xs[i].f0 = 0
          · by_cases h4 : xs[i].f1.toList = ([] : List UInt8) <;> simp [h2, h3, h4]
          · simp [h2, h3]
        · rw [if_pos (by omega)]; simp [h2]
      · simp [h1]

/-! ### sizes of slots -/
theorem szSlot (x : S106) (a : Int) (h0 : 0 ≤ a) (ha : a ≤ 1048576) (hs : x.f1.size ≤ maxLen) :
    ∃ r, laws_szRecSlot.f x.f0 x.f1 a = some r ∧ r ≤ a ∧ -1 ≤ r := by
  unfold laws_szRecSlot.f maxLen at *
  rw [wrapIn (by omega) (by omega)]
  by_cases h : a - (x.f1.size : Int) < 0
  · rw [if_pos h]; exact ⟨_, rfl, by omega, by omega⟩
  · rw [if_neg h]; exact ⟨_, rfl, by omega, by omega⟩

theorem szSlotS (xs : List S106) (a : Int) (h0 : 0 ≤ a) (ha : a ≤ 1048576) (hl : xs.length ≤ maxLen) (hs : ∀ x ∈ xs, x.f1.size ≤ maxLen) (k : Nat) (hk : xs.length < k) :
    ∃ r, laws_szRecSlotS.f k xs a = some r ∧ r ≤ a ∧ -1 ≤ r ∧ (0 ≤ r → (xs.length : Int) ≤ a) := by
  have hl' : xs.length ≤ 9223372036854775807 := by unfold maxLen at hl; omega
  unfold laws_szRecSlotS.f
  rw [wrapIn (by omega) (by omega)]
  by_cases h : a - (xs.length : Int) < 0
  · rw [if_pos h]; exact ⟨_, rfl, by omega, by omega, fun _ => by omega⟩
  · rw [if_neg h]
    have hsm : xs.length ≤ 1048576 := by omega
    have key := loopInd xs.length (fun k i => ∀ b : Int, 0 ≤ b → b ≤ a - xs.length → ∃ r, laws_szRecSlotS.l0 k xs b (i : Int) = some r ∧ r ≤ b ∧ -1 ≤ r) ?_ ?_ 0 k (Nat.zero_le _) (by omega) (a - xs.length) (by omega) (by omega)
    · obtain ⟨r, h1, h2, h3⟩ := key
      exact ⟨r, h1, by omega, h3, fun _ => by omega⟩
    · intro k b hb _
      refine ⟨b, ?_, by omega, by omega⟩
      simp only [laws_szRecSlotS.l0]
      rw [if_neg (by omega)]
    · intro k i hi ih b hb hba
      simp only [laws_szRecSlotS.l0]
      rw [if_pos (by omega), if_pos (by omega), wrapSucc hi (by omega)]
      unfold rd_T106
      rw [getDAt hi]
      obtain ⟨t, ht, hta, htm⟩ := szSlot xs[i] b hb (by omega) (hs _ (List.getElem_mem hi))
      rw [ht]
      simp only [Option.bind_some]
      by_cases hneg : t < 0
      · rw [if_pos hneg]; exact ⟨_, rfl, by omega, by omega⟩
      · rw [if_neg hneg]
        obtain ⟨r, h1, h2, h3⟩ := ih t (by omega) (by omega)
        exact ⟨r, h1, by omega, h3⟩

/-! ### mirrors of slots -/
def mSlot (x : S106) : S93 := ⟨x.f0, x.f1⟩
theorem toSlotS (xs : List S106) (hl : xs.length ≤ 1048576) (k : Nat) (hk : xs.length < k) : laws_toRecSlotS.f k xs = some (xs.map mSlot) := by
  unfold laws_toRecSlotS.f
  rw [if_pos (by omega), if_pos (by rw [Int.toNat_natCast]; omega), Int.toNat_natCast]
  have key := loopInd xs.length (fun k i => laws_toRecSlotS.l0 k xs (fill (xs.map mSlot) z93 i) (i : Int) = some (xs.map mSlot)) ?_ ?_ 0 k (Nat.zero_le _) (by omega)
  · rw [fill_zero, List.length_map] at key
    exact key
  · intro k
    simp only [laws_toRecSlotS.l0]
    rw [if_neg (by omega)]
    have := fill_all (xs.map mSlot) z93
    rw [List.length_map] at this
    rw [this]
  · intro k i hi ih
    simp only [laws_toRecSlotS.l0]
    have hfl := fill_length (xs.map mSlot) z93 i (by rw [List.length_map]; omega)
    rw [List.length_map] at hfl
    rw [if_pos (by omega), if_pos (by omega), wrapSucc hi (by omega)]
    unfold laws_toRecSlot.f rd_T106
    rw [getDAt hi]
    simp only [Option.bind_some]
    rw [if_pos (by rw [hfl]; omega), Int.toNat_natCast]
    have hs := fill_set (xs.map mSlot) z93 i (by rw [List.length_map]; omega)
    rw [List.getElem_map] at hs
    have e : (⟨xs[i].f0, xs[i].f1⟩ : S93) = mSlot xs[i] := rfl
    rw [e, hs]
    exact ih

/-! ### messages that are ok -/
def msgB (a0 a1 a2 a3 a4 a5 : Int) (a6 : ByteArray) (xs : List S93) (o : Int) : Bool :=
  decide (1 ≤ a0 ∧ a0 ≤ 9) && (decide (1 ≤ a1 ∧ a1 ≤ o) && (decide (1 ≤ a2 ∧ a2 ≤ o) && (decide (0 ≤ a3 ∧ a3 ≤ 1000000) && (decide (0 ≤ a4 ∧ a4 ≤ 60) && (decide (0 ≤ a5 ∧ a5 ≤ 60) && (decide ((a6.size : Int) ≤ 100) && slotsB xs))))))
theorem szMsg (a0 a1 a2 a3 a4 a5 : Int) (a6 : ByteArray) (xs : List S106) (a : Int) (h0 : 0 ≤ a) (ha : a ≤ 1048576) (h6 : a6.size ≤ maxLen) (hl : xs.length ≤ maxLen) (hs : ∀ x ∈ xs, x.f1.size ≤ maxLen) (k : Nat) (hk : xs.length < k) :
    ∃ r, laws_szRecMessage.f k a0 a1 a2 a3 a4 a5 a6 xs a = some r ∧ r ≤ a ∧ -1 ≤ r ∧ (0 ≤ r → (xs.length : Int) ≤ a) := by
  unfold laws_szRecMessage.f
  have h6' : a6.size ≤ 9223372036854775807 := by unfold maxLen at h6; omega
  rw [wrapIn (by omega) (by omega)]
  by_cases h : a - (a6.size : Int) < 0
  · rw [if_pos h]; exact ⟨_, rfl, by omega, by omega, fun _ => by omega⟩
  · rw [if_neg h]
    obtain ⟨r, hr, h1, h2, h3⟩ := szSlotS xs (a - (a6.size : Int)) (by omega) (by omega) hl hs k hk
    rw [hr]
    simp only [Option.bind_some]
    by_cases hn : r < 0
    · rw [if_pos hn]; exact ⟨_, rfl, by omega, by omega, fun _ => by omega⟩
    · rw [if_neg hn]; exact ⟨_, rfl, by omega, by omega, fun h => by have := h3 h; omega⟩

/-! ### disks that are ok -/
def placeB (p n : Int) (s : S93) (i : Nat) : Bool := decide (s.f0 ≤ p) && (!decide ((i : Int) < n) || !decide (s.f0 = 0))
def placesB (p n : Int) : List S93 → Nat → Bool
  | [], _ => true
  | s :: r, i => placeB p n s i && placesB p n r (i + 1)
def diskB (p n : Int) (xs : List S93) : Bool := decide (0 ≤ p ∧ p ≤ 1000000) && (slotsB xs && (decide (0 ≤ n ∧ n ≤ xs.length) && placesB p n xs 0))

theorem specDiskOk (p n : Int) (xs : List S93) (k : Nat) (hk : xs.length + 1 < k) : spec_RecDiskOk.f k p n xs = some (diskB p n xs) := by
  obtain ⟨k, rfl⟩ : ∃ m, k = m + 1 := ⟨k - 1, by omega⟩
  unfold spec_RecDiskOk.f diskB
  rw [l1In, specSlotsOk xs _ (by omega), l1In]
  simp only [Option.bind_some, spec_RecDiskOk.j0]
  by_cases h1 : 0 ≤ p ∧ p ≤ 1000000
  · by_cases h2 : slotsB xs = true
    · by_cases h3 : 0 ≤ n ∧ n ≤ (xs.length : Int)
      · simp only [h1, h2, h3, and_self, decide_true, if_true, Bool.true_and, Bool.not_true, Bool.false_eq_true, if_false]
        have hl : xs.length ≤ 60 := by
          unfold slotsB at h2
          simp only [Bool.and_eq_true, decide_eq_true_eq] at h2
          exact h2.1
        refine loopInd xs.length (fun k i => spec_RecDiskOk.l0 k (i : Int) p n xs = some (placesB p n (xs.drop i) i)) ?_ ?_ 0 k (Nat.zero_le _) (by omega)
        · intro k
          simp only [spec_RecDiskOk.l0]
          rw [if_neg (by omega), List.drop_length]; rfl
        · intro k i hi ih
          simp only [spec_RecDiskOk.l0]
          rw [if_pos (by omega), if_pos (by omega), wrapSucc hi (by omega), ih, dropAt hi]
          unfold rd_T93
          rw [getDAt hi]
          simp only [placesB, placeB]
          by_cases c1 : xs[i].f0 ≤ p
          · rw [if_neg (by omega)]
            by_cases c2 : (i : Int) < n <;> by_cases c3 : xs[i].f0 = 0 <;> simp [c1, c2, c3]
            all_goals (intro h; omega)
          · rw [if_pos (by omega)]; simp [c1]
      · simp [h1, h2, h3]
    · simp [h1, h2]
  · simp [h1]

theorem implDiskOk (p n : Int) (xs : List S93) (k : Nat) (hk : xs.length + 1 < k) : impl_RecDiskOk.f k p n xs = some (diskB p n xs) := by
  obtain ⟨k, rfl⟩ : ∃ m, k = m + 1 := ⟨k - 1, by omega⟩
  unfold impl_RecDiskOk.f diskB
  rw [within, implSlotsOk xs _ (by omega), within]
  simp only [Option.bind_some, impl_RecDiskOk.j0]
  by_cases h1 : 0 ≤ p ∧ p ≤ 1000000
  · by_cases h2 : slotsB xs = true
    · by_cases h3 : 0 ≤ n ∧ n ≤ (xs.length : Int)
      · simp only [h1, h2, h3, and_self, decide_true, if_true, Bool.true_and, Bool.not_true, Bool.false_eq_true, if_false]
        have hl : xs.length ≤ 60 := by
          unfold slotsB at h2
          simp only [Bool.and_eq_true, decide_eq_true_eq] at h2
          exact h2.1
        refine loopInd xs.length (fun k i => impl_RecDiskOk.l0 k xs (xs.length : Int) (i : Int) p n xs = some (placesB p n (xs.drop i) i)) ?_ ?_ 0 k (Nat.zero_le _) (by omega)
        · intro k
          simp only [impl_RecDiskOk.l0]
          rw [if_neg (by omega), List.drop_length]; rfl
        · intro k i hi ih
          simp only [impl_RecDiskOk.l0]
          rw [if_pos (by omega), if_pos (by omega), if_pos (by omega), wrapSucc hi (by omega), ih, dropAt hi]
          unfold rd_T93
          rw [getDAt hi]
          simp only [placesB, placeB]
          by_cases c1 : xs[i].f0 ≤ p
          · rw [if_neg (by omega)]
            by_cases c2 : (i : Int) < n <;> by_cases c3 : xs[i].f0 = 0 <;> simp [c1, c2, c3]
            all_goals (intro h; omega)
          · rw [if_pos (by omega)]; simp [c1]
      · simp [h1, h2, h3]
    · simp [h1, h2]
  · simp [h1]

/-! ### all places from i on -/
def allFrom (q : Nat → Bool) (n i : Nat) : Bool := (List.range' i (n - i)).all q
theorem allFrom_end (q : Nat → Bool) (n : Nat) : allFrom q n n = true := by simp [allFrom]
theorem allFrom_step (q : Nat → Bool) {n i : Nat} (h : i < n) : allFrom q n i = (q i && allFrom q n (i + 1)) := by
  unfold allFrom
  obtain ⟨d, hd⟩ : ∃ d, n - i = d + 1 := ⟨n - i - 1, by omega⟩
  rw [hd, List.range'_succ, List.all_cons, show n - (i + 1) = d from by omega]

/-! ### numbers that rise -/
def numAt (xs : List Int) (o : Int) (i : Nat) : Bool := decide (1 ≤ rd xs (i : Int) ∧ rd xs (i : Int) ≤ o) && (decide (i = 0) || decide (rd xs ((i - 1 : Nat) : Int) < rd xs (i : Int)))
theorem numAt_eq (xs : List Int) (o : Int) (i : Nat) : numAt xs o i = (decide (1 ≤ rd xs (i : Int) ∧ rd xs (i : Int) ≤ o) && (decide (i = 0) || decide (rd xs ((i - 1 : Nat) : Int) < rd xs (i : Int)))) := rfl
def numsB (xs : List Int) (o : Int) : Bool := allFrom (numAt xs o) xs.length 0
theorem wrapPred {i n : Nat} (h0 : i ≠ 0) (h : i < n) (hn : n ≤ 9223372036854775807) : wrap64 ((i : Int) - 1) = ((i - 1 : Nat) : Int) := by unfold wrap64; omega
theorem specNumbers (xs : List Int) (o : Int) (hl : xs.length ≤ 9223372036854775807) (k : Nat) (hk : xs.length < k) : spec_l2Numbers.f k xs o = some (numsB xs o) := by
  unfold spec_l2Numbers.f numsB
  refine loopInd xs.length (fun k i => spec_l2Numbers.l0 k xs o (i : Int) = some (allFrom (numAt xs o) xs.length i)) ?_ ?_ 0 k (Nat.zero_le _) (by omega)
  · intro k
    simp only [spec_l2Numbers.l0]
    rw [if_neg (by omega), allFrom_end]
  · intro k i hi ih
    simp only [spec_l2Numbers.l0]
    rw [if_pos (by omega), if_pos (by omega), wrapSucc hi hl, ih, l1In, allFrom_step _ hi]
    simp only [Option.bind_some]
    rw [numAt_eq]
    by_cases c1 : 1 ≤ rd xs (i : Int) ∧ rd xs (i : Int) ≤ o
    · rw [if_pos (decide_eq_true c1)]
      rw [decide_eq_true c1]
      by_cases c2 : i = 0
      · rw [if_neg (by omega)]; simp [c2]
      · rw [if_pos (by omega), wrapPred c2 hi hl, if_pos (by omega), if_pos (by omega)]
        by_cases c3 : rd xs ((i - 1 : Nat) : Int) < rd xs (i : Int)
        · rw [if_neg (by omega)]; simp only [decide_eq_true c3, Bool.or_true, Bool.true_and]
        · rw [if_pos (by omega)]; simp only [decide_eq_false c3, decide_eq_false c2, Bool.or_self, Bool.and_false, Bool.false_and]
    · rw [if_neg (by simpa using c1), decide_eq_false c1]; simp only [Bool.false_and]
theorem implPeople (xs : List Int) (o : Int) (hl : xs.length ≤ 9223372036854775807) (k : Nat) (hk : xs.length < k) : impl_people.f k xs o = some (numsB xs o) := by
  unfold impl_people.f numsB
  refine loopInd xs.length (fun k i => impl_people.l0 k xs o xs (xs.length : Int) (i : Int) = some (allFrom (numAt xs o) xs.length i)) ?_ ?_ 0 k (Nat.zero_le _) (by omega)
  · intro k
    simp only [impl_people.l0]
    rw [if_neg (by omega), allFrom_end]
  · intro k i hi ih
    simp only [impl_people.l0]
    rw [if_pos (by omega), if_pos (by omega), if_pos (by omega), wrapSucc hi hl, ih, within, allFrom_step _ hi]
    simp only [Option.bind_some]
    rw [numAt_eq]
    by_cases c1 : 1 ≤ rd xs (i : Int) ∧ rd xs (i : Int) ≤ o
    · rw [if_pos (decide_eq_true c1)]
      rw [decide_eq_true c1]
      by_cases c2 : i = 0
      · rw [if_neg (by omega)]; simp [c2]
      · rw [if_pos (by omega), wrapPred c2 hi hl, if_pos (by omega), if_pos (by omega)]
        by_cases c3 : rd xs ((i - 1 : Nat) : Int) < rd xs (i : Int)
        · rw [if_neg (by omega)]; simp only [decide_eq_true c3, Bool.or_true, Bool.true_and]
        · rw [if_pos (by omega)]; simp only [decide_eq_false c3, decide_eq_false c2, Bool.or_self, Bool.and_false, Bool.false_and]
    · rw [if_neg (by simpa using c1), decide_eq_false c1]; simp only [Bool.false_and]

/-! ### acks that rise -/
def ackAt (xs : List S83) (o : Int) (i : Nat) : Bool := decide (1 ≤ (rd_T83 xs i).f0 ∧ (rd_T83 xs i).f0 ≤ 60) && (numsB (rd_T83 xs i).f1 o && (decide (i = 0) || decide ((rd_T83 xs ((i - 1 : Nat) : Int)).f0 < (rd_T83 xs i).f0)))
theorem ackAt_eq (xs : List S83) (o : Int) (i : Nat) : ackAt xs o i = (decide (1 ≤ (rd_T83 xs i).f0 ∧ (rd_T83 xs i).f0 ≤ 60) && (numsB (rd_T83 xs i).f1 o && (decide (i = 0) || decide ((rd_T83 xs ((i - 1 : Nat) : Int)).f0 < (rd_T83 xs i).f0)))) := rfl
def acksB (xs : List S83) (o : Int) : Bool := allFrom (ackAt xs o) xs.length 0

/-! ### wishes, each one once -/
def newAt (xs : List ByteArray) (i : Nat) : Bool := allFrom (fun j => !decide ((rdOf ByteArray.empty xs (j : Int)).toList = (rdOf ByteArray.empty xs (i : Int)).toList)) i 0
def wishAt (xs : List ByteArray) (i : Nat) : Bool := decide (1 ≤ ((rdOf ByteArray.empty xs (i : Int)).size : Int) ∧ ((rdOf ByteArray.empty xs (i : Int)).size : Int) ≤ 100) && newAt xs i
theorem wishAt_eq (xs : List ByteArray) (i : Nat) : wishAt xs i = (decide (1 ≤ ((rdOf ByteArray.empty xs (i : Int)).size : Int) ∧ ((rdOf ByteArray.empty xs (i : Int)).size : Int) ≤ 100) && newAt xs i) := rfl
def wishesB (xs : List ByteArray) : Bool := decide (xs.length ≤ 20) && allFrom (wishAt xs) xs.length 0
theorem specWishes (xs : List ByteArray) (k : Nat) (hk : 25 * xs.length < k) : spec_l2WishesOk.f k xs = some (wishesB xs) := by
  unfold spec_l2WishesOk.f wishesB
  by_cases hl : xs.length ≤ 20
  · rw [if_neg (by omega), decide_eq_true hl, Bool.true_and]
    have key : ∀ d i k, i + d = xs.length → 25 * d < k → spec_l2WishesOk.l0 k xs (i : Int) = some (allFrom (wishAt xs) xs.length i) := by
      intro d
      induction d with
      | zero =>
        intro i k hd hk
        obtain ⟨k, rfl⟩ : ∃ m, k = m + 1 := ⟨k - 1, by omega⟩
        have e : i = xs.length := by omega
        subst e
        simp only [spec_l2WishesOk.l0]
        rw [if_neg (by omega), allFrom_end]
      | succ d ihd =>
        intro i k hd hk
        obtain ⟨k, rfl⟩ : ∃ m, k = m + 2 := ⟨k - 2, by omega⟩
        have hi : i < xs.length := by omega
        have inner : ∀ e j k, j + e = i → 25 * d + e + 1 < k → spec_l2WishesOk.l1 k xs (i : Int) (j : Int) = some (allFrom (fun j => !decide ((rdOf ByteArray.empty xs (j : Int)).toList = (rdOf ByteArray.empty xs (i : Int)).toList)) i j && allFrom (wishAt xs) xs.length (i + 1)) := by
          intro e
          induction e with
          | zero =>
            intro j k hj hk
            obtain ⟨k, rfl⟩ : ∃ m, k = m + 1 := ⟨k - 1, by omega⟩
            have e : j = i := by omega
            subst e
            simp only [spec_l2WishesOk.l1]
            rw [if_neg (by omega), allFrom_end, Bool.true_and, wrapSucc hi (by omega), ihd (j + 1) k (by omega) (by omega)]
          | succ e ihe =>
            intro j k hj hk
            obtain ⟨k, rfl⟩ : ∃ m, k = m + 1 := ⟨k - 1, by omega⟩
            have hji : j < i := by omega
            simp only [spec_l2WishesOk.l1]
            rw [if_pos (by omega), if_pos (by omega), if_pos (by omega), if_pos (by omega), if_pos (by omega), wrapSucc hji (by omega), ihe (j + 1) k (by omega) (by omega), allFrom_step _ hji]
            by_cases c : (rdOf ByteArray.empty xs (j : Int)).toList = (rdOf ByteArray.empty xs (i : Int)).toList
            · rw [if_pos c]; simp only [decide_eq_true c, Bool.not_true, Bool.false_and]
            · rw [if_neg c]; simp only [decide_eq_false c, Bool.not_false, Bool.true_and]
        have h := inner i 0 k (by omega) (by omega)
        simp only [spec_l2WishesOk.l0, spec_l2WishesOk.j1]
        rw [if_pos (by omega), if_pos (by omega), allFrom_step _ hi]
        rw [show spec_l2WishesOk.l1 k xs (i : Int) 0 = some (newAt xs i && allFrom (wishAt xs) xs.length (i + 1)) from h]
        rw [wishAt_eq]
        by_cases c1 : ((rdOf ByteArray.empty xs (i : Int)).size : Int) < 1
        · rw [if_pos c1, if_pos trivial, decide_eq_false (by omega)]; simp only [Bool.false_and]
        · rw [if_neg c1]
          by_cases c2 : ((rdOf ByteArray.empty xs (i : Int)).size : Int) > 100
          · rw [if_pos (decide_eq_true c2), decide_eq_false (by omega)]; simp only [Bool.false_and]
          · rw [if_neg (by simpa using c2), decide_eq_true (by omega)]; simp only [Bool.true_and]
    exact key xs.length 0 k (by omega) hk
  · rw [if_pos (by omega), decide_eq_false hl, Bool.false_and]
theorem contains (xs : List ByteArray) (i : Nat) (hi : i < xs.length) (hl : xs.length ≤ 9223372036854775807) (k : Nat) (hk : i < k) : slices_Contains_string_string.f k (xs.take i) (rdOf ByteArray.empty xs (i : Int)) = some (!newAt xs i) := by
  unfold slices_Contains_string_string.f slices_Index_string_string.f newAt
  have hlen : (xs.take i).length = i := by rw [List.length_take]; omega
  rw [hlen]
  have key : ∃ r : Int, slices_Index_string_string.l0 k (xs.take i) (rdOf ByteArray.empty xs (i : Int)) (i : Int) ((0 : Nat) : Int) = some r ∧ decide (r ≥ 0) = !(allFrom (fun j => !decide ((rdOf ByteArray.empty xs (j : Int)).toList = (rdOf ByteArray.empty xs (i : Int)).toList)) i 0) := by
    refine loopInd i (fun k j => ∃ r : Int, slices_Index_string_string.l0 k (xs.take i) (rdOf ByteArray.empty xs (i : Int)) (i : Int) (j : Int) = some r ∧ decide (r ≥ 0) = !(allFrom (fun j => !decide ((rdOf ByteArray.empty xs (j : Int)).toList = (rdOf ByteArray.empty xs (i : Int)).toList)) i j)) ?_ ?_ 0 k (Nat.zero_le _) (by omega)
    · intro k
      refine ⟨-1, ?_, ?_⟩
      · simp only [slices_Index_string_string.l0]; rw [if_neg (by omega)]
      · rw [allFrom_end]; rfl
    · intro k j hj ⟨r, hr, hd⟩
      have e : rdOf ByteArray.empty (xs.take i) (j : Int) = rdOf ByteArray.empty xs (j : Int) := by
        unfold rdOf
        rw [getDAt (by omega), getDAt (by omega), List.getElem_take]
      simp only [slices_Index_string_string.l0]
      rw [if_pos (by omega), if_pos (by omega), if_pos (by omega), wrapSucc hj (by omega), hr, e, allFrom_step _ hj]
      by_cases c : (rdOf ByteArray.empty xs (j : Int)).toList = (rdOf ByteArray.empty xs (i : Int)).toList
      · refine ⟨(j : Int), by rw [if_pos c.symm], ?_⟩
        rw [decide_eq_true c, decide_eq_true (by omega)]; rfl
      · refine ⟨r, by rw [if_neg (fun h => c h.symm)], ?_⟩
        rw [decide_eq_false c, hd]; simp only [Bool.not_false, Bool.true_and]
  obtain ⟨r, hr, hd⟩ := key
  rw [show slices_Index_string_string.l0 k (xs.take i) (rdOf ByteArray.empty xs (i : Int)) (i : Int) 0 = some r from hr]
  simp only [Option.bind_some, hd]

/-! ### sizes of a recorder's parts -/
theorem szStr (xs : List ByteArray) (a : Int) (h0 : 0 ≤ a) (ha : a ≤ 1048576) (hl : xs.length ≤ maxLen) (hs : ∀ x ∈ xs, x.size ≤ maxLen) (k : Nat) (hk : xs.length < k) :
    ∃ r, laws_szStringS.f k xs a = some r ∧ r ≤ a ∧ -1 ≤ r ∧ (0 ≤ r → (xs.length : Int) ≤ a) := by
  have hl' : xs.length ≤ 9223372036854775807 := by unfold maxLen at hl; omega
  unfold laws_szStringS.f
  rw [wrapIn (by omega) (by omega)]
  by_cases h : a - (xs.length : Int) < 0
  · rw [if_pos h]; exact ⟨_, rfl, by omega, by omega, fun _ => by omega⟩
  · rw [if_neg h]
    have hsm : xs.length ≤ 1048576 := by omega
    have key := loopInd xs.length (fun k i => ∀ b : Int, 0 ≤ b → b ≤ a - xs.length → ∃ r, laws_szStringS.l0 k xs b (i : Int) = some r ∧ r ≤ b ∧ -1 ≤ r) ?_ ?_ 0 k (Nat.zero_le _) (by omega) (a - xs.length) (by omega) (by omega)
    · obtain ⟨r, h1, h2, h3⟩ := key
      exact ⟨r, h1, by omega, h3, fun _ => by omega⟩
    · intro k b hb _
      refine ⟨b, ?_, by omega, by omega⟩
      simp only [laws_szStringS.l0]
      rw [if_neg (by omega)]
    · intro k i hi ih b hb hba
      simp only [laws_szStringS.l0]
      have hx : xs[i].size ≤ 9223372036854775807 := by have := hs _ (List.getElem_mem hi); unfold maxLen at this; omega
      rw [if_pos (by omega), if_pos (by omega), wrapSucc hi (by omega)]
      unfold rdOf
      rw [getDAt hi, wrapIn (by omega) (by omega)]
      by_cases hneg : b - (xs[i].size : Int) < 0
      · rw [if_pos hneg]; exact ⟨_, rfl, by omega, by omega⟩
      · rw [if_neg hneg]
        obtain ⟨r, h1, h2, h3⟩ := ih (b - (xs[i].size : Int)) (by omega) (by omega)
        exact ⟨r, h1, by omega, h3⟩
theorem szNum (xs : List Int) (a : Int) (h0 : 0 ≤ a) (ha : a ≤ 1048576) (hl : xs.length ≤ maxLen) :
    ∃ r, laws_szIntS.f xs a = some r ∧ r ≤ a ∧ -1 ≤ r ∧ (0 ≤ r → (xs.length : Int) ≤ a) := by
  have hl' : xs.length ≤ 9223372036854775807 := by unfold maxLen at hl; omega
  unfold laws_szIntS.f
  rw [wrapIn (by omega) (by omega)]
  by_cases h : a - (xs.length : Int) < 0
  · rw [if_pos h]; exact ⟨_, rfl, by omega, by omega, fun _ => by omega⟩
  · rw [if_neg h]; exact ⟨_, rfl, by omega, by omega, fun _ => by omega⟩
theorem szMsgS (xs : List S70) (a : Int) (h0 : 0 ≤ a) (ha : a ≤ 1048576) (hl : xs.length ≤ maxLen) (hm : ∀ x ∈ xs, x.f6.size ≤ maxLen ∧ x.f7.length ≤ maxLen ∧ ∀ y ∈ x.f7, y.f1.size ≤ maxLen) (k : Nat) (hk : xs.length + 9223372036854775808 < k) :
    ∃ r, laws_szRecMessageS.f k xs a = some r ∧ r ≤ a ∧ -1 ≤ r ∧ (0 ≤ r → (xs.length : Int) ≤ a ∧ ∀ x ∈ xs, (x.f7.length : Int) ≤ a) := by
  have hl' : xs.length ≤ 9223372036854775807 := by unfold maxLen at hl; omega
  unfold laws_szRecMessageS.f
  rw [wrapIn (by omega) (by omega)]
  by_cases h : a - (xs.length : Int) < 0
  · rw [if_pos h]; exact ⟨_, rfl, by omega, by omega, fun h => by omega⟩
  · rw [if_neg h]
    have hsm : xs.length ≤ 1048576 := by omega
    have key := loopIndB xs.length 9223372036854775808 (fun k i => ∀ b : Int, 0 ≤ b → b ≤ a - xs.length → ∃ r, laws_szRecMessageS.l0 k xs b (i : Int) = some r ∧ r ≤ b ∧ -1 ≤ r ∧ (0 ≤ r → ∀ (j : Nat) (hj : j < xs.length), i ≤ j → (xs[j].f7.length : Int) ≤ a)) ?_ ?_ 0 k (Nat.zero_le _) (by omega) (a - xs.length) (by omega) (by omega)
    · obtain ⟨r, h1, h2, h3, h4⟩ := key
      refine ⟨r, h1, by omega, h3, fun hr => ⟨by omega, fun x hx => ?_⟩⟩
      obtain ⟨j, hj, rfl⟩ := List.getElem_of_mem hx
      exact h4 hr j hj (Nat.zero_le _)
    · intro k b hb _
      refine ⟨b, ?_, by omega, by omega, fun _ j hj hij => by omega⟩
      simp only [laws_szRecMessageS.l0]
      rw [if_neg (by omega)]
    · intro k i hi hB ih b hb hba
      simp only [laws_szRecMessageS.l0]
      rw [if_pos (by omega), if_pos (by omega), wrapSucc hi (by omega)]
      unfold rd_T70
      rw [getDAt hi]
      obtain ⟨m1, m2, m3⟩ := hm _ (List.getElem_mem hi)
      obtain ⟨t, ht, hta, htm, htl⟩ := szMsg xs[i].f0 xs[i].f1 xs[i].f2 xs[i].f3 xs[i].f4 xs[i].f5 xs[i].f6 xs[i].f7 b hb (by omega) m1 m2 m3 k (by unfold maxLen at m2; omega)
      rw [ht]
      simp only [Option.bind_some]
      by_cases hneg : t < 0
      · rw [if_pos hneg]; exact ⟨_, rfl, by omega, by omega, fun h => by omega⟩
      · rw [if_neg hneg]
        obtain ⟨r, h1, h2, h3, h4⟩ := ih t (by omega) (by omega)
        refine ⟨r, h1, by omega, h3, fun hr j hj hij => ?_⟩
        by_cases e : i = j
        · subst e; have := htl (by omega); omega
        · exact h4 hr j hj (by omega)
theorem szAckS (xs : List S108) (a : Int) (h0 : 0 ≤ a) (ha : a ≤ 1048576) (hl : xs.length ≤ maxLen) (hm : ∀ x ∈ xs, x.f1.length ≤ maxLen) (k : Nat) (hk : xs.length < k) :
    ∃ r, laws_szRecAckS.f k xs a = some r ∧ r ≤ a ∧ -1 ≤ r ∧ (0 ≤ r → (xs.length : Int) ≤ a ∧ ∀ x ∈ xs, (x.f1.length : Int) ≤ a) := by
  have hl' : xs.length ≤ 9223372036854775807 := by unfold maxLen at hl; omega
  unfold laws_szRecAckS.f
  rw [wrapIn (by omega) (by omega)]
  by_cases h : a - (xs.length : Int) < 0
  · rw [if_pos h]; exact ⟨_, rfl, by omega, by omega, fun h => by omega⟩
  · rw [if_neg h]
    have hsm : xs.length ≤ 1048576 := by omega
    have key := loopInd xs.length (fun k i => ∀ b : Int, 0 ≤ b → b ≤ a - xs.length → ∃ r, laws_szRecAckS.l0 k xs b (i : Int) = some r ∧ r ≤ b ∧ -1 ≤ r ∧ (0 ≤ r → ∀ (j : Nat) (hj : j < xs.length), i ≤ j → (xs[j].f1.length : Int) ≤ a)) ?_ ?_ 0 k (Nat.zero_le _) (by omega) (a - xs.length) (by omega) (by omega)
    · obtain ⟨r, h1, h2, h3, h4⟩ := key
      refine ⟨r, h1, by omega, h3, fun hr => ⟨by omega, fun x hx => ?_⟩⟩
      obtain ⟨j, hj, rfl⟩ := List.getElem_of_mem hx
      exact h4 hr j hj (Nat.zero_le _)
    · intro k b hb _
      refine ⟨b, ?_, by omega, by omega, fun _ j hj hij => by omega⟩
      simp only [laws_szRecAckS.l0]
      rw [if_neg (by omega)]
    · intro k i hi ih b hb hba
      simp only [laws_szRecAckS.l0]
      rw [if_pos (by omega), if_pos (by omega), wrapSucc hi (by omega)]
      unfold rd_T108 laws_szRecAck.f
      rw [getDAt hi]
      obtain ⟨t, ht, hta, htm, htl⟩ := szNum xs[i].f1 b hb (by omega) (hm _ (List.getElem_mem hi))
      rw [ht]
      simp only [Option.bind_some]
      by_cases hneg : t < 0
      · rw [if_pos hneg]; simp only [Option.bind_some]; rw [if_pos (by omega)]; exact ⟨_, rfl, by omega, by omega, fun h => by omega⟩
      · rw [if_neg hneg]; simp only [Option.bind_some]; rw [if_neg hneg]
        obtain ⟨r, h1, h2, h3, h4⟩ := ih t (by omega) (by omega)
        refine ⟨r, h1, by omega, h3, fun hr j hj hij => ?_⟩
        by_cases e : i = j
        · subst e; have := htl (by omega); omega
        · exact h4 hr j hj (by omega)

/-! ### mirrors of a recorder's parts -/
theorem toStr (xs : List ByteArray) (hl : xs.length ≤ 1048576) (k : Nat) (hk : xs.length < k) : laws_toStringS.f k xs = some xs := by
  unfold laws_toStringS.f
  rw [if_pos (by omega), if_pos (by rw [Int.toNat_natCast]; omega), Int.toNat_natCast]
  have key := loopInd xs.length (fun k i => laws_toStringS.l0 k xs (fill xs (⟨#[]⟩ : ByteArray) i) (i : Int) = some xs) ?_ ?_ 0 k (Nat.zero_le _) (by omega)
  · rw [fill_zero] at key
    exact key
  · intro k
    simp only [laws_toStringS.l0]
    rw [if_neg (by omega), fill_all]
  · intro k i hi ih
    simp only [laws_toStringS.l0]
    have hfl := fill_length xs (⟨#[]⟩ : ByteArray) i (by omega)
    rw [if_pos (by omega), if_pos (by omega), wrapSucc hi (by omega)]
    unfold rdOf
    rw [getDAt hi, if_pos (by rw [hfl]; omega), Int.toNat_natCast, fill_set _ _ _ hi]
    exact ih
theorem toNum (xs : List Int) (hl : xs.length ≤ 1048576) (k : Nat) (hk : xs.length < k) : laws_toIntS.f k xs = some xs := by
  unfold laws_toIntS.f
  rw [if_pos (by omega), if_pos (by rw [Int.toNat_natCast]; omega), Int.toNat_natCast]
  have key := loopInd xs.length (fun k i => laws_toIntS.l0 k xs (fill xs 0 i) (i : Int) = some xs) ?_ ?_ 0 k (Nat.zero_le _) (by omega)
  · rw [fill_zero] at key
    exact key
  · intro k
    simp only [laws_toIntS.l0]
    rw [if_neg (by omega), fill_all]
  · intro k i hi ih
    simp only [laws_toIntS.l0]
    have hfl := fill_length xs 0 i (by omega)
    rw [if_pos (by omega), if_pos (by omega), wrapSucc hi (by omega)]
    unfold rd
    rw [getDAt hi, if_pos (by rw [hfl]; omega), Int.toNat_natCast, fill_set _ _ _ hi]
    exact ih
def mMsg (x : S70) : S52 := ⟨x.f0, x.f1, x.f2, x.f3, x.f4, x.f5, x.f6, x.f7.map mSlot⟩
def mAck (x : S108) : S83 := ⟨x.f0, x.f1⟩
theorem toMsgS (xs : List S70) (hl : xs.length ≤ 1048576) (hm : ∀ x ∈ xs, x.f7.length ≤ 1048576) (k : Nat) (hk : xs.length + 1048577 < k) : laws_toRecMessageS.f k xs = some (xs.map mMsg) := by
  unfold laws_toRecMessageS.f
  rw [if_pos (by omega), if_pos (by rw [Int.toNat_natCast]; omega), Int.toNat_natCast]
  have key := loopIndB xs.length 1048577 (fun k i => laws_toRecMessageS.l0 k xs (fill (xs.map mMsg) z52 i) (i : Int) = some (xs.map mMsg)) ?_ ?_ 0 k (Nat.zero_le _) (by omega)
  · rw [fill_zero, List.length_map] at key
    exact key
  · intro k
    simp only [laws_toRecMessageS.l0]
    rw [if_neg (by omega)]
    have := fill_all (xs.map mMsg) z52
    rw [List.length_map] at this
    rw [this]
  · intro k i hi hB ih
    simp only [laws_toRecMessageS.l0]
    have hfl := fill_length (xs.map mMsg) z52 i (by rw [List.length_map]; omega)
    rw [List.length_map] at hfl
    rw [if_pos (by omega), if_pos (by omega), wrapSucc hi (by omega)]
    unfold laws_toRecMessage.f rd_T70
    rw [getDAt hi]
    have hx := hm _ (List.getElem_mem hi)
    rw [toSlotS _ hx k (by omega)]
    simp only [Option.bind_some]
    rw [if_pos (by rw [hfl]; omega), Int.toNat_natCast]
    have hs := fill_set (xs.map mMsg) z52 i (by rw [List.length_map]; omega)
    rw [List.getElem_map] at hs
    rw [show (⟨xs[i].f0, xs[i].f1, xs[i].f2, xs[i].f3, xs[i].f4, xs[i].f5, xs[i].f6, xs[i].f7.map mSlot⟩ : S52) = mMsg xs[i] from rfl, hs]
    exact ih
theorem toAckS (xs : List S108) (hl : xs.length ≤ 1048576) (hm : ∀ x ∈ xs, x.f1.length ≤ 1048576) (k : Nat) (hk : xs.length + 1048577 < k) : laws_toRecAckS.f k xs = some (xs.map mAck) := by
  unfold laws_toRecAckS.f
  rw [if_pos (by omega), if_pos (by rw [Int.toNat_natCast]; omega), Int.toNat_natCast]
  have key := loopIndB xs.length 1048577 (fun k i => laws_toRecAckS.l0 k xs (fill (xs.map mAck) z83 i) (i : Int) = some (xs.map mAck)) ?_ ?_ 0 k (Nat.zero_le _) (by omega)
  · rw [fill_zero, List.length_map] at key
    exact key
  · intro k
    simp only [laws_toRecAckS.l0]
    rw [if_neg (by omega)]
    have := fill_all (xs.map mAck) z83
    rw [List.length_map] at this
    rw [this]
  · intro k i hi hB ih
    simp only [laws_toRecAckS.l0]
    have hfl := fill_length (xs.map mAck) z83 i (by rw [List.length_map]; omega)
    rw [List.length_map] at hfl
    rw [if_pos (by omega), if_pos (by omega), wrapSucc hi (by omega)]
    unfold laws_toRecAck.f rd_T108
    rw [getDAt hi]
    have hx := hm _ (List.getElem_mem hi)
    rw [toNum _ hx k (by omega)]
    simp only [Option.bind_some]
    rw [if_pos (by rw [hfl]; omega), Int.toNat_natCast]
    have hs := fill_set (xs.map mAck) z83 i (by rw [List.length_map]; omega)
    rw [List.getElem_map] at hs
    rw [show (⟨xs[i].f0, xs[i].f1⟩ : S83) = mAck xs[i] from rfl, hs]
    exact ih

abbrev QC (w : World) (f : Nat) (args : Array Value) (c : Bool) : Prop := ∀ W, Below w.heap.size w W → Calls Try.prog f args W fun e w' => e = .returned (.bool c) ∧ Below W.heap.size W w'
abbrev MC (w : World) (f : Nat) (o : Int) (q : S52 → Bool) : Prop := ∀ (x : S52) (A : Option Addr) (c : Nat) (W : World), Below w.heap.size w W → Kd.C k93 W A x.f7.length x.f7 → x.f7.length ≤ c → Calls Try.prog f #[.agg #[.int .i64 x.f0, .int .i64 x.f1, .int .i64 x.f2, .int .i64 x.f3, .int .i64 x.f4, .int .i64 x.f5, .string x.f6, .slice A x.f7.length c], .int .i64 o] W fun e w' => e = .returned (.bool (q x)) ∧ Below W.heap.size W w'
abbrev AC (w : World) (f : Nat) (o : Int) : Prop := ∀ (x : List Int) (A : Option Addr) (c : Nat) (W : World), Below w.heap.size w W → Kd.C (Kd.int .i64) W A x.length x → x.length ≤ c → Calls Try.prog f #[.slice A x.length c, .int .i64 o] W fun e w' => e = .returned (.bool (numsB x o)) ∧ Below W.heap.size W w'
theorem allFrom_at (q : Nat → Bool) (n : Nat) (i : Int) (h0 : 0 ≤ i) (h1 : i < n) (hn : n ≤ 9223372036854775807) : allFrom q n i.toNat = (q i.toNat && allFrom q n (wrap64 (i + 1)).toNat) := by
  have e : (wrap64 (i + 1)).toNat = i.toNat + 1 := by rw [wrapIn (by omega) (by omega)]; omega
  rw [e, ← allFrom_step q (by omega)]
theorem recFactsH {W : World} {g : Nat} {t : TypeId} {a0 a1 a2 a3 a4 a5 a6 a7 a8 a9 a10 a11 a12 a13 a14 a15 a16 a17 : Value} (h : W.heap[g]? = some (.cells #[a0, a1, a2, a3, a4, a5, a6, a7, a8, a9, a10, a11, a12, a13, a14, a15, a16, a17] t (0, 0))) :
    W.cell? ⟨g, 0, none⟩ = some a0 ∧ W.cell? ⟨g, 1, none⟩ = some a1 ∧ W.cell? ⟨g, 3, none⟩ = some a3 ∧ W.cell? ⟨g, 4, none⟩ = some a4 ∧ W.cell? ⟨g, 5, none⟩ = some a5 ∧ W.cell? ⟨g, 6, none⟩ = some a6 ∧ W.cell? ⟨g, 7, none⟩ = some a7 ∧ W.cell? ⟨g, 8, none⟩ = some a8 ∧ W.cell? ⟨g, 9, none⟩ = some a9 ∧ W.cell? ⟨g, 10, none⟩ = some a10 ∧ W.cell? ⟨g, 14, none⟩ = some a14 ∧ W.cell? ⟨g, 15, none⟩ = some a15 ∧ W.cell? ⟨g, 17, none⟩ = some a17 :=
  have r := blk_cell h
  ⟨r 0, r 1, r 3, r 4, r 5, r 6, r 7, r 8, r 9, r 10, r 14, r 15, r 17⟩
theorem recFacts {W : World} {g : Nat} {t : TypeId} {a0 a1 a2 a3 a4 a5 a6 a7 a8 a9 a10 a11 a12 a13 a14 a15 a16 a17 : Value} (h : W.heap[g]? = some (.cells #[a0, a1, a2, a3, a4, a5, a6, a7, a8, a9, a10, a11, a12, a13, a14, a15, a16, a17] t (0, 0))) :
    W.cell? ⟨g, 1, none⟩ = some a1 ∧ W.cell? ⟨g, 2, none⟩ = some a2 ∧ W.cell? ⟨g, 6, none⟩ = some a6 ∧ W.cell? ⟨g, 9, none⟩ = some a9 ∧ W.cell? ⟨g, 10, none⟩ = some a10 ∧ W.cell? ⟨g, 11, none⟩ = some a11 ∧ W.cell? ⟨g, 12, none⟩ = some a12 ∧ W.cell? ⟨g, 13, none⟩ = some a13 ∧ W.cell? ⟨g, 14, none⟩ = some a14 ∧ W.cell? ⟨g, 15, none⟩ = some a15 ∧ W.cell? ⟨g, 16, none⟩ = some a16 ∧ W.cell? ⟨g, 17, none⟩ = some a17 :=
  have r := blk_cell h
  ⟨r 1, r 2, r 6, r 9, r 10, r 11, r 12, r 13, r 14, r 15, r 16, r 17⟩
theorem loopTrue {V R : Bool} {p : Nat → Bool} {n : Nat} {i : Int} (h : V = (allFrom p n i.toNat && R)) (h0 : 0 ≤ i) (h1 : i < n) (hn : n ≤ 9223372036854775807) (hx : p i.toNat = true) : V = (allFrom p n (wrap64 (i + 1)).toNat && R) := by
  rw [h, allFrom_at p n i h0 h1 hn, hx, Bool.true_and]
theorem loopFalse {V R : Bool} {p : Nat → Bool} {n : Nat} {i : Int} (h : V = (allFrom p n i.toNat && R)) (h0 : 0 ≤ i) (h1 : i < n) (hn : n ≤ 9223372036854775807) (hx : p i.toNat = false) : V = false := by
  rw [h, allFrom_at p n i h0 h1 hn, hx, Bool.false_and, Bool.false_and]
def specTail (r1 r2 r3 L T k8 kA kY kq b2 kS : Bool) : Bool := r1 && r2 && r3 && !(L && T) && (bif L || T then k8 && !(T && kA) && !(L && kY) else kq) && (b2 || kq && kS)

/-! ### the same data: the eq functions answer true -/
def eqint.r6.T : Bool × List (List Nat × List Nat) := (true, [([], []), ([], []), ([0, 1], [0, 1]), ([2], [2]), ([], []), ([], []), ([4, 5], [4, 5]), ([6], [6]), ([3, 7], [3, 7])])
def eqint.r6.B : List Nat := [0, 0, 3, 7, 0, 0, 48, 112, 255]
theorem eqint.r6.tab : rtab .any (opsOf Try.f56 6) = eqint.r6.T := by kernel_rfl
theorem eqint.r6.bits : waitsOk eqint.r6.T.2 eqint.r6.B = true := by kernel_rfl
set_option maxHeartbeats 8000000 in
set_option maxRecDepth 100000 in
theorem eqintSC (xs : List Int) (A A' : Option Addr) (c c' : Nat) (w : World) (h1 : Kd.C (Kd.int .i64) w A xs.length xs) (h2 : Kd.C (Kd.int .i64) w A' xs.length xs) (hc : xs.length ≤ c) (hc' : xs.length ≤ c') :
    Calls Try.prog 56 #[.slice A xs.length c, .slice A' xs.length c'] w fun e w' => e = .returned (.bool true) ∧ Below w.heap.size w w' := by
  have HR := Aside0.mk h1
  have HQ := Aside0.mk h2
  have HL := Aside0.mk h1.2.1
  clear h1 h2 hc hc'
  have HB := Aside0.mk (Below.refl w.heap.size w)
  go_enter Try.func56, Try.ntmps56
  go_wp2
  go_loopg [5] xs.length (fun kr v5 w' => ∃ (i : Int), v5 = .int .i64 i ∧ Aside0 (0 ≤ i ∧ i + kr = xs.length) ∧ Aside0 (Below w.heap.size w w'))
  case atStart => exact ⟨0, rfl, ⟨⟨Int.le_refl _, by omega⟩⟩, HB⟩
  case round =>
    clear HB
    obtain ⟨i, rfl, HI, HB⟩ := hrel
    by_cases hi : i < (xs.length : Int)
    · rcases gk with _ | gk1
      · exact absurd HI.out.2 (by omega)
      have hcd : decide (i < (xs.length : Int)) = true := decide_eq_true hi
      have hc0 : decide (0 ≤ i) = true := decide_eq_true HI.out.1
      have HI' := Aside0.mk hi
      have p0 := HI.out.1
      have p1 := hi
      clear hi
      go_upto_region 6 with (fail)
      have hbd : Below wr.heap.size wr wr.drew := below_drew1 (Below.refl _ wr)
      obtain ⟨ad, e, h0⟩ := Kd.at_int HR.out i p0 p1
      obtain ⟨ad', e', g0⟩ := Kd.at_int HQ.out i p0 p1
      subst e e'
      replace h0 := (HB.out.cell (World.block_lt_of_cell? w _ h0)).trans h0
      replace g0 := (HB.out.cell (World.block_lt_of_cell? w _ g0)).trans g0
      have dh0 := (hbd.cell (World.block_lt_of_cell? wr _ h0)).trans h0
      have dg0 := (hbd.cell (World.block_lt_of_cell? wr _ g0)).trans g0
      refine start_ (n := 9) (S := (fun w' => w'.cell? (ad.add i.toNat) = some (.int .i64 (rd xs i)) ∧ w'.cell? (ad'.add i.toNat) = some (.int .i64 (rd xs i)))) (ds := []) #[O,O,O,O,O,O,O,O,O] (by kernel_rfl) rfl rfl ⟨dh0, dg0⟩ (fun hHeld => ?_); refine with_tabW eqint.r6.tab eqint.r6.bits (fun HT_ HW_ => ?_)
      refine pure_ (i := 0) (N := some 17) (v := ?_) (a' := ?_) #[I,O,O,O,O,O,O,O,O] rfl rfl (any_of HT_.out (by kernel_rfl)) (fun _ _ _ h => h) (Or.inl ⟨by rfl, ?_⟩) ?_ ?_
      rotate_left; intro w'; go_simp; with_reducible rfl; rotate_left; simp only [Act.put, List.setIfInBounds_toArray, List.set_cons_zero, List.set_cons_succ, i64_w, i32_w]; rfl
      refine pure_ (i := 1) (N := some 18) (v := ?_) (a' := ?_) #[I,I,O,O,O,O,O,O,O] rfl rfl (any_of HT_.out (by kernel_rfl)) (fun _ _ _ h => h) (Or.inl ⟨by rfl, ?_⟩) ?_ ?_
      rotate_left; intro w'; go_simp; with_reducible rfl; rotate_left; simp only [Act.put, List.setIfInBounds_toArray, List.set_cons_zero, List.set_cons_succ, i64_w, i32_w]; rfl
      refine pure_ (i := 2) (N := some 19) (v := ?_) (a' := ?_) #[I,I,I,O,O,O,O,O,O] rfl rfl (any_of HT_.out (by kernel_rfl)) (fun _ _ _ h => h) (Or.inl ⟨by rfl, ?_⟩) ?_ ?_
      rotate_left; intro w'; go_simp; with_reducible rfl; rotate_left; simp only [Act.put, List.setIfInBounds_toArray, List.set_cons_zero, List.set_cons_succ, i64_w, i32_w]; rfl
      refine take_ (i := 3) (N := some 20) (v := ?_) (a' := ?_) #[I,I,I,I,O,O,O,O,O] rfl rfl (take_ofW HT_.out HW_.out (by kernel_rfl)) (fun _ _ _ h => h) (Or.inl ⟨by rfl, ?_⟩) hHeld ?_ ?_
      rotate_left; rintro w' ⟨s0, s1⟩; go_simp; with_reducible rfl; rotate_left; simp only [Act.put, List.setIfInBounds_toArray, List.set_cons_zero, List.set_cons_succ, i64_w, i32_w]; rfl
      refine pure_ (i := 4) (N := some 21) (v := ?_) (a' := ?_) #[I,I,I,I,I,O,O,O,O] rfl rfl (any_of HT_.out (by kernel_rfl)) (fun _ _ _ h => h) (Or.inl ⟨by rfl, ?_⟩) ?_ ?_
      rotate_left; intro w'; go_simp; with_reducible rfl; rotate_left; simp only [Act.put, List.setIfInBounds_toArray, List.set_cons_zero, List.set_cons_succ, i64_w, i32_w]; rfl
      refine pure_ (i := 5) (N := some 22) (v := ?_) (a' := ?_) #[I,I,I,I,I,I,O,O,O] rfl rfl (any_of HT_.out (by kernel_rfl)) (fun _ _ _ h => h) (Or.inl ⟨by rfl, ?_⟩) ?_ ?_
      rotate_left; intro w'; go_simp; with_reducible rfl; rotate_left; simp only [Act.put, List.setIfInBounds_toArray, List.set_cons_zero, List.set_cons_succ, i64_w, i32_w]; rfl
      refine pure_ (i := 6) (N := some 23) (v := ?_) (a' := ?_) #[I,I,I,I,I,I,I,O,O] rfl rfl (any_of HT_.out (by kernel_rfl)) (fun _ _ _ h => h) (Or.inl ⟨by rfl, ?_⟩) ?_ ?_
      rotate_left; intro w'; go_simp; with_reducible rfl; rotate_left; simp only [Act.put, List.setIfInBounds_toArray, List.set_cons_zero, List.set_cons_succ, i64_w, i32_w]; rfl
      refine take_ (i := 7) (N := some 24) (v := ?_) (a' := ?_) #[I,I,I,I,I,I,I,I,O] rfl rfl (take_ofW HT_.out HW_.out (by kernel_rfl)) (fun _ _ _ h => h) (Or.inl ⟨by rfl, ?_⟩) hHeld ?_ ?_
      rotate_left; rintro w' ⟨s0, s1⟩; go_simp; with_reducible rfl; rotate_left; simp only [Act.put, List.setIfInBounds_toArray, List.set_cons_zero, List.set_cons_succ, i64_w, i32_w]; rfl
      refine pure_ (i := 8) (N := some 25) (v := ?_) (a' := ?_) #[I,I,I,I,I,I,I,I,I] rfl rfl (any_of HT_.out (by kernel_rfl)) (fun _ _ _ h => h) (Or.inl ⟨by rfl, ?_⟩) ?_ ?_
      rotate_left; intro w'; go_simp; with_reducible rfl; rotate_left; simp only [Act.put, List.setIfInBounds_toArray, List.set_cons_zero, List.set_cons_succ, i64_w, i32_w]; rfl
      refine done_ (done_of HT_.out (by kernel_rfl)) ?_
      go_wp2
      go_roundg gk1
      case measure => omega
      case rel => exact ⟨wrap64 (i + 1), rfl, ⟨by have := HI.out; have := HL.out; have := HI'.out; rw [wrapIn (by omega) (by omega)]; omega⟩, ⟨below_step HB.out hbd⟩⟩
    · have hcd : decide (i < (xs.length : Int)) = false := decide_eq_false hi
      clear hi
      go_wp2
      go_ret
      exact ⟨rfl, HB.out⟩
def eqstring.r6.T : Bool × List (List Nat × List Nat) := (true, [([], []), ([], []), ([0, 1], [0, 1]), ([2], [2]), ([], []), ([], []), ([4, 5], [4, 5]), ([6], [6]), ([3, 7], [3, 7])])
def eqstring.r6.B : List Nat := [0, 0, 3, 7, 0, 0, 48, 112, 255]
theorem eqstring.r6.tab : rtab .any (opsOf Try.f55 6) = eqstring.r6.T := by kernel_rfl
theorem eqstring.r6.bits : waitsOk eqstring.r6.T.2 eqstring.r6.B = true := by kernel_rfl
set_option maxHeartbeats 8000000 in
set_option maxRecDepth 100000 in
theorem eqstringSC (xs : List ByteArray) (A A' : Option Addr) (c c' : Nat) (w : World) (h1 : Kd.C Kd.string w A xs.length xs) (h2 : Kd.C Kd.string w A' xs.length xs) (hc : xs.length ≤ c) (hc' : xs.length ≤ c') :
    Calls Try.prog 55 #[.slice A xs.length c, .slice A' xs.length c'] w fun e w' => e = .returned (.bool true) ∧ Below w.heap.size w w' := by
  have HR := Aside0.mk h1
  have HQ := Aside0.mk h2
  have HL := Aside0.mk h1.2.1
  clear h1 h2 hc hc'
  have HB := Aside0.mk (Below.refl w.heap.size w)
  go_enter Try.func55, Try.ntmps55
  go_wp2
  go_loopg [5] xs.length (fun kr v5 w' => ∃ (i : Int), v5 = .int .i64 i ∧ Aside0 (0 ≤ i ∧ i + kr = xs.length) ∧ Aside0 (Below w.heap.size w w'))
  case atStart => exact ⟨0, rfl, ⟨⟨Int.le_refl _, by omega⟩⟩, HB⟩
  case round =>
    clear HB
    obtain ⟨i, rfl, HI, HB⟩ := hrel
    by_cases hi : i < (xs.length : Int)
    · rcases gk with _ | gk1
      · exact absurd HI.out.2 (by omega)
      have hcd : decide (i < (xs.length : Int)) = true := decide_eq_true hi
      have hc0 : decide (0 ≤ i) = true := decide_eq_true HI.out.1
      have HI' := Aside0.mk hi
      have p0 := HI.out.1
      have p1 := hi
      clear hi
      go_upto_region 6 with (fail)
      have hbd : Below wr.heap.size wr wr.drew := below_drew1 (Below.refl _ wr)
      obtain ⟨ad, e, h0⟩ := Kd.at_string HR.out i p0 p1
      obtain ⟨ad', e', g0⟩ := Kd.at_string HQ.out i p0 p1
      subst e e'
      replace h0 := (HB.out.cell (World.block_lt_of_cell? w _ h0)).trans h0
      replace g0 := (HB.out.cell (World.block_lt_of_cell? w _ g0)).trans g0
      have dh0 := (hbd.cell (World.block_lt_of_cell? wr _ h0)).trans h0
      have dg0 := (hbd.cell (World.block_lt_of_cell? wr _ g0)).trans g0
      refine start_ (n := 9) (S := (fun w' => w'.cell? (ad.add i.toNat) = some (.string (rdOf ByteArray.empty xs i)) ∧ w'.cell? (ad'.add i.toNat) = some (.string (rdOf ByteArray.empty xs i)))) (ds := []) #[O,O,O,O,O,O,O,O,O] (by kernel_rfl) rfl rfl ⟨dh0, dg0⟩ (fun hHeld => ?_); refine with_tabW eqstring.r6.tab eqstring.r6.bits (fun HT_ HW_ => ?_)
      refine pure_ (i := 0) (N := some 17) (v := ?_) (a' := ?_) #[I,O,O,O,O,O,O,O,O] rfl rfl (any_of HT_.out (by kernel_rfl)) (fun _ _ _ h => h) (Or.inl ⟨by rfl, ?_⟩) ?_ ?_
      rotate_left; intro w'; go_simp; with_reducible rfl; rotate_left; simp only [Act.put, List.setIfInBounds_toArray, List.set_cons_zero, List.set_cons_succ, i64_w, i32_w]; rfl
      refine pure_ (i := 1) (N := some 18) (v := ?_) (a' := ?_) #[I,I,O,O,O,O,O,O,O] rfl rfl (any_of HT_.out (by kernel_rfl)) (fun _ _ _ h => h) (Or.inl ⟨by rfl, ?_⟩) ?_ ?_
      rotate_left; intro w'; go_simp; with_reducible rfl; rotate_left; simp only [Act.put, List.setIfInBounds_toArray, List.set_cons_zero, List.set_cons_succ, i64_w, i32_w]; rfl
      refine pure_ (i := 2) (N := some 19) (v := ?_) (a' := ?_) #[I,I,I,O,O,O,O,O,O] rfl rfl (any_of HT_.out (by kernel_rfl)) (fun _ _ _ h => h) (Or.inl ⟨by rfl, ?_⟩) ?_ ?_
      rotate_left; intro w'; go_simp; with_reducible rfl; rotate_left; simp only [Act.put, List.setIfInBounds_toArray, List.set_cons_zero, List.set_cons_succ, i64_w, i32_w]; rfl
      refine take_ (i := 3) (N := some 20) (v := ?_) (a' := ?_) #[I,I,I,I,O,O,O,O,O] rfl rfl (take_ofW HT_.out HW_.out (by kernel_rfl)) (fun _ _ _ h => h) (Or.inl ⟨by rfl, ?_⟩) hHeld ?_ ?_
      rotate_left; rintro w' ⟨s0, s1⟩; go_simp; with_reducible rfl; rotate_left; simp only [Act.put, List.setIfInBounds_toArray, List.set_cons_zero, List.set_cons_succ, i64_w, i32_w]; rfl
      refine pure_ (i := 4) (N := some 21) (v := ?_) (a' := ?_) #[I,I,I,I,I,O,O,O,O] rfl rfl (any_of HT_.out (by kernel_rfl)) (fun _ _ _ h => h) (Or.inl ⟨by rfl, ?_⟩) ?_ ?_
      rotate_left; intro w'; go_simp; with_reducible rfl; rotate_left; simp only [Act.put, List.setIfInBounds_toArray, List.set_cons_zero, List.set_cons_succ, i64_w, i32_w]; rfl
      refine pure_ (i := 5) (N := some 22) (v := ?_) (a' := ?_) #[I,I,I,I,I,I,O,O,O] rfl rfl (any_of HT_.out (by kernel_rfl)) (fun _ _ _ h => h) (Or.inl ⟨by rfl, ?_⟩) ?_ ?_
      rotate_left; intro w'; go_simp; with_reducible rfl; rotate_left; simp only [Act.put, List.setIfInBounds_toArray, List.set_cons_zero, List.set_cons_succ, i64_w, i32_w]; rfl
      refine pure_ (i := 6) (N := some 23) (v := ?_) (a' := ?_) #[I,I,I,I,I,I,I,O,O] rfl rfl (any_of HT_.out (by kernel_rfl)) (fun _ _ _ h => h) (Or.inl ⟨by rfl, ?_⟩) ?_ ?_
      rotate_left; intro w'; go_simp; with_reducible rfl; rotate_left; simp only [Act.put, List.setIfInBounds_toArray, List.set_cons_zero, List.set_cons_succ, i64_w, i32_w]; rfl
      refine take_ (i := 7) (N := some 24) (v := ?_) (a' := ?_) #[I,I,I,I,I,I,I,I,O] rfl rfl (take_ofW HT_.out HW_.out (by kernel_rfl)) (fun _ _ _ h => h) (Or.inl ⟨by rfl, ?_⟩) hHeld ?_ ?_
      rotate_left; rintro w' ⟨s0, s1⟩; go_simp; with_reducible rfl; rotate_left; simp only [Act.put, List.setIfInBounds_toArray, List.set_cons_zero, List.set_cons_succ, i64_w, i32_w]; rfl
      refine pure_ (i := 8) (N := some 25) (v := ?_) (a' := ?_) #[I,I,I,I,I,I,I,I,I] rfl rfl (any_of HT_.out (by kernel_rfl)) (fun _ _ _ h => h) (Or.inl ⟨by rfl, ?_⟩) ?_ ?_
      rotate_left; intro w'; go_simp; with_reducible rfl; rotate_left; simp only [Act.put, List.setIfInBounds_toArray, List.set_cons_zero, List.set_cons_succ, i64_w, i32_w]; rfl
      refine done_ (done_of HT_.out (by kernel_rfl)) ?_
      go_wp2
      go_roundg gk1
      case measure => omega
      case rel => exact ⟨wrap64 (i + 1), rfl, ⟨by have := HI.out; have := HL.out; have := HI'.out; rw [wrapIn (by omega) (by omega)]; omega⟩, ⟨below_step HB.out hbd⟩⟩
    · have hcd : decide (i < (xs.length : Int)) = false := decide_eq_false hi
      clear hi
      go_wp2
      go_ret
      exact ⟨rfl, HB.out⟩
set_option maxHeartbeats 4000000 in
set_option maxRecDepth 100000 in
theorem eqRecSlotC (x : S93) (w : World) :
    Calls Try.prog 63 #[.agg #[.int .i64 x.f0, .string x.f1], .agg #[.int .i64 x.f0, .string x.f1]] w fun e w' => e = .returned (.bool true) ∧ Below w.heap.size w w' := by
  have hu := Try.underlying93
  have HB := Aside0.mk (Below.refl w.heap.size w)
  go_enter Try.func63, Try.ntmps63
  go_wp2_with (first
    | ((with_reducible refine gate_dst (N := 2) rfl ?_); refine box_event ?hg (N := 2) ?hd (cs := #[.int .i64 x.f0, .string x.f1]) (t := 93) ?hr ?_; (case hd => rfl); (case hg => rfl); (case hr => first | (go_simp; done) | (go_simp; rfl)); intro ga _hg w1 hbox hb; have n0_ := Aside0.mk (below_step HB.out hb); clear HB; have HB := n0_; clear n0_; have BA := Aside0.mk hbox; clear hb hbox _hg; have ra := blk_cell BA.out)
    | ((with_reducible refine gate_dst (N := 3) rfl ?_); refine box_event ?hg (N := 3) ?hd (cs := #[.int .i64 x.f0, .string x.f1]) (t := 93) ?hr ?_; (case hd => rfl); (case hg => rfl); (case hr => first | (go_simp; done) | (go_simp; rfl)); intro gb _hg w2 hbox hb; have n0_ := Aside0.mk (below_step HB.out hb); have n1_ := Aside0.mk (blk_below BA.out hb); clear HB BA; have HB := n0_; have BA := n1_; clear n0_ n1_ ra; have BB := Aside0.mk hbox; clear hb hbox _hg; have ra := blk_cell BA.out; have rb := blk_cell BB.out))
  go_ret
  exact ⟨rfl, HB.out⟩
def eqRecSlot.r6.T : Bool × List (List Nat × List Nat) := (true, [([], []), ([], []), ([0, 1], [0, 1]), ([2], [2]), ([], []), ([], []), ([4, 5], [4, 5]), ([6], [6]), ([3, 7], [3, 7]), ([8], [8])])
def eqRecSlot.r6.B : List Nat := [0, 0, 3, 7, 0, 0, 48, 112, 255, 511]
theorem eqRecSlot.r6.tab : rtab .any (opsOf Try.f57 6) = eqRecSlot.r6.T := by kernel_rfl
theorem eqRecSlot.r6.bits : waitsOk eqRecSlot.r6.T.2 eqRecSlot.r6.B = true := by kernel_rfl
set_option maxHeartbeats 8000000 in
set_option maxRecDepth 100000 in
theorem eqRecSlotSC (xs : List S93) (A A' : Option Addr) (c c' : Nat) (w : World) (h1 : Kd.C k93 w A xs.length xs) (h2 : Kd.C k93 w A' xs.length xs) (hc : xs.length ≤ c) (hc' : xs.length ≤ c') :
    Calls Try.prog 57 #[.slice A xs.length c, .slice A' xs.length c'] w fun e w' => e = .returned (.bool true) ∧ Below w.heap.size w w' := by
  have hu := Try.underlying93
  have HR := Aside0.mk h1
  have HQ := Aside0.mk h2
  have HL := Aside0.mk h1.2.1
  clear h1 h2 hc hc'
  have HB := Aside0.mk (Below.refl w.heap.size w)
  go_enter Try.func57, Try.ntmps57
  go_wp2
  go_loopg [5] xs.length (fun kr v5 w' => ∃ (i : Int), v5 = .int .i64 i ∧ Aside0 (0 ≤ i ∧ i + kr = xs.length) ∧ Aside0 (Below w.heap.size w w'))
  case atStart => exact ⟨0, rfl, ⟨⟨Int.le_refl _, by omega⟩⟩, HB⟩
  case round =>
    clear HB
    obtain ⟨i, rfl, HI, HB⟩ := hrel
    by_cases hi : i < (xs.length : Int)
    · rcases gk with _ | gk1
      · exact absurd HI.out.2 (by omega)
      have hcd : decide (i < (xs.length : Int)) = true := decide_eq_true hi
      have hc0 : decide (0 ≤ i) = true := decide_eq_true HI.out.1
      have HI' := Aside0.mk hi
      have p0 := HI.out.1
      have p1 := hi
      clear hi
      go_upto_region 6 with (fail)
      have hbd : Below wr.heap.size wr wr.drew := below_drew1 (Below.refl _ wr)
      obtain ⟨ad, e, h0, h1⟩ := at_T93 HR.out i p0 p1
      obtain ⟨ad', e', g0, g1⟩ := at_T93 HQ.out i p0 p1
      subst e e'
      replace h0 := (HB.out.cell (World.block_lt_of_cell? w _ h0)).trans h0
      replace h1 := (HB.out.cell (World.block_lt_of_cell? w _ h1)).trans h1
      replace g0 := (HB.out.cell (World.block_lt_of_cell? w _ g0)).trans g0
      replace g1 := (HB.out.cell (World.block_lt_of_cell? w _ g1)).trans g1
      have dh0 := (hbd.cell (World.block_lt_of_cell? wr _ h0)).trans h0
      have dh1 := (hbd.cell (World.block_lt_of_cell? wr _ h1)).trans h1
      have dg0 := (hbd.cell (World.block_lt_of_cell? wr _ g0)).trans g0
      have dg1 := (hbd.cell (World.block_lt_of_cell? wr _ g1)).trans g1
      refine start_ (n := 10) (S := (fun w' => w'.cell? (ad.add (i.toNat * 2)) = some (.int .i64 (rd_T93 xs i).f0) ∧ w'.cell? ⟨(ad.add (i.toNat * 2)).block, (ad.add (i.toNat * 2)).off + 1, none⟩ = some (.string (rd_T93 xs i).f1) ∧ w'.cell? (ad'.add (i.toNat * 2)) = some (.int .i64 (rd_T93 xs i).f0) ∧ w'.cell? ⟨(ad'.add (i.toNat * 2)).block, (ad'.add (i.toNat * 2)).off + 1, none⟩ = some (.string (rd_T93 xs i).f1))) (ds := []) #[O,O,O,O,O,O,O,O,O,O] (by kernel_rfl) rfl rfl ⟨dh0, dh1, dg0, dg1⟩ (fun hHeld => ?_); refine with_tabW eqRecSlot.r6.tab eqRecSlot.r6.bits (fun HT_ HW_ => ?_)
      refine pure_ (i := 0) (N := some 17) (v := ?_) (a' := ?_) #[I,O,O,O,O,O,O,O,O,O] rfl rfl (any_of HT_.out (by kernel_rfl)) (fun _ _ _ h => h) (Or.inl ⟨by rfl, ?_⟩) ?_ ?_
      rotate_left; intro w'; go_simp; with_reducible rfl; rotate_left; simp only [Act.put, List.setIfInBounds_toArray, List.set_cons_zero, List.set_cons_succ, i64_w, i32_w]; rfl
      refine pure_ (i := 1) (N := some 18) (v := ?_) (a' := ?_) #[I,I,O,O,O,O,O,O,O,O] rfl rfl (any_of HT_.out (by kernel_rfl)) (fun _ _ _ h => h) (Or.inl ⟨by rfl, ?_⟩) ?_ ?_
      rotate_left; intro w'; go_simp; with_reducible rfl; rotate_left; simp only [Act.put, List.setIfInBounds_toArray, List.set_cons_zero, List.set_cons_succ, i64_w, i32_w]; rfl
      refine pure_ (i := 2) (N := some 19) (v := ?_) (a' := ?_) #[I,I,I,O,O,O,O,O,O,O] rfl rfl (any_of HT_.out (by kernel_rfl)) (fun _ _ _ h => h) (Or.inl ⟨by rfl, ?_⟩) ?_ ?_
      rotate_left; intro w'; go_simp; with_reducible rfl; rotate_left; simp only [Act.put, List.setIfInBounds_toArray, List.set_cons_zero, List.set_cons_succ, i64_w, i32_w]; rfl
      refine take_ (i := 3) (N := some 20) (v := ?_) (a' := ?_) #[I,I,I,I,O,O,O,O,O,O] rfl rfl (take_ofW HT_.out HW_.out (by kernel_rfl)) (fun _ _ _ h => h) (Or.inl ⟨by rfl, ?_⟩) hHeld ?_ ?_
      rotate_left; rintro w' ⟨s0, s1, s2, s3⟩; go_simp; with_reducible rfl; rotate_left; simp only [Act.put, List.setIfInBounds_toArray, List.set_cons_zero, List.set_cons_succ, i64_w, i32_w]; rfl
      refine pure_ (i := 4) (N := some 21) (v := ?_) (a' := ?_) #[I,I,I,I,I,O,O,O,O,O] rfl rfl (any_of HT_.out (by kernel_rfl)) (fun _ _ _ h => h) (Or.inl ⟨by rfl, ?_⟩) ?_ ?_
      rotate_left; intro w'; go_simp; with_reducible rfl; rotate_left; simp only [Act.put, List.setIfInBounds_toArray, List.set_cons_zero, List.set_cons_succ, i64_w, i32_w]; rfl
      refine pure_ (i := 5) (N := some 22) (v := ?_) (a' := ?_) #[I,I,I,I,I,I,O,O,O,O] rfl rfl (any_of HT_.out (by kernel_rfl)) (fun _ _ _ h => h) (Or.inl ⟨by rfl, ?_⟩) ?_ ?_
      rotate_left; intro w'; go_simp; with_reducible rfl; rotate_left; simp only [Act.put, List.setIfInBounds_toArray, List.set_cons_zero, List.set_cons_succ, i64_w, i32_w]; rfl
      refine pure_ (i := 6) (N := some 23) (v := ?_) (a' := ?_) #[I,I,I,I,I,I,I,O,O,O] rfl rfl (any_of HT_.out (by kernel_rfl)) (fun _ _ _ h => h) (Or.inl ⟨by rfl, ?_⟩) ?_ ?_
      rotate_left; intro w'; go_simp; with_reducible rfl; rotate_left; simp only [Act.put, List.setIfInBounds_toArray, List.set_cons_zero, List.set_cons_succ, i64_w, i32_w]; rfl
      refine take_ (i := 7) (N := some 24) (v := ?_) (a' := ?_) #[I,I,I,I,I,I,I,I,O,O] rfl rfl (take_ofW HT_.out HW_.out (by kernel_rfl)) (fun _ _ _ h => h) (Or.inl ⟨by rfl, ?_⟩) hHeld ?_ ?_
      rotate_left; rintro w' ⟨s0, s1, s2, s3⟩; go_simp; with_reducible rfl; rotate_left; simp only [Act.put, List.setIfInBounds_toArray, List.set_cons_zero, List.set_cons_succ, i64_w, i32_w]; rfl
      refine one_ (i := 8) (N := some 25) #[I,I,I,I,I,I,I,I,I,O] rfl rfl (one_of HT_.out (by kernel_rfl)) (by decide) (fun K hK => ?_)
      refine goes_ Try.func63 (by kernel_rfl) rfl #[.agg #[.int .i64 (rd_T93 xs i).f0, .string (rd_T93 xs i).f1], .agg #[.int .i64 (rd_T93 xs i).f0, .string (rd_T93 xs i).f1]] (by rfl) rfl rfl (by (try simp only [List.map_toArray, List.map_cons, List.map_nil]); first | done | rfl) ?_
      with_reducible refine (eqRecSlotC (rd_T93 xs i) _).mono ?_
      rintro e wn ⟨rfl, hb⟩
      have hb2 := below_step hbd hb
      have kh0 := (hb2.cell (World.block_lt_of_cell? wr _ h0)).trans h0; have kh1 := (hb2.cell (World.block_lt_of_cell? wr _ h1)).trans h1; have kg0 := (hb2.cell (World.block_lt_of_cell? wr _ g0)).trans g0; have kg1 := (hb2.cell (World.block_lt_of_cell? wr _ g1)).trans g1
      refine ⟨_, rfl, ?_⟩
      refine hK.out _ _ ⟨kh0, kh1, kg0, kg1⟩ (fun hHeld => ?_)
      clear hK K
      refine norm_ (a' := ?_) ?_ ?_
      rotate_left
      · show Act.put _ (some 25) _ = _
        simp only [Act.put, List.setIfInBounds_toArray, List.set_cons_zero, List.set_cons_succ, i64_w, i32_w]
        rfl
      refine pure_ (i := 9) (N := some 26) (v := ?_) (a' := ?_) #[I,I,I,I,I,I,I,I,I,I] rfl rfl (any_of HT_.out (by kernel_rfl)) (fun _ _ _ h => h) (Or.inl ⟨by rfl, ?_⟩) ?_ ?_
      rotate_left; intro w'; go_simp; with_reducible rfl; rotate_left; simp only [Act.put, List.setIfInBounds_toArray, List.set_cons_zero, List.set_cons_succ, i64_w, i32_w]; rfl
      refine done_ (done_of HT_.out (by kernel_rfl)) ?_
      go_wp2
      go_roundg gk1
      case measure => omega
      case rel => exact ⟨wrap64 (i + 1), rfl, ⟨by have := HI.out; have := HL.out; have := HI'.out; rw [wrapIn (by omega) (by omega)]; omega⟩, ⟨below_step HB.out hb2⟩⟩
    · have hcd : decide (i < (xs.length : Int)) = false := decide_eq_false hi
      clear hi
      go_wp2
      go_ret
      exact ⟨rfl, HB.out⟩
set_option maxHeartbeats 4000000 in
set_option maxRecDepth 100000 in
theorem eqRecMessageC (x : S52) (A A' : Option Addr) (c c' : Nat) (w : World) (h1 : Kd.C k93 w A x.f7.length x.f7) (h2 : Kd.C k93 w A' x.f7.length x.f7) (hc : x.f7.length ≤ c) (hc' : x.f7.length ≤ c') :
    Calls Try.prog 41 #[.agg #[.int .i64 x.f0, .int .i64 x.f1, .int .i64 x.f2, .int .i64 x.f3, .int .i64 x.f4, .int .i64 x.f5, .string x.f6, .slice A x.f7.length c], .agg #[.int .i64 x.f0, .int .i64 x.f1, .int .i64 x.f2, .int .i64 x.f3, .int .i64 x.f4, .int .i64 x.f5, .string x.f6, .slice A' x.f7.length c']] w fun e w' => e = .returned (.bool true) ∧ Below w.heap.size w w' := by
  have hu := Try.underlying52
  have H1 := Aside0.mk h1
  have H2 := Aside0.mk h2
  have H3 := Aside0.mk (And.intro hc hc')
  clear h1 h2 hc hc'
  have HB := Aside0.mk (Below.refl w.heap.size w)
  go_enter Try.func41, Try.ntmps41
  go_wp2_with (first
    | ((with_reducible refine gate_dst (N := 2) rfl ?_); refine box_event ?hg (N := 2) ?hd (cs := #[.int .i64 x.f0, .int .i64 x.f1, .int .i64 x.f2, .int .i64 x.f3, .int .i64 x.f4, .int .i64 x.f5, .string x.f6, .slice A x.f7.length c]) (t := 52) ?hr ?_; (case hd => rfl); (case hg => rfl); (case hr => first | (go_simp; done) | (go_simp; rfl)); intro ga _hg w1 hbox hb; have n0_ := Aside0.mk (below_step HB.out hb); clear HB; have HB := n0_; clear n0_; have BA := Aside0.mk hbox; clear hb hbox _hg; have ra := blk_cell BA.out)
    | ((with_reducible refine gate_dst (N := 3) rfl ?_); refine box_event ?hg (N := 3) ?hd (cs := #[.int .i64 x.f0, .int .i64 x.f1, .int .i64 x.f2, .int .i64 x.f3, .int .i64 x.f4, .int .i64 x.f5, .string x.f6, .slice A' x.f7.length c']) (t := 52) ?hr ?_; (case hd => rfl); (case hg => rfl); (case hr => first | (go_simp; done) | (go_simp; rfl)); intro gb _hg w2 hbox hb; have n0_ := Aside0.mk (below_step HB.out hb); have n1_ := Aside0.mk (blk_below BA.out hb); clear HB BA; have HB := n0_; have BA := n1_; clear n0_ n1_ ra; have BB := Aside0.mk hbox; clear hb hbox _hg; have ra := blk_cell BA.out; have rb := blk_cell BB.out)
    | (go_at_call 57; (with_reducible refine (eqRecSlotSC _ _ _ _ _ _ (Kd.C_below H1.out HB.out) (Kd.C_below H2.out HB.out) H3.out.1 H3.out.2).mono ?_); rintro e wn ⟨rfl, hb⟩; have n0_ := Aside0.mk (below_step HB.out hb); have n1_ := Aside0.mk (blk_below BA.out hb); have n2_ := Aside0.mk (blk_below BB.out hb); clear HB BA BB; have HB := n0_; have BA := n1_; have BB := n2_; clear n0_ n1_ n2_ ra rb; clear hb; have ra := blk_cell BA.out; have rb := blk_cell BB.out))
  go_ret
  exact ⟨rfl, HB.out⟩
def eqRecMessage.r6.T : Bool × List (List Nat × List Nat) := (true, [([], []), ([], []), ([0, 1], [0, 1]), ([2], [2]), ([], []), ([], []), ([4, 5], [4, 5]), ([6], [6]), ([3, 7], [3, 7]), ([8], [8])])
def eqRecMessage.r6.B : List Nat := [0, 0, 3, 7, 0, 0, 48, 112, 255, 511]
theorem eqRecMessage.r6.tab : rtab .any (opsOf Try.f22 6) = eqRecMessage.r6.T := by kernel_rfl
theorem eqRecMessage.r6.bits : waitsOk eqRecMessage.r6.T.2 eqRecMessage.r6.B = true := by kernel_rfl
set_option maxHeartbeats 8000000 in
set_option maxRecDepth 100000 in
theorem eqRecMessageSC (xs : List S52) (A A' : Option Addr) (c c' : Nat) (w : World) (h1 : Kd.C k52 w A xs.length xs) (h2 : Kd.C k52 w A' xs.length xs) (hc : xs.length ≤ c) (hc' : xs.length ≤ c') :
    Calls Try.prog 22 #[.slice A xs.length c, .slice A' xs.length c'] w fun e w' => e = .returned (.bool true) ∧ Below w.heap.size w w' := by
  have hu := Try.underlying52
  have HR := Aside0.mk h1
  have HQ := Aside0.mk h2
  have HL := Aside0.mk h1.2.1
  clear h1 h2 hc hc'
  have HB := Aside0.mk (Below.refl w.heap.size w)
  go_enter Try.func22, Try.ntmps22
  go_wp2
  go_loopg [5] xs.length (fun kr v5 w' => ∃ (i : Int), v5 = .int .i64 i ∧ Aside0 (0 ≤ i ∧ i + kr = xs.length) ∧ Aside0 (Below w.heap.size w w'))
  case atStart => exact ⟨0, rfl, ⟨⟨Int.le_refl _, by omega⟩⟩, HB⟩
  case round =>
    clear HB
    obtain ⟨i, rfl, HI, HB⟩ := hrel
    by_cases hi : i < (xs.length : Int)
    · rcases gk with _ | gk1
      · exact absurd HI.out.2 (by omega)
      have hcd : decide (i < (xs.length : Int)) = true := decide_eq_true hi
      have hc0 : decide (0 ≤ i) = true := decide_eq_true HI.out.1
      have HI' := Aside0.mk hi
      have p0 := HI.out.1
      have p1 := hi
      clear hi
      go_upto_region 6 with (fail)
      have hbd : Below wr.heap.size wr wr.drew := below_drew1 (Below.refl _ wr)
      obtain ⟨ad, A7, c7, e, h0, h1, h2, h3, h4, h5, h6, h7, hl7, hx7⟩ := at_T52 HR.out i p0 p1
      obtain ⟨ad', A7', c7', e', g0, g1, g2, g3, g4, g5, g6, g7, gl7, gx7⟩ := at_T52 HQ.out i p0 p1
      subst e e'
      replace h0 := (HB.out.cell (World.block_lt_of_cell? w _ h0)).trans h0
      replace h1 := (HB.out.cell (World.block_lt_of_cell? w _ h1)).trans h1
      replace h2 := (HB.out.cell (World.block_lt_of_cell? w _ h2)).trans h2
      replace h3 := (HB.out.cell (World.block_lt_of_cell? w _ h3)).trans h3
      replace h4 := (HB.out.cell (World.block_lt_of_cell? w _ h4)).trans h4
      replace h5 := (HB.out.cell (World.block_lt_of_cell? w _ h5)).trans h5
      replace h6 := (HB.out.cell (World.block_lt_of_cell? w _ h6)).trans h6
      replace h7 := (HB.out.cell (World.block_lt_of_cell? w _ h7)).trans h7
      replace g0 := (HB.out.cell (World.block_lt_of_cell? w _ g0)).trans g0
      replace g1 := (HB.out.cell (World.block_lt_of_cell? w _ g1)).trans g1
      replace g2 := (HB.out.cell (World.block_lt_of_cell? w _ g2)).trans g2
      replace g3 := (HB.out.cell (World.block_lt_of_cell? w _ g3)).trans g3
      replace g4 := (HB.out.cell (World.block_lt_of_cell? w _ g4)).trans g4
      replace g5 := (HB.out.cell (World.block_lt_of_cell? w _ g5)).trans g5
      replace g6 := (HB.out.cell (World.block_lt_of_cell? w _ g6)).trans g6
      replace g7 := (HB.out.cell (World.block_lt_of_cell? w _ g7)).trans g7
      have dh0 := (hbd.cell (World.block_lt_of_cell? wr _ h0)).trans h0
      have dh1 := (hbd.cell (World.block_lt_of_cell? wr _ h1)).trans h1
      have dh2 := (hbd.cell (World.block_lt_of_cell? wr _ h2)).trans h2
      have dh3 := (hbd.cell (World.block_lt_of_cell? wr _ h3)).trans h3
      have dh4 := (hbd.cell (World.block_lt_of_cell? wr _ h4)).trans h4
      have dh5 := (hbd.cell (World.block_lt_of_cell? wr _ h5)).trans h5
      have dh6 := (hbd.cell (World.block_lt_of_cell? wr _ h6)).trans h6
      have dh7 := (hbd.cell (World.block_lt_of_cell? wr _ h7)).trans h7
      have dg0 := (hbd.cell (World.block_lt_of_cell? wr _ g0)).trans g0
      have dg1 := (hbd.cell (World.block_lt_of_cell? wr _ g1)).trans g1
      have dg2 := (hbd.cell (World.block_lt_of_cell? wr _ g2)).trans g2
      have dg3 := (hbd.cell (World.block_lt_of_cell? wr _ g3)).trans g3
      have dg4 := (hbd.cell (World.block_lt_of_cell? wr _ g4)).trans g4
      have dg5 := (hbd.cell (World.block_lt_of_cell? wr _ g5)).trans g5
      have dg6 := (hbd.cell (World.block_lt_of_cell? wr _ g6)).trans g6
      have dg7 := (hbd.cell (World.block_lt_of_cell? wr _ g7)).trans g7
      refine start_ (n := 10) (S := (fun w' => w'.cell? (ad.add (i.toNat * 8)) = some (.int .i64 (rd_T52 xs i).f0) ∧ w'.cell? ⟨(ad.add (i.toNat * 8)).block, (ad.add (i.toNat * 8)).off + 1, none⟩ = some (.int .i64 (rd_T52 xs i).f1) ∧ w'.cell? ⟨(ad.add (i.toNat * 8)).block, (ad.add (i.toNat * 8)).off + 2, none⟩ = some (.int .i64 (rd_T52 xs i).f2) ∧ w'.cell? ⟨(ad.add (i.toNat * 8)).block, (ad.add (i.toNat * 8)).off + 3, none⟩ = some (.int .i64 (rd_T52 xs i).f3) ∧ w'.cell? ⟨(ad.add (i.toNat * 8)).block, (ad.add (i.toNat * 8)).off + 4, none⟩ = some (.int .i64 (rd_T52 xs i).f4) ∧ w'.cell? ⟨(ad.add (i.toNat * 8)).block, (ad.add (i.toNat * 8)).off + 5, none⟩ = some (.int .i64 (rd_T52 xs i).f5) ∧ w'.cell? ⟨(ad.add (i.toNat * 8)).block, (ad.add (i.toNat * 8)).off + 6, none⟩ = some (.string (rd_T52 xs i).f6) ∧ w'.cell? ⟨(ad.add (i.toNat * 8)).block, (ad.add (i.toNat * 8)).off + 7, none⟩ = some (.slice A7 (rd_T52 xs i).f7.length c7) ∧ w'.cell? (ad'.add (i.toNat * 8)) = some (.int .i64 (rd_T52 xs i).f0) ∧ w'.cell? ⟨(ad'.add (i.toNat * 8)).block, (ad'.add (i.toNat * 8)).off + 1, none⟩ = some (.int .i64 (rd_T52 xs i).f1) ∧ w'.cell? ⟨(ad'.add (i.toNat * 8)).block, (ad'.add (i.toNat * 8)).off + 2, none⟩ = some (.int .i64 (rd_T52 xs i).f2) ∧ w'.cell? ⟨(ad'.add (i.toNat * 8)).block, (ad'.add (i.toNat * 8)).off + 3, none⟩ = some (.int .i64 (rd_T52 xs i).f3) ∧ w'.cell? ⟨(ad'.add (i.toNat * 8)).block, (ad'.add (i.toNat * 8)).off + 4, none⟩ = some (.int .i64 (rd_T52 xs i).f4) ∧ w'.cell? ⟨(ad'.add (i.toNat * 8)).block, (ad'.add (i.toNat * 8)).off + 5, none⟩ = some (.int .i64 (rd_T52 xs i).f5) ∧ w'.cell? ⟨(ad'.add (i.toNat * 8)).block, (ad'.add (i.toNat * 8)).off + 6, none⟩ = some (.string (rd_T52 xs i).f6) ∧ w'.cell? ⟨(ad'.add (i.toNat * 8)).block, (ad'.add (i.toNat * 8)).off + 7, none⟩ = some (.slice A7' (rd_T52 xs i).f7.length c7'))) (ds := []) #[O,O,O,O,O,O,O,O,O,O] (by kernel_rfl) rfl rfl ⟨dh0, dh1, dh2, dh3, dh4, dh5, dh6, dh7, dg0, dg1, dg2, dg3, dg4, dg5, dg6, dg7⟩ (fun hHeld => ?_); refine with_tabW eqRecMessage.r6.tab eqRecMessage.r6.bits (fun HT_ HW_ => ?_)
      refine pure_ (i := 0) (N := some 17) (v := ?_) (a' := ?_) #[I,O,O,O,O,O,O,O,O,O] rfl rfl (any_of HT_.out (by kernel_rfl)) (fun _ _ _ h => h) (Or.inl ⟨by rfl, ?_⟩) ?_ ?_
      rotate_left; intro w'; go_simp; with_reducible rfl; rotate_left; simp only [Act.put, List.setIfInBounds_toArray, List.set_cons_zero, List.set_cons_succ, i64_w, i32_w]; rfl
      refine pure_ (i := 1) (N := some 18) (v := ?_) (a' := ?_) #[I,I,O,O,O,O,O,O,O,O] rfl rfl (any_of HT_.out (by kernel_rfl)) (fun _ _ _ h => h) (Or.inl ⟨by rfl, ?_⟩) ?_ ?_
      rotate_left; intro w'; go_simp; with_reducible rfl; rotate_left; simp only [Act.put, List.setIfInBounds_toArray, List.set_cons_zero, List.set_cons_succ, i64_w, i32_w]; rfl
      refine pure_ (i := 2) (N := some 19) (v := ?_) (a' := ?_) #[I,I,I,O,O,O,O,O,O,O] rfl rfl (any_of HT_.out (by kernel_rfl)) (fun _ _ _ h => h) (Or.inl ⟨by rfl, ?_⟩) ?_ ?_
      rotate_left; intro w'; go_simp; with_reducible rfl; rotate_left; simp only [Act.put, List.setIfInBounds_toArray, List.set_cons_zero, List.set_cons_succ, i64_w, i32_w]; rfl
      refine take_ (i := 3) (N := some 20) (v := ?_) (a' := ?_) #[I,I,I,I,O,O,O,O,O,O] rfl rfl (take_ofW HT_.out HW_.out (by kernel_rfl)) (fun _ _ _ h => h) (Or.inl ⟨by rfl, ?_⟩) hHeld ?_ ?_
      rotate_left; rintro w' ⟨s0, s1, s2, s3, s4, s5, s6, s7, s8, s9, s10, s11, s12, s13, s14, s15⟩; go_simp; with_reducible rfl; rotate_left; simp only [Act.put, List.setIfInBounds_toArray, List.set_cons_zero, List.set_cons_succ, i64_w, i32_w]; rfl
      refine pure_ (i := 4) (N := some 21) (v := ?_) (a' := ?_) #[I,I,I,I,I,O,O,O,O,O] rfl rfl (any_of HT_.out (by kernel_rfl)) (fun _ _ _ h => h) (Or.inl ⟨by rfl, ?_⟩) ?_ ?_
      rotate_left; intro w'; go_simp; with_reducible rfl; rotate_left; simp only [Act.put, List.setIfInBounds_toArray, List.set_cons_zero, List.set_cons_succ, i64_w, i32_w]; rfl
      refine pure_ (i := 5) (N := some 22) (v := ?_) (a' := ?_) #[I,I,I,I,I,I,O,O,O,O] rfl rfl (any_of HT_.out (by kernel_rfl)) (fun _ _ _ h => h) (Or.inl ⟨by rfl, ?_⟩) ?_ ?_
      rotate_left; intro w'; go_simp; with_reducible rfl; rotate_left; simp only [Act.put, List.setIfInBounds_toArray, List.set_cons_zero, List.set_cons_succ, i64_w, i32_w]; rfl
      refine pure_ (i := 6) (N := some 23) (v := ?_) (a' := ?_) #[I,I,I,I,I,I,I,O,O,O] rfl rfl (any_of HT_.out (by kernel_rfl)) (fun _ _ _ h => h) (Or.inl ⟨by rfl, ?_⟩) ?_ ?_
      rotate_left; intro w'; go_simp; with_reducible rfl; rotate_left; simp only [Act.put, List.setIfInBounds_toArray, List.set_cons_zero, List.set_cons_succ, i64_w, i32_w]; rfl
      refine take_ (i := 7) (N := some 24) (v := ?_) (a' := ?_) #[I,I,I,I,I,I,I,I,O,O] rfl rfl (take_ofW HT_.out HW_.out (by kernel_rfl)) (fun _ _ _ h => h) (Or.inl ⟨by rfl, ?_⟩) hHeld ?_ ?_
      rotate_left; rintro w' ⟨s0, s1, s2, s3, s4, s5, s6, s7, s8, s9, s10, s11, s12, s13, s14, s15⟩; go_simp; with_reducible rfl; rotate_left; simp only [Act.put, List.setIfInBounds_toArray, List.set_cons_zero, List.set_cons_succ, i64_w, i32_w]; rfl
      refine one_ (i := 8) (N := some 25) #[I,I,I,I,I,I,I,I,I,O] rfl rfl (one_of HT_.out (by kernel_rfl)) (by decide) (fun K hK => ?_)
      refine goes_ Try.func41 (by kernel_rfl) rfl #[.agg #[.int .i64 (rd_T52 xs i).f0, .int .i64 (rd_T52 xs i).f1, .int .i64 (rd_T52 xs i).f2, .int .i64 (rd_T52 xs i).f3, .int .i64 (rd_T52 xs i).f4, .int .i64 (rd_T52 xs i).f5, .string (rd_T52 xs i).f6, .slice A7 (rd_T52 xs i).f7.length c7], .agg #[.int .i64 (rd_T52 xs i).f0, .int .i64 (rd_T52 xs i).f1, .int .i64 (rd_T52 xs i).f2, .int .i64 (rd_T52 xs i).f3, .int .i64 (rd_T52 xs i).f4, .int .i64 (rd_T52 xs i).f5, .string (rd_T52 xs i).f6, .slice A7' (rd_T52 xs i).f7.length c7']] (by rfl) rfl rfl (by (try simp only [List.map_toArray, List.map_cons, List.map_nil]); first | done | rfl) ?_
      with_reducible refine (eqRecMessageC (rd_T52 xs i) A7 A7' c7 c7' _ (Kd.C_below hx7 (below_step HB.out hbd)) (Kd.C_below gx7 (below_step HB.out hbd)) hl7 gl7).mono ?_
      rintro e wn ⟨rfl, hb⟩
      have hb2 := below_step hbd hb
      have kh0 := (hb2.cell (World.block_lt_of_cell? wr _ h0)).trans h0; have kh1 := (hb2.cell (World.block_lt_of_cell? wr _ h1)).trans h1; have kh2 := (hb2.cell (World.block_lt_of_cell? wr _ h2)).trans h2; have kh3 := (hb2.cell (World.block_lt_of_cell? wr _ h3)).trans h3; have kh4 := (hb2.cell (World.block_lt_of_cell? wr _ h4)).trans h4; have kh5 := (hb2.cell (World.block_lt_of_cell? wr _ h5)).trans h5; have kh6 := (hb2.cell (World.block_lt_of_cell? wr _ h6)).trans h6; have kh7 := (hb2.cell (World.block_lt_of_cell? wr _ h7)).trans h7; have kg0 := (hb2.cell (World.block_lt_of_cell? wr _ g0)).trans g0; have kg1 := (hb2.cell (World.block_lt_of_cell? wr _ g1)).trans g1; have kg2 := (hb2.cell (World.block_lt_of_cell? wr _ g2)).trans g2; have kg3 := (hb2.cell (World.block_lt_of_cell? wr _ g3)).trans g3; have kg4 := (hb2.cell (World.block_lt_of_cell? wr _ g4)).trans g4; have kg5 := (hb2.cell (World.block_lt_of_cell? wr _ g5)).trans g5; have kg6 := (hb2.cell (World.block_lt_of_cell? wr _ g6)).trans g6; have kg7 := (hb2.cell (World.block_lt_of_cell? wr _ g7)).trans g7
      refine ⟨_, rfl, ?_⟩
      refine hK.out _ _ ⟨kh0, kh1, kh2, kh3, kh4, kh5, kh6, kh7, kg0, kg1, kg2, kg3, kg4, kg5, kg6, kg7⟩ (fun hHeld => ?_)
      clear hK K
      refine norm_ (a' := ?_) ?_ ?_
      rotate_left
      · show Act.put _ (some 25) _ = _
        simp only [Act.put, List.setIfInBounds_toArray, List.set_cons_zero, List.set_cons_succ, i64_w, i32_w]
        rfl
      refine pure_ (i := 9) (N := some 26) (v := ?_) (a' := ?_) #[I,I,I,I,I,I,I,I,I,I] rfl rfl (any_of HT_.out (by kernel_rfl)) (fun _ _ _ h => h) (Or.inl ⟨by rfl, ?_⟩) ?_ ?_
      rotate_left; intro w'; go_simp; with_reducible rfl; rotate_left; simp only [Act.put, List.setIfInBounds_toArray, List.set_cons_zero, List.set_cons_succ, i64_w, i32_w]; rfl
      refine done_ (done_of HT_.out (by kernel_rfl)) ?_
      go_wp2
      go_roundg gk1
      case measure => omega
      case rel => exact ⟨wrap64 (i + 1), rfl, ⟨by have := HI.out; have := HL.out; have := HI'.out; rw [wrapIn (by omega) (by omega)]; omega⟩, ⟨below_step HB.out hb2⟩⟩
    · have hcd : decide (i < (xs.length : Int)) = false := decide_eq_false hi
      clear hi
      go_wp2
      go_ret
      exact ⟨rfl, HB.out⟩
set_option maxHeartbeats 4000000 in
set_option maxRecDepth 100000 in
theorem eqRecAckC (x : S83) (A A' : Option Addr) (c c' : Nat) (w : World) (h1 : Kd.C (Kd.int .i64) w A x.f1.length x.f1) (h2 : Kd.C (Kd.int .i64) w A' x.f1.length x.f1) (hc : x.f1.length ≤ c) (hc' : x.f1.length ≤ c') :
    Calls Try.prog 64 #[.agg #[.int .i64 x.f0, .slice A x.f1.length c], .agg #[.int .i64 x.f0, .slice A' x.f1.length c']] w fun e w' => e = .returned (.bool true) ∧ Below w.heap.size w w' := by
  have hu := Try.underlying83
  have H1 := Aside0.mk h1
  have H2 := Aside0.mk h2
  have H3 := Aside0.mk (And.intro hc hc')
  clear h1 h2 hc hc'
  have HB := Aside0.mk (Below.refl w.heap.size w)
  go_enter Try.func64, Try.ntmps64
  go_wp2_with (first
    | ((with_reducible refine gate_dst (N := 2) rfl ?_); refine box_event ?hg (N := 2) ?hd (cs := #[.int .i64 x.f0, .slice A x.f1.length c]) (t := 83) ?hr ?_; (case hd => rfl); (case hg => rfl); (case hr => first | (go_simp; done) | (go_simp; rfl)); intro ga _hg w1 hbox hb; have n0_ := Aside0.mk (below_step HB.out hb); clear HB; have HB := n0_; clear n0_; have BA := Aside0.mk hbox; clear hb hbox _hg; have ra := blk_cell BA.out)
    | ((with_reducible refine gate_dst (N := 3) rfl ?_); refine box_event ?hg (N := 3) ?hd (cs := #[.int .i64 x.f0, .slice A' x.f1.length c']) (t := 83) ?hr ?_; (case hd => rfl); (case hg => rfl); (case hr => first | (go_simp; done) | (go_simp; rfl)); intro gb _hg w2 hbox hb; have n0_ := Aside0.mk (below_step HB.out hb); have n1_ := Aside0.mk (blk_below BA.out hb); clear HB BA; have HB := n0_; have BA := n1_; clear n0_ n1_ ra; have BB := Aside0.mk hbox; clear hb hbox _hg; have ra := blk_cell BA.out; have rb := blk_cell BB.out)
    | (go_at_call 56; (with_reducible refine (eqintSC _ _ _ _ _ _ (Kd.C_below H1.out HB.out) (Kd.C_below H2.out HB.out) H3.out.1 H3.out.2).mono ?_); rintro e wn ⟨rfl, hb⟩; have n0_ := Aside0.mk (below_step HB.out hb); have n1_ := Aside0.mk (blk_below BA.out hb); have n2_ := Aside0.mk (blk_below BB.out hb); clear HB BA BB; have HB := n0_; have BA := n1_; have BB := n2_; clear n0_ n1_ n2_ ra rb; clear hb; have ra := blk_cell BA.out; have rb := blk_cell BB.out))
  go_ret
  exact ⟨rfl, HB.out⟩
def eqRecAck.r6.T : Bool × List (List Nat × List Nat) := (true, [([], []), ([], []), ([0, 1], [0, 1]), ([2], [2]), ([], []), ([], []), ([4, 5], [4, 5]), ([6], [6]), ([3, 7], [3, 7]), ([8], [8])])
def eqRecAck.r6.B : List Nat := [0, 0, 3, 7, 0, 0, 48, 112, 255, 511]
theorem eqRecAck.r6.tab : rtab .any (opsOf Try.f58 6) = eqRecAck.r6.T := by kernel_rfl
theorem eqRecAck.r6.bits : waitsOk eqRecAck.r6.T.2 eqRecAck.r6.B = true := by kernel_rfl
set_option maxHeartbeats 8000000 in
set_option maxRecDepth 100000 in
theorem eqRecAckSC (xs : List S83) (A A' : Option Addr) (c c' : Nat) (w : World) (h1 : Kd.C k83 w A xs.length xs) (h2 : Kd.C k83 w A' xs.length xs) (hc : xs.length ≤ c) (hc' : xs.length ≤ c') :
    Calls Try.prog 58 #[.slice A xs.length c, .slice A' xs.length c'] w fun e w' => e = .returned (.bool true) ∧ Below w.heap.size w w' := by
  have hu := Try.underlying83
  have HR := Aside0.mk h1
  have HQ := Aside0.mk h2
  have HL := Aside0.mk h1.2.1
  clear h1 h2 hc hc'
  have HB := Aside0.mk (Below.refl w.heap.size w)
  go_enter Try.func58, Try.ntmps58
  go_wp2
  go_loopg [5] xs.length (fun kr v5 w' => ∃ (i : Int), v5 = .int .i64 i ∧ Aside0 (0 ≤ i ∧ i + kr = xs.length) ∧ Aside0 (Below w.heap.size w w'))
  case atStart => exact ⟨0, rfl, ⟨⟨Int.le_refl _, by omega⟩⟩, HB⟩
  case round =>
    clear HB
    obtain ⟨i, rfl, HI, HB⟩ := hrel
    by_cases hi : i < (xs.length : Int)
    · rcases gk with _ | gk1
      · exact absurd HI.out.2 (by omega)
      have hcd : decide (i < (xs.length : Int)) = true := decide_eq_true hi
      have hc0 : decide (0 ≤ i) = true := decide_eq_true HI.out.1
      have HI' := Aside0.mk hi
      have p0 := HI.out.1
      have p1 := hi
      clear hi
      go_upto_region 6 with (fail)
      have hbd : Below wr.heap.size wr wr.drew := below_drew1 (Below.refl _ wr)
      obtain ⟨ad, A1, c1, e, h0, h1, hl1, hx1⟩ := at_T83 HR.out i p0 p1
      obtain ⟨ad', A1', c1', e', g0, g1, gl1, gx1⟩ := at_T83 HQ.out i p0 p1
      subst e e'
      replace h0 := (HB.out.cell (World.block_lt_of_cell? w _ h0)).trans h0
      replace h1 := (HB.out.cell (World.block_lt_of_cell? w _ h1)).trans h1
      replace g0 := (HB.out.cell (World.block_lt_of_cell? w _ g0)).trans g0
      replace g1 := (HB.out.cell (World.block_lt_of_cell? w _ g1)).trans g1
      have dh0 := (hbd.cell (World.block_lt_of_cell? wr _ h0)).trans h0
      have dh1 := (hbd.cell (World.block_lt_of_cell? wr _ h1)).trans h1
      have dg0 := (hbd.cell (World.block_lt_of_cell? wr _ g0)).trans g0
      have dg1 := (hbd.cell (World.block_lt_of_cell? wr _ g1)).trans g1
      refine start_ (n := 10) (S := (fun w' => w'.cell? (ad.add (i.toNat * 2)) = some (.int .i64 (rd_T83 xs i).f0) ∧ w'.cell? ⟨(ad.add (i.toNat * 2)).block, (ad.add (i.toNat * 2)).off + 1, none⟩ = some (.slice A1 (rd_T83 xs i).f1.length c1) ∧ w'.cell? (ad'.add (i.toNat * 2)) = some (.int .i64 (rd_T83 xs i).f0) ∧ w'.cell? ⟨(ad'.add (i.toNat * 2)).block, (ad'.add (i.toNat * 2)).off + 1, none⟩ = some (.slice A1' (rd_T83 xs i).f1.length c1'))) (ds := []) #[O,O,O,O,O,O,O,O,O,O] (by kernel_rfl) rfl rfl ⟨dh0, dh1, dg0, dg1⟩ (fun hHeld => ?_); refine with_tabW eqRecAck.r6.tab eqRecAck.r6.bits (fun HT_ HW_ => ?_)
      refine pure_ (i := 0) (N := some 17) (v := ?_) (a' := ?_) #[I,O,O,O,O,O,O,O,O,O] rfl rfl (any_of HT_.out (by kernel_rfl)) (fun _ _ _ h => h) (Or.inl ⟨by rfl, ?_⟩) ?_ ?_
      rotate_left; intro w'; go_simp; with_reducible rfl; rotate_left; simp only [Act.put, List.setIfInBounds_toArray, List.set_cons_zero, List.set_cons_succ, i64_w, i32_w]; rfl
      refine pure_ (i := 1) (N := some 18) (v := ?_) (a' := ?_) #[I,I,O,O,O,O,O,O,O,O] rfl rfl (any_of HT_.out (by kernel_rfl)) (fun _ _ _ h => h) (Or.inl ⟨by rfl, ?_⟩) ?_ ?_
      rotate_left; intro w'; go_simp; with_reducible rfl; rotate_left; simp only [Act.put, List.setIfInBounds_toArray, List.set_cons_zero, List.set_cons_succ, i64_w, i32_w]; rfl
      refine pure_ (i := 2) (N := some 19) (v := ?_) (a' := ?_) #[I,I,I,O,O,O,O,O,O,O] rfl rfl (any_of HT_.out (by kernel_rfl)) (fun _ _ _ h => h) (Or.inl ⟨by rfl, ?_⟩) ?_ ?_
      rotate_left; intro w'; go_simp; with_reducible rfl; rotate_left; simp only [Act.put, List.setIfInBounds_toArray, List.set_cons_zero, List.set_cons_succ, i64_w, i32_w]; rfl
      refine take_ (i := 3) (N := some 20) (v := ?_) (a' := ?_) #[I,I,I,I,O,O,O,O,O,O] rfl rfl (take_ofW HT_.out HW_.out (by kernel_rfl)) (fun _ _ _ h => h) (Or.inl ⟨by rfl, ?_⟩) hHeld ?_ ?_
      rotate_left; rintro w' ⟨s0, s1, s2, s3⟩; go_simp; with_reducible rfl; rotate_left; simp only [Act.put, List.setIfInBounds_toArray, List.set_cons_zero, List.set_cons_succ, i64_w, i32_w]; rfl
      refine pure_ (i := 4) (N := some 21) (v := ?_) (a' := ?_) #[I,I,I,I,I,O,O,O,O,O] rfl rfl (any_of HT_.out (by kernel_rfl)) (fun _ _ _ h => h) (Or.inl ⟨by rfl, ?_⟩) ?_ ?_
      rotate_left; intro w'; go_simp; with_reducible rfl; rotate_left; simp only [Act.put, List.setIfInBounds_toArray, List.set_cons_zero, List.set_cons_succ, i64_w, i32_w]; rfl
      refine pure_ (i := 5) (N := some 22) (v := ?_) (a' := ?_) #[I,I,I,I,I,I,O,O,O,O] rfl rfl (any_of HT_.out (by kernel_rfl)) (fun _ _ _ h => h) (Or.inl ⟨by rfl, ?_⟩) ?_ ?_
      rotate_left; intro w'; go_simp; with_reducible rfl; rotate_left; simp only [Act.put, List.setIfInBounds_toArray, List.set_cons_zero, List.set_cons_succ, i64_w, i32_w]; rfl
      refine pure_ (i := 6) (N := some 23) (v := ?_) (a' := ?_) #[I,I,I,I,I,I,I,O,O,O] rfl rfl (any_of HT_.out (by kernel_rfl)) (fun _ _ _ h => h) (Or.inl ⟨by rfl, ?_⟩) ?_ ?_
      rotate_left; intro w'; go_simp; with_reducible rfl; rotate_left; simp only [Act.put, List.setIfInBounds_toArray, List.set_cons_zero, List.set_cons_succ, i64_w, i32_w]; rfl
      refine take_ (i := 7) (N := some 24) (v := ?_) (a' := ?_) #[I,I,I,I,I,I,I,I,O,O] rfl rfl (take_ofW HT_.out HW_.out (by kernel_rfl)) (fun _ _ _ h => h) (Or.inl ⟨by rfl, ?_⟩) hHeld ?_ ?_
      rotate_left; rintro w' ⟨s0, s1, s2, s3⟩; go_simp; with_reducible rfl; rotate_left; simp only [Act.put, List.setIfInBounds_toArray, List.set_cons_zero, List.set_cons_succ, i64_w, i32_w]; rfl
      refine one_ (i := 8) (N := some 25) #[I,I,I,I,I,I,I,I,I,O] rfl rfl (one_of HT_.out (by kernel_rfl)) (by decide) (fun K hK => ?_)
      refine goes_ Try.func64 (by kernel_rfl) rfl #[.agg #[.int .i64 (rd_T83 xs i).f0, .slice A1 (rd_T83 xs i).f1.length c1], .agg #[.int .i64 (rd_T83 xs i).f0, .slice A1' (rd_T83 xs i).f1.length c1']] (by rfl) rfl rfl (by (try simp only [List.map_toArray, List.map_cons, List.map_nil]); first | done | rfl) ?_
      with_reducible refine (eqRecAckC (rd_T83 xs i) A1 A1' c1 c1' _ (Kd.C_below hx1 (below_step HB.out hbd)) (Kd.C_below gx1 (below_step HB.out hbd)) hl1 gl1).mono ?_
      rintro e wn ⟨rfl, hb⟩
      have hb2 := below_step hbd hb
      have kh0 := (hb2.cell (World.block_lt_of_cell? wr _ h0)).trans h0; have kh1 := (hb2.cell (World.block_lt_of_cell? wr _ h1)).trans h1; have kg0 := (hb2.cell (World.block_lt_of_cell? wr _ g0)).trans g0; have kg1 := (hb2.cell (World.block_lt_of_cell? wr _ g1)).trans g1
      refine ⟨_, rfl, ?_⟩
      refine hK.out _ _ ⟨kh0, kh1, kg0, kg1⟩ (fun hHeld => ?_)
      clear hK K
      refine norm_ (a' := ?_) ?_ ?_
      rotate_left
      · show Act.put _ (some 25) _ = _
        simp only [Act.put, List.setIfInBounds_toArray, List.set_cons_zero, List.set_cons_succ, i64_w, i32_w]
        rfl
      refine pure_ (i := 9) (N := some 26) (v := ?_) (a' := ?_) #[I,I,I,I,I,I,I,I,I,I] rfl rfl (any_of HT_.out (by kernel_rfl)) (fun _ _ _ h => h) (Or.inl ⟨by rfl, ?_⟩) ?_ ?_
      rotate_left; intro w'; go_simp; with_reducible rfl; rotate_left; simp only [Act.put, List.setIfInBounds_toArray, List.set_cons_zero, List.set_cons_succ, i64_w, i32_w]; rfl
      refine done_ (done_of HT_.out (by kernel_rfl)) ?_
      go_wp2
      go_roundg gk1
      case measure => omega
      case rel => exact ⟨wrap64 (i + 1), rfl, ⟨by have := HI.out; have := HL.out; have := HI'.out; rw [wrapIn (by omega) (by omega)]; omega⟩, ⟨below_step HB.out hb2⟩⟩
    · have hcd : decide (i < (xs.length : Int)) = false := decide_eq_false hi
      clear hi
      go_wp2
      go_ret
      exact ⟨rfl, HB.out⟩
set_option maxHeartbeats 4000000 in
set_option maxRecDepth 100000 in
theorem eqRecFixC (x : S54) (w : World) :
    Calls Try.prog 42 #[.agg #[.int .i64 x.f0, .string x.f1], .agg #[.int .i64 x.f0, .string x.f1]] w fun e w' => e = .returned (.bool true) ∧ Below w.heap.size w w' := by
  have hu := Try.underlying54
  have HB := Aside0.mk (Below.refl w.heap.size w)
  go_enter Try.func42, Try.ntmps42
  go_wp2_with (first
    | ((with_reducible refine gate_dst (N := 2) rfl ?_); refine box_event ?hg (N := 2) ?hd (cs := #[.int .i64 x.f0, .string x.f1]) (t := 54) ?hr ?_; (case hd => rfl); (case hg => rfl); (case hr => first | (go_simp; done) | (go_simp; rfl)); intro ga _hg w1 hbox hb; have n0_ := Aside0.mk (below_step HB.out hb); clear HB; have HB := n0_; clear n0_; have BA := Aside0.mk hbox; clear hb hbox _hg; have ra := blk_cell BA.out)
    | ((with_reducible refine gate_dst (N := 3) rfl ?_); refine box_event ?hg (N := 3) ?hd (cs := #[.int .i64 x.f0, .string x.f1]) (t := 54) ?hr ?_; (case hd => rfl); (case hg => rfl); (case hr => first | (go_simp; done) | (go_simp; rfl)); intro gb _hg w2 hbox hb; have n0_ := Aside0.mk (below_step HB.out hb); have n1_ := Aside0.mk (blk_below BA.out hb); clear HB BA; have HB := n0_; have BA := n1_; clear n0_ n1_ ra; have BB := Aside0.mk hbox; clear hb hbox _hg; have ra := blk_cell BA.out; have rb := blk_cell BB.out))
  go_ret
  exact ⟨rfl, HB.out⟩
def eqRecFix.r6.T : Bool × List (List Nat × List Nat) := (true, [([], []), ([], []), ([0, 1], [0, 1]), ([2], [2]), ([], []), ([], []), ([4, 5], [4, 5]), ([6], [6]), ([3, 7], [3, 7]), ([8], [8])])
def eqRecFix.r6.B : List Nat := [0, 0, 3, 7, 0, 0, 48, 112, 255, 511]
theorem eqRecFix.r6.tab : rtab .any (opsOf Try.f23 6) = eqRecFix.r6.T := by kernel_rfl
theorem eqRecFix.r6.bits : waitsOk eqRecFix.r6.T.2 eqRecFix.r6.B = true := by kernel_rfl
set_option maxHeartbeats 8000000 in
set_option maxRecDepth 100000 in
theorem eqRecFixSC (xs : List S54) (A A' : Option Addr) (c c' : Nat) (w : World) (h1 : Kd.C k54 w A xs.length xs) (h2 : Kd.C k54 w A' xs.length xs) (hc : xs.length ≤ c) (hc' : xs.length ≤ c') :
    Calls Try.prog 23 #[.slice A xs.length c, .slice A' xs.length c'] w fun e w' => e = .returned (.bool true) ∧ Below w.heap.size w w' := by
  have hu := Try.underlying54
  have HR := Aside0.mk h1
  have HQ := Aside0.mk h2
  have HL := Aside0.mk h1.2.1
  clear h1 h2 hc hc'
  have HB := Aside0.mk (Below.refl w.heap.size w)
  go_enter Try.func23, Try.ntmps23
  go_wp2
  go_loopg [5] xs.length (fun kr v5 w' => ∃ (i : Int), v5 = .int .i64 i ∧ Aside0 (0 ≤ i ∧ i + kr = xs.length) ∧ Aside0 (Below w.heap.size w w'))
  case atStart => exact ⟨0, rfl, ⟨⟨Int.le_refl _, by omega⟩⟩, HB⟩
  case round =>
    clear HB
    obtain ⟨i, rfl, HI, HB⟩ := hrel
    by_cases hi : i < (xs.length : Int)
    · rcases gk with _ | gk1
      · exact absurd HI.out.2 (by omega)
      have hcd : decide (i < (xs.length : Int)) = true := decide_eq_true hi
      have hc0 : decide (0 ≤ i) = true := decide_eq_true HI.out.1
      have HI' := Aside0.mk hi
      have p0 := HI.out.1
      have p1 := hi
      clear hi
      go_upto_region 6 with (fail)
      have hbd : Below wr.heap.size wr wr.drew := below_drew1 (Below.refl _ wr)
      obtain ⟨ad, e, h0, h1⟩ := at_T54 HR.out i p0 p1
      obtain ⟨ad', e', g0, g1⟩ := at_T54 HQ.out i p0 p1
      subst e e'
      replace h0 := (HB.out.cell (World.block_lt_of_cell? w _ h0)).trans h0
      replace h1 := (HB.out.cell (World.block_lt_of_cell? w _ h1)).trans h1
      replace g0 := (HB.out.cell (World.block_lt_of_cell? w _ g0)).trans g0
      replace g1 := (HB.out.cell (World.block_lt_of_cell? w _ g1)).trans g1
      have dh0 := (hbd.cell (World.block_lt_of_cell? wr _ h0)).trans h0
      have dh1 := (hbd.cell (World.block_lt_of_cell? wr _ h1)).trans h1
      have dg0 := (hbd.cell (World.block_lt_of_cell? wr _ g0)).trans g0
      have dg1 := (hbd.cell (World.block_lt_of_cell? wr _ g1)).trans g1
      refine start_ (n := 10) (S := (fun w' => w'.cell? (ad.add (i.toNat * 2)) = some (.int .i64 (rd_T54 xs i).f0) ∧ w'.cell? ⟨(ad.add (i.toNat * 2)).block, (ad.add (i.toNat * 2)).off + 1, none⟩ = some (.string (rd_T54 xs i).f1) ∧ w'.cell? (ad'.add (i.toNat * 2)) = some (.int .i64 (rd_T54 xs i).f0) ∧ w'.cell? ⟨(ad'.add (i.toNat * 2)).block, (ad'.add (i.toNat * 2)).off + 1, none⟩ = some (.string (rd_T54 xs i).f1))) (ds := []) #[O,O,O,O,O,O,O,O,O,O] (by kernel_rfl) rfl rfl ⟨dh0, dh1, dg0, dg1⟩ (fun hHeld => ?_); refine with_tabW eqRecFix.r6.tab eqRecFix.r6.bits (fun HT_ HW_ => ?_)
      refine pure_ (i := 0) (N := some 17) (v := ?_) (a' := ?_) #[I,O,O,O,O,O,O,O,O,O] rfl rfl (any_of HT_.out (by kernel_rfl)) (fun _ _ _ h => h) (Or.inl ⟨by rfl, ?_⟩) ?_ ?_
      rotate_left; intro w'; go_simp; with_reducible rfl; rotate_left; simp only [Act.put, List.setIfInBounds_toArray, List.set_cons_zero, List.set_cons_succ, i64_w, i32_w]; rfl
      refine pure_ (i := 1) (N := some 18) (v := ?_) (a' := ?_) #[I,I,O,O,O,O,O,O,O,O] rfl rfl (any_of HT_.out (by kernel_rfl)) (fun _ _ _ h => h) (Or.inl ⟨by rfl, ?_⟩) ?_ ?_
      rotate_left; intro w'; go_simp; with_reducible rfl; rotate_left; simp only [Act.put, List.setIfInBounds_toArray, List.set_cons_zero, List.set_cons_succ, i64_w, i32_w]; rfl
      refine pure_ (i := 2) (N := some 19) (v := ?_) (a' := ?_) #[I,I,I,O,O,O,O,O,O,O] rfl rfl (any_of HT_.out (by kernel_rfl)) (fun _ _ _ h => h) (Or.inl ⟨by rfl, ?_⟩) ?_ ?_
      rotate_left; intro w'; go_simp; with_reducible rfl; rotate_left; simp only [Act.put, List.setIfInBounds_toArray, List.set_cons_zero, List.set_cons_succ, i64_w, i32_w]; rfl
      refine take_ (i := 3) (N := some 20) (v := ?_) (a' := ?_) #[I,I,I,I,O,O,O,O,O,O] rfl rfl (take_ofW HT_.out HW_.out (by kernel_rfl)) (fun _ _ _ h => h) (Or.inl ⟨by rfl, ?_⟩) hHeld ?_ ?_
      rotate_left; rintro w' ⟨s0, s1, s2, s3⟩; go_simp; with_reducible rfl; rotate_left; simp only [Act.put, List.setIfInBounds_toArray, List.set_cons_zero, List.set_cons_succ, i64_w, i32_w]; rfl
      refine pure_ (i := 4) (N := some 21) (v := ?_) (a' := ?_) #[I,I,I,I,I,O,O,O,O,O] rfl rfl (any_of HT_.out (by kernel_rfl)) (fun _ _ _ h => h) (Or.inl ⟨by rfl, ?_⟩) ?_ ?_
      rotate_left; intro w'; go_simp; with_reducible rfl; rotate_left; simp only [Act.put, List.setIfInBounds_toArray, List.set_cons_zero, List.set_cons_succ, i64_w, i32_w]; rfl
      refine pure_ (i := 5) (N := some 22) (v := ?_) (a' := ?_) #[I,I,I,I,I,I,O,O,O,O] rfl rfl (any_of HT_.out (by kernel_rfl)) (fun _ _ _ h => h) (Or.inl ⟨by rfl, ?_⟩) ?_ ?_
      rotate_left; intro w'; go_simp; with_reducible rfl; rotate_left; simp only [Act.put, List.setIfInBounds_toArray, List.set_cons_zero, List.set_cons_succ, i64_w, i32_w]; rfl
      refine pure_ (i := 6) (N := some 23) (v := ?_) (a' := ?_) #[I,I,I,I,I,I,I,O,O,O] rfl rfl (any_of HT_.out (by kernel_rfl)) (fun _ _ _ h => h) (Or.inl ⟨by rfl, ?_⟩) ?_ ?_
      rotate_left; intro w'; go_simp; with_reducible rfl; rotate_left; simp only [Act.put, List.setIfInBounds_toArray, List.set_cons_zero, List.set_cons_succ, i64_w, i32_w]; rfl
      refine take_ (i := 7) (N := some 24) (v := ?_) (a' := ?_) #[I,I,I,I,I,I,I,I,O,O] rfl rfl (take_ofW HT_.out HW_.out (by kernel_rfl)) (fun _ _ _ h => h) (Or.inl ⟨by rfl, ?_⟩) hHeld ?_ ?_
      rotate_left; rintro w' ⟨s0, s1, s2, s3⟩; go_simp; with_reducible rfl; rotate_left; simp only [Act.put, List.setIfInBounds_toArray, List.set_cons_zero, List.set_cons_succ, i64_w, i32_w]; rfl
      refine one_ (i := 8) (N := some 25) #[I,I,I,I,I,I,I,I,I,O] rfl rfl (one_of HT_.out (by kernel_rfl)) (by decide) (fun K hK => ?_)
      refine goes_ Try.func42 (by kernel_rfl) rfl #[.agg #[.int .i64 (rd_T54 xs i).f0, .string (rd_T54 xs i).f1], .agg #[.int .i64 (rd_T54 xs i).f0, .string (rd_T54 xs i).f1]] (by rfl) rfl rfl (by (try simp only [List.map_toArray, List.map_cons, List.map_nil]); first | done | rfl) ?_
      with_reducible refine (eqRecFixC (rd_T54 xs i) _).mono ?_
      rintro e wn ⟨rfl, hb⟩
      have hb2 := below_step hbd hb
      have kh0 := (hb2.cell (World.block_lt_of_cell? wr _ h0)).trans h0; have kh1 := (hb2.cell (World.block_lt_of_cell? wr _ h1)).trans h1; have kg0 := (hb2.cell (World.block_lt_of_cell? wr _ g0)).trans g0; have kg1 := (hb2.cell (World.block_lt_of_cell? wr _ g1)).trans g1
      refine ⟨_, rfl, ?_⟩
      refine hK.out _ _ ⟨kh0, kh1, kg0, kg1⟩ (fun hHeld => ?_)
      clear hK K
      refine norm_ (a' := ?_) ?_ ?_
      rotate_left
      · show Act.put _ (some 25) _ = _
        simp only [Act.put, List.setIfInBounds_toArray, List.set_cons_zero, List.set_cons_succ, i64_w, i32_w]
        rfl
      refine pure_ (i := 9) (N := some 26) (v := ?_) (a' := ?_) #[I,I,I,I,I,I,I,I,I,I] rfl rfl (any_of HT_.out (by kernel_rfl)) (fun _ _ _ h => h) (Or.inl ⟨by rfl, ?_⟩) ?_ ?_
      rotate_left; intro w'; go_simp; with_reducible rfl; rotate_left; simp only [Act.put, List.setIfInBounds_toArray, List.set_cons_zero, List.set_cons_succ, i64_w, i32_w]; rfl
      refine done_ (done_of HT_.out (by kernel_rfl)) ?_
      go_wp2
      go_roundg gk1
      case measure => omega
      case rel => exact ⟨wrap64 (i + 1), rfl, ⟨by have := HI.out; have := HL.out; have := HI'.out; rw [wrapIn (by omega) (by omega)]; omega⟩, ⟨below_step HB.out hb2⟩⟩
    · have hcd : decide (i < (xs.length : Int)) = false := decide_eq_false hi
      clear hi
      go_wp2
      go_ret
      exact ⟨rfl, HB.out⟩
set_option maxHeartbeats 4000000 in
set_option maxRecDepth 100000 in
theorem eqDiskC (p n : Int) (xs : List S93) (A A' : Option Addr) (c c' : Nat) (w : World) (h1 : Kd.C k93 w A xs.length xs) (h2 : Kd.C k93 w A' xs.length xs) (hc : xs.length ≤ c) (hc' : xs.length ≤ c') :
    Calls Try.prog 54 #[.agg #[.int .i64 p, .int .i64 n, .slice A xs.length c], .agg #[.int .i64 p, .int .i64 n, .slice A' xs.length c']] w fun e w' => e = .returned (.bool true) ∧ Below w.heap.size w w' := by
  have hu := Try.underlying44
  have H1 := Aside0.mk h1
  have H2 := Aside0.mk h2
  have H3 := Aside0.mk (And.intro hc hc')
  clear h1 h2 hc hc'
  have HB := Aside0.mk (Below.refl w.heap.size w)
  go_enter Try.func54, Try.ntmps54
  go_wp2_with (first
    | ((with_reducible refine gate_dst (N := 2) rfl ?_); refine box_event ?hg (N := 2) ?hd (cs := #[.int .i64 p, .int .i64 n, .slice A xs.length c]) (t := 44) ?hr ?_; (case hd => rfl); (case hg => rfl); (case hr => first | (go_simp; done) | (go_simp; rfl)); intro ga _hg w1 hbox hb; have n0_ := Aside0.mk (below_step HB.out hb); clear HB; have HB := n0_; clear n0_; have BA := Aside0.mk hbox; clear hb hbox _hg; have ra := blk_cell BA.out)
    | ((with_reducible refine gate_dst (N := 3) rfl ?_); refine box_event ?hg (N := 3) ?hd (cs := #[.int .i64 p, .int .i64 n, .slice A' xs.length c']) (t := 44) ?hr ?_; (case hd => rfl); (case hg => rfl); (case hr => first | (go_simp; done) | (go_simp; rfl)); intro gb _hg w2 hbox hb; have n0_ := Aside0.mk (below_step HB.out hb); have n1_ := Aside0.mk (blk_below BA.out hb); clear HB BA; have HB := n0_; have BA := n1_; clear n0_ n1_ ra; have BB := Aside0.mk hbox; clear hb hbox _hg; have ra := blk_cell BA.out; have rb := blk_cell BB.out)
    | (go_at_call 57; (with_reducible refine (eqRecSlotSC _ _ _ _ _ _ (Kd.C_below H1.out HB.out) (Kd.C_below H2.out HB.out) H3.out.1 H3.out.2).mono ?_); rintro e wn ⟨rfl, hb⟩; have n0_ := Aside0.mk (below_step HB.out hb); have n1_ := Aside0.mk (blk_below BA.out hb); have n2_ := Aside0.mk (blk_below BB.out hb); clear HB BA BB; have HB := n0_; have BA := n1_; have BB := n2_; clear n0_ n1_ n2_ ra rb; clear hb; have ra := blk_cell BA.out; have rb := blk_cell BB.out))
  go_ret
  exact ⟨rfl, HB.out⟩
/-- A slice's value that reads as a list. -/
def Sl {α : Type} (e : Nat) (d : Kd α) (w : World) (x : List α) (v : Value) : Prop := ∃ A c, v = .slice A x.length c ∧ x.length ≤ c ∧ d.C w A x.length x
theorem Sl.below {α : Type} {e : Nat} {d : Kd α} {w w1 : World} {x : List α} {v : Value} (h : Sl e d w x v) (hb : Below w.heap.size w w1) : Sl e d w1 x v := by
  obtain ⟨A, c, h1, h2, h3⟩ := h
  exact ⟨A, c, h1, h2, Kd.C_below h3 hb⟩
theorem Sl.of_R {α : Type} {e : Nat} {d : Kd α} {w : World} {base : Nat} {ok : Nat → Prop} {x : List α} {v : Value} (h : d.R e w base ok v x) : Sl e d w x v := Kd.R_reads h
set_option maxHeartbeats 8000000 in
set_option maxRecDepth 100000 in
theorem eqRecorderC (n0 n1 n3 n4 n6 n7 n13 n17 : Int) (b2 b11 b12 : Bool) (x5 x8 x15 : List S93) (x9 : List S52) (x10 : List ByteArray) (x14 : List Int) (x16 : List S83)
    (v5 v8 v9 v10 v14 v15 v16 u5 u8 u9 u10 u14 u15 u16 : Value) (w : World)
    (h5 : Sl 93 k93 w x5 v5) (h8 : Sl 93 k93 w x8 v8) (h9 : Sl 52 k52 w x9 v9) (h10 : Sl 9 Kd.string w x10 v10) (h14 : Sl 3 (Kd.int .i64) w x14 v14) (h15 : Sl 93 k93 w x15 v15) (h16 : Sl 83 k83 w x16 v16)
    (g5 : Sl 93 k93 w x5 u5) (g8 : Sl 93 k93 w x8 u8) (g9 : Sl 52 k52 w x9 u9) (g10 : Sl 9 Kd.string w x10 u10) (g14 : Sl 3 (Kd.int .i64) w x14 u14) (g15 : Sl 93 k93 w x15 u15) (g16 : Sl 83 k83 w x16 u16) :
    Calls Try.prog 40 #[.agg #[.int .i64 n0, .int .i64 n1, .bool b2, .int .i64 n3, .int .i64 n4, v5, .int .i64 n6, .int .i64 n7, v8, v9, v10, .bool b11, .bool b12, .int .i64 n13, v14, v15, v16, .int .i64 n17],
      .agg #[.int .i64 n0, .int .i64 n1, .bool b2, .int .i64 n3, .int .i64 n4, u5, .int .i64 n6, .int .i64 n7, u8, u9, u10, .bool b11, .bool b12, .int .i64 n13, u14, u15, u16, .int .i64 n17]] w fun e w' => e = .returned (.bool true) ∧ Below w.heap.size w w' := by
  have hu1 := Try.underlying49
  have hu2 := Try.underlying44
  obtain ⟨A5, c5, rfl, l5, C5⟩ := h5
  obtain ⟨A8, c8, rfl, l8, C8⟩ := h8
  obtain ⟨A9, c9, rfl, l9, C9⟩ := h9
  obtain ⟨A10, c10, rfl, l10, C10⟩ := h10
  obtain ⟨A14, c14, rfl, l14, C14⟩ := h14
  obtain ⟨A15, c15, rfl, l15, C15⟩ := h15
  obtain ⟨A16, c16, rfl, l16, C16⟩ := h16
  obtain ⟨B5, d5, rfl, m5, D5⟩ := g5
  obtain ⟨B8, d8, rfl, m8, D8⟩ := g8
  obtain ⟨B9, d9, rfl, m9, D9⟩ := g9
  obtain ⟨B10, d10, rfl, m10, D10⟩ := g10
  obtain ⟨B14, d14, rfl, m14, D14⟩ := g14
  obtain ⟨B15, d15, rfl, m15, D15⟩ := g15
  obtain ⟨B16, d16, rfl, m16, D16⟩ := g16
  have F := Aside0.mk (And.intro (And.intro (And.intro C5 l5) (And.intro C8 l8)) (And.intro (And.intro (And.intro C9 l9) (And.intro C10 l10)) (And.intro (And.intro C14 l14) (And.intro (And.intro C15 l15) (And.intro C16 l16)))))
  have G := Aside0.mk (And.intro (And.intro (And.intro D5 m5) (And.intro D8 m8)) (And.intro (And.intro (And.intro D9 m9) (And.intro D10 m10)) (And.intro (And.intro D14 m14) (And.intro (And.intro D15 m15) (And.intro D16 m16)))))
  clear C5 l5 C8 l8 C9 l9 C10 l10 C14 l14 C15 l15 C16 l16 D5 m5 D8 m8 D9 m9 D10 m10 D14 m14 D15 m15 D16 m16
  have HB := Aside0.mk (Below.refl w.heap.size w)
  go_enter Try.func40, Try.ntmps40
  go_wp2_with (first
    | ((with_reducible refine gate_dst (N := 2) rfl ?_); refine box_event ?hg (N := 2) ?hd (cs := #[.int .i64 n0, .int .i64 n1, .bool b2, .int .i64 n3, .int .i64 n4, .slice A5 x5.length c5, .int .i64 n6, .int .i64 n7, .slice A8 x8.length c8, .slice A9 x9.length c9, .slice A10 x10.length c10, .bool b11, .bool b12, .int .i64 n13, .slice A14 x14.length c14, .slice A15 x15.length c15, .slice A16 x16.length c16, .int .i64 n17]) (t := 49) ?hr ?_; (case hd => rfl); (case hg => rfl); (case hr => first | (go_simp; done) | (go_simp; rfl)); intro ga _hg w1 hbox hb; have n0_ := Aside0.mk (below_step HB.out hb); clear HB; have HB := n0_; clear n0_; have BA := Aside0.mk hbox; clear hb hbox _hg; have ra := blk_cell BA.out)
    | ((with_reducible refine gate_dst (N := 3) rfl ?_); refine box_event ?hg (N := 3) ?hd (cs := #[.int .i64 n0, .int .i64 n1, .bool b2, .int .i64 n3, .int .i64 n4, .slice B5 x5.length d5, .int .i64 n6, .int .i64 n7, .slice B8 x8.length d8, .slice B9 x9.length d9, .slice B10 x10.length d10, .bool b11, .bool b12, .int .i64 n13, .slice B14 x14.length d14, .slice B15 x15.length d15, .slice B16 x16.length d16, .int .i64 n17]) (t := 49) ?hr ?_; (case hd => rfl); (case hg => rfl); (case hr => first | (go_simp; done) | (go_simp; rfl)); intro gb _hg w2 hbox hb; have n0_ := Aside0.mk (below_step HB.out hb); have n1_ := Aside0.mk (blk_below BA.out hb); clear HB BA; have HB := n0_; have BA := n1_; clear n0_ n1_ ra; have BB := Aside0.mk hbox; clear hb hbox _hg; have ra := blk_cell BA.out; have rb := blk_cell BB.out)
    | ((first
        | (go_at_call 54; (first | (with_reducible refine (eqDiskC _ _ _ _ _ _ _ _ (Kd.C_below F.out.1.1.1 HB.out) (Kd.C_below G.out.1.1.1 HB.out) F.out.1.1.2 G.out.1.1.2).mono ?_) | (with_reducible refine (eqDiskC _ _ _ _ _ _ _ _ (Kd.C_below F.out.1.2.1 HB.out) (Kd.C_below G.out.1.2.1 HB.out) F.out.1.2.2 G.out.1.2.2).mono ?_)))
        | (go_at_call 22; (with_reducible refine (eqRecMessageSC _ _ _ _ _ _ (Kd.C_below F.out.2.1.1.1 HB.out) (Kd.C_below G.out.2.1.1.1 HB.out) F.out.2.1.1.2 G.out.2.1.1.2).mono ?_))
        | (go_at_call 55; (with_reducible refine (eqstringSC _ _ _ _ _ _ (Kd.C_below F.out.2.1.2.1 HB.out) (Kd.C_below G.out.2.1.2.1 HB.out) F.out.2.1.2.2 G.out.2.1.2.2).mono ?_))
        | (go_at_call 56; (with_reducible refine (eqintSC _ _ _ _ _ _ (Kd.C_below F.out.2.2.1.1 HB.out) (Kd.C_below G.out.2.2.1.1 HB.out) F.out.2.2.1.2 G.out.2.2.1.2).mono ?_))
        | (go_at_call 57; (with_reducible refine (eqRecSlotSC _ _ _ _ _ _ (Kd.C_below F.out.2.2.2.1.1 HB.out) (Kd.C_below G.out.2.2.2.1.1 HB.out) F.out.2.2.2.1.2 G.out.2.2.2.1.2).mono ?_))
        | (go_at_call 58; (with_reducible refine (eqRecAckSC _ _ _ _ _ _ (Kd.C_below F.out.2.2.2.2.1 HB.out) (Kd.C_below G.out.2.2.2.2.1 HB.out) F.out.2.2.2.2.2 G.out.2.2.2.2.2).mono ?_)));
       rintro e wn ⟨rfl, hb⟩; have n0_ := Aside0.mk (below_step HB.out hb); have n1_ := Aside0.mk (blk_below BA.out hb); have n2_ := Aside0.mk (blk_below BB.out hb); clear HB BA BB; have HB := n0_; have BA := n1_; have BB := n2_; clear n0_ n1_ n2_ ra rb; clear hb; have ra := blk_cell BA.out; have rb := blk_cell BB.out))
  go_ret
  exact ⟨rfl, HB.out⟩


/-! ### rows of recorders -/
theorem spotNone {w : World} {a : Addr} {v : Value} (h : w.cell? a = some v) : a.spot = none := by
  unfold World.cell? at h
  split at h
  · split at h
    · cases h
    · rename_i hs
      cases hq : a.spot with
      | none => rfl
      | some k => rw [hq] at hs; exact absurd rfl hs
  · cases h
structure RecI where
  f0 : Int
  f1 : Int
  f2 : Bool
  f3 : Int
  f4 : Int
  f5 : (List S93)
  f6 : Int
  f7 : Int
  f8 : (List S93)
  f9 : (List S52)
  f10 : (List ByteArray)
  f11 : Bool
  f12 : Bool
  f13 : Int
  f14 : (List Int)
  f15 : (List S93)
  f16 : (List S83)
  f17 : Int
def zRecI : RecI := ⟨0, 0, false, 0, 0, [], 0, 0, [], [], [], false, false, 0, [], [], [], 0⟩
def kI : Kd RecI := Kd.iso (Kd.pair (Kd.int .i64) (Kd.pair (Kd.int .i64) (Kd.pair Kd.bool (Kd.pair (Kd.int .i64) (Kd.pair (Kd.int .i64) (Kd.pair (Kd.slice 93 k93) (Kd.pair (Kd.int .i64) (Kd.pair (Kd.int .i64) (Kd.pair (Kd.slice 93 k93) (Kd.pair (Kd.slice 52 k52) (Kd.pair (Kd.slice 9 Kd.string) (Kd.pair Kd.bool (Kd.pair Kd.bool (Kd.pair (Kd.int .i64) (Kd.pair (Kd.slice 3 (Kd.int .i64)) (Kd.pair (Kd.slice 93 k93) (Kd.pair (Kd.slice 83 k83) (Kd.int .i64)))))))))))))))))) (fun x : RecI => (x.f0, x.f1, x.f2, x.f3, x.f4, x.f5, x.f6, x.f7, x.f8, x.f9, x.f10, x.f11, x.f12, x.f13, x.f14, x.f15, x.f16, x.f17))
theorem kI_open {w : World} {x : RecI} {cs : List Value} (h : kI.K w x cs) : ∃ A5 A8 A9 A10 A14 A15 A16 c5 c8 c9 c10 c14 c15 c16, cs = [.int .i64 x.f0, .int .i64 x.f1, .bool x.f2, .int .i64 x.f3, .int .i64 x.f4, .slice A5 x.f5.length c5, .int .i64 x.f6, .int .i64 x.f7, .slice A8 x.f8.length c8, .slice A9 x.f9.length c9, .slice A10 x.f10.length c10, .bool x.f11, .bool x.f12, .int .i64 x.f13, .slice A14 x.f14.length c14, .slice A15 x.f15.length c15, .slice A16 x.f16.length c16, .int .i64 x.f17] ∧ (x.f5.length ≤ c5 ∧ Kd.C k93 w A5 x.f5.length x.f5) ∧ (x.f8.length ≤ c8 ∧ Kd.C k93 w A8 x.f8.length x.f8) ∧ (x.f9.length ≤ c9 ∧ Kd.C k52 w A9 x.f9.length x.f9) ∧ (x.f10.length ≤ c10 ∧ Kd.C Kd.string w A10 x.f10.length x.f10) ∧ (x.f14.length ≤ c14 ∧ Kd.C (Kd.int .i64) w A14 x.f14.length x.f14) ∧ (x.f15.length ≤ c15 ∧ Kd.C k93 w A15 x.f15.length x.f15) ∧ (x.f16.length ≤ c16 ∧ Kd.C k83 w A16 x.f16.length x.f16) := by
  obtain ⟨_, _, rfl, rfl, ⟨_, _, rfl, rfl, ⟨_, _, rfl, rfl, ⟨_, _, rfl, rfl, ⟨_, _, rfl, rfl, ⟨_, _, rfl, ⟨A5, c5, rfl, l5, g5⟩, ⟨_, _, rfl, rfl, ⟨_, _, rfl, rfl, ⟨_, _, rfl, ⟨A8, c8, rfl, l8, g8⟩, ⟨_, _, rfl, ⟨A9, c9, rfl, l9, g9⟩, ⟨_, _, rfl, ⟨A10, c10, rfl, l10, g10⟩, ⟨_, _, rfl, rfl, ⟨_, _, rfl, rfl, ⟨_, _, rfl, rfl, ⟨_, _, rfl, ⟨A14, c14, rfl, l14, g14⟩, ⟨_, _, rfl, ⟨A15, c15, rfl, l15, g15⟩, ⟨_, _, rfl, ⟨A16, c16, rfl, l16, g16⟩, rfl⟩⟩⟩⟩⟩⟩⟩⟩⟩⟩⟩⟩⟩⟩⟩⟩⟩ := h
  exact ⟨A5, A8, A9, A10, A14, A15, A16, c5, c8, c9, c10, c14, c15, c16, rfl, ⟨l5, g5⟩, ⟨l8, g8⟩, ⟨l9, g9⟩, ⟨l10, g10⟩, ⟨l14, g14⟩, ⟨l15, g15⟩, ⟨l16, g16⟩⟩
theorem kI_mkM (w : World) (base : Nat) (ok : Nat → Prop) (x : RecI) {v5 v8 v9 v10 v14 v15 v16 : Value} (g5 : Kd.R k93 93 w base ok v5 x.f5) (g8 : Kd.R k93 93 w base ok v8 x.f8) (g9 : Kd.R k52 52 w base ok v9 x.f9) (g10 : Kd.R Kd.string 9 w base ok v10 x.f10) (g14 : Kd.R (Kd.int .i64) 3 w base ok v14 x.f14) (g15 : Kd.R k93 93 w base ok v15 x.f15) (g16 : Kd.R k83 83 w base ok v16 x.f16) : kI.M w base ok x [.int .i64 x.f0, .int .i64 x.f1, .bool x.f2, .int .i64 x.f3, .int .i64 x.f4, v5, .int .i64 x.f6, .int .i64 x.f7, v8, v9, v10, .bool x.f11, .bool x.f12, .int .i64 x.f13, v14, v15, v16, .int .i64 x.f17] :=
  ⟨[.int .i64 x.f0], [.int .i64 x.f1, .bool x.f2, .int .i64 x.f3, .int .i64 x.f4, v5, .int .i64 x.f6, .int .i64 x.f7, v8, v9, v10, .bool x.f11, .bool x.f12, .int .i64 x.f13, v14, v15, v16, .int .i64 x.f17], rfl, rfl, ⟨[.int .i64 x.f1], [.bool x.f2, .int .i64 x.f3, .int .i64 x.f4, v5, .int .i64 x.f6, .int .i64 x.f7, v8, v9, v10, .bool x.f11, .bool x.f12, .int .i64 x.f13, v14, v15, v16, .int .i64 x.f17], rfl, rfl, ⟨[.bool x.f2], [.int .i64 x.f3, .int .i64 x.f4, v5, .int .i64 x.f6, .int .i64 x.f7, v8, v9, v10, .bool x.f11, .bool x.f12, .int .i64 x.f13, v14, v15, v16, .int .i64 x.f17], rfl, rfl, ⟨[.int .i64 x.f3], [.int .i64 x.f4, v5, .int .i64 x.f6, .int .i64 x.f7, v8, v9, v10, .bool x.f11, .bool x.f12, .int .i64 x.f13, v14, v15, v16, .int .i64 x.f17], rfl, rfl, ⟨[.int .i64 x.f4], [v5, .int .i64 x.f6, .int .i64 x.f7, v8, v9, v10, .bool x.f11, .bool x.f12, .int .i64 x.f13, v14, v15, v16, .int .i64 x.f17], rfl, rfl, ⟨[v5], [.int .i64 x.f6, .int .i64 x.f7, v8, v9, v10, .bool x.f11, .bool x.f12, .int .i64 x.f13, v14, v15, v16, .int .i64 x.f17], rfl, ⟨v5, rfl, g5⟩, ⟨[.int .i64 x.f6], [.int .i64 x.f7, v8, v9, v10, .bool x.f11, .bool x.f12, .int .i64 x.f13, v14, v15, v16, .int .i64 x.f17], rfl, rfl, ⟨[.int .i64 x.f7], [v8, v9, v10, .bool x.f11, .bool x.f12, .int .i64 x.f13, v14, v15, v16, .int .i64 x.f17], rfl, rfl, ⟨[v8], [v9, v10, .bool x.f11, .bool x.f12, .int .i64 x.f13, v14, v15, v16, .int .i64 x.f17], rfl, ⟨v8, rfl, g8⟩, ⟨[v9], [v10, .bool x.f11, .bool x.f12, .int .i64 x.f13, v14, v15, v16, .int .i64 x.f17], rfl, ⟨v9, rfl, g9⟩, ⟨[v10], [.bool x.f11, .bool x.f12, .int .i64 x.f13, v14, v15, v16, .int .i64 x.f17], rfl, ⟨v10, rfl, g10⟩, ⟨[.bool x.f11], [.bool x.f12, .int .i64 x.f13, v14, v15, v16, .int .i64 x.f17], rfl, rfl, ⟨[.bool x.f12], [.int .i64 x.f13, v14, v15, v16, .int .i64 x.f17], rfl, rfl, ⟨[.int .i64 x.f13], [v14, v15, v16, .int .i64 x.f17], rfl, rfl, ⟨[v14], [v15, v16, .int .i64 x.f17], rfl, ⟨v14, rfl, g14⟩, ⟨[v15], [v16, .int .i64 x.f17], rfl, ⟨v15, rfl, g15⟩, ⟨[v16], [.int .i64 x.f17], rfl, ⟨v16, rfl, g16⟩, rfl⟩⟩⟩⟩⟩⟩⟩⟩⟩⟩⟩⟩⟩⟩⟩⟩⟩
def rdRecI (xs : List RecI) (i : Int) : RecI := xs.getD i.toNat zRecI
/-- An element of a row of recorders, whole. -/
theorem atRecI {w : World} {A : Option Addr} {n : Nat} {xs : List RecI} (h : Kd.C kI w A n xs) (i : Int) (h0 : 0 ≤ i) (h1 : i < n) : ∃ ad A5 A8 A9 A10 A14 A15 A16 c5 c8 c9 c10 c14 c15 c16, A = some ad ∧ w.rangeAt (ad.add (i.toNat * 18)).block (ad.add (i.toNat * 18)).off [.int .i64 (rdRecI xs i).f0, .int .i64 (rdRecI xs i).f1, .bool (rdRecI xs i).f2, .int .i64 (rdRecI xs i).f3, .int .i64 (rdRecI xs i).f4, .slice A5 (rdRecI xs i).f5.length c5, .int .i64 (rdRecI xs i).f6, .int .i64 (rdRecI xs i).f7, .slice A8 (rdRecI xs i).f8.length c8, .slice A9 (rdRecI xs i).f9.length c9, .slice A10 (rdRecI xs i).f10.length c10, .bool (rdRecI xs i).f11, .bool (rdRecI xs i).f12, .int .i64 (rdRecI xs i).f13, .slice A14 (rdRecI xs i).f14.length c14, .slice A15 (rdRecI xs i).f15.length c15, .slice A16 (rdRecI xs i).f16.length c16, .int .i64 (rdRecI xs i).f17] ∧ (ad.add (i.toNat * 18)).spot = none ∧ ((rdRecI xs i).f5.length ≤ c5 ∧ Kd.C k93 w A5 (rdRecI xs i).f5.length (rdRecI xs i).f5) ∧ ((rdRecI xs i).f8.length ≤ c8 ∧ Kd.C k93 w A8 (rdRecI xs i).f8.length (rdRecI xs i).f8) ∧ ((rdRecI xs i).f9.length ≤ c9 ∧ Kd.C k52 w A9 (rdRecI xs i).f9.length (rdRecI xs i).f9) ∧ ((rdRecI xs i).f10.length ≤ c10 ∧ Kd.C Kd.string w A10 (rdRecI xs i).f10.length (rdRecI xs i).f10) ∧ ((rdRecI xs i).f14.length ≤ c14 ∧ Kd.C (Kd.int .i64) w A14 (rdRecI xs i).f14.length (rdRecI xs i).f14) ∧ ((rdRecI xs i).f15.length ≤ c15 ∧ Kd.C k93 w A15 (rdRecI xs i).f15.length (rdRecI xs i).f15) ∧ ((rdRecI xs i).f16.length ≤ c16 ∧ Kd.C k83 w A16 (rdRecI xs i).f16.length (rdRecI xs i).f16) := by
  obtain ⟨ad, c, e, _, hK, hc0⟩ := Kd.C_get h zRecI i h0 h1
  have hc : ∀ j u, c[j]? = some u → w.cell? (ad.add (i.toNat * 18 + j)) = some u := hc0
  obtain ⟨A5, A8, A9, A10, A14, A15, A16, c5, c8, c9, c10, c14, c15, c16, rfl, hf⟩ := kI_open hK
  have hz := hc 0 _ rfl
  rw [Nat.add_zero] at hz
  have hsp : (ad.add (i.toNat * 18)).spot = none := spotNone hz
  exact ⟨ad, A5, A8, A9, A10, A14, A15, A16, c5, c8, c9, c10, c14, c15, c16, e, fun j u hu => by
    have := hc j u hu
    rcases Nat.eq_zero_or_pos j with rfl | hj
    · rw [Nat.add_zero] at this ⊢
      rw [← this]
      congr 1
      cases hq : ad.add (i.toNat * 18) with | mk b o s => rw [hq] at hsp; cases hsp; rfl
    · rw [add_field _ _ _ hj] at this
      exact this, hsp, hf⟩
structure RecL where
  f0 : Int
  f1 : Int
  f2 : Bool
  f3 : Int
  f4 : Int
  f5 : (List S106)
  f6 : Int
  f7 : Int
  f8 : (List S106)
  f9 : (List S70)
  f10 : (List ByteArray)
  f11 : Bool
  f12 : Bool
  f13 : Int
  f14 : (List Int)
  f15 : (List S106)
  f16 : (List S108)
  f17 : Int
def zRecL : RecL := ⟨0, 0, false, 0, 0, [], 0, 0, [], [], [], false, false, 0, [], [], [], 0⟩
def kL : Kd RecL := Kd.iso (Kd.pair (Kd.int .i64) (Kd.pair (Kd.int .i64) (Kd.pair Kd.bool (Kd.pair (Kd.int .i64) (Kd.pair (Kd.int .i64) (Kd.pair (Kd.slice 106 k106) (Kd.pair (Kd.int .i64) (Kd.pair (Kd.int .i64) (Kd.pair (Kd.slice 106 k106) (Kd.pair (Kd.slice 70 k70) (Kd.pair (Kd.slice 9 Kd.string) (Kd.pair Kd.bool (Kd.pair Kd.bool (Kd.pair (Kd.int .i64) (Kd.pair (Kd.slice 3 (Kd.int .i64)) (Kd.pair (Kd.slice 106 k106) (Kd.pair (Kd.slice 108 k108) (Kd.int .i64)))))))))))))))))) (fun x : RecL => (x.f0, x.f1, x.f2, x.f3, x.f4, x.f5, x.f6, x.f7, x.f8, x.f9, x.f10, x.f11, x.f12, x.f13, x.f14, x.f15, x.f16, x.f17))
theorem kL_open {w : World} {x : RecL} {cs : List Value} (h : kL.K w x cs) : ∃ A5 A8 A9 A10 A14 A15 A16 c5 c8 c9 c10 c14 c15 c16, cs = [.int .i64 x.f0, .int .i64 x.f1, .bool x.f2, .int .i64 x.f3, .int .i64 x.f4, .slice A5 x.f5.length c5, .int .i64 x.f6, .int .i64 x.f7, .slice A8 x.f8.length c8, .slice A9 x.f9.length c9, .slice A10 x.f10.length c10, .bool x.f11, .bool x.f12, .int .i64 x.f13, .slice A14 x.f14.length c14, .slice A15 x.f15.length c15, .slice A16 x.f16.length c16, .int .i64 x.f17] ∧ (x.f5.length ≤ c5 ∧ Kd.C k106 w A5 x.f5.length x.f5) ∧ (x.f8.length ≤ c8 ∧ Kd.C k106 w A8 x.f8.length x.f8) ∧ (x.f9.length ≤ c9 ∧ Kd.C k70 w A9 x.f9.length x.f9) ∧ (x.f10.length ≤ c10 ∧ Kd.C Kd.string w A10 x.f10.length x.f10) ∧ (x.f14.length ≤ c14 ∧ Kd.C (Kd.int .i64) w A14 x.f14.length x.f14) ∧ (x.f15.length ≤ c15 ∧ Kd.C k106 w A15 x.f15.length x.f15) ∧ (x.f16.length ≤ c16 ∧ Kd.C k108 w A16 x.f16.length x.f16) := by
  obtain ⟨_, _, rfl, rfl, ⟨_, _, rfl, rfl, ⟨_, _, rfl, rfl, ⟨_, _, rfl, rfl, ⟨_, _, rfl, rfl, ⟨_, _, rfl, ⟨A5, c5, rfl, l5, g5⟩, ⟨_, _, rfl, rfl, ⟨_, _, rfl, rfl, ⟨_, _, rfl, ⟨A8, c8, rfl, l8, g8⟩, ⟨_, _, rfl, ⟨A9, c9, rfl, l9, g9⟩, ⟨_, _, rfl, ⟨A10, c10, rfl, l10, g10⟩, ⟨_, _, rfl, rfl, ⟨_, _, rfl, rfl, ⟨_, _, rfl, rfl, ⟨_, _, rfl, ⟨A14, c14, rfl, l14, g14⟩, ⟨_, _, rfl, ⟨A15, c15, rfl, l15, g15⟩, ⟨_, _, rfl, ⟨A16, c16, rfl, l16, g16⟩, rfl⟩⟩⟩⟩⟩⟩⟩⟩⟩⟩⟩⟩⟩⟩⟩⟩⟩ := h
  exact ⟨A5, A8, A9, A10, A14, A15, A16, c5, c8, c9, c10, c14, c15, c16, rfl, ⟨l5, g5⟩, ⟨l8, g8⟩, ⟨l9, g9⟩, ⟨l10, g10⟩, ⟨l14, g14⟩, ⟨l15, g15⟩, ⟨l16, g16⟩⟩
def rdRecL (xs : List RecL) (i : Int) : RecL := xs.getD i.toNat zRecL
/-- An element of a row of recorders, whole. -/
theorem atRecL {w : World} {A : Option Addr} {n : Nat} {xs : List RecL} (h : Kd.C kL w A n xs) (i : Int) (h0 : 0 ≤ i) (h1 : i < n) : ∃ ad A5 A8 A9 A10 A14 A15 A16 c5 c8 c9 c10 c14 c15 c16, A = some ad ∧ w.rangeAt (ad.add (i.toNat * 18)).block (ad.add (i.toNat * 18)).off [.int .i64 (rdRecL xs i).f0, .int .i64 (rdRecL xs i).f1, .bool (rdRecL xs i).f2, .int .i64 (rdRecL xs i).f3, .int .i64 (rdRecL xs i).f4, .slice A5 (rdRecL xs i).f5.length c5, .int .i64 (rdRecL xs i).f6, .int .i64 (rdRecL xs i).f7, .slice A8 (rdRecL xs i).f8.length c8, .slice A9 (rdRecL xs i).f9.length c9, .slice A10 (rdRecL xs i).f10.length c10, .bool (rdRecL xs i).f11, .bool (rdRecL xs i).f12, .int .i64 (rdRecL xs i).f13, .slice A14 (rdRecL xs i).f14.length c14, .slice A15 (rdRecL xs i).f15.length c15, .slice A16 (rdRecL xs i).f16.length c16, .int .i64 (rdRecL xs i).f17] ∧ (ad.add (i.toNat * 18)).spot = none ∧ ((rdRecL xs i).f5.length ≤ c5 ∧ Kd.C k106 w A5 (rdRecL xs i).f5.length (rdRecL xs i).f5) ∧ ((rdRecL xs i).f8.length ≤ c8 ∧ Kd.C k106 w A8 (rdRecL xs i).f8.length (rdRecL xs i).f8) ∧ ((rdRecL xs i).f9.length ≤ c9 ∧ Kd.C k70 w A9 (rdRecL xs i).f9.length (rdRecL xs i).f9) ∧ ((rdRecL xs i).f10.length ≤ c10 ∧ Kd.C Kd.string w A10 (rdRecL xs i).f10.length (rdRecL xs i).f10) ∧ ((rdRecL xs i).f14.length ≤ c14 ∧ Kd.C (Kd.int .i64) w A14 (rdRecL xs i).f14.length (rdRecL xs i).f14) ∧ ((rdRecL xs i).f15.length ≤ c15 ∧ Kd.C k106 w A15 (rdRecL xs i).f15.length (rdRecL xs i).f15) ∧ ((rdRecL xs i).f16.length ≤ c16 ∧ Kd.C k108 w A16 (rdRecL xs i).f16.length (rdRecL xs i).f16) := by
  obtain ⟨ad, c, e, _, hK, hc0⟩ := Kd.C_get h zRecL i h0 h1
  have hc : ∀ j u, c[j]? = some u → w.cell? (ad.add (i.toNat * 18 + j)) = some u := hc0
  obtain ⟨A5, A8, A9, A10, A14, A15, A16, c5, c8, c9, c10, c14, c15, c16, rfl, hf⟩ := kL_open hK
  have hz := hc 0 _ rfl
  rw [Nat.add_zero] at hz
  have hsp : (ad.add (i.toNat * 18)).spot = none := spotNone hz
  exact ⟨ad, A5, A8, A9, A10, A14, A15, A16, c5, c8, c9, c10, c14, c15, c16, e, fun j u hu => by
    have := hc j u hu
    rcases Nat.eq_zero_or_pos j with rfl | hj
    · rw [Nat.add_zero] at this ⊢
      rw [← this]
      congr 1
      cases hq : ad.add (i.toNat * 18) with | mk b o s => rw [hq] at hsp; cases hsp; rfl
    · rw [add_field _ _ _ hj] at this
      exact this, hsp, hf⟩
theorem drawnB {P : Program} {f : FuncId} {args : Array Value} {w : World} {v : Value} (h : Calls P f args w fun e w' => e = .returned v ∧ Drawn0 w w') : Calls P f args w fun e w' => e = .returned v ∧ Below w.heap.size w w' := h.mono fun _ _ ⟨h1, h2⟩ => ⟨h1, h2.below⟩
theorem l1InQ (a b c : Int) (w : World) : QC w 12 #[.int .i64 a, .int .i64 b, .int .i64 c] (decide (b ≤ a ∧ a ≤ c)) := fun W _ => drawnB (spec_l1In.calls a b c _ W (l1In a b c))
theorem withinQ (a b c : Int) (w : World) : QC w 18 #[.int .i64 a, .int .i64 b, .int .i64 c] (decide (b ≤ a ∧ a ≤ c)) := fun W _ => drawnB (impl_within.calls a b c _ W (within a b c))
theorem specSlotQ (xs : List S93) (A : Option Addr) (c : Nat) (w : World) (hC : Kd.C k93 w A xs.length xs) (hc : xs.length ≤ c) : QC w 30 #[.slice A xs.length c] (slotsB xs) := fun W hb => drawnB (spec_l1SlotsOk.calls (xs.length + 1) A c xs _ W (Kd.C_below hC hb) hc (specSlotsOk xs _ (Nat.lt_succ_self _)))
theorem implSlotQ (xs : List S93) (A : Option Addr) (c : Nat) (w : World) (hC : Kd.C k93 w A xs.length xs) (hc : xs.length ≤ c) : QC w 38 #[.slice A xs.length c] (slotsB xs) := fun W hb => impl_slotsOk.calls (xs.length + 1) A c xs _ W (Kd.C_below hC hb) hc (implSlotsOk xs _ (Nat.lt_succ_self _))
def msgV (o : Int) (x : S52) : Bool := msgB x.f0 x.f1 x.f2 x.f3 x.f4 x.f5 x.f6 x.f7 o

end Go.Proofs.Ytjkhlhopfaapmaa.QFnExactRecWorldOk
