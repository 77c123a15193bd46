/- RecMerge of the program and of the reference give one list at every two lists, and it owns its memory (plain side). -/
import Derived.Test.YthnmdbjjfjkfmaaPFnExactRecMergex
import Derived.Test.YthnmdbjjfjkfmaaOpen
import Derived.Test.YthnmdbjjfjkfmaaPb
namespace Go.Proofs.Ythnmdbjjfjkfmaa.QFnExactRecMerge
open Go.RowKit Go.Proofs.Ythnmdbjjfjkfmaa.PFnExactRecMerge Go.Proofs.YthnmdbjjfjkfmaaW.PrintWords Go.Proofs.YthnmdbjjfjkfmaaW.PrintLast Go.Proofs.Ythnmdbjjfjkfmaa.Pb Go.Proofs.Ythnmdbjjfjkfmaa.Op
set_option linter.unusedSimpArgs false
set_option linter.unusedVariables false

/-! ### sizes of slots -/
theorem szSlot (x : S94) (a : Int) (h0 : 0 ≤ a) (ha : a ≤ 1048576) (hs : x.f1.size ≤ maxLen) :
    ∃ r, laws_szRecSlot.f x.f0 x.f1 a = some r ∧ r ≤ a ∧ -1 ≤ r := by
  unfold laws_szRecSlot.f maxLen at *
  rw [wrapIn (by omega) (by omega)]
  by_cases h : a - (x.f1.size : Int) < 0
  · rw [if_pos h]; exact ⟨_, rfl, by omega, by omega⟩
  · rw [if_neg h]; exact ⟨_, rfl, by omega, by omega⟩

theorem szSlotS (xs : List S94) (a : Int) (h0 : 0 ≤ a) (ha : a ≤ 1048576) (hl : xs.length ≤ maxLen) (hs : ∀ x ∈ xs, x.f1.size ≤ maxLen) (k : Nat) (hk : xs.length < k) :
    ∃ r, laws_szRecSlotS.f k xs a = some r ∧ r ≤ a ∧ -1 ≤ r ∧ (0 ≤ r → (xs.length : Int) ≤ a) := by
  have hl' : xs.length ≤ 9223372036854775807 := by unfold maxLen at hl; omega
  unfold laws_szRecSlotS.f
  rw [wrapIn (by omega) (by omega)]
  by_cases h : a - (xs.length : Int) < 0
  · rw [if_pos h]; exact ⟨_, rfl, by omega, by omega, fun _ => by omega⟩
  · rw [if_neg h]
    have hsm : xs.length ≤ 1048576 := by omega
    have key := loopInd xs.length (fun k i => ∀ b : Int, 0 ≤ b → b ≤ a - xs.length → ∃ r, laws_szRecSlotS.l0 k xs b (i : Int) = some r ∧ r ≤ b ∧ -1 ≤ r) ?_ ?_ 0 k (Nat.zero_le _) (by omega) (a - xs.length) (by omega) (by omega)
    · obtain ⟨r, h1, h2, h3⟩ := key
      exact ⟨r, h1, by omega, h3, fun _ => by omega⟩
    · intro k b hb _
      refine ⟨b, ?_, by omega, by omega⟩
      simp only [laws_szRecSlotS.l0]
      rw [if_neg (by omega)]
    · intro k i hi ih b hb hba
      simp only [laws_szRecSlotS.l0]
      rw [if_pos (by omega), if_pos (by omega), wrapSucc hi (by omega)]
      unfold rd_T94
      rw [getDAt hi]
      obtain ⟨t, ht, hta, htm⟩ := szSlot xs[i] b hb (by omega) (hs _ (List.getElem_mem hi))
      rw [ht]
      simp only [Option.bind_some]
      by_cases hneg : t < 0
      · rw [if_pos hneg]; exact ⟨_, rfl, by omega, by omega⟩
      · rw [if_neg hneg]
        obtain ⟨r, h1, h2, h3⟩ := ih t (by omega) (by omega)
        exact ⟨r, h1, by omega, h3⟩

/-! ### mirrors of slots -/
def mSlot (x : S94) : S96 := ⟨x.f0, x.f1⟩
theorem toSlotS (xs : List S94) (hl : xs.length ≤ 1048576) (k : Nat) (hk : xs.length < k) : laws_toRecSlotS.f k xs = some (xs.map mSlot) := by
  unfold laws_toRecSlotS.f
  rw [if_pos (by omega), if_pos (by rw [Int.toNat_natCast]; omega), Int.toNat_natCast]
  have key := loopInd xs.length (fun k i => laws_toRecSlotS.l0 k xs (fill (xs.map mSlot) z96 i) (i : Int) = some (xs.map mSlot)) ?_ ?_ 0 k (Nat.zero_le _) (by omega)
  · rw [fill_zero, List.length_map] at key
    exact key
  · intro k
    simp only [laws_toRecSlotS.l0]
    rw [if_neg (by omega)]
    have := fill_all (xs.map mSlot) z96
    rw [List.length_map] at this
    rw [this]
  · intro k i hi ih
    simp only [laws_toRecSlotS.l0]
    have hfl := fill_length (xs.map mSlot) z96 i (by rw [List.length_map]; omega)
    rw [List.length_map] at hfl
    rw [if_pos (by omega), if_pos (by omega), wrapSucc hi (by omega)]
    unfold laws_toRecSlot.f rd_T94
    rw [getDAt hi]
    simp only [Option.bind_some]
    rw [if_pos (by rw [hfl]; omega), Int.toNat_natCast]
    have hs := fill_set (xs.map mSlot) z96 i (by rw [List.length_map]; omega)
    rw [List.getElem_map] at hs
    have e : (⟨xs[i].f0, xs[i].f1⟩ : S96) = mSlot xs[i] := rfl
    rw [e, hs]
    exact ih

/-! ### slots that are one and the same -/
theorem eqSlotS (xs : List S96) (hl : xs.length ≤ 4611686018427387904) (k : Nat) (hk : xs.length < k) : laws_eqRecSlotS.f k xs xs = some true := by
  unfold laws_eqRecSlotS.f
  rw [if_pos rfl]
  refine loopInd xs.length (fun k i => laws_eqRecSlotS.l0 k xs xs (i : Int) = some true) ?_ ?_ 0 k (Nat.zero_le _) (by omega)
  · intro k
    simp only [laws_eqRecSlotS.l0]
    rw [if_neg (by omega)]
  · intro k i hi ih
    simp only [laws_eqRecSlotS.l0]
    rw [if_pos (by omega), if_pos (by omega), if_pos (by omega), wrapSucc hi (by omega)]
    unfold laws_eqRecSlot.f
    simp only [if_true, Option.bind_some]
    exact ih

/-! ### the mark's text -/
theorem markLoop (d : Nat) : ∀ (k : Nat) (x : Int) (s : ByteArray), 0 ≤ x → x ≤ 9223372036854775807 → x < 10 ^ d → d < k → s.size + d < 1000 → ∃ t, laws_markText.l0 k x s = some t := by
  induction d with
  | zero =>
    intro k x s h0 hb h1 hk hs
    obtain ⟨k, rfl⟩ : ∃ m, k = m + 1 := ⟨k - 1, by omega⟩
    simp only [Int.pow_zero] at h1
    simp only [laws_markText.l0]
    rw [if_neg (by omega), if_pos (by omega)]
    exact ⟨_, rfl⟩
  | succ d ih =>
    intro k x s h0 hb h1 hk hs
    obtain ⟨k, rfl⟩ : ∃ m, k = m + 1 := ⟨k - 1, by omega⟩
    rw [Int.pow_succ] at h1
    simp only [laws_markText.l0]
    by_cases hx : x > 0
    · rw [if_pos hx]
      simp only [Option.bind_some]
      rw [if_pos (by rw [strOfNums_size]; simp only [List.length_cons, List.length_nil]; omega), Int.tdiv_eq_ediv_of_nonneg h0, wrapIn (by omega) (by omega)]
      refine ih k (x / 10) _ (by omega) (by omega) ?_ (by omega) ?_
      · generalize (10 : Int) ^ d = p at h1 ⊢; omega
      · rw [ByteArray.size_append, strOfNums_size]; simp only [List.length_cons, List.length_nil]; omega
    · rw [if_neg hx, if_pos (by omega)]
      exact ⟨_, rfl⟩
def mt (v : Int) : ByteArray := (laws_markText.f 30 v).getD ⟨#[]⟩
theorem markText_eq (v : Int) (h : v < 1000000000000000) (k : Nat) (hk : 30 ≤ k) : laws_markText.f k v = some (mt v) := by
  have : ∃ t, laws_markText.f 30 v = some t := by
    unfold laws_markText.f
    by_cases h0 : v ≤ 0
    · rw [if_pos h0]; exact ⟨_, rfl⟩
    · rw [if_neg h0]
      exact markLoop 15 30 v _ (by omega) (by omega) (by omega) (by omega) (by decide)
  obtain ⟨t, ht⟩ := this
  have h2 : mt v = t := by unfold mt; rw [ht]; rfl
  rw [h2]
  exact at_rounds (g := fun k => laws_markText.f k v) (fun k => laws_markText.mono v k) hk ht

/-! ### slots that are marked -/
def markS : List S96 → Int → List S96
  | [], _ => []
  | _ :: r, n => ⟨n, mt (n + 1)⟩ :: markS r (n + 2)
theorem markS_length (xs : List S96) : ∀ n, (markS xs n).length = xs.length := by
  induction xs with
  | nil => intro n; rfl
  | cons x r ih => intro n; simp only [markS, List.length_cons, ih]
theorem markS_append (a b : List S96) : ∀ n, markS (a ++ b) n = markS a n ++ markS b (n + 2 * a.length) := by
  induction a with
  | nil => intro n; simp [markS]
  | cons x r ih =>
    intro n
    simp only [List.cons_append, markS, ih, List.length_cons]
    have : n + 2 + 2 * (r.length : Int) = n + 2 * ((r.length + 1 : Nat) : Int) := by omega
    rw [this]
theorem markS_get (xs : List S96) : ∀ (n : Int) (i : Nat) (h : i < (markS xs n).length), (markS xs n)[i] = ⟨n + 2 * i, mt (n + 2 * i + 1)⟩ := by
  induction xs with
  | nil => intro n i h; simp [markS] at h
  | cons x r ih =>
    intro n i h
    cases i with
    | zero => simp [markS]
    | succ i =>
      simp only [markS, List.getElem_cons_succ]
      rw [ih]
      have : n + 2 + 2 * (i : Int) = n + 2 * ((i + 1 : Nat) : Int) := by omega
      rw [this]

theorem markSlotS (xs : List S96) (n : Int) (h0 : 0 ≤ n) (hb : n + 2 * xs.length ≤ 100000000000000) (k : Nat) (hk : xs.length + 30 < k) : laws_markRecSlotS.f k xs n = some (n + 2 * xs.length, markS xs n) := by
  unfold laws_markRecSlotS.f
  have key := loopIndB xs.length 30 (fun k i => laws_markRecSlotS.l0 k (markS (xs.take i) n ++ xs.drop i) (n + 2 * i) (i : Int) = some (n + 2 * xs.length, markS xs n)) ?_ ?_ 0 k (Nat.zero_le _) (by omega)
  · simpa [markS] using key
  · intro k
    simp only [laws_markRecSlotS.l0, List.take_length, List.drop_length, List.append_nil]
    rw [if_neg (by rw [markS_length]; omega)]
  · intro k i hi hk ih
    have hl : (markS (xs.take i) n).length = i := by rw [markS_length, List.length_take]; omega
    have hcl : (markS (xs.take i) n ++ xs.drop i).length = xs.length := by rw [List.length_append, hl, List.length_drop]; omega
    simp only [laws_markRecSlotS.l0]
    rw [if_pos (by rw [hcl]; omega), if_pos (by omega)]
    simp only [Option.bind_some]
    rw [wrapIn (x := n + 2 * (i : Int) + 1) (by omega) (by omega), markText_eq _ (by omega) k hk, wrapIn (by omega) (by omega), wrapSucc hi (by omega)]
    simp only [Option.bind_some]
    have e0 : ∀ v, rd_T96 ((markS (xs.take i) n ++ xs.drop i).set ((i : Int)).toNat v) (i : Int) = v := fun v => by
      unfold rd_T96
      rw [getDAt (by rw [List.length_set, hcl]; exact hi)]
      simp only [Int.toNat_natCast, List.getElem_set_self]
    rw [e0, Int.toNat_natCast, List.set_set, List.set_append_right _ _ (by omega), hl, Nat.sub_self, dropAt hi, List.set_cons_zero]
    have e : n + 2 * (i : Int) + 1 + 1 = n + 2 * ((i + 1 : Nat) : Int) := by omega
    have e2 : markS (xs.take i) n ++ (⟨n + 2 * (i : Int), mt (n + 2 * (i : Int) + 1)⟩ :: xs.drop (i + 1)) = markS (xs.take (i + 1)) n ++ xs.drop (i + 1) := by
      rw [List.take_succ_eq_append_getElem hi, markS_append, List.length_take, Nat.min_eq_left (by omega), List.append_assoc]
      rfl
    rw [e, e2]
    exact ih

theorem heldSlotS (xs : List S96) (n : Int) (h0 : 0 ≤ n) (hb : n + 2 * xs.length ≤ 100000000000000) (k : Nat) (hk : xs.length + 30 < k) : laws_heldRecSlotS.f k (markS xs n) n = some (n + 2 * xs.length) := by
  unfold laws_heldRecSlotS.f
  have key := loopIndB xs.length 30 (fun k i => laws_heldRecSlotS.l0 k (markS xs n) (n + 2 * i) (i : Int) = some (n + 2 * xs.length)) ?_ ?_ 0 k (Nat.zero_le _) (by omega)
  · simpa using key
  · intro k
    simp only [laws_heldRecSlotS.l0]
    rw [if_neg (by rw [markS_length]; omega)]
  · intro k i hi hk ih
    have hil : i < (markS xs n).length := by rw [markS_length]; exact hi
    simp only [laws_heldRecSlotS.l0]
    rw [if_pos (by omega), if_pos (by omega)]
    unfold rd_T96
    rw [getDAt hil, markS_get, if_pos rfl, wrapIn (x := n + 2 * (i : Int) + 1) (by omega) (by omega), markText_eq _ (by omega) k hk, wrapIn (by omega) (by omega), wrapSucc hi (by omega)]
    simp only [Option.bind_some, if_true]
    have e : n + 2 * (i : Int) + 1 + 1 = n + 2 * ((i + 1 : Nat) : Int) := by omega
    rw [e]
    exact ih

/-! ### slots that are merged -/
theorem merge_one (b : List S96) (hb : b.length ≤ 4611686018427387904) (k : Nat) : ∀ (cur : List S96) (i : Nat), i ≤ cur.length → i ≤ b.length →
    impl_RecMerge.l0 k cur b (b.length : Int) (i : Int) = spec_RecMerge.l0 k b cur (i : Int) := by
  induction k with
  | zero => intro cur i _ _; rfl
  | succ k ih =>
    intro cur i hi hib
    simp only [impl_RecMerge.l0, spec_RecMerge.l0]
    by_cases h : (i : Int) < (b.length : Int)
    · have hlt : i < b.length := by omega
      have h0 : (0 : Int) ≤ (i : Int) := by omega
      by_cases he : (i : Int) = (cur.length : Int)
      · have hge : (i : Int) ≥ (cur.length : Int) := by omega
        simp only [if_pos h, if_pos h0, if_pos hge, if_pos he, wrapSucc hlt hb]
        by_cases hl : cur.length < 5864062014805
        · simp only [if_pos hl]
          exact ih _ (i + 1) (by rw [List.length_append, List.length_singleton]; omega) (by omega)
        · simp only [if_neg hl]
      · have hge : ¬ (i : Int) ≥ (cur.length : Int) := by omega
        have hlc : (i : Int) < (cur.length : Int) := by omega
        simp only [if_pos h, if_pos h0, if_neg hge, if_neg he, if_pos hlc, wrapSucc hlt hb]
        rw [ih _ (i + 1) (by rw [List.length_set]; omega) (by omega), ih _ (i + 1) (by omega) (by omega)]
    · rw [if_neg h, if_neg h]

theorem merge_some (b : List S96) (hb : b.length ≤ 1000000000) (m : Nat) (hm : m ≤ 1000000000) (k : Nat) (hk : b.length < k) : ∀ (cur : List S96), cur.length = m →
    ∃ r, spec_RecMerge.l0 k b cur 0 = some r ∧ r.length ≤ m + b.length := by
  intro cur hc
  have key := loopInd b.length (fun k i => ∀ cur : List S96, i ≤ cur.length → cur.length ≤ m + i → ∃ r, spec_RecMerge.l0 k b cur (i : Int) = some r ∧ r.length ≤ m + b.length) ?_ ?_ 0 k (Nat.zero_le _) (by omega)
  · exact key cur (by omega) (by omega)
  · intro k cur h1 h2
    simp only [spec_RecMerge.l0]
    rw [if_neg (by omega)]
    exact ⟨_, rfl, h2⟩
  · intro k i hi ih cur h1 h2
    simp only [spec_RecMerge.l0]
    rw [if_pos (by omega), wrapSucc hi (by omega), if_pos (by omega : (0 : Int) ≤ (i : Int))]
    by_cases he : (i : Int) = (cur.length : Int)
    · rw [if_pos he, if_pos (by omega)]
      exact ih _ (by rw [List.length_append, List.length_singleton]; omega) (by rw [List.length_append, List.length_singleton]; omega)
    · rw [if_neg he, if_pos (by omega), if_pos (by omega)]
      split
      · exact ih _ (by rw [List.length_set]; omega) (by rw [List.length_set]; omega)
      · exact ih _ (by omega) (by omega)

theorem merge_both (a b : List S96) (ha : a.length ≤ 1000000000) (hb : b.length ≤ 1000000000) (k : Nat) (hk : b.length < k) :
    ∃ r, spec_RecMerge.f k a b = some r ∧ impl_RecMerge.f k a b = some r ∧ r.length ≤ a.length + b.length := by
  obtain ⟨r, hr, hl⟩ := merge_some b hb a.length ha k hk a rfl
  refine ⟨r, ?_, ?_, hl⟩
  · unfold spec_RecMerge.f spec_l1Slots.f
    simp only [Option.bind_some, List.length_nil, Nat.zero_add, List.nil_append]
    rw [if_pos (by omega)]
    exact hr
  · unfold impl_RecMerge.f
    simp only [Option.bind_some, List.length_nil, Nat.zero_add, List.nil_append]
    rw [if_pos (by omega)]
    exact (merge_one b (by omega) k a 0 (Nat.zero_le _) (Nat.zero_le _)).trans hr

/-- The law on merging, of whole numbers, texts and lists alone. -/
theorem law (xs ys : List S94) (hl : xs.length ≤ maxLen) (hs : ∀ x ∈ xs, x.f1.size ≤ maxLen) (hl' : ys.length ≤ maxLen) (hs' : ∀ x ∈ ys, x.f1.size ≤ maxLen) : laws_FnExactRecMerge.f (xs.length + ys.length + 100) xs ys = some true := by
  unfold laws_FnExactRecMerge.f
  obtain ⟨r, hr, hr1, hm, hlen⟩ := szSlotS xs 1048576 (by omega) (by omega) hl hs (xs.length + ys.length + 100) (by omega)
  rw [hr]
  simp only [Option.bind_some]
  by_cases h : r < 0
  · rw [if_pos h]
  rw [if_neg h]
  obtain ⟨r', hr', hr1', hm', hlen'⟩ := szSlotS ys r (by omega) (by omega) hl' hs' (xs.length + ys.length + 100) (by omega)
  rw [hr']
  simp only [Option.bind_some]
  by_cases h' : r' < 0
  · rw [if_pos h']
  rw [if_neg h']
  have hx : xs.length ≤ 1048576 := by have := hlen (by omega); omega
  have hy : ys.length ≤ 1048576 := by have := hlen' (by omega); omega
  have hX : ∀ k, xs.length < k → laws_toRecSlotS.f k xs = some (xs.map mSlot) := fun k hk => toSlotS xs hx k hk
  have hY : ∀ k, ys.length < k → laws_toRecSlotS.f k ys = some (ys.map mSlot) := fun k hk => toSlotS ys hy k hk
  rw [hX _ (by omega), hY _ (by omega)]
  simp only [Option.bind_some]
  have hax : (xs.map mSlot).length = xs.length := List.length_map _
  have hay : (ys.map mSlot).length = ys.length := List.length_map _
  generalize xs.map mSlot = a at *
  generalize ys.map mSlot = b at *
  obtain ⟨m, h1, h2, h3⟩ := merge_both a b (by omega) (by omega) (xs.length + ys.length + 100) (by omega)
  rw [h1, h2]
  simp only [Option.bind_some]
  rw [eqSlotS m (by omega) _ (by omega), eqSlotS a (by omega) _ (by omega), eqSlotS b (by omega) _ (by omega)]
  simp only [Option.bind_some, if_true]
  rw [markSlotS a 1 (by omega) (by omega) _ (by omega)]
  simp only [Option.bind_some]
  rw [markSlotS b _ (by omega) (by omega) _ (by omega)]
  simp only [Option.bind_some]
  rw [if_neg (by omega)]
  obtain ⟨K, hK⟩ : ∃ K, xs.length + ys.length + 100 = K + 1 := ⟨xs.length + ys.length + 99, rfl⟩
  rw [hK]
  simp only [laws_FnExactRecMerge.j0, Bool.not_true, Bool.false_eq_true, if_false]
  rw [markSlotS m 1 (by omega) (by omega) _ (by omega)]
  simp only [Option.bind_some]
  rw [heldSlotS m 1 (by omega) (by omega) _ (by omega)]
  simp only [Option.bind_some]
  rw [if_neg (by omega), if_pos trivial]
  have hK' : xs.length + ys.length + 99 = K := by omega
  rw [hX K (by omega), hY K (by omega)]
  simp only [Option.bind_some]
  obtain ⟨m2, h12, h22, _⟩ := merge_both a b (by omega) (by omega) K (by omega)
  have hm2 : m2 = m := by
    have h3 := at_rounds (g := fun k => spec_RecMerge.f k a b) (fun k => spec_RecMerge.mono a b k) (Nat.le_succ K) h12
    have h1' : spec_RecMerge.f (K + 1) a b = some m := by rw [← hK]; exact h1
    exact (Option.some.inj (h1'.symm.trans h3)).symm
  subst hm2
  rw [h22]
  simp only [Option.bind_some]
  rw [eqSlotS m2 (by omega) _ (by omega)]
  simp only [Option.bind_some, if_true]
  rw [if_neg (by omega)]

end Go.Proofs.Ythnmdbjjfjkfmaa.QFnExactRecMerge
