/- What validity says, in plain words. No condition. -/
import Derived.Test.Ytjeijflpejhkhaaval4
namespace Go.Proofs.Ytjeijflpejhkhaa.Sp
open Go Go.RowKit
set_option linter.unusedVariables false
set_option linter.unusedSimpArgs false
theorem allN_iff {p : Nat → Bool} {n : Nat} : allN p n = true ↔ ∀ j, j < n → p j = true := by simp [allN, List.all_eq_true]
structure SlotP (s : Slot) : Prop where
  lo : 0 ≤ s.ballot
  hi : s.ballot ≤ 1000000
  txt : s.text.size ≤ 100
  nil : s.ballot = 0 → s.text = ⟨#[]⟩
theorem slotB_iff {s : Slot} : slotB s = true ↔ SlotP s := by
  simp only [slotB, Bool.and_eq_true, decide_eq_true_eq, Bool.not_eq_true', decide_eq_false_iff_not, Bool.and_eq_false_iff, Bool.not_eq_false']
  constructor
  · rintro ⟨⟨⟨h1, h2⟩, h3⟩, h4⟩
    exact ⟨h1, h2, by omega, fun e => h4.resolve_left (fun h => h e)⟩
  · rintro ⟨h1, h2, h3, h4⟩
    refine ⟨⟨⟨h1, h2⟩, by omega⟩, ?_⟩
    by_cases e : s.ballot = 0
    · exact .inr (h4 e)
    · exact .inl e
def SlotsP (xs : List Slot) : Prop := xs.length ≤ 60 ∧ ∀ s ∈ xs, SlotP s
theorem slotsB_iff {xs : List Slot} : slotsB xs = true ↔ SlotsP xs := by
  rw [slotsB, Bool.and_eq_true, decide_eq_true_eq, allN_iff]
  constructor
  · rintro ⟨h1, h2⟩
    refine ⟨by omega, fun s hs => ?_⟩
    obtain ⟨i, hi, rfl⟩ := List.getElem_of_mem hs
    have := h2 i hi
    rw [rdR_at hi] at this
    exact slotB_iff.1 this
  · rintro ⟨h1, h2⟩
    exact ⟨by omega, fun j hj => by rw [rdR_at hj]; exact slotB_iff.2 (h2 _ (List.getElem_mem hj))⟩
structure DiskP (p k : Int) (xs : List Slot) : Prop where
  p0 : 0 ≤ p
  p1 : p ≤ 1000000
  slots : SlotsP xs
  k0 : 0 ≤ k
  k1 : k ≤ xs.length
  le : ∀ s ∈ xs, s.ballot ≤ p
  known : ∀ j (h : j < xs.length), (j : Int) < k → xs[j].ballot ≠ 0
theorem diskB_iff {p k : Int} {xs : List Slot} : diskB p k xs = true ↔ DiskP p k xs := by
  simp only [diskB, Bool.and_eq_true, decide_eq_true_eq, allN_iff, slotsB_iff, Bool.not_eq_true', decide_eq_false_iff_not, Bool.and_eq_false_iff]
  constructor
  · rintro ⟨⟨⟨⟨h1, h2⟩, h3⟩, h4, h5⟩, h6⟩
    refine ⟨h1, h2, h3, h4, h5, fun s hs => ?_, fun j hj hk => ?_⟩
    · obtain ⟨i, hi, rfl⟩ := List.getElem_of_mem hs
      have := (h6 i hi).1
      rw [rdR_at hi] at this
      omega
    · have := (h6 j hj).2
      rw [rdR_at hj] at this
      exact this.resolve_left (fun h => h hk)
  · rintro ⟨h1, h2, h3, h4, h5, h6, h7⟩
    refine ⟨⟨⟨⟨h1, h2⟩, h3⟩, h4, h5⟩, fun j hj => ?_⟩
    rw [rdR_at hj]
    refine ⟨by have := h6 _ (List.getElem_mem hj); omega, ?_⟩
    by_cases e : (j : Int) < k
    · exact .inr (h7 j hj e)
    · exact .inl e
theorem pairwise_adj {α : Type} {f : α → Int} {xs : List α} : xs.Pairwise (fun a b => f a < f b) ↔ ∀ j (h : j + 1 < xs.length), f xs[j] < f xs[j + 1] := by
  rw [List.pairwise_iff_getElem]
  constructor
  · intro h j hj
    exact h j (j + 1) (by omega) hj (by omega)
  · intro h i j hi hj hij
    induction j with
    | zero => omega
    | succ j ih =>
      have h1 := h j hj
      by_cases e : i = j
      · subst e; exact h1
      · have := ih (by omega) (by omega)
        omega
structure NumsP (xs : List Int) (o : Int) : Prop where
  all : ∀ n ∈ xs, 1 ≤ n ∧ n ≤ o
  sorted : xs.Pairwise (· < ·)
theorem adj_b {α : Type} {D : TyR α} {f : α → Int} {xs : List α} : (∀ j, j < xs.length → (decide (0 < j) && decide (f (rdR D xs j) ≤ f (rdR D xs ((j : Int) - 1)))) = false) ↔ xs.Pairwise (fun a b => f a < f b) := by
  rw [pairwise_adj]
  simp only [Bool.and_eq_false_iff, decide_eq_false_iff_not]
  constructor
  · intro h j hj
    have := (h (j + 1) hj).resolve_left (by omega)
    rw [rdR_at hj, show ((j + 1 : Nat) : Int) - 1 = (j : Nat) by omega, rdR_at (show j < xs.length by omega)] at this
    omega
  · intro h j hj
    by_cases e : 0 < j
    · right
      obtain ⟨i, rfl⟩ : ∃ i, j = i + 1 := ⟨j - 1, by omega⟩
      have := h i hj
      rw [rdR_at hj, show ((i + 1 : Nat) : Int) - 1 = (i : Nat) by omega, rdR_at (show i < xs.length by omega)]
      omega
    · exact .inl e
theorem numbersB_iff {xs : List Int} {o : Int} : numbersB xs o = true ↔ NumsP xs o := by
  have ha := adj_b (D := rInt) (f := fun n => n) (xs := xs)
  simp only [numbersB, allN_iff, numB, Bool.and_eq_true, decide_eq_true_eq, Bool.not_eq_true']
  constructor
  · intro h
    refine ⟨fun n hn => ?_, ha.1 (fun j hj => (h j hj).2)⟩
    obtain ⟨i, hi, rfl⟩ := List.getElem_of_mem hn
    have := (h i hi).1
    rwa [rdR_at hi] at this
  · rintro ⟨h1, h2⟩ j hj
    exact ⟨by rw [rdR_at hj]; exact h1 _ (List.getElem_mem hj), ha.2 h2 j hj⟩
structure AcksP (xs : List Ack) (o : Int) : Prop where
  all : ∀ a ∈ xs, (1 ≤ a.index ∧ a.index ≤ 60) ∧ NumsP a.frm o
  sorted : xs.Pairwise (fun a b => a.index < b.index)
theorem acksB_iff {xs : List Ack} {o : Int} : acksB xs o = true ↔ AcksP xs o := by
  have ha := adj_b (D := rAck) (f := fun n => n.index) (xs := xs)
  simp only [acksB, allN_iff, ackB, Bool.and_eq_true, decide_eq_true_eq, Bool.not_eq_true', numbersB_iff]
  constructor
  · intro h
    refine ⟨fun n hn => ?_, ha.1 (fun j hj => (h j hj).2)⟩
    obtain ⟨i, hi, rfl⟩ := List.getElem_of_mem hn
    have := (h i hi).1
    rwa [rdR_at hi] at this
  · rintro ⟨h1, h2⟩ j hj
    exact ⟨by rw [rdR_at hj]; exact h1 _ (List.getElem_mem hj), ha.2 h2 j hj⟩
structure MsgP (m : Msg) (o : Int) : Prop where
  kind : 1 ≤ m.kind ∧ m.kind ≤ 9
  frm : 1 ≤ m.frm ∧ m.frm ≤ o
  to : 1 ≤ m.to ∧ m.to ≤ o
  ballot : 0 ≤ m.ballot ∧ m.ballot ≤ 1000000
  index : 0 ≤ m.index ∧ m.index ≤ 60
  known : 0 ≤ m.known ∧ m.known ≤ 60
  text : m.text.size ≤ 100
  slots : SlotsP m.slots
theorem msgB_iff {m : Msg} {o : Int} : msgB m o = true ↔ MsgP m o := by
  simp only [msgB, Bool.and_eq_true, decide_eq_true_eq, slotsB_iff]
  constructor
  · rintro ⟨⟨⟨⟨⟨⟨⟨h1, h2⟩, h3⟩, h4⟩, h5⟩, h6⟩, h7⟩, h8⟩
    exact ⟨h1, h2, h3, h4, h5, h6, by omega, h8⟩
  · rintro ⟨h1, h2, h3, h4, h5, h6, h7, h8⟩
    exact ⟨⟨⟨⟨⟨⟨⟨h1, h2⟩, h3⟩, h4⟩, h5⟩, h6⟩, by omega⟩, h8⟩
theorem newB_iff {xs : List ByteArray} {n : Nat} {s : ByteArray} (hn : n ≤ xs.length) : newB xs n s = true ↔ s ∉ xs.take n := by
  simp only [newB, allN_iff, Bool.not_eq_true', decide_eq_false_iff_not]
  constructor
  · intro h hm
    obtain ⟨i, hi, e⟩ := List.getElem_of_mem hm
    have hi2 : i < n := by simp at hi; omega
    have := h i hi2
    rw [rdR_at (by omega)] at this
    rw [List.getElem_take] at e
    exact this e
  · intro h j hj e
    rw [rdR_at (show j < xs.length by omega)] at e
    refine h ?_
    rw [← e]
    exact List.mem_iff_getElem.2 ⟨j, by simp; omega, by rw [List.getElem_take]⟩
structure WishesP (xs : List ByteArray) : Prop where
  len : xs.length ≤ 20
  all : ∀ s ∈ xs, 1 ≤ s.size ∧ s.size ≤ 100
  nodup : xs.Nodup
theorem wishesB_iff {xs : List ByteArray} : wishesB xs = true ↔ WishesP xs := by
  simp only [wishesB, wishB, Bool.and_eq_true, decide_eq_true_eq, allN_iff]
  constructor
  · rintro ⟨h1, h2⟩
    refine ⟨by omega, fun s hs => ?_, ?_⟩
    · obtain ⟨i, hi, rfl⟩ := List.getElem_of_mem hs
      have := (h2 i hi).1
      rw [rdR_at hi] at this
      omega
    · rw [List.Nodup, List.pairwise_iff_getElem]
      intro i j hi hj hij e
      have h3 := (newB_iff (by omega)).1 (h2 j hj).2
      rw [rdR_at hj, ← e] at h3
      exact h3 (List.mem_iff_getElem.2 ⟨i, by simp; omega, by rw [List.getElem_take]⟩)
  · rintro ⟨h1, h2, h3⟩
    refine ⟨by omega, fun j hj => ⟨?_, ?_⟩⟩
    · rw [rdR_at hj]; have := h2 _ (List.getElem_mem hj); omega
    · rw [newB_iff (by omega), rdR_at hj]
      intro hm
      obtain ⟨i, hi, e⟩ := List.getElem_of_mem hm
      rw [List.getElem_take] at e
      rw [List.Nodup, List.pairwise_iff_getElem] at h3
      exact h3 i j (by simp at hi; omega) hj (by simp at hi; omega) e
/-- A recorder that neither leads nor tries. -/
structure QuietP (x : Rcd) : Prop where
  lead : x.lead = false
  trying : x.trying = false
  ballot : x.ballot = 0
  yes : x.yes = []
  best : x.best = []
  acks : x.acks = []
theorem quietB_iff {x : Rcd} : quietB x = true ↔ QuietP x := by
  simp only [quietB, Bool.and_eq_true, decide_eq_true_eq, Bool.not_eq_true']
  constructor
  · rintro ⟨⟨⟨h1, h2⟩, h3⟩, h4⟩
    exact ⟨h1, h2, h3, List.eq_nil_of_length_eq_zero (by omega), List.eq_nil_of_length_eq_zero (by omega), List.eq_nil_of_length_eq_zero (by omega)⟩
  · rintro ⟨h1, h2, h3, h4, h5, h6⟩
    exact ⟨⟨⟨h1, h2⟩, h3⟩, by rw [h4, h5, h6]; rfl⟩
structure VR (x : Rcd) : Prop where
  of1 : 1 ≤ x.of
  of5 : x.of ≤ 5
  n1 : 1 ≤ x.number
  no : x.number ≤ x.of
  safe : DiskP x.sp x.sk x.ss
  disk : DiskP x.dp x.dk x.ds
  heldLen : x.held.length ≤ 400
  wishes : WishesP x.wishes
  h0 : 0 ≤ x.heard
  h1 : x.heard ≤ 1000000
  held : ∀ m ∈ x.held, MsgP m x.of ∧ m.frm = x.number
  yes : NumsP x.yes x.of
  best : SlotsP x.best
  acks : AcksP x.acks x.of
  one : ¬ (x.lead = true ∧ x.trying = true)
  lead : x.lead = true ∨ x.trying = true → 1 ≤ x.ballot ∧ x.ballot ≤ x.dp
  tryA : x.trying = true → x.acks = []
  leadY : x.lead = true → x.yes = [] ∧ x.best = []
  quiet : x.lead = false → x.trying = false → QuietP x
  down : x.up = false → QuietP x ∧ x.held = [] ∧ x.wishes = [] ∧ x.heard = 0
theorem validB_iff {x : Rcd} : validB x = true ↔ VR x := by
  have hh : heldB x x.held.length = true ↔ ∀ m ∈ x.held, MsgP m x.of ∧ m.frm = x.number := by
    simp only [heldB, allN_iff, Bool.and_eq_true, decide_eq_true_eq, msgB_iff]
    constructor
    · intro h m hm
      obtain ⟨i, hi, rfl⟩ := List.getElem_of_mem hm
      have := h i hi
      rwa [rdR_at hi] at this
    · intro h j hj
      rw [rdR_at hj]
      exact h _ (List.getElem_mem hj)
  simp only [validB, headB, midB, leadB, upB, Bool.and_eq_true, Bool.or_eq_true, decide_eq_true_eq, diskB_iff, wishesB_iff, numbersB_iff, slotsB_iff, acksB_iff, hh, Bool.not_eq_true', decide_eq_false_iff_not, quietB_iff]
  constructor
  · rintro ⟨⟨⟨⟨⟨⟨⟨⟨⟨⟨⟨a1, a2⟩, a3, a4⟩, a5⟩, a6⟩, a7⟩, a8⟩, a9, a10⟩, b⟩, ⟨⟨c1, c2⟩, c3⟩, c4⟩, d⟩, e⟩
    refine ⟨a1, a2, a3, a4, a5, a6, by omega, a8, a9, a10, b, c1, c2, c3, ?_, ?_, ?_, ?_, ?_, ?_⟩
    · rintro ⟨e1, e2⟩; simp [e1, e2] at c4
    · intro h; rw [if_pos h] at d; simp at d; exact d.1.1
    · intro h
      rw [if_pos (.inr h)] at d
      simp only [Bool.and_eq_true, Bool.not_eq_true', Bool.and_eq_false_iff, decide_eq_true_eq, decide_eq_false_iff_not] at d
      rcases d.1.2 with h2 | h2
      · rw [h] at h2; cases h2
      · exact List.eq_nil_of_length_eq_zero (by omega)
    · intro h
      rw [if_pos (.inl h)] at d
      simp [h] at d
      exact ⟨List.eq_nil_of_length_eq_zero (by omega), List.eq_nil_of_length_eq_zero (by omega)⟩
    · intro h1 h2
      rw [if_neg (by simp [h1, h2]), quietB_iff] at d
      exact d
    · intro h
      obtain ⟨q, h2⟩ := e.resolve_left (by simp [h])
      exact ⟨q, List.eq_nil_of_length_eq_zero (by omega), List.eq_nil_of_length_eq_zero (by omega), by omega⟩
  · rintro ⟨a1, a2, a3, a4, a5, a6, a7, a8, a9, a10, b, c1, c2, c3, c4, d1, d2, d3, d4, e⟩
    refine ⟨⟨⟨⟨⟨⟨⟨⟨⟨⟨⟨a1, a2⟩, a3, a4⟩, a5⟩, a6⟩, by omega⟩, a8⟩, a9, a10⟩, b⟩, ⟨⟨c1, c2⟩, c3⟩, ?_⟩, ?_⟩, ?_⟩
    · cases hl : x.lead <;> cases ht : x.trying <;> simp_all
    · split
      · rename_i h
        have h1 := d1 h
        simp only [Bool.and_eq_true, decide_eq_true_eq, Bool.not_eq_true', Bool.and_eq_false_iff, decide_eq_false_iff_not]
        refine ⟨⟨h1, ?_⟩, ?_⟩
        · cases ht : x.trying
          · exact .inl rfl
          · rw [d2 ht]; exact .inr (by simp)
        · cases hl : x.lead
          · exact .inl rfl
          · rw [(d3 hl).1, (d3 hl).2]; exact .inr (by simp)
      · rename_i h
        rw [quietB_iff]
        exact d4 (by cases hl : x.lead <;> simp_all) (by cases hl : x.trying <;> simp_all)
    · cases hu : x.up
      · right
        obtain ⟨q, h2, h3, h4⟩ := e hu
        exact ⟨q, by rw [h2, h3, h4]; rfl⟩
      · exact .inl rfl
end Go.Proofs.Ytjeijflpejhkhaa.Sp
