/- Walking a region whose order is open, in one order: an operation that yields in every world is taken wherever it may come up; a load is taken first where what it reads stays; the others come up alone. Any program; no condition. -/
import Derived.Test.YtjeijflpejhkhaaSpRow
import Derived.Test.YtjeijflpejhkhaaWLast
namespace Go.Proofs.Ytjeijflpejhkhaa.Sp
open Go Go.RowKit Go.Proofs.YtjeijflpejhkhaaW.PrintLast
set_option linter.unusedVariables false
set_option linter.unusedSimpArgs false

/-- Nothing is told of a panic but what does not hang on the slots. -/
structure QP (Q : Exit → Act → World → Prop) : Prop where out : ∀ c (a : Act) d v w, Q (.panic c) (a.put d v) w → Q (.panic c) a w
theorem qp_then {N : Act → World → Prop} {Q : Exit → Act → World → Prop} (h : QP Q) : QP (Exit.then N Q) := ⟨fun c a d v w hq => h.out c a d v w hq⟩
theorem qp_block {id : Nat} {Q : Exit → Act → World → Prop} (h : QP Q) : QP (Exit.inBlock id Q) := ⟨fun c a d v w hq => h.out c a d v w hq⟩
theorem qp_body {P : Program} {fn : Func} {R : Ending → World → Prop} : QP (bodyPost P fn R) := ⟨fun c a d v w hq => by cases d <;> exact hq⟩

/-- The order: 0: yields in every world; 1: a load; 2: comes up alone; 3: comes up alone, and nothing is read behind it. -/
def planB (ops : Array Oper) (ds : List Nat) : Array Bool → List (Nat × Nat) → Bool
  | l, [] => Region.ready .any ops l == []
  | l, (0, i) :: r => Region.free .any ops l i && (Region.ready .any ops l).contains i && planB ops ds (l.setIfInBounds i true) r
  | l, (1, i) :: r => Region.free .any ops l i && (Region.ready .any ops l).contains i && Region.closedB .any ops l && Region.lastB .any ops l ds i && planB ops ds (l.setIfInBounds i true) r
  | l, (2, i) :: r => Region.ready .any ops l == [i] && !ds.contains i && planB ops ds (l.setIfInBounds i true) r
  | l, (_, i) :: r => Region.ready .any ops l == [i] && ds.contains i && planB ops ds (l.setIfInBounds i true) r
section
variable {P : Program} {n : Nat} {ops : Array Oper} {Q : Exit → Act → World → Prop} {S : World → Prop} {ds : List Nat} {plan : List (Nat × Nat)} {E : Env} {W : World} {i md : Nat} {o : Oper}
/-- What is left of a region, in the order of a plan. -/
structure WD (P : Program) (n : Nat) (ops : Array Oper) (Q : Exit → Act → World → Prop) (S : World → Prop) (ds : List Nat) (plan : List (Nat × Nat)) (E : Env) (W : World) : Prop where
  out : ∀ l, planB ops ds l plan = true → ∀ a, Fits n E a → S W → wpAnyLast P .any ops Q S ds plan.length l a W
/-- The same behind an operation after which nothing is shown of S. -/
structure WT (P : Program) (n : Nat) (ops : Array Oper) (Q : Exit → Act → World → Prop) (S : World → Prop) (ds : List Nat) (plan : List (Nat × Nat)) (E : Env) (W : World) : Prop where
  out : ∀ l, planB ops ds l plan = true → ∀ a, Fits n E a → wpAnyLast P .any ops Q S ds plan.length l a W
/-- The next operation, written out. -/
structure WO (P : Program) (n : Nat) (ops : Array Oper) (Q : Exit → Act → World → Prop) (S : World → Prop) (ds : List Nat) (md i : Nat) (o : Oper) (plan : List (Nat × Nat)) (E : Env) (W : World) : Prop where
  out : ops[i]? = some o → WD P n ops Q S ds ((md, i) :: plan) E W

theorem d_start {id : Nat} {l : List Oper} {L : List Asn} {w0 : World} (ds : List Nat) (plan : List (Nat × Nat)) (hm : Mem w0 W L) (hmix : P.follows .mixedOrders = true) (hsel : Region.noSelect l.toArray = true) (hq : QP Q)
    (hp : planB l.toArray ds (Array.replicate l.toArray.size false) plan = true) (hlen : plan.length = l.toArray.size) (h : QP Q → Region.noSelect l.toArray = true → ∀ W1, Mem w0 W1 L → WD P n l.toArray Q (fun w => Mem w0 w L) ds plan E W1) : WC P n (.region id l.toArray true) Q E W := by
  refine ⟨fun a ha => ?_⟩
  refine start_ (S := fun w => Mem w0 w L) (ds := ds) (n := plan.length) (Array.replicate l.toArray.size false) hmix hlen.symm (by rw [hlen]) hm.drew (fun hS => ?_)
  exact (h hq hsel _ hS).out _ hp a ha hS
def nthO : List Oper → Nat → Option Oper
  | o :: _, 0 => some o
  | _ :: r, i + 1 => nthO r i
  | [], _ => none
theorem nthO_eq : ∀ (l : List Oper) (i : Nat), nthO l i = l[i]?
  | [], i => by cases i <;> rfl
  | o :: r, 0 => rfl
  | o :: r, i + 1 => by rw [nthO, nthO_eq r i, List.getElem?_cons_succ]
theorem d_next {l : List Oper} (ho : nthO l i = some o) (h : WO P n l.toArray Q S ds md i o plan E W) : WD P n l.toArray Q S ds ((md, i) :: plan) E W := h.out (by rw [nthO_eq] at ho; simpa using ho)
variable {dst : Option Tmp} {d : Nat} {op : Op} {ty : TypeId} {pos : String} {after : Array Edge} {v : Value}
theorem d_pv (hq : QP Q) (hsel : Region.noSelect ops = true) (hp : PV P E op v) (hn : Nat.blt d n = true) (h : WD P n ops Q S ds plan ((d, v) :: E) W) : WO P n ops Q S ds 0 i ⟨some d, op, ty, pos, after, none⟩ plan E W := by
  refine ⟨fun ho => ⟨fun l hl a ha hS => ?_⟩⟩
  simp only [planB, Bool.and_eq_true] at hl
  obtain ⟨⟨h1, h2⟩, h3⟩ := hl
  refine wpAnyLast_any (v := v) ho (Region.noSelect_spec hsel) (fun c a w => hq.out c a _ _ w) _ l a W (Region.free_spec ho h1) (by simpa using h2) (.inl ⟨by simp [Region.wanted], fun w => hp.out n a ha _ _ _ _ _ _⟩) ?_
  exact h.out _ h3 _ (ha.put (by simpa [Nat.blt_eq] using hn) v) hS
theorem d_ld {L : List Asn} {w0 : World} (hq : QP Q) (hsel : Region.noSelect ops = true) (hl : LV P E w0 L op v) (hn : Nat.blt d n = true)
    (h : WD P n ops Q (fun w => Mem w0 w L) ds plan ((d, v) :: E) W) : WO P n ops Q (fun w => Mem w0 w L) ds 1 i ⟨some d, op, ty, pos, after, none⟩ plan E W := by
  refine ⟨fun ho => ⟨fun l hb a ha hS => ?_⟩⟩
  simp only [planB, Bool.and_eq_true] at hb
  obtain ⟨⟨⟨⟨h1, h2⟩, h4⟩, h5⟩, h3⟩ := hb
  refine wpAnyLast_take (v := v) ho hsel h1 h2 h4 h5 (fun c a w => hq.out c a _ _ w) ?_ hS ?_
  · exact .inl ⟨by simp [Region.wanted], fun w hw => hl.out w hw n a ha _ _ _ _ _⟩
  · exact h.out _ h3 _ (ha.put (by simpa [Nat.blt_eq] using hn) v) hS
theorem d_gp (hq : QP Q) (hsel : Region.noSelect ops = true) (hn : Nat.blt d n = true) (h : GP P E op fun v => WD P n ops Q S ds plan ((d, v) :: E) W) : WO P n ops Q S ds 0 i ⟨some d, op, ty, pos, after, none⟩ plan E W := by
  obtain ⟨v, hp, h⟩ := h.out
  exact d_pv hq hsel hp hn h
theorem d_gv {L : List Asn} {w0 : World} (hq : QP Q) (hsel : Region.noSelect ops = true) (hn : Nat.blt d n = true) (h : GV P E w0 L op fun v => WD P n ops Q (fun w => Mem w0 w L) ds plan ((d, v) :: E) W) : WO P n ops Q (fun w => Mem w0 w L) ds 1 i ⟨some d, op, ty, pos, after, none⟩ plan E W := by
  obtain ⟨v, hp, h⟩ := h.out
  exact d_ld hq hsel hp hn h
/-- An operation that is not wanted. -/
theorem d_off {j : Nat} {u u' : Bool} {oj : Oper} {t : Nat} (hm : md = 0 ∨ md = 1) (hq : QP Q) (hsel : Region.noSelect ops = true) (ho2 : o.guard = some (j, u)) (hj : ops[j]? = some oj) (hd : oj.dst = some t) (ht : look E t = some (.bool u')) (hb : u' = !u) (hdd : o.dst = some d) (hn : Nat.blt d n = true)
    (h : WD P n ops Q S ds plan ((d, undef) :: E) W) : WO P n ops Q S ds md i o plan E W := by
  refine ⟨fun ho => ⟨fun l hl a ha hS => ?_⟩⟩
  have hne : (u' == u) = false := by subst hb; cases u <;> rfl
  have hw : Region.wanted o (yielded ops a.tmps) = false := by
    have h1 := ha.slots t _ ht
    have h2 : a.tmps[t]? = some (.bool u') := by
      cases hq : a.tmps[t]? with
      | none => simp [hq] at h1; cases h1
      | some q => simp [hq] at h1; rw [h1]
    simpa [Region.wanted, ho2, yielded, hj, hd, h2] using hne
  have key : Region.free .any ops l i = true ∧ (Region.ready .any ops l).contains i = true ∧ planB ops ds (l.setIfInBounds i true) plan = true := by
    rcases hm with rfl | rfl
    · simp only [planB, Bool.and_eq_true] at hl; exact ⟨hl.1.1, hl.1.2, hl.2⟩
    · simp only [planB, Bool.and_eq_true] at hl; exact ⟨hl.1.1.1.1, hl.1.1.1.2, hl.2⟩
  obtain ⟨h1, h2, h3⟩ := key
  refine wpAnyLast_any (v := undef) ho (Region.noSelect_spec hsel) (fun c a w => hq.out c a _ _ w) _ l a W (Region.free_spec ho h1) (by simpa using h2) (.inr ⟨hw, rfl⟩) ?_
  rw [hdd]
  exact h.out _ h3 _ (ha.put (by simpa [Nat.blt_eq] using hn) undef) hS
theorem d_on {j : Nat} {u : Bool} {oj : Oper} {t : Nat} (hq : QP Q) (hsel : Region.noSelect ops = true) {L : List Asn} {w0 : World} (hmd : md = 0 ∨ md = 1) (hj : ops[j]? = some oj) (hd : oj.dst = some t) (ht : look E t = some (.bool u))
    (hl : LV P E w0 L op v) (hp : md = 0 → PV P E op v) (hn : Nat.blt d n = true)
    (h : WD P n ops Q (fun w => Mem w0 w L) ds plan ((d, v) :: E) W) : WO P n ops Q (fun w => Mem w0 w L) ds md i ⟨some d, op, ty, pos, after, some (j, u)⟩ plan E W := by
  refine ⟨fun ho => ⟨fun l hb a ha hS => ?_⟩⟩
  have hw : Region.wanted (⟨some d, op, ty, pos, after, some (j, u)⟩ : Oper) (yielded ops a.tmps) = true := by
    have h1 := ha.slots t _ ht
    have h2 : a.tmps[t]? = some (.bool u) := by
      cases hq : a.tmps[t]? with
      | none => simp [hq] at h1; cases h1
      | some q => simp [hq] at h1; rw [h1]
    simp [Region.wanted, yielded, hj, hd, h2]
  rcases hmd with rfl | rfl
  · simp only [planB, Bool.and_eq_true] at hb
    obtain ⟨⟨h1, h2⟩, h3⟩ := hb
    refine wpAnyLast_any (v := v) ho (Region.noSelect_spec hsel) (fun c a w => hq.out c a _ _ w) _ l a W (Region.free_spec ho h1) (by simpa using h2) (.inl ⟨hw, fun w => (hp rfl).out n a ha _ _ _ _ _ _⟩) ?_
    exact h.out _ h3 _ (ha.put (by simpa [Nat.blt_eq] using hn) v) hS
  · simp only [planB, Bool.and_eq_true] at hb
    obtain ⟨⟨⟨⟨h1, h2⟩, h4⟩, h5⟩, h3⟩ := hb
    refine wpAnyLast_take (v := v) ho hsel h1 h2 h4 h5 (fun c a w => hq.out c a _ _ w) ?_ hS ?_
    · exact .inl ⟨hw, fun w hw => hl.out w hw n a ha _ _ _ _ _⟩
    · exact h.out _ h3 _ (ha.put (by simpa [Nat.blt_eq] using hn) v) hS

theorem d_onp {j : Nat} {u : Bool} {oj : Oper} {t : Nat} {L : List Asn} {w0 : World} (hq : QP Q) (hsel : Region.noSelect ops = true) (hj : ops[j]? = some oj) (hd : oj.dst = some t) (ht : look E t = some (.bool u)) (hp : PV P E op v) (hn : Nat.blt d n = true)
    (h : WD P n ops Q (fun w => Mem w0 w L) ds plan ((d, v) :: E) W) : WO P n ops Q (fun w => Mem w0 w L) ds 0 i ⟨some d, op, ty, pos, after, some (j, u)⟩ plan E W := d_on hq hsel (.inl rfl) hj hd ht hp.lv (fun _ => hp) hn h
theorem d_onl {j : Nat} {u : Bool} {oj : Oper} {t : Nat} {L : List Asn} {w0 : World} (hq : QP Q) (hsel : Region.noSelect ops = true) (hj : ops[j]? = some oj) (hd : oj.dst = some t) (ht : look E t = some (.bool u)) (hl : LV P E w0 L op v) (hn : Nat.blt d n = true)
    (h : WD P n ops Q (fun w => Mem w0 w L) ds plan ((d, v) :: E) W) : WO P n ops Q (fun w => Mem w0 w L) ds 1 i ⟨some d, op, ty, pos, after, some (j, u)⟩ plan E W := d_on hq hsel (.inr rfl) hj hd ht hl (fun h => by cases h) hn h

theorem d_gpg {j : Nat} {u b : Bool} {oj : Oper} {t : Nat} {L : List Asn} {w0 : World} (hq : QP Q) (hsel : Region.noSelect ops = true) (hj : ops[j]? = some oj) (hd : oj.dst = some t) (ht : look E t = some (.bool b)) (hb : b = u) (hn : Nat.blt d n = true)
    (h : GP P E op fun v => WD P n ops Q (fun w => Mem w0 w L) ds plan ((d, v) :: E) W) : WO P n ops Q (fun w => Mem w0 w L) ds 0 i ⟨some d, op, ty, pos, after, some (j, u)⟩ plan E W := by
  rw [hb] at ht
  obtain ⟨v, hp, h⟩ := h.out
  exact d_onp hq hsel hj hd ht hp hn h
theorem d_gvg {j : Nat} {u b : Bool} {oj : Oper} {t : Nat} {L : List Asn} {w0 : World} (hq : QP Q) (hsel : Region.noSelect ops = true) (hj : ops[j]? = some oj) (hd : oj.dst = some t) (ht : look E t = some (.bool b)) (hb : b = u) (hn : Nat.blt d n = true)
    (h : GV P E w0 L op fun v => WD P n ops Q (fun w => Mem w0 w L) ds plan ((d, v) :: E) W) : WO P n ops Q (fun w => Mem w0 w L) ds 1 i ⟨some d, op, ty, pos, after, some (j, u)⟩ plan E W := by
  rw [hb] at ht
  obtain ⟨v, hp, h⟩ := h.out
  exact d_onl hq hsel hj hd ht hp hn h

theorem list_wpOp {K : Act → World → Prop} {a : Act} {w : World} (ho : ops[i]? = some o) (h : wpList P ops (Exit.then K Q) [o] a w) : wpOp P ops Q i K a w := by
  unfold wpOp
  simp only [ho]
  unfold wpList at h
  split at h
  · rename_i hw
    rw [if_pos hw]
    rcases h with h | ⟨h1, h2⟩
    · refine .inl ?_
      unfold Oper.wp at h ⊢
      generalize (execOp a.eval o).run P w = r at h ⊢
      cases r with
      | ok q w' => cases q <;> simp only [Oper.upon, wpList] at h ⊢ <;> exact h
      | halt q w' => cases q <;> simp only [Oper.upon, wpList] at h ⊢ <;> exact h
    · exact .inr ⟨h1, by obtain ⟨a0, w1, hh⟩ := h2; exact ⟨a0, w1, hh⟩⟩
  · rename_i hw
    rw [if_neg hw]
    exact h
/-- An operation that comes up alone is walked as in a plain region. -/
theorem d_one0 (h : WL P n ops (Exit.then (fun a w => S w ∧ ∀ l, planB ops ds l plan = true → wpAnyLast P .any ops Q S ds plan.length l a w) Q) [o] E W) : WO P n ops Q S ds 2 i o plan E W := by
  refine ⟨fun ho => ⟨fun l hl a ha hS => ?_⟩⟩
  simp only [planB, Bool.and_eq_true, beq_iff_eq] at hl
  obtain ⟨⟨h1, h2⟩, h3⟩ := hl
  refine wpAnyLast_all h1 (by simp) (fun j hj => ?_)
  obtain rfl : j = i := by simpa using hj
  refine wpOp_mono (fun a' w' hk => ⟨fun _ _ => hk.1, hk.2 _ h3⟩) (list_wpOp ho (h.out a ha))
theorem d_one {L : List Asn} {w0 : World} (h : WL P n ops (Exit.then (fun a w => Mem w0 w L ∧ ∀ l, planB ops ds l plan = true → wpAnyLast P .any ops Q (fun w => Mem w0 w L) ds plan.length l a w) Q) [o] E W) : WO P n ops Q (fun w => Mem w0 w L) ds 2 i o plan E W := d_one0 h
theorem d_last (h : WL P n ops (Exit.then (fun a w => ∀ l, planB ops ds l plan = true → wpAnyLast P .any ops Q S ds plan.length l a w) Q) [o] E W) : WO P n ops Q S ds 3 i o plan E W := by
  refine ⟨fun ho => ⟨fun l hl a ha hS => ?_⟩⟩
  simp only [planB, Bool.and_eq_true, beq_iff_eq] at hl
  obtain ⟨⟨h1, h2⟩, h3⟩ := hl
  refine wpAnyLast_all h1 (by simp) (fun j hj => ?_)
  obtain rfl : j = i := by simpa using hj
  refine wpOp_mono (fun a' w' hk => ⟨fun hn => absurd (by simpa using h2) hn, hk _ h3⟩) (list_wpOp ho (h.out a ha))
theorem d_back (hS : S W) (h : WD P n ops Q S ds plan E W) : WN n .normal (Exit.then (fun a w => S w ∧ ∀ l, planB ops ds l plan = true → wpAnyLast P .any ops Q S ds plan.length l a w) Q) E W := ⟨fun a ha => ⟨hS, fun l hl => h.out l hl a ha hS⟩⟩
theorem d_backT (h : WT P n ops Q S ds plan E W) : WN n .normal (Exit.then (fun a w => ∀ l, planB ops ds l plan = true → wpAnyLast P .any ops Q S ds plan.length l a w) Q) E W := ⟨fun a ha => fun l hl => h.out l hl a ha⟩
theorem d_case {t : Nat} {b : Bool} (ht : look E t = some (.bool b)) (h1 : b = true → WD P n ops Q S ds plan ((t, .bool true) :: E) W) (h0 : b = false → WD P n ops Q S ds plan ((t, .bool false) :: E) W) : WD P n ops Q S ds plan E W := ⟨fun l hl a ha => by
  cases b with
  | true => exact (h1 rfl).out l hl a (ha.sub (fun s v hs => by
      rw [look_cons] at hs
      by_cases e : t = s
      · subst e; rw [if_pos rfl] at hs; cases hs; exact ht
      · rw [if_neg e] at hs; exact hs))
  | false => exact (h0 rfl).out l hl a (ha.sub (fun s v hs => by
      rw [look_cons] at hs
      by_cases e : t = s
      · subst e; rw [if_pos rfl] at hs; cases hs; exact ht
      · rw [if_neg e] at hs; exact hs))⟩
theorem gR {id : Nat} {ops : Array Oper} (h : WC P n (.region id ops true) Q E W) : WC P n (.region id ops true) Q E W := h
theorem gD {l : List (Nat × Nat)} (h : WD P n ops Q S ds l E W) : WD P n ops Q S ds l E W := h
theorem gT {l : List (Nat × Nat)} (h : WT P n ops Q S ds l E W) : WT P n ops Q S ds l E W := h
theorem d_done (h : WN n .normal Q E W) : WD P n ops Q S ds [] E W := ⟨fun l hl a ha hS => wpAnyLast_done (by simpa [planB] using hl) (h.out a ha) _⟩
theorem d_doneT (h : WN n .normal Q E W) : WT P n ops Q S ds [] E W := ⟨fun l hl a ha => wpAnyLast_done (by simpa [planB] using hl) (h.out a ha) _⟩
theorem d_pvT (hq : QP Q) (hsel : Region.noSelect ops = true) (ho : ops[i]? = some ⟨some d, op, ty, pos, after, none⟩) (hp : PV P E op v) (hn : Nat.blt d n = true) (h : WT P n ops Q S ds plan ((d, v) :: E) W) : WT P n ops Q S ds ((0, i) :: plan) E W := by
  refine ⟨fun l hl a ha => ?_⟩
  simp only [planB, Bool.and_eq_true] at hl
  obtain ⟨⟨h1, h2⟩, h3⟩ := hl
  refine wpAnyLast_any (v := v) ho (Region.noSelect_spec hsel) (fun c a w => hq.out c a _ _ w) _ l a W (Region.free_spec ho h1) (by simpa using h2) (.inl ⟨by simp [Region.wanted], fun w => hp.out n a ha _ _ _ _ _ _⟩) ?_
  exact h.out _ h3 _ (ha.put (by simpa [Nat.blt_eq] using hn) v)
theorem d_gpT {ll : List Oper} (hq : QP Q) (hsel : Region.noSelect ll.toArray = true) (ho : nthO ll i = some ⟨some d, op, ty, pos, after, none⟩) (hn : Nat.blt d n = true) (h : GP P E op fun v => WT P n ll.toArray Q S ds plan ((d, v) :: E) W) : WT P n ll.toArray Q S ds ((0, i) :: plan) E W := by
  have ho : ll.toArray[i]? = some (⟨some d, op, ty, pos, after, none⟩ : Oper) := by rw [nthO_eq] at ho; simpa using ho
  obtain ⟨v, hp, h⟩ := h.out
  exact d_pvT hq hsel ho hp hn h
/-- Behind an append of ds: what follows comes up alone too, or yields in every world. -/
theorem d_nextT {ll : List Oper} (ho : nthO ll i = some o) (h : WL P n ll.toArray (Exit.then (fun a w => ∀ l, planB ll.toArray ds l plan = true → wpAnyLast P .any ll.toArray Q S ds plan.length l a w) Q) [o] E W) : WT P n ll.toArray Q S ds ((3, i) :: plan) E W := by
  have ho : ll.toArray[i]? = some o := by rw [nthO_eq] at ho; simpa using ho
  refine ⟨fun l hl a ha => ?_⟩
  simp only [planB, Bool.and_eq_true, beq_iff_eq] at hl
  obtain ⟨⟨h1, h2⟩, h3⟩ := hl
  refine wpAnyLast_all h1 (by simp) (fun j hj => ?_)
  obtain rfl : j = i := by simpa using hj
  refine wpOp_mono (fun a' w' hk => ⟨fun hn => absurd (by simpa using h2) hn, hk _ h3⟩) (list_wpOp ho (h.out a ha))
end
end Go.Proofs.Ytjeijflpejhkhaa.Sp
