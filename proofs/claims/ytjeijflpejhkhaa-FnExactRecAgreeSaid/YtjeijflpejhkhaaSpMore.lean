/- More steps: tests told by cases, a row's first part. Any program; no condition. -/
import Derived.Test.YtjeijflpejhkhaaSpKin
import Derived.Test.YtjeijflpejhkhaaSpDraw
namespace Go.Proofs.Ytjeijflpejhkhaa.Sp
open Go Go.RowKit Go.Proofs.YtjeijflpejhkhaaW.PrintLast
set_option linter.unusedVariables false
set_option linter.unusedSimpArgs false
section
variable {P : Program} {n : Nat} {ops : Array Oper} {Q : Exit → Act → World → Prop} {rest : List Oper} {E : Env} {W : World} {o oj : Oper} {j t : Nat} {u b : Bool}
/-- A guard's Bool by cases: the goal stays. -/
theorem s_split (ho : o.guard = some (j, u)) (hj : ops[j]? = some oj) (hd : oj.dst = some t) (ht : look E t = some (.bool b)) (h1 : b = true → WL P n ops Q (o :: rest) E W) (h0 : b = false → WL P n ops Q (o :: rest) E W) : WL P n ops Q (o :: rest) E W := by
  cases b with
  | true => exact h1 rfl
  | false => exact h0 rfl
theorem d_split {S : World → Prop} {ds : List Nat} {md i : Nat} {plan : List (Nat × Nat)} (ho : o.guard = some (j, u)) (hj : ops[j]? = some oj) (hd : oj.dst = some t) (ht : look E t = some (.bool b)) (h1 : b = true → WO P n ops Q S ds md i o plan E W) (h0 : b = false → WO P n ops Q S ds md i o plan E W) : WO P n ops Q S ds md i o plan E W := by
  cases b with
  | true => exact h1 rfl
  | false => exact h0 rfl
theorem addr_zero (a : Addr) : a.add 0 = a := by unfold Addr.add; simp
/-- s[:k] -/
theorem p_sliceto {st e sz : Nat} {x y : Operand} {A : Option Addr} {l c : Nat} {k : IntKind} {m : Int} [hU : Und P st (.slice e)] [hS : Siz P e sz] (hx : ev E x = some (.slice A l c)) (hy : ev E y = some (.int k m)) (h0 : 0 ≤ m) (h1 : m ≤ c) : PV P E (.slice st x none (some y) none) (.slice A m.toNat c) := ⟨fun n a ha dst ty pos after gd W => by
  obtain ⟨i0, hi, hs⟩ := Option.map_eq_some_iff.1 hS.out
  have hA : A.map (·.add 0) = A := by cases A <;> simp [addr_zero]
  have hu := hU.out
  simp [execOp, ha.eval hx, ha.eval hy, Instr.sliceAt, Instr.slice, Instr.sliceBounds, Instr.sliceBound, asIntOf, underlying, hu, h0, h1, sizeOf, typeInfo, hi, hA]⟩
theorem ro_take {α : Type} {D : TyR α} {w : World} {A : Option Addr} {xs : List α} (h : RoRow D w A xs) (k : Nat) : RoRow D w A (xs.take k) := by
  have hl : (xs.take k).length ≤ xs.length := by simp; omega
  refine ⟨Nat.le_trans hl h.max, fun hp => h.some_ (by omega), fun i hi => ?_⟩
  obtain ⟨c, h1, h2⟩ := h.cell i (by omega)
  exact ⟨c, by rw [List.getElem_take]; exact h1, h2⟩
/-- One cell of an element laid open. -/
theorem p_loadrc {E : Env} {w0 : World} {L : List Asn} {pt : TypeId} {x : Operand} {A : Option Addr} {i : Int} {sz q j : Nat} {ws : List Value} {v : Value} [hO : RoCAt L A w0 q sz ws] [h1c : One P pt] [hv : Nth ws j v] (hx : ev E x = some (.pointer (some (rp A i sz j)))) (hi : i = q) : LV P E w0 L (.load pt x) v :=
  ⟨fun W hmem n a ha dst ty pos after gd => by
    obtain ⟨R, hp⟩ := hO.mem
    obtain ⟨hA1, hl, hc⟩ := Mem.pure_ hp hmem
    obtain ⟨u, hu, hu2⟩ := h1c.out
    subst hi
    have hcell := hmem.old (hc j v hv.out)
    clear hA1
    have hl : (loadVar pt ((adr A).add (q * sz + j))).run P W = .ok v W := by
      unfold loadVar isAgg
      cases u <;> simp_all [underlying, load, Sem.run]
    simp [execOp, ha.eval hx, Instr.loadAt, Instr.sureAddr, rp, hl]⟩
theorem allN_congr {p q : Nat → Bool} {n : Nat} (h : ∀ j, j < n → p j = q j) : allN p n = allN q n := by
  unfold allN
  rw [Bool.eq_iff_iff, List.all_eq_true, List.all_eq_true]
  constructor
  · intro hp j hj; rw [← h j (by simpa using hj)]; exact hp j hj
  · intro hp j hj; rw [h j (by simpa using hj)]; exact hp j hj
theorem allN_get {p : Nat → Bool} {n j : Nat} (h : allN p n = true) (hj : j < n) : p j = true := by
  unfold allN at h
  exact List.all_eq_true.1 h j (by simpa using hj)
theorem rdR_take {α : Type} {D : TyR α} {xs : List α} {k j : Nat} (h : j < k) : rdR D (xs.take k) (j : Int) = rdR D xs (j : Int) := by
  simp [rdR, List.getD_eq_getElem?_getD, List.getElem?_take, h]
/-- A guard on what was passed over: passed over. -/
theorem un_off {a : Act} (ha : Fits n E a) (ho : o.guard = some (j, u)) (hj : ops[j]? = some oj) (hd : oj.dst = some t) (ht : look E t = some undef) : Region.wanted o (yielded ops a.tmps) = false := by
  have h1 := ha.slots t _ ht
  have h2 : a.tmps[t]? = some undef ∨ a.tmps[t]? = none := by
    cases hq : a.tmps[t]? with
    | none => exact .inr rfl
    | some q => simp [hq] at h1; exact .inl (by rw [h1])
  rcases h2 with h2 | h2 <;> simp [Region.wanted, ho, yielded, hj, hd, h2, undef]
theorem s_guard_un {d : Nat} (ho : o.guard = some (j, u)) (hj : ops[j]? = some oj) (hd : oj.dst = some t) (ht : look E t = some undef) (hdd : o.dst = some d) (hn : Nat.blt d n = true) (h : WL P n ops Q rest ((d, undef) :: E) W) : WL P n ops Q (o :: rest) E W := ⟨fun a ha => by
  have hw := un_off ha ho hj hd ht
  have h3 := h.out _ (ha.put (by simpa [Nat.blt_eq] using hn) undef)
  unfold wpList
  rw [if_neg (by simp [hw]), hdd]
  exact h3⟩
theorem d_off_un {S : World → Prop} {ds : List Nat} {md i d : Nat} {plan : List (Nat × Nat)} (hm : md = 0 ∨ md = 1) (hq : QP Q) (hsel : Region.noSelect ops = true) (ho2 : o.guard = some (j, u)) (hj : ops[j]? = some oj) (hd : oj.dst = some t) (ht : look E t = some undef) (hdd : o.dst = some d) (hn : Nat.blt d n = true)
    (h : WD P n ops Q S ds plan ((d, undef) :: E) W) : WO P n ops Q S ds md i o plan E W := by
  refine ⟨fun ho => ⟨fun l hl a ha hS => ?_⟩⟩
  have hw := un_off ha ho2 hj hd ht
  have key : Region.free .any ops l i = true ∧ (Region.ready .any ops l).contains i = true ∧ planB ops ds (l.setIfInBounds i true) plan = true := by
    rcases hm with rfl | rfl
    · simp only [planB, Bool.and_eq_true] at hl; exact ⟨hl.1.1, hl.1.2, hl.2⟩
    · simp only [planB, Bool.and_eq_true] at hl; exact ⟨hl.1.1.1.1, hl.1.1.1.2, hl.2⟩
  obtain ⟨h1, h2, h3⟩ := key
  refine wpAnyLast_any (v := undef) ho (Region.noSelect_spec hsel) (fun c a w => hq.out c a _ _ w) _ l a W (Region.free_spec ho h1) (by simpa using h2) (.inr ⟨hw, rfl⟩) ?_
  rw [hdd]
  exact h.out _ h3 _ (ha.put (by simpa [Nat.blt_eq] using hn) undef) hS
theorem gO {S : World → Prop} {ds : List Nat} {md i : Nat} {plan : List (Nat × Nat)} (h : WO P n ops Q S ds md i o plan E W) : WO P n ops Q S ds md i o plan E W := h
end
end Go.Proofs.Ytjeijflpejhkhaa.Sp
