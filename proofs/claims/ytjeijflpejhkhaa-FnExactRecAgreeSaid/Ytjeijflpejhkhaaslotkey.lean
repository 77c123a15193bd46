/- A slot as a map's key; slots compared. No condition. -/
import Derived.Test.YtjeijflpejhkhaaSpTy
import Derived.Test.YtjeijflpejhkhaaSpMap
import Derived.Test.YtjeijflpejhkhaaSpAuto
import Derived.KernelRfl
namespace Go.Proofs.Ytjeijflpejhkhaa.Sp
open Go Go.RowKit
set_option linter.unusedVariables false
set_option linter.unusedSimpArgs false
set_option maxRecDepth 100000
instance : DecidableEq Slot := fun a b => if h : a.ballot = b.ballot ∧ a.text = b.text then isTrue (by cases a; cases b; simp_all) else isFalse (by rintro rfl; exact h ⟨rfl, rfl⟩)
theorem sk_laid : laidOutB Try.prog = true := by kernel_rfl
theorem sk_type : Try.prog.keyTypeAt 2 80 = true := by kernel_rfl
theorem sk_type2 : Try.prog.keyType 80 = true := by kernel_rfl
theorem sk_wide : (match Try.prog.underlying 80 with | some (.array _ _) | some (.struct _) => true | _ => false) = true := by kernel_rfl
theorem sk_row : Nat.blt 80 Try.prog.types.size = true := by kernel_rfl
theorem sk_cells : Try.prog.cellsOf 80 = 2 := by kernel_rfl
theorem sk_cellsI : Try.prog.cellsOf 3 = 1 := by kernel_rfl
theorem sk_cellsS : Try.prog.cellsOf 9 = 1 := by kernel_rfl
theorem slotLaw : WideMaps.KeyLaw Try.prog 80 := deep_law_laid sk_laid (m := 2) (Nat.le_of_ble_eq_true rfl) (Nat.lt_of_lt_of_le (Nat.lt_succ_self _) (Nat.le_of_ble_eq_true sk_row)) sk_type sk_wide
structure SlotK (s : Slot) : Prop where
  lo : -9223372036854775808 ≤ s.ballot
  hi : s.ballot ≤ 9223372036854775807
  txt : s.text.size ≤ maxLen
theorem slotLits (s : Slot) (h : SlotK s) (d : Nat) : Try.prog.keyLits (d + 2) 80 (encSlot s ()) = some [.int .i64 s.ballot, .string s.text.data.toList] := by
  obtain ⟨h1, h2, h3⟩ := h
  have hw : (Lit.int .i64 s.ballot).wf = true := WalkArith.wf_i64 ⟨h1, h2⟩
  unfold Program.keyLits
  simp only [Try.underlying80]
  simp [encSlot, sk_cells, Program.keyLits, sk_cellsI, sk_cellsS, Try.underlying3, Try.underlying9, hw, h3]
theorem slotKey (s : Slot) (h : SlotK s) : ∃ l, keyOf Try.prog 80 (.agg (encSlot s ()).toArray) = some l := by
  have hrow : 80 < Try.prog.types.size := Nat.lt_of_lt_of_le (Nat.lt_succ_self _) (Nat.le_of_ble_eq_true sk_row)
  obtain ⟨d, hd⟩ : ∃ d, Try.prog.types.size + 1 = d + 2 := ⟨Try.prog.types.size - 1, by omega⟩
  unfold keyOf
  simp only [Try.underlying80, sk_type2, hd]
  simp [Value.formed, Try.underlying80, sk_cells, Value.cells, slotLits s h d, encSlot]
  exact ⟨_, _, slotLits s h d, rfl⟩
theorem run_slotEq (s u : Slot) (hs : SlotK s) (hu : SlotK u) (W : World) : (Op.equal 80 (.agg (encSlot s ()).toArray) (.agg (encSlot u ()).toArray)).run Try.prog W = .ok (decide (s = u)) W := by
  obtain ⟨ls, h1⟩ := slotKey s hs
  obtain ⟨lu, h2⟩ := slotKey u hu
  obtain ⟨r, hr, hiff⟩ := run_equal_deep W (m := 2) (Nat.le_of_ble_eq_true rfl) sk_type sk_wide h1 h2
  rw [hr]
  have : r = decide (s = u) := by
    rw [Bool.eq_iff_iff, hiff, decide_eq_true_eq]
    constructor
    · intro e
      subst e
      have := slotLaw.inj h1 h2
      simp only [encSlot, Value.agg.injEq] at this
      cases s; cases u; simp_all
    · rintro rfl
      rw [h1] at h2
      exact Option.some.inj h2
  rw [this]
theorem p_slotEq {E : Env} {x y : Operand} {yt : TypeId} {s u : Slot} (hs : SlotK s) (hu : SlotK u) (hx : ev E x = some (.agg (encSlot s ()).toArray)) (hy : ev E y = some (.agg (encSlot u ()).toArray)) : PV Try.prog E (.binOp .eql 80 x y yt) (.bool (decide (s = u))) := ⟨fun n a ha dst ty pos after gd W => by
  have h := run_slotEq s u hs hu W
  have h2 : (binOp .eql 80 (.agg (encSlot s ()).toArray) (.agg (encSlot u ()).toArray)).run Try.prog W = .ok (.bool (decide (s = u))) W := by
    show ((Op.equal 80 _ _) >>= fun r => pure (Value.bool r) : Sem Value).run Try.prog W = _
    rw [Sem.run_bind, h, Result.andThen_ok, Sem.run_pure]
  simp [execOp, ha.eval hx, ha.eval hy, eqGuard, h2]⟩
end Go.Proofs.Ytjeijflpejhkhaa.Sp
