/- An empty literal. Any program; no condition. -/
import Derived.Test.YtjeijflpejhkhaaSpMore
namespace Go.Proofs.Ytjeijflpejhkhaa.Sp
open Go Go.RowKit
set_option linter.unusedVariables false
set_option linter.unusedSimpArgs false
section
variable {P : Program} {n : Nat} {ops : Array Oper} {Q : Exit → Act → World → Prop} {rest : List Oper} {E : Env} {w0 W : World} {L : List Asn} {d t e sz bytes : Nat} {ty : TypeId} {pos : String} {after : Array Edge}
theorem s_lit0 {α : Type} (D : Ty α) [hU : Und P t (.slice e)] [hE : Elt P e sz bytes] (hm : Mem w0 W L) (hs : sz = D.sz) (hn : Nat.blt d n = true) (h : ∀ A1 W1, Mem w0 W1 (own D e A1 0 [] :: L) → WL P n ops Q rest ((d, .slice A1 0 0) :: E) W1) :
    WL P n ops Q (⟨some d, .buildSlice t 0 #[], ty, pos, after, none⟩ :: rest) E W := by
  obtain ⟨i, z, hi, hz, hzs, hs1, hb, hs0, hb0⟩ := hE.spec
  subst hs
  have hown := World.ownsRow_lit (size := D.sz) (e := e) (base := 0) W #[] 0 (Nat.zero_le _) (by simp [maxLen]) (by simp)
  have hrun : (Instr.buildSlice t 0 #[]).run P W = .ok (.slice (some ⟨W.heap.size, 0, none⟩) 0 0) (W.alloc (.cells #[] e)) := by
    simp [Instr.buildSlice, underlying, hU.out, sizeOf, typeInfo, hi, hs1, zeroValue, hz, newRow, World.alloc_eq, Instr.fill, Array.range_zero']
  refine s_run (W1 := W.alloc (.cells #[] e)) rfl rfl hn (fun a ha => by simp [execOp, hrun]) (h (some ⟨W.heap.size, 0, none⟩) _ ?_)
  refine hm.add ((Below.refl _ _).alloc (Nat.le_refl _) _) ?_
  exact ⟨[], rfl, fun k => k = W.heap.size, fun k hk => by omega, ⟨hown, fun k hk => by simpa [Value.ownBlock] using hk.symm⟩, trivial⟩
end
end Go.Proofs.Ytjeijflpejhkhaa.Sp
