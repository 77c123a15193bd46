/- For the laws' walks over worlds: what a world's own rows tell a reader; arguments that read as worlds. No condition. -/
import Derived.Test.Ytjeijflpejhkhaawd
import Derived.Test.YtjeijflpejhkhaaSpArg
namespace Go.Proofs.Ytjeijflpejhkhaa.Sp
open Go Go.RowKit Go.ChangeShapes Go.WideShapes
set_option linter.unusedVariables false
theorem ro_w1 {eS eM eT eI eA eR eF : Nat} {x : Wld} {i : AtW} {w0 W : World} {L R0 R1 R2 : List Asn} [h0 : Pk L (own (tRec eS eM eT eI eA) eR i.b0.1 i.b0.2 x.recs) R0] [h1 : Pk R0 (own (tMsg eS) eM i.b1.1 i.b1.2 x.flight) R1] [h2 : Pk R1 (own tFix eF i.b2.1 i.b2.2 x.fixed) R2] (h : Mem w0 W L) : RoW false W x i := by
  have q0 := perm_in h0.out [] (List.Perm.refl L)
  have q1 := perm_in h1.out _ q0
  have q2 := perm_in h2.out _ q1
  exact ro_w (eS := eS) (eM := eM) (eT := eT) (eI := eI) (eA := eA) (eR := eR) (eF := eF) (L := R2) (h.perm q2)
theorem oFix : OpP Try.prog 72 2 (fun w cs => ∃ x, (rFix true).R w x cs) :=
  (opStruct Try.underlying72 (by kernel_rfl) (opCons rfl (by kernel_rfl) oInt (by decide) (opOne rfl (by kernel_rfl) oStr))).imp
    (by rintro w cs ⟨_, _, rfl, ⟨n, rfl⟩, s, rfl, hs⟩; exact ⟨⟨n, s⟩, (), rfl, fun _ => hs⟩)
theorem oFixs : OpP Try.prog 24 1 (fun w cs => ∃ (xs : List Fix) (A : Option Addr) (c : Nat), cs = [.slice A xs.length c] ∧ RoRow (rFix true) w A xs) := opSlice Try.underlying24 (by kernel_rfl) oFix
theorem oRcds : OpP Try.prog 22 1 (fun w cs => ∃ (xs : List Rcd) (A : Option Addr) (c : Nat), cs = [.slice A xs.length c] ∧ RoRow (rRcw true) w A xs) := opSlice Try.underlying22 (by kernel_rfl) (oRcd.imp (by rintro w cs ⟨x, i, rfl, h⟩; exact ⟨x, i, rfl, h, fun h => by cases h⟩))
theorem oW : OpP Try.prog 26 3 (fun w cs => ∃ x i, cs = encW x i ∧ RoW true w x i) :=
  (opStruct Try.underlying26 (by kernel_rfl) (opCons rfl (by kernel_rfl) oRcds (by decide) (opCons rfl (by kernel_rfl) oMsgs (by decide) (opOne rfl (by kernel_rfl) oFixs)))).imp
    (by
      rintro w cs ⟨_, _, rfl, ⟨xs, A, c, rfl, h1⟩, _, _, rfl, ⟨ys, B, d, rfl, h2⟩, zs, C, e, rfl, h3⟩
      exact ⟨⟨xs, ys, zs⟩, ⟨(A, c), (B, d), (C, e)⟩, rfl, h1, h2, h3⟩)
end Go.Proofs.Ytjeijflpejhkhaa.Sp
