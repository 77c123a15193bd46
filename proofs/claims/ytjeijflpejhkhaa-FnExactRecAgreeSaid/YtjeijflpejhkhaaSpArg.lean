/- An argument of the laws that reads as a recorder: its rows. No condition. -/
import Derived.Test.YtjeijflpejhkhaaSpTy
import Derived.Test.YtjeijflpejhkhaaSpOpen
import Derived.Test.YtjeijflpejhkhaaSpKin
import Derived.KernelRfl
namespace Go.Proofs.Ytjeijflpejhkhaa.Sp
open Go Go.RowKit Go.ChangeShapes Go.WideShapes
set_option linter.unusedVariables false
theorem oInt : OpP Try.prog 3 1 (fun _ cs => ∃ n : Int, cs = [.int .i64 n]) := opInt Try.underlying3
theorem oBool : OpP Try.prog 4 1 (fun _ cs => ∃ b : Bool, cs = [.bool b]) := opBool Try.underlying4
theorem oStr : OpP Try.prog 9 1 (fun _ cs => ∃ s : ByteArray, cs = [.string s] ∧ s.size ≤ maxLen) := opStr Try.underlying9
theorem oSlot : OpP Try.prog 115 2 (fun w cs => ∃ x, (rSlot true).R w x cs) :=
  (opStruct Try.underlying115 (by kernel_rfl) (opCons rfl (by kernel_rfl) oInt (by decide) (opOne rfl (by kernel_rfl) oStr))).imp
    (by rintro w cs ⟨_, _, rfl, ⟨n, rfl⟩, s, rfl, hs⟩; exact ⟨⟨n, s⟩, (), rfl, fun _ => hs⟩)
theorem oSlots : OpP Try.prog 61 1 (fun w cs => ∃ (xs : List Slot) (A : Option Addr) (c : Nat), cs = [.slice A xs.length c] ∧ RoRow (rSlot true) w A xs) := opSlice Try.underlying61 (by kernel_rfl) oSlot
theorem oInts : OpP Try.prog 55 1 (fun w cs => ∃ (xs : List Int) (A : Option Addr) (c : Nat), cs = [.slice A xs.length c] ∧ RoRow rInt w A xs) := opSlice Try.underlying55 (by kernel_rfl) (oInt.imp (by rintro w cs ⟨n, rfl⟩; exact ⟨n, (), rfl, trivial⟩))
theorem oStrs : OpP Try.prog 50 1 (fun w cs => ∃ (xs : List ByteArray) (A : Option Addr) (c : Nat), cs = [.slice A xs.length c] ∧ RoRow (rStr true) w A xs) := opSlice Try.underlying50 (by kernel_rfl) (oStr.imp (by rintro w cs ⟨n, rfl, hs⟩; exact ⟨n, (), rfl, fun _ => hs⟩))
theorem oMsg : OpP Try.prog 69 8 (fun w cs => ∃ x, (rMsg true).R w x cs) :=
  (opStruct Try.underlying69 (by kernel_rfl) (opCons rfl (by kernel_rfl) oInt (by decide) (opCons rfl (by kernel_rfl) oInt (by decide) (opCons rfl (by kernel_rfl) oInt (by decide) (opCons rfl (by kernel_rfl) oInt (by decide) (opCons rfl (by kernel_rfl) oInt (by decide) (opCons rfl (by kernel_rfl) oInt (by decide) (opCons rfl (by kernel_rfl) oStr (by decide) (opOne rfl (by kernel_rfl) oSlots))))))))).imp
    (by
      rintro w cs ⟨_, _, rfl, ⟨n0, rfl⟩, _, _, rfl, ⟨n1, rfl⟩, _, _, rfl, ⟨n2, rfl⟩, _, _, rfl, ⟨n3, rfl⟩, _, _, rfl, ⟨n4, rfl⟩, _, _, rfl, ⟨n5, rfl⟩, _, _, rfl, ⟨s, rfl, hs⟩, xs, A, c, rfl, h⟩
      exact ⟨⟨n0, n1, n2, n3, n4, n5, s, xs⟩, (A, c), rfl, fun _ => hs, h⟩)
theorem oMsgs : OpP Try.prog 23 1 (fun w cs => ∃ (xs : List Msg) (A : Option Addr) (c : Nat), cs = [.slice A xs.length c] ∧ RoRow (rMsg true) w A xs) := opSlice Try.underlying23 (by kernel_rfl) oMsg
theorem oAck : OpP Try.prog 117 2 (fun w cs => ∃ x, rAck.R w x cs) :=
  (opStruct Try.underlying117 (by kernel_rfl) (opCons rfl (by kernel_rfl) oInt (by decide) (opOne rfl (by kernel_rfl) oInts))).imp
    (by rintro w cs ⟨_, _, rfl, ⟨n, rfl⟩, xs, A, c, rfl, h⟩; exact ⟨⟨n, xs⟩, (A, c), rfl, h⟩)
theorem oAcks : OpP Try.prog 64 1 (fun w cs => ∃ (xs : List Ack) (A : Option Addr) (c : Nat), cs = [.slice A xs.length c] ∧ RoRow rAck w A xs) := opSlice Try.underlying64 (by kernel_rfl) oAck
theorem oDisk : OpP Try.prog 63 3 (fun w cs => ∃ (p k : Int) (xs : List Slot) (A : Option Addr) (c : Nat), cs = [.int .i64 p, .int .i64 k, .slice A xs.length c] ∧ RoRow (rSlot true) w A xs) :=
  (opStruct Try.underlying63 (by kernel_rfl) (opCons rfl (by kernel_rfl) oInt (by decide) (opCons rfl (by kernel_rfl) oInt (by decide) (opOne rfl (by kernel_rfl) oSlots)))).imp
    (by rintro w cs ⟨_, _, rfl, ⟨n, rfl⟩, _, _, rfl, ⟨k, rfl⟩, xs, A, c, rfl, h⟩; exact ⟨n, k, xs, A, c, rfl, h⟩)
theorem oRcd : OpP Try.prog 66 18 (fun w cs => ∃ x i, cs = encRcd x i ∧ RoRcd true w x i) :=
  (opStruct Try.underlying66 (by kernel_rfl) (opCons rfl (by kernel_rfl) oInt (by decide) (opCons rfl (by kernel_rfl) oInt (by decide) (opCons rfl (by kernel_rfl) oBool (by decide) (opCons rfl (by kernel_rfl) oDisk (by decide) (opCons rfl (by kernel_rfl) oDisk (by decide) (opCons rfl (by kernel_rfl) oMsgs (by decide) (opCons rfl (by kernel_rfl) oStrs (by decide) (opCons rfl (by kernel_rfl) oBool (by decide) (opCons rfl (by kernel_rfl) oBool (by decide) (opCons rfl (by kernel_rfl) oInt (by decide) (opCons rfl (by kernel_rfl) oInts (by decide) (opCons rfl (by kernel_rfl) oSlots (by decide) (opCons rfl (by kernel_rfl) oAcks (by decide) (opOne rfl (by kernel_rfl) oInt))))))))))))))).imp
    (by
      rintro w cs ⟨_, _, rfl, ⟨n0, rfl⟩, _, _, rfl, ⟨n1, rfl⟩, _, _, rfl, ⟨b2, rfl⟩, _, _, rfl, ⟨n3, n4, x5, A5, c5, rfl, h5⟩, _, _, rfl, ⟨n6, n7, x8, A8, c8, rfl, h8⟩, _, _, rfl, ⟨x9, A9, c9, rfl, h9⟩, _, _, rfl, ⟨x10, A10, c10, rfl, h10⟩, _, _, rfl, ⟨b11, rfl⟩, _, _, rfl, ⟨b12, rfl⟩, _, _, rfl, ⟨n13, rfl⟩, _, _, rfl, ⟨x14, A14, c14, rfl, h14⟩, _, _, rfl, ⟨x15, A15, c15, rfl, h15⟩, _, _, rfl, ⟨x16, A16, c16, rfl, h16⟩, n17, rfl⟩
      exact ⟨⟨n0, n1, b2, n3, n4, x5, n6, n7, x8, x9, x10, b11, b12, n13, x14, x15, x16, n17⟩, ⟨(A5, c5), (A8, c8), (A9, c9), (A10, c10), (A14, c14), (A15, c15), (A16, c16)⟩, rfl, ⟨h5, h8, h9, h10, h14, h15, h16⟩⟩)
end Go.Proofs.Ytjeijflpejhkhaa.Sp
