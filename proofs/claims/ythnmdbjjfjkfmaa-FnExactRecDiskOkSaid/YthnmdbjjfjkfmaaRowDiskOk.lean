/- RecDiskOk of the program answers as the reference's at every disk, and leaves its argument as it was; no condition. -/
import Derived.Test.YthnmdbjjfjkfmaaRows
import Derived.Test.YthnmdbjjfjkfmaaQFnExactRecDiskOk
import Derived.WalkKit
import Derived.ProofKit
import Derived.OpenShut
import Derived.ShutString
import Derived.ChangeOld
import Derived.Below
import Derived.Carry
import Derived.SizedLaws
namespace Go.Proofs.Ythnmdbjjfjkfmaa.fnExactRecDiskOk
open Go.ChangeShapes Go.WideShapes Go.ChangeAt Go.RowKit Go.Proofs.Ythnmdbjjfjkfmaa.PFnExactRecDiskOk Go.Proofs.YthnmdbjjfjkfmaaW.PrintWords Go.Proofs.Ythnmdbjjfjkfmaa.Op
open Go.ChangeMaps (open_string shut_string)
set_option linter.unusedVariables false
theorem own : ownKnob Try.prog.godebug = none := by kernel_rfl
theorem laidOut : laidOutB Try.prog = true := by kernel_rfl

theorem oSlot : Opens Try.prog 94 k94 (fun x => x.f1.size ≤ maxLen) :=
  (opens_iso (f := fun x : S94 => (x.f0, x.f1)) (fun a => ⟨a.1, a.2⟩) (fun _ => rfl) (opens_struct Try.underlying94 (by kernel_rfl)
    (opensFs_cons rfl (by kernel_rfl) (opens_int Try.underlying3) (by decide) (opensFs_one rfl (by kernel_rfl) (opens_string Try.underlying9))))).imp (fun _ h => h.2)
theorem oDisk : Opens Try.prog 34 (Kd.pair (Kd.int .i64) (Kd.pair (Kd.int .i64) (Kd.slice 94 k94))) (fun x => x.2.2.length ≤ maxLen ∧ ∀ y ∈ x.2.2, y.f1.size ≤ maxLen) :=
  (opens_struct Try.underlying34 (by kernel_rfl)
    (opensFs_cons rfl (by kernel_rfl) (opens_int Try.underlying3) (by decide) (opensFs_cons rfl (by kernel_rfl) (opens_int Try.underlying3) (by decide)
      (opensFs_one rfl (by kernel_rfl) (opens_slice Try.underlying25 (by kernel_rfl) oSlot))))).imp (fun _ h => h.2.2)

set_option maxRecDepth 100000 in
theorem lifted (os : Os) (started : os.Started) (H : Type) (enc : TypeId × Value → H) :
    ReturnsInHanded {} Try.checked os 6 .any (Rows.fnExactRecDiskOkSpec.pre6 enc Try.prog Try.f6 Rows.fnExactRecDiskOkRow.domain false) (Rows.fnExactRecDiskOkSpec.post enc Try.prog Try.f6 false true false false) := by
  refine returnsInHanded_of_change_sized (C := Try.checked) own started (by kernel_rfl) Try.func6
    (ChangeSpec.witness6 (enc := enc) (C := Try.checked) false ⟨#[], #[.agg #[.int .i64 0, .int .i64 0, .slice none 0 0]], []⟩ 8 (by kernel_rfl) (by kernel_rfl) (by kernel_rfl) (by kernel_rfl)) ?_
  intro W base args ds gs before hval0 hW hcnd hsz0 _
  have hval : ∀ (j : Nat) t v, Try.f6.params[j]? = some t → args[j]? = some v → Value.okWide Try.prog W .any base t v := hval0
  have hW' := hW
  have hlt := hW'.lt
  obtain ⟨p, q, hA0, hV, rfl, hfz, hnd⟩ := hW
  have hA : DataW.TrodAll enc Try.prog W 0 (fun _ => true) true Try.f6.params.toList args.toList ds p := hA0
  rw [Try.params6] at hA hval
  obtain ⟨v0, vs0, d0, ds0, p0, q0, hargs, rfl, rfl, h0, r0⟩ := trodAll_cons hA
  obtain ⟨rfl, rfl, rfl⟩ := trodAll_nil r0
  obtain rfl : args = #[v0] := by cases args; simp_all
  obtain ⟨rfl, rfl⟩ := trodVars_none hV
  have h0k := h0
  obtain ⟨fuel, h0⟩ := h0
  obtain ⟨⟨y0, y1, y2⟩, hK, hw⟩ := oDisk.out enc W fuel _ _ h0
  obtain ⟨_, _, hcs, rfl, ⟨_, _, rfl, rfl, ⟨A, c, rfl, hl, hC⟩⟩⟩ := hK
  obtain rfl := agg_of Try.underlying34 (hval 0 34 v0 rfl rfl) hcs
  clear hA0 hval0 hsz0 h0
  refine (laws_FnExactRecDiskOk.calls (y2.length + 3) y0 y1 A c y2 true W hC hl (QFnExactRecDiskOk.law y0 y1 y2 hw.1 hw.2)).mono fun e W' ⟨he, bel⟩ => ?_
  subst he
  exact ⟨_, rfl, _, _, _, [], _, [], hW', trodAll_mk1 (shut_bool Try.underlying4 _),
    trodAll_cons_mk (Below.trod laidOut (by kernel_rfl) (of_decide_eq_true (by kernel_rfl)) h0k bel (fun x hx => by simpa using hlt x (by simp [hx]))) trodAll_mk0, rfl, bel.frame _, fun h => by cases h⟩
theorem over : Rows.fnExactRecDiskOkRow.holds Try.pinned (OpenSpec.ofChange Rows.fnExactRecDiskOkSpec) :=
  OpenClaim.holds_of_wide 6 Try.f6 rfl rfl rfl rfl rfl rfl rfl ⟨rfl, rfl, rfl, rfl, rfl⟩ rfl rfl rfl rfl rfl (by kernel_rfl) Try.func6 (by kernel_rfl)
    (of_decide_eq_true (by kernel_rfl)) (by unfold Func.isWrapper; first | (rw [if_pos (by decide +kernel)]; kernel_rfl) | (rw [if_neg (by decide +kernel)]; exact ⟨rfl, rfl⟩))
    (fun os started H enc _ => lifted os started H enc)
end Go.Proofs.Ythnmdbjjfjkfmaa.fnExactRecDiskOk
namespace Go.Proofs.Ythnmdbjjfjkfmaa
/-- The row. -/
theorem fnExactRecDiskOk_holds : Rows.FnExactRecDiskOkSaid := fnExactRecDiskOk.over
end Go.Proofs.Ythnmdbjjfjkfmaa
