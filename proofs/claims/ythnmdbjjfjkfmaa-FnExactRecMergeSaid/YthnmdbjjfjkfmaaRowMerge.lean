/- RecMerge of the program answers as the reference's at every two lists of slots, leaves them as they were, and its answer owns its memory; no condition. -/
import Derived.Test.YthnmdbjjfjkfmaaRows
import Derived.Test.YthnmdbjjfjkfmaaQFnExactRecMerge
import Derived.WalkKit
import Derived.ProofKit
import Derived.OpenShut
import Derived.ShutString
import Derived.ChangeOld
import Derived.Below
import Derived.Carry
import Derived.SizedLaws
namespace Go.Proofs.Ythnmdbjjfjkfmaa.fnExactRecMerge
open Go.ChangeShapes Go.WideShapes Go.ChangeAt Go.RowKit Go.Proofs.Ythnmdbjjfjkfmaa.PFnExactRecMerge Go.Proofs.YthnmdbjjfjkfmaaW.PrintWords Go.Proofs.Ythnmdbjjfjkfmaa.Op
open Go.ChangeMaps (open_string shut_string)
set_option linter.unusedVariables false
theorem own : ownKnob Try.prog.godebug = none := by kernel_rfl
theorem laidOut : laidOutB Try.prog = true := by kernel_rfl

theorem oSlot : Opens Try.prog 94 k94 (fun x => x.f1.size ≤ maxLen) :=
  (opens_iso (f := fun x : S94 => (x.f0, x.f1)) (fun a => ⟨a.1, a.2⟩) (fun _ => rfl) (opens_struct Try.underlying94 (by kernel_rfl)
    (opensFs_cons rfl (by kernel_rfl) (opens_int Try.underlying3) (by decide) (opensFs_one rfl (by kernel_rfl) (opens_string Try.underlying9))))).imp (fun _ h => h.2)
theorem oSlots : Opens Try.prog 25 (Kd.slice 94 k94) (fun xs => xs.length ≤ maxLen ∧ ∀ y ∈ xs, y.f1.size ≤ maxLen) :=
  opens_slice Try.underlying25 (by kernel_rfl) oSlot

set_option maxRecDepth 100000 in
theorem lifted (os : Os) (started : os.Started) (H : Type) (enc : TypeId × Value → H) :
    ReturnsInHanded {} Try.checked os 5 .any (Rows.fnExactRecMergeSpec.pre6 enc Try.prog Try.f5 Rows.fnExactRecMergeRow.domain false) (Rows.fnExactRecMergeSpec.post enc Try.prog Try.f5 false true false false) := by
  refine returnsInHanded_of_change_sized (C := Try.checked) own started (by kernel_rfl) Try.func5
    (ChangeSpec.witness6 (enc := enc) (C := Try.checked) false ⟨#[], #[.slice none 0 0, .slice none 0 0], []⟩ 8 (by kernel_rfl) (by kernel_rfl) (by kernel_rfl) (by kernel_rfl)) ?_
  intro W base args ds gs before hval0 hW hcnd hsz0 _
  have hval : ∀ (j : Nat) t v, Try.f5.params[j]? = some t → args[j]? = some v → Value.okWide Try.prog W .any base t v := hval0
  have hW' := hW
  have hlt := hW'.lt
  obtain ⟨p, q, hA0, hV, rfl, hfz, hnd⟩ := hW
  have hA : DataW.TrodAll enc Try.prog W 0 (fun _ => true) true Try.f5.params.toList args.toList ds p := hA0
  rw [Try.params5] at hA hval
  obtain ⟨v0, vs0, d0, ds0, p0, q0, hargs, rfl, rfl, h0, r0⟩ := trodAll_cons hA
  obtain ⟨v1, vs1, d1, ds1, p1, q1, rfl, rfl, rfl, h1, r1⟩ := trodAll_cons r0
  obtain ⟨rfl, rfl, rfl⟩ := trodAll_nil r1
  obtain rfl : args = #[v0, v1] := by cases args; simp_all
  obtain ⟨rfl, rfl⟩ := trodVars_none hV
  have h0k := h0
  have h1k := h1
  obtain ⟨fuel, h0⟩ := h0
  obtain ⟨fuel1, h1⟩ := h1
  obtain ⟨xs, ⟨A, c, hcs, hl, hC⟩, hw⟩ := oSlots.out enc W fuel _ _ h0
  obtain ⟨ys, ⟨A', c', hcs', hl', hC'⟩, hw'⟩ := oSlots.out enc W fuel1 _ _ h1
  obtain rfl := slice_of Try.underlying25 (hval 0 25 v0 rfl rfl) hcs
  obtain rfl := slice_of Try.underlying25 (hval 1 25 v1 rfl rfl) hcs'
  clear hA0 hval0 hsz0 h0 h1
  refine (laws_FnExactRecMerge.calls (xs.length + ys.length + 100) A c xs A' c' ys true W hC hl hC' hl' (QFnExactRecMerge.law xs ys hw.1 hw.2 hw'.1 hw'.2)).mono fun e W' ⟨he, bel⟩ => ?_
  subst he
  exact ⟨_, rfl, _, _, _, [], _, [], hW', trodAll_mk1 (shut_bool Try.underlying4 _),
    trodAll_cons_mk (Below.trod laidOut (by kernel_rfl) (of_decide_eq_true (by kernel_rfl)) h0k bel (fun x hx => by simpa using hlt x (by simp [hx]))) (trodAll_cons_mk (Below.trod laidOut (by kernel_rfl) (of_decide_eq_true (by kernel_rfl)) h1k bel (fun x hx => by simpa using hlt x (by simp [hx]))) trodAll_mk0), rfl, bel.frame _, fun h => by cases h⟩
theorem over : Rows.fnExactRecMergeRow.holds Try.pinned (OpenSpec.ofChange Rows.fnExactRecMergeSpec) :=
  OpenClaim.holds_of_wide 5 Try.f5 rfl rfl rfl rfl rfl rfl rfl ⟨rfl, rfl, rfl, rfl, rfl⟩ rfl rfl rfl rfl rfl (by kernel_rfl) Try.func5 (by kernel_rfl)
    (of_decide_eq_true (by kernel_rfl)) (by unfold Func.isWrapper; first | (rw [if_pos (by decide +kernel)]; kernel_rfl) | (rw [if_neg (by decide +kernel)]; exact ⟨rfl, rfl⟩))
    (fun os started H enc _ => lifted os started H enc)
end Go.Proofs.Ythnmdbjjfjkfmaa.fnExactRecMerge
namespace Go.Proofs.Ythnmdbjjfjkfmaa
/-- The row. -/
theorem fnExactRecMerge_holds : Rows.FnExactRecMergeSaid := fnExactRecMerge.over
end Go.Proofs.Ythnmdbjjfjkfmaa
