/- RecMessageOk of the program answers as the reference's at every message and number, and leaves its arguments as they were; no condition. -/
import Derived.Test.YthnmdbjjfjkfmaaRows
import Derived.Test.YthnmdbjjfjkfmaaQFnExactRecMessageOk
import Derived.WalkKit
import Derived.ProofKit
import Derived.OpenShut
import Derived.ShutString
import Derived.ChangeOld
import Derived.Below
import Derived.Carry
import Derived.SizedLaws
namespace Go.Proofs.Ythnmdbjjfjkfmaa.fnExactRecMessageOk
open Go.ChangeShapes Go.WideShapes Go.ChangeAt Go.RowKit Go.Proofs.Ythnmdbjjfjkfmaa.PFnExactRecMessageOk Go.Proofs.YthnmdbjjfjkfmaaW.PrintWords Go.Proofs.Ythnmdbjjfjkfmaa.Op
open Go.ChangeMaps (open_string shut_string)
set_option linter.unusedVariables false
theorem own : ownKnob Try.prog.godebug = none := by kernel_rfl
theorem laidOut : laidOutB Try.prog = true := by kernel_rfl

theorem oSlot : Opens Try.prog 94 k94 (fun x => x.f1.size ≤ maxLen) :=
  (opens_iso (f := fun x : S94 => (x.f0, x.f1)) (fun a => ⟨a.1, a.2⟩) (fun _ => rfl) (opens_struct Try.underlying94 (by kernel_rfl)
    (opensFs_cons rfl (by kernel_rfl) (opens_int Try.underlying3) (by decide) (opensFs_one rfl (by kernel_rfl) (opens_string Try.underlying9))))).imp (fun _ h => h.2)
theorem oMsg : Opens Try.prog 43 (Kd.pair (Kd.int .i64) (Kd.pair (Kd.int .i64) (Kd.pair (Kd.int .i64) (Kd.pair (Kd.int .i64) (Kd.pair (Kd.int .i64) (Kd.pair (Kd.int .i64) (Kd.pair Kd.string (Kd.slice 94 k94)))))))) (fun x => x.2.2.2.2.2.2.1.size ≤ maxLen ∧ x.2.2.2.2.2.2.2.length ≤ maxLen ∧ ∀ y ∈ x.2.2.2.2.2.2.2, y.f1.size ≤ maxLen) :=
  (opens_struct Try.underlying43 (by kernel_rfl) (opensFs_cons rfl (by kernel_rfl) (opens_int Try.underlying3) (by decide) (opensFs_cons rfl (by kernel_rfl) (opens_int Try.underlying3) (by decide) (opensFs_cons rfl (by kernel_rfl) (opens_int Try.underlying3) (by decide) (opensFs_cons rfl (by kernel_rfl) (opens_int Try.underlying3) (by decide) (opensFs_cons rfl (by kernel_rfl) (opens_int Try.underlying3) (by decide) (opensFs_cons rfl (by kernel_rfl) (opens_int Try.underlying3) (by decide) (opensFs_cons rfl (by kernel_rfl) (opens_string Try.underlying9) (by decide) (opensFs_one rfl (by kernel_rfl) (opens_slice Try.underlying25 (by kernel_rfl) oSlot)))))))))).imp (fun _ h => h.2.2.2.2.2.2)

set_option maxRecDepth 100000 in
theorem lifted (os : Os) (started : os.Started) (H : Type) (enc : TypeId × Value → H) :
    ReturnsInHanded {} Try.checked os 7 .any (Rows.fnExactRecMessageOkSpec.pre6 enc Try.prog Try.f7 Rows.fnExactRecMessageOkRow.domain false) (Rows.fnExactRecMessageOkSpec.post enc Try.prog Try.f7 false true false false) := by
  refine returnsInHanded_of_change_sized (C := Try.checked) own started (by kernel_rfl) Try.func7
    (ChangeSpec.witness6 (enc := enc) (C := Try.checked) false ⟨#[], #[.agg #[.int .i64 0, .int .i64 0, .int .i64 0, .int .i64 0, .int .i64 0, .int .i64 0, .string ⟨#[]⟩, .slice none 0 0], .int .i64 0], []⟩ 8 (by kernel_rfl) (by kernel_rfl) (by kernel_rfl) (by kernel_rfl)) ?_
  intro W base args ds gs before hval0 hW hcnd hsz0 _
  have hval : ∀ (j : Nat) t v, Try.f7.params[j]? = some t → args[j]? = some v → Value.okWide Try.prog W .any base t v := hval0
  have hW' := hW
  have hlt := hW'.lt
  obtain ⟨p, q, hA0, hV, rfl, hfz, hnd⟩ := hW
  have hA : DataW.TrodAll enc Try.prog W 0 (fun _ => true) true Try.f7.params.toList args.toList ds p := hA0
  rw [Try.params7] at hA hval
  obtain ⟨v0, vs0, d0, ds0, p0, q0, hargs, rfl, rfl, h0, r0⟩ := trodAll_cons hA
  obtain ⟨v1, vs1, d1, ds1, p1, q1, rfl, rfl, rfl, h1, r1⟩ := trodAll_cons r0
  obtain ⟨rfl, rfl, rfl⟩ := trodAll_nil r1
  obtain rfl : args = #[v0, v1] := by cases args; simp_all
  obtain ⟨rfl, rfl⟩ := trodVars_none hV
  obtain ⟨o, rfl, rfl, rfl, w1⟩ := open_int Try.underlying3 (hval 1 3 v1 rfl rfl) h1
  have h0k := h0
  obtain ⟨fuel, h0⟩ := h0
  obtain ⟨⟨y0, y1, y2, y3, y4, y5, y6, y7⟩, hK, hw⟩ := oMsg.out enc W fuel _ _ h0
  obtain ⟨_, _, hcs, rfl, ⟨_, _, rfl, rfl, ⟨_, _, rfl, rfl, ⟨_, _, rfl, rfl, ⟨_, _, rfl, rfl, ⟨_, _, rfl, rfl, ⟨_, _, rfl, rfl, ⟨A, c, rfl, hl, hC⟩⟩⟩⟩⟩⟩⟩⟩ := hK
  obtain rfl := agg_of Try.underlying43 (hval 0 43 v0 rfl rfl) hcs
  clear hA0 hval0 hsz0 h0
  refine (laws_FnExactRecMessageOk.calls (y7.length + 3) y0 y1 y2 y3 y4 y5 y6 A c y7 o true W hC hl (QFnExactRecMessageOk.law y0 y1 y2 y3 y4 y5 y6 y7 o hw.1 hw.2.1 hw.2.2)).mono fun e W' ⟨he, bel⟩ => ?_
  subst he
  exact ⟨_, rfl, _, _, _, [], _, [], hW', trodAll_mk1 (shut_bool Try.underlying4 _),
    trodAll_cons_mk (Below.trod laidOut (by kernel_rfl) (of_decide_eq_true (by kernel_rfl)) h0k bel (fun x hx => by simpa using hlt x (by simp [hx]))) (trodAll_cons_mk (shut_int Try.underlying3 w1) trodAll_mk0), rfl, bel.frame _, fun h => by cases h⟩
theorem over : Rows.fnExactRecMessageOkRow.holds Try.pinned (OpenSpec.ofChange Rows.fnExactRecMessageOkSpec) :=
  OpenClaim.holds_of_wide 7 Try.f7 rfl rfl rfl rfl rfl rfl rfl ⟨rfl, rfl, rfl, rfl, rfl⟩ rfl rfl rfl rfl rfl (by kernel_rfl) Try.func7 (by kernel_rfl)
    (of_decide_eq_true (by kernel_rfl)) (by unfold Func.isWrapper; first | (rw [if_pos (by decide +kernel)]; kernel_rfl) | (rw [if_neg (by decide +kernel)]; exact ⟨rfl, rfl⟩))
    (fun os started H enc _ => lifted os started H enc)
end Go.Proofs.Ythnmdbjjfjkfmaa.fnExactRecMessageOk
namespace Go.Proofs.Ythnmdbjjfjkfmaa
/-- The row. -/
theorem fnExactRecMessageOk_holds : Rows.FnExactRecMessageOkSaid := fnExactRecMessageOk.over
end Go.Proofs.Ythnmdbjjfjkfmaa
