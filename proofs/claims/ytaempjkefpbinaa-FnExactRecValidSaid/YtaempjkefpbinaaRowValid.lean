/- RecValid of the program answers as the reference's at every recorder, and leaves it as it was; no condition. -/
import Derived.Test.YtaempjkefpbinaaRows
import Derived.Test.YtaempjkefpbinaaQFnExactRecValid
import Derived.WalkKit
import Derived.ProofKit
import Derived.OpenShut
import Derived.ShutString
import Derived.ChangeOld
import Derived.Below
import Derived.Carry
import Derived.SizedLaws
namespace Go.Proofs.Ytaempjkefpbinaa.fnExactRecValid
open Go.ChangeShapes Go.WideShapes Go.ChangeAt Go.RowKit Go.Proofs.Ytaempjkefpbinaa.PFnExactRecValid Go.Proofs.YtaempjkefpbinaaW.PrintWords Go.Proofs.Ytaempjkefpbinaa.Op
open Go.ChangeMaps (open_string shut_string)
set_option linter.unusedVariables false
theorem own : ownKnob Try.prog.godebug = none := by kernel_rfl
theorem laidOut : laidOutB Try.prog = true := by kernel_rfl

theorem oSlot : Opens Try.prog 78 k78 (fun x => x.f1.size ≤ maxLen) :=
  (opens_iso (f := fun x : S78 => (x.f0, x.f1)) (fun a => ⟨a.1, a.2⟩) (fun _ => rfl) (opens_struct Try.underlying78 (by kernel_rfl) (opensFs_cons rfl (by kernel_rfl) (opens_int Try.underlying3) (by decide) (opensFs_one rfl (by kernel_rfl) (opens_string Try.underlying9))))).imp (fun _ h => h.2)
theorem oMsg : Opens Try.prog 75 k75 (fun x => x.f6.size ≤ maxLen ∧ x.f7.length ≤ maxLen ∧ ∀ y ∈ x.f7, y.f1.size ≤ maxLen) :=
  (opens_iso (f := fun x : S75 => (x.f0, x.f1, x.f2, x.f3, x.f4, x.f5, x.f6, x.f7)) (fun a => ⟨a.1, a.2.1, a.2.2.1, a.2.2.2.1, a.2.2.2.2.1, a.2.2.2.2.2.1, a.2.2.2.2.2.2.1, a.2.2.2.2.2.2.2⟩) (fun _ => rfl) (opens_struct Try.underlying75 (by kernel_rfl) (opensFs_cons rfl (by kernel_rfl) (opens_int Try.underlying3) (by decide) (opensFs_cons rfl (by kernel_rfl) (opens_int Try.underlying3) (by decide) (opensFs_cons rfl (by kernel_rfl) (opens_int Try.underlying3) (by decide) (opensFs_cons rfl (by kernel_rfl) (opens_int Try.underlying3) (by decide) (opensFs_cons rfl (by kernel_rfl) (opens_int Try.underlying3) (by decide) (opensFs_cons rfl (by kernel_rfl) (opens_int Try.underlying3) (by decide) (opensFs_cons rfl (by kernel_rfl) (opens_string Try.underlying9) (by decide) (opensFs_one rfl (by kernel_rfl) (opens_slice Try.underlying22 (by kernel_rfl) oSlot))))))))))).imp (fun _ h => h.2.2.2.2.2.2)
theorem oAck : Opens Try.prog 80 k80 (fun x => x.f1.length ≤ maxLen) :=
  (opens_iso (f := fun x : S80 => (x.f0, x.f1)) (fun a => ⟨a.1, a.2⟩) (fun _ => rfl) (opens_struct Try.underlying80 (by kernel_rfl) (opensFs_cons rfl (by kernel_rfl) (opens_int Try.underlying3) (by decide) (opensFs_one rfl (by kernel_rfl) (opens_slice Try.underlying27 (by kernel_rfl) (opens_int Try.underlying3)))))).imp (fun _ h => h.2.1)
theorem oDisk : Opens Try.prog 24 (Kd.pair (Kd.int .i64) (Kd.pair (Kd.int .i64) (Kd.slice 78 k78))) (fun x => x.2.2.length ≤ maxLen ∧ ∀ y ∈ x.2.2, y.f1.size ≤ maxLen) :=
  (opens_struct Try.underlying24 (by kernel_rfl) (opensFs_cons rfl (by kernel_rfl) (opens_int Try.underlying3) (by decide) (opensFs_cons rfl (by kernel_rfl) (opens_int Try.underlying3) (by decide) (opensFs_one rfl (by kernel_rfl) (opens_slice Try.underlying22 (by kernel_rfl) oSlot))))).imp (fun _ h => h.2.2)
theorem oRec : Opens Try.prog 30 (Kd.pair (Kd.int .i64) (Kd.pair (Kd.int .i64) (Kd.pair Kd.bool (Kd.pair (Kd.pair (Kd.int .i64) (Kd.pair (Kd.int .i64) (Kd.slice 78 k78))) (Kd.pair (Kd.pair (Kd.int .i64) (Kd.pair (Kd.int .i64) (Kd.slice 78 k78))) (Kd.pair (Kd.slice 75 k75) (Kd.pair (Kd.slice 9 Kd.string) (Kd.pair Kd.bool (Kd.pair Kd.bool (Kd.pair (Kd.int .i64) (Kd.pair (Kd.slice 3 (Kd.int .i64)) (Kd.pair (Kd.slice 78 k78) (Kd.pair (Kd.slice 80 k80) (Kd.int .i64)))))))))))))) (fun x => True ∧ True ∧ True ∧ (x.2.2.2.1.2.2.length ≤ maxLen ∧ ∀ y ∈ x.2.2.2.1.2.2, y.f1.size ≤ maxLen) ∧ (x.2.2.2.2.1.2.2.length ≤ maxLen ∧ ∀ y ∈ x.2.2.2.2.1.2.2, y.f1.size ≤ maxLen) ∧ (x.2.2.2.2.2.1.length ≤ maxLen ∧ ∀ y ∈ x.2.2.2.2.2.1, y.f6.size ≤ maxLen ∧ y.f7.length ≤ maxLen ∧ ∀ z ∈ y.f7, z.f1.size ≤ maxLen) ∧ (x.2.2.2.2.2.2.1.length ≤ maxLen ∧ ∀ y ∈ x.2.2.2.2.2.2.1, y.size ≤ maxLen) ∧ True ∧ True ∧ True ∧ (x.2.2.2.2.2.2.2.2.2.2.1.length ≤ maxLen ∧ True) ∧ (x.2.2.2.2.2.2.2.2.2.2.2.1.length ≤ maxLen ∧ ∀ y ∈ x.2.2.2.2.2.2.2.2.2.2.2.1, y.f1.size ≤ maxLen) ∧ (x.2.2.2.2.2.2.2.2.2.2.2.2.1.length ≤ maxLen ∧ ∀ y ∈ x.2.2.2.2.2.2.2.2.2.2.2.2.1, y.f1.length ≤ maxLen) ∧ True) :=
  (opens_struct Try.underlying30 (by kernel_rfl) (opensFs_cons rfl (by kernel_rfl) (opens_int Try.underlying3) (by decide) (opensFs_cons rfl (by kernel_rfl) (opens_int Try.underlying3) (by decide) (opensFs_cons rfl (by kernel_rfl) (opens_bool Try.underlying4) (by decide) (opensFs_cons rfl (by kernel_rfl) oDisk (by decide) (opensFs_cons rfl (by kernel_rfl) oDisk (by decide) (opensFs_cons rfl (by kernel_rfl) (opens_slice Try.underlying25 (by kernel_rfl) oMsg) (by decide) (opensFs_cons rfl (by kernel_rfl) (opens_slice Try.underlying26 (by kernel_rfl) (opens_string Try.underlying9)) (by decide) (opensFs_cons rfl (by kernel_rfl) (opens_bool Try.underlying4) (by decide) (opensFs_cons rfl (by kernel_rfl) (opens_bool Try.underlying4) (by decide) (opensFs_cons rfl (by kernel_rfl) (opens_int Try.underlying3) (by decide) (opensFs_cons rfl (by kernel_rfl) (opens_slice Try.underlying27 (by kernel_rfl) (opens_int Try.underlying3)) (by decide) (opensFs_cons rfl (by kernel_rfl) (opens_slice Try.underlying22 (by kernel_rfl) oSlot) (by decide) (opensFs_cons rfl (by kernel_rfl) (opens_slice Try.underlying28 (by kernel_rfl) oAck) (by decide) (opensFs_one rfl (by kernel_rfl) (opens_int Try.underlying3)))))))))))))))).imp (fun _ ⟨_, _, _, a3, a4, a5, a6, _, _, _, a10, a11, a12, _⟩ => ⟨trivial, trivial, trivial, a3, a4, a5, a6, trivial, trivial, trivial, ⟨a10.1, trivial⟩, a11, a12, trivial⟩)

set_option maxRecDepth 100000 in
theorem lifted (os : Os) (started : os.Started) (H : Type) (enc : TypeId × Value → H) :
    ReturnsInHanded {} Try.checked os 3 .any (Rows.fnExactRecValidSpec.pre6 enc Try.prog Try.f3 Rows.fnExactRecValidRow.domain false) (Rows.fnExactRecValidSpec.post enc Try.prog Try.f3 false true false false) := by
  refine returnsInHanded_of_change_sized (C := Try.checked) own started (by kernel_rfl) Try.func3
    (ChangeSpec.witness6 (enc := enc) (C := Try.checked) false ⟨#[], #[.agg #[.int .i64 0, .int .i64 0, .bool false, .int .i64 0, .int .i64 0, .slice none 0 0, .int .i64 0, .int .i64 0, .slice none 0 0, .slice none 0 0, .slice none 0 0, .bool false, .bool false, .int .i64 0, .slice none 0 0, .slice none 0 0, .slice none 0 0, .int .i64 0]], []⟩ 8 (by kernel_rfl) (by kernel_rfl) (by kernel_rfl) (by kernel_rfl)) ?_
  intro W base args ds gs before hval0 hW hcnd hsz0 _
  have hval : ∀ (j : Nat) t v, Try.f3.params[j]? = some t → args[j]? = some v → Value.okWide Try.prog W .any base t v := hval0
  have hW' := hW
  have hlt := hW'.lt
  obtain ⟨p, q, hA0, hV, rfl, hfz, hnd⟩ := hW
  have hA : DataW.TrodAll enc Try.prog W 0 (fun _ => true) true Try.f3.params.toList args.toList ds p := hA0
  rw [Try.params3] at hA hval
  obtain ⟨v0, vs0, d0, ds0, p0, q0, hargs, rfl, rfl, h0, r0⟩ := trodAll_cons hA
  obtain ⟨rfl, rfl, rfl⟩ := trodAll_nil r0
  obtain rfl : args = #[v0] := by cases args; simp_all
  obtain ⟨rfl, rfl⟩ := trodVars_none hV
  have h0k := h0
  obtain ⟨fuel, h0⟩ := h0
  obtain ⟨⟨n0, o, b2, ⟨n3, n4, x5⟩, ⟨n6, n7, x8⟩, x9, x10, L, T, n13, x14, x15, x16, n17⟩, hK, hw⟩ := oRec.out enc W fuel _ _ h0
  obtain ⟨_, _, hcs, rfl, ⟨_, _, rfl, rfl, ⟨_, _, rfl, rfl, ⟨_, _, rfl, ⟨_, _, rfl, rfl, ⟨_, _, rfl, rfl, ⟨A5, c5, rfl, l5, h5⟩⟩⟩, ⟨_, _, rfl, ⟨_, _, rfl, rfl, ⟨_, _, rfl, rfl, ⟨A8, c8, rfl, l8, h8⟩⟩⟩, ⟨_, _, rfl, ⟨A9, c9, rfl, l9, h9⟩, ⟨_, _, rfl, ⟨A10, c10, rfl, l10, h10⟩, ⟨_, _, rfl, rfl, ⟨_, _, rfl, rfl, ⟨_, _, rfl, rfl, ⟨_, _, rfl, ⟨A14, c14, rfl, l14, h14⟩, ⟨_, _, rfl, ⟨A15, c15, rfl, l15, h15⟩, ⟨_, _, rfl, ⟨A16, c16, rfl, l16, h16⟩, rfl⟩⟩⟩⟩⟩⟩⟩⟩⟩⟩⟩⟩⟩ := hK
  obtain ⟨_, _, _, ⟨m5, f5⟩, ⟨m8, f8⟩, ⟨m9, f9⟩, ⟨m10, f10⟩, _, _, _, ⟨m14, _⟩, ⟨m15, f15⟩, ⟨m16, f16⟩, _⟩ := hw
  obtain rfl := agg_of Try.underlying30 (hval 0 30 v0 rfl rfl) hcs
  clear hA0 hval0 hsz0 h0
  refine (QFnExactRecValid.law n0 o n3 n4 n6 n7 n13 n17 b2 L T x5 x8 x9 x10 x14 x15 x16 A5 A8 A9 A10 A14 A15 A16 c5 c8 c9 c10 c14 c15 c16 W h5 l5 m5 f5 h8 l8 m8 f8 h9 l9 m9 f9 h10 l10 m10 f10 h14 l14 m14 h15 l15 m15 f15 h16 l16 m16 f16).mono fun e W' ⟨he, bel⟩ => ?_
  subst he
  exact ⟨_, rfl, _, _, _, [], _, [], hW', trodAll_mk1 (shut_bool Try.underlying4 _),
    trodAll_cons_mk (Below.trod laidOut (by kernel_rfl) (of_decide_eq_true (by kernel_rfl)) h0k bel (fun x hx => by simpa using hlt x (by simp [hx]))) trodAll_mk0, rfl, bel.frame _, fun h => by cases h⟩
theorem over : Rows.fnExactRecValidRow.holds Try.pinned (OpenSpec.ofChange Rows.fnExactRecValidSpec) :=
  OpenClaim.holds_of_wide 3 Try.f3 rfl rfl rfl rfl rfl rfl rfl ⟨rfl, rfl, rfl, rfl, rfl⟩ rfl rfl rfl rfl rfl (by kernel_rfl) Try.func3 (by kernel_rfl)
    (of_decide_eq_true (by kernel_rfl)) (by unfold Func.isWrapper; first | (rw [if_pos (by decide +kernel)]; kernel_rfl) | (rw [if_neg (by decide +kernel)]; exact ⟨rfl, rfl⟩))
    (fun os started H enc _ => lifted os started H enc)
end Go.Proofs.Ytaempjkefpbinaa.fnExactRecValid
namespace Go.Proofs.Ytaempjkefpbinaa
/-- The row. -/
theorem fnExactRecValid_holds : Rows.FnExactRecValidSaid := fnExactRecValid.over
end Go.Proofs.Ytaempjkefpbinaa
