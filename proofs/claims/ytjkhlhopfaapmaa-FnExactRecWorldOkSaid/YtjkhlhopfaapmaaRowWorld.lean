/- RecWorldOk of the program answers as the reference's at every world, and leaves it as it was; no condition. -/
import Derived.Test.YtjkhlhopfaapmaaRows
import Derived.Test.YtjkhlhopfaapmaaQFnExactRecWorldOk
import Derived.WalkKit
import Derived.ProofKit
import Derived.OpenShut
import Derived.ShutString
import Derived.ChangeOld
import Derived.Below
import Derived.Carry
import Derived.SizedLaws
namespace Go.Proofs.Ytjkhlhopfaapmaa.fnExactRecWorldOk
open Go.ChangeShapes Go.WideShapes Go.ChangeAt Go.RowKit Go.Proofs.Ytjkhlhopfaapmaa.PFnExactRecWorldOk Go.Proofs.Ytjkhlhopfaapmaa.QFnExactRecWorldOk Go.Proofs.YtjkhlhopfaapmaaW.PrintWords Go.Proofs.Ytjkhlhopfaapmaa.Op
open Go.ChangeMaps (open_string shut_string)
set_option linter.unusedVariables false
theorem own : ownKnob Try.prog.godebug = none := by kernel_rfl
theorem laidOut : laidOutB Try.prog = true := by kernel_rfl

theorem oSlot : Opens Try.prog 106 k106 (fun x => x.f1.size ≤ maxLen) :=
  (opens_iso (f := fun x : S106 => (x.f0, x.f1)) (fun a => ⟨a.1, a.2⟩) (fun _ => rfl) (opens_struct Try.underlying106 (by kernel_rfl) (opensFs_cons rfl (by kernel_rfl) (opens_int Try.underlying3) (by decide) (opensFs_one rfl (by kernel_rfl) (opens_string Try.underlying9))))).imp (fun _ h => h.2)
theorem oMsg : Opens Try.prog 70 k70 (fun x => x.f6.size ≤ maxLen ∧ x.f7.length ≤ maxLen ∧ ∀ y ∈ x.f7, y.f1.size ≤ maxLen) :=
  (opens_iso (f := fun x : S70 => (x.f0, x.f1, x.f2, x.f3, x.f4, x.f5, x.f6, x.f7)) (fun a => ⟨a.1, a.2.1, a.2.2.1, a.2.2.2.1, a.2.2.2.2.1, a.2.2.2.2.2.1, a.2.2.2.2.2.2.1, a.2.2.2.2.2.2.2⟩) (fun _ => rfl) (opens_struct Try.underlying70 (by kernel_rfl) (opensFs_cons rfl (by kernel_rfl) (opens_int Try.underlying3) (by decide) (opensFs_cons rfl (by kernel_rfl) (opens_int Try.underlying3) (by decide) (opensFs_cons rfl (by kernel_rfl) (opens_int Try.underlying3) (by decide) (opensFs_cons rfl (by kernel_rfl) (opens_int Try.underlying3) (by decide) (opensFs_cons rfl (by kernel_rfl) (opens_int Try.underlying3) (by decide) (opensFs_cons rfl (by kernel_rfl) (opens_int Try.underlying3) (by decide) (opensFs_cons rfl (by kernel_rfl) (opens_string Try.underlying9) (by decide) (opensFs_one rfl (by kernel_rfl) (opens_slice Try.underlying62 (by kernel_rfl) oSlot))))))))))).imp (fun _ h => h.2.2.2.2.2.2)
theorem oAck : Opens Try.prog 108 k108 (fun x => x.f1.length ≤ maxLen) :=
  (opens_iso (f := fun x : S108 => (x.f0, x.f1)) (fun a => ⟨a.1, a.2⟩) (fun _ => rfl) (opens_struct Try.underlying108 (by kernel_rfl) (opensFs_cons rfl (by kernel_rfl) (opens_int Try.underlying3) (by decide) (opensFs_one rfl (by kernel_rfl) (opens_slice Try.underlying46 (by kernel_rfl) (opens_int Try.underlying3)))))).imp (fun _ h => h.2.1)
theorem oDisk : Opens Try.prog 64 (Kd.pair (Kd.int .i64) (Kd.pair (Kd.int .i64) (Kd.slice 106 k106))) (fun x => x.2.2.length ≤ maxLen ∧ ∀ y ∈ x.2.2, y.f1.size ≤ maxLen) :=
  (opens_struct Try.underlying64 (by kernel_rfl) (opensFs_cons rfl (by kernel_rfl) (opens_int Try.underlying3) (by decide) (opensFs_cons rfl (by kernel_rfl) (opens_int Try.underlying3) (by decide) (opensFs_one rfl (by kernel_rfl) (opens_slice Try.underlying62 (by kernel_rfl) oSlot))))).imp (fun _ h => h.2.2)
theorem oRec : Opens Try.prog 67 (Kd.pair (Kd.int .i64) (Kd.pair (Kd.int .i64) (Kd.pair Kd.bool (Kd.pair (Kd.pair (Kd.int .i64) (Kd.pair (Kd.int .i64) (Kd.slice 106 k106))) (Kd.pair (Kd.pair (Kd.int .i64) (Kd.pair (Kd.int .i64) (Kd.slice 106 k106))) (Kd.pair (Kd.slice 70 k70) (Kd.pair (Kd.slice 9 Kd.string) (Kd.pair Kd.bool (Kd.pair Kd.bool (Kd.pair (Kd.int .i64) (Kd.pair (Kd.slice 3 (Kd.int .i64)) (Kd.pair (Kd.slice 106 k106) (Kd.pair (Kd.slice 108 k108) (Kd.int .i64)))))))))))))) (fun x => True ∧ True ∧ True ∧ (x.2.2.2.1.2.2.length ≤ maxLen ∧ ∀ y ∈ x.2.2.2.1.2.2, y.f1.size ≤ maxLen) ∧ (x.2.2.2.2.1.2.2.length ≤ maxLen ∧ ∀ y ∈ x.2.2.2.2.1.2.2, y.f1.size ≤ maxLen) ∧ (x.2.2.2.2.2.1.length ≤ maxLen ∧ ∀ y ∈ x.2.2.2.2.2.1, y.f6.size ≤ maxLen ∧ y.f7.length ≤ maxLen ∧ ∀ z ∈ y.f7, z.f1.size ≤ maxLen) ∧ (x.2.2.2.2.2.2.1.length ≤ maxLen ∧ ∀ y ∈ x.2.2.2.2.2.2.1, y.size ≤ maxLen) ∧ True ∧ True ∧ True ∧ (x.2.2.2.2.2.2.2.2.2.2.1.length ≤ maxLen ∧ True) ∧ (x.2.2.2.2.2.2.2.2.2.2.2.1.length ≤ maxLen ∧ ∀ y ∈ x.2.2.2.2.2.2.2.2.2.2.2.1, y.f1.size ≤ maxLen) ∧ (x.2.2.2.2.2.2.2.2.2.2.2.2.1.length ≤ maxLen ∧ ∀ y ∈ x.2.2.2.2.2.2.2.2.2.2.2.2.1, y.f1.length ≤ maxLen) ∧ True) :=
  (opens_struct Try.underlying67 (by kernel_rfl) (opensFs_cons rfl (by kernel_rfl) (opens_int Try.underlying3) (by decide) (opensFs_cons rfl (by kernel_rfl) (opens_int Try.underlying3) (by decide) (opensFs_cons rfl (by kernel_rfl) (opens_bool Try.underlying4) (by decide) (opensFs_cons rfl (by kernel_rfl) oDisk (by decide) (opensFs_cons rfl (by kernel_rfl) oDisk (by decide) (opensFs_cons rfl (by kernel_rfl) (opens_slice Try.underlying23 (by kernel_rfl) oMsg) (by decide) (opensFs_cons rfl (by kernel_rfl) (opens_slice Try.underlying45 (by kernel_rfl) (opens_string Try.underlying9)) (by decide) (opensFs_cons rfl (by kernel_rfl) (opens_bool Try.underlying4) (by decide) (opensFs_cons rfl (by kernel_rfl) (opens_bool Try.underlying4) (by decide) (opensFs_cons rfl (by kernel_rfl) (opens_int Try.underlying3) (by decide) (opensFs_cons rfl (by kernel_rfl) (opens_slice Try.underlying46 (by kernel_rfl) (opens_int Try.underlying3)) (by decide) (opensFs_cons rfl (by kernel_rfl) (opens_slice Try.underlying62 (by kernel_rfl) oSlot) (by decide) (opensFs_cons rfl (by kernel_rfl) (opens_slice Try.underlying65 (by kernel_rfl) oAck) (by decide) (opensFs_one rfl (by kernel_rfl) (opens_int Try.underlying3)))))))))))))))).imp (fun _ ⟨_, _, _, a3, a4, a5, a6, _, _, _, a10, a11, a12, _⟩ => ⟨trivial, trivial, trivial, a3, a4, a5, a6, trivial, trivial, trivial, ⟨a10.1, trivial⟩, a11, a12, trivial⟩)

set_option maxRecDepth 100000 in
theorem oRecL : Opens Try.prog 67 kL WFr := by
  refine ⟨?_⟩
  intro H enc w fuel cs x hx
  obtain ⟨⟨n0, o, b2, ⟨n3, n4, x5⟩, ⟨n6, n7, x8⟩, x9, x10, L, T, n13, x14, x15, x16, n17⟩, hK, hw⟩ := oRec.out enc w fuel cs x hx
  obtain ⟨_, _, rfl, rfl, ⟨_, _, rfl, rfl, ⟨_, _, rfl, rfl, ⟨_, _, rfl, ⟨_, _, rfl, rfl, ⟨_, _, rfl, rfl, ⟨A5, c5, rfl, l5, g5⟩⟩⟩, ⟨_, _, rfl, ⟨_, _, rfl, rfl, ⟨_, _, rfl, rfl, ⟨A8, c8, rfl, l8, g8⟩⟩⟩, ⟨_, _, rfl, ⟨A9, c9, rfl, l9, g9⟩, ⟨_, _, rfl, ⟨A10, c10, rfl, l10, g10⟩, ⟨_, _, rfl, rfl, ⟨_, _, rfl, rfl, ⟨_, _, rfl, rfl, ⟨_, _, rfl, ⟨A14, c14, rfl, l14, g14⟩, ⟨_, _, rfl, ⟨A15, c15, rfl, l15, g15⟩, ⟨_, _, rfl, ⟨A16, c16, rfl, l16, g16⟩, rfl⟩⟩⟩⟩⟩⟩⟩⟩⟩⟩⟩⟩⟩ := hK
  obtain ⟨_, _, _, ⟨m5, f5⟩, ⟨m8, f8⟩, ⟨m9, f9⟩, ⟨m10, f10⟩, _, _, _, ⟨m14, _⟩, ⟨m15, f15⟩, ⟨m16, f16⟩, _⟩ := hw
  exact ⟨(⟨n0, o, b2, n3, n4, x5, n6, n7, x8, x9, x10, L, T, n13, x14, x15, x16, n17⟩ : RecL), ⟨[.int .i64 n0], [.int .i64 o, .bool b2, .int .i64 n3, .int .i64 n4, .slice A5 x5.length c5, .int .i64 n6, .int .i64 n7, .slice A8 x8.length c8, .slice A9 x9.length c9, .slice A10 x10.length c10, .bool L, .bool T, .int .i64 n13, .slice A14 x14.length c14, .slice A15 x15.length c15, .slice A16 x16.length c16, .int .i64 n17], rfl, rfl, ⟨[.int .i64 o], [.bool b2, .int .i64 n3, .int .i64 n4, .slice A5 x5.length c5, .int .i64 n6, .int .i64 n7, .slice A8 x8.length c8, .slice A9 x9.length c9, .slice A10 x10.length c10, .bool L, .bool T, .int .i64 n13, .slice A14 x14.length c14, .slice A15 x15.length c15, .slice A16 x16.length c16, .int .i64 n17], rfl, rfl, ⟨[.bool b2], [.int .i64 n3, .int .i64 n4, .slice A5 x5.length c5, .int .i64 n6, .int .i64 n7, .slice A8 x8.length c8, .slice A9 x9.length c9, .slice A10 x10.length c10, .bool L, .bool T, .int .i64 n13, .slice A14 x14.length c14, .slice A15 x15.length c15, .slice A16 x16.length c16, .int .i64 n17], rfl, rfl, ⟨[.int .i64 n3], [.int .i64 n4, .slice A5 x5.length c5, .int .i64 n6, .int .i64 n7, .slice A8 x8.length c8, .slice A9 x9.length c9, .slice A10 x10.length c10, .bool L, .bool T, .int .i64 n13, .slice A14 x14.length c14, .slice A15 x15.length c15, .slice A16 x16.length c16, .int .i64 n17], rfl, rfl, ⟨[.int .i64 n4], [.slice A5 x5.length c5, .int .i64 n6, .int .i64 n7, .slice A8 x8.length c8, .slice A9 x9.length c9, .slice A10 x10.length c10, .bool L, .bool T, .int .i64 n13, .slice A14 x14.length c14, .slice A15 x15.length c15, .slice A16 x16.length c16, .int .i64 n17], rfl, rfl, ⟨[.slice A5 x5.length c5], [.int .i64 n6, .int .i64 n7, .slice A8 x8.length c8, .slice A9 x9.length c9, .slice A10 x10.length c10, .bool L, .bool T, .int .i64 n13, .slice A14 x14.length c14, .slice A15 x15.length c15, .slice A16 x16.length c16, .int .i64 n17], rfl, ⟨A5, c5, rfl, l5, g5⟩, ⟨[.int .i64 n6], [.int .i64 n7, .slice A8 x8.length c8, .slice A9 x9.length c9, .slice A10 x10.length c10, .bool L, .bool T, .int .i64 n13, .slice A14 x14.length c14, .slice A15 x15.length c15, .slice A16 x16.length c16, .int .i64 n17], rfl, rfl, ⟨[.int .i64 n7], [.slice A8 x8.length c8, .slice A9 x9.length c9, .slice A10 x10.length c10, .bool L, .bool T, .int .i64 n13, .slice A14 x14.length c14, .slice A15 x15.length c15, .slice A16 x16.length c16, .int .i64 n17], rfl, rfl, ⟨[.slice A8 x8.length c8], [.slice A9 x9.length c9, .slice A10 x10.length c10, .bool L, .bool T, .int .i64 n13, .slice A14 x14.length c14, .slice A15 x15.length c15, .slice A16 x16.length c16, .int .i64 n17], rfl, ⟨A8, c8, rfl, l8, g8⟩, ⟨[.slice A9 x9.length c9], [.slice A10 x10.length c10, .bool L, .bool T, .int .i64 n13, .slice A14 x14.length c14, .slice A15 x15.length c15, .slice A16 x16.length c16, .int .i64 n17], rfl, ⟨A9, c9, rfl, l9, g9⟩, ⟨[.slice A10 x10.length c10], [.bool L, .bool T, .int .i64 n13, .slice A14 x14.length c14, .slice A15 x15.length c15, .slice A16 x16.length c16, .int .i64 n17], rfl, ⟨A10, c10, rfl, l10, g10⟩, ⟨[.bool L], [.bool T, .int .i64 n13, .slice A14 x14.length c14, .slice A15 x15.length c15, .slice A16 x16.length c16, .int .i64 n17], rfl, rfl, ⟨[.bool T], [.int .i64 n13, .slice A14 x14.length c14, .slice A15 x15.length c15, .slice A16 x16.length c16, .int .i64 n17], rfl, rfl, ⟨[.int .i64 n13], [.slice A14 x14.length c14, .slice A15 x15.length c15, .slice A16 x16.length c16, .int .i64 n17], rfl, rfl, ⟨[.slice A14 x14.length c14], [.slice A15 x15.length c15, .slice A16 x16.length c16, .int .i64 n17], rfl, ⟨A14, c14, rfl, l14, g14⟩, ⟨[.slice A15 x15.length c15], [.slice A16 x16.length c16, .int .i64 n17], rfl, ⟨A15, c15, rfl, l15, g15⟩, ⟨[.slice A16 x16.length c16], [.int .i64 n17], rfl, ⟨A16, c16, rfl, l16, g16⟩, rfl⟩⟩⟩⟩⟩⟩⟩⟩⟩⟩⟩⟩⟩⟩⟩⟩⟩, ⟨m5, f5, m8, f8, m9, f9, m10, f10, m14, m15, f15, m16, f16⟩⟩
theorem oFix : Opens Try.prog 72 k72 (fun x => x.f1.size ≤ maxLen) :=
  (opens_iso (f := fun x : S72 => (x.f0, x.f1)) (fun a => ⟨a.1, a.2⟩) (fun _ => rfl) (opens_struct Try.underlying72 (by kernel_rfl) (opensFs_cons rfl (by kernel_rfl) (opens_int Try.underlying3) (by decide) (opensFs_one rfl (by kernel_rfl) (opens_string Try.underlying9))))).imp (fun _ h => h.2)
set_option maxRecDepth 100000 in
theorem oWorld : Opens Try.prog 26 (Kd.pair (Kd.slice 67 kL) (Kd.pair (Kd.slice 70 k70) (Kd.slice 72 k72))) (fun x => (x.1.length ≤ maxLen ∧ ∀ y ∈ x.1, WFr y) ∧ (x.2.1.length ≤ maxLen ∧ ∀ y ∈ x.2.1, y.f6.size ≤ maxLen ∧ y.f7.length ≤ maxLen ∧ ∀ z ∈ y.f7, z.f1.size ≤ maxLen) ∧ (x.2.2.length ≤ maxLen ∧ ∀ y ∈ x.2.2, y.f1.size ≤ maxLen)) :=
  (opens_struct Try.underlying26 (by kernel_rfl) (opensFs_cons rfl (by kernel_rfl) (opens_slice Try.underlying22 (by kernel_rfl) oRecL) (by decide) (opensFs_cons rfl (by kernel_rfl) (opens_slice Try.underlying23 (by kernel_rfl) oMsg) (by decide) (opensFs_one rfl (by kernel_rfl) (opens_slice Try.underlying24 (by kernel_rfl) oFix)))))

set_option maxRecDepth 100000 in
theorem lifted (os : Os) (started : os.Started) (H : Type) (enc : TypeId × Value → H) :
    ReturnsInHanded {} Try.checked os 3 .any (Rows.fnExactRecWorldOkSpec.pre6 enc Try.prog Try.f3 Rows.fnExactRecWorldOkRow.domain false) (Rows.fnExactRecWorldOkSpec.post enc Try.prog Try.f3 false true false false) := by
  refine returnsInHanded_of_change_sized (C := Try.checked) own started (by kernel_rfl) Try.func3
    (ChangeSpec.witness6 (enc := enc) (C := Try.checked) false ⟨#[], #[.agg #[.slice none 0 0, .slice none 0 0, .slice none 0 0]], []⟩ 8 (by kernel_rfl) (by kernel_rfl) (by kernel_rfl) (by kernel_rfl)) ?_
  intro W base args ds gs before hval0 hW hcnd hsz0 _
  have hval : ∀ (j : Nat) t v, Try.f3.params[j]? = some t → args[j]? = some v → Value.okWide Try.prog W .any base t v := hval0
  have hW' := hW
  have hlt := hW'.lt
  obtain ⟨p, q, hA0, hV, rfl, hfz, hnd⟩ := hW
  have hA : DataW.TrodAll enc Try.prog W 0 (fun _ => true) true Try.f3.params.toList args.toList ds p := hA0
  rw [Try.params3] at hA hval
  obtain ⟨v0, vs0, d0, ds0, p0, q0, hargs, rfl, rfl, h0, r0⟩ := trodAll_cons hA
  obtain ⟨rfl, rfl, rfl⟩ := trodAll_nil r0
  obtain rfl : args = #[v0] := by cases args; simp_all
  obtain ⟨rfl, rfl⟩ := trodVars_none hV
  have h0k := h0
  obtain ⟨fuel, h0⟩ := h0
  obtain ⟨⟨xs, ms, fs⟩, hK, hw⟩ := oWorld.out enc W fuel _ _ h0
  obtain ⟨_, _, hcs, ⟨A, c, rfl, l1, h1⟩, ⟨_, _, rfl, ⟨B, d, rfl, l2, h2⟩, ⟨C, e, rfl, l3, h3⟩⟩⟩ := hK
  obtain ⟨⟨m1, f1⟩, ⟨m2, f2⟩, ⟨m3, f3⟩⟩ := hw
  obtain rfl := agg_of Try.underlying26 (hval 0 26 v0 rfl rfl) hcs
  clear hA0 hval0 hsz0 h0
  refine (QFnExactRecWorldOk.law xs ms fs A B C c d e W h1 f1 h2 l2 m2 f2 h3 l3 m3 f3).mono fun e W' ⟨he, bel⟩ => ?_
  subst he
  exact ⟨_, rfl, _, _, _, [], _, [], hW', trodAll_mk1 (shut_bool Try.underlying4 _),
    trodAll_cons_mk (Below.trod laidOut (by kernel_rfl) (of_decide_eq_true (by kernel_rfl)) h0k bel (fun x hx => by simpa using hlt x (by simp [hx]))) trodAll_mk0, rfl, bel.frame _, fun h => by cases h⟩
theorem over : Rows.fnExactRecWorldOkRow.holds Try.pinned (OpenSpec.ofChange Rows.fnExactRecWorldOkSpec) :=
  OpenClaim.holds_of_wide 3 Try.f3 rfl rfl rfl rfl rfl rfl rfl ⟨rfl, rfl, rfl, rfl, rfl⟩ rfl rfl rfl rfl rfl (by kernel_rfl) Try.func3 (by kernel_rfl)
    (of_decide_eq_true (by kernel_rfl)) (by unfold Func.isWrapper; first | (rw [if_pos (by decide +kernel)]; kernel_rfl) | (rw [if_neg (by decide +kernel)]; exact ⟨rfl, rfl⟩))
    (fun os started H enc _ => lifted os started H enc)
end Go.Proofs.Ytjkhlhopfaapmaa.fnExactRecWorldOk
namespace Go.Proofs.Ytjkhlhopfaapmaa
/-- The row. -/
theorem fnExactRecWorldOk_holds : Rows.FnExactRecWorldOkSaid := fnExactRecWorldOk.over
end Go.Proofs.Ytjkhlhopfaapmaa
