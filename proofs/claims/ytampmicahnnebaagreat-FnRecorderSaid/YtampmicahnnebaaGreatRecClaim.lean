/- At every code the law FnRecorder of the program returns true, and the code reads as it did; no condition. -/
import Derived.Test.YtampmicahnnebaaGreatRows
import Derived.Test.YtampmicahnnebaaGreatRecClaim19
import Derived.WalkKit
import Derived.ProofKit
import Derived.OpenShut
import Derived.ShutString
import Derived.ChangeOld
import Derived.Below
import Derived.Carry
import Derived.SizedLaws
set_option linter.unusedVariables false
set_option linter.unusedSimpArgs false
namespace Go.Proofs.YtampmicahnnebaaGreat.fnRecorder
open Go.ChangeShapes Go.WideShapes Go.ChangeAt Go.RowKit
open Go.ChangeMaps (open_string shut_string)
theorem opU8 {P : Program} {t : Nat} (ht : P.underlying t = some (.int .u8)) : Sp.OpP P t 1 (fun w cs=>∃ n : Int,Sp.rByte.R w n cs):=⟨fun enc w fuel cs x hx=>by
  obtain ⟨n,rfl,_,hw⟩:=DataW.trod_int ht hx
  have h2 : 0 ≤ n ∧ n < 256:=by
    have h3 : IntKind.u8.min = 0:=rfl
    have h4 : IntKind.u8.max = 255:=rfl
    simp [Lit.wf] at hw
    omega
  exact ⟨n,(),rfl,h2⟩⟩
theorem opSliceC {α : Type} {P : Program} {t e : Nat} {D : Sp.TyR α} (ht : P.underlying t = some (.slice e)) (hc : P.cellsOf e = D.sz) (he : Sp.OpP P e D.sz (fun w cs=>∃ x,D.R w x cs)) :
    Sp.OpP P t 1 (fun w cs=>∃ (xs : List α) (A : Option Addr) (c : Nat),cs = [.slice A xs.length c] ∧ Sp.RoRow D w A xs ∧ xs.length ≤ c):=⟨fun enc w fuel cs x hx=>by
  obtain ⟨xs,A,c,h1,h2⟩:=(Sp.opSlice ht hc he).out enc w fuel cs x hx
  rcases DataW.trod_slice ht hx with ⟨h3,_⟩|⟨a,len,cap,elems,rest,n,_,h3,_,_,hlc,_⟩
  · refine ⟨xs,A,c,h1,h2,?_⟩
    rw [h1] at h3
    injection h3 with h3 _
    injection h3 with _ h4 _
    omega
  · refine ⟨xs,A,c,h1,h2,?_⟩
    rw [h1] at h3
    injection h3 with h3 _
    injection h3 with _ h4 h5
    omega⟩
theorem own : ownKnob Tryz.prog.godebug = none:=by kernel_rfl
theorem laidOut : laidOutB Tryz.prog = true:=by kernel_rfl
set_option maxRecDepth 100000 in
theorem lifted (os : Os) (started : os.Started) (H : Type) (enc : TypeId × Value → H) :
    ReturnsInHanded {} Tryz.checked os 3 .any (Rows.fnRecorderSpec.pre6 enc Tryz.prog Tryz.f3 Rows.fnRecorderRow.domain false) (Rows.fnRecorderSpec.post enc Tryz.prog Tryz.f3 false true false false):=by
  refine returnsInHanded_of_change_sized (C:=Tryz.checked) own started (by kernel_rfl) Tryz.func3
    (ChangeSpec.witness6 (enc:=enc) (C:=Tryz.checked) false ⟨#[],#[.slice none 0 0],[]⟩ 8 (by kernel_rfl) (by kernel_rfl) (by kernel_rfl) (by kernel_rfl)) ?_
  intro W base args ds gs before hval0 hW hcnd hsz0 _
  have hval : ∀ (j : Nat) t v,Tryz.f3.params[j]? = some t → args[j]? = some v → Value.okWide Tryz.prog W .any base t v:=hval0
  have hW':=hW
  have hlt:=hW'.lt
  obtain ⟨p,q,hA0,hV,rfl,hfz,hnd⟩:=hW
  have hA : DataW.TrodAll enc Tryz.prog W 0 (fun _=>true) true Tryz.f3.params.toList args.toList ds p:=hA0
  rw [Tryz.params3] at hA hval
  obtain ⟨v0,vs0,d0,ds0,p0,q0,hargs,rfl,rfl,h0,r0⟩:=trodAll_cons hA
  obtain ⟨rfl,rfl,rfl⟩:=trodAll_nil r0
  obtain rfl : args = #[v0]:=by cases args;simp_all
  obtain ⟨rfl,rfl⟩:=trodVars_none hV
  have h0k:=h0
  obtain ⟨fuel,h0⟩:=h0
  obtain ⟨bs,A,c,hcs,hro,hcap⟩:=(opSliceC (D:=Sp.rByte) Tryz.underlying22 (by kernel_rfl) (opU8 Tryz.underlying5)).out enc W fuel _ _ h0
  obtain ⟨a0,l0,c0,rfl⟩:=okWide_slice Tryz.underlying22 (hval 0 22 v0 rfl rfl)
  have hcs2 : [Value.slice a0 l0 c0] = [Value.slice A bs.length c]:=hcs
  injection hcs2 with hcs3 _
  injection hcs3 with e1 e2 e3
  subst e1
  subst e2
  subst e3
  clear hA0 hval0 hsz0 h0
  refine (Sp.law W hro hcap).mono fun e W' ⟨he,bel⟩=>?_
  subst he
  exact ⟨_,rfl,_,_,_,[],_,[],hW',trodAll_mk1 (shut_bool Tryz.underlying4 _),
    trodAll_cons_mk (Below.trod laidOut (by kernel_rfl) (of_decide_eq_true (by kernel_rfl)) h0k bel (fun x hx=>by simpa using hlt x (by simp [hx]))) trodAll_mk0,rfl,bel.frame _,fun h=>by cases h⟩
theorem over : Rows.fnRecorderRow.holds Tryz.pinned (OpenSpec.ofChange Rows.fnRecorderSpec) :=
  OpenClaim.holds_of_wide 3 Tryz.f3 rfl rfl rfl rfl rfl rfl rfl ⟨rfl,rfl,rfl,rfl,rfl⟩ rfl rfl rfl rfl rfl (by kernel_rfl) Tryz.func3 (by kernel_rfl)
    (of_decide_eq_true (by kernel_rfl)) (by unfold Func.isWrapper;first|(rw [if_pos (by decide +kernel)];kernel_rfl)|(rw [if_neg (by decide +kernel)];exact ⟨rfl,rfl⟩))
    (fun os started H enc _=>lifted os started H enc)
end Go.Proofs.YtampmicahnnebaaGreat.fnRecorder
namespace Go.Proofs.YtampmicahnnebaaGreat
theorem fnRecorder_holds : Rows.FnRecorderSaid:=fnRecorder.over
end Go.Proofs.YtampmicahnnebaaGreat
