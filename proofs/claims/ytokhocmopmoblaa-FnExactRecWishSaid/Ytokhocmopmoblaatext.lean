/- markText: a text told by its number. No condition. -/
import Derived.Test.YtokhocmopmoblaaSpTy
import Derived.Test.YtokhocmopmoblaaSpMore
import Derived.Laws.BytesArg
namespace Go.Proofs.Ytokhocmopmoblaa.Sp
open Go Go.RowKit
set_option linter.unusedVariables false
set_option linter.unusedSimpArgs false
set_option maxRecDepth 10000
set_option maxHeartbeats 4000000
section
variable {P : Program} {n : Nat} {ops : Array Oper} {Q : Exit → Act → World → Prop} {rest : List Oper} {E : Env} {w0 W : World} {L : List Asn} {d src dst e g t : Nat} {ty : TypeId} {pos : String} {after : Array Edge} {x y : Operand} {s s' : ByteArray} {xt yt : TypeId} {k k' : IntKind} {m : Int} {us : TypeDesc}
theorem p_concat (hx : ev E x = some (.string s)) (hy : ev E y = some (.string s')) (hl : (s.size : Int) + s'.size ≤ 9223372036854775807) : PV P E (.binOp .add xt x y yt) (.string (s ++ s')) := ⟨fun n a ha dst ty pos after gd W => by simp [execOp, ha.eval hx, ha.eval hy, eqGuard, binOp, Op.stringOp, hl]⟩
theorem p_convi [hs : Und P src us] [hd : Und P dst (.int k')] (hx : ev E x = some (.int k m)) : PV P E (.convert src dst x) (.int k' (k'.wrap m)) := ⟨fun n a ha dst ty pos after gd W => by
  simp [execOp, ha.eval hx, convert, underlying, hs.out, hd.out, Conv.intToInt]⟩
theorem s_convb [hs : Und P src (.slice e)] [he : Und P e (.int .u8)] [hd : Und P dst .string] [hB : BoxAt L g t [.int .u8 m]] (hm : Mem w0 W L) (hx : ev E x = some (.slice (some ⟨g, 0, none⟩) 1 1)) (hn : Nat.blt d n = true)
    (h : WL P n ops Q rest ((d, .string (strOfNums [m])) :: E) W) : WL P n ops Q (⟨some d, .convert src dst x, ty, pos, after, none⟩ :: rest) E W := by
  have hrun := run_convert_bytes_arg (P := P) W src e hs.out he.out g 0 1 1 [m] rfl (fun i hi => by
    obtain rfl : i = 0 := by omega
    rw [cell_of_row W g _ _ t (0, 0) hm.heap]; rfl) dst hd.out
  exact s_run rfl rfl hn (fun a ha => by simp [execOp, ha.eval hx, hrun]) h
end
def mtGo : Nat → Nat → ByteArray → ByteArray
  | 0, _, o => o
  | f + 1, k, o => if k = 0 then o else mtGo f (k / 10) (strOfNums [IntKind.u8.wrap (48 + ((k % 10 : Nat) : Int))] ++ o)
theorem mtGo_fuel : ∀ (f k : Nat) (o : ByteArray), k ≤ f → mtGo f k o = mtGo k k o
  | 0, k, o, h => by obtain rfl : k = 0 := by omega
                     rfl
  | f + 1, 0, o, h => by simp [mtGo]
  | f + 1, k + 1, o, h => by
    have h1 : (k + 1) / 10 ≤ f := by omega
    have h2 : (k + 1) / 10 ≤ k := by omega
    simp only [mtGo, Nat.add_eq_zero_iff, Nat.succ_ne_zero, and_false, if_false]
    rw [mtGo_fuel f _ _ h1, mtGo_fuel k _ _ h2]
termination_by f => f
def mt (k : Nat) : ByteArray := ⟨#[109]⟩ ++ mtGo k k ⟨#[]⟩
theorem markText_c (k : Nat) (h0 : 0 < k) (h1 : k ≤ 9223372036854775000) {w0 W : World} {L : List Asn} (HM : Mem w0 W L) : Calls Try.prog 82 #[.int .i64 k] W fun e W' => e = .returned (.string (mt k)) ∧ Mem w0 W' L := by
  refine enter Try.func82 rfl Try.ntmps82 [(0, _)] rfl ⟨rfl, trivial⟩ ?_
  repeat (first | (refine gGP ?_; first | refine gp (p_move rfl) ?_ | refine gp (p_assign rfl) ?_ | (refine gGB ?_; refine gp (p_leq rfl rfl) ?_)) | (refine gL ?_; first | refine s_gp rfl rfl ?_ | refine l_nil ?_) | (refine gC ?_; first | refine c_seq ?_ | refine c_region ?_ | refine c_block ?_ | refine c_skip ?_ | refine c_no rfl (by first | rfl | (simp; omega)) ?_) | (refine gN ?_; refine n_then ?_))
  refine c_loop (σ := Nat × ByteArray) (fun s => [(0, .int .i64 s.1), (3, .string s.2)]) (fun s W1 => s.1 ≤ k ∧ s.2.size ≤ k - s.1 ∧ mtGo s.1 s.1 s.2 = mtGo k k ⟨#[]⟩ ∧ Mem w0 W1 L) (fun s => s.1) (k, ⟨#[]⟩) (by repeat (first | exact trivial | refine And.intro (by first | rfl | exact look_int rfl (by omega)) ?_)) ⟨Nat.le_refl _, Nat.zero_le _, rfl, HM⟩ ?_
  clear HM
  rintro ⟨j, o⟩ W1 ⟨hj, hsz, he, HM⟩
  dsimp only at hj hsz he HM ⊢
  by_cases hz : 0 < j
  · have e1 : IntKind.i64.wrap ((j : Int).tdiv 10) = ((j / 10 : Nat) : Int) := by
      rw [show (10 : Int) = ((10 : Nat) : Int) from rfl, ← Int.ofNat_tdiv]
      exact wr (by omega) (by omega)
    have e2 : (j : Int).tmod 10 = ((j % 10 : Nat) : Int) := by
      rw [show (10 : Int) = ((10 : Nat) : Int) from rfl, ← Int.ofNat_tmod]
    have hs1 : ∀ m : Int, (strOfNums [m]).size = 1 := fun m => rfl
    repeat (first | (refine gGB ?_; first | refine gp (p_quo rfl rfl (by decide) e1) ?_ | refine gp (p_rem rfl rfl (by decide) e2) ?_ | refine gp (p_concat rfl rfl (by rw [hs1]; omega)) ?_) | refine s_pv (p_convi rfl) rfl ?_ | refine s_convb HM rfl rfl ?_ | (refine gGP ?_; first | refine gp (p_move rfl) ?_ | refine gp (p_assign rfl) ?_ | (refine gGB ?_; first | refine gp (p_gtr rfl rfl) ?_ | refine gp (p_add rfl rfl (by exact wr (by omega) (by omega))) ?_)) | (refine gL ?_; first | refine s_gp rfl rfl ?_ | (refine s_lit1 HM rfl rfl rfl ?_; intro g W1 HM1; clear HM; have HM := HM1; clear HM1) | refine l_nil ?_) | (refine gC ?_; first | refine c_seq ?_ | refine c_region ?_ | refine c_block ?_ | refine c_skip ?_ | refine c_yes rfl (by (simp; omega)) ?_) | (refine gN ?_; first | refine n_then ?_ | refine n_block ?_))
    refine n_round (j / 10, _) (by repeat (first | exact trivial | refine And.intro (by first | rfl | exact look_int rfl (by omega)) ?_)) ⟨by simp only; omega, by simp only [ByteArray.size_append, hs1]; omega, ?_, HM.sb⟩ (by simp only; omega)
    obtain ⟨i, rfl⟩ : ∃ i, j = i + 1 := ⟨j - 1, by omega⟩
    rw [← he, mtGo, if_neg (by omega)]
    exact (mtGo_fuel i _ _ (by omega)).symm
  · obtain rfl : j = 0 := by omega
    repeat (first | (refine gGB ?_; refine gp (p_concat rfl rfl (by rw [show ByteArray.size ⟨#[109]⟩ = 1 from rfl]; omega)) ?_) | (refine gGP ?_; first | refine gp (p_move rfl) ?_ | refine gp (p_assign rfl) ?_ | (refine gGB ?_; refine gp (p_gtr rfl rfl) ?_)) | (refine gL ?_; first | refine s_gp rfl rfl ?_ | refine l_nil ?_) | (refine gC ?_; first | refine c_seq ?_ | refine c_region ?_ | refine c_exit ?_ | refine c_ret ?_ | refine c_no rfl (by rfl) ?_) | (refine gN ?_; first | refine n_then ?_ | refine x_then ?_ | refine x_here ?_))
    exact ret_tmp rfl rfl ⟨by rw [mt, ← he]; rfl, HM⟩
end Go.Proofs.Ytokhocmopmoblaa.Sp
