/- RecNew of the program and of the reference give one recorder at every two numbers, and it owns its memory (the walks that the print does not take, and the law). -/
import Derived.Test.YthnmdbjjfjkfmaaPFnExactRecNewx
import Derived.Test.YthnmdbjjfjkfmaaOpen
import Derived.Test.YthnmdbjjfjkfmaaPb
import Derived.Test.YthnmdbjjfjkfmaaWk
namespace Go.Proofs.Ythnmdbjjfjkfmaa.QFnExactRecNew
open Go.RowKit Go.Proofs.Ythnmdbjjfjkfmaa.PFnExactRecNew Go.Proofs.YthnmdbjjfjkfmaaW.PrintWords Go.Proofs.YthnmdbjjfjkfmaaW.PrintLast Go.Proofs.YthnmdbjjfjkfmaaW.PrintMore Go.Proofs.Ythnmdbjjfjkfmaa.Pb Go.Proofs.Ythnmdbjjfjkfmaa.Op Go.Proofs.Ythnmdbjjfjkfmaa.Wk
set_option linter.unusedSimpArgs false
set_option linter.unusedVariables false

theorem l1In (a b c : Int) : spec_l1In.f a b c = some (decide (b ≤ a ∧ a ≤ c)) := by
  unfold spec_l1In.f
  by_cases h : a ≥ b
  · rw [if_pos h]; simp only [ge_iff_le] at h; simp [h]
  · rw [if_neg h]; simp only [ge_iff_le] at h; simp [h]
theorem within (a b c : Int) : impl_within.f a b c = some (decide (b ≤ a ∧ a ≤ c)) := by
  unfold impl_within.f
  by_cases h : a ≥ b
  · rw [if_pos h]; simp only [ge_iff_le] at h; simp [h]
  · rw [if_neg h]; simp only [ge_iff_le] at h; simp [h]

theorem l1InC (a b c : Int) (r : Bool) (w : World) (h : spec_l1In.f a b c = some r) : Calls Try.prog 61 #[.int .i64 a, .int .i64 b, .int .i64 c] w fun e w' => e = .returned (.bool r) ∧ Below w.heap.size w w' :=
  (spec_l1In.calls a b c r w h).mono fun _ _ ⟨h1, h2⟩ => ⟨h1, h2.below⟩
theorem withinC (a b c : Int) (r : Bool) (w : World) (h : impl_within.f a b c = some r) : Calls Try.prog 62 #[.int .i64 a, .int .i64 b, .int .i64 c] w fun e w' => e = .returned (.bool r) ∧ Below w.heap.size w w' :=
  (impl_within.calls a b c r w h).mono fun _ _ ⟨h1, h2⟩ => ⟨h1, h2.below⟩

/-! ### slots that are one and the same -/
theorem eqSlotS (xs : List S96) (hl : xs.length ≤ 9223372036854775807) (k : Nat) (hk : xs.length < k) : laws_eqRecSlotS.f k xs xs = some true := by
  unfold laws_eqRecSlotS.f
  rw [if_pos rfl]
  refine loopInd xs.length (fun k i => laws_eqRecSlotS.l0 k xs xs (i : Int) = some true) ?_ ?_ 0 k (Nat.zero_le _) (by omega)
  · intro k
    simp only [laws_eqRecSlotS.l0]
    rw [if_neg (by omega)]
  · intro k i hi ih
    simp only [laws_eqRecSlotS.l0]
    rw [if_pos (by omega), if_pos (by omega), if_pos (by omega), wrapSucc hi (by omega)]
    unfold laws_eqRecSlot.f
    simp only [if_true, Option.bind_some]
    exact ih

/-! ### what is one and the same -/
theorem eqStrS (xs : List ByteArray) (hl : xs.length ≤ 9223372036854775807) (k : Nat) (hk : xs.length < k) : laws_eqStringS.f k xs xs = some true := by
  unfold laws_eqStringS.f
  rw [if_pos rfl]
  refine loopInd xs.length (fun k i => laws_eqStringS.l0 k xs xs (i : Int) = some true) ?_ ?_ 0 k (Nat.zero_le _) (by omega)
  · intro k
    simp only [laws_eqStringS.l0]
    rw [if_neg (by omega)]
  · intro k i hi ih
    simp only [laws_eqStringS.l0]
    rw [if_pos (by omega), if_pos (by omega), if_pos (by omega), if_pos trivial, wrapSucc hi (by omega)]
    exact ih
theorem eqNumS (xs : List Int) (hl : xs.length ≤ 9223372036854775807) (k : Nat) (hk : xs.length < k) : laws_eqIntS.f k xs xs = some true := by
  unfold laws_eqIntS.f
  rw [if_pos rfl]
  refine loopInd xs.length (fun k i => laws_eqIntS.l0 k xs xs (i : Int) = some true) ?_ ?_ 0 k (Nat.zero_le _) (by omega)
  · intro k
    simp only [laws_eqIntS.l0]
    rw [if_neg (by omega)]
  · intro k i hi ih
    simp only [laws_eqIntS.l0]
    rw [if_pos (by omega), if_pos (by omega), if_pos (by omega), if_pos trivial, wrapSucc hi (by omega)]
    exact ih
theorem eqAckS (xs : List S119) (hl : xs.length ≤ 9223372036854775807) (hx : ∀ x ∈ xs, x.f1.length ≤ 9223372036854775807) : ∃ K, ∀ k, K ≤ k → laws_eqRecAckS.f k xs xs = some true := by
  obtain ⟨K, hK⟩ := uniform (P := fun k (x : S119) => laws_eqRecAck.f k x.f0 x.f1 x.f0 x.f1 = some true) (fun k x h => laws_eqRecAck.mono _ _ _ _ k _ h) xs (fun x hm => ⟨x.f1.length + 1, by
    unfold laws_eqRecAck.f
    rw [eqNumS x.f1 (hx x hm) _ (by omega)]
    simp⟩)
  refine ⟨xs.length + K + 1, fun k hk => ?_⟩
  unfold laws_eqRecAckS.f
  rw [if_pos rfl]
  refine loopIndB xs.length K (fun k i => laws_eqRecAckS.l0 k xs xs (i : Int) = some true) ?_ ?_ 0 k (Nat.zero_le _) (by omega)
  · intro k
    simp only [laws_eqRecAckS.l0]
    rw [if_neg (by omega)]
  · intro k i hi hk ih
    simp only [laws_eqRecAckS.l0]
    rw [if_pos (by omega), if_pos (by omega), if_pos (by omega), wrapSucc hi (by omega)]
    unfold rd_T119
    rw [getDAt hi, hK k hk _ (List.getElem_mem hi)]
    simp only [Option.bind_some, if_true]
    exact ih
theorem eqMsgS (xs : List S47) (hl : xs.length ≤ 9223372036854775807) (hx : ∀ x ∈ xs, x.f7.length ≤ 9223372036854775807) : ∃ K, ∀ k, K ≤ k → laws_eqRecMessageS.f k xs xs = some true := by
  obtain ⟨K, hK⟩ := uniform (P := fun k (x : S47) => laws_eqRecMessage.f k x.f0 x.f1 x.f2 x.f3 x.f4 x.f5 x.f6 x.f7 x.f0 x.f1 x.f2 x.f3 x.f4 x.f5 x.f6 x.f7 = some true) (fun k x h => laws_eqRecMessage.mono _ _ _ _ _ _ _ _ _ _ _ _ _ _ _ _ k _ h) xs (fun x hm => ⟨x.f7.length + 1, by
    unfold laws_eqRecMessage.f
    rw [eqSlotS x.f7 (hx x hm) _ (by omega)]
    simp⟩)
  refine ⟨xs.length + K + 1, fun k hk => ?_⟩
  unfold laws_eqRecMessageS.f
  rw [if_pos rfl]
  refine loopIndB xs.length K (fun k i => laws_eqRecMessageS.l0 k xs xs (i : Int) = some true) ?_ ?_ 0 k (Nat.zero_le _) (by omega)
  · intro k
    simp only [laws_eqRecMessageS.l0]
    rw [if_neg (by omega)]
  · intro k i hi hk ih
    simp only [laws_eqRecMessageS.l0]
    rw [if_pos (by omega), if_pos (by omega), if_pos (by omega), wrapSucc hi (by omega)]
    unfold rd_T47
    rw [getDAt hi, hK k hk _ (List.getElem_mem hi)]
    simp only [Option.bind_some, if_true]
    exact ih
theorem eqDisk (p n : Int) (xs : List S96) (hl : xs.length ≤ 9223372036854775807) : laws_eqRecDisk.f (xs.length + 1) p n xs p n xs = some true := by
  unfold laws_eqRecDisk.f
  rw [eqSlotS xs hl _ (by omega)]
  simp

/-! ### recorders that are one and the same: the machine's side -/
/-- A slice's value that reads as a list. -/
def Sl {α : Type} (e : Nat) (d : Kd α) (w : World) (x : List α) (v : Value) : Prop := ∃ A c, v = .slice A x.length c ∧ x.length ≤ c ∧ d.C w A x.length x
theorem Sl.below {α : Type} {e : Nat} {d : Kd α} {w w1 : World} {x : List α} {v : Value} (h : Sl e d w x v) (hb : Below w.heap.size w w1) : Sl e d w1 x v := by
  obtain ⟨A, c, h1, h2, h3⟩ := h
  exact ⟨A, c, h1, h2, Kd.C_below h3 hb⟩
theorem Sl.of_R {α : Type} {e : Nat} {d : Kd α} {w : World} {base : Nat} {ok : Nat → Prop} {x : List α} {v : Value} (h : d.R e w base ok v x) : Sl e d w x v := Kd.R_reads h
theorem Sl.of_S {α : Type} {e : Nat} {d : Kd α} {w : World} {base : Nat} {ok : Nat → Prop} {x : List α} {v : Value} (h : d.S e w base ok v x) : Sl e d w x v := Kd.S_reads h
theorem msgBound {w : World} {A : Option Addr} {n : Nat} {xs : List S47} (h : Kd.C k47 w A n xs) : ∀ x ∈ xs, x.f7.length ≤ 9223372036854775807 := by
  intro x hx
  obtain ⟨j, hj, rfl⟩ := List.getElem_of_mem hx
  obtain ⟨_, _, hr⟩ := h
  obtain ⟨ad, _, hc⟩ := hr (by omega)
  obtain ⟨c, _, hK, _⟩ := hc j _ (List.getElem?_eq_getElem hj)
  obtain ⟨_, _, _, _, hC⟩ := k47_open hK
  exact hC.2.1
theorem ackBound {w : World} {A : Option Addr} {n : Nat} {xs : List S119} (h : Kd.C k119 w A n xs) : ∀ x ∈ xs, x.f1.length ≤ 9223372036854775807 := by
  intro x hx
  obtain ⟨j, hj, rfl⟩ := List.getElem_of_mem hx
  obtain ⟨hn, _, hr⟩ := h
  obtain ⟨ad, _, hc⟩ := hr (by omega)
  obtain ⟨c, _, hK, _⟩ := hc j _ (List.getElem?_eq_getElem hj)
  obtain ⟨_, _, _, _, hC⟩ := k119_open hK
  exact hC.2.1

theorem eqDiskC (p n : Int) (xs : List S96) (A A' : Option Addr) (c c' : Nat) (w : World) (h1 : Kd.C k96 w A xs.length xs) (h2 : Kd.C k96 w A' xs.length xs) (hc : xs.length ≤ c) (hc' : xs.length ≤ c') :
    Calls Try.prog 28 #[.agg #[.int .i64 p, .int .i64 n, .slice A xs.length c], .agg #[.int .i64 p, .int .i64 n, .slice A' xs.length c']] w fun e w' => e = .returned (.bool true) ∧ Below w.heap.size w w' :=
  laws_eqRecDisk.calls _ p n A c xs p n A' c' xs true w h1 hc h2 hc' (eqDisk p n xs h1.2.1)
theorem eqSlotC (xs : List S96) (A A' : Option Addr) (c c' : Nat) (w : World) (h1 : Kd.C k96 w A xs.length xs) (h2 : Kd.C k96 w A' xs.length xs) (hc : xs.length ≤ c) (hc' : xs.length ≤ c') :
    Calls Try.prog 21 #[.slice A xs.length c, .slice A' xs.length c'] w fun e w' => e = .returned (.bool true) ∧ Below w.heap.size w w' :=
  laws_eqRecSlotS.calls _ A c xs A' c' xs true w h1 hc h2 hc' (eqSlotS xs h1.2.1 _ (Nat.lt_succ_self _))
theorem eqMsgC (xs : List S47) (A A' : Option Addr) (c c' : Nat) (w : World) (h1 : Kd.C k47 w A xs.length xs) (h2 : Kd.C k47 w A' xs.length xs) (hc : xs.length ≤ c) (hc' : xs.length ≤ c') :
    Calls Try.prog 70 #[.slice A xs.length c, .slice A' xs.length c'] w fun e w' => e = .returned (.bool true) ∧ Below w.heap.size w w' := by
  obtain ⟨K, hK⟩ := eqMsgS xs h1.2.1 (msgBound h1)
  exact laws_eqRecMessageS.calls K A c xs A' c' xs true w h1 hc h2 hc' (hK K (Nat.le_refl _))
theorem eqAckC (xs : List S119) (A A' : Option Addr) (c c' : Nat) (w : World) (h1 : Kd.C k119 w A xs.length xs) (h2 : Kd.C k119 w A' xs.length xs) (hc : xs.length ≤ c) (hc' : xs.length ≤ c') :
    Calls Try.prog 72 #[.slice A xs.length c, .slice A' xs.length c'] w fun e w' => e = .returned (.bool true) ∧ Below w.heap.size w w' := by
  obtain ⟨K, hK⟩ := eqAckS xs h1.2.1 (ackBound h1)
  exact laws_eqRecAckS.calls K A c xs A' c' xs true w h1 hc h2 hc' (hK K (Nat.le_refl _))
theorem eqStrC (xs : List ByteArray) (A A' : Option Addr) (c c' : Nat) (w : World) (h1 : Kd.C Kd.string w A xs.length xs) (h2 : Kd.C Kd.string w A' xs.length xs) (hc : xs.length ≤ c) (hc' : xs.length ≤ c') :
    Calls Try.prog 50 #[.slice A xs.length c, .slice A' xs.length c'] w fun e w' => e = .returned (.bool true) ∧ Below w.heap.size w w' :=
  (laws_eqStringS.calls _ A c xs A' c' xs true w h1 hc h2 hc' (eqStrS xs h1.2.1 _ (Nat.lt_succ_self _))).mono fun _ _ ⟨h, hd⟩ => ⟨h, hd.below⟩
theorem eqNumC (xs : List Int) (A A' : Option Addr) (c c' : Nat) (w : World) (h1 : Kd.C (Kd.int .i64) w A xs.length xs) (h2 : Kd.C (Kd.int .i64) w A' xs.length xs) (hc : xs.length ≤ c) (hc' : xs.length ≤ c') :
    Calls Try.prog 71 #[.slice A xs.length c, .slice A' xs.length c'] w fun e w' => e = .returned (.bool true) ∧ Below w.heap.size w w' :=
  (laws_eqIntS.calls _ A c xs A' c' xs true w h1 hc h2 hc' (eqNumS xs h1.2.1 _ (Nat.lt_succ_self _))).mono fun _ _ ⟨h, hd⟩ => ⟨h, hd.below⟩

set_option maxHeartbeats 8000000 in
set_option maxRecDepth 100000 in
theorem eqRecorderC (n0 n1 n3 n4 n6 n7 n13 n17 : Int) (b2 b11 b12 : Bool) (x5 x8 x15 : List S96) (x9 : List S47) (x10 : List ByteArray) (x14 : List Int) (x16 : List S119)
    (v5 v8 v9 v10 v14 v15 v16 u5 u8 u9 u10 u14 u15 u16 : Value) (w : World)
    (h5 : Sl 96 k96 w x5 v5) (h8 : Sl 96 k96 w x8 v8) (h9 : Sl 47 k47 w x9 v9) (h10 : Sl 9 Kd.string w x10 v10) (h14 : Sl 3 (Kd.int .i64) w x14 v14) (h15 : Sl 96 k96 w x15 v15) (h16 : Sl 119 k119 w x16 v16)
    (g5 : Sl 96 k96 w x5 u5) (g8 : Sl 96 k96 w x8 u8) (g9 : Sl 47 k47 w x9 u9) (g10 : Sl 9 Kd.string w x10 u10) (g14 : Sl 3 (Kd.int .i64) w x14 u14) (g15 : Sl 96 k96 w x15 u15) (g16 : Sl 119 k119 w x16 u16) :
    Calls Try.prog 36 #[.agg #[.int .i64 n0, .int .i64 n1, .bool b2, .int .i64 n3, .int .i64 n4, v5, .int .i64 n6, .int .i64 n7, v8, v9, v10, .bool b11, .bool b12, .int .i64 n13, v14, v15, v16, .int .i64 n17],
      .agg #[.int .i64 n0, .int .i64 n1, .bool b2, .int .i64 n3, .int .i64 n4, u5, .int .i64 n6, .int .i64 n7, u8, u9, u10, .bool b11, .bool b12, .int .i64 n13, u14, u15, u16, .int .i64 n17]] w fun e w' => e = .returned (.bool true) ∧ Below w.heap.size w w' := by
  have hu1 := Try.underlying56
  have hu2 := Try.underlying38
  obtain ⟨A5, c5, rfl, l5, C5⟩ := h5
  obtain ⟨A8, c8, rfl, l8, C8⟩ := h8
  obtain ⟨A9, c9, rfl, l9, C9⟩ := h9
  obtain ⟨A10, c10, rfl, l10, C10⟩ := h10
  obtain ⟨A14, c14, rfl, l14, C14⟩ := h14
  obtain ⟨A15, c15, rfl, l15, C15⟩ := h15
  obtain ⟨A16, c16, rfl, l16, C16⟩ := h16
  obtain ⟨B5, d5, rfl, m5, D5⟩ := g5
  obtain ⟨B8, d8, rfl, m8, D8⟩ := g8
  obtain ⟨B9, d9, rfl, m9, D9⟩ := g9
  obtain ⟨B10, d10, rfl, m10, D10⟩ := g10
  obtain ⟨B14, d14, rfl, m14, D14⟩ := g14
  obtain ⟨B15, d15, rfl, m15, D15⟩ := g15
  obtain ⟨B16, d16, rfl, m16, D16⟩ := g16
  have F := Aside0.mk (And.intro (And.intro (And.intro C5 l5) (And.intro C8 l8)) (And.intro (And.intro (And.intro C9 l9) (And.intro C10 l10)) (And.intro (And.intro C14 l14) (And.intro (And.intro C15 l15) (And.intro C16 l16)))))
  have G := Aside0.mk (And.intro (And.intro (And.intro D5 m5) (And.intro D8 m8)) (And.intro (And.intro (And.intro D9 m9) (And.intro D10 m10)) (And.intro (And.intro D14 m14) (And.intro (And.intro D15 m15) (And.intro D16 m16)))))
  clear C5 l5 C8 l8 C9 l9 C10 l10 C14 l14 C15 l15 C16 l16 D5 m5 D8 m8 D9 m9 D10 m10 D14 m14 D15 m15 D16 m16
  have HB := Aside0.mk (Below.refl w.heap.size w)
  go_enter Try.func36, Try.ntmps36
  go_wp2_with (first
    | ((with_reducible refine gate_dst (N := 2) rfl ?_); refine box_event ?hg (N := 2) ?hd (cs := #[.int .i64 n0, .int .i64 n1, .bool b2, .int .i64 n3, .int .i64 n4, .slice A5 x5.length c5, .int .i64 n6, .int .i64 n7, .slice A8 x8.length c8, .slice A9 x9.length c9, .slice A10 x10.length c10, .bool b11, .bool b12, .int .i64 n13, .slice A14 x14.length c14, .slice A15 x15.length c15, .slice A16 x16.length c16, .int .i64 n17]) (t := 56) ?hr ?_; (case hd => rfl); (case hg => rfl); (case hr => first | (go_simp; done) | (go_simp; rfl)); intro ga _hg w1 hbox hb; have n0_ := Aside0.mk (below_step HB.out hb); clear HB; have HB := n0_; clear n0_; have BA := Aside0.mk hbox; clear hb hbox _hg; have ra := blk_cell BA.out)
    | ((with_reducible refine gate_dst (N := 3) rfl ?_); refine box_event ?hg (N := 3) ?hd (cs := #[.int .i64 n0, .int .i64 n1, .bool b2, .int .i64 n3, .int .i64 n4, .slice B5 x5.length d5, .int .i64 n6, .int .i64 n7, .slice B8 x8.length d8, .slice B9 x9.length d9, .slice B10 x10.length d10, .bool b11, .bool b12, .int .i64 n13, .slice B14 x14.length d14, .slice B15 x15.length d15, .slice B16 x16.length d16, .int .i64 n17]) (t := 56) ?hr ?_; (case hd => rfl); (case hg => rfl); (case hr => first | (go_simp; done) | (go_simp; rfl)); intro gb _hg w2 hbox hb; have n0_ := Aside0.mk (below_step HB.out hb); have n1_ := Aside0.mk (blk_below BA.out hb); clear HB BA; have HB := n0_; have BA := n1_; clear n0_ n1_ ra; have BB := Aside0.mk hbox; clear hb hbox _hg; have ra := blk_cell BA.out; have rb := blk_cell BB.out)
    | ((first
        | (go_at_call 28; (first | (with_reducible refine (eqDiskC _ _ _ _ _ _ _ _ (Kd.C_below F.out.1.1.1 HB.out) (Kd.C_below G.out.1.1.1 HB.out) F.out.1.1.2 G.out.1.1.2).mono ?_) | (with_reducible refine (eqDiskC _ _ _ _ _ _ _ _ (Kd.C_below F.out.1.2.1 HB.out) (Kd.C_below G.out.1.2.1 HB.out) F.out.1.2.2 G.out.1.2.2).mono ?_)))
        | (go_at_call 70; (with_reducible refine (eqMsgC _ _ _ _ _ _ (Kd.C_below F.out.2.1.1.1 HB.out) (Kd.C_below G.out.2.1.1.1 HB.out) F.out.2.1.1.2 G.out.2.1.1.2).mono ?_))
        | (go_at_call 50; (with_reducible refine (eqStrC _ _ _ _ _ _ (Kd.C_below F.out.2.1.2.1 HB.out) (Kd.C_below G.out.2.1.2.1 HB.out) F.out.2.1.2.2 G.out.2.1.2.2).mono ?_))
        | (go_at_call 71; (with_reducible refine (eqNumC _ _ _ _ _ _ (Kd.C_below F.out.2.2.1.1 HB.out) (Kd.C_below G.out.2.2.1.1 HB.out) F.out.2.2.1.2 G.out.2.2.1.2).mono ?_))
        | (go_at_call 21; (with_reducible refine (eqSlotC _ _ _ _ _ _ (Kd.C_below F.out.2.2.2.1.1 HB.out) (Kd.C_below G.out.2.2.2.1.1 HB.out) F.out.2.2.2.1.2 G.out.2.2.2.1.2).mono ?_))
        | (go_at_call 72; (with_reducible refine (eqAckC _ _ _ _ _ _ (Kd.C_below F.out.2.2.2.2.1 HB.out) (Kd.C_below G.out.2.2.2.2.1 HB.out) F.out.2.2.2.2.2 G.out.2.2.2.2.2).mono ?_)));
       rintro e wn ⟨rfl, hb⟩; have n0_ := Aside0.mk (below_step HB.out hb); have n1_ := Aside0.mk (blk_below BA.out hb); have n2_ := Aside0.mk (blk_below BB.out hb); clear HB BA BB; have HB := n0_; have BA := n1_; have BB := n2_; clear n0_ n1_ n2_ ra rb; clear hb; have ra := blk_cell BA.out; have rb := blk_cell BB.out))
  go_ret
  exact ⟨rfl, HB.out⟩

/-! ### RecNew: the machine's side -/
set_option maxHeartbeats 4000000 in
set_option maxRecDepth 100000 in
theorem specNewYes (a o : Int) (w : World) (h1 : 1 ≤ o ∧ o ≤ 5) (h2 : 1 ≤ a ∧ a ≤ o) :
    Calls Try.prog 34 #[.int .i64 a, .int .i64 o] w fun e w' => e = .returned (.agg #[.int .i64 a, .int .i64 o, .bool true, .int .i64 0, .int .i64 0, .slice none 0 0, .int .i64 0, .int .i64 0, .slice none 0 0, .slice none 0 0, .slice none 0 0, .bool false, .bool false, .int .i64 0, .slice none 0 0, .slice none 0 0, .slice none 0 0, .int .i64 0]) ∧ Below w.heap.size w w' := by
  have hu1 := Try.underlying56
  have C1 := Aside0.mk (show spec_l1In.f o 1 5 = some true from by rw [l1In]; simp [h1])
  have C2 := Aside0.mk (show spec_l1In.f a 1 o = some true from by rw [l1In]; simp [h2])
  clear h1 h2
  have HB := Aside0.mk (Below.refl w.heap.size w)
  go_enter Try.func34, Try.ntmps34
  go_wp2_with (first
    | ((with_reducible refine gate_dst (N := 4) rfl ?_); refine box_event ?hg (N := 4) ?hd (cs := #[.int .i64 0, .int .i64 0, .bool false, .int .i64 0, .int .i64 0, .slice none 0 0, .int .i64 0, .int .i64 0, .slice none 0 0, .slice none 0 0, .slice none 0 0, .bool false, .bool false, .int .i64 0, .slice none 0 0, .slice none 0 0, .slice none 0 0, .int .i64 0]) (t := 56) ?hr ?_; (case hd => rfl); (case hg => rfl); (case hr => first | (go_simp; done) | (go_simp; rfl)); intro ga hga w1 hbox hb; have n0_ := Aside0.mk (below_step HB.out hb); clear HB; have HB := n0_; clear n0_; have GA := Aside0.mk (Nat.le_of_eq hga.symm); have BA := Aside0.mk hbox; clear hb hbox hga)
    | (go_at_call 61; (first | (with_reducible refine (l1InC o 1 5 _ _ C1.out).mono ?_) | (with_reducible refine (l1InC a 1 o _ _ C2.out).mono ?_)); rintro e wn ⟨rfl, hb⟩; have n0_ := Aside0.mk (below_step HB.out hb); have n1_ := Aside0.mk (blk_below BA.out hb); clear HB BA; have HB := n0_; have BA := n1_; clear n0_ n1_ hb)
    | ((first | (with_reducible refine gate_store (t := 56) (p := 4) (v := .tmp 14) rfl ?_) | (with_reducible refine gate_store (t := 56) (p := 4) (v := .tmp 17) rfl ?_)); refine store_row (ty := 56) (t := 56) (g := ga) (cells := #[.int .i64 a, .int .i64 o, .bool true, .int .i64 0, .int .i64 0, .slice none 0 0, .int .i64 0, .int .i64 0, .slice none 0 0, .slice none 0 0, .slice none 0 0, .bool false, .bool false, .int .i64 0, .slice none 0 0, .slice none 0 0, .slice none 0 0, .int .i64 0]) (old := #[.int .i64 0, .int .i64 0, .bool false, .int .i64 0, .int .i64 0, .slice none 0 0, .int .i64 0, .int .i64 0, .slice none 0 0, .slice none 0 0, .slice none 0 0, .bool false, .bool false, .int .i64 0, .slice none 0 0, .slice none 0 0, .slice none 0 0, .int .i64 0]) rfl rfl rfl rfl rfl BA.out (by kernel_rfl) rfl rfl ?_; intro w9 hbox hg; have n0_ := Aside0.mk (below_grow HB.out hg GA.out); clear HB BA; have HB := n0_; have BA := Aside0.mk hbox; clear n0_ hbox hg))
  exact bodyPost_ret (results_cell_row rfl _ _ ga 56 _ (0, 0) _ rfl BA.out Try.underlying56 rfl (by kernel_rfl)) rfl ⟨rfl, HB.out⟩
set_option maxHeartbeats 4000000 in
set_option maxRecDepth 100000 in
theorem specNewNo1 (a o : Int) (w : World) (h1 : ¬ (1 ≤ o ∧ o ≤ 5)) :
    Calls Try.prog 34 #[.int .i64 a, .int .i64 o] w fun e w' => e = .returned (.agg #[.int .i64 0, .int .i64 0, .bool false, .int .i64 0, .int .i64 0, .slice none 0 0, .int .i64 0, .int .i64 0, .slice none 0 0, .slice none 0 0, .slice none 0 0, .bool false, .bool false, .int .i64 0, .slice none 0 0, .slice none 0 0, .slice none 0 0, .int .i64 0]) ∧ Below w.heap.size w w' := by
  have hu1 := Try.underlying56
  have C1 := Aside0.mk (show spec_l1In.f o 1 5 = some false from by rw [l1In]; simp [h1])
  clear h1
  have HB := Aside0.mk (Below.refl w.heap.size w)
  go_enter Try.func34, Try.ntmps34
  go_wp2_with (first
    | ((with_reducible refine gate_dst (N := 4) rfl ?_); refine box_event ?hg (N := 4) ?hd (cs := #[.int .i64 0, .int .i64 0, .bool false, .int .i64 0, .int .i64 0, .slice none 0 0, .int .i64 0, .int .i64 0, .slice none 0 0, .slice none 0 0, .slice none 0 0, .bool false, .bool false, .int .i64 0, .slice none 0 0, .slice none 0 0, .slice none 0 0, .int .i64 0]) (t := 56) ?hr ?_; (case hd => rfl); (case hg => rfl); (case hr => first | (go_simp; done) | (go_simp; rfl)); intro ga hga w1 hbox hb; have n0_ := Aside0.mk (below_step HB.out hb); clear HB; have HB := n0_; clear n0_; have GA := Aside0.mk (Nat.le_of_eq hga.symm); have BA := Aside0.mk hbox; clear hb hbox hga)
    | (go_at_call 61; (first | (with_reducible refine (l1InC o 1 5 _ _ C1.out).mono ?_) | (with_reducible refine (l1InC a 1 o _ _ C2.out).mono ?_)); rintro e wn ⟨rfl, hb⟩; have n0_ := Aside0.mk (below_step HB.out hb); have n1_ := Aside0.mk (blk_below BA.out hb); clear HB BA; have HB := n0_; have BA := n1_; clear n0_ n1_ hb)
    | ((first | (with_reducible refine gate_store (t := 56) (p := 4) (v := .tmp 14) rfl ?_) | (with_reducible refine gate_store (t := 56) (p := 4) (v := .tmp 17) rfl ?_)); refine store_row (ty := 56) (t := 56) (g := ga) (cells := #[.int .i64 0, .int .i64 0, .bool false, .int .i64 0, .int .i64 0, .slice none 0 0, .int .i64 0, .int .i64 0, .slice none 0 0, .slice none 0 0, .slice none 0 0, .bool false, .bool false, .int .i64 0, .slice none 0 0, .slice none 0 0, .slice none 0 0, .int .i64 0]) (old := #[.int .i64 0, .int .i64 0, .bool false, .int .i64 0, .int .i64 0, .slice none 0 0, .int .i64 0, .int .i64 0, .slice none 0 0, .slice none 0 0, .slice none 0 0, .bool false, .bool false, .int .i64 0, .slice none 0 0, .slice none 0 0, .slice none 0 0, .int .i64 0]) rfl rfl rfl rfl rfl BA.out (by kernel_rfl) rfl rfl ?_; intro w9 hbox hg; have n0_ := Aside0.mk (below_grow HB.out hg GA.out); clear HB BA; have HB := n0_; have BA := Aside0.mk hbox; clear n0_ hbox hg))
  exact bodyPost_ret (results_cell_row rfl _ _ ga 56 _ (0, 0) _ rfl BA.out Try.underlying56 rfl (by kernel_rfl)) rfl ⟨rfl, HB.out⟩
set_option maxHeartbeats 4000000 in
set_option maxRecDepth 100000 in
theorem specNewNo2 (a o : Int) (w : World) (h1 : 1 ≤ o ∧ o ≤ 5) (h2 : ¬ (1 ≤ a ∧ a ≤ o)) :
    Calls Try.prog 34 #[.int .i64 a, .int .i64 o] w fun e w' => e = .returned (.agg #[.int .i64 0, .int .i64 0, .bool false, .int .i64 0, .int .i64 0, .slice none 0 0, .int .i64 0, .int .i64 0, .slice none 0 0, .slice none 0 0, .slice none 0 0, .bool false, .bool false, .int .i64 0, .slice none 0 0, .slice none 0 0, .slice none 0 0, .int .i64 0]) ∧ Below w.heap.size w w' := by
  have hu1 := Try.underlying56
  have C1 := Aside0.mk (show spec_l1In.f o 1 5 = some true from by rw [l1In]; simp [h1])
  have C2 := Aside0.mk (show spec_l1In.f a 1 o = some false from by rw [l1In]; simp [h2])
  clear h1 h2
  have HB := Aside0.mk (Below.refl w.heap.size w)
  go_enter Try.func34, Try.ntmps34
  go_wp2_with (first
    | ((with_reducible refine gate_dst (N := 4) rfl ?_); refine box_event ?hg (N := 4) ?hd (cs := #[.int .i64 0, .int .i64 0, .bool false, .int .i64 0, .int .i64 0, .slice none 0 0, .int .i64 0, .int .i64 0, .slice none 0 0, .slice none 0 0, .slice none 0 0, .bool false, .bool false, .int .i64 0, .slice none 0 0, .slice none 0 0, .slice none 0 0, .int .i64 0]) (t := 56) ?hr ?_; (case hd => rfl); (case hg => rfl); (case hr => first | (go_simp; done) | (go_simp; rfl)); intro ga hga w1 hbox hb; have n0_ := Aside0.mk (below_step HB.out hb); clear HB; have HB := n0_; clear n0_; have GA := Aside0.mk (Nat.le_of_eq hga.symm); have BA := Aside0.mk hbox; clear hb hbox hga)
    | (go_at_call 61; (first | (with_reducible refine (l1InC o 1 5 _ _ C1.out).mono ?_) | (with_reducible refine (l1InC a 1 o _ _ C2.out).mono ?_)); rintro e wn ⟨rfl, hb⟩; have n0_ := Aside0.mk (below_step HB.out hb); have n1_ := Aside0.mk (blk_below BA.out hb); clear HB BA; have HB := n0_; have BA := n1_; clear n0_ n1_ hb)
    | ((first | (with_reducible refine gate_store (t := 56) (p := 4) (v := .tmp 14) rfl ?_) | (with_reducible refine gate_store (t := 56) (p := 4) (v := .tmp 17) rfl ?_)); refine store_row (ty := 56) (t := 56) (g := ga) (cells := #[.int .i64 0, .int .i64 0, .bool false, .int .i64 0, .int .i64 0, .slice none 0 0, .int .i64 0, .int .i64 0, .slice none 0 0, .slice none 0 0, .slice none 0 0, .bool false, .bool false, .int .i64 0, .slice none 0 0, .slice none 0 0, .slice none 0 0, .int .i64 0]) (old := #[.int .i64 0, .int .i64 0, .bool false, .int .i64 0, .int .i64 0, .slice none 0 0, .int .i64 0, .int .i64 0, .slice none 0 0, .slice none 0 0, .slice none 0 0, .bool false, .bool false, .int .i64 0, .slice none 0 0, .slice none 0 0, .slice none 0 0, .int .i64 0]) rfl rfl rfl rfl rfl BA.out (by kernel_rfl) rfl rfl ?_; intro w9 hbox hg; have n0_ := Aside0.mk (below_grow HB.out hg GA.out); clear HB BA; have HB := n0_; have BA := Aside0.mk hbox; clear n0_ hbox hg))
  exact bodyPost_ret (results_cell_row rfl _ _ ga 56 _ (0, 0) _ rfl BA.out Try.underlying56 rfl (by kernel_rfl)) rfl ⟨rfl, HB.out⟩
set_option maxHeartbeats 4000000 in
set_option maxRecDepth 100000 in
theorem implNewYes (a o : Int) (w : World) (h1 : 1 ≤ o ∧ o ≤ 5) (h2 : 1 ≤ a ∧ a ≤ o) :
    Calls Try.prog 35 #[.int .i64 a, .int .i64 o] w fun e w' => e = .returned (.agg #[.int .i64 a, .int .i64 o, .bool true, .int .i64 0, .int .i64 0, .slice none 0 0, .int .i64 0, .int .i64 0, .slice none 0 0, .slice none 0 0, .slice none 0 0, .bool false, .bool false, .int .i64 0, .slice none 0 0, .slice none 0 0, .slice none 0 0, .int .i64 0]) ∧ Below w.heap.size w w' := by
  have hu1 := Try.underlying56
  have C1 := Aside0.mk (show impl_within.f o 1 5 = some true from by rw [within]; simp [h1])
  have C2 := Aside0.mk (show impl_within.f a 1 o = some true from by rw [within]; simp [h2])
  clear h1 h2
  have HB := Aside0.mk (Below.refl w.heap.size w)
  go_enter Try.func35, Try.ntmps35
  go_wp2_with (first
    | ((with_reducible refine gate_dst (N := 4) rfl ?_); refine box_event ?hg (N := 4) ?hd (cs := #[.int .i64 0, .int .i64 0, .bool false, .int .i64 0, .int .i64 0, .slice none 0 0, .int .i64 0, .int .i64 0, .slice none 0 0, .slice none 0 0, .slice none 0 0, .bool false, .bool false, .int .i64 0, .slice none 0 0, .slice none 0 0, .slice none 0 0, .int .i64 0]) (t := 56) ?hr ?_; (case hd => rfl); (case hg => rfl); (case hr => first | (go_simp; done) | (go_simp; rfl)); intro ga hga w1 hbox hb; have n0_ := Aside0.mk (below_step HB.out hb); clear HB; have HB := n0_; clear n0_; have GA := Aside0.mk (Nat.le_of_eq hga.symm); have BA := Aside0.mk hbox; clear hb hbox hga)
    | (go_at_call 62; (first | (with_reducible refine (withinC o 1 5 _ _ C1.out).mono ?_) | (with_reducible refine (withinC a 1 o _ _ C2.out).mono ?_)); rintro e wn ⟨rfl, hb⟩; have n0_ := Aside0.mk (below_step HB.out hb); have n1_ := Aside0.mk (blk_below BA.out hb); clear HB BA; have HB := n0_; have BA := n1_; clear n0_ n1_ hb)
    | ((first | (with_reducible refine gate_store (t := 56) (p := 4) (v := .tmp 14) rfl ?_) | (with_reducible refine gate_store (t := 56) (p := 4) (v := .tmp 17) rfl ?_)); refine store_row (ty := 56) (t := 56) (g := ga) (cells := #[.int .i64 a, .int .i64 o, .bool true, .int .i64 0, .int .i64 0, .slice none 0 0, .int .i64 0, .int .i64 0, .slice none 0 0, .slice none 0 0, .slice none 0 0, .bool false, .bool false, .int .i64 0, .slice none 0 0, .slice none 0 0, .slice none 0 0, .int .i64 0]) (old := #[.int .i64 0, .int .i64 0, .bool false, .int .i64 0, .int .i64 0, .slice none 0 0, .int .i64 0, .int .i64 0, .slice none 0 0, .slice none 0 0, .slice none 0 0, .bool false, .bool false, .int .i64 0, .slice none 0 0, .slice none 0 0, .slice none 0 0, .int .i64 0]) rfl rfl rfl rfl rfl BA.out (by kernel_rfl) rfl rfl ?_; intro w9 hbox hg; have n0_ := Aside0.mk (below_grow HB.out hg GA.out); clear HB BA; have HB := n0_; have BA := Aside0.mk hbox; clear n0_ hbox hg))
  exact bodyPost_ret (results_cell_row rfl _ _ ga 56 _ (0, 0) _ rfl BA.out Try.underlying56 rfl (by kernel_rfl)) rfl ⟨rfl, HB.out⟩
set_option maxHeartbeats 4000000 in
set_option maxRecDepth 100000 in
theorem implNewNo1 (a o : Int) (w : World) (h1 : ¬ (1 ≤ o ∧ o ≤ 5)) :
    Calls Try.prog 35 #[.int .i64 a, .int .i64 o] w fun e w' => e = .returned (.agg #[.int .i64 0, .int .i64 0, .bool false, .int .i64 0, .int .i64 0, .slice none 0 0, .int .i64 0, .int .i64 0, .slice none 0 0, .slice none 0 0, .slice none 0 0, .bool false, .bool false, .int .i64 0, .slice none 0 0, .slice none 0 0, .slice none 0 0, .int .i64 0]) ∧ Below w.heap.size w w' := by
  have hu1 := Try.underlying56
  have C1 := Aside0.mk (show impl_within.f o 1 5 = some false from by rw [within]; simp [h1])
  clear h1
  have HB := Aside0.mk (Below.refl w.heap.size w)
  go_enter Try.func35, Try.ntmps35
  go_wp2_with (first
    | ((with_reducible refine gate_dst (N := 4) rfl ?_); refine box_event ?hg (N := 4) ?hd (cs := #[.int .i64 0, .int .i64 0, .bool false, .int .i64 0, .int .i64 0, .slice none 0 0, .int .i64 0, .int .i64 0, .slice none 0 0, .slice none 0 0, .slice none 0 0, .bool false, .bool false, .int .i64 0, .slice none 0 0, .slice none 0 0, .slice none 0 0, .int .i64 0]) (t := 56) ?hr ?_; (case hd => rfl); (case hg => rfl); (case hr => first | (go_simp; done) | (go_simp; rfl)); intro ga hga w1 hbox hb; have n0_ := Aside0.mk (below_step HB.out hb); clear HB; have HB := n0_; clear n0_; have GA := Aside0.mk (Nat.le_of_eq hga.symm); have BA := Aside0.mk hbox; clear hb hbox hga)
    | (go_at_call 62; (first | (with_reducible refine (withinC o 1 5 _ _ C1.out).mono ?_) | (with_reducible refine (withinC a 1 o _ _ C2.out).mono ?_)); rintro e wn ⟨rfl, hb⟩; have n0_ := Aside0.mk (below_step HB.out hb); have n1_ := Aside0.mk (blk_below BA.out hb); clear HB BA; have HB := n0_; have BA := n1_; clear n0_ n1_ hb)
    | ((first | (with_reducible refine gate_store (t := 56) (p := 4) (v := .tmp 14) rfl ?_) | (with_reducible refine gate_store (t := 56) (p := 4) (v := .tmp 17) rfl ?_)); refine store_row (ty := 56) (t := 56) (g := ga) (cells := #[.int .i64 0, .int .i64 0, .bool false, .int .i64 0, .int .i64 0, .slice none 0 0, .int .i64 0, .int .i64 0, .slice none 0 0, .slice none 0 0, .slice none 0 0, .bool false, .bool false, .int .i64 0, .slice none 0 0, .slice none 0 0, .slice none 0 0, .int .i64 0]) (old := #[.int .i64 0, .int .i64 0, .bool false, .int .i64 0, .int .i64 0, .slice none 0 0, .int .i64 0, .int .i64 0, .slice none 0 0, .slice none 0 0, .slice none 0 0, .bool false, .bool false, .int .i64 0, .slice none 0 0, .slice none 0 0, .slice none 0 0, .int .i64 0]) rfl rfl rfl rfl rfl BA.out (by kernel_rfl) rfl rfl ?_; intro w9 hbox hg; have n0_ := Aside0.mk (below_grow HB.out hg GA.out); clear HB BA; have HB := n0_; have BA := Aside0.mk hbox; clear n0_ hbox hg))
  exact bodyPost_ret (results_cell_row rfl _ _ ga 56 _ (0, 0) _ rfl BA.out Try.underlying56 rfl (by kernel_rfl)) rfl ⟨rfl, HB.out⟩
set_option maxHeartbeats 4000000 in
set_option maxRecDepth 100000 in
theorem implNewNo2 (a o : Int) (w : World) (h1 : 1 ≤ o ∧ o ≤ 5) (h2 : ¬ (1 ≤ a ∧ a ≤ o)) :
    Calls Try.prog 35 #[.int .i64 a, .int .i64 o] w fun e w' => e = .returned (.agg #[.int .i64 0, .int .i64 0, .bool false, .int .i64 0, .int .i64 0, .slice none 0 0, .int .i64 0, .int .i64 0, .slice none 0 0, .slice none 0 0, .slice none 0 0, .bool false, .bool false, .int .i64 0, .slice none 0 0, .slice none 0 0, .slice none 0 0, .int .i64 0]) ∧ Below w.heap.size w w' := by
  have hu1 := Try.underlying56
  have C1 := Aside0.mk (show impl_within.f o 1 5 = some true from by rw [within]; simp [h1])
  have C2 := Aside0.mk (show impl_within.f a 1 o = some false from by rw [within]; simp [h2])
  clear h1 h2
  have HB := Aside0.mk (Below.refl w.heap.size w)
  go_enter Try.func35, Try.ntmps35
  go_wp2_with (first
    | ((with_reducible refine gate_dst (N := 4) rfl ?_); refine box_event ?hg (N := 4) ?hd (cs := #[.int .i64 0, .int .i64 0, .bool false, .int .i64 0, .int .i64 0, .slice none 0 0, .int .i64 0, .int .i64 0, .slice none 0 0, .slice none 0 0, .slice none 0 0, .bool false, .bool false, .int .i64 0, .slice none 0 0, .slice none 0 0, .slice none 0 0, .int .i64 0]) (t := 56) ?hr ?_; (case hd => rfl); (case hg => rfl); (case hr => first | (go_simp; done) | (go_simp; rfl)); intro ga hga w1 hbox hb; have n0_ := Aside0.mk (below_step HB.out hb); clear HB; have HB := n0_; clear n0_; have GA := Aside0.mk (Nat.le_of_eq hga.symm); have BA := Aside0.mk hbox; clear hb hbox hga)
    | (go_at_call 62; (first | (with_reducible refine (withinC o 1 5 _ _ C1.out).mono ?_) | (with_reducible refine (withinC a 1 o _ _ C2.out).mono ?_)); rintro e wn ⟨rfl, hb⟩; have n0_ := Aside0.mk (below_step HB.out hb); have n1_ := Aside0.mk (blk_below BA.out hb); clear HB BA; have HB := n0_; have BA := n1_; clear n0_ n1_ hb)
    | ((first | (with_reducible refine gate_store (t := 56) (p := 4) (v := .tmp 14) rfl ?_) | (with_reducible refine gate_store (t := 56) (p := 4) (v := .tmp 17) rfl ?_)); refine store_row (ty := 56) (t := 56) (g := ga) (cells := #[.int .i64 0, .int .i64 0, .bool false, .int .i64 0, .int .i64 0, .slice none 0 0, .int .i64 0, .int .i64 0, .slice none 0 0, .slice none 0 0, .slice none 0 0, .bool false, .bool false, .int .i64 0, .slice none 0 0, .slice none 0 0, .slice none 0 0, .int .i64 0]) (old := #[.int .i64 0, .int .i64 0, .bool false, .int .i64 0, .int .i64 0, .slice none 0 0, .int .i64 0, .int .i64 0, .slice none 0 0, .slice none 0 0, .slice none 0 0, .bool false, .bool false, .int .i64 0, .slice none 0 0, .slice none 0 0, .slice none 0 0, .int .i64 0]) rfl rfl rfl rfl rfl BA.out (by kernel_rfl) rfl rfl ?_; intro w9 hbox hg; have n0_ := Aside0.mk (below_grow HB.out hg GA.out); clear HB BA; have HB := n0_; have BA := Aside0.mk hbox; clear n0_ hbox hg))
  exact bodyPost_ret (results_cell_row rfl _ _ ga 56 _ (0, 0) _ rfl BA.out Try.underlying56 rfl (by kernel_rfl)) rfl ⟨rfl, HB.out⟩

/-! ### marks on nothing -/
theorem slNil {α : Type} (e : Nat) (d : Kd α) (w : World) : Sl e d w ([] : List α) (.slice none 0 0) := ⟨none, 0, rfl, Nat.le_refl _, Kd.C_nil _ _⟩
theorem eqNilC (n0 n1 : Int) (b : Bool) (w : World) : Calls Try.prog 36 #[.agg #[.int .i64 n0, .int .i64 n1, .bool b, .int .i64 0, .int .i64 0, .slice none 0 0, .int .i64 0, .int .i64 0, .slice none 0 0, .slice none 0 0, .slice none 0 0, .bool false, .bool false, .int .i64 0, .slice none 0 0, .slice none 0 0, .slice none 0 0, .int .i64 0], .agg #[.int .i64 n0, .int .i64 n1, .bool b, .int .i64 0, .int .i64 0, .slice none 0 0, .int .i64 0, .int .i64 0, .slice none 0 0, .slice none 0 0, .slice none 0 0, .bool false, .bool false, .int .i64 0, .slice none 0 0, .slice none 0 0, .slice none 0 0, .int .i64 0]] w fun e w' => e = .returned (.bool true) ∧ Below w.heap.size w w' :=
  eqRecorderC n0 n1 0 0 0 0 0 0 b false false [] [] [] [] [] [] [] _ _ _ _ _ _ _ _ _ _ _ _ _ _ w (slNil _ _ _) (slNil _ _ _) (slNil _ _ _) (slNil _ _ _) (slNil _ _ _) (slNil _ _ _) (slNil _ _ _) (slNil _ _ _) (slNil _ _ _) (slNil _ _ _) (slNil _ _ _) (slNil _ _ _) (slNil _ _ _) (slNil _ _ _)
theorem markDiskNil (p n m : Int) (w : World) : Calls Try.prog 73 #[.agg #[.int .i64 p, .int .i64 n, .slice none 0 0], .int .i64 m] w fun e w' => e = .returned (.int .i64 m) ∧ Below w.heap.size w w' :=
  (laws_markRecDisk.calls 2 p n (fun _ => False) (.slice none 0 0) [] m m [] w w (Below.refl _ _) (Kd.R_nil _ _ _ _ _) (by simp [laws_markRecDisk.f, laws_markRecSlotS.f, laws_markRecSlotS.l0])).mono fun _ _ h => ⟨h.1, h.2.2.1⟩
theorem markSlotNil (m : Int) (w : World) : Calls Try.prog 22 #[.slice none 0 0, .int .i64 m] w fun e w' => e = .returned (.int .i64 m) ∧ Below w.heap.size w w' :=
  (laws_markRecSlotS.calls 2 (fun _ => False) (.slice none 0 0) [] m m [] w w (Below.refl _ _) (Kd.R_nil _ _ _ _ _) (by simp [laws_markRecSlotS.f, laws_markRecSlotS.l0])).mono fun _ _ h => ⟨h.1, h.2.2.1⟩
theorem markStrNil (m : Int) (w : World) : Calls Try.prog 51 #[.slice none 0 0, .int .i64 m] w fun e w' => e = .returned (.int .i64 m) ∧ Below w.heap.size w w' :=
  (laws_markStringS.calls 2 (fun _ => False) (.slice none 0 0) [] m m [] w w (Below.refl _ _) (Kd.R_nil _ _ _ _ _) (by simp [laws_markStringS.f, laws_markStringS.l0])).mono fun _ _ h => ⟨h.1, h.2.2.1⟩
theorem markNumNil (m : Int) (w : World) : Calls Try.prog 75 #[.slice none 0 0, .int .i64 m] w fun e w' => e = .returned (.int .i64 m) ∧ Below w.heap.size w w' :=
  (laws_markIntS.calls 2 (fun _ => False) (.slice none 0 0) [] m m [] w w (Below.refl _ _) (Kd.R_nil _ _ _ _ _) (by simp [laws_markIntS.f, laws_markIntS.l0])).mono fun _ _ h => ⟨h.1, h.2.2.1⟩
set_option maxHeartbeats 4000000 in
theorem markMsgNil (m : Int) (w : World) : Calls Try.prog 74 #[.slice none 0 0, .int .i64 m] w fun e w' => e = .returned (.int .i64 m) ∧ Below w.heap.size w w' := by
  go_enter Try.func74, Try.ntmps74
  go_wp2
  refine wp_loop_once ?_
  go_wp2
  go_ret
  exact ⟨rfl, Below.refl _ _⟩
set_option maxHeartbeats 4000000 in
theorem markAckNil (m : Int) (w : World) : Calls Try.prog 76 #[.slice none 0 0, .int .i64 m] w fun e w' => e = .returned (.int .i64 m) ∧ Below w.heap.size w w' := by
  go_enter Try.func76, Try.ntmps76
  go_wp2
  refine wp_loop_once ?_
  go_wp2
  go_ret
  exact ⟨rfl, Below.refl _ _⟩
set_option maxHeartbeats 8000000 in
set_option maxRecDepth 100000 in
theorem markNil (n0 n1 : Int) (b : Bool) (m : Int) (w : World) : Calls Try.prog 37 #[.agg #[.int .i64 n0, .int .i64 n1, .bool b, .int .i64 0, .int .i64 0, .slice none 0 0, .int .i64 0, .int .i64 0, .slice none 0 0, .slice none 0 0, .slice none 0 0, .bool false, .bool false, .int .i64 0, .slice none 0 0, .slice none 0 0, .slice none 0 0, .int .i64 0], .int .i64 m] w fun e w' => e = .returned (.int .i64 m) ∧ Below w.heap.size w w' := by
  have hu1 := Try.underlying56
  have hu2 := Try.underlying38
  have HB := Aside0.mk (Below.refl w.heap.size w)
  go_enter Try.func37, Try.ntmps37
  go_wp2_with (first
    | ((with_reducible refine gate_dst (N := 2) rfl ?_); refine box_event ?hg (N := 2) ?hd (cs := #[.int .i64 n0, .int .i64 n1, .bool b, .int .i64 0, .int .i64 0, .slice none 0 0, .int .i64 0, .int .i64 0, .slice none 0 0, .slice none 0 0, .slice none 0 0, .bool false, .bool false, .int .i64 0, .slice none 0 0, .slice none 0 0, .slice none 0 0, .int .i64 0]) (t := 56) ?hr ?_; (case hd => rfl); (case hg => rfl); (case hr => first | (go_simp; done) | (go_simp; rfl)); intro ga _hg w1 hbox hb; have n0_ := Aside0.mk (below_step HB.out hb); clear HB; have HB := n0_; clear n0_; have BA := Aside0.mk hbox; clear hb hbox _hg; have ra := blk_cell BA.out)
    | ((first
        | (go_at_call 73; (with_reducible refine (markDiskNil _ _ _ _).mono ?_))
        | (go_at_call 74; (with_reducible refine (markMsgNil _ _).mono ?_))
        | (go_at_call 51; (with_reducible refine (markStrNil _ _).mono ?_))
        | (go_at_call 75; (with_reducible refine (markNumNil _ _).mono ?_))
        | (go_at_call 22; (with_reducible refine (markSlotNil _ _).mono ?_))
        | (go_at_call 76; (with_reducible refine (markAckNil _ _).mono ?_)));
       rintro e wn ⟨rfl, hb⟩; have n0_ := Aside0.mk (below_step HB.out hb); have n1_ := Aside0.mk (blk_below BA.out hb); clear HB BA; have HB := n0_; have BA := n1_; clear n0_ n1_ ra; clear hb; have ra := blk_cell BA.out))
  go_ret
  exact ⟨rfl, HB.out⟩
theorem quietBelow {P : Program} {f : FuncId} {args : Array Value} {w : World} {v : Value} (h : Calls P f args w fun e w' => e = .returned v ∧ Below w.heap.size w w') : Calls P f args w fun e w' => e = .returned v ∧ Below w.heap.size w w' := h
theorem drawnBelow {P : Program} {f : FuncId} {args : Array Value} {w : World} {v : Value} (h : Calls P f args w fun e w' => e = .returned v ∧ Drawn0 w w') : Calls P f args w fun e w' => e = .returned v ∧ Below w.heap.size w w' := h.mono fun _ _ ⟨h1, h2⟩ => ⟨h1, h2.below⟩
theorem heldDiskNil (p n m : Int) (hm : 0 ≤ m) (w : World) : Calls Try.prog 77 #[.agg #[.int .i64 p, .int .i64 n, .slice none 0 0], .int .i64 m] w fun e w' => e = .returned (.int .i64 m) ∧ Below w.heap.size w w' :=
  quietBelow (laws_heldRecDisk.calls 2 p n none 0 [] m m w (Kd.C_nil _ _) (Nat.le_refl _) (by simp [laws_heldRecDisk.f, laws_heldRecSlotS.f, laws_heldRecSlotS.l0]; omega))
theorem heldSlotNil (m : Int) (w : World) : Calls Try.prog 23 #[.slice none 0 0, .int .i64 m] w fun e w' => e = .returned (.int .i64 m) ∧ Below w.heap.size w w' :=
  quietBelow (laws_heldRecSlotS.calls 2 none 0 [] m m w (Kd.C_nil _ _) (Nat.le_refl _) (by simp [laws_heldRecSlotS.f, laws_heldRecSlotS.l0]))
theorem heldStrNil (m : Int) (w : World) : Calls Try.prog 52 #[.slice none 0 0, .int .i64 m] w fun e w' => e = .returned (.int .i64 m) ∧ Below w.heap.size w w' :=
  quietBelow (laws_heldStringS.calls 2 none 0 [] m m w (Kd.C_nil _ _) (Nat.le_refl _) (by simp [laws_heldStringS.f, laws_heldStringS.l0]))
theorem heldNumNil (m : Int) (w : World) : Calls Try.prog 79 #[.slice none 0 0, .int .i64 m] w fun e w' => e = .returned (.int .i64 m) ∧ Below w.heap.size w w' :=
  drawnBelow (laws_heldIntS.calls 2 none 0 [] m m w (Kd.C_nil _ _) (Nat.le_refl _) (by simp [laws_heldIntS.f, laws_heldIntS.l0]))
theorem heldAckNil (m : Int) (w : World) : Calls Try.prog 80 #[.slice none 0 0, .int .i64 m] w fun e w' => e = .returned (.int .i64 m) ∧ Below w.heap.size w w' :=
  drawnBelow (laws_heldRecAckS.calls 2 none 0 [] m m w (Kd.C_nil _ _) (Nat.le_refl _) (by simp [laws_heldRecAckS.f, laws_heldRecAckS.l0]))
set_option maxHeartbeats 4000000 in
theorem heldMsgNil (m : Int) (w : World) : Calls Try.prog 78 #[.slice none 0 0, .int .i64 m] w fun e w' => e = .returned (.int .i64 m) ∧ Below w.heap.size w w' := by
  go_enter Try.func78, Try.ntmps78
  go_wp2
  refine wp_loop_once ?_
  go_wp2
  go_ret
  exact ⟨rfl, Below.refl _ _⟩
set_option maxHeartbeats 8000000 in
set_option maxRecDepth 100000 in
theorem heldNil (n0 n1 : Int) (b : Bool) (m : Int) (hm : 0 ≤ m) (w : World) : Calls Try.prog 38 #[.agg #[.int .i64 n0, .int .i64 n1, .bool b, .int .i64 0, .int .i64 0, .slice none 0 0, .int .i64 0, .int .i64 0, .slice none 0 0, .slice none 0 0, .slice none 0 0, .bool false, .bool false, .int .i64 0, .slice none 0 0, .slice none 0 0, .slice none 0 0, .int .i64 0], .int .i64 m] w fun e w' => e = .returned (.int .i64 m) ∧ Below w.heap.size w w' := by
  have hu1 := Try.underlying56
  have hu2 := Try.underlying38
  have hn : decide (m < 0) = false := decide_eq_false (by omega)
  have HM := Aside0.mk hm
  clear hm
  have HB := Aside0.mk (Below.refl w.heap.size w)
  go_enter Try.func38, Try.ntmps38
  go_wp2_with (first
    | ((with_reducible refine gate_dst (N := 2) rfl ?_); refine box_event ?hg (N := 2) ?hd (cs := #[.int .i64 n0, .int .i64 n1, .bool b, .int .i64 0, .int .i64 0, .slice none 0 0, .int .i64 0, .int .i64 0, .slice none 0 0, .slice none 0 0, .slice none 0 0, .bool false, .bool false, .int .i64 0, .slice none 0 0, .slice none 0 0, .slice none 0 0, .int .i64 0]) (t := 56) ?hr ?_; (case hd => rfl); (case hg => rfl); (case hr => first | (go_simp; done) | (go_simp; rfl)); intro ga _hg w1 hbox hb; have n0_ := Aside0.mk (below_step HB.out hb); clear HB; have HB := n0_; clear n0_; have BA := Aside0.mk hbox; clear hb hbox _hg; have ra := blk_cell BA.out)
    | ((first
        | (go_at_call 77; (with_reducible refine (heldDiskNil _ _ _ HM.out _).mono ?_))
        | (go_at_call 78; (with_reducible refine (heldMsgNil _ _).mono ?_))
        | (go_at_call 52; (with_reducible refine (heldStrNil _ _).mono ?_))
        | (go_at_call 79; (with_reducible refine (heldNumNil _ _).mono ?_))
        | (go_at_call 23; (with_reducible refine (heldSlotNil _ _).mono ?_))
        | (go_at_call 80; (with_reducible refine (heldAckNil _ _).mono ?_)));
       rintro e wn ⟨rfl, hb⟩; have n0_ := Aside0.mk (below_step HB.out hb); have n1_ := Aside0.mk (blk_below BA.out hb); clear HB BA; have HB := n0_; have BA := n1_; clear n0_ n1_ ra; clear hb; have ra := blk_cell BA.out))
  go_ret
  exact ⟨rfl, HB.out⟩

/-! ### the law on RecNew: the machine's side -/
abbrev NewC (f : Nat) (a o n0 n1 : Int) (b : Bool) : Prop := ∀ w : World, Calls Try.prog f #[.int .i64 a, .int .i64 o] w fun e w' => e = .returned (.agg #[.int .i64 n0, .int .i64 n1, .bool b, .int .i64 0, .int .i64 0, .slice none 0 0, .int .i64 0, .int .i64 0, .slice none 0 0, .slice none 0 0, .slice none 0 0, .bool false, .bool false, .int .i64 0, .slice none 0 0, .slice none 0 0, .slice none 0 0, .int .i64 0]) ∧ Below w.heap.size w w'
set_option maxHeartbeats 8000000 in
set_option maxRecDepth 100000 in
theorem lawNew (a o n0 n1 : Int) (b : Bool) (w : World) (hs0 : NewC 34 a o n0 n1 b) (hi0 : NewC 35 a o n0 n1 b) : Calls Try.prog 8 #[.int .i64 a, .int .i64 o] w fun e w' => e = .returned (.bool true) ∧ Below w.heap.size w w' := by
  have hu1 := Try.underlying56
  have hs := Aside0.mk hs0
  have hi := Aside0.mk hi0
  clear hs0 hi0
  have HB := Aside0.mk (Below.refl w.heap.size w)
  have BK := Aside0.mk trivial
  have BL := Aside0.mk trivial
  have BM := Aside0.mk trivial
  go_enter Try.func8, Try.ntmps8
  go_wp2_with (first
    | ((with_reducible refine gate_dst (N := 5) rfl ?_); refine box_event ?hg (N := 5) ?hd (cs := #[.int .i64 0, .int .i64 0, .bool false, .int .i64 0, .int .i64 0, .slice none 0 0, .int .i64 0, .int .i64 0, .slice none 0 0, .slice none 0 0, .slice none 0 0, .bool false, .bool false, .int .i64 0, .slice none 0 0, .slice none 0 0, .slice none 0 0, .int .i64 0]) (t := 56) ?hr ?_; (case hd => rfl); (case hg => rfl); (case hr => first | (go_simp; done) | (go_simp; rfl)); intro gK hgK wK hbox hb; have GK := Aside0.mk (Nat.le_of_eq hgK.symm); have GEK := Aside0.mk (Nat.le_trans (below_size HB.out) GK.out); have n0_ := Aside0.mk (below_step HB.out hb); clear HB; have HB := n0_; clear n0_; (try (have neLK := Aside0.mk (Nat.ne_of_lt (Nat.lt_of_lt_of_le (blk_lt BL.out) GK.out)))); (try (have neMK := Aside0.mk (Nat.ne_of_lt (Nat.lt_of_lt_of_le (blk_lt BM.out) GK.out)))); (try (have n1_ := Aside0.mk (blk_below BL.out hb); clear BL; have BL := n1_; clear n1_)); (try (have n1_ := Aside0.mk (blk_below BM.out hb); clear BM; have BM := n1_; clear n1_)); clear BK; have BK := Aside0.mk hbox; clear hb hbox hgK)
    | ((with_reducible refine gate_store (t := 56) (p := 5) (v := .tmp 12) rfl ?_); refine store_row (ty := 56) (t := 56) (g := gK) (cells := #[.int .i64 n0, .int .i64 n1, .bool b, .int .i64 0, .int .i64 0, .slice none 0 0, .int .i64 0, .int .i64 0, .slice none 0 0, .slice none 0 0, .slice none 0 0, .bool false, .bool false, .int .i64 0, .slice none 0 0, .slice none 0 0, .slice none 0 0, .int .i64 0]) (old := #[.int .i64 0, .int .i64 0, .bool false, .int .i64 0, .int .i64 0, .slice none 0 0, .int .i64 0, .int .i64 0, .slice none 0 0, .slice none 0 0, .slice none 0 0, .bool false, .bool false, .int .i64 0, .slice none 0 0, .slice none 0 0, .slice none 0 0, .int .i64 0]) rfl rfl rfl rfl rfl BK.out (by kernel_rfl) rfl rfl ?_; intro w9 hbox hg; have n0_ := Aside0.mk (below_grow HB.out hg GEK.out); clear HB; have HB := n0_; clear n0_; (try (have n1_ := Aside0.mk (blk_grown BL.out hg (fun e_ => neLK.out (Option.some.inj e_))); clear BL; have BL := n1_; clear n1_)); (try (have n1_ := Aside0.mk (blk_grown BM.out hg (fun e_ => neMK.out (Option.some.inj e_))); clear BM; have BM := n1_; clear n1_)); clear BK; have BK := Aside0.mk hbox; clear hbox hg)
    | ((with_reducible refine gate_dst (N := 6) rfl ?_); refine box_event ?hg (N := 6) ?hd (cs := #[.int .i64 0, .int .i64 0, .bool false, .int .i64 0, .int .i64 0, .slice none 0 0, .int .i64 0, .int .i64 0, .slice none 0 0, .slice none 0 0, .slice none 0 0, .bool false, .bool false, .int .i64 0, .slice none 0 0, .slice none 0 0, .slice none 0 0, .int .i64 0]) (t := 56) ?hr ?_; (case hd => rfl); (case hg => rfl); (case hr => first | (go_simp; done) | (go_simp; rfl)); intro gL hgL wL hbox hb; have GL := Aside0.mk (Nat.le_of_eq hgL.symm); have GEL := Aside0.mk (Nat.le_trans (below_size HB.out) GL.out); have n0_ := Aside0.mk (below_step HB.out hb); clear HB; have HB := n0_; clear n0_; (try (have neKL := Aside0.mk (Nat.ne_of_lt (Nat.lt_of_lt_of_le (blk_lt BK.out) GL.out)))); (try (have neML := Aside0.mk (Nat.ne_of_lt (Nat.lt_of_lt_of_le (blk_lt BM.out) GL.out)))); (try (have n1_ := Aside0.mk (blk_below BK.out hb); clear BK; have BK := n1_; clear n1_)); (try (have n1_ := Aside0.mk (blk_below BM.out hb); clear BM; have BM := n1_; clear n1_)); clear BL; have BL := Aside0.mk hbox; clear hb hbox hgL)
    | ((with_reducible refine gate_store (t := 56) (p := 6) (v := .tmp 15) rfl ?_); refine store_row (ty := 56) (t := 56) (g := gL) (cells := #[.int .i64 n0, .int .i64 n1, .bool b, .int .i64 0, .int .i64 0, .slice none 0 0, .int .i64 0, .int .i64 0, .slice none 0 0, .slice none 0 0, .slice none 0 0, .bool false, .bool false, .int .i64 0, .slice none 0 0, .slice none 0 0, .slice none 0 0, .int .i64 0]) (old := #[.int .i64 0, .int .i64 0, .bool false, .int .i64 0, .int .i64 0, .slice none 0 0, .int .i64 0, .int .i64 0, .slice none 0 0, .slice none 0 0, .slice none 0 0, .bool false, .bool false, .int .i64 0, .slice none 0 0, .slice none 0 0, .slice none 0 0, .int .i64 0]) rfl rfl rfl rfl rfl BL.out (by kernel_rfl) rfl rfl ?_; intro w9 hbox hg; have n0_ := Aside0.mk (below_grow HB.out hg GEL.out); clear HB; have HB := n0_; clear n0_; (try (have n1_ := Aside0.mk (blk_grown BK.out hg (fun e_ => neKL.out (Option.some.inj e_))); clear BK; have BK := n1_; clear n1_)); (try (have n1_ := Aside0.mk (blk_grown BM.out hg (fun e_ => neML.out (Option.some.inj e_))); clear BM; have BM := n1_; clear n1_)); clear BL; have BL := Aside0.mk hbox; clear hbox hg)
    | ((with_reducible refine gate_dst (N := 9) rfl ?_); refine box_event ?hg (N := 9) ?hd (cs := #[.int .i64 0, .int .i64 0, .bool false, .int .i64 0, .int .i64 0, .slice none 0 0, .int .i64 0, .int .i64 0, .slice none 0 0, .slice none 0 0, .slice none 0 0, .bool false, .bool false, .int .i64 0, .slice none 0 0, .slice none 0 0, .slice none 0 0, .int .i64 0]) (t := 56) ?hr ?_; (case hd => rfl); (case hg => rfl); (case hr => first | (go_simp; done) | (go_simp; rfl)); intro gM hgM wM hbox hb; have GM := Aside0.mk (Nat.le_of_eq hgM.symm); have GEM := Aside0.mk (Nat.le_trans (below_size HB.out) GM.out); have n0_ := Aside0.mk (below_step HB.out hb); clear HB; have HB := n0_; clear n0_; (try (have neKM := Aside0.mk (Nat.ne_of_lt (Nat.lt_of_lt_of_le (blk_lt BK.out) GM.out)))); (try (have neLM := Aside0.mk (Nat.ne_of_lt (Nat.lt_of_lt_of_le (blk_lt BL.out) GM.out)))); (try (have n1_ := Aside0.mk (blk_below BK.out hb); clear BK; have BK := n1_; clear n1_)); (try (have n1_ := Aside0.mk (blk_below BL.out hb); clear BL; have BL := n1_; clear n1_)); clear BM; have BM := Aside0.mk hbox; clear hb hbox hgM)
    | ((with_reducible refine gate_store (t := 56) (p := 9) (v := .tmp 33) rfl ?_); refine store_row (ty := 56) (t := 56) (g := gM) (cells := #[.int .i64 n0, .int .i64 n1, .bool b, .int .i64 0, .int .i64 0, .slice none 0 0, .int .i64 0, .int .i64 0, .slice none 0 0, .slice none 0 0, .slice none 0 0, .bool false, .bool false, .int .i64 0, .slice none 0 0, .slice none 0 0, .slice none 0 0, .int .i64 0]) (old := #[.int .i64 0, .int .i64 0, .bool false, .int .i64 0, .int .i64 0, .slice none 0 0, .int .i64 0, .int .i64 0, .slice none 0 0, .slice none 0 0, .slice none 0 0, .bool false, .bool false, .int .i64 0, .slice none 0 0, .slice none 0 0, .slice none 0 0, .int .i64 0]) rfl rfl rfl rfl rfl BM.out (by kernel_rfl) rfl rfl ?_; intro w9 hbox hg; have n0_ := Aside0.mk (below_grow HB.out hg GEM.out); clear HB; have HB := n0_; clear n0_; (try (have n1_ := Aside0.mk (blk_grown BK.out hg (fun e_ => neKM.out (Option.some.inj e_))); clear BK; have BK := n1_; clear n1_)); (try (have n1_ := Aside0.mk (blk_grown BL.out hg (fun e_ => neLM.out (Option.some.inj e_))); clear BL; have BL := n1_; clear n1_)); clear BM; have BM := Aside0.mk hbox; clear hbox hg)
    | (((with_reducible refine gate_load (t := 56) (p := 5) rfl ?_); refine load_row (ty := 56) (t := 56) (g := gK) (cs := #[.int .i64 n0, .int .i64 n1, .bool b, .int .i64 0, .int .i64 0, .slice none 0 0, .int .i64 0, .int .i64 0, .slice none 0 0, .slice none 0 0, .slice none 0 0, .bool false, .bool false, .int .i64 0, .slice none 0 0, .slice none 0 0, .slice none 0 0, .int .i64 0]) rfl rfl rfl BK.out Try.underlying56 rfl (by kernel_rfl) ?_))
    | (((with_reducible refine gate_load (t := 56) (p := 6) rfl ?_); refine load_row (ty := 56) (t := 56) (g := gL) (cs := #[.int .i64 n0, .int .i64 n1, .bool b, .int .i64 0, .int .i64 0, .slice none 0 0, .int .i64 0, .int .i64 0, .slice none 0 0, .slice none 0 0, .slice none 0 0, .bool false, .bool false, .int .i64 0, .slice none 0 0, .slice none 0 0, .slice none 0 0, .int .i64 0]) rfl rfl rfl BL.out Try.underlying56 rfl (by kernel_rfl) ?_))
    | (((with_reducible refine gate_load (t := 56) (p := 9) rfl ?_); refine load_row (ty := 56) (t := 56) (g := gM) (cs := #[.int .i64 n0, .int .i64 n1, .bool b, .int .i64 0, .int .i64 0, .slice none 0 0, .int .i64 0, .int .i64 0, .slice none 0 0, .slice none 0 0, .slice none 0 0, .bool false, .bool false, .int .i64 0, .slice none 0 0, .slice none 0 0, .slice none 0 0, .int .i64 0]) rfl rfl rfl BM.out Try.underlying56 rfl (by kernel_rfl) ?_))
    | ((first
        | (go_at_call 34; (with_reducible refine (hs.out _).mono ?_))
        | (go_at_call 35; (with_reducible refine (hi.out _).mono ?_))
        | (go_at_call 36; (with_reducible refine (eqNilC n0 n1 b _).mono ?_))
        | (go_at_call 37; (with_reducible refine (markNil n0 n1 b 1 _).mono ?_))
        | (go_at_call 38; (with_reducible refine (heldNil n0 n1 b 1 (by omega) _).mono ?_)));
       rintro e wn ⟨rfl, hb⟩; have n0_ := Aside0.mk (below_step HB.out hb); clear HB; have HB := n0_; clear n0_; (try (have n1_ := Aside0.mk (blk_below BK.out hb); clear BK; have BK := n1_; clear n1_)); (try (have n1_ := Aside0.mk (blk_below BL.out hb); clear BL; have BL := n1_; clear n1_)); (try (have n1_ := Aside0.mk (blk_below BM.out hb); clear BM; have BM := n1_; clear n1_)); clear hb))
  go_ret
  exact ⟨rfl, HB.out⟩
theorem law (a o : Int) (w : World) : Calls Try.prog 8 #[.int .i64 a, .int .i64 o] w fun e w' => e = .returned (.bool true) ∧ Below w.heap.size w w' := by
  by_cases h1 : 1 ≤ o ∧ o ≤ 5
  · by_cases h2 : 1 ≤ a ∧ a ≤ o
    · exact lawNew a o a o true w (fun w => specNewYes a o w h1 h2) (fun w => implNewYes a o w h1 h2)
    · exact lawNew a o 0 0 false w (fun w => specNewNo2 a o w h1 h2) (fun w => implNewNo2 a o w h1 h2)
  · exact lawNew a o 0 0 false w (fun w => specNewNo1 a o w h1) (fun w => implNewNo1 a o w h1)

end Go.Proofs.Ythnmdbjjfjkfmaa.QFnExactRecNew
