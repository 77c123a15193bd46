/- A recorder compared, mirrored and measured; conditions: its slices are readable. -/
import Derived.Test.YtaempjkefpbinaaQFnExactRecValida
namespace Go.Proofs.Ytaempjkefpbinaa.QFnExactRecValid
open Go.RowKit Go.Proofs.Ytaempjkefpbinaa.PFnExactRecValid Go.Proofs.YtaempjkefpbinaaW.PrintWords Go.Proofs.YtaempjkefpbinaaW.PrintLast Go.Proofs.YtaempjkefpbinaaW.PrintMore Go.Proofs.Ytaempjkefpbinaa.Pb Go.Proofs.Ytaempjkefpbinaa.Op Go.Proofs.Ytaempjkefpbinaa.Wk
set_option linter.unusedSimpArgs false
set_option linter.unusedVariables false

/-! ### recorders that are one and the same: the machine's side -/
theorem msgBound {w : World} {A : Option Addr} {n : Nat} {xs : List S54} (h : Kd.C k54 w A n xs) : ∀ x ∈ xs, x.f7.length ≤ 9223372036854775807 := by
  intro x hx
  obtain ⟨j, hj, rfl⟩ := List.getElem_of_mem hx
  obtain ⟨_, _, hr⟩ := h
  obtain ⟨ad, _, hc⟩ := hr (by omega)
  obtain ⟨c, _, hK, _⟩ := hc j _ (List.getElem?_eq_getElem hj)
  obtain ⟨_, _, _, _, hC⟩ := k54_open hK
  exact hC.2.1
theorem ackBound {w : World} {A : Option Addr} {n : Nat} {xs : List S66} (h : Kd.C k66 w A n xs) : ∀ x ∈ xs, x.f1.length ≤ 9223372036854775807 := by
  intro x hx
  obtain ⟨j, hj, rfl⟩ := List.getElem_of_mem hx
  obtain ⟨hn, _, hr⟩ := h
  obtain ⟨ad, _, hc⟩ := hr (by omega)
  obtain ⟨c, _, hK, _⟩ := hc j _ (List.getElem?_eq_getElem hj)
  obtain ⟨_, _, _, _, hC⟩ := k66_open hK
  exact hC.2.1

theorem eqDiskC (p n : Int) (xs : List S81) (A A' : Option Addr) (c c' : Nat) (w : World) (h1 : Kd.C k81 w A xs.length xs) (h2 : Kd.C k81 w A' xs.length xs) (hc : xs.length ≤ c) (hc' : xs.length ≤ c') :
    Calls Try.prog 35 #[.agg #[.int .i64 p, .int .i64 n, .slice A xs.length c], .agg #[.int .i64 p, .int .i64 n, .slice A' xs.length c']] w fun e w' => e = .returned (.bool true) ∧ Below w.heap.size w w' :=
  laws_eqRecDisk.calls _ p n A c xs p n A' c' xs true w h1 hc h2 hc' (eqDisk p n xs h1.2.1)
theorem eqSlotC (xs : List S81) (A A' : Option Addr) (c c' : Nat) (w : World) (h1 : Kd.C k81 w A xs.length xs) (h2 : Kd.C k81 w A' xs.length xs) (hc : xs.length ≤ c) (hc' : xs.length ≤ c') :
    Calls Try.prog 39 #[.slice A xs.length c, .slice A' xs.length c'] w fun e w' => e = .returned (.bool true) ∧ Below w.heap.size w w' :=
  laws_eqRecSlotS.calls _ A c xs A' c' xs true w h1 hc h2 hc' (eqSlotS xs h1.2.1 _ (Nat.lt_succ_self _))
theorem eqMsgC (xs : List S54) (A A' : Option Addr) (c c' : Nat) (w : World) (h1 : Kd.C k54 w A xs.length xs) (h2 : Kd.C k54 w A' xs.length xs) (hc : xs.length ≤ c) (hc' : xs.length ≤ c') :
    Calls Try.prog 36 #[.slice A xs.length c, .slice A' xs.length c'] w fun e w' => e = .returned (.bool true) ∧ Below w.heap.size w w' := by
  obtain ⟨K, hK⟩ := eqMsgS xs h1.2.1 (msgBound h1)
  exact laws_eqRecMessageS.calls K A c xs A' c' xs true w h1 hc h2 hc' (hK K (Nat.le_refl _))
theorem eqAckC (xs : List S66) (A A' : Option Addr) (c c' : Nat) (w : World) (h1 : Kd.C k66 w A xs.length xs) (h2 : Kd.C k66 w A' xs.length xs) (hc : xs.length ≤ c) (hc' : xs.length ≤ c') :
    Calls Try.prog 40 #[.slice A xs.length c, .slice A' xs.length c'] w fun e w' => e = .returned (.bool true) ∧ Below w.heap.size w w' := by
  obtain ⟨K, hK⟩ := eqAckS xs h1.2.1 (ackBound h1)
  exact laws_eqRecAckS.calls K A c xs A' c' xs true w h1 hc h2 hc' (hK K (Nat.le_refl _))
theorem eqStrC (xs : List ByteArray) (A A' : Option Addr) (c c' : Nat) (w : World) (h1 : Kd.C Kd.string w A xs.length xs) (h2 : Kd.C Kd.string w A' xs.length xs) (hc : xs.length ≤ c) (hc' : xs.length ≤ c') :
    Calls Try.prog 37 #[.slice A xs.length c, .slice A' xs.length c'] w fun e w' => e = .returned (.bool true) ∧ Below w.heap.size w w' :=
  (laws_eqStringS.calls _ A c xs A' c' xs true w h1 hc h2 hc' (eqStrS xs h1.2.1 _ (Nat.lt_succ_self _))).mono fun _ _ ⟨h, hd⟩ => ⟨h, hd.below⟩
theorem eqNumC (xs : List Int) (A A' : Option Addr) (c c' : Nat) (w : World) (h1 : Kd.C (Kd.int .i64) w A xs.length xs) (h2 : Kd.C (Kd.int .i64) w A' xs.length xs) (hc : xs.length ≤ c) (hc' : xs.length ≤ c') :
    Calls Try.prog 38 #[.slice A xs.length c, .slice A' xs.length c'] w fun e w' => e = .returned (.bool true) ∧ Below w.heap.size w w' :=
  (laws_eqIntS.calls _ A c xs A' c' xs true w h1 hc h2 hc' (eqNumS xs h1.2.1 _ (Nat.lt_succ_self _))).mono fun _ _ ⟨h, hd⟩ => ⟨h, hd.below⟩

set_option maxHeartbeats 8000000 in
set_option maxRecDepth 100000 in
theorem eqRecorderC (n0 n1 n3 n4 n6 n7 n13 n17 : Int) (b2 b11 b12 : Bool) (x5 x8 x15 : List S81) (x9 : List S54) (x10 : List ByteArray) (x14 : List Int) (x16 : List S66)
    (v5 v8 v9 v10 v14 v15 v16 u5 u8 u9 u10 u14 u15 u16 : Value) (w : World)
    (h5 : Sl 81 k81 w x5 v5) (h8 : Sl 81 k81 w x8 v8) (h9 : Sl 54 k54 w x9 v9) (h10 : Sl 9 Kd.string w x10 v10) (h14 : Sl 3 (Kd.int .i64) w x14 v14) (h15 : Sl 81 k81 w x15 v15) (h16 : Sl 66 k66 w x16 v16)
    (g5 : Sl 81 k81 w x5 u5) (g8 : Sl 81 k81 w x8 u8) (g9 : Sl 54 k54 w x9 u9) (g10 : Sl 9 Kd.string w x10 u10) (g14 : Sl 3 (Kd.int .i64) w x14 u14) (g15 : Sl 81 k81 w x15 u15) (g16 : Sl 66 k66 w x16 u16) :
    Calls Try.prog 8 #[.agg #[.int .i64 n0, .int .i64 n1, .bool b2, .int .i64 n3, .int .i64 n4, v5, .int .i64 n6, .int .i64 n7, v8, v9, v10, .bool b11, .bool b12, .int .i64 n13, v14, v15, v16, .int .i64 n17],
      .agg #[.int .i64 n0, .int .i64 n1, .bool b2, .int .i64 n3, .int .i64 n4, u5, .int .i64 n6, .int .i64 n7, u8, u9, u10, .bool b11, .bool b12, .int .i64 n13, u14, u15, u16, .int .i64 n17]] w fun e w' => e = .returned (.bool true) ∧ Below w.heap.size w w' := by
  have hu1 := Try.underlying39
  have hu2 := Try.underlying35
  obtain ⟨A5, c5, rfl, l5, C5⟩ := h5
  obtain ⟨A8, c8, rfl, l8, C8⟩ := h8
  obtain ⟨A9, c9, rfl, l9, C9⟩ := h9
  obtain ⟨A10, c10, rfl, l10, C10⟩ := h10
  obtain ⟨A14, c14, rfl, l14, C14⟩ := h14
  obtain ⟨A15, c15, rfl, l15, C15⟩ := h15
  obtain ⟨A16, c16, rfl, l16, C16⟩ := h16
  obtain ⟨B5, d5, rfl, m5, D5⟩ := g5
  obtain ⟨B8, d8, rfl, m8, D8⟩ := g8
  obtain ⟨B9, d9, rfl, m9, D9⟩ := g9
  obtain ⟨B10, d10, rfl, m10, D10⟩ := g10
  obtain ⟨B14, d14, rfl, m14, D14⟩ := g14
  obtain ⟨B15, d15, rfl, m15, D15⟩ := g15
  obtain ⟨B16, d16, rfl, m16, D16⟩ := g16
  have F := Aside0.mk (And.intro (And.intro (And.intro C5 l5) (And.intro C8 l8)) (And.intro (And.intro (And.intro C9 l9) (And.intro C10 l10)) (And.intro (And.intro C14 l14) (And.intro (And.intro C15 l15) (And.intro C16 l16)))))
  have G := Aside0.mk (And.intro (And.intro (And.intro D5 m5) (And.intro D8 m8)) (And.intro (And.intro (And.intro D9 m9) (And.intro D10 m10)) (And.intro (And.intro D14 m14) (And.intro (And.intro D15 m15) (And.intro D16 m16)))))
  clear C5 l5 C8 l8 C9 l9 C10 l10 C14 l14 C15 l15 C16 l16 D5 m5 D8 m8 D9 m9 D10 m10 D14 m14 D15 m15 D16 m16
  have HB := Aside0.mk (Below.refl w.heap.size w)
  go_enter Try.func8, Try.ntmps8
  go_wp2_with (first
    | ((with_reducible refine gate_dst (N := 2) rfl ?_); refine box_event ?hg (N := 2) ?hd (cs := #[.int .i64 n0, .int .i64 n1, .bool b2, .int .i64 n3, .int .i64 n4, .slice A5 x5.length c5, .int .i64 n6, .int .i64 n7, .slice A8 x8.length c8, .slice A9 x9.length c9, .slice A10 x10.length c10, .bool b11, .bool b12, .int .i64 n13, .slice A14 x14.length c14, .slice A15 x15.length c15, .slice A16 x16.length c16, .int .i64 n17]) (t := 39) ?hr ?_; (case hd => rfl); (case hg => rfl); (case hr => first | (go_simp; done) | (go_simp; rfl)); intro ga _hg w1 hbox hb; have n0_ := Aside0.mk (below_step HB.out hb); clear HB; have HB := n0_; clear n0_; have BA := Aside0.mk hbox; clear hb hbox _hg; have ra := blk_cell BA.out)
    | ((with_reducible refine gate_dst (N := 3) rfl ?_); refine box_event ?hg (N := 3) ?hd (cs := #[.int .i64 n0, .int .i64 n1, .bool b2, .int .i64 n3, .int .i64 n4, .slice B5 x5.length d5, .int .i64 n6, .int .i64 n7, .slice B8 x8.length d8, .slice B9 x9.length d9, .slice B10 x10.length d10, .bool b11, .bool b12, .int .i64 n13, .slice B14 x14.length d14, .slice B15 x15.length d15, .slice B16 x16.length d16, .int .i64 n17]) (t := 39) ?hr ?_; (case hd => rfl); (case hg => rfl); (case hr => first | (go_simp; done) | (go_simp; rfl)); intro gb _hg w2 hbox hb; have n0_ := Aside0.mk (below_step HB.out hb); have n1_ := Aside0.mk (blk_below BA.out hb); clear HB BA; have HB := n0_; have BA := n1_; clear n0_ n1_ ra; have BB := Aside0.mk hbox; clear hb hbox _hg; have ra := blk_cell BA.out; have rb := blk_cell BB.out)
    | ((first
        | (go_at_call 35; (first | (with_reducible refine (eqDiskC _ _ _ _ _ _ _ _ (Kd.C_below F.out.1.1.1 HB.out) (Kd.C_below G.out.1.1.1 HB.out) F.out.1.1.2 G.out.1.1.2).mono ?_) | (with_reducible refine (eqDiskC _ _ _ _ _ _ _ _ (Kd.C_below F.out.1.2.1 HB.out) (Kd.C_below G.out.1.2.1 HB.out) F.out.1.2.2 G.out.1.2.2).mono ?_)))
        | (go_at_call 36; (with_reducible refine (eqMsgC _ _ _ _ _ _ (Kd.C_below F.out.2.1.1.1 HB.out) (Kd.C_below G.out.2.1.1.1 HB.out) F.out.2.1.1.2 G.out.2.1.1.2).mono ?_))
        | (go_at_call 37; (with_reducible refine (eqStrC _ _ _ _ _ _ (Kd.C_below F.out.2.1.2.1 HB.out) (Kd.C_below G.out.2.1.2.1 HB.out) F.out.2.1.2.2 G.out.2.1.2.2).mono ?_))
        | (go_at_call 38; (with_reducible refine (eqNumC _ _ _ _ _ _ (Kd.C_below F.out.2.2.1.1 HB.out) (Kd.C_below G.out.2.2.1.1 HB.out) F.out.2.2.1.2 G.out.2.2.1.2).mono ?_))
        | (go_at_call 39; (with_reducible refine (eqSlotC _ _ _ _ _ _ (Kd.C_below F.out.2.2.2.1.1 HB.out) (Kd.C_below G.out.2.2.2.1.1 HB.out) F.out.2.2.2.1.2 G.out.2.2.2.1.2).mono ?_))
        | (go_at_call 40; (with_reducible refine (eqAckC _ _ _ _ _ _ (Kd.C_below F.out.2.2.2.2.1 HB.out) (Kd.C_below G.out.2.2.2.2.1 HB.out) F.out.2.2.2.2.2 G.out.2.2.2.2.2).mono ?_)));
       rintro e wn ⟨rfl, hb⟩; have n0_ := Aside0.mk (below_step HB.out hb); have n1_ := Aside0.mk (blk_below BA.out hb); have n2_ := Aside0.mk (blk_below BB.out hb); clear HB BA BB; have HB := n0_; have BA := n1_; have BB := n2_; clear n0_ n1_ n2_ ra rb; clear hb; have ra := blk_cell BA.out; have rb := blk_cell BB.out))
  go_ret
  exact ⟨rfl, HB.out⟩

/-! ### a recorder's mirror: the machine's side -/
theorem from_R {α : Type} {d : Kd α} {e : Nat} {w : World} {base g : Nat} {v : Value} {xs : List α} (h : d.R e w base (fun _ => True) v xs) (hg : g < base) : d.R e w base (fun k => g < k) v xs := Kd.R_mono (Kd.R_bound h) (fun _ hk => Nat.lt_of_lt_of_le hg hk.2.1)
theorem from_S {α : Type} {d : Kd α} {e : Nat} {w : World} {base g : Nat} {v : Value} {xs : List α} (h : d.S e w base (fun _ => True) v xs) (hg : g < base) : d.R e w base (fun k => g < k) v xs := from_R (Kd.S_R h) hg
theorem oneL1 {u : Value} (h : u.oneCell' = true) : ∀ x ∈ [u], x.oneCell' = true := by
  intro x hx
  rw [List.mem_singleton] at hx
  rw [hx]
  exact h
theorem oneL3 {u v w : Value} (h : u.oneCell' = true) (h1 : v.oneCell' = true) (h2 : w.oneCell' = true) : ∀ x ∈ [u, v, w], x.oneCell' = true := by
  intro x hx
  simp only [List.mem_cons, List.not_mem_nil, or_false] at hx
  rcases hx with rfl | rfl | rfl
  · exact h
  · exact h1
  · exact h2
theorem toDiskC (p n : Int) (xs : List S78) (A : Option Addr) (c : Nat) (W : World) (hC : Kd.C k78 W A xs.length xs) (hc : xs.length ≤ c) (hl : xs.length ≤ 1048576) (g : Nat) (hg : g < W.heap.size) :
    Calls Try.prog 23 #[.agg #[.int .i64 p, .int .i64 n, .slice A xs.length c]] W fun e w' => ∃ v, e = .returned (.agg #[.int .i64 p, .int .i64 n, v]) ∧ Kd.R k81 81 w' W.heap.size (fun k => g < k) v (xs.map mSlot) ∧ Below W.heap.size W w' :=
  (laws_toRecDisk.calls (xs.length + 1) p n A c xs p n (xs.map mSlot) W hC hc (by unfold laws_toRecDisk.f; rw [toSlotS xs hl _ (by omega)]; rfl)).mono fun _ _ ⟨v, h1, h2, h3⟩ => ⟨v, h1, from_R h2 hg, h3⟩
theorem toSlotC (xs : List S78) (A : Option Addr) (c : Nat) (W : World) (hC : Kd.C k78 W A xs.length xs) (hc : xs.length ≤ c) (hl : xs.length ≤ 1048576) (g : Nat) (hg : g < W.heap.size) :
    Calls Try.prog 27 #[.slice A xs.length c] W fun e w' => ∃ v, e = .returned v ∧ Kd.R k81 81 w' W.heap.size (fun k => g < k) v (xs.map mSlot) ∧ Below W.heap.size W w' :=
  (laws_toRecSlotS.calls (xs.length + 1) A c xs (xs.map mSlot) W hC hc (toSlotS xs hl _ (by omega))).mono fun _ _ ⟨v, h1, h2, h3⟩ => ⟨v, h1, from_R h2 hg, h3⟩
theorem toStrC (xs : List ByteArray) (A : Option Addr) (c : Nat) (W : World) (hC : Kd.C Kd.string W A xs.length xs) (hc : xs.length ≤ c) (hl : xs.length ≤ 1048576) (g : Nat) (hg : g < W.heap.size) :
    Calls Try.prog 25 #[.slice A xs.length c] W fun e w' => ∃ v, e = .returned v ∧ Kd.R Kd.string 9 w' W.heap.size (fun k => g < k) v xs ∧ Below W.heap.size W w' :=
  (laws_toStringS.calls (xs.length + 1) A c xs xs W hC hc (toStr xs hl _ (by omega))).mono fun _ _ ⟨v, h1, h2, h3⟩ => ⟨v, h1, from_R h2 hg, h3⟩
theorem toNumC (xs : List Int) (A : Option Addr) (c : Nat) (W : World) (hC : Kd.C (Kd.int .i64) W A xs.length xs) (hc : xs.length ≤ c) (hl : xs.length ≤ 1048576) (g : Nat) (hg : g < W.heap.size) :
    Calls Try.prog 26 #[.slice A xs.length c] W fun e w' => ∃ v, e = .returned v ∧ Kd.R (Kd.int .i64) 3 w' W.heap.size (fun k => g < k) v xs ∧ Below W.heap.size W w' :=
  (laws_toIntS.calls (xs.length + 1) A c xs xs W hC hc (toNum xs hl _ (by omega))).mono fun _ _ ⟨v, h1, h2, h3⟩ => ⟨v, h1, from_R h2 hg, h3⟩
theorem toMsgC (xs : List S75) (A : Option Addr) (c : Nat) (W : World) (hC : Kd.C k75 W A xs.length xs) (hc : xs.length ≤ c) (hl : xs.length ≤ 1048576) (hm : ∀ x ∈ xs, x.f7.length ≤ 1048576) (g : Nat) (hg : g < W.heap.size) :
    Calls Try.prog 24 #[.slice A xs.length c] W fun e w' => ∃ v, e = .returned v ∧ Kd.R k54 54 w' W.heap.size (fun k => g < k) v (xs.map mMsg) ∧ Below W.heap.size W w' :=
  (laws_toRecMessageS.calls (xs.length + 1048578) A c xs (xs.map mMsg) W hC hc (toMsgS xs hl hm _ (by omega))).mono fun _ _ ⟨v, h1, h2, h3⟩ => ⟨v, h1, from_S h2 hg, h3⟩
theorem toAckC (xs : List S80) (A : Option Addr) (c : Nat) (W : World) (hC : Kd.C k80 W A xs.length xs) (hc : xs.length ≤ c) (hl : xs.length ≤ 1048576) (hm : ∀ x ∈ xs, x.f1.length ≤ 1048576) (g : Nat) (hg : g < W.heap.size) :
    Calls Try.prog 28 #[.slice A xs.length c] W fun e w' => ∃ v, e = .returned v ∧ Kd.R k66 66 w' W.heap.size (fun k => g < k) v (xs.map mAck) ∧ Below W.heap.size W w' :=
  (laws_toRecAckS.calls (xs.length + 1048578) A c xs (xs.map mAck) W hC hc (toAckS xs hl hm _ (by omega))).mono fun _ _ ⟨v, h1, h2, h3⟩ => ⟨v, h1, from_S h2 hg, h3⟩
set_option maxHeartbeats 16000000 in
set_option maxRecDepth 100000 in
theorem toRecorderC (n0 o n3 n4 n6 n7 n13 n17 : Int) (b2 L T : Bool) (x5 : List S78) (x8 : List S78) (x9 : List S75) (x10 : List ByteArray) (x14 : List Int) (x15 : List S78) (x16 : List S80) (A5 A8 A9 A10 A14 A15 A16 : Option Addr) (c5 c8 c9 c10 c14 c15 c16 : Nat) (w : World)
    (h5 : Kd.C k78 w A5 x5.length x5) (l5 : x5.length ≤ c5) (m5 : x5.length ≤ 1048576) (h8 : Kd.C k78 w A8 x8.length x8) (l8 : x8.length ≤ c8) (m8 : x8.length ≤ 1048576) (h9 : Kd.C k75 w A9 x9.length x9) (l9 : x9.length ≤ c9) (m9 : x9.length ≤ 1048576) (h10 : Kd.C Kd.string w A10 x10.length x10) (l10 : x10.length ≤ c10) (m10 : x10.length ≤ 1048576) (h14 : Kd.C (Kd.int .i64) w A14 x14.length x14) (l14 : x14.length ≤ c14) (m14 : x14.length ≤ 1048576) (h15 : Kd.C k78 w A15 x15.length x15) (l15 : x15.length ≤ c15) (m15 : x15.length ≤ 1048576) (h16 : Kd.C k80 w A16 x16.length x16) (l16 : x16.length ≤ c16) (m16 : x16.length ≤ 1048576) (mm : ∀ x ∈ x9, x.f7.length ≤ 1048576) (ma : ∀ x ∈ x16, x.f1.length ≤ 1048576) :
    Calls Try.prog 6 #[.agg #[.int .i64 n0, .int .i64 o, .bool b2, .int .i64 n3, .int .i64 n4, .slice A5 x5.length c5, .int .i64 n6, .int .i64 n7, .slice A8 x8.length c8, .slice A9 x9.length c9, .slice A10 x10.length c10, .bool L, .bool T, .int .i64 n13, .slice A14 x14.length c14, .slice A15 x15.length c15, .slice A16 x16.length c16, .int .i64 n17]] w fun e w' => ∃ v5 v8 v9 v10 v14 v15 v16, e = .returned (.agg #[.int .i64 n0, .int .i64 o, .bool b2, .int .i64 n3, .int .i64 n4, v5, .int .i64 n6, .int .i64 n7, v8, v9, v10, .bool L, .bool T, .int .i64 n13, v14, v15, v16, .int .i64 n17]) ∧ (Sl 81 k81 w' (x5.map mSlot) v5 ∧ Sl 81 k81 w' (x8.map mSlot) v8 ∧ Sl 54 k54 w' (x9.map mMsg) v9 ∧ Sl 9 Kd.string w' (x10) v10 ∧ Sl 3 (Kd.int .i64) w' (x14) v14 ∧ Sl 81 k81 w' (x15.map mSlot) v15 ∧ Sl 66 k66 w' (x16.map mAck) v16) ∧ Below w.heap.size w w' := by
  have hu1 := Try.underlying39
  have hu2 := Try.underlying35
  have hu3 := Try.underlying30
  have hu4 := Try.underlying24
  have H5 := Aside0.mk (And.intro h5 (And.intro l5 m5))
  have H8 := Aside0.mk (And.intro h8 (And.intro l8 m8))
  have H9 := Aside0.mk (And.intro h9 (And.intro l9 m9))
  have H10 := Aside0.mk (And.intro h10 (And.intro l10 m10))
  have H14 := Aside0.mk (And.intro h14 (And.intro l14 m14))
  have H15 := Aside0.mk (And.intro h15 (And.intro l15 m15))
  have H16 := Aside0.mk (And.intro h16 (And.intro l16 m16))
  have MM := Aside0.mk (And.intro mm ma)
  clear h5 l5 m5 h8 l8 m8 h9 l9 m9 h10 l10 m10 h14 l14 m14 h15 l15 m15 h16 l16 m16 mm ma
  have HB := Aside0.mk (Below.refl w.heap.size w)
  have F5 := Aside0.mk trivial
  have F8 := Aside0.mk trivial
  have F9 := Aside0.mk trivial
  have F10 := Aside0.mk trivial
  have F14 := Aside0.mk trivial
  have F15 := Aside0.mk trivial
  have F16 := Aside0.mk trivial
  have BN := Aside0.mk trivial
  have BC := Aside0.mk trivial
  go_enter Try.func6, Try.ntmps6
  go_wp2_with (first
    | ((with_reducible refine gate_dst (N := 1) rfl ?_); refine box_event ?hg (N := 1) ?hd (cs := #[.int .i64 n0, .int .i64 o, .bool b2, .int .i64 n3, .int .i64 n4, .slice A5 x5.length c5, .int .i64 n6, .int .i64 n7, .slice A8 x8.length c8, .slice A9 x9.length c9, .slice A10 x10.length c10, .bool L, .bool T, .int .i64 n13, .slice A14 x14.length c14, .slice A15 x15.length c15, .slice A16 x16.length c16, .int .i64 n17]) (t := 30) ?hr ?_; (case hd => rfl); (case hg => rfl); (case hr => first | (go_simp; done) | (go_simp; rfl)); intro gp hgp w1 hbox hb; have n_ := Aside0.mk (below_step HB.out hb); clear HB; have HB := n_; clear n_; have BP := Aside0.mk hbox; clear hb hbox; have rp := blk_cell BP.out; clear hgp)
    | ((with_reducible refine gate_dst (N := 2) rfl ?_); refine box_event ?hg (N := 2) ?hd (cs := #[.int .i64 0, .int .i64 0, .bool false, .int .i64 0, .int .i64 0, .slice none 0 0, .int .i64 0, .int .i64 0, .slice none 0 0, .slice none 0 0, .slice none 0 0, .bool false, .bool false, .int .i64 0, .slice none 0 0, .slice none 0 0, .slice none 0 0, .int .i64 0]) (t := 39) ?hr ?_; (case hd => rfl); (case hg => rfl); (case hr => first | (go_simp; done) | (go_simp; rfl)); intro gb hgb w1 hbox hb; have lpb := Aside0.mk (Nat.lt_of_lt_of_le (blk_lt BP.out) (Nat.le_of_eq hgb.symm)); have geb := Aside0.mk (Nat.le_trans (below_size HB.out) (Nat.le_of_eq hgb.symm)); have n_ := Aside0.mk (below_step HB.out hb); clear HB; have HB := n_; clear n_; have n_ := Aside0.mk (blk_below BP.out hb); clear BP; have BP := n_; clear n_; clear BN; have BN := Aside0.mk hbox; clear hb hbox; (try clear rp); have rp := blk_cell BP.out; clear hgb)
    | ((with_reducible refine gate_dst (N := 3) rfl ?_); refine box_event ?hg (N := 3) ?hd (cs := #[.int .i64 0, .int .i64 0, .bool false, .int .i64 0, .int .i64 0, .slice none 0 0, .int .i64 0, .int .i64 0, .slice none 0 0, .slice none 0 0, .slice none 0 0, .bool false, .bool false, .int .i64 0, .slice none 0 0, .slice none 0 0, .slice none 0 0, .int .i64 0]) (t := 39) ?hr ?_; (case hd => rfl); (case hg => rfl); (case hr => first | (go_simp; done) | (go_simp; rfl)); intro gc hgc w1 hbox hb; have lbc := Aside0.mk (Nat.lt_of_lt_of_le (blk_lt BN.out) (Nat.le_of_eq hgc.symm)); have gec := Aside0.mk (Nat.le_trans (below_size HB.out) (Nat.le_of_eq hgc.symm)); have n_ := Aside0.mk (below_step HB.out hb); clear HB; have HB := n_; clear n_; have n_ := Aside0.mk (blk_below BP.out hb); clear BP; have BP := n_; clear n_; have n_ := Aside0.mk (blk_below BN.out hb); clear BN; have BN := n_; clear n_; clear BC; have BC := Aside0.mk hbox; clear hb hbox; (try clear rp); have rp := blk_cell BP.out; clear hgc)
    | ((with_reducible refine gate_store (t := 3) (p := 6) (v := .tmp 5) rfl ?_); refine store_part (ty := 3) (t := 39) (g := gc) (off := 0) (v := .int .i64 n0) (cs := [.int .i64 n0]) (old := #[.int .i64 0, .int .i64 0, .bool false, .int .i64 0, .int .i64 0, .slice none 0 0, .int .i64 0, .int .i64 0, .slice none 0 0, .slice none 0 0, .slice none 0 0, .bool false, .bool false, .int .i64 0, .slice none 0 0, .slice none 0 0, .slice none 0 0, .int .i64 0]) (new := #[.int .i64 n0, .int .i64 0, .bool false, .int .i64 0, .int .i64 0, .slice none 0 0, .int .i64 0, .int .i64 0, .slice none 0 0, .slice none 0 0, .slice none 0 0, .bool false, .bool false, .int .i64 0, .slice none 0 0, .slice none 0 0, .slice none 0 0, .int .i64 0]) rfl rfl rfl rfl rfl rfl BC.out (by kernel_rfl) (Nat.le_of_ble_eq_true rfl) (oneL1 rfl) rfl ?_; intro w9 hbox hg; have n_ := Aside0.mk (below_grow HB.out hg gec.out); clear HB; have HB := n_; clear n_; have n_ := Aside0.mk (blk_grown BP.out hg (fun e_ => absurd (Option.some.inj e_) (Nat.ne_of_lt (Nat.lt_trans lpb.out lbc.out)))); clear BP; have BP := n_; clear n_; have n_ := Aside0.mk (blk_grown BN.out hg (fun e_ => absurd (Option.some.inj e_) (Nat.ne_of_lt lbc.out))); clear BN; have BN := n_; clear n_; (try (have n_ := Aside0.mk (Kd.R_grown F5.out hg (fun k_ hk_ e_ => absurd (Option.some.inj e_) (Nat.ne_of_gt hk_))); clear F5; have F5 := n_; clear n_)); (try (have n_ := Aside0.mk (Kd.R_grown F8.out hg (fun k_ hk_ e_ => absurd (Option.some.inj e_) (Nat.ne_of_gt hk_))); clear F8; have F8 := n_; clear n_)); (try (have n_ := Aside0.mk (Kd.R_grown F9.out hg (fun k_ hk_ e_ => absurd (Option.some.inj e_) (Nat.ne_of_gt hk_))); clear F9; have F9 := n_; clear n_)); (try (have n_ := Aside0.mk (Kd.R_grown F10.out hg (fun k_ hk_ e_ => absurd (Option.some.inj e_) (Nat.ne_of_gt hk_))); clear F10; have F10 := n_; clear n_)); (try (have n_ := Aside0.mk (Kd.R_grown F14.out hg (fun k_ hk_ e_ => absurd (Option.some.inj e_) (Nat.ne_of_gt hk_))); clear F14; have F14 := n_; clear n_)); (try (have n_ := Aside0.mk (Kd.R_grown F15.out hg (fun k_ hk_ e_ => absurd (Option.some.inj e_) (Nat.ne_of_gt hk_))); clear F15; have F15 := n_; clear n_)); (try (have n_ := Aside0.mk (Kd.R_grown F16.out hg (fun k_ hk_ e_ => absurd (Option.some.inj e_) (Nat.ne_of_gt hk_))); clear F16; have F16 := n_; clear n_)); clear BC; have BC := Aside0.mk hbox; clear hbox hg; (try clear rp); have rp := blk_cell BP.out)
    | ((with_reducible refine gate_store (t := 3) (p := 9) (v := .tmp 8) rfl ?_); refine store_part (ty := 3) (t := 39) (g := gc) (off := 1) (v := .int .i64 o) (cs := [.int .i64 o]) (old := #[.int .i64 n0, .int .i64 0, .bool false, .int .i64 0, .int .i64 0, .slice none 0 0, .int .i64 0, .int .i64 0, .slice none 0 0, .slice none 0 0, .slice none 0 0, .bool false, .bool false, .int .i64 0, .slice none 0 0, .slice none 0 0, .slice none 0 0, .int .i64 0]) (new := #[.int .i64 n0, .int .i64 o, .bool false, .int .i64 0, .int .i64 0, .slice none 0 0, .int .i64 0, .int .i64 0, .slice none 0 0, .slice none 0 0, .slice none 0 0, .bool false, .bool false, .int .i64 0, .slice none 0 0, .slice none 0 0, .slice none 0 0, .int .i64 0]) rfl rfl rfl rfl rfl rfl BC.out (by kernel_rfl) (Nat.le_of_ble_eq_true rfl) (oneL1 rfl) rfl ?_; intro w9 hbox hg; have n_ := Aside0.mk (below_grow HB.out hg gec.out); clear HB; have HB := n_; clear n_; have n_ := Aside0.mk (blk_grown BP.out hg (fun e_ => absurd (Option.some.inj e_) (Nat.ne_of_lt (Nat.lt_trans lpb.out lbc.out)))); clear BP; have BP := n_; clear n_; have n_ := Aside0.mk (blk_grown BN.out hg (fun e_ => absurd (Option.some.inj e_) (Nat.ne_of_lt lbc.out))); clear BN; have BN := n_; clear n_; (try (have n_ := Aside0.mk (Kd.R_grown F5.out hg (fun k_ hk_ e_ => absurd (Option.some.inj e_) (Nat.ne_of_gt hk_))); clear F5; have F5 := n_; clear n_)); (try (have n_ := Aside0.mk (Kd.R_grown F8.out hg (fun k_ hk_ e_ => absurd (Option.some.inj e_) (Nat.ne_of_gt hk_))); clear F8; have F8 := n_; clear n_)); (try (have n_ := Aside0.mk (Kd.R_grown F9.out hg (fun k_ hk_ e_ => absurd (Option.some.inj e_) (Nat.ne_of_gt hk_))); clear F9; have F9 := n_; clear n_)); (try (have n_ := Aside0.mk (Kd.R_grown F10.out hg (fun k_ hk_ e_ => absurd (Option.some.inj e_) (Nat.ne_of_gt hk_))); clear F10; have F10 := n_; clear n_)); (try (have n_ := Aside0.mk (Kd.R_grown F14.out hg (fun k_ hk_ e_ => absurd (Option.some.inj e_) (Nat.ne_of_gt hk_))); clear F14; have F14 := n_; clear n_)); (try (have n_ := Aside0.mk (Kd.R_grown F15.out hg (fun k_ hk_ e_ => absurd (Option.some.inj e_) (Nat.ne_of_gt hk_))); clear F15; have F15 := n_; clear n_)); (try (have n_ := Aside0.mk (Kd.R_grown F16.out hg (fun k_ hk_ e_ => absurd (Option.some.inj e_) (Nat.ne_of_gt hk_))); clear F16; have F16 := n_; clear n_)); clear BC; have BC := Aside0.mk hbox; clear hbox hg; (try clear rp); have rp := blk_cell BP.out)
    | ((with_reducible refine gate_store (t := 4) (p := 12) (v := .tmp 11) rfl ?_); refine store_part (ty := 4) (t := 39) (g := gc) (off := 2) (v := .bool b2) (cs := [.bool b2]) (old := #[.int .i64 n0, .int .i64 o, .bool false, .int .i64 0, .int .i64 0, .slice none 0 0, .int .i64 0, .int .i64 0, .slice none 0 0, .slice none 0 0, .slice none 0 0, .bool false, .bool false, .int .i64 0, .slice none 0 0, .slice none 0 0, .slice none 0 0, .int .i64 0]) (new := #[.int .i64 n0, .int .i64 o, .bool b2, .int .i64 0, .int .i64 0, .slice none 0 0, .int .i64 0, .int .i64 0, .slice none 0 0, .slice none 0 0, .slice none 0 0, .bool false, .bool false, .int .i64 0, .slice none 0 0, .slice none 0 0, .slice none 0 0, .int .i64 0]) rfl rfl rfl rfl rfl rfl BC.out (by kernel_rfl) (Nat.le_of_ble_eq_true rfl) (oneL1 rfl) rfl ?_; intro w9 hbox hg; have n_ := Aside0.mk (below_grow HB.out hg gec.out); clear HB; have HB := n_; clear n_; have n_ := Aside0.mk (blk_grown BP.out hg (fun e_ => absurd (Option.some.inj e_) (Nat.ne_of_lt (Nat.lt_trans lpb.out lbc.out)))); clear BP; have BP := n_; clear n_; have n_ := Aside0.mk (blk_grown BN.out hg (fun e_ => absurd (Option.some.inj e_) (Nat.ne_of_lt lbc.out))); clear BN; have BN := n_; clear n_; (try (have n_ := Aside0.mk (Kd.R_grown F5.out hg (fun k_ hk_ e_ => absurd (Option.some.inj e_) (Nat.ne_of_gt hk_))); clear F5; have F5 := n_; clear n_)); (try (have n_ := Aside0.mk (Kd.R_grown F8.out hg (fun k_ hk_ e_ => absurd (Option.some.inj e_) (Nat.ne_of_gt hk_))); clear F8; have F8 := n_; clear n_)); (try (have n_ := Aside0.mk (Kd.R_grown F9.out hg (fun k_ hk_ e_ => absurd (Option.some.inj e_) (Nat.ne_of_gt hk_))); clear F9; have F9 := n_; clear n_)); (try (have n_ := Aside0.mk (Kd.R_grown F10.out hg (fun k_ hk_ e_ => absurd (Option.some.inj e_) (Nat.ne_of_gt hk_))); clear F10; have F10 := n_; clear n_)); (try (have n_ := Aside0.mk (Kd.R_grown F14.out hg (fun k_ hk_ e_ => absurd (Option.some.inj e_) (Nat.ne_of_gt hk_))); clear F14; have F14 := n_; clear n_)); (try (have n_ := Aside0.mk (Kd.R_grown F15.out hg (fun k_ hk_ e_ => absurd (Option.some.inj e_) (Nat.ne_of_gt hk_))); clear F15; have F15 := n_; clear n_)); (try (have n_ := Aside0.mk (Kd.R_grown F16.out hg (fun k_ hk_ e_ => absurd (Option.some.inj e_) (Nat.ne_of_gt hk_))); clear F16; have F16 := n_; clear n_)); clear BC; have BC := Aside0.mk hbox; clear hbox hg; (try clear rp); have rp := blk_cell BP.out)
    | ((with_reducible refine gate_store (t := 35) (p := 16) (v := .tmp 15) rfl ?_); refine store_part (ty := 35) (t := 39) (g := gc) (off := 3) (v := .agg #[.int .i64 n3, .int .i64 n4, v5]) (cs := [.int .i64 n3, .int .i64 n4, v5]) (old := #[.int .i64 n0, .int .i64 o, .bool b2, .int .i64 0, .int .i64 0, .slice none 0 0, .int .i64 0, .int .i64 0, .slice none 0 0, .slice none 0 0, .slice none 0 0, .bool false, .bool false, .int .i64 0, .slice none 0 0, .slice none 0 0, .slice none 0 0, .int .i64 0]) (new := #[.int .i64 n0, .int .i64 o, .bool b2, .int .i64 n3, .int .i64 n4, v5, .int .i64 0, .int .i64 0, .slice none 0 0, .slice none 0 0, .slice none 0 0, .bool false, .bool false, .int .i64 0, .slice none 0 0, .slice none 0 0, .slice none 0 0, .int .i64 0]) rfl rfl rfl rfl rfl rfl BC.out (by kernel_rfl) (Nat.le_of_ble_eq_true rfl) (oneL3 rfl rfl (Kd.R_val F5.out).2) rfl ?_; intro w9 hbox hg; have n_ := Aside0.mk (below_grow HB.out hg gec.out); clear HB; have HB := n_; clear n_; have n_ := Aside0.mk (blk_grown BP.out hg (fun e_ => absurd (Option.some.inj e_) (Nat.ne_of_lt (Nat.lt_trans lpb.out lbc.out)))); clear BP; have BP := n_; clear n_; have n_ := Aside0.mk (blk_grown BN.out hg (fun e_ => absurd (Option.some.inj e_) (Nat.ne_of_lt lbc.out))); clear BN; have BN := n_; clear n_; (try (have n_ := Aside0.mk (Kd.R_grown F5.out hg (fun k_ hk_ e_ => absurd (Option.some.inj e_) (Nat.ne_of_gt hk_))); clear F5; have F5 := n_; clear n_)); (try (have n_ := Aside0.mk (Kd.R_grown F8.out hg (fun k_ hk_ e_ => absurd (Option.some.inj e_) (Nat.ne_of_gt hk_))); clear F8; have F8 := n_; clear n_)); (try (have n_ := Aside0.mk (Kd.R_grown F9.out hg (fun k_ hk_ e_ => absurd (Option.some.inj e_) (Nat.ne_of_gt hk_))); clear F9; have F9 := n_; clear n_)); (try (have n_ := Aside0.mk (Kd.R_grown F10.out hg (fun k_ hk_ e_ => absurd (Option.some.inj e_) (Nat.ne_of_gt hk_))); clear F10; have F10 := n_; clear n_)); (try (have n_ := Aside0.mk (Kd.R_grown F14.out hg (fun k_ hk_ e_ => absurd (Option.some.inj e_) (Nat.ne_of_gt hk_))); clear F14; have F14 := n_; clear n_)); (try (have n_ := Aside0.mk (Kd.R_grown F15.out hg (fun k_ hk_ e_ => absurd (Option.some.inj e_) (Nat.ne_of_gt hk_))); clear F15; have F15 := n_; clear n_)); (try (have n_ := Aside0.mk (Kd.R_grown F16.out hg (fun k_ hk_ e_ => absurd (Option.some.inj e_) (Nat.ne_of_gt hk_))); clear F16; have F16 := n_; clear n_)); clear BC; have BC := Aside0.mk hbox; clear hbox hg; (try clear rp); have rp := blk_cell BP.out)
    | ((with_reducible refine gate_store (t := 35) (p := 20) (v := .tmp 19) rfl ?_); refine store_part (ty := 35) (t := 39) (g := gc) (off := 6) (v := .agg #[.int .i64 n6, .int .i64 n7, v8]) (cs := [.int .i64 n6, .int .i64 n7, v8]) (old := #[.int .i64 n0, .int .i64 o, .bool b2, .int .i64 n3, .int .i64 n4, v5, .int .i64 0, .int .i64 0, .slice none 0 0, .slice none 0 0, .slice none 0 0, .bool false, .bool false, .int .i64 0, .slice none 0 0, .slice none 0 0, .slice none 0 0, .int .i64 0]) (new := #[.int .i64 n0, .int .i64 o, .bool b2, .int .i64 n3, .int .i64 n4, v5, .int .i64 n6, .int .i64 n7, v8, .slice none 0 0, .slice none 0 0, .bool false, .bool false, .int .i64 0, .slice none 0 0, .slice none 0 0, .slice none 0 0, .int .i64 0]) rfl rfl rfl rfl rfl rfl BC.out (by kernel_rfl) (Nat.le_of_ble_eq_true rfl) (oneL3 rfl rfl (Kd.R_val F8.out).2) rfl ?_; intro w9 hbox hg; have n_ := Aside0.mk (below_grow HB.out hg gec.out); clear HB; have HB := n_; clear n_; have n_ := Aside0.mk (blk_grown BP.out hg (fun e_ => absurd (Option.some.inj e_) (Nat.ne_of_lt (Nat.lt_trans lpb.out lbc.out)))); clear BP; have BP := n_; clear n_; have n_ := Aside0.mk (blk_grown BN.out hg (fun e_ => absurd (Option.some.inj e_) (Nat.ne_of_lt lbc.out))); clear BN; have BN := n_; clear n_; (try (have n_ := Aside0.mk (Kd.R_grown F5.out hg (fun k_ hk_ e_ => absurd (Option.some.inj e_) (Nat.ne_of_gt hk_))); clear F5; have F5 := n_; clear n_)); (try (have n_ := Aside0.mk (Kd.R_grown F8.out hg (fun k_ hk_ e_ => absurd (Option.some.inj e_) (Nat.ne_of_gt hk_))); clear F8; have F8 := n_; clear n_)); (try (have n_ := Aside0.mk (Kd.R_grown F9.out hg (fun k_ hk_ e_ => absurd (Option.some.inj e_) (Nat.ne_of_gt hk_))); clear F9; have F9 := n_; clear n_)); (try (have n_ := Aside0.mk (Kd.R_grown F10.out hg (fun k_ hk_ e_ => absurd (Option.some.inj e_) (Nat.ne_of_gt hk_))); clear F10; have F10 := n_; clear n_)); (try (have n_ := Aside0.mk (Kd.R_grown F14.out hg (fun k_ hk_ e_ => absurd (Option.some.inj e_) (Nat.ne_of_gt hk_))); clear F14; have F14 := n_; clear n_)); (try (have n_ := Aside0.mk (Kd.R_grown F15.out hg (fun k_ hk_ e_ => absurd (Option.some.inj e_) (Nat.ne_of_gt hk_))); clear F15; have F15 := n_; clear n_)); (try (have n_ := Aside0.mk (Kd.R_grown F16.out hg (fun k_ hk_ e_ => absurd (Option.some.inj e_) (Nat.ne_of_gt hk_))); clear F16; have F16 := n_; clear n_)); clear BC; have BC := Aside0.mk hbox; clear hbox hg; (try clear rp); have rp := blk_cell BP.out)
    | ((with_reducible refine gate_store (t := 36) (p := 24) (v := .tmp 23) rfl ?_); refine store_part (ty := 36) (t := 39) (g := gc) (off := 9) (v := v9) (cs := [v9]) (old := #[.int .i64 n0, .int .i64 o, .bool b2, .int .i64 n3, .int .i64 n4, v5, .int .i64 n6, .int .i64 n7, v8, .slice none 0 0, .slice none 0 0, .bool false, .bool false, .int .i64 0, .slice none 0 0, .slice none 0 0, .slice none 0 0, .int .i64 0]) (new := #[.int .i64 n0, .int .i64 o, .bool b2, .int .i64 n3, .int .i64 n4, v5, .int .i64 n6, .int .i64 n7, v8, v9, .slice none 0 0, .bool false, .bool false, .int .i64 0, .slice none 0 0, .slice none 0 0, .slice none 0 0, .int .i64 0]) rfl rfl rfl rfl rfl (Kd.R_val F9.out).1 BC.out (by kernel_rfl) (Nat.le_of_ble_eq_true rfl) (oneL1 (Kd.R_val F9.out).2) rfl ?_; intro w9 hbox hg; have n_ := Aside0.mk (below_grow HB.out hg gec.out); clear HB; have HB := n_; clear n_; have n_ := Aside0.mk (blk_grown BP.out hg (fun e_ => absurd (Option.some.inj e_) (Nat.ne_of_lt (Nat.lt_trans lpb.out lbc.out)))); clear BP; have BP := n_; clear n_; have n_ := Aside0.mk (blk_grown BN.out hg (fun e_ => absurd (Option.some.inj e_) (Nat.ne_of_lt lbc.out))); clear BN; have BN := n_; clear n_; (try (have n_ := Aside0.mk (Kd.R_grown F5.out hg (fun k_ hk_ e_ => absurd (Option.some.inj e_) (Nat.ne_of_gt hk_))); clear F5; have F5 := n_; clear n_)); (try (have n_ := Aside0.mk (Kd.R_grown F8.out hg (fun k_ hk_ e_ => absurd (Option.some.inj e_) (Nat.ne_of_gt hk_))); clear F8; have F8 := n_; clear n_)); (try (have n_ := Aside0.mk (Kd.R_grown F9.out hg (fun k_ hk_ e_ => absurd (Option.some.inj e_) (Nat.ne_of_gt hk_))); clear F9; have F9 := n_; clear n_)); (try (have n_ := Aside0.mk (Kd.R_grown F10.out hg (fun k_ hk_ e_ => absurd (Option.some.inj e_) (Nat.ne_of_gt hk_))); clear F10; have F10 := n_; clear n_)); (try (have n_ := Aside0.mk (Kd.R_grown F14.out hg (fun k_ hk_ e_ => absurd (Option.some.inj e_) (Nat.ne_of_gt hk_))); clear F14; have F14 := n_; clear n_)); (try (have n_ := Aside0.mk (Kd.R_grown F15.out hg (fun k_ hk_ e_ => absurd (Option.some.inj e_) (Nat.ne_of_gt hk_))); clear F15; have F15 := n_; clear n_)); (try (have n_ := Aside0.mk (Kd.R_grown F16.out hg (fun k_ hk_ e_ => absurd (Option.some.inj e_) (Nat.ne_of_gt hk_))); clear F16; have F16 := n_; clear n_)); clear BC; have BC := Aside0.mk hbox; clear hbox hg; (try clear rp); have rp := blk_cell BP.out)
    | ((with_reducible refine gate_store (t := 26) (p := 28) (v := .tmp 27) rfl ?_); refine store_part (ty := 26) (t := 39) (g := gc) (off := 10) (v := v10) (cs := [v10]) (old := #[.int .i64 n0, .int .i64 o, .bool b2, .int .i64 n3, .int .i64 n4, v5, .int .i64 n6, .int .i64 n7, v8, v9, .slice none 0 0, .bool false, .bool false, .int .i64 0, .slice none 0 0, .slice none 0 0, .slice none 0 0, .int .i64 0]) (new := #[.int .i64 n0, .int .i64 o, .bool b2, .int .i64 n3, .int .i64 n4, v5, .int .i64 n6, .int .i64 n7, v8, v9, v10, .bool false, .bool false, .int .i64 0, .slice none 0 0, .slice none 0 0, .slice none 0 0, .int .i64 0]) rfl rfl rfl rfl rfl (Kd.R_val F10.out).1 BC.out (by kernel_rfl) (Nat.le_of_ble_eq_true rfl) (oneL1 (Kd.R_val F10.out).2) rfl ?_; intro w9 hbox hg; have n_ := Aside0.mk (below_grow HB.out hg gec.out); clear HB; have HB := n_; clear n_; have n_ := Aside0.mk (blk_grown BP.out hg (fun e_ => absurd (Option.some.inj e_) (Nat.ne_of_lt (Nat.lt_trans lpb.out lbc.out)))); clear BP; have BP := n_; clear n_; have n_ := Aside0.mk (blk_grown BN.out hg (fun e_ => absurd (Option.some.inj e_) (Nat.ne_of_lt lbc.out))); clear BN; have BN := n_; clear n_; (try (have n_ := Aside0.mk (Kd.R_grown F5.out hg (fun k_ hk_ e_ => absurd (Option.some.inj e_) (Nat.ne_of_gt hk_))); clear F5; have F5 := n_; clear n_)); (try (have n_ := Aside0.mk (Kd.R_grown F8.out hg (fun k_ hk_ e_ => absurd (Option.some.inj e_) (Nat.ne_of_gt hk_))); clear F8; have F8 := n_; clear n_)); (try (have n_ := Aside0.mk (Kd.R_grown F9.out hg (fun k_ hk_ e_ => absurd (Option.some.inj e_) (Nat.ne_of_gt hk_))); clear F9; have F9 := n_; clear n_)); (try (have n_ := Aside0.mk (Kd.R_grown F10.out hg (fun k_ hk_ e_ => absurd (Option.some.inj e_) (Nat.ne_of_gt hk_))); clear F10; have F10 := n_; clear n_)); (try (have n_ := Aside0.mk (Kd.R_grown F14.out hg (fun k_ hk_ e_ => absurd (Option.some.inj e_) (Nat.ne_of_gt hk_))); clear F14; have F14 := n_; clear n_)); (try (have n_ := Aside0.mk (Kd.R_grown F15.out hg (fun k_ hk_ e_ => absurd (Option.some.inj e_) (Nat.ne_of_gt hk_))); clear F15; have F15 := n_; clear n_)); (try (have n_ := Aside0.mk (Kd.R_grown F16.out hg (fun k_ hk_ e_ => absurd (Option.some.inj e_) (Nat.ne_of_gt hk_))); clear F16; have F16 := n_; clear n_)); clear BC; have BC := Aside0.mk hbox; clear hbox hg; (try clear rp); have rp := blk_cell BP.out)
    | ((with_reducible refine gate_store (t := 4) (p := 31) (v := .tmp 30) rfl ?_); refine store_part (ty := 4) (t := 39) (g := gc) (off := 11) (v := .bool L) (cs := [.bool L]) (old := #[.int .i64 n0, .int .i64 o, .bool b2, .int .i64 n3, .int .i64 n4, v5, .int .i64 n6, .int .i64 n7, v8, v9, v10, .bool false, .bool false, .int .i64 0, .slice none 0 0, .slice none 0 0, .slice none 0 0, .int .i64 0]) (new := #[.int .i64 n0, .int .i64 o, .bool b2, .int .i64 n3, .int .i64 n4, v5, .int .i64 n6, .int .i64 n7, v8, v9, v10, .bool L, .bool false, .int .i64 0, .slice none 0 0, .slice none 0 0, .slice none 0 0, .int .i64 0]) rfl rfl rfl rfl rfl rfl BC.out (by kernel_rfl) (Nat.le_of_ble_eq_true rfl) (oneL1 rfl) rfl ?_; intro w9 hbox hg; have n_ := Aside0.mk (below_grow HB.out hg gec.out); clear HB; have HB := n_; clear n_; have n_ := Aside0.mk (blk_grown BP.out hg (fun e_ => absurd (Option.some.inj e_) (Nat.ne_of_lt (Nat.lt_trans lpb.out lbc.out)))); clear BP; have BP := n_; clear n_; have n_ := Aside0.mk (blk_grown BN.out hg (fun e_ => absurd (Option.some.inj e_) (Nat.ne_of_lt lbc.out))); clear BN; have BN := n_; clear n_; (try (have n_ := Aside0.mk (Kd.R_grown F5.out hg (fun k_ hk_ e_ => absurd (Option.some.inj e_) (Nat.ne_of_gt hk_))); clear F5; have F5 := n_; clear n_)); (try (have n_ := Aside0.mk (Kd.R_grown F8.out hg (fun k_ hk_ e_ => absurd (Option.some.inj e_) (Nat.ne_of_gt hk_))); clear F8; have F8 := n_; clear n_)); (try (have n_ := Aside0.mk (Kd.R_grown F9.out hg (fun k_ hk_ e_ => absurd (Option.some.inj e_) (Nat.ne_of_gt hk_))); clear F9; have F9 := n_; clear n_)); (try (have n_ := Aside0.mk (Kd.R_grown F10.out hg (fun k_ hk_ e_ => absurd (Option.some.inj e_) (Nat.ne_of_gt hk_))); clear F10; have F10 := n_; clear n_)); (try (have n_ := Aside0.mk (Kd.R_grown F14.out hg (fun k_ hk_ e_ => absurd (Option.some.inj e_) (Nat.ne_of_gt hk_))); clear F14; have F14 := n_; clear n_)); (try (have n_ := Aside0.mk (Kd.R_grown F15.out hg (fun k_ hk_ e_ => absurd (Option.some.inj e_) (Nat.ne_of_gt hk_))); clear F15; have F15 := n_; clear n_)); (try (have n_ := Aside0.mk (Kd.R_grown F16.out hg (fun k_ hk_ e_ => absurd (Option.some.inj e_) (Nat.ne_of_gt hk_))); clear F16; have F16 := n_; clear n_)); clear BC; have BC := Aside0.mk hbox; clear hbox hg; (try clear rp); have rp := blk_cell BP.out)
    | ((with_reducible refine gate_store (t := 4) (p := 34) (v := .tmp 33) rfl ?_); refine store_part (ty := 4) (t := 39) (g := gc) (off := 12) (v := .bool T) (cs := [.bool T]) (old := #[.int .i64 n0, .int .i64 o, .bool b2, .int .i64 n3, .int .i64 n4, v5, .int .i64 n6, .int .i64 n7, v8, v9, v10, .bool L, .bool false, .int .i64 0, .slice none 0 0, .slice none 0 0, .slice none 0 0, .int .i64 0]) (new := #[.int .i64 n0, .int .i64 o, .bool b2, .int .i64 n3, .int .i64 n4, v5, .int .i64 n6, .int .i64 n7, v8, v9, v10, .bool L, .bool T, .int .i64 0, .slice none 0 0, .slice none 0 0, .slice none 0 0, .int .i64 0]) rfl rfl rfl rfl rfl rfl BC.out (by kernel_rfl) (Nat.le_of_ble_eq_true rfl) (oneL1 rfl) rfl ?_; intro w9 hbox hg; have n_ := Aside0.mk (below_grow HB.out hg gec.out); clear HB; have HB := n_; clear n_; have n_ := Aside0.mk (blk_grown BP.out hg (fun e_ => absurd (Option.some.inj e_) (Nat.ne_of_lt (Nat.lt_trans lpb.out lbc.out)))); clear BP; have BP := n_; clear n_; have n_ := Aside0.mk (blk_grown BN.out hg (fun e_ => absurd (Option.some.inj e_) (Nat.ne_of_lt lbc.out))); clear BN; have BN := n_; clear n_; (try (have n_ := Aside0.mk (Kd.R_grown F5.out hg (fun k_ hk_ e_ => absurd (Option.some.inj e_) (Nat.ne_of_gt hk_))); clear F5; have F5 := n_; clear n_)); (try (have n_ := Aside0.mk (Kd.R_grown F8.out hg (fun k_ hk_ e_ => absurd (Option.some.inj e_) (Nat.ne_of_gt hk_))); clear F8; have F8 := n_; clear n_)); (try (have n_ := Aside0.mk (Kd.R_grown F9.out hg (fun k_ hk_ e_ => absurd (Option.some.inj e_) (Nat.ne_of_gt hk_))); clear F9; have F9 := n_; clear n_)); (try (have n_ := Aside0.mk (Kd.R_grown F10.out hg (fun k_ hk_ e_ => absurd (Option.some.inj e_) (Nat.ne_of_gt hk_))); clear F10; have F10 := n_; clear n_)); (try (have n_ := Aside0.mk (Kd.R_grown F14.out hg (fun k_ hk_ e_ => absurd (Option.some.inj e_) (Nat.ne_of_gt hk_))); clear F14; have F14 := n_; clear n_)); (try (have n_ := Aside0.mk (Kd.R_grown F15.out hg (fun k_ hk_ e_ => absurd (Option.some.inj e_) (Nat.ne_of_gt hk_))); clear F15; have F15 := n_; clear n_)); (try (have n_ := Aside0.mk (Kd.R_grown F16.out hg (fun k_ hk_ e_ => absurd (Option.some.inj e_) (Nat.ne_of_gt hk_))); clear F16; have F16 := n_; clear n_)); clear BC; have BC := Aside0.mk hbox; clear hbox hg; (try clear rp); have rp := blk_cell BP.out)
    | ((with_reducible refine gate_store (t := 3) (p := 37) (v := .tmp 36) rfl ?_); refine store_part (ty := 3) (t := 39) (g := gc) (off := 13) (v := .int .i64 n13) (cs := [.int .i64 n13]) (old := #[.int .i64 n0, .int .i64 o, .bool b2, .int .i64 n3, .int .i64 n4, v5, .int .i64 n6, .int .i64 n7, v8, v9, v10, .bool L, .bool T, .int .i64 0, .slice none 0 0, .slice none 0 0, .slice none 0 0, .int .i64 0]) (new := #[.int .i64 n0, .int .i64 o, .bool b2, .int .i64 n3, .int .i64 n4, v5, .int .i64 n6, .int .i64 n7, v8, v9, v10, .bool L, .bool T, .int .i64 n13, .slice none 0 0, .slice none 0 0, .slice none 0 0, .int .i64 0]) rfl rfl rfl rfl rfl rfl BC.out (by kernel_rfl) (Nat.le_of_ble_eq_true rfl) (oneL1 rfl) rfl ?_; intro w9 hbox hg; have n_ := Aside0.mk (below_grow HB.out hg gec.out); clear HB; have HB := n_; clear n_; have n_ := Aside0.mk (blk_grown BP.out hg (fun e_ => absurd (Option.some.inj e_) (Nat.ne_of_lt (Nat.lt_trans lpb.out lbc.out)))); clear BP; have BP := n_; clear n_; have n_ := Aside0.mk (blk_grown BN.out hg (fun e_ => absurd (Option.some.inj e_) (Nat.ne_of_lt lbc.out))); clear BN; have BN := n_; clear n_; (try (have n_ := Aside0.mk (Kd.R_grown F5.out hg (fun k_ hk_ e_ => absurd (Option.some.inj e_) (Nat.ne_of_gt hk_))); clear F5; have F5 := n_; clear n_)); (try (have n_ := Aside0.mk (Kd.R_grown F8.out hg (fun k_ hk_ e_ => absurd (Option.some.inj e_) (Nat.ne_of_gt hk_))); clear F8; have F8 := n_; clear n_)); (try (have n_ := Aside0.mk (Kd.R_grown F9.out hg (fun k_ hk_ e_ => absurd (Option.some.inj e_) (Nat.ne_of_gt hk_))); clear F9; have F9 := n_; clear n_)); (try (have n_ := Aside0.mk (Kd.R_grown F10.out hg (fun k_ hk_ e_ => absurd (Option.some.inj e_) (Nat.ne_of_gt hk_))); clear F10; have F10 := n_; clear n_)); (try (have n_ := Aside0.mk (Kd.R_grown F14.out hg (fun k_ hk_ e_ => absurd (Option.some.inj e_) (Nat.ne_of_gt hk_))); clear F14; have F14 := n_; clear n_)); (try (have n_ := Aside0.mk (Kd.R_grown F15.out hg (fun k_ hk_ e_ => absurd (Option.some.inj e_) (Nat.ne_of_gt hk_))); clear F15; have F15 := n_; clear n_)); (try (have n_ := Aside0.mk (Kd.R_grown F16.out hg (fun k_ hk_ e_ => absurd (Option.some.inj e_) (Nat.ne_of_gt hk_))); clear F16; have F16 := n_; clear n_)); clear BC; have BC := Aside0.mk hbox; clear hbox hg; (try clear rp); have rp := blk_cell BP.out)
    | ((with_reducible refine gate_store (t := 27) (p := 41) (v := .tmp 40) rfl ?_); refine store_part (ty := 27) (t := 39) (g := gc) (off := 14) (v := v14) (cs := [v14]) (old := #[.int .i64 n0, .int .i64 o, .bool b2, .int .i64 n3, .int .i64 n4, v5, .int .i64 n6, .int .i64 n7, v8, v9, v10, .bool L, .bool T, .int .i64 n13, .slice none 0 0, .slice none 0 0, .slice none 0 0, .int .i64 0]) (new := #[.int .i64 n0, .int .i64 o, .bool b2, .int .i64 n3, .int .i64 n4, v5, .int .i64 n6, .int .i64 n7, v8, v9, v10, .bool L, .bool T, .int .i64 n13, v14, .slice none 0 0, .slice none 0 0, .int .i64 0]) rfl rfl rfl rfl rfl (Kd.R_val F14.out).1 BC.out (by kernel_rfl) (Nat.le_of_ble_eq_true rfl) (oneL1 (Kd.R_val F14.out).2) rfl ?_; intro w9 hbox hg; have n_ := Aside0.mk (below_grow HB.out hg gec.out); clear HB; have HB := n_; clear n_; have n_ := Aside0.mk (blk_grown BP.out hg (fun e_ => absurd (Option.some.inj e_) (Nat.ne_of_lt (Nat.lt_trans lpb.out lbc.out)))); clear BP; have BP := n_; clear n_; have n_ := Aside0.mk (blk_grown BN.out hg (fun e_ => absurd (Option.some.inj e_) (Nat.ne_of_lt lbc.out))); clear BN; have BN := n_; clear n_; (try (have n_ := Aside0.mk (Kd.R_grown F5.out hg (fun k_ hk_ e_ => absurd (Option.some.inj e_) (Nat.ne_of_gt hk_))); clear F5; have F5 := n_; clear n_)); (try (have n_ := Aside0.mk (Kd.R_grown F8.out hg (fun k_ hk_ e_ => absurd (Option.some.inj e_) (Nat.ne_of_gt hk_))); clear F8; have F8 := n_; clear n_)); (try (have n_ := Aside0.mk (Kd.R_grown F9.out hg (fun k_ hk_ e_ => absurd (Option.some.inj e_) (Nat.ne_of_gt hk_))); clear F9; have F9 := n_; clear n_)); (try (have n_ := Aside0.mk (Kd.R_grown F10.out hg (fun k_ hk_ e_ => absurd (Option.some.inj e_) (Nat.ne_of_gt hk_))); clear F10; have F10 := n_; clear n_)); (try (have n_ := Aside0.mk (Kd.R_grown F14.out hg (fun k_ hk_ e_ => absurd (Option.some.inj e_) (Nat.ne_of_gt hk_))); clear F14; have F14 := n_; clear n_)); (try (have n_ := Aside0.mk (Kd.R_grown F15.out hg (fun k_ hk_ e_ => absurd (Option.some.inj e_) (Nat.ne_of_gt hk_))); clear F15; have F15 := n_; clear n_)); (try (have n_ := Aside0.mk (Kd.R_grown F16.out hg (fun k_ hk_ e_ => absurd (Option.some.inj e_) (Nat.ne_of_gt hk_))); clear F16; have F16 := n_; clear n_)); clear BC; have BC := Aside0.mk hbox; clear hbox hg; (try clear rp); have rp := blk_cell BP.out)
    | ((with_reducible refine gate_store (t := 33) (p := 45) (v := .tmp 44) rfl ?_); refine store_part (ty := 33) (t := 39) (g := gc) (off := 15) (v := v15) (cs := [v15]) (old := #[.int .i64 n0, .int .i64 o, .bool b2, .int .i64 n3, .int .i64 n4, v5, .int .i64 n6, .int .i64 n7, v8, v9, v10, .bool L, .bool T, .int .i64 n13, v14, .slice none 0 0, .slice none 0 0, .int .i64 0]) (new := #[.int .i64 n0, .int .i64 o, .bool b2, .int .i64 n3, .int .i64 n4, v5, .int .i64 n6, .int .i64 n7, v8, v9, v10, .bool L, .bool T, .int .i64 n13, v14, v15, .slice none 0 0, .int .i64 0]) rfl rfl rfl rfl rfl (Kd.R_val F15.out).1 BC.out (by kernel_rfl) (Nat.le_of_ble_eq_true rfl) (oneL1 (Kd.R_val F15.out).2) rfl ?_; intro w9 hbox hg; have n_ := Aside0.mk (below_grow HB.out hg gec.out); clear HB; have HB := n_; clear n_; have n_ := Aside0.mk (blk_grown BP.out hg (fun e_ => absurd (Option.some.inj e_) (Nat.ne_of_lt (Nat.lt_trans lpb.out lbc.out)))); clear BP; have BP := n_; clear n_; have n_ := Aside0.mk (blk_grown BN.out hg (fun e_ => absurd (Option.some.inj e_) (Nat.ne_of_lt lbc.out))); clear BN; have BN := n_; clear n_; (try (have n_ := Aside0.mk (Kd.R_grown F5.out hg (fun k_ hk_ e_ => absurd (Option.some.inj e_) (Nat.ne_of_gt hk_))); clear F5; have F5 := n_; clear n_)); (try (have n_ := Aside0.mk (Kd.R_grown F8.out hg (fun k_ hk_ e_ => absurd (Option.some.inj e_) (Nat.ne_of_gt hk_))); clear F8; have F8 := n_; clear n_)); (try (have n_ := Aside0.mk (Kd.R_grown F9.out hg (fun k_ hk_ e_ => absurd (Option.some.inj e_) (Nat.ne_of_gt hk_))); clear F9; have F9 := n_; clear n_)); (try (have n_ := Aside0.mk (Kd.R_grown F10.out hg (fun k_ hk_ e_ => absurd (Option.some.inj e_) (Nat.ne_of_gt hk_))); clear F10; have F10 := n_; clear n_)); (try (have n_ := Aside0.mk (Kd.R_grown F14.out hg (fun k_ hk_ e_ => absurd (Option.some.inj e_) (Nat.ne_of_gt hk_))); clear F14; have F14 := n_; clear n_)); (try (have n_ := Aside0.mk (Kd.R_grown F15.out hg (fun k_ hk_ e_ => absurd (Option.some.inj e_) (Nat.ne_of_gt hk_))); clear F15; have F15 := n_; clear n_)); (try (have n_ := Aside0.mk (Kd.R_grown F16.out hg (fun k_ hk_ e_ => absurd (Option.some.inj e_) (Nat.ne_of_gt hk_))); clear F16; have F16 := n_; clear n_)); clear BC; have BC := Aside0.mk hbox; clear hbox hg; (try clear rp); have rp := blk_cell BP.out)
    | ((with_reducible refine gate_store (t := 37) (p := 49) (v := .tmp 48) rfl ?_); refine store_part (ty := 37) (t := 39) (g := gc) (off := 16) (v := v16) (cs := [v16]) (old := #[.int .i64 n0, .int .i64 o, .bool b2, .int .i64 n3, .int .i64 n4, v5, .int .i64 n6, .int .i64 n7, v8, v9, v10, .bool L, .bool T, .int .i64 n13, v14, v15, .slice none 0 0, .int .i64 0]) (new := #[.int .i64 n0, .int .i64 o, .bool b2, .int .i64 n3, .int .i64 n4, v5, .int .i64 n6, .int .i64 n7, v8, v9, v10, .bool L, .bool T, .int .i64 n13, v14, v15, v16, .int .i64 0]) rfl rfl rfl rfl rfl (Kd.R_val F16.out).1 BC.out (by kernel_rfl) (Nat.le_of_ble_eq_true rfl) (oneL1 (Kd.R_val F16.out).2) rfl ?_; intro w9 hbox hg; have n_ := Aside0.mk (below_grow HB.out hg gec.out); clear HB; have HB := n_; clear n_; have n_ := Aside0.mk (blk_grown BP.out hg (fun e_ => absurd (Option.some.inj e_) (Nat.ne_of_lt (Nat.lt_trans lpb.out lbc.out)))); clear BP; have BP := n_; clear n_; have n_ := Aside0.mk (blk_grown BN.out hg (fun e_ => absurd (Option.some.inj e_) (Nat.ne_of_lt lbc.out))); clear BN; have BN := n_; clear n_; (try (have n_ := Aside0.mk (Kd.R_grown F5.out hg (fun k_ hk_ e_ => absurd (Option.some.inj e_) (Nat.ne_of_gt hk_))); clear F5; have F5 := n_; clear n_)); (try (have n_ := Aside0.mk (Kd.R_grown F8.out hg (fun k_ hk_ e_ => absurd (Option.some.inj e_) (Nat.ne_of_gt hk_))); clear F8; have F8 := n_; clear n_)); (try (have n_ := Aside0.mk (Kd.R_grown F9.out hg (fun k_ hk_ e_ => absurd (Option.some.inj e_) (Nat.ne_of_gt hk_))); clear F9; have F9 := n_; clear n_)); (try (have n_ := Aside0.mk (Kd.R_grown F10.out hg (fun k_ hk_ e_ => absurd (Option.some.inj e_) (Nat.ne_of_gt hk_))); clear F10; have F10 := n_; clear n_)); (try (have n_ := Aside0.mk (Kd.R_grown F14.out hg (fun k_ hk_ e_ => absurd (Option.some.inj e_) (Nat.ne_of_gt hk_))); clear F14; have F14 := n_; clear n_)); (try (have n_ := Aside0.mk (Kd.R_grown F15.out hg (fun k_ hk_ e_ => absurd (Option.some.inj e_) (Nat.ne_of_gt hk_))); clear F15; have F15 := n_; clear n_)); (try (have n_ := Aside0.mk (Kd.R_grown F16.out hg (fun k_ hk_ e_ => absurd (Option.some.inj e_) (Nat.ne_of_gt hk_))); clear F16; have F16 := n_; clear n_)); clear BC; have BC := Aside0.mk hbox; clear hbox hg; (try clear rp); have rp := blk_cell BP.out)
    | ((with_reducible refine gate_store (t := 3) (p := 52) (v := .tmp 51) rfl ?_); refine store_part (ty := 3) (t := 39) (g := gc) (off := 17) (v := .int .i64 n17) (cs := [.int .i64 n17]) (old := #[.int .i64 n0, .int .i64 o, .bool b2, .int .i64 n3, .int .i64 n4, v5, .int .i64 n6, .int .i64 n7, v8, v9, v10, .bool L, .bool T, .int .i64 n13, v14, v15, v16, .int .i64 0]) (new := #[.int .i64 n0, .int .i64 o, .bool b2, .int .i64 n3, .int .i64 n4, v5, .int .i64 n6, .int .i64 n7, v8, v9, v10, .bool L, .bool T, .int .i64 n13, v14, v15, v16, .int .i64 n17]) rfl rfl rfl rfl rfl rfl BC.out (by kernel_rfl) (Nat.le_of_ble_eq_true rfl) (oneL1 rfl) rfl ?_; intro w9 hbox hg; have n_ := Aside0.mk (below_grow HB.out hg gec.out); clear HB; have HB := n_; clear n_; have n_ := Aside0.mk (blk_grown BP.out hg (fun e_ => absurd (Option.some.inj e_) (Nat.ne_of_lt (Nat.lt_trans lpb.out lbc.out)))); clear BP; have BP := n_; clear n_; have n_ := Aside0.mk (blk_grown BN.out hg (fun e_ => absurd (Option.some.inj e_) (Nat.ne_of_lt lbc.out))); clear BN; have BN := n_; clear n_; (try (have n_ := Aside0.mk (Kd.R_grown F5.out hg (fun k_ hk_ e_ => absurd (Option.some.inj e_) (Nat.ne_of_gt hk_))); clear F5; have F5 := n_; clear n_)); (try (have n_ := Aside0.mk (Kd.R_grown F8.out hg (fun k_ hk_ e_ => absurd (Option.some.inj e_) (Nat.ne_of_gt hk_))); clear F8; have F8 := n_; clear n_)); (try (have n_ := Aside0.mk (Kd.R_grown F9.out hg (fun k_ hk_ e_ => absurd (Option.some.inj e_) (Nat.ne_of_gt hk_))); clear F9; have F9 := n_; clear n_)); (try (have n_ := Aside0.mk (Kd.R_grown F10.out hg (fun k_ hk_ e_ => absurd (Option.some.inj e_) (Nat.ne_of_gt hk_))); clear F10; have F10 := n_; clear n_)); (try (have n_ := Aside0.mk (Kd.R_grown F14.out hg (fun k_ hk_ e_ => absurd (Option.some.inj e_) (Nat.ne_of_gt hk_))); clear F14; have F14 := n_; clear n_)); (try (have n_ := Aside0.mk (Kd.R_grown F15.out hg (fun k_ hk_ e_ => absurd (Option.some.inj e_) (Nat.ne_of_gt hk_))); clear F15; have F15 := n_; clear n_)); (try (have n_ := Aside0.mk (Kd.R_grown F16.out hg (fun k_ hk_ e_ => absurd (Option.some.inj e_) (Nat.ne_of_gt hk_))); clear F16; have F16 := n_; clear n_)); clear BC; have BC := Aside0.mk hbox; clear hbox hg; (try clear rp); have rp := blk_cell BP.out)
    | (((with_reducible refine gate_load (t := 39) (p := 3) rfl ?_); refine load_row (ty := 39) (t := 39) (g := gc) (cs := #[.int .i64 n0, .int .i64 o, .bool b2, .int .i64 n3, .int .i64 n4, v5, .int .i64 n6, .int .i64 n7, v8, v9, v10, .bool L, .bool T, .int .i64 n13, v14, v15, v16, .int .i64 n17]) rfl rfl rfl BC.out Try.underlying39 rfl (by kernel_rfl) ?_))
    | ((with_reducible refine gate_store (t := 39) (p := 2) (v := .tmp 53) rfl ?_); refine store_row (ty := 39) (t := 39) (g := gb) (cells := #[.int .i64 n0, .int .i64 o, .bool b2, .int .i64 n3, .int .i64 n4, v5, .int .i64 n6, .int .i64 n7, v8, v9, v10, .bool L, .bool T, .int .i64 n13, v14, v15, v16, .int .i64 n17]) (old := #[.int .i64 0, .int .i64 0, .bool false, .int .i64 0, .int .i64 0, .slice none 0 0, .int .i64 0, .int .i64 0, .slice none 0 0, .slice none 0 0, .slice none 0 0, .bool false, .bool false, .int .i64 0, .slice none 0 0, .slice none 0 0, .slice none 0 0, .int .i64 0]) rfl rfl rfl rfl rfl BN.out (by kernel_rfl) rfl (by simp only [List.all_cons, List.all_nil, List.toList_toArray, (Kd.R_val F5.out).2, (Kd.R_val F8.out).2, (Kd.R_val F9.out).2, (Kd.R_val F10.out).2, (Kd.R_val F14.out).2, (Kd.R_val F15.out).2, (Kd.R_val F16.out).2, Bool.and_true]; rfl) ?_; intro w9 hbox hg; have n_ := Aside0.mk (below_grow HB.out hg geb.out); clear HB; have HB := n_; clear n_; (try (have n_ := Aside0.mk (Kd.R_grown F5.out hg (fun k_ hk_ e_ => absurd (Option.some.inj e_) (Nat.ne_of_gt (Nat.lt_trans lbc.out hk_)))); clear F5; have F5 := n_; clear n_)); (try (have n_ := Aside0.mk (Kd.R_grown F8.out hg (fun k_ hk_ e_ => absurd (Option.some.inj e_) (Nat.ne_of_gt (Nat.lt_trans lbc.out hk_)))); clear F8; have F8 := n_; clear n_)); (try (have n_ := Aside0.mk (Kd.R_grown F9.out hg (fun k_ hk_ e_ => absurd (Option.some.inj e_) (Nat.ne_of_gt (Nat.lt_trans lbc.out hk_)))); clear F9; have F9 := n_; clear n_)); (try (have n_ := Aside0.mk (Kd.R_grown F10.out hg (fun k_ hk_ e_ => absurd (Option.some.inj e_) (Nat.ne_of_gt (Nat.lt_trans lbc.out hk_)))); clear F10; have F10 := n_; clear n_)); (try (have n_ := Aside0.mk (Kd.R_grown F14.out hg (fun k_ hk_ e_ => absurd (Option.some.inj e_) (Nat.ne_of_gt (Nat.lt_trans lbc.out hk_)))); clear F14; have F14 := n_; clear n_)); (try (have n_ := Aside0.mk (Kd.R_grown F15.out hg (fun k_ hk_ e_ => absurd (Option.some.inj e_) (Nat.ne_of_gt (Nat.lt_trans lbc.out hk_)))); clear F15; have F15 := n_; clear n_)); (try (have n_ := Aside0.mk (Kd.R_grown F16.out hg (fun k_ hk_ e_ => absurd (Option.some.inj e_) (Nat.ne_of_gt (Nat.lt_trans lbc.out hk_)))); clear F16; have F16 := n_; clear n_)); clear BN; have BN := Aside0.mk hbox; clear hbox hg BC BP; (try clear rp))
    | (go_at_call 23; (with_reducible refine (toDiskC _ _ x5 A5 c5 _ (Kd.C_below H5.out.1 HB.out) H5.out.2.1 H5.out.2.2 gc (blk_lt BC.out)).mono ?_); rintro e wn ⟨v5, rfl, hr, hb⟩; have n_ := Aside0.mk (below_step HB.out hb); clear HB; have HB := n_; clear n_; (try (have n_ := Aside0.mk (blk_below BP.out hb); clear BP; have BP := n_; clear n_)); (try (have n_ := Aside0.mk (blk_below BN.out hb); clear BN; have BN := n_; clear n_)); (try (have n_ := Aside0.mk (blk_below BC.out hb); clear BC; have BC := n_; clear n_)); (try (have n_ := Aside0.mk (Kd.R_below F5.out hb); clear F5; have F5 := n_; clear n_)); (try (have n_ := Aside0.mk (Kd.R_below F8.out hb); clear F8; have F8 := n_; clear n_)); (try (have n_ := Aside0.mk (Kd.R_below F9.out hb); clear F9; have F9 := n_; clear n_)); (try (have n_ := Aside0.mk (Kd.R_below F10.out hb); clear F10; have F10 := n_; clear n_)); (try (have n_ := Aside0.mk (Kd.R_below F14.out hb); clear F14; have F14 := n_; clear n_)); (try (have n_ := Aside0.mk (Kd.R_below F15.out hb); clear F15; have F15 := n_; clear n_)); (try (have n_ := Aside0.mk (Kd.R_below F16.out hb); clear F16; have F16 := n_; clear n_)); clear F5; have F5 := Aside0.mk hr; clear hr hb; (try clear rp); have rp := blk_cell BP.out)
    | (go_at_call 23; (with_reducible refine (toDiskC _ _ x8 A8 c8 _ (Kd.C_below H8.out.1 HB.out) H8.out.2.1 H8.out.2.2 gc (blk_lt BC.out)).mono ?_); rintro e wn ⟨v8, rfl, hr, hb⟩; have n_ := Aside0.mk (below_step HB.out hb); clear HB; have HB := n_; clear n_; (try (have n_ := Aside0.mk (blk_below BP.out hb); clear BP; have BP := n_; clear n_)); (try (have n_ := Aside0.mk (blk_below BN.out hb); clear BN; have BN := n_; clear n_)); (try (have n_ := Aside0.mk (blk_below BC.out hb); clear BC; have BC := n_; clear n_)); (try (have n_ := Aside0.mk (Kd.R_below F5.out hb); clear F5; have F5 := n_; clear n_)); (try (have n_ := Aside0.mk (Kd.R_below F8.out hb); clear F8; have F8 := n_; clear n_)); (try (have n_ := Aside0.mk (Kd.R_below F9.out hb); clear F9; have F9 := n_; clear n_)); (try (have n_ := Aside0.mk (Kd.R_below F10.out hb); clear F10; have F10 := n_; clear n_)); (try (have n_ := Aside0.mk (Kd.R_below F14.out hb); clear F14; have F14 := n_; clear n_)); (try (have n_ := Aside0.mk (Kd.R_below F15.out hb); clear F15; have F15 := n_; clear n_)); (try (have n_ := Aside0.mk (Kd.R_below F16.out hb); clear F16; have F16 := n_; clear n_)); clear F8; have F8 := Aside0.mk hr; clear hr hb; (try clear rp); have rp := blk_cell BP.out)
    | (go_at_call 24; (with_reducible refine (toMsgC x9 A9 c9 _ (Kd.C_below H9.out.1 HB.out) H9.out.2.1 H9.out.2.2 MM.out.1 gc (blk_lt BC.out)).mono ?_); rintro e wn ⟨v9, rfl, hr, hb⟩; have n_ := Aside0.mk (below_step HB.out hb); clear HB; have HB := n_; clear n_; (try (have n_ := Aside0.mk (blk_below BP.out hb); clear BP; have BP := n_; clear n_)); (try (have n_ := Aside0.mk (blk_below BN.out hb); clear BN; have BN := n_; clear n_)); (try (have n_ := Aside0.mk (blk_below BC.out hb); clear BC; have BC := n_; clear n_)); (try (have n_ := Aside0.mk (Kd.R_below F5.out hb); clear F5; have F5 := n_; clear n_)); (try (have n_ := Aside0.mk (Kd.R_below F8.out hb); clear F8; have F8 := n_; clear n_)); (try (have n_ := Aside0.mk (Kd.R_below F9.out hb); clear F9; have F9 := n_; clear n_)); (try (have n_ := Aside0.mk (Kd.R_below F10.out hb); clear F10; have F10 := n_; clear n_)); (try (have n_ := Aside0.mk (Kd.R_below F14.out hb); clear F14; have F14 := n_; clear n_)); (try (have n_ := Aside0.mk (Kd.R_below F15.out hb); clear F15; have F15 := n_; clear n_)); (try (have n_ := Aside0.mk (Kd.R_below F16.out hb); clear F16; have F16 := n_; clear n_)); clear F9; have F9 := Aside0.mk hr; clear hr hb; (try clear rp); have rp := blk_cell BP.out)
    | (go_at_call 25; (with_reducible refine (toStrC x10 A10 c10 _ (Kd.C_below H10.out.1 HB.out) H10.out.2.1 H10.out.2.2 gc (blk_lt BC.out)).mono ?_); rintro e wn ⟨v10, rfl, hr, hb⟩; have n_ := Aside0.mk (below_step HB.out hb); clear HB; have HB := n_; clear n_; (try (have n_ := Aside0.mk (blk_below BP.out hb); clear BP; have BP := n_; clear n_)); (try (have n_ := Aside0.mk (blk_below BN.out hb); clear BN; have BN := n_; clear n_)); (try (have n_ := Aside0.mk (blk_below BC.out hb); clear BC; have BC := n_; clear n_)); (try (have n_ := Aside0.mk (Kd.R_below F5.out hb); clear F5; have F5 := n_; clear n_)); (try (have n_ := Aside0.mk (Kd.R_below F8.out hb); clear F8; have F8 := n_; clear n_)); (try (have n_ := Aside0.mk (Kd.R_below F9.out hb); clear F9; have F9 := n_; clear n_)); (try (have n_ := Aside0.mk (Kd.R_below F10.out hb); clear F10; have F10 := n_; clear n_)); (try (have n_ := Aside0.mk (Kd.R_below F14.out hb); clear F14; have F14 := n_; clear n_)); (try (have n_ := Aside0.mk (Kd.R_below F15.out hb); clear F15; have F15 := n_; clear n_)); (try (have n_ := Aside0.mk (Kd.R_below F16.out hb); clear F16; have F16 := n_; clear n_)); clear F10; have F10 := Aside0.mk hr; clear hr hb; (try clear rp); have rp := blk_cell BP.out)
    | (go_at_call 26; (with_reducible refine (toNumC x14 A14 c14 _ (Kd.C_below H14.out.1 HB.out) H14.out.2.1 H14.out.2.2 gc (blk_lt BC.out)).mono ?_); rintro e wn ⟨v14, rfl, hr, hb⟩; have n_ := Aside0.mk (below_step HB.out hb); clear HB; have HB := n_; clear n_; (try (have n_ := Aside0.mk (blk_below BP.out hb); clear BP; have BP := n_; clear n_)); (try (have n_ := Aside0.mk (blk_below BN.out hb); clear BN; have BN := n_; clear n_)); (try (have n_ := Aside0.mk (blk_below BC.out hb); clear BC; have BC := n_; clear n_)); (try (have n_ := Aside0.mk (Kd.R_below F5.out hb); clear F5; have F5 := n_; clear n_)); (try (have n_ := Aside0.mk (Kd.R_below F8.out hb); clear F8; have F8 := n_; clear n_)); (try (have n_ := Aside0.mk (Kd.R_below F9.out hb); clear F9; have F9 := n_; clear n_)); (try (have n_ := Aside0.mk (Kd.R_below F10.out hb); clear F10; have F10 := n_; clear n_)); (try (have n_ := Aside0.mk (Kd.R_below F14.out hb); clear F14; have F14 := n_; clear n_)); (try (have n_ := Aside0.mk (Kd.R_below F15.out hb); clear F15; have F15 := n_; clear n_)); (try (have n_ := Aside0.mk (Kd.R_below F16.out hb); clear F16; have F16 := n_; clear n_)); clear F14; have F14 := Aside0.mk hr; clear hr hb; (try clear rp); have rp := blk_cell BP.out)
    | (go_at_call 27; (with_reducible refine (toSlotC x15 A15 c15 _ (Kd.C_below H15.out.1 HB.out) H15.out.2.1 H15.out.2.2 gc (blk_lt BC.out)).mono ?_); rintro e wn ⟨v15, rfl, hr, hb⟩; have n_ := Aside0.mk (below_step HB.out hb); clear HB; have HB := n_; clear n_; (try (have n_ := Aside0.mk (blk_below BP.out hb); clear BP; have BP := n_; clear n_)); (try (have n_ := Aside0.mk (blk_below BN.out hb); clear BN; have BN := n_; clear n_)); (try (have n_ := Aside0.mk (blk_below BC.out hb); clear BC; have BC := n_; clear n_)); (try (have n_ := Aside0.mk (Kd.R_below F5.out hb); clear F5; have F5 := n_; clear n_)); (try (have n_ := Aside0.mk (Kd.R_below F8.out hb); clear F8; have F8 := n_; clear n_)); (try (have n_ := Aside0.mk (Kd.R_below F9.out hb); clear F9; have F9 := n_; clear n_)); (try (have n_ := Aside0.mk (Kd.R_below F10.out hb); clear F10; have F10 := n_; clear n_)); (try (have n_ := Aside0.mk (Kd.R_below F14.out hb); clear F14; have F14 := n_; clear n_)); (try (have n_ := Aside0.mk (Kd.R_below F15.out hb); clear F15; have F15 := n_; clear n_)); (try (have n_ := Aside0.mk (Kd.R_below F16.out hb); clear F16; have F16 := n_; clear n_)); clear F15; have F15 := Aside0.mk hr; clear hr hb; (try clear rp); have rp := blk_cell BP.out)
    | (go_at_call 28; (with_reducible refine (toAckC x16 A16 c16 _ (Kd.C_below H16.out.1 HB.out) H16.out.2.1 H16.out.2.2 MM.out.2 gc (blk_lt BC.out)).mono ?_); rintro e wn ⟨v16, rfl, hr, hb⟩; have n_ := Aside0.mk (below_step HB.out hb); clear HB; have HB := n_; clear n_; (try (have n_ := Aside0.mk (blk_below BP.out hb); clear BP; have BP := n_; clear n_)); (try (have n_ := Aside0.mk (blk_below BN.out hb); clear BN; have BN := n_; clear n_)); (try (have n_ := Aside0.mk (blk_below BC.out hb); clear BC; have BC := n_; clear n_)); (try (have n_ := Aside0.mk (Kd.R_below F5.out hb); clear F5; have F5 := n_; clear n_)); (try (have n_ := Aside0.mk (Kd.R_below F8.out hb); clear F8; have F8 := n_; clear n_)); (try (have n_ := Aside0.mk (Kd.R_below F9.out hb); clear F9; have F9 := n_; clear n_)); (try (have n_ := Aside0.mk (Kd.R_below F10.out hb); clear F10; have F10 := n_; clear n_)); (try (have n_ := Aside0.mk (Kd.R_below F14.out hb); clear F14; have F14 := n_; clear n_)); (try (have n_ := Aside0.mk (Kd.R_below F15.out hb); clear F15; have F15 := n_; clear n_)); (try (have n_ := Aside0.mk (Kd.R_below F16.out hb); clear F16; have F16 := n_; clear n_)); clear F16; have F16 := Aside0.mk hr; clear hr hb; (try clear rp); have rp := blk_cell BP.out))
  exact bodyPost_ret (results_cell_row rfl _ _ gb 39 _ (0, 0) _ rfl BN.out Try.underlying39 rfl (by kernel_rfl)) rfl ⟨v5, v8, v9, v10, v14, v15, v16, rfl, ⟨Sl.of_R F5.out, Sl.of_R F8.out, Sl.of_R F9.out, Sl.of_R F10.out, Sl.of_R F14.out, Sl.of_R F15.out, Sl.of_R F16.out⟩, HB.out⟩

/-! ### a recorder's size: the machine's side -/
abbrev QI (w : World) (f : Nat) (args : Array Value) (r : Int) : Prop := ∀ W, Below w.heap.size w W → Calls Try.prog f args W fun e w' => e = .returned (.int .i64 r) ∧ Below W.heap.size W w'
set_option maxHeartbeats 16000000 in
set_option maxRecDepth 100000 in
theorem szWalk (n0 o n3 n4 n6 n7 n13 n17 left : Int) (b2 L T : Bool) (x5 : List S78) (x8 : List S78) (x9 : List S75) (x10 : List ByteArray) (x14 : List Int) (x15 : List S78) (x16 : List S80) (A5 A8 A9 A10 A14 A15 A16 : Option Addr) (c5 c8 c9 c10 c14 c15 c16 : Nat) (w : World) (r5 r8 r9 r10 r14 r15 r16 : Int)
    (C5 : QI w 9 #[.agg #[.int .i64 n3, .int .i64 n4, .slice A5 x5.length c5], .int .i64 left] r5)
    (C8 : 0 ≤ r5 → QI w 9 #[.agg #[.int .i64 n6, .int .i64 n7, .slice A8 x8.length c8], .int .i64 r5] r8)
    (C9 : 0 ≤ r8 → QI w 10 #[.slice A9 x9.length c9, .int .i64 r8] r9)
    (C10 : 0 ≤ r9 → QI w 11 #[.slice A10 x10.length c10, .int .i64 r9] r10)
    (C14 : 0 ≤ r10 → QI w 12 #[.slice A14 x14.length c14, .int .i64 r10] r14)
    (C15 : 0 ≤ r14 → QI w 13 #[.slice A15 x15.length c15, .int .i64 r14] r15)
    (C16 : 0 ≤ r15 → QI w 14 #[.slice A16 x16.length c16, .int .i64 r15] r16) :
    Calls Try.prog 4 #[.agg #[.int .i64 n0, .int .i64 o, .bool b2, .int .i64 n3, .int .i64 n4, .slice A5 x5.length c5, .int .i64 n6, .int .i64 n7, .slice A8 x8.length c8, .slice A9 x9.length c9, .slice A10 x10.length c10, .bool L, .bool T, .int .i64 n13, .slice A14 x14.length c14, .slice A15 x15.length c15, .slice A16 x16.length c16, .int .i64 n17], .int .i64 left] w fun e w' => e = .returned (.int .i64 (if r5 < 0 then -1 else if r8 < 0 then -1 else if r9 < 0 then -1 else if r10 < 0 then -1 else if r14 < 0 then -1 else if r15 < 0 then -1 else if r16 < 0 then -1 else r16)) ∧ Below w.heap.size w w' := by
  have hu1 := Try.underlying30
  have hu2 := Try.underlying24
  have HB := Aside0.mk (Below.refl w.heap.size w)
  have D5 := Aside0.mk C5
  by_cases h5 : r5 < 0
  · rw [if_pos h5]
    have e5 : decide (r5 < 0) = true := decide_eq_true h5
    clear h5 C5 C8 C9 C10 C14 C15 C16
    go_enter Try.func4, Try.ntmps4
    go_wp2_with (first
      | ((with_reducible refine gate_dst (N := 2) rfl ?_); refine box_event ?hg (N := 2) ?hd (cs := #[.int .i64 n0, .int .i64 o, .bool b2, .int .i64 n3, .int .i64 n4, .slice A5 x5.length c5, .int .i64 n6, .int .i64 n7, .slice A8 x8.length c8, .slice A9 x9.length c9, .slice A10 x10.length c10, .bool L, .bool T, .int .i64 n13, .slice A14 x14.length c14, .slice A15 x15.length c15, .slice A16 x16.length c16, .int .i64 n17]) (t := 30) ?hr ?_; (case hd => rfl); (case hg => rfl); (case hr => first | (go_simp; done) | (go_simp; rfl)); intro gp _hg w1 hbox hb; have n0_ := Aside0.mk (below_step HB.out hb); clear HB; have HB := n0_; clear n0_; have BP := Aside0.mk hbox; clear hb hbox _hg; have rp := blk_cell BP.out)
      | ((first
          | (go_at_call 9; (with_reducible refine (D5.out _ HB.out).mono ?_))
          | (go_at_call 9; (with_reducible refine (D8.out _ HB.out).mono ?_))
          | (go_at_call 10; (with_reducible refine (D9.out _ HB.out).mono ?_))
          | (go_at_call 11; (with_reducible refine (D10.out _ HB.out).mono ?_))
          | (go_at_call 12; (with_reducible refine (D14.out _ HB.out).mono ?_))
          | (go_at_call 13; (with_reducible refine (D15.out _ HB.out).mono ?_))
          | (go_at_call 14; (with_reducible refine (D16.out _ HB.out).mono ?_)));
         rintro e wn ⟨rfl, hb⟩; have n0_ := Aside0.mk (below_step HB.out hb); have n1_ := Aside0.mk (blk_below BP.out hb); clear HB BP; have HB := n0_; have BP := n1_; clear n0_ n1_; clear hb; (try clear rp); have rp := blk_cell BP.out))
    go_ret
    exact ⟨by first | rfl | (rw [HE.out]), HB.out⟩
  have D8 := Aside0.mk (C8 (Int.not_lt.1 h5))
  by_cases h8 : r8 < 0
  · rw [if_neg h5, if_pos h8]
    have e5 : decide (r5 < 0) = false := decide_eq_false h5
    have e8 : decide (r8 < 0) = true := decide_eq_true h8
    clear h5 h8 C5 C8 C9 C10 C14 C15 C16
    go_enter Try.func4, Try.ntmps4
    go_wp2_with (first
      | ((with_reducible refine gate_dst (N := 2) rfl ?_); refine box_event ?hg (N := 2) ?hd (cs := #[.int .i64 n0, .int .i64 o, .bool b2, .int .i64 n3, .int .i64 n4, .slice A5 x5.length c5, .int .i64 n6, .int .i64 n7, .slice A8 x8.length c8, .slice A9 x9.length c9, .slice A10 x10.length c10, .bool L, .bool T, .int .i64 n13, .slice A14 x14.length c14, .slice A15 x15.length c15, .slice A16 x16.length c16, .int .i64 n17]) (t := 30) ?hr ?_; (case hd => rfl); (case hg => rfl); (case hr => first | (go_simp; done) | (go_simp; rfl)); intro gp _hg w1 hbox hb; have n0_ := Aside0.mk (below_step HB.out hb); clear HB; have HB := n0_; clear n0_; have BP := Aside0.mk hbox; clear hb hbox _hg; have rp := blk_cell BP.out)
      | ((first
          | (go_at_call 9; (with_reducible refine (D5.out _ HB.out).mono ?_))
          | (go_at_call 9; (with_reducible refine (D8.out _ HB.out).mono ?_))
          | (go_at_call 10; (with_reducible refine (D9.out _ HB.out).mono ?_))
          | (go_at_call 11; (with_reducible refine (D10.out _ HB.out).mono ?_))
          | (go_at_call 12; (with_reducible refine (D14.out _ HB.out).mono ?_))
          | (go_at_call 13; (with_reducible refine (D15.out _ HB.out).mono ?_))
          | (go_at_call 14; (with_reducible refine (D16.out _ HB.out).mono ?_)));
         rintro e wn ⟨rfl, hb⟩; have n0_ := Aside0.mk (below_step HB.out hb); have n1_ := Aside0.mk (blk_below BP.out hb); clear HB BP; have HB := n0_; have BP := n1_; clear n0_ n1_; clear hb; (try clear rp); have rp := blk_cell BP.out))
    go_ret
    exact ⟨by first | rfl | (rw [HE.out]), HB.out⟩
  have D9 := Aside0.mk (C9 (Int.not_lt.1 h8))
  by_cases h9 : r9 < 0
  · rw [if_neg h5, if_neg h8, if_pos h9]
    have e5 : decide (r5 < 0) = false := decide_eq_false h5
    have e8 : decide (r8 < 0) = false := decide_eq_false h8
    have e9 : decide (r9 < 0) = true := decide_eq_true h9
    clear h5 h8 h9 C5 C8 C9 C10 C14 C15 C16
    go_enter Try.func4, Try.ntmps4
    go_wp2_with (first
      | ((with_reducible refine gate_dst (N := 2) rfl ?_); refine box_event ?hg (N := 2) ?hd (cs := #[.int .i64 n0, .int .i64 o, .bool b2, .int .i64 n3, .int .i64 n4, .slice A5 x5.length c5, .int .i64 n6, .int .i64 n7, .slice A8 x8.length c8, .slice A9 x9.length c9, .slice A10 x10.length c10, .bool L, .bool T, .int .i64 n13, .slice A14 x14.length c14, .slice A15 x15.length c15, .slice A16 x16.length c16, .int .i64 n17]) (t := 30) ?hr ?_; (case hd => rfl); (case hg => rfl); (case hr => first | (go_simp; done) | (go_simp; rfl)); intro gp _hg w1 hbox hb; have n0_ := Aside0.mk (below_step HB.out hb); clear HB; have HB := n0_; clear n0_; have BP := Aside0.mk hbox; clear hb hbox _hg; have rp := blk_cell BP.out)
      | ((first
          | (go_at_call 9; (with_reducible refine (D5.out _ HB.out).mono ?_))
          | (go_at_call 9; (with_reducible refine (D8.out _ HB.out).mono ?_))
          | (go_at_call 10; (with_reducible refine (D9.out _ HB.out).mono ?_))
          | (go_at_call 11; (with_reducible refine (D10.out _ HB.out).mono ?_))
          | (go_at_call 12; (with_reducible refine (D14.out _ HB.out).mono ?_))
          | (go_at_call 13; (with_reducible refine (D15.out _ HB.out).mono ?_))
          | (go_at_call 14; (with_reducible refine (D16.out _ HB.out).mono ?_)));
         rintro e wn ⟨rfl, hb⟩; have n0_ := Aside0.mk (below_step HB.out hb); have n1_ := Aside0.mk (blk_below BP.out hb); clear HB BP; have HB := n0_; have BP := n1_; clear n0_ n1_; clear hb; (try clear rp); have rp := blk_cell BP.out))
    go_ret
    exact ⟨by first | rfl | (rw [HE.out]), HB.out⟩
  have D10 := Aside0.mk (C10 (Int.not_lt.1 h9))
  by_cases h10 : r10 < 0
  · rw [if_neg h5, if_neg h8, if_neg h9, if_pos h10]
    have e5 : decide (r5 < 0) = false := decide_eq_false h5
    have e8 : decide (r8 < 0) = false := decide_eq_false h8
    have e9 : decide (r9 < 0) = false := decide_eq_false h9
    have e10 : decide (r10 < 0) = true := decide_eq_true h10
    clear h5 h8 h9 h10 C5 C8 C9 C10 C14 C15 C16
    go_enter Try.func4, Try.ntmps4
    go_wp2_with (first
      | ((with_reducible refine gate_dst (N := 2) rfl ?_); refine box_event ?hg (N := 2) ?hd (cs := #[.int .i64 n0, .int .i64 o, .bool b2, .int .i64 n3, .int .i64 n4, .slice A5 x5.length c5, .int .i64 n6, .int .i64 n7, .slice A8 x8.length c8, .slice A9 x9.length c9, .slice A10 x10.length c10, .bool L, .bool T, .int .i64 n13, .slice A14 x14.length c14, .slice A15 x15.length c15, .slice A16 x16.length c16, .int .i64 n17]) (t := 30) ?hr ?_; (case hd => rfl); (case hg => rfl); (case hr => first | (go_simp; done) | (go_simp; rfl)); intro gp _hg w1 hbox hb; have n0_ := Aside0.mk (below_step HB.out hb); clear HB; have HB := n0_; clear n0_; have BP := Aside0.mk hbox; clear hb hbox _hg; have rp := blk_cell BP.out)
      | ((first
          | (go_at_call 9; (with_reducible refine (D5.out _ HB.out).mono ?_))
          | (go_at_call 9; (with_reducible refine (D8.out _ HB.out).mono ?_))
          | (go_at_call 10; (with_reducible refine (D9.out _ HB.out).mono ?_))
          | (go_at_call 11; (with_reducible refine (D10.out _ HB.out).mono ?_))
          | (go_at_call 12; (with_reducible refine (D14.out _ HB.out).mono ?_))
          | (go_at_call 13; (with_reducible refine (D15.out _ HB.out).mono ?_))
          | (go_at_call 14; (with_reducible refine (D16.out _ HB.out).mono ?_)));
         rintro e wn ⟨rfl, hb⟩; have n0_ := Aside0.mk (below_step HB.out hb); have n1_ := Aside0.mk (blk_below BP.out hb); clear HB BP; have HB := n0_; have BP := n1_; clear n0_ n1_; clear hb; (try clear rp); have rp := blk_cell BP.out))
    go_ret
    exact ⟨by first | rfl | (rw [HE.out]), HB.out⟩
  have D14 := Aside0.mk (C14 (Int.not_lt.1 h10))
  by_cases h14 : r14 < 0
  · rw [if_neg h5, if_neg h8, if_neg h9, if_neg h10, if_pos h14]
    have e5 : decide (r5 < 0) = false := decide_eq_false h5
    have e8 : decide (r8 < 0) = false := decide_eq_false h8
    have e9 : decide (r9 < 0) = false := decide_eq_false h9
    have e10 : decide (r10 < 0) = false := decide_eq_false h10
    have e14 : decide (r14 < 0) = true := decide_eq_true h14
    clear h5 h8 h9 h10 h14 C5 C8 C9 C10 C14 C15 C16
    go_enter Try.func4, Try.ntmps4
    go_wp2_with (first
      | ((with_reducible refine gate_dst (N := 2) rfl ?_); refine box_event ?hg (N := 2) ?hd (cs := #[.int .i64 n0, .int .i64 o, .bool b2, .int .i64 n3, .int .i64 n4, .slice A5 x5.length c5, .int .i64 n6, .int .i64 n7, .slice A8 x8.length c8, .slice A9 x9.length c9, .slice A10 x10.length c10, .bool L, .bool T, .int .i64 n13, .slice A14 x14.length c14, .slice A15 x15.length c15, .slice A16 x16.length c16, .int .i64 n17]) (t := 30) ?hr ?_; (case hd => rfl); (case hg => rfl); (case hr => first | (go_simp; done) | (go_simp; rfl)); intro gp _hg w1 hbox hb; have n0_ := Aside0.mk (below_step HB.out hb); clear HB; have HB := n0_; clear n0_; have BP := Aside0.mk hbox; clear hb hbox _hg; have rp := blk_cell BP.out)
      | ((first
          | (go_at_call 9; (with_reducible refine (D5.out _ HB.out).mono ?_))
          | (go_at_call 9; (with_reducible refine (D8.out _ HB.out).mono ?_))
          | (go_at_call 10; (with_reducible refine (D9.out _ HB.out).mono ?_))
          | (go_at_call 11; (with_reducible refine (D10.out _ HB.out).mono ?_))
          | (go_at_call 12; (with_reducible refine (D14.out _ HB.out).mono ?_))
          | (go_at_call 13; (with_reducible refine (D15.out _ HB.out).mono ?_))
          | (go_at_call 14; (with_reducible refine (D16.out _ HB.out).mono ?_)));
         rintro e wn ⟨rfl, hb⟩; have n0_ := Aside0.mk (below_step HB.out hb); have n1_ := Aside0.mk (blk_below BP.out hb); clear HB BP; have HB := n0_; have BP := n1_; clear n0_ n1_; clear hb; (try clear rp); have rp := blk_cell BP.out))
    go_ret
    exact ⟨by first | rfl | (rw [HE.out]), HB.out⟩
  have D15 := Aside0.mk (C15 (Int.not_lt.1 h14))
  by_cases h15 : r15 < 0
  · rw [if_neg h5, if_neg h8, if_neg h9, if_neg h10, if_neg h14, if_pos h15]
    have e5 : decide (r5 < 0) = false := decide_eq_false h5
    have e8 : decide (r8 < 0) = false := decide_eq_false h8
    have e9 : decide (r9 < 0) = false := decide_eq_false h9
    have e10 : decide (r10 < 0) = false := decide_eq_false h10
    have e14 : decide (r14 < 0) = false := decide_eq_false h14
    have e15 : decide (r15 < 0) = true := decide_eq_true h15
    clear h5 h8 h9 h10 h14 h15 C5 C8 C9 C10 C14 C15 C16
    go_enter Try.func4, Try.ntmps4
    go_wp2_with (first
      | ((with_reducible refine gate_dst (N := 2) rfl ?_); refine box_event ?hg (N := 2) ?hd (cs := #[.int .i64 n0, .int .i64 o, .bool b2, .int .i64 n3, .int .i64 n4, .slice A5 x5.length c5, .int .i64 n6, .int .i64 n7, .slice A8 x8.length c8, .slice A9 x9.length c9, .slice A10 x10.length c10, .bool L, .bool T, .int .i64 n13, .slice A14 x14.length c14, .slice A15 x15.length c15, .slice A16 x16.length c16, .int .i64 n17]) (t := 30) ?hr ?_; (case hd => rfl); (case hg => rfl); (case hr => first | (go_simp; done) | (go_simp; rfl)); intro gp _hg w1 hbox hb; have n0_ := Aside0.mk (below_step HB.out hb); clear HB; have HB := n0_; clear n0_; have BP := Aside0.mk hbox; clear hb hbox _hg; have rp := blk_cell BP.out)
      | ((first
          | (go_at_call 9; (with_reducible refine (D5.out _ HB.out).mono ?_))
          | (go_at_call 9; (with_reducible refine (D8.out _ HB.out).mono ?_))
          | (go_at_call 10; (with_reducible refine (D9.out _ HB.out).mono ?_))
          | (go_at_call 11; (with_reducible refine (D10.out _ HB.out).mono ?_))
          | (go_at_call 12; (with_reducible refine (D14.out _ HB.out).mono ?_))
          | (go_at_call 13; (with_reducible refine (D15.out _ HB.out).mono ?_))
          | (go_at_call 14; (with_reducible refine (D16.out _ HB.out).mono ?_)));
         rintro e wn ⟨rfl, hb⟩; have n0_ := Aside0.mk (below_step HB.out hb); have n1_ := Aside0.mk (blk_below BP.out hb); clear HB BP; have HB := n0_; have BP := n1_; clear n0_ n1_; clear hb; (try clear rp); have rp := blk_cell BP.out))
    go_ret
    exact ⟨by first | rfl | (rw [HE.out]), HB.out⟩
  have D16 := Aside0.mk (C16 (Int.not_lt.1 h15))
  by_cases h16 : r16 < 0
  · rw [if_neg h5, if_neg h8, if_neg h9, if_neg h10, if_neg h14, if_neg h15, if_pos h16]
    have e5 : decide (r5 < 0) = false := decide_eq_false h5
    have e8 : decide (r8 < 0) = false := decide_eq_false h8
    have e9 : decide (r9 < 0) = false := decide_eq_false h9
    have e10 : decide (r10 < 0) = false := decide_eq_false h10
    have e14 : decide (r14 < 0) = false := decide_eq_false h14
    have e15 : decide (r15 < 0) = false := decide_eq_false h15
    have e16 : decide (r16 < 0) = true := decide_eq_true h16
    clear h5 h8 h9 h10 h14 h15 h16 C5 C8 C9 C10 C14 C15 C16
    go_enter Try.func4, Try.ntmps4
    go_wp2_with (first
      | ((with_reducible refine gate_dst (N := 2) rfl ?_); refine box_event ?hg (N := 2) ?hd (cs := #[.int .i64 n0, .int .i64 o, .bool b2, .int .i64 n3, .int .i64 n4, .slice A5 x5.length c5, .int .i64 n6, .int .i64 n7, .slice A8 x8.length c8, .slice A9 x9.length c9, .slice A10 x10.length c10, .bool L, .bool T, .int .i64 n13, .slice A14 x14.length c14, .slice A15 x15.length c15, .slice A16 x16.length c16, .int .i64 n17]) (t := 30) ?hr ?_; (case hd => rfl); (case hg => rfl); (case hr => first | (go_simp; done) | (go_simp; rfl)); intro gp _hg w1 hbox hb; have n0_ := Aside0.mk (below_step HB.out hb); clear HB; have HB := n0_; clear n0_; have BP := Aside0.mk hbox; clear hb hbox _hg; have rp := blk_cell BP.out)
      | ((first
          | (go_at_call 9; (with_reducible refine (D5.out _ HB.out).mono ?_))
          | (go_at_call 9; (with_reducible refine (D8.out _ HB.out).mono ?_))
          | (go_at_call 10; (with_reducible refine (D9.out _ HB.out).mono ?_))
          | (go_at_call 11; (with_reducible refine (D10.out _ HB.out).mono ?_))
          | (go_at_call 12; (with_reducible refine (D14.out _ HB.out).mono ?_))
          | (go_at_call 13; (with_reducible refine (D15.out _ HB.out).mono ?_))
          | (go_at_call 14; (with_reducible refine (D16.out _ HB.out).mono ?_)));
         rintro e wn ⟨rfl, hb⟩; have n0_ := Aside0.mk (below_step HB.out hb); have n1_ := Aside0.mk (blk_below BP.out hb); clear HB BP; have HB := n0_; have BP := n1_; clear n0_ n1_; clear hb; (try clear rp); have rp := blk_cell BP.out))
    go_ret
    exact ⟨by first | rfl | (rw [HE.out]), HB.out⟩
  rw [if_neg h5, if_neg h8, if_neg h9, if_neg h10, if_neg h14, if_neg h15, if_neg h16]
  have e5 : decide (r5 < 0) = false := decide_eq_false h5
  have e8 : decide (r8 < 0) = false := decide_eq_false h8
  have e9 : decide (r9 < 0) = false := decide_eq_false h9
  have e10 : decide (r10 < 0) = false := decide_eq_false h10
  have e14 : decide (r14 < 0) = false := decide_eq_false h14
  have e15 : decide (r15 < 0) = false := decide_eq_false h15
  have e16 : decide (r16 < 0) = false := decide_eq_false h16
  clear h5 h8 h9 h10 h14 h15 h16 C5 C8 C9 C10 C14 C15 C16
  go_enter Try.func4, Try.ntmps4
  go_wp2_with (first
    | ((with_reducible refine gate_dst (N := 2) rfl ?_); refine box_event ?hg (N := 2) ?hd (cs := #[.int .i64 n0, .int .i64 o, .bool b2, .int .i64 n3, .int .i64 n4, .slice A5 x5.length c5, .int .i64 n6, .int .i64 n7, .slice A8 x8.length c8, .slice A9 x9.length c9, .slice A10 x10.length c10, .bool L, .bool T, .int .i64 n13, .slice A14 x14.length c14, .slice A15 x15.length c15, .slice A16 x16.length c16, .int .i64 n17]) (t := 30) ?hr ?_; (case hd => rfl); (case hg => rfl); (case hr => first | (go_simp; done) | (go_simp; rfl)); intro gp _hg w1 hbox hb; have n0_ := Aside0.mk (below_step HB.out hb); clear HB; have HB := n0_; clear n0_; have BP := Aside0.mk hbox; clear hb hbox _hg; have rp := blk_cell BP.out)
    | ((first
        | (go_at_call 9; (with_reducible refine (D5.out _ HB.out).mono ?_))
        | (go_at_call 9; (with_reducible refine (D8.out _ HB.out).mono ?_))
        | (go_at_call 10; (with_reducible refine (D9.out _ HB.out).mono ?_))
        | (go_at_call 11; (with_reducible refine (D10.out _ HB.out).mono ?_))
        | (go_at_call 12; (with_reducible refine (D14.out _ HB.out).mono ?_))
        | (go_at_call 13; (with_reducible refine (D15.out _ HB.out).mono ?_))
        | (go_at_call 14; (with_reducible refine (D16.out _ HB.out).mono ?_)));
       rintro e wn ⟨rfl, hb⟩; have n0_ := Aside0.mk (below_step HB.out hb); have n1_ := Aside0.mk (blk_below BP.out hb); clear HB BP; have HB := n0_; have BP := n1_; clear n0_ n1_; clear hb; (try clear rp); have rp := blk_cell BP.out))
  go_ret
  exact ⟨by first | rfl | (rw [HE.out]), HB.out⟩
theorem szDiskC (p n a r : Int) (xs : List S78) (A : Option Addr) (c : Nat) (w : World) (hC : Kd.C k78 w A xs.length xs) (hc : xs.length ≤ c) (h : laws_szRecSlotS.f (xs.length + 1) xs a = some r) (hr : -1 ≤ r) :
    QI w 9 #[.agg #[.int .i64 p, .int .i64 n, .slice A xs.length c], .int .i64 a] r := fun W hb =>
  laws_szRecDisk.calls (xs.length + 1) p n A c xs a r W (Kd.C_below hC hb) hc (by
    unfold laws_szRecDisk.f
    rw [h]
    simp only [Option.bind_some]
    by_cases hn : r < 0
    · rw [if_pos hn]; congr 1; omega
    · rw [if_neg hn])
theorem szRecorderC (n0 o n3 n4 n6 n7 n13 n17 left : Int) (b2 L T : Bool) (x5 : List S78) (x8 : List S78) (x9 : List S75) (x10 : List ByteArray) (x14 : List Int) (x15 : List S78) (x16 : List S80) (A5 A8 A9 A10 A14 A15 A16 : Option Addr) (c5 c8 c9 c10 c14 c15 c16 : Nat) (w : World) (hleft : left = 1048576)
    (h5 : Kd.C k78 w A5 x5.length x5) (l5 : x5.length ≤ c5) (m5 : x5.length ≤ maxLen) (f5 : ∀ y ∈ x5, y.f1.size ≤ maxLen)
    (h8 : Kd.C k78 w A8 x8.length x8) (l8 : x8.length ≤ c8) (m8 : x8.length ≤ maxLen) (f8 : ∀ y ∈ x8, y.f1.size ≤ maxLen)
    (h9 : Kd.C k75 w A9 x9.length x9) (l9 : x9.length ≤ c9) (m9 : x9.length ≤ maxLen) (f9 : ∀ x ∈ x9, x.f6.size ≤ maxLen ∧ x.f7.length ≤ maxLen ∧ ∀ y ∈ x.f7, y.f1.size ≤ maxLen)
    (h10 : Kd.C Kd.string w A10 x10.length x10) (l10 : x10.length ≤ c10) (m10 : x10.length ≤ maxLen) (f10 : ∀ x ∈ x10, x.size ≤ maxLen)
    (h14 : Kd.C (Kd.int .i64) w A14 x14.length x14) (l14 : x14.length ≤ c14) (m14 : x14.length ≤ maxLen)
    (h15 : Kd.C k78 w A15 x15.length x15) (l15 : x15.length ≤ c15) (m15 : x15.length ≤ maxLen) (f15 : ∀ y ∈ x15, y.f1.size ≤ maxLen)
    (h16 : Kd.C k80 w A16 x16.length x16) (l16 : x16.length ≤ c16) (m16 : x16.length ≤ maxLen) (f16 : ∀ x ∈ x16, x.f1.length ≤ maxLen) :
    ∃ r : Int, (0 ≤ r → (x5.length ≤ 1048576 ∧ x8.length ≤ 1048576 ∧ x9.length ≤ 1048576 ∧ x10.length ≤ 1048576 ∧ x14.length ≤ 1048576 ∧ x15.length ≤ 1048576 ∧ x16.length ≤ 1048576) ∧ (∀ x ∈ x9, x.f7.length ≤ 1048576) ∧ (∀ x ∈ x16, x.f1.length ≤ 1048576)) ∧ QI w 4 #[.agg #[.int .i64 n0, .int .i64 o, .bool b2, .int .i64 n3, .int .i64 n4, .slice A5 x5.length c5, .int .i64 n6, .int .i64 n7, .slice A8 x8.length c8, .slice A9 x9.length c9, .slice A10 x10.length c10, .bool L, .bool T, .int .i64 n13, .slice A14 x14.length c14, .slice A15 x15.length c15, .slice A16 x16.length c16, .int .i64 n17], .int .i64 left] r := by
  have K5 : ∃ r, laws_szRecSlotS.f (x5.length + 1) x5 left = some r ∧ r ≤ 1048576 ∧ -1 ≤ r ∧ (0 ≤ r → (x5.length : Int) ≤ 1048576) := by
    obtain ⟨r, q1, q2, q3, q4⟩ := szSlotS x5 left (by omega) (by omega) m5 f5 _ (Nat.lt_succ_self _)
    exact ⟨r, q1, by omega, q3, fun h => by have := q4 h; omega⟩
  obtain ⟨r5, a5, b5, d5, e5⟩ := K5
  have K8 : ∃ r : Int, -1 ≤ r ∧ r ≤ 1048576 ∧ (0 ≤ r5 → laws_szRecSlotS.f (x8.length + 1) x8 r5 = some r) ∧ (0 ≤ r5 → 0 ≤ r → (x8.length : Int) ≤ 1048576) := by
    by_cases h : 0 ≤ r5
    · obtain ⟨r, q1, q2, q3, q4⟩ := szSlotS x8 r5 h (by omega) m8 f8 _ (Nat.lt_succ_self _)
      exact ⟨r, q3, by omega, fun _ => q1, fun _ h2 => by have := q4 h2; omega⟩
    · exact ⟨-1, by omega, by omega, fun h2 => absurd h2 h, fun h2 => absurd h2 h⟩
  obtain ⟨r8, d8, b8, a8, e8⟩ := K8
  have K9 : ∃ r : Int, -1 ≤ r ∧ r ≤ 1048576 ∧ (0 ≤ r8 → laws_szRecMessageS.f (x9.length + 9223372036854775809) x9 r8 = some r) ∧ (0 ≤ r8 → 0 ≤ r → (x9.length : Int) ≤ 1048576 ∧ ∀ x ∈ x9, (x.f7.length : Int) ≤ 1048576) := by
    by_cases h : 0 ≤ r8
    · obtain ⟨r, q1, q2, q3, q4⟩ := szMsgS x9 r8 h (by omega) m9 f9 (x9.length + 9223372036854775809) (by omega)
      exact ⟨r, q3, by omega, fun _ => q1, fun _ h2 => ⟨by have := (q4 h2).1; omega, fun x hx => by have := (q4 h2).2 x hx; omega⟩⟩
    · exact ⟨-1, by omega, by omega, fun h2 => absurd h2 h, fun h2 => absurd h2 h⟩
  obtain ⟨r9, d9, b9, a9, e9⟩ := K9
  have K10 : ∃ r : Int, -1 ≤ r ∧ r ≤ 1048576 ∧ (0 ≤ r9 → laws_szStringS.f (x10.length + 1) x10 r9 = some r) ∧ (0 ≤ r9 → 0 ≤ r → (x10.length : Int) ≤ 1048576) := by
    by_cases h : 0 ≤ r9
    · obtain ⟨r, q1, q2, q3, q4⟩ := szStr x10 r9 h (by omega) m10 f10 _ (Nat.lt_succ_self _)
      exact ⟨r, q3, by omega, fun _ => q1, fun _ h2 => by have := q4 h2; omega⟩
    · exact ⟨-1, by omega, by omega, fun h2 => absurd h2 h, fun h2 => absurd h2 h⟩
  obtain ⟨r10, d10, b10, a10, e10⟩ := K10
  have K14 : ∃ r : Int, -1 ≤ r ∧ r ≤ 1048576 ∧ (0 ≤ r10 → laws_szIntS.f x14 r10 = some r) ∧ (0 ≤ r10 → 0 ≤ r → (x14.length : Int) ≤ 1048576) := by
    by_cases h : 0 ≤ r10
    · obtain ⟨r, q1, q2, q3, q4⟩ := szNum x14 r10 h (by omega) m14
      exact ⟨r, q3, by omega, fun _ => q1, fun _ h2 => by have := q4 h2; omega⟩
    · exact ⟨-1, by omega, by omega, fun h2 => absurd h2 h, fun h2 => absurd h2 h⟩
  obtain ⟨r14, d14, b14, a14, e14⟩ := K14
  have K15 : ∃ r : Int, -1 ≤ r ∧ r ≤ 1048576 ∧ (0 ≤ r14 → laws_szRecSlotS.f (x15.length + 1) x15 r14 = some r) ∧ (0 ≤ r14 → 0 ≤ r → (x15.length : Int) ≤ 1048576) := by
    by_cases h : 0 ≤ r14
    · obtain ⟨r, q1, q2, q3, q4⟩ := szSlotS x15 r14 h (by omega) m15 f15 _ (Nat.lt_succ_self _)
      exact ⟨r, q3, by omega, fun _ => q1, fun _ h2 => by have := q4 h2; omega⟩
    · exact ⟨-1, by omega, by omega, fun h2 => absurd h2 h, fun h2 => absurd h2 h⟩
  obtain ⟨r15, d15, b15, a15, e15⟩ := K15
  have K16 : ∃ r : Int, -1 ≤ r ∧ r ≤ 1048576 ∧ (0 ≤ r15 → laws_szRecAckS.f (x16.length + 1) x16 r15 = some r) ∧ (0 ≤ r15 → 0 ≤ r → (x16.length : Int) ≤ 1048576 ∧ ∀ x ∈ x16, (x.f1.length : Int) ≤ 1048576) := by
    by_cases h : 0 ≤ r15
    · obtain ⟨r, q1, q2, q3, q4⟩ := szAckS x16 r15 h (by omega) m16 f16 _ (Nat.lt_succ_self _)
      exact ⟨r, q3, by omega, fun _ => q1, fun _ h2 => ⟨by have := (q4 h2).1; omega, fun x hx => by have := (q4 h2).2 x hx; omega⟩⟩
    · exact ⟨-1, by omega, by omega, fun h2 => absurd h2 h, fun h2 => absurd h2 h⟩
  obtain ⟨r16, d16, b16, a16, e16⟩ := K16
  refine ⟨_, fun hr => ?_, fun V hV => szWalk n0 o n3 n4 n6 n7 n13 n17 left b2 L T x5 x8 x9 x10 x14 x15 x16 A5 A8 A9 A10 A14 A15 A16 c5 c8 c9 c10 c14 c15 c16 V r5 r8 r9 r10 r14 r15 r16
    (szDiskC _ _ _ _ x5 A5 c5 V (Kd.C_below h5 hV) l5 a5 d5) (fun h => szDiskC _ _ _ _ x8 A8 c8 V (Kd.C_below h8 hV) l8 (a8 h) d8)
    (fun h W hb => laws_szRecMessageS.calls _ A9 c9 x9 r8 r9 W (Kd.C_below (Kd.C_below h9 hV) hb) l9 (a9 h))
    (fun h W hb => (laws_szStringS.calls _ A10 c10 x10 r9 r10 W (Kd.C_below (Kd.C_below h10 hV) hb) l10 (a10 h)).mono fun _ _ ⟨u1, u2⟩ => ⟨u1, u2.below⟩)
    (fun h W hb => (laws_szIntS.calls A14 c14 x14 r10 r14 W (Kd.C_below (Kd.C_below h14 hV) hb) l14 (a14 h)).mono fun _ _ ⟨u1, u2⟩ => ⟨u1, u2.below⟩)
    (fun h W hb => laws_szRecSlotS.calls _ A15 c15 x15 r14 r15 W (Kd.C_below (Kd.C_below h15 hV) hb) l15 (a15 h))
    (fun h W hb => laws_szRecAckS.calls _ A16 c16 x16 r15 r16 W (Kd.C_below (Kd.C_below h16 hV) hb) l16 (a16 h))⟩
  clear h5 h8 h9 h10 h14 h15 h16 a5 a8 a9 a10 a14 a15 a16
  have g5 : 0 ≤ r5 := Int.not_lt.1 (fun h => by rw [if_pos h] at hr; omega)
  rw [if_neg (by omega)] at hr
  have g8 : 0 ≤ r8 := Int.not_lt.1 (fun h => by rw [if_pos h] at hr; omega)
  rw [if_neg (by omega)] at hr
  have g9 : 0 ≤ r9 := Int.not_lt.1 (fun h => by rw [if_pos h] at hr; omega)
  rw [if_neg (by omega)] at hr
  have g10 : 0 ≤ r10 := Int.not_lt.1 (fun h => by rw [if_pos h] at hr; omega)
  rw [if_neg (by omega)] at hr
  have g14 : 0 ≤ r14 := Int.not_lt.1 (fun h => by rw [if_pos h] at hr; omega)
  rw [if_neg (by omega)] at hr
  have g15 : 0 ≤ r15 := Int.not_lt.1 (fun h => by rw [if_pos h] at hr; omega)
  rw [if_neg (by omega)] at hr
  have g16 : 0 ≤ r16 := Int.not_lt.1 (fun h => by rw [if_pos h] at hr; omega)
  have t9 := e9 g8 g9
  have t16 := e16 g15 g16
  exact ⟨⟨by have := e5 g5; omega, by have := e8 g5 g8; omega, by have := t9.1; omega, by have := e10 g9 g10; omega, by have := e14 g10 g14; omega, by have := e15 g14 g15; omega, by have := t16.1; omega⟩, fun x hx => by have := t9.2 x hx; omega, fun x hx => by have := t16.2 x hx; omega⟩

end Go.Proofs.Ytaempjkefpbinaa.QFnExactRecValid
