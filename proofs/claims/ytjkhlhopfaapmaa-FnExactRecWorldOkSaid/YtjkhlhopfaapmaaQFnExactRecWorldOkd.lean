/- Recorders and worlds compared, mirrored and measured; conditions: their slices are readable. -/
import Derived.Test.YtjkhlhopfaapmaaQFnExactRecWorldOka
namespace Go.Proofs.Ytjkhlhopfaapmaa.QFnExactRecWorldOk
open Go.RowKit Go.Proofs.Ytjkhlhopfaapmaa.PFnExactRecWorldOk Go.Proofs.YtjkhlhopfaapmaaW.PrintWords Go.Proofs.YtjkhlhopfaapmaaW.PrintLast Go.Proofs.YtjkhlhopfaapmaaW.PrintMore Go.Proofs.Ytjkhlhopfaapmaa.Pb Go.Proofs.Ytjkhlhopfaapmaa.Op Go.Proofs.Ytjkhlhopfaapmaa.Wk
set_option linter.unusedSimpArgs false
set_option linter.unusedVariables false

/-! ### a recorder's mirror: the machine's side -/
theorem from_R {α : Type} {d : Kd α} {e : Nat} {w : World} {base g : Nat} {v : Value} {xs : List α} (h : d.R e w base (fun _ => True) v xs) (hg : g < base) : d.R e w base (fun k => g < k) v xs := Kd.R_mono (Kd.R_bound h) (fun _ hk => Nat.lt_of_lt_of_le hg hk.2.1)
theorem from_S {α : Type} {d : Kd α} {e : Nat} {w : World} {base g : Nat} {v : Value} {xs : List α} (h : d.S e w base (fun _ => True) v xs) (hg : g < base) : d.R e w base (fun k => g < k) v xs := from_R (Kd.S_R h) hg
theorem oneL1 {u : Value} (h : u.oneCell' = true) : ∀ x ∈ [u], x.oneCell' = true := by
  intro x hx
  rw [List.mem_singleton] at hx
  rw [hx]
  exact h
theorem oneL3 {u v w : Value} (h : u.oneCell' = true) (h1 : v.oneCell' = true) (h2 : w.oneCell' = true) : ∀ x ∈ [u, v, w], x.oneCell' = true := by
  intro x hx
  simp only [List.mem_cons, List.not_mem_nil, or_false] at hx
  rcases hx with rfl | rfl | rfl
  · exact h
  · exact h1
  · exact h2
theorem toDiskC (p n : Int) (xs : List S106) (A : Option Addr) (c : Nat) (W : World) (hC : Kd.C k106 W A xs.length xs) (hc : xs.length ≤ c) (hl : xs.length ≤ 1048576) (g : Nat) (hg : g < W.heap.size) :
    Calls Try.prog 48 #[.agg #[.int .i64 p, .int .i64 n, .slice A xs.length c]] W fun e w' => ∃ v, e = .returned (.agg #[.int .i64 p, .int .i64 n, v]) ∧ Kd.R k93 93 w' W.heap.size (fun k => g < k) v (xs.map mSlot) ∧ Below W.heap.size W w' :=
  (laws_toRecDisk.calls (xs.length + 1) p n A c xs p n (xs.map mSlot) W hC hc (by unfold laws_toRecDisk.f; rw [toSlotS xs hl _ (by omega)]; rfl)).mono fun _ _ ⟨v, h1, h2, h3⟩ => ⟨v, h1, from_R h2 hg, h3⟩
theorem toSlotC (xs : List S106) (A : Option Addr) (c : Nat) (W : World) (hC : Kd.C k106 W A xs.length xs) (hc : xs.length ≤ c) (hl : xs.length ≤ 1048576) (g : Nat) (hg : g < W.heap.size) :
    Calls Try.prog 51 #[.slice A xs.length c] W fun e w' => ∃ v, e = .returned v ∧ Kd.R k93 93 w' W.heap.size (fun k => g < k) v (xs.map mSlot) ∧ Below W.heap.size W w' :=
  (laws_toRecSlotS.calls (xs.length + 1) A c xs (xs.map mSlot) W hC hc (toSlotS xs hl _ (by omega))).mono fun _ _ ⟨v, h1, h2, h3⟩ => ⟨v, h1, from_R h2 hg, h3⟩
theorem toStrC (xs : List ByteArray) (A : Option Addr) (c : Nat) (W : World) (hC : Kd.C Kd.string W A xs.length xs) (hc : xs.length ≤ c) (hl : xs.length ≤ 1048576) (g : Nat) (hg : g < W.heap.size) :
    Calls Try.prog 49 #[.slice A xs.length c] W fun e w' => ∃ v, e = .returned v ∧ Kd.R Kd.string 9 w' W.heap.size (fun k => g < k) v xs ∧ Below W.heap.size W w' :=
  (laws_toStringS.calls (xs.length + 1) A c xs xs W hC hc (toStr xs hl _ (by omega))).mono fun _ _ ⟨v, h1, h2, h3⟩ => ⟨v, h1, from_R h2 hg, h3⟩
theorem toNumC (xs : List Int) (A : Option Addr) (c : Nat) (W : World) (hC : Kd.C (Kd.int .i64) W A xs.length xs) (hc : xs.length ≤ c) (hl : xs.length ≤ 1048576) (g : Nat) (hg : g < W.heap.size) :
    Calls Try.prog 50 #[.slice A xs.length c] W fun e w' => ∃ v, e = .returned v ∧ Kd.R (Kd.int .i64) 3 w' W.heap.size (fun k => g < k) v xs ∧ Below W.heap.size W w' :=
  (laws_toIntS.calls (xs.length + 1) A c xs xs W hC hc (toNum xs hl _ (by omega))).mono fun _ _ ⟨v, h1, h2, h3⟩ => ⟨v, h1, from_R h2 hg, h3⟩
theorem toMsgC (xs : List S70) (A : Option Addr) (c : Nat) (W : World) (hC : Kd.C k70 W A xs.length xs) (hc : xs.length ≤ c) (hl : xs.length ≤ 1048576) (hm : ∀ x ∈ xs, x.f7.length ≤ 1048576) (g : Nat) (hg : g < W.heap.size) :
    Calls Try.prog 16 #[.slice A xs.length c] W fun e w' => ∃ v, e = .returned v ∧ Kd.R k52 52 w' W.heap.size (fun k => g < k) v (xs.map mMsg) ∧ Below W.heap.size W w' :=
  (laws_toRecMessageS.calls (xs.length + 1048578) A c xs (xs.map mMsg) W hC hc (toMsgS xs hl hm _ (by omega))).mono fun _ _ ⟨v, h1, h2, h3⟩ => ⟨v, h1, from_S h2 hg, h3⟩
theorem toAckC (xs : List S108) (A : Option Addr) (c : Nat) (W : World) (hC : Kd.C k108 W A xs.length xs) (hc : xs.length ≤ c) (hl : xs.length ≤ 1048576) (hm : ∀ x ∈ xs, x.f1.length ≤ 1048576) (g : Nat) (hg : g < W.heap.size) :
    Calls Try.prog 52 #[.slice A xs.length c] W fun e w' => ∃ v, e = .returned v ∧ Kd.R k83 83 w' W.heap.size (fun k => g < k) v (xs.map mAck) ∧ Below W.heap.size W w' :=
  (laws_toRecAckS.calls (xs.length + 1048578) A c xs (xs.map mAck) W hC hc (toAckS xs hl hm _ (by omega))).mono fun _ _ ⟨v, h1, h2, h3⟩ => ⟨v, h1, from_S h2 hg, h3⟩
set_option maxHeartbeats 16000000 in
set_option maxRecDepth 100000 in
theorem toRecorderR (n0 o n3 n4 n6 n7 n13 n17 : Int) (b2 L T : Bool) (x5 : List S106) (x8 : List S106) (x9 : List S70) (x10 : List ByteArray) (x14 : List Int) (x15 : List S106) (x16 : List S108) (A5 A8 A9 A10 A14 A15 A16 : Option Addr) (c5 c8 c9 c10 c14 c15 c16 : Nat) (w : World)
    (h5 : Kd.C k106 w A5 x5.length x5) (l5 : x5.length ≤ c5) (m5 : x5.length ≤ 1048576) (h8 : Kd.C k106 w A8 x8.length x8) (l8 : x8.length ≤ c8) (m8 : x8.length ≤ 1048576) (h9 : Kd.C k70 w A9 x9.length x9) (l9 : x9.length ≤ c9) (m9 : x9.length ≤ 1048576) (h10 : Kd.C Kd.string w A10 x10.length x10) (l10 : x10.length ≤ c10) (m10 : x10.length ≤ 1048576) (h14 : Kd.C (Kd.int .i64) w A14 x14.length x14) (l14 : x14.length ≤ c14) (m14 : x14.length ≤ 1048576) (h15 : Kd.C k106 w A15 x15.length x15) (l15 : x15.length ≤ c15) (m15 : x15.length ≤ 1048576) (h16 : Kd.C k108 w A16 x16.length x16) (l16 : x16.length ≤ c16) (m16 : x16.length ≤ 1048576) (mm : ∀ x ∈ x9, x.f7.length ≤ 1048576) (ma : ∀ x ∈ x16, x.f1.length ≤ 1048576) :
    Calls Try.prog 33 #[.agg #[.int .i64 n0, .int .i64 o, .bool b2, .int .i64 n3, .int .i64 n4, .slice A5 x5.length c5, .int .i64 n6, .int .i64 n7, .slice A8 x8.length c8, .slice A9 x9.length c9, .slice A10 x10.length c10, .bool L, .bool T, .int .i64 n13, .slice A14 x14.length c14, .slice A15 x15.length c15, .slice A16 x16.length c16, .int .i64 n17]] w fun e w' => ∃ v5 v8 v9 v10 v14 v15 v16, e = .returned (.agg #[.int .i64 n0, .int .i64 o, .bool b2, .int .i64 n3, .int .i64 n4, v5, .int .i64 n6, .int .i64 n7, v8, v9, v10, .bool L, .bool T, .int .i64 n13, v14, v15, v16, .int .i64 n17]) ∧ (Kd.R k93 93 w' w.heap.size (fun k => w.heap.size ≤ k) v5 (x5.map mSlot) ∧ Kd.R k93 93 w' w.heap.size (fun k => w.heap.size ≤ k) v8 (x8.map mSlot) ∧ Kd.R k52 52 w' w.heap.size (fun k => w.heap.size ≤ k) v9 (x9.map mMsg) ∧ Kd.R Kd.string 9 w' w.heap.size (fun k => w.heap.size ≤ k) v10 (x10) ∧ Kd.R (Kd.int .i64) 3 w' w.heap.size (fun k => w.heap.size ≤ k) v14 (x14) ∧ Kd.R k93 93 w' w.heap.size (fun k => w.heap.size ≤ k) v15 (x15.map mSlot) ∧ Kd.R k83 83 w' w.heap.size (fun k => w.heap.size ≤ k) v16 (x16.map mAck)) ∧ Below w.heap.size w w' := by
  have hu1 := Try.underlying49
  have hu2 := Try.underlying44
  have hu3 := Try.underlying67
  have hu4 := Try.underlying64
  have H5 := Aside0.mk (And.intro h5 (And.intro l5 m5))
  have H8 := Aside0.mk (And.intro h8 (And.intro l8 m8))
  have H9 := Aside0.mk (And.intro h9 (And.intro l9 m9))
  have H10 := Aside0.mk (And.intro h10 (And.intro l10 m10))
  have H14 := Aside0.mk (And.intro h14 (And.intro l14 m14))
  have H15 := Aside0.mk (And.intro h15 (And.intro l15 m15))
  have H16 := Aside0.mk (And.intro h16 (And.intro l16 m16))
  have MM := Aside0.mk (And.intro mm ma)
  clear h5 l5 m5 h8 l8 m8 h9 l9 m9 h10 l10 m10 h14 l14 m14 h15 l15 m15 h16 l16 m16 mm ma
  have HB := Aside0.mk (Below.refl w.heap.size w)
  have F5 := Aside0.mk trivial
  have F8 := Aside0.mk trivial
  have F9 := Aside0.mk trivial
  have F10 := Aside0.mk trivial
  have F14 := Aside0.mk trivial
  have F15 := Aside0.mk trivial
  have F16 := Aside0.mk trivial
  have BN := Aside0.mk trivial
  have BC := Aside0.mk trivial
  go_enter Try.func33, Try.ntmps33
  go_wp2_with (first
    | ((with_reducible refine gate_dst (N := 1) rfl ?_); refine box_event ?hg (N := 1) ?hd (cs := #[.int .i64 n0, .int .i64 o, .bool b2, .int .i64 n3, .int .i64 n4, .slice A5 x5.length c5, .int .i64 n6, .int .i64 n7, .slice A8 x8.length c8, .slice A9 x9.length c9, .slice A10 x10.length c10, .bool L, .bool T, .int .i64 n13, .slice A14 x14.length c14, .slice A15 x15.length c15, .slice A16 x16.length c16, .int .i64 n17]) (t := 67) ?hr ?_; (case hd => rfl); (case hg => rfl); (case hr => first | (go_simp; done) | (go_simp; rfl)); intro gp hgp w1 hbox hb; have n_ := Aside0.mk (below_step HB.out hb); clear HB; have HB := n_; clear n_; have BP := Aside0.mk hbox; clear hb hbox; have rp := blk_cell BP.out; clear hgp)
    | ((with_reducible refine gate_dst (N := 2) rfl ?_); refine box_event ?hg (N := 2) ?hd (cs := #[.int .i64 0, .int .i64 0, .bool false, .int .i64 0, .int .i64 0, .slice none 0 0, .int .i64 0, .int .i64 0, .slice none 0 0, .slice none 0 0, .slice none 0 0, .bool false, .bool false, .int .i64 0, .slice none 0 0, .slice none 0 0, .slice none 0 0, .int .i64 0]) (t := 49) ?hr ?_; (case hd => rfl); (case hg => rfl); (case hr => first | (go_simp; done) | (go_simp; rfl)); intro gb hgb w1 hbox hb; have lpb := Aside0.mk (Nat.lt_of_lt_of_le (blk_lt BP.out) (Nat.le_of_eq hgb.symm)); have geb := Aside0.mk (Nat.le_trans (below_size HB.out) (Nat.le_of_eq hgb.symm)); have n_ := Aside0.mk (below_step HB.out hb); clear HB; have HB := n_; clear n_; have n_ := Aside0.mk (blk_below BP.out hb); clear BP; have BP := n_; clear n_; clear BN; have BN := Aside0.mk hbox; clear hb hbox; (try clear rp); have rp := blk_cell BP.out; clear hgb)
    | ((with_reducible refine gate_dst (N := 3) rfl ?_); refine box_event ?hg (N := 3) ?hd (cs := #[.int .i64 0, .int .i64 0, .bool false, .int .i64 0, .int .i64 0, .slice none 0 0, .int .i64 0, .int .i64 0, .slice none 0 0, .slice none 0 0, .slice none 0 0, .bool false, .bool false, .int .i64 0, .slice none 0 0, .slice none 0 0, .slice none 0 0, .int .i64 0]) (t := 49) ?hr ?_; (case hd => rfl); (case hg => rfl); (case hr => first | (go_simp; done) | (go_simp; rfl)); intro gc hgc w1 hbox hb; have lbc := Aside0.mk (Nat.lt_of_lt_of_le (blk_lt BN.out) (Nat.le_of_eq hgc.symm)); have gec := Aside0.mk (Nat.le_trans (below_size HB.out) (Nat.le_of_eq hgc.symm)); have n_ := Aside0.mk (below_step HB.out hb); clear HB; have HB := n_; clear n_; have n_ := Aside0.mk (blk_below BP.out hb); clear BP; have BP := n_; clear n_; have n_ := Aside0.mk (blk_below BN.out hb); clear BN; have BN := n_; clear n_; clear BC; have BC := Aside0.mk hbox; clear hb hbox; (try clear rp); have rp := blk_cell BP.out; clear hgc)
    | ((with_reducible refine gate_store (t := 3) (p := 6) (v := .tmp 5) rfl ?_); refine store_part (ty := 3) (t := 49) (g := gc) (off := 0) (v := .int .i64 n0) (cs := [.int .i64 n0]) (old := #[.int .i64 0, .int .i64 0, .bool false, .int .i64 0, .int .i64 0, .slice none 0 0, .int .i64 0, .int .i64 0, .slice none 0 0, .slice none 0 0, .slice none 0 0, .bool false, .bool false, .int .i64 0, .slice none 0 0, .slice none 0 0, .slice none 0 0, .int .i64 0]) (new := #[.int .i64 n0, .int .i64 0, .bool false, .int .i64 0, .int .i64 0, .slice none 0 0, .int .i64 0, .int .i64 0, .slice none 0 0, .slice none 0 0, .slice none 0 0, .bool false, .bool false, .int .i64 0, .slice none 0 0, .slice none 0 0, .slice none 0 0, .int .i64 0]) rfl rfl rfl rfl rfl rfl BC.out (by kernel_rfl) (Nat.le_of_ble_eq_true rfl) (oneL1 rfl) rfl ?_; intro w9 hbox hg; have n_ := Aside0.mk (below_grow HB.out hg gec.out); clear HB; have HB := n_; clear n_; have n_ := Aside0.mk (blk_grown BP.out hg (fun e_ => absurd (Option.some.inj e_) (Nat.ne_of_lt (Nat.lt_trans lpb.out lbc.out)))); clear BP; have BP := n_; clear n_; have n_ := Aside0.mk (blk_grown BN.out hg (fun e_ => absurd (Option.some.inj e_) (Nat.ne_of_lt lbc.out))); clear BN; have BN := n_; clear n_; (try (have n_ := Aside0.mk (Kd.R_grown F5.out hg (fun k_ hk_ e_ => absurd (Option.some.inj e_) (Nat.ne_of_gt hk_))); clear F5; have F5 := n_; clear n_)); (try (have n_ := Aside0.mk (Kd.R_grown F8.out hg (fun k_ hk_ e_ => absurd (Option.some.inj e_) (Nat.ne_of_gt hk_))); clear F8; have F8 := n_; clear n_)); (try (have n_ := Aside0.mk (Kd.R_grown F9.out hg (fun k_ hk_ e_ => absurd (Option.some.inj e_) (Nat.ne_of_gt hk_))); clear F9; have F9 := n_; clear n_)); (try (have n_ := Aside0.mk (Kd.R_grown F10.out hg (fun k_ hk_ e_ => absurd (Option.some.inj e_) (Nat.ne_of_gt hk_))); clear F10; have F10 := n_; clear n_)); (try (have n_ := Aside0.mk (Kd.R_grown F14.out hg (fun k_ hk_ e_ => absurd (Option.some.inj e_) (Nat.ne_of_gt hk_))); clear F14; have F14 := n_; clear n_)); (try (have n_ := Aside0.mk (Kd.R_grown F15.out hg (fun k_ hk_ e_ => absurd (Option.some.inj e_) (Nat.ne_of_gt hk_))); clear F15; have F15 := n_; clear n_)); (try (have n_ := Aside0.mk (Kd.R_grown F16.out hg (fun k_ hk_ e_ => absurd (Option.some.inj e_) (Nat.ne_of_gt hk_))); clear F16; have F16 := n_; clear n_)); clear BC; have BC := Aside0.mk hbox; clear hbox hg; (try clear rp); have rp := blk_cell BP.out)
    | ((with_reducible refine gate_store (t := 3) (p := 9) (v := .tmp 8) rfl ?_); refine store_part (ty := 3) (t := 49) (g := gc) (off := 1) (v := .int .i64 o) (cs := [.int .i64 o]) (old := #[.int .i64 n0, .int .i64 0, .bool false, .int .i64 0, .int .i64 0, .slice none 0 0, .int .i64 0, .int .i64 0, .slice none 0 0, .slice none 0 0, .slice none 0 0, .bool false, .bool false, .int .i64 0, .slice none 0 0, .slice none 0 0, .slice none 0 0, .int .i64 0]) (new := #[.int .i64 n0, .int .i64 o, .bool false, .int .i64 0, .int .i64 0, .slice none 0 0, .int .i64 0, .int .i64 0, .slice none 0 0, .slice none 0 0, .slice none 0 0, .bool false, .bool false, .int .i64 0, .slice none 0 0, .slice none 0 0, .slice none 0 0, .int .i64 0]) rfl rfl rfl rfl rfl rfl BC.out (by kernel_rfl) (Nat.le_of_ble_eq_true rfl) (oneL1 rfl) rfl ?_; intro w9 hbox hg; have n_ := Aside0.mk (below_grow HB.out hg gec.out); clear HB; have HB := n_; clear n_; have n_ := Aside0.mk (blk_grown BP.out hg (fun e_ => absurd (Option.some.inj e_) (Nat.ne_of_lt (Nat.lt_trans lpb.out lbc.out)))); clear BP; have BP := n_; clear n_; have n_ := Aside0.mk (blk_grown BN.out hg (fun e_ => absurd (Option.some.inj e_) (Nat.ne_of_lt lbc.out))); clear BN; have BN := n_; clear n_; (try (have n_ := Aside0.mk (Kd.R_grown F5.out hg (fun k_ hk_ e_ => absurd (Option.some.inj e_) (Nat.ne_of_gt hk_))); clear F5; have F5 := n_; clear n_)); (try (have n_ := Aside0.mk (Kd.R_grown F8.out hg (fun k_ hk_ e_ => absurd (Option.some.inj e_) (Nat.ne_of_gt hk_))); clear F8; have F8 := n_; clear n_)); (try (have n_ := Aside0.mk (Kd.R_grown F9.out hg (fun k_ hk_ e_ => absurd (Option.some.inj e_) (Nat.ne_of_gt hk_))); clear F9; have F9 := n_; clear n_)); (try (have n_ := Aside0.mk (Kd.R_grown F10.out hg (fun k_ hk_ e_ => absurd (Option.some.inj e_) (Nat.ne_of_gt hk_))); clear F10; have F10 := n_; clear n_)); (try (have n_ := Aside0.mk (Kd.R_grown F14.out hg (fun k_ hk_ e_ => absurd (Option.some.inj e_) (Nat.ne_of_gt hk_))); clear F14; have F14 := n_; clear n_)); (try (have n_ := Aside0.mk (Kd.R_grown F15.out hg (fun k_ hk_ e_ => absurd (Option.some.inj e_) (Nat.ne_of_gt hk_))); clear F15; have F15 := n_; clear n_)); (try (have n_ := Aside0.mk (Kd.R_grown F16.out hg (fun k_ hk_ e_ => absurd (Option.some.inj e_) (Nat.ne_of_gt hk_))); clear F16; have F16 := n_; clear n_)); clear BC; have BC := Aside0.mk hbox; clear hbox hg; (try clear rp); have rp := blk_cell BP.out)
    | ((with_reducible refine gate_store (t := 4) (p := 12) (v := .tmp 11) rfl ?_); refine store_part (ty := 4) (t := 49) (g := gc) (off := 2) (v := .bool b2) (cs := [.bool b2]) (old := #[.int .i64 n0, .int .i64 o, .bool false, .int .i64 0, .int .i64 0, .slice none 0 0, .int .i64 0, .int .i64 0, .slice none 0 0, .slice none 0 0, .slice none 0 0, .bool false, .bool false, .int .i64 0, .slice none 0 0, .slice none 0 0, .slice none 0 0, .int .i64 0]) (new := #[.int .i64 n0, .int .i64 o, .bool b2, .int .i64 0, .int .i64 0, .slice none 0 0, .int .i64 0, .int .i64 0, .slice none 0 0, .slice none 0 0, .slice none 0 0, .bool false, .bool false, .int .i64 0, .slice none 0 0, .slice none 0 0, .slice none 0 0, .int .i64 0]) rfl rfl rfl rfl rfl rfl BC.out (by kernel_rfl) (Nat.le_of_ble_eq_true rfl) (oneL1 rfl) rfl ?_; intro w9 hbox hg; have n_ := Aside0.mk (below_grow HB.out hg gec.out); clear HB; have HB := n_; clear n_; have n_ := Aside0.mk (blk_grown BP.out hg (fun e_ => absurd (Option.some.inj e_) (Nat.ne_of_lt (Nat.lt_trans lpb.out lbc.out)))); clear BP; have BP := n_; clear n_; have n_ := Aside0.mk (blk_grown BN.out hg (fun e_ => absurd (Option.some.inj e_) (Nat.ne_of_lt lbc.out))); clear BN; have BN := n_; clear n_; (try (have n_ := Aside0.mk (Kd.R_grown F5.out hg (fun k_ hk_ e_ => absurd (Option.some.inj e_) (Nat.ne_of_gt hk_))); clear F5; have F5 := n_; clear n_)); (try (have n_ := Aside0.mk (Kd.R_grown F8.out hg (fun k_ hk_ e_ => absurd (Option.some.inj e_) (Nat.ne_of_gt hk_))); clear F8; have F8 := n_; clear n_)); (try (have n_ := Aside0.mk (Kd.R_grown F9.out hg (fun k_ hk_ e_ => absurd (Option.some.inj e_) (Nat.ne_of_gt hk_))); clear F9; have F9 := n_; clear n_)); (try (have n_ := Aside0.mk (Kd.R_grown F10.out hg (fun k_ hk_ e_ => absurd (Option.some.inj e_) (Nat.ne_of_gt hk_))); clear F10; have F10 := n_; clear n_)); (try (have n_ := Aside0.mk (Kd.R_grown F14.out hg (fun k_ hk_ e_ => absurd (Option.some.inj e_) (Nat.ne_of_gt hk_))); clear F14; have F14 := n_; clear n_)); (try (have n_ := Aside0.mk (Kd.R_grown F15.out hg (fun k_ hk_ e_ => absurd (Option.some.inj e_) (Nat.ne_of_gt hk_))); clear F15; have F15 := n_; clear n_)); (try (have n_ := Aside0.mk (Kd.R_grown F16.out hg (fun k_ hk_ e_ => absurd (Option.some.inj e_) (Nat.ne_of_gt hk_))); clear F16; have F16 := n_; clear n_)); clear BC; have BC := Aside0.mk hbox; clear hbox hg; (try clear rp); have rp := blk_cell BP.out)
    | ((with_reducible refine gate_store (t := 44) (p := 16) (v := .tmp 15) rfl ?_); refine store_part (ty := 44) (t := 49) (g := gc) (off := 3) (v := .agg #[.int .i64 n3, .int .i64 n4, v5]) (cs := [.int .i64 n3, .int .i64 n4, v5]) (old := #[.int .i64 n0, .int .i64 o, .bool b2, .int .i64 0, .int .i64 0, .slice none 0 0, .int .i64 0, .int .i64 0, .slice none 0 0, .slice none 0 0, .slice none 0 0, .bool false, .bool false, .int .i64 0, .slice none 0 0, .slice none 0 0, .slice none 0 0, .int .i64 0]) (new := #[.int .i64 n0, .int .i64 o, .bool b2, .int .i64 n3, .int .i64 n4, v5, .int .i64 0, .int .i64 0, .slice none 0 0, .slice none 0 0, .slice none 0 0, .bool false, .bool false, .int .i64 0, .slice none 0 0, .slice none 0 0, .slice none 0 0, .int .i64 0]) rfl rfl rfl rfl rfl rfl BC.out (by kernel_rfl) (Nat.le_of_ble_eq_true rfl) (oneL3 rfl rfl (Kd.R_val F5.out).2) rfl ?_; intro w9 hbox hg; have n_ := Aside0.mk (below_grow HB.out hg gec.out); clear HB; have HB := n_; clear n_; have n_ := Aside0.mk (blk_grown BP.out hg (fun e_ => absurd (Option.some.inj e_) (Nat.ne_of_lt (Nat.lt_trans lpb.out lbc.out)))); clear BP; have BP := n_; clear n_; have n_ := Aside0.mk (blk_grown BN.out hg (fun e_ => absurd (Option.some.inj e_) (Nat.ne_of_lt lbc.out))); clear BN; have BN := n_; clear n_; (try (have n_ := Aside0.mk (Kd.R_grown F5.out hg (fun k_ hk_ e_ => absurd (Option.some.inj e_) (Nat.ne_of_gt hk_))); clear F5; have F5 := n_; clear n_)); (try (have n_ := Aside0.mk (Kd.R_grown F8.out hg (fun k_ hk_ e_ => absurd (Option.some.inj e_) (Nat.ne_of_gt hk_))); clear F8; have F8 := n_; clear n_)); (try (have n_ := Aside0.mk (Kd.R_grown F9.out hg (fun k_ hk_ e_ => absurd (Option.some.inj e_) (Nat.ne_of_gt hk_))); clear F9; have F9 := n_; clear n_)); (try (have n_ := Aside0.mk (Kd.R_grown F10.out hg (fun k_ hk_ e_ => absurd (Option.some.inj e_) (Nat.ne_of_gt hk_))); clear F10; have F10 := n_; clear n_)); (try (have n_ := Aside0.mk (Kd.R_grown F14.out hg (fun k_ hk_ e_ => absurd (Option.some.inj e_) (Nat.ne_of_gt hk_))); clear F14; have F14 := n_; clear n_)); (try (have n_ := Aside0.mk (Kd.R_grown F15.out hg (fun k_ hk_ e_ => absurd (Option.some.inj e_) (Nat.ne_of_gt hk_))); clear F15; have F15 := n_; clear n_)); (try (have n_ := Aside0.mk (Kd.R_grown F16.out hg (fun k_ hk_ e_ => absurd (Option.some.inj e_) (Nat.ne_of_gt hk_))); clear F16; have F16 := n_; clear n_)); clear BC; have BC := Aside0.mk hbox; clear hbox hg; (try clear rp); have rp := blk_cell BP.out)
    | ((with_reducible refine gate_store (t := 44) (p := 20) (v := .tmp 19) rfl ?_); refine store_part (ty := 44) (t := 49) (g := gc) (off := 6) (v := .agg #[.int .i64 n6, .int .i64 n7, v8]) (cs := [.int .i64 n6, .int .i64 n7, v8]) (old := #[.int .i64 n0, .int .i64 o, .bool b2, .int .i64 n3, .int .i64 n4, v5, .int .i64 0, .int .i64 0, .slice none 0 0, .slice none 0 0, .slice none 0 0, .bool false, .bool false, .int .i64 0, .slice none 0 0, .slice none 0 0, .slice none 0 0, .int .i64 0]) (new := #[.int .i64 n0, .int .i64 o, .bool b2, .int .i64 n3, .int .i64 n4, v5, .int .i64 n6, .int .i64 n7, v8, .slice none 0 0, .slice none 0 0, .bool false, .bool false, .int .i64 0, .slice none 0 0, .slice none 0 0, .slice none 0 0, .int .i64 0]) rfl rfl rfl rfl rfl rfl BC.out (by kernel_rfl) (Nat.le_of_ble_eq_true rfl) (oneL3 rfl rfl (Kd.R_val F8.out).2) rfl ?_; intro w9 hbox hg; have n_ := Aside0.mk (below_grow HB.out hg gec.out); clear HB; have HB := n_; clear n_; have n_ := Aside0.mk (blk_grown BP.out hg (fun e_ => absurd (Option.some.inj e_) (Nat.ne_of_lt (Nat.lt_trans lpb.out lbc.out)))); clear BP; have BP := n_; clear n_; have n_ := Aside0.mk (blk_grown BN.out hg (fun e_ => absurd (Option.some.inj e_) (Nat.ne_of_lt lbc.out))); clear BN; have BN := n_; clear n_; (try (have n_ := Aside0.mk (Kd.R_grown F5.out hg (fun k_ hk_ e_ => absurd (Option.some.inj e_) (Nat.ne_of_gt hk_))); clear F5; have F5 := n_; clear n_)); (try (have n_ := Aside0.mk (Kd.R_grown F8.out hg (fun k_ hk_ e_ => absurd (Option.some.inj e_) (Nat.ne_of_gt hk_))); clear F8; have F8 := n_; clear n_)); (try (have n_ := Aside0.mk (Kd.R_grown F9.out hg (fun k_ hk_ e_ => absurd (Option.some.inj e_) (Nat.ne_of_gt hk_))); clear F9; have F9 := n_; clear n_)); (try (have n_ := Aside0.mk (Kd.R_grown F10.out hg (fun k_ hk_ e_ => absurd (Option.some.inj e_) (Nat.ne_of_gt hk_))); clear F10; have F10 := n_; clear n_)); (try (have n_ := Aside0.mk (Kd.R_grown F14.out hg (fun k_ hk_ e_ => absurd (Option.some.inj e_) (Nat.ne_of_gt hk_))); clear F14; have F14 := n_; clear n_)); (try (have n_ := Aside0.mk (Kd.R_grown F15.out hg (fun k_ hk_ e_ => absurd (Option.some.inj e_) (Nat.ne_of_gt hk_))); clear F15; have F15 := n_; clear n_)); (try (have n_ := Aside0.mk (Kd.R_grown F16.out hg (fun k_ hk_ e_ => absurd (Option.some.inj e_) (Nat.ne_of_gt hk_))); clear F16; have F16 := n_; clear n_)); clear BC; have BC := Aside0.mk hbox; clear hbox hg; (try clear rp); have rp := blk_cell BP.out)
    | ((with_reducible refine gate_store (t := 30) (p := 24) (v := .tmp 23) rfl ?_); refine store_part (ty := 30) (t := 49) (g := gc) (off := 9) (v := v9) (cs := [v9]) (old := #[.int .i64 n0, .int .i64 o, .bool b2, .int .i64 n3, .int .i64 n4, v5, .int .i64 n6, .int .i64 n7, v8, .slice none 0 0, .slice none 0 0, .bool false, .bool false, .int .i64 0, .slice none 0 0, .slice none 0 0, .slice none 0 0, .int .i64 0]) (new := #[.int .i64 n0, .int .i64 o, .bool b2, .int .i64 n3, .int .i64 n4, v5, .int .i64 n6, .int .i64 n7, v8, v9, .slice none 0 0, .bool false, .bool false, .int .i64 0, .slice none 0 0, .slice none 0 0, .slice none 0 0, .int .i64 0]) rfl rfl rfl rfl rfl (Kd.R_val F9.out).1 BC.out (by kernel_rfl) (Nat.le_of_ble_eq_true rfl) (oneL1 (Kd.R_val F9.out).2) rfl ?_; intro w9 hbox hg; have n_ := Aside0.mk (below_grow HB.out hg gec.out); clear HB; have HB := n_; clear n_; have n_ := Aside0.mk (blk_grown BP.out hg (fun e_ => absurd (Option.some.inj e_) (Nat.ne_of_lt (Nat.lt_trans lpb.out lbc.out)))); clear BP; have BP := n_; clear n_; have n_ := Aside0.mk (blk_grown BN.out hg (fun e_ => absurd (Option.some.inj e_) (Nat.ne_of_lt lbc.out))); clear BN; have BN := n_; clear n_; (try (have n_ := Aside0.mk (Kd.R_grown F5.out hg (fun k_ hk_ e_ => absurd (Option.some.inj e_) (Nat.ne_of_gt hk_))); clear F5; have F5 := n_; clear n_)); (try (have n_ := Aside0.mk (Kd.R_grown F8.out hg (fun k_ hk_ e_ => absurd (Option.some.inj e_) (Nat.ne_of_gt hk_))); clear F8; have F8 := n_; clear n_)); (try (have n_ := Aside0.mk (Kd.R_grown F9.out hg (fun k_ hk_ e_ => absurd (Option.some.inj e_) (Nat.ne_of_gt hk_))); clear F9; have F9 := n_; clear n_)); (try (have n_ := Aside0.mk (Kd.R_grown F10.out hg (fun k_ hk_ e_ => absurd (Option.some.inj e_) (Nat.ne_of_gt hk_))); clear F10; have F10 := n_; clear n_)); (try (have n_ := Aside0.mk (Kd.R_grown F14.out hg (fun k_ hk_ e_ => absurd (Option.some.inj e_) (Nat.ne_of_gt hk_))); clear F14; have F14 := n_; clear n_)); (try (have n_ := Aside0.mk (Kd.R_grown F15.out hg (fun k_ hk_ e_ => absurd (Option.some.inj e_) (Nat.ne_of_gt hk_))); clear F15; have F15 := n_; clear n_)); (try (have n_ := Aside0.mk (Kd.R_grown F16.out hg (fun k_ hk_ e_ => absurd (Option.some.inj e_) (Nat.ne_of_gt hk_))); clear F16; have F16 := n_; clear n_)); clear BC; have BC := Aside0.mk hbox; clear hbox hg; (try clear rp); have rp := blk_cell BP.out)
    | ((with_reducible refine gate_store (t := 45) (p := 28) (v := .tmp 27) rfl ?_); refine store_part (ty := 45) (t := 49) (g := gc) (off := 10) (v := v10) (cs := [v10]) (old := #[.int .i64 n0, .int .i64 o, .bool b2, .int .i64 n3, .int .i64 n4, v5, .int .i64 n6, .int .i64 n7, v8, v9, .slice none 0 0, .bool false, .bool false, .int .i64 0, .slice none 0 0, .slice none 0 0, .slice none 0 0, .int .i64 0]) (new := #[.int .i64 n0, .int .i64 o, .bool b2, .int .i64 n3, .int .i64 n4, v5, .int .i64 n6, .int .i64 n7, v8, v9, v10, .bool false, .bool false, .int .i64 0, .slice none 0 0, .slice none 0 0, .slice none 0 0, .int .i64 0]) rfl rfl rfl rfl rfl (Kd.R_val F10.out).1 BC.out (by kernel_rfl) (Nat.le_of_ble_eq_true rfl) (oneL1 (Kd.R_val F10.out).2) rfl ?_; intro w9 hbox hg; have n_ := Aside0.mk (below_grow HB.out hg gec.out); clear HB; have HB := n_; clear n_; have n_ := Aside0.mk (blk_grown BP.out hg (fun e_ => absurd (Option.some.inj e_) (Nat.ne_of_lt (Nat.lt_trans lpb.out lbc.out)))); clear BP; have BP := n_; clear n_; have n_ := Aside0.mk (blk_grown BN.out hg (fun e_ => absurd (Option.some.inj e_) (Nat.ne_of_lt lbc.out))); clear BN; have BN := n_; clear n_; (try (have n_ := Aside0.mk (Kd.R_grown F5.out hg (fun k_ hk_ e_ => absurd (Option.some.inj e_) (Nat.ne_of_gt hk_))); clear F5; have F5 := n_; clear n_)); (try (have n_ := Aside0.mk (Kd.R_grown F8.out hg (fun k_ hk_ e_ => absurd (Option.some.inj e_) (Nat.ne_of_gt hk_))); clear F8; have F8 := n_; clear n_)); (try (have n_ := Aside0.mk (Kd.R_grown F9.out hg (fun k_ hk_ e_ => absurd (Option.some.inj e_) (Nat.ne_of_gt hk_))); clear F9; have F9 := n_; clear n_)); (try (have n_ := Aside0.mk (Kd.R_grown F10.out hg (fun k_ hk_ e_ => absurd (Option.some.inj e_) (Nat.ne_of_gt hk_))); clear F10; have F10 := n_; clear n_)); (try (have n_ := Aside0.mk (Kd.R_grown F14.out hg (fun k_ hk_ e_ => absurd (Option.some.inj e_) (Nat.ne_of_gt hk_))); clear F14; have F14 := n_; clear n_)); (try (have n_ := Aside0.mk (Kd.R_grown F15.out hg (fun k_ hk_ e_ => absurd (Option.some.inj e_) (Nat.ne_of_gt hk_))); clear F15; have F15 := n_; clear n_)); (try (have n_ := Aside0.mk (Kd.R_grown F16.out hg (fun k_ hk_ e_ => absurd (Option.some.inj e_) (Nat.ne_of_gt hk_))); clear F16; have F16 := n_; clear n_)); clear BC; have BC := Aside0.mk hbox; clear hbox hg; (try clear rp); have rp := blk_cell BP.out)
    | ((with_reducible refine gate_store (t := 4) (p := 31) (v := .tmp 30) rfl ?_); refine store_part (ty := 4) (t := 49) (g := gc) (off := 11) (v := .bool L) (cs := [.bool L]) (old := #[.int .i64 n0, .int .i64 o, .bool b2, .int .i64 n3, .int .i64 n4, v5, .int .i64 n6, .int .i64 n7, v8, v9, v10, .bool false, .bool false, .int .i64 0, .slice none 0 0, .slice none 0 0, .slice none 0 0, .int .i64 0]) (new := #[.int .i64 n0, .int .i64 o, .bool b2, .int .i64 n3, .int .i64 n4, v5, .int .i64 n6, .int .i64 n7, v8, v9, v10, .bool L, .bool false, .int .i64 0, .slice none 0 0, .slice none 0 0, .slice none 0 0, .int .i64 0]) rfl rfl rfl rfl rfl rfl BC.out (by kernel_rfl) (Nat.le_of_ble_eq_true rfl) (oneL1 rfl) rfl ?_; intro w9 hbox hg; have n_ := Aside0.mk (below_grow HB.out hg gec.out); clear HB; have HB := n_; clear n_; have n_ := Aside0.mk (blk_grown BP.out hg (fun e_ => absurd (Option.some.inj e_) (Nat.ne_of_lt (Nat.lt_trans lpb.out lbc.out)))); clear BP; have BP := n_; clear n_; have n_ := Aside0.mk (blk_grown BN.out hg (fun e_ => absurd (Option.some.inj e_) (Nat.ne_of_lt lbc.out))); clear BN; have BN := n_; clear n_; (try (have n_ := Aside0.mk (Kd.R_grown F5.out hg (fun k_ hk_ e_ => absurd (Option.some.inj e_) (Nat.ne_of_gt hk_))); clear F5; have F5 := n_; clear n_)); (try (have n_ := Aside0.mk (Kd.R_grown F8.out hg (fun k_ hk_ e_ => absurd (Option.some.inj e_) (Nat.ne_of_gt hk_))); clear F8; have F8 := n_; clear n_)); (try (have n_ := Aside0.mk (Kd.R_grown F9.out hg (fun k_ hk_ e_ => absurd (Option.some.inj e_) (Nat.ne_of_gt hk_))); clear F9; have F9 := n_; clear n_)); (try (have n_ := Aside0.mk (Kd.R_grown F10.out hg (fun k_ hk_ e_ => absurd (Option.some.inj e_) (Nat.ne_of_gt hk_))); clear F10; have F10 := n_; clear n_)); (try (have n_ := Aside0.mk (Kd.R_grown F14.out hg (fun k_ hk_ e_ => absurd (Option.some.inj e_) (Nat.ne_of_gt hk_))); clear F14; have F14 := n_; clear n_)); (try (have n_ := Aside0.mk (Kd.R_grown F15.out hg (fun k_ hk_ e_ => absurd (Option.some.inj e_) (Nat.ne_of_gt hk_))); clear F15; have F15 := n_; clear n_)); (try (have n_ := Aside0.mk (Kd.R_grown F16.out hg (fun k_ hk_ e_ => absurd (Option.some.inj e_) (Nat.ne_of_gt hk_))); clear F16; have F16 := n_; clear n_)); clear BC; have BC := Aside0.mk hbox; clear hbox hg; (try clear rp); have rp := blk_cell BP.out)
    | ((with_reducible refine gate_store (t := 4) (p := 34) (v := .tmp 33) rfl ?_); refine store_part (ty := 4) (t := 49) (g := gc) (off := 12) (v := .bool T) (cs := [.bool T]) (old := #[.int .i64 n0, .int .i64 o, .bool b2, .int .i64 n3, .int .i64 n4, v5, .int .i64 n6, .int .i64 n7, v8, v9, v10, .bool L, .bool false, .int .i64 0, .slice none 0 0, .slice none 0 0, .slice none 0 0, .int .i64 0]) (new := #[.int .i64 n0, .int .i64 o, .bool b2, .int .i64 n3, .int .i64 n4, v5, .int .i64 n6, .int .i64 n7, v8, v9, v10, .bool L, .bool T, .int .i64 0, .slice none 0 0, .slice none 0 0, .slice none 0 0, .int .i64 0]) rfl rfl rfl rfl rfl rfl BC.out (by kernel_rfl) (Nat.le_of_ble_eq_true rfl) (oneL1 rfl) rfl ?_; intro w9 hbox hg; have n_ := Aside0.mk (below_grow HB.out hg gec.out); clear HB; have HB := n_; clear n_; have n_ := Aside0.mk (blk_grown BP.out hg (fun e_ => absurd (Option.some.inj e_) (Nat.ne_of_lt (Nat.lt_trans lpb.out lbc.out)))); clear BP; have BP := n_; clear n_; have n_ := Aside0.mk (blk_grown BN.out hg (fun e_ => absurd (Option.some.inj e_) (Nat.ne_of_lt lbc.out))); clear BN; have BN := n_; clear n_; (try (have n_ := Aside0.mk (Kd.R_grown F5.out hg (fun k_ hk_ e_ => absurd (Option.some.inj e_) (Nat.ne_of_gt hk_))); clear F5; have F5 := n_; clear n_)); (try (have n_ := Aside0.mk (Kd.R_grown F8.out hg (fun k_ hk_ e_ => absurd (Option.some.inj e_) (Nat.ne_of_gt hk_))); clear F8; have F8 := n_; clear n_)); (try (have n_ := Aside0.mk (Kd.R_grown F9.out hg (fun k_ hk_ e_ => absurd (Option.some.inj e_) (Nat.ne_of_gt hk_))); clear F9; have F9 := n_; clear n_)); (try (have n_ := Aside0.mk (Kd.R_grown F10.out hg (fun k_ hk_ e_ => absurd (Option.some.inj e_) (Nat.ne_of_gt hk_))); clear F10; have F10 := n_; clear n_)); (try (have n_ := Aside0.mk (Kd.R_grown F14.out hg (fun k_ hk_ e_ => absurd (Option.some.inj e_) (Nat.ne_of_gt hk_))); clear F14; have F14 := n_; clear n_)); (try (have n_ := Aside0.mk (Kd.R_grown F15.out hg (fun k_ hk_ e_ => absurd (Option.some.inj e_) (Nat.ne_of_gt hk_))); clear F15; have F15 := n_; clear n_)); (try (have n_ := Aside0.mk (Kd.R_grown F16.out hg (fun k_ hk_ e_ => absurd (Option.some.inj e_) (Nat.ne_of_gt hk_))); clear F16; have F16 := n_; clear n_)); clear BC; have BC := Aside0.mk hbox; clear hbox hg; (try clear rp); have rp := blk_cell BP.out)
    | ((with_reducible refine gate_store (t := 3) (p := 37) (v := .tmp 36) rfl ?_); refine store_part (ty := 3) (t := 49) (g := gc) (off := 13) (v := .int .i64 n13) (cs := [.int .i64 n13]) (old := #[.int .i64 n0, .int .i64 o, .bool b2, .int .i64 n3, .int .i64 n4, v5, .int .i64 n6, .int .i64 n7, v8, v9, v10, .bool L, .bool T, .int .i64 0, .slice none 0 0, .slice none 0 0, .slice none 0 0, .int .i64 0]) (new := #[.int .i64 n0, .int .i64 o, .bool b2, .int .i64 n3, .int .i64 n4, v5, .int .i64 n6, .int .i64 n7, v8, v9, v10, .bool L, .bool T, .int .i64 n13, .slice none 0 0, .slice none 0 0, .slice none 0 0, .int .i64 0]) rfl rfl rfl rfl rfl rfl BC.out (by kernel_rfl) (Nat.le_of_ble_eq_true rfl) (oneL1 rfl) rfl ?_; intro w9 hbox hg; have n_ := Aside0.mk (below_grow HB.out hg gec.out); clear HB; have HB := n_; clear n_; have n_ := Aside0.mk (blk_grown BP.out hg (fun e_ => absurd (Option.some.inj e_) (Nat.ne_of_lt (Nat.lt_trans lpb.out lbc.out)))); clear BP; have BP := n_; clear n_; have n_ := Aside0.mk (blk_grown BN.out hg (fun e_ => absurd (Option.some.inj e_) (Nat.ne_of_lt lbc.out))); clear BN; have BN := n_; clear n_; (try (have n_ := Aside0.mk (Kd.R_grown F5.out hg (fun k_ hk_ e_ => absurd (Option.some.inj e_) (Nat.ne_of_gt hk_))); clear F5; have F5 := n_; clear n_)); (try (have n_ := Aside0.mk (Kd.R_grown F8.out hg (fun k_ hk_ e_ => absurd (Option.some.inj e_) (Nat.ne_of_gt hk_))); clear F8; have F8 := n_; clear n_)); (try (have n_ := Aside0.mk (Kd.R_grown F9.out hg (fun k_ hk_ e_ => absurd (Option.some.inj e_) (Nat.ne_of_gt hk_))); clear F9; have F9 := n_; clear n_)); (try (have n_ := Aside0.mk (Kd.R_grown F10.out hg (fun k_ hk_ e_ => absurd (Option.some.inj e_) (Nat.ne_of_gt hk_))); clear F10; have F10 := n_; clear n_)); (try (have n_ := Aside0.mk (Kd.R_grown F14.out hg (fun k_ hk_ e_ => absurd (Option.some.inj e_) (Nat.ne_of_gt hk_))); clear F14; have F14 := n_; clear n_)); (try (have n_ := Aside0.mk (Kd.R_grown F15.out hg (fun k_ hk_ e_ => absurd (Option.some.inj e_) (Nat.ne_of_gt hk_))); clear F15; have F15 := n_; clear n_)); (try (have n_ := Aside0.mk (Kd.R_grown F16.out hg (fun k_ hk_ e_ => absurd (Option.some.inj e_) (Nat.ne_of_gt hk_))); clear F16; have F16 := n_; clear n_)); clear BC; have BC := Aside0.mk hbox; clear hbox hg; (try clear rp); have rp := blk_cell BP.out)
    | ((with_reducible refine gate_store (t := 46) (p := 41) (v := .tmp 40) rfl ?_); refine store_part (ty := 46) (t := 49) (g := gc) (off := 14) (v := v14) (cs := [v14]) (old := #[.int .i64 n0, .int .i64 o, .bool b2, .int .i64 n3, .int .i64 n4, v5, .int .i64 n6, .int .i64 n7, v8, v9, v10, .bool L, .bool T, .int .i64 n13, .slice none 0 0, .slice none 0 0, .slice none 0 0, .int .i64 0]) (new := #[.int .i64 n0, .int .i64 o, .bool b2, .int .i64 n3, .int .i64 n4, v5, .int .i64 n6, .int .i64 n7, v8, v9, v10, .bool L, .bool T, .int .i64 n13, v14, .slice none 0 0, .slice none 0 0, .int .i64 0]) rfl rfl rfl rfl rfl (Kd.R_val F14.out).1 BC.out (by kernel_rfl) (Nat.le_of_ble_eq_true rfl) (oneL1 (Kd.R_val F14.out).2) rfl ?_; intro w9 hbox hg; have n_ := Aside0.mk (below_grow HB.out hg gec.out); clear HB; have HB := n_; clear n_; have n_ := Aside0.mk (blk_grown BP.out hg (fun e_ => absurd (Option.some.inj e_) (Nat.ne_of_lt (Nat.lt_trans lpb.out lbc.out)))); clear BP; have BP := n_; clear n_; have n_ := Aside0.mk (blk_grown BN.out hg (fun e_ => absurd (Option.some.inj e_) (Nat.ne_of_lt lbc.out))); clear BN; have BN := n_; clear n_; (try (have n_ := Aside0.mk (Kd.R_grown F5.out hg (fun k_ hk_ e_ => absurd (Option.some.inj e_) (Nat.ne_of_gt hk_))); clear F5; have F5 := n_; clear n_)); (try (have n_ := Aside0.mk (Kd.R_grown F8.out hg (fun k_ hk_ e_ => absurd (Option.some.inj e_) (Nat.ne_of_gt hk_))); clear F8; have F8 := n_; clear n_)); (try (have n_ := Aside0.mk (Kd.R_grown F9.out hg (fun k_ hk_ e_ => absurd (Option.some.inj e_) (Nat.ne_of_gt hk_))); clear F9; have F9 := n_; clear n_)); (try (have n_ := Aside0.mk (Kd.R_grown F10.out hg (fun k_ hk_ e_ => absurd (Option.some.inj e_) (Nat.ne_of_gt hk_))); clear F10; have F10 := n_; clear n_)); (try (have n_ := Aside0.mk (Kd.R_grown F14.out hg (fun k_ hk_ e_ => absurd (Option.some.inj e_) (Nat.ne_of_gt hk_))); clear F14; have F14 := n_; clear n_)); (try (have n_ := Aside0.mk (Kd.R_grown F15.out hg (fun k_ hk_ e_ => absurd (Option.some.inj e_) (Nat.ne_of_gt hk_))); clear F15; have F15 := n_; clear n_)); (try (have n_ := Aside0.mk (Kd.R_grown F16.out hg (fun k_ hk_ e_ => absurd (Option.some.inj e_) (Nat.ne_of_gt hk_))); clear F16; have F16 := n_; clear n_)); clear BC; have BC := Aside0.mk hbox; clear hbox hg; (try clear rp); have rp := blk_cell BP.out)
    | ((with_reducible refine gate_store (t := 42) (p := 45) (v := .tmp 44) rfl ?_); refine store_part (ty := 42) (t := 49) (g := gc) (off := 15) (v := v15) (cs := [v15]) (old := #[.int .i64 n0, .int .i64 o, .bool b2, .int .i64 n3, .int .i64 n4, v5, .int .i64 n6, .int .i64 n7, v8, v9, v10, .bool L, .bool T, .int .i64 n13, v14, .slice none 0 0, .slice none 0 0, .int .i64 0]) (new := #[.int .i64 n0, .int .i64 o, .bool b2, .int .i64 n3, .int .i64 n4, v5, .int .i64 n6, .int .i64 n7, v8, v9, v10, .bool L, .bool T, .int .i64 n13, v14, v15, .slice none 0 0, .int .i64 0]) rfl rfl rfl rfl rfl (Kd.R_val F15.out).1 BC.out (by kernel_rfl) (Nat.le_of_ble_eq_true rfl) (oneL1 (Kd.R_val F15.out).2) rfl ?_; intro w9 hbox hg; have n_ := Aside0.mk (below_grow HB.out hg gec.out); clear HB; have HB := n_; clear n_; have n_ := Aside0.mk (blk_grown BP.out hg (fun e_ => absurd (Option.some.inj e_) (Nat.ne_of_lt (Nat.lt_trans lpb.out lbc.out)))); clear BP; have BP := n_; clear n_; have n_ := Aside0.mk (blk_grown BN.out hg (fun e_ => absurd (Option.some.inj e_) (Nat.ne_of_lt lbc.out))); clear BN; have BN := n_; clear n_; (try (have n_ := Aside0.mk (Kd.R_grown F5.out hg (fun k_ hk_ e_ => absurd (Option.some.inj e_) (Nat.ne_of_gt hk_))); clear F5; have F5 := n_; clear n_)); (try (have n_ := Aside0.mk (Kd.R_grown F8.out hg (fun k_ hk_ e_ => absurd (Option.some.inj e_) (Nat.ne_of_gt hk_))); clear F8; have F8 := n_; clear n_)); (try (have n_ := Aside0.mk (Kd.R_grown F9.out hg (fun k_ hk_ e_ => absurd (Option.some.inj e_) (Nat.ne_of_gt hk_))); clear F9; have F9 := n_; clear n_)); (try (have n_ := Aside0.mk (Kd.R_grown F10.out hg (fun k_ hk_ e_ => absurd (Option.some.inj e_) (Nat.ne_of_gt hk_))); clear F10; have F10 := n_; clear n_)); (try (have n_ := Aside0.mk (Kd.R_grown F14.out hg (fun k_ hk_ e_ => absurd (Option.some.inj e_) (Nat.ne_of_gt hk_))); clear F14; have F14 := n_; clear n_)); (try (have n_ := Aside0.mk (Kd.R_grown F15.out hg (fun k_ hk_ e_ => absurd (Option.some.inj e_) (Nat.ne_of_gt hk_))); clear F15; have F15 := n_; clear n_)); (try (have n_ := Aside0.mk (Kd.R_grown F16.out hg (fun k_ hk_ e_ => absurd (Option.some.inj e_) (Nat.ne_of_gt hk_))); clear F16; have F16 := n_; clear n_)); clear BC; have BC := Aside0.mk hbox; clear hbox hg; (try clear rp); have rp := blk_cell BP.out)
    | ((with_reducible refine gate_store (t := 47) (p := 49) (v := .tmp 48) rfl ?_); refine store_part (ty := 47) (t := 49) (g := gc) (off := 16) (v := v16) (cs := [v16]) (old := #[.int .i64 n0, .int .i64 o, .bool b2, .int .i64 n3, .int .i64 n4, v5, .int .i64 n6, .int .i64 n7, v8, v9, v10, .bool L, .bool T, .int .i64 n13, v14, v15, .slice none 0 0, .int .i64 0]) (new := #[.int .i64 n0, .int .i64 o, .bool b2, .int .i64 n3, .int .i64 n4, v5, .int .i64 n6, .int .i64 n7, v8, v9, v10, .bool L, .bool T, .int .i64 n13, v14, v15, v16, .int .i64 0]) rfl rfl rfl rfl rfl (Kd.R_val F16.out).1 BC.out (by kernel_rfl) (Nat.le_of_ble_eq_true rfl) (oneL1 (Kd.R_val F16.out).2) rfl ?_; intro w9 hbox hg; have n_ := Aside0.mk (below_grow HB.out hg gec.out); clear HB; have HB := n_; clear n_; have n_ := Aside0.mk (blk_grown BP.out hg (fun e_ => absurd (Option.some.inj e_) (Nat.ne_of_lt (Nat.lt_trans lpb.out lbc.out)))); clear BP; have BP := n_; clear n_; have n_ := Aside0.mk (blk_grown BN.out hg (fun e_ => absurd (Option.some.inj e_) (Nat.ne_of_lt lbc.out))); clear BN; have BN := n_; clear n_; (try (have n_ := Aside0.mk (Kd.R_grown F5.out hg (fun k_ hk_ e_ => absurd (Option.some.inj e_) (Nat.ne_of_gt hk_))); clear F5; have F5 := n_; clear n_)); (try (have n_ := Aside0.mk (Kd.R_grown F8.out hg (fun k_ hk_ e_ => absurd (Option.some.inj e_) (Nat.ne_of_gt hk_))); clear F8; have F8 := n_; clear n_)); (try (have n_ := Aside0.mk (Kd.R_grown F9.out hg (fun k_ hk_ e_ => absurd (Option.some.inj e_) (Nat.ne_of_gt hk_))); clear F9; have F9 := n_; clear n_)); (try (have n_ := Aside0.mk (Kd.R_grown F10.out hg (fun k_ hk_ e_ => absurd (Option.some.inj e_) (Nat.ne_of_gt hk_))); clear F10; have F10 := n_; clear n_)); (try (have n_ := Aside0.mk (Kd.R_grown F14.out hg (fun k_ hk_ e_ => absurd (Option.some.inj e_) (Nat.ne_of_gt hk_))); clear F14; have F14 := n_; clear n_)); (try (have n_ := Aside0.mk (Kd.R_grown F15.out hg (fun k_ hk_ e_ => absurd (Option.some.inj e_) (Nat.ne_of_gt hk_))); clear F15; have F15 := n_; clear n_)); (try (have n_ := Aside0.mk (Kd.R_grown F16.out hg (fun k_ hk_ e_ => absurd (Option.some.inj e_) (Nat.ne_of_gt hk_))); clear F16; have F16 := n_; clear n_)); clear BC; have BC := Aside0.mk hbox; clear hbox hg; (try clear rp); have rp := blk_cell BP.out)
    | ((with_reducible refine gate_store (t := 3) (p := 52) (v := .tmp 51) rfl ?_); refine store_part (ty := 3) (t := 49) (g := gc) (off := 17) (v := .int .i64 n17) (cs := [.int .i64 n17]) (old := #[.int .i64 n0, .int .i64 o, .bool b2, .int .i64 n3, .int .i64 n4, v5, .int .i64 n6, .int .i64 n7, v8, v9, v10, .bool L, .bool T, .int .i64 n13, v14, v15, v16, .int .i64 0]) (new := #[.int .i64 n0, .int .i64 o, .bool b2, .int .i64 n3, .int .i64 n4, v5, .int .i64 n6, .int .i64 n7, v8, v9, v10, .bool L, .bool T, .int .i64 n13, v14, v15, v16, .int .i64 n17]) rfl rfl rfl rfl rfl rfl BC.out (by kernel_rfl) (Nat.le_of_ble_eq_true rfl) (oneL1 rfl) rfl ?_; intro w9 hbox hg; have n_ := Aside0.mk (below_grow HB.out hg gec.out); clear HB; have HB := n_; clear n_; have n_ := Aside0.mk (blk_grown BP.out hg (fun e_ => absurd (Option.some.inj e_) (Nat.ne_of_lt (Nat.lt_trans lpb.out lbc.out)))); clear BP; have BP := n_; clear n_; have n_ := Aside0.mk (blk_grown BN.out hg (fun e_ => absurd (Option.some.inj e_) (Nat.ne_of_lt lbc.out))); clear BN; have BN := n_; clear n_; (try (have n_ := Aside0.mk (Kd.R_grown F5.out hg (fun k_ hk_ e_ => absurd (Option.some.inj e_) (Nat.ne_of_gt hk_))); clear F5; have F5 := n_; clear n_)); (try (have n_ := Aside0.mk (Kd.R_grown F8.out hg (fun k_ hk_ e_ => absurd (Option.some.inj e_) (Nat.ne_of_gt hk_))); clear F8; have F8 := n_; clear n_)); (try (have n_ := Aside0.mk (Kd.R_grown F9.out hg (fun k_ hk_ e_ => absurd (Option.some.inj e_) (Nat.ne_of_gt hk_))); clear F9; have F9 := n_; clear n_)); (try (have n_ := Aside0.mk (Kd.R_grown F10.out hg (fun k_ hk_ e_ => absurd (Option.some.inj e_) (Nat.ne_of_gt hk_))); clear F10; have F10 := n_; clear n_)); (try (have n_ := Aside0.mk (Kd.R_grown F14.out hg (fun k_ hk_ e_ => absurd (Option.some.inj e_) (Nat.ne_of_gt hk_))); clear F14; have F14 := n_; clear n_)); (try (have n_ := Aside0.mk (Kd.R_grown F15.out hg (fun k_ hk_ e_ => absurd (Option.some.inj e_) (Nat.ne_of_gt hk_))); clear F15; have F15 := n_; clear n_)); (try (have n_ := Aside0.mk (Kd.R_grown F16.out hg (fun k_ hk_ e_ => absurd (Option.some.inj e_) (Nat.ne_of_gt hk_))); clear F16; have F16 := n_; clear n_)); clear BC; have BC := Aside0.mk hbox; clear hbox hg; (try clear rp); have rp := blk_cell BP.out)
    | (((with_reducible refine gate_load (t := 49) (p := 3) rfl ?_); refine load_row (ty := 49) (t := 49) (g := gc) (cs := #[.int .i64 n0, .int .i64 o, .bool b2, .int .i64 n3, .int .i64 n4, v5, .int .i64 n6, .int .i64 n7, v8, v9, v10, .bool L, .bool T, .int .i64 n13, v14, v15, v16, .int .i64 n17]) rfl rfl rfl BC.out Try.underlying49 rfl (by kernel_rfl) ?_))
    | ((with_reducible refine gate_store (t := 49) (p := 2) (v := .tmp 53) rfl ?_); refine store_row (ty := 49) (t := 49) (g := gb) (cells := #[.int .i64 n0, .int .i64 o, .bool b2, .int .i64 n3, .int .i64 n4, v5, .int .i64 n6, .int .i64 n7, v8, v9, v10, .bool L, .bool T, .int .i64 n13, v14, v15, v16, .int .i64 n17]) (old := #[.int .i64 0, .int .i64 0, .bool false, .int .i64 0, .int .i64 0, .slice none 0 0, .int .i64 0, .int .i64 0, .slice none 0 0, .slice none 0 0, .slice none 0 0, .bool false, .bool false, .int .i64 0, .slice none 0 0, .slice none 0 0, .slice none 0 0, .int .i64 0]) rfl rfl rfl rfl rfl BN.out (by kernel_rfl) rfl (by simp only [List.all_cons, List.all_nil, List.toList_toArray, (Kd.R_val F5.out).2, (Kd.R_val F8.out).2, (Kd.R_val F9.out).2, (Kd.R_val F10.out).2, (Kd.R_val F14.out).2, (Kd.R_val F15.out).2, (Kd.R_val F16.out).2, Bool.and_true]; rfl) ?_; intro w9 hbox hg; have n_ := Aside0.mk (below_grow HB.out hg geb.out); clear HB; have HB := n_; clear n_; (try (have n_ := Aside0.mk (Kd.R_grown F5.out hg (fun k_ hk_ e_ => absurd (Option.some.inj e_) (Nat.ne_of_gt (Nat.lt_trans lbc.out hk_)))); clear F5; have F5 := n_; clear n_)); (try (have n_ := Aside0.mk (Kd.R_grown F8.out hg (fun k_ hk_ e_ => absurd (Option.some.inj e_) (Nat.ne_of_gt (Nat.lt_trans lbc.out hk_)))); clear F8; have F8 := n_; clear n_)); (try (have n_ := Aside0.mk (Kd.R_grown F9.out hg (fun k_ hk_ e_ => absurd (Option.some.inj e_) (Nat.ne_of_gt (Nat.lt_trans lbc.out hk_)))); clear F9; have F9 := n_; clear n_)); (try (have n_ := Aside0.mk (Kd.R_grown F10.out hg (fun k_ hk_ e_ => absurd (Option.some.inj e_) (Nat.ne_of_gt (Nat.lt_trans lbc.out hk_)))); clear F10; have F10 := n_; clear n_)); (try (have n_ := Aside0.mk (Kd.R_grown F14.out hg (fun k_ hk_ e_ => absurd (Option.some.inj e_) (Nat.ne_of_gt (Nat.lt_trans lbc.out hk_)))); clear F14; have F14 := n_; clear n_)); (try (have n_ := Aside0.mk (Kd.R_grown F15.out hg (fun k_ hk_ e_ => absurd (Option.some.inj e_) (Nat.ne_of_gt (Nat.lt_trans lbc.out hk_)))); clear F15; have F15 := n_; clear n_)); (try (have n_ := Aside0.mk (Kd.R_grown F16.out hg (fun k_ hk_ e_ => absurd (Option.some.inj e_) (Nat.ne_of_gt (Nat.lt_trans lbc.out hk_)))); clear F16; have F16 := n_; clear n_)); clear BN; have BN := Aside0.mk hbox; clear hbox hg BC BP; (try clear rp))
    | (go_at_call 48; (with_reducible refine (toDiskC _ _ x5 A5 c5 _ (Kd.C_below H5.out.1 HB.out) H5.out.2.1 H5.out.2.2 gc (blk_lt BC.out)).mono ?_); rintro e wn ⟨v5, rfl, hr, hb⟩; replace hr := Kd.R_lower hr (below_size HB.out); have n_ := Aside0.mk (below_step HB.out hb); clear HB; have HB := n_; clear n_; (try (have n_ := Aside0.mk (blk_below BP.out hb); clear BP; have BP := n_; clear n_)); (try (have n_ := Aside0.mk (blk_below BN.out hb); clear BN; have BN := n_; clear n_)); (try (have n_ := Aside0.mk (blk_below BC.out hb); clear BC; have BC := n_; clear n_)); (try (have n_ := Aside0.mk (Kd.R_below F5.out hb); clear F5; have F5 := n_; clear n_)); (try (have n_ := Aside0.mk (Kd.R_below F8.out hb); clear F8; have F8 := n_; clear n_)); (try (have n_ := Aside0.mk (Kd.R_below F9.out hb); clear F9; have F9 := n_; clear n_)); (try (have n_ := Aside0.mk (Kd.R_below F10.out hb); clear F10; have F10 := n_; clear n_)); (try (have n_ := Aside0.mk (Kd.R_below F14.out hb); clear F14; have F14 := n_; clear n_)); (try (have n_ := Aside0.mk (Kd.R_below F15.out hb); clear F15; have F15 := n_; clear n_)); (try (have n_ := Aside0.mk (Kd.R_below F16.out hb); clear F16; have F16 := n_; clear n_)); clear F5; have F5 := Aside0.mk hr; clear hr hb; (try clear rp); have rp := blk_cell BP.out)
    | (go_at_call 48; (with_reducible refine (toDiskC _ _ x8 A8 c8 _ (Kd.C_below H8.out.1 HB.out) H8.out.2.1 H8.out.2.2 gc (blk_lt BC.out)).mono ?_); rintro e wn ⟨v8, rfl, hr, hb⟩; replace hr := Kd.R_lower hr (below_size HB.out); have n_ := Aside0.mk (below_step HB.out hb); clear HB; have HB := n_; clear n_; (try (have n_ := Aside0.mk (blk_below BP.out hb); clear BP; have BP := n_; clear n_)); (try (have n_ := Aside0.mk (blk_below BN.out hb); clear BN; have BN := n_; clear n_)); (try (have n_ := Aside0.mk (blk_below BC.out hb); clear BC; have BC := n_; clear n_)); (try (have n_ := Aside0.mk (Kd.R_below F5.out hb); clear F5; have F5 := n_; clear n_)); (try (have n_ := Aside0.mk (Kd.R_below F8.out hb); clear F8; have F8 := n_; clear n_)); (try (have n_ := Aside0.mk (Kd.R_below F9.out hb); clear F9; have F9 := n_; clear n_)); (try (have n_ := Aside0.mk (Kd.R_below F10.out hb); clear F10; have F10 := n_; clear n_)); (try (have n_ := Aside0.mk (Kd.R_below F14.out hb); clear F14; have F14 := n_; clear n_)); (try (have n_ := Aside0.mk (Kd.R_below F15.out hb); clear F15; have F15 := n_; clear n_)); (try (have n_ := Aside0.mk (Kd.R_below F16.out hb); clear F16; have F16 := n_; clear n_)); clear F8; have F8 := Aside0.mk hr; clear hr hb; (try clear rp); have rp := blk_cell BP.out)
    | (go_at_call 16; (with_reducible refine (toMsgC x9 A9 c9 _ (Kd.C_below H9.out.1 HB.out) H9.out.2.1 H9.out.2.2 MM.out.1 gc (blk_lt BC.out)).mono ?_); rintro e wn ⟨v9, rfl, hr, hb⟩; replace hr := Kd.R_lower hr (below_size HB.out); have n_ := Aside0.mk (below_step HB.out hb); clear HB; have HB := n_; clear n_; (try (have n_ := Aside0.mk (blk_below BP.out hb); clear BP; have BP := n_; clear n_)); (try (have n_ := Aside0.mk (blk_below BN.out hb); clear BN; have BN := n_; clear n_)); (try (have n_ := Aside0.mk (blk_below BC.out hb); clear BC; have BC := n_; clear n_)); (try (have n_ := Aside0.mk (Kd.R_below F5.out hb); clear F5; have F5 := n_; clear n_)); (try (have n_ := Aside0.mk (Kd.R_below F8.out hb); clear F8; have F8 := n_; clear n_)); (try (have n_ := Aside0.mk (Kd.R_below F9.out hb); clear F9; have F9 := n_; clear n_)); (try (have n_ := Aside0.mk (Kd.R_below F10.out hb); clear F10; have F10 := n_; clear n_)); (try (have n_ := Aside0.mk (Kd.R_below F14.out hb); clear F14; have F14 := n_; clear n_)); (try (have n_ := Aside0.mk (Kd.R_below F15.out hb); clear F15; have F15 := n_; clear n_)); (try (have n_ := Aside0.mk (Kd.R_below F16.out hb); clear F16; have F16 := n_; clear n_)); clear F9; have F9 := Aside0.mk hr; clear hr hb; (try clear rp); have rp := blk_cell BP.out)
    | (go_at_call 49; (with_reducible refine (toStrC x10 A10 c10 _ (Kd.C_below H10.out.1 HB.out) H10.out.2.1 H10.out.2.2 gc (blk_lt BC.out)).mono ?_); rintro e wn ⟨v10, rfl, hr, hb⟩; replace hr := Kd.R_lower hr (below_size HB.out); have n_ := Aside0.mk (below_step HB.out hb); clear HB; have HB := n_; clear n_; (try (have n_ := Aside0.mk (blk_below BP.out hb); clear BP; have BP := n_; clear n_)); (try (have n_ := Aside0.mk (blk_below BN.out hb); clear BN; have BN := n_; clear n_)); (try (have n_ := Aside0.mk (blk_below BC.out hb); clear BC; have BC := n_; clear n_)); (try (have n_ := Aside0.mk (Kd.R_below F5.out hb); clear F5; have F5 := n_; clear n_)); (try (have n_ := Aside0.mk (Kd.R_below F8.out hb); clear F8; have F8 := n_; clear n_)); (try (have n_ := Aside0.mk (Kd.R_below F9.out hb); clear F9; have F9 := n_; clear n_)); (try (have n_ := Aside0.mk (Kd.R_below F10.out hb); clear F10; have F10 := n_; clear n_)); (try (have n_ := Aside0.mk (Kd.R_below F14.out hb); clear F14; have F14 := n_; clear n_)); (try (have n_ := Aside0.mk (Kd.R_below F15.out hb); clear F15; have F15 := n_; clear n_)); (try (have n_ := Aside0.mk (Kd.R_below F16.out hb); clear F16; have F16 := n_; clear n_)); clear F10; have F10 := Aside0.mk hr; clear hr hb; (try clear rp); have rp := blk_cell BP.out)
    | (go_at_call 50; (with_reducible refine (toNumC x14 A14 c14 _ (Kd.C_below H14.out.1 HB.out) H14.out.2.1 H14.out.2.2 gc (blk_lt BC.out)).mono ?_); rintro e wn ⟨v14, rfl, hr, hb⟩; replace hr := Kd.R_lower hr (below_size HB.out); have n_ := Aside0.mk (below_step HB.out hb); clear HB; have HB := n_; clear n_; (try (have n_ := Aside0.mk (blk_below BP.out hb); clear BP; have BP := n_; clear n_)); (try (have n_ := Aside0.mk (blk_below BN.out hb); clear BN; have BN := n_; clear n_)); (try (have n_ := Aside0.mk (blk_below BC.out hb); clear BC; have BC := n_; clear n_)); (try (have n_ := Aside0.mk (Kd.R_below F5.out hb); clear F5; have F5 := n_; clear n_)); (try (have n_ := Aside0.mk (Kd.R_below F8.out hb); clear F8; have F8 := n_; clear n_)); (try (have n_ := Aside0.mk (Kd.R_below F9.out hb); clear F9; have F9 := n_; clear n_)); (try (have n_ := Aside0.mk (Kd.R_below F10.out hb); clear F10; have F10 := n_; clear n_)); (try (have n_ := Aside0.mk (Kd.R_below F14.out hb); clear F14; have F14 := n_; clear n_)); (try (have n_ := Aside0.mk (Kd.R_below F15.out hb); clear F15; have F15 := n_; clear n_)); (try (have n_ := Aside0.mk (Kd.R_below F16.out hb); clear F16; have F16 := n_; clear n_)); clear F14; have F14 := Aside0.mk hr; clear hr hb; (try clear rp); have rp := blk_cell BP.out)
    | (go_at_call 51; (with_reducible refine (toSlotC x15 A15 c15 _ (Kd.C_below H15.out.1 HB.out) H15.out.2.1 H15.out.2.2 gc (blk_lt BC.out)).mono ?_); rintro e wn ⟨v15, rfl, hr, hb⟩; replace hr := Kd.R_lower hr (below_size HB.out); have n_ := Aside0.mk (below_step HB.out hb); clear HB; have HB := n_; clear n_; (try (have n_ := Aside0.mk (blk_below BP.out hb); clear BP; have BP := n_; clear n_)); (try (have n_ := Aside0.mk (blk_below BN.out hb); clear BN; have BN := n_; clear n_)); (try (have n_ := Aside0.mk (blk_below BC.out hb); clear BC; have BC := n_; clear n_)); (try (have n_ := Aside0.mk (Kd.R_below F5.out hb); clear F5; have F5 := n_; clear n_)); (try (have n_ := Aside0.mk (Kd.R_below F8.out hb); clear F8; have F8 := n_; clear n_)); (try (have n_ := Aside0.mk (Kd.R_below F9.out hb); clear F9; have F9 := n_; clear n_)); (try (have n_ := Aside0.mk (Kd.R_below F10.out hb); clear F10; have F10 := n_; clear n_)); (try (have n_ := Aside0.mk (Kd.R_below F14.out hb); clear F14; have F14 := n_; clear n_)); (try (have n_ := Aside0.mk (Kd.R_below F15.out hb); clear F15; have F15 := n_; clear n_)); (try (have n_ := Aside0.mk (Kd.R_below F16.out hb); clear F16; have F16 := n_; clear n_)); clear F15; have F15 := Aside0.mk hr; clear hr hb; (try clear rp); have rp := blk_cell BP.out)
    | (go_at_call 52; (with_reducible refine (toAckC x16 A16 c16 _ (Kd.C_below H16.out.1 HB.out) H16.out.2.1 H16.out.2.2 MM.out.2 gc (blk_lt BC.out)).mono ?_); rintro e wn ⟨v16, rfl, hr, hb⟩; replace hr := Kd.R_lower hr (below_size HB.out); have n_ := Aside0.mk (below_step HB.out hb); clear HB; have HB := n_; clear n_; (try (have n_ := Aside0.mk (blk_below BP.out hb); clear BP; have BP := n_; clear n_)); (try (have n_ := Aside0.mk (blk_below BN.out hb); clear BN; have BN := n_; clear n_)); (try (have n_ := Aside0.mk (blk_below BC.out hb); clear BC; have BC := n_; clear n_)); (try (have n_ := Aside0.mk (Kd.R_below F5.out hb); clear F5; have F5 := n_; clear n_)); (try (have n_ := Aside0.mk (Kd.R_below F8.out hb); clear F8; have F8 := n_; clear n_)); (try (have n_ := Aside0.mk (Kd.R_below F9.out hb); clear F9; have F9 := n_; clear n_)); (try (have n_ := Aside0.mk (Kd.R_below F10.out hb); clear F10; have F10 := n_; clear n_)); (try (have n_ := Aside0.mk (Kd.R_below F14.out hb); clear F14; have F14 := n_; clear n_)); (try (have n_ := Aside0.mk (Kd.R_below F15.out hb); clear F15; have F15 := n_; clear n_)); (try (have n_ := Aside0.mk (Kd.R_below F16.out hb); clear F16; have F16 := n_; clear n_)); clear F16; have F16 := Aside0.mk hr; clear hr hb; (try clear rp); have rp := blk_cell BP.out))
  exact bodyPost_ret (results_cell_row rfl _ _ gb 49 _ (0, 0) _ rfl BN.out Try.underlying49 rfl (by kernel_rfl)) rfl ⟨v5, v8, v9, v10, v14, v15, v16, rfl, ⟨Kd.R_mono F5.out (fun _ hk => Nat.le_trans gec.out (Nat.le_of_lt hk)), Kd.R_mono F8.out (fun _ hk => Nat.le_trans gec.out (Nat.le_of_lt hk)), Kd.R_mono F9.out (fun _ hk => Nat.le_trans gec.out (Nat.le_of_lt hk)), Kd.R_mono F10.out (fun _ hk => Nat.le_trans gec.out (Nat.le_of_lt hk)), Kd.R_mono F14.out (fun _ hk => Nat.le_trans gec.out (Nat.le_of_lt hk)), Kd.R_mono F15.out (fun _ hk => Nat.le_trans gec.out (Nat.le_of_lt hk)), Kd.R_mono F16.out (fun _ hk => Nat.le_trans gec.out (Nat.le_of_lt hk))⟩, HB.out⟩
/-! ### a recorder's size: the machine's side -/
abbrev QI (w : World) (f : Nat) (args : Array Value) (r : Int) : Prop := ∀ W, Below w.heap.size w W → Calls Try.prog f args W fun e w' => e = .returned (.int .i64 r) ∧ Below W.heap.size W w'
set_option maxHeartbeats 16000000 in
set_option maxRecDepth 100000 in
theorem szWalk (n0 o n3 n4 n6 n7 n13 n17 left : Int) (b2 L T : Bool) (x5 : List S106) (x8 : List S106) (x9 : List S70) (x10 : List ByteArray) (x14 : List Int) (x15 : List S106) (x16 : List S108) (A5 A8 A9 A10 A14 A15 A16 : Option Addr) (c5 c8 c9 c10 c14 c15 c16 : Nat) (w : World) (r5 r8 r9 r10 r14 r15 r16 : Int)
    (C5 : QI w 43 #[.agg #[.int .i64 n3, .int .i64 n4, .slice A5 x5.length c5], .int .i64 left] r5)
    (C8 : 0 ≤ r5 → QI w 43 #[.agg #[.int .i64 n6, .int .i64 n7, .slice A8 x8.length c8], .int .i64 r5] r8)
    (C9 : 0 ≤ r8 → QI w 10 #[.slice A9 x9.length c9, .int .i64 r8] r9)
    (C10 : 0 ≤ r9 → QI w 44 #[.slice A10 x10.length c10, .int .i64 r9] r10)
    (C14 : 0 ≤ r10 → QI w 45 #[.slice A14 x14.length c14, .int .i64 r10] r14)
    (C15 : 0 ≤ r14 → QI w 46 #[.slice A15 x15.length c15, .int .i64 r14] r15)
    (C16 : 0 ≤ r15 → QI w 47 #[.slice A16 x16.length c16, .int .i64 r15] r16) :
    Calls Try.prog 24 #[.agg #[.int .i64 n0, .int .i64 o, .bool b2, .int .i64 n3, .int .i64 n4, .slice A5 x5.length c5, .int .i64 n6, .int .i64 n7, .slice A8 x8.length c8, .slice A9 x9.length c9, .slice A10 x10.length c10, .bool L, .bool T, .int .i64 n13, .slice A14 x14.length c14, .slice A15 x15.length c15, .slice A16 x16.length c16, .int .i64 n17], .int .i64 left] w fun e w' => e = .returned (.int .i64 (if r5 < 0 then -1 else if r8 < 0 then -1 else if r9 < 0 then -1 else if r10 < 0 then -1 else if r14 < 0 then -1 else if r15 < 0 then -1 else if r16 < 0 then -1 else r16)) ∧ Below w.heap.size w w' := by
  have hu1 := Try.underlying67
  have hu2 := Try.underlying64
  have HB := Aside0.mk (Below.refl w.heap.size w)
  have D5 := Aside0.mk C5
  by_cases h5 : r5 < 0
  · rw [if_pos h5]
    have e5 : decide (r5 < 0) = true := decide_eq_true h5
    clear h5 C5 C8 C9 C10 C14 C15 C16
    go_enter Try.func24, Try.ntmps24
    go_wp2_with (first
      | ((with_reducible refine gate_dst (N := 2) rfl ?_); refine box_event ?hg (N := 2) ?hd (cs := #[.int .i64 n0, .int .i64 o, .bool b2, .int .i64 n3, .int .i64 n4, .slice A5 x5.length c5, .int .i64 n6, .int .i64 n7, .slice A8 x8.length c8, .slice A9 x9.length c9, .slice A10 x10.length c10, .bool L, .bool T, .int .i64 n13, .slice A14 x14.length c14, .slice A15 x15.length c15, .slice A16 x16.length c16, .int .i64 n17]) (t := 67) ?hr ?_; (case hd => rfl); (case hg => rfl); (case hr => first | (go_simp; done) | (go_simp; rfl)); intro gp _hg w1 hbox hb; have n0_ := Aside0.mk (below_step HB.out hb); clear HB; have HB := n0_; clear n0_; have BP := Aside0.mk hbox; clear hb hbox _hg; have rp := blk_cell BP.out)
      | ((first
          | (go_at_call 43; (with_reducible refine (D5.out _ HB.out).mono ?_))
          | (go_at_call 43; (with_reducible refine (D8.out _ HB.out).mono ?_))
          | (go_at_call 10; (with_reducible refine (D9.out _ HB.out).mono ?_))
          | (go_at_call 44; (with_reducible refine (D10.out _ HB.out).mono ?_))
          | (go_at_call 45; (with_reducible refine (D14.out _ HB.out).mono ?_))
          | (go_at_call 46; (with_reducible refine (D15.out _ HB.out).mono ?_))
          | (go_at_call 47; (with_reducible refine (D16.out _ HB.out).mono ?_)));
         rintro e wn ⟨rfl, hb⟩; have n0_ := Aside0.mk (below_step HB.out hb); have n1_ := Aside0.mk (blk_below BP.out hb); clear HB BP; have HB := n0_; have BP := n1_; clear n0_ n1_; clear hb; (try clear rp); have rp := blk_cell BP.out))
    go_ret
    exact ⟨by first | rfl | (rw [HE.out]), HB.out⟩
  have D8 := Aside0.mk (C8 (Int.not_lt.1 h5))
  by_cases h8 : r8 < 0
  · rw [if_neg h5, if_pos h8]
    have e5 : decide (r5 < 0) = false := decide_eq_false h5
    have e8 : decide (r8 < 0) = true := decide_eq_true h8
    clear h5 h8 C5 C8 C9 C10 C14 C15 C16
    go_enter Try.func24, Try.ntmps24
    go_wp2_with (first
      | ((with_reducible refine gate_dst (N := 2) rfl ?_); refine box_event ?hg (N := 2) ?hd (cs := #[.int .i64 n0, .int .i64 o, .bool b2, .int .i64 n3, .int .i64 n4, .slice A5 x5.length c5, .int .i64 n6, .int .i64 n7, .slice A8 x8.length c8, .slice A9 x9.length c9, .slice A10 x10.length c10, .bool L, .bool T, .int .i64 n13, .slice A14 x14.length c14, .slice A15 x15.length c15, .slice A16 x16.length c16, .int .i64 n17]) (t := 67) ?hr ?_; (case hd => rfl); (case hg => rfl); (case hr => first | (go_simp; done) | (go_simp; rfl)); intro gp _hg w1 hbox hb; have n0_ := Aside0.mk (below_step HB.out hb); clear HB; have HB := n0_; clear n0_; have BP := Aside0.mk hbox; clear hb hbox _hg; have rp := blk_cell BP.out)
      | ((first
          | (go_at_call 43; (with_reducible refine (D5.out _ HB.out).mono ?_))
          | (go_at_call 43; (with_reducible refine (D8.out _ HB.out).mono ?_))
          | (go_at_call 10; (with_reducible refine (D9.out _ HB.out).mono ?_))
          | (go_at_call 44; (with_reducible refine (D10.out _ HB.out).mono ?_))
          | (go_at_call 45; (with_reducible refine (D14.out _ HB.out).mono ?_))
          | (go_at_call 46; (with_reducible refine (D15.out _ HB.out).mono ?_))
          | (go_at_call 47; (with_reducible refine (D16.out _ HB.out).mono ?_)));
         rintro e wn ⟨rfl, hb⟩; have n0_ := Aside0.mk (below_step HB.out hb); have n1_ := Aside0.mk (blk_below BP.out hb); clear HB BP; have HB := n0_; have BP := n1_; clear n0_ n1_; clear hb; (try clear rp); have rp := blk_cell BP.out))
    go_ret
    exact ⟨by first | rfl | (rw [HE.out]), HB.out⟩
  have D9 := Aside0.mk (C9 (Int.not_lt.1 h8))
  by_cases h9 : r9 < 0
  · rw [if_neg h5, if_neg h8, if_pos h9]
    have e5 : decide (r5 < 0) = false := decide_eq_false h5
    have e8 : decide (r8 < 0) = false := decide_eq_false h8
    have e9 : decide (r9 < 0) = true := decide_eq_true h9
    clear h5 h8 h9 C5 C8 C9 C10 C14 C15 C16
    go_enter Try.func24, Try.ntmps24
    go_wp2_with (first
      | ((with_reducible refine gate_dst (N := 2) rfl ?_); refine box_event ?hg (N := 2) ?hd (cs := #[.int .i64 n0, .int .i64 o, .bool b2, .int .i64 n3, .int .i64 n4, .slice A5 x5.length c5, .int .i64 n6, .int .i64 n7, .slice A8 x8.length c8, .slice A9 x9.length c9, .slice A10 x10.length c10, .bool L, .bool T, .int .i64 n13, .slice A14 x14.length c14, .slice A15 x15.length c15, .slice A16 x16.length c16, .int .i64 n17]) (t := 67) ?hr ?_; (case hd => rfl); (case hg => rfl); (case hr => first | (go_simp; done) | (go_simp; rfl)); intro gp _hg w1 hbox hb; have n0_ := Aside0.mk (below_step HB.out hb); clear HB; have HB := n0_; clear n0_; have BP := Aside0.mk hbox; clear hb hbox _hg; have rp := blk_cell BP.out)
      | ((first
          | (go_at_call 43; (with_reducible refine (D5.out _ HB.out).mono ?_))
          | (go_at_call 43; (with_reducible refine (D8.out _ HB.out).mono ?_))
          | (go_at_call 10; (with_reducible refine (D9.out _ HB.out).mono ?_))
          | (go_at_call 44; (with_reducible refine (D10.out _ HB.out).mono ?_))
          | (go_at_call 45; (with_reducible refine (D14.out _ HB.out).mono ?_))
          | (go_at_call 46; (with_reducible refine (D15.out _ HB.out).mono ?_))
          | (go_at_call 47; (with_reducible refine (D16.out _ HB.out).mono ?_)));
         rintro e wn ⟨rfl, hb⟩; have n0_ := Aside0.mk (below_step HB.out hb); have n1_ := Aside0.mk (blk_below BP.out hb); clear HB BP; have HB := n0_; have BP := n1_; clear n0_ n1_; clear hb; (try clear rp); have rp := blk_cell BP.out))
    go_ret
    exact ⟨by first | rfl | (rw [HE.out]), HB.out⟩
  have D10 := Aside0.mk (C10 (Int.not_lt.1 h9))
  by_cases h10 : r10 < 0
  · rw [if_neg h5, if_neg h8, if_neg h9, if_pos h10]
    have e5 : decide (r5 < 0) = false := decide_eq_false h5
    have e8 : decide (r8 < 0) = false := decide_eq_false h8
    have e9 : decide (r9 < 0) = false := decide_eq_false h9
    have e10 : decide (r10 < 0) = true := decide_eq_true h10
    clear h5 h8 h9 h10 C5 C8 C9 C10 C14 C15 C16
    go_enter Try.func24, Try.ntmps24
    go_wp2_with (first
      | ((with_reducible refine gate_dst (N := 2) rfl ?_); refine box_event ?hg (N := 2) ?hd (cs := #[.int .i64 n0, .int .i64 o, .bool b2, .int .i64 n3, .int .i64 n4, .slice A5 x5.length c5, .int .i64 n6, .int .i64 n7, .slice A8 x8.length c8, .slice A9 x9.length c9, .slice A10 x10.length c10, .bool L, .bool T, .int .i64 n13, .slice A14 x14.length c14, .slice A15 x15.length c15, .slice A16 x16.length c16, .int .i64 n17]) (t := 67) ?hr ?_; (case hd => rfl); (case hg => rfl); (case hr => first | (go_simp; done) | (go_simp; rfl)); intro gp _hg w1 hbox hb; have n0_ := Aside0.mk (below_step HB.out hb); clear HB; have HB := n0_; clear n0_; have BP := Aside0.mk hbox; clear hb hbox _hg; have rp := blk_cell BP.out)
      | ((first
          | (go_at_call 43; (with_reducible refine (D5.out _ HB.out).mono ?_))
          | (go_at_call 43; (with_reducible refine (D8.out _ HB.out).mono ?_))
          | (go_at_call 10; (with_reducible refine (D9.out _ HB.out).mono ?_))
          | (go_at_call 44; (with_reducible refine (D10.out _ HB.out).mono ?_))
          | (go_at_call 45; (with_reducible refine (D14.out _ HB.out).mono ?_))
          | (go_at_call 46; (with_reducible refine (D15.out _ HB.out).mono ?_))
          | (go_at_call 47; (with_reducible refine (D16.out _ HB.out).mono ?_)));
         rintro e wn ⟨rfl, hb⟩; have n0_ := Aside0.mk (below_step HB.out hb); have n1_ := Aside0.mk (blk_below BP.out hb); clear HB BP; have HB := n0_; have BP := n1_; clear n0_ n1_; clear hb; (try clear rp); have rp := blk_cell BP.out))
    go_ret
    exact ⟨by first | rfl | (rw [HE.out]), HB.out⟩
  have D14 := Aside0.mk (C14 (Int.not_lt.1 h10))
  by_cases h14 : r14 < 0
  · rw [if_neg h5, if_neg h8, if_neg h9, if_neg h10, if_pos h14]
    have e5 : decide (r5 < 0) = false := decide_eq_false h5
    have e8 : decide (r8 < 0) = false := decide_eq_false h8
    have e9 : decide (r9 < 0) = false := decide_eq_false h9
    have e10 : decide (r10 < 0) = false := decide_eq_false h10
    have e14 : decide (r14 < 0) = true := decide_eq_true h14
    clear h5 h8 h9 h10 h14 C5 C8 C9 C10 C14 C15 C16
    go_enter Try.func24, Try.ntmps24
    go_wp2_with (first
      | ((with_reducible refine gate_dst (N := 2) rfl ?_); refine box_event ?hg (N := 2) ?hd (cs := #[.int .i64 n0, .int .i64 o, .bool b2, .int .i64 n3, .int .i64 n4, .slice A5 x5.length c5, .int .i64 n6, .int .i64 n7, .slice A8 x8.length c8, .slice A9 x9.length c9, .slice A10 x10.length c10, .bool L, .bool T, .int .i64 n13, .slice A14 x14.length c14, .slice A15 x15.length c15, .slice A16 x16.length c16, .int .i64 n17]) (t := 67) ?hr ?_; (case hd => rfl); (case hg => rfl); (case hr => first | (go_simp; done) | (go_simp; rfl)); intro gp _hg w1 hbox hb; have n0_ := Aside0.mk (below_step HB.out hb); clear HB; have HB := n0_; clear n0_; have BP := Aside0.mk hbox; clear hb hbox _hg; have rp := blk_cell BP.out)
      | ((first
          | (go_at_call 43; (with_reducible refine (D5.out _ HB.out).mono ?_))
          | (go_at_call 43; (with_reducible refine (D8.out _ HB.out).mono ?_))
          | (go_at_call 10; (with_reducible refine (D9.out _ HB.out).mono ?_))
          | (go_at_call 44; (with_reducible refine (D10.out _ HB.out).mono ?_))
          | (go_at_call 45; (with_reducible refine (D14.out _ HB.out).mono ?_))
          | (go_at_call 46; (with_reducible refine (D15.out _ HB.out).mono ?_))
          | (go_at_call 47; (with_reducible refine (D16.out _ HB.out).mono ?_)));
         rintro e wn ⟨rfl, hb⟩; have n0_ := Aside0.mk (below_step HB.out hb); have n1_ := Aside0.mk (blk_below BP.out hb); clear HB BP; have HB := n0_; have BP := n1_; clear n0_ n1_; clear hb; (try clear rp); have rp := blk_cell BP.out))
    go_ret
    exact ⟨by first | rfl | (rw [HE.out]), HB.out⟩
  have D15 := Aside0.mk (C15 (Int.not_lt.1 h14))
  by_cases h15 : r15 < 0
  · rw [if_neg h5, if_neg h8, if_neg h9, if_neg h10, if_neg h14, if_pos h15]
    have e5 : decide (r5 < 0) = false := decide_eq_false h5
    have e8 : decide (r8 < 0) = false := decide_eq_false h8
    have e9 : decide (r9 < 0) = false := decide_eq_false h9
    have e10 : decide (r10 < 0) = false := decide_eq_false h10
    have e14 : decide (r14 < 0) = false := decide_eq_false h14
    have e15 : decide (r15 < 0) = true := decide_eq_true h15
    clear h5 h8 h9 h10 h14 h15 C5 C8 C9 C10 C14 C15 C16
    go_enter Try.func24, Try.ntmps24
    go_wp2_with (first
      | ((with_reducible refine gate_dst (N := 2) rfl ?_); refine box_event ?hg (N := 2) ?hd (cs := #[.int .i64 n0, .int .i64 o, .bool b2, .int .i64 n3, .int .i64 n4, .slice A5 x5.length c5, .int .i64 n6, .int .i64 n7, .slice A8 x8.length c8, .slice A9 x9.length c9, .slice A10 x10.length c10, .bool L, .bool T, .int .i64 n13, .slice A14 x14.length c14, .slice A15 x15.length c15, .slice A16 x16.length c16, .int .i64 n17]) (t := 67) ?hr ?_; (case hd => rfl); (case hg => rfl); (case hr => first | (go_simp; done) | (go_simp; rfl)); intro gp _hg w1 hbox hb; have n0_ := Aside0.mk (below_step HB.out hb); clear HB; have HB := n0_; clear n0_; have BP := Aside0.mk hbox; clear hb hbox _hg; have rp := blk_cell BP.out)
      | ((first
          | (go_at_call 43; (with_reducible refine (D5.out _ HB.out).mono ?_))
          | (go_at_call 43; (with_reducible refine (D8.out _ HB.out).mono ?_))
          | (go_at_call 10; (with_reducible refine (D9.out _ HB.out).mono ?_))
          | (go_at_call 44; (with_reducible refine (D10.out _ HB.out).mono ?_))
          | (go_at_call 45; (with_reducible refine (D14.out _ HB.out).mono ?_))
          | (go_at_call 46; (with_reducible refine (D15.out _ HB.out).mono ?_))
          | (go_at_call 47; (with_reducible refine (D16.out _ HB.out).mono ?_)));
         rintro e wn ⟨rfl, hb⟩; have n0_ := Aside0.mk (below_step HB.out hb); have n1_ := Aside0.mk (blk_below BP.out hb); clear HB BP; have HB := n0_; have BP := n1_; clear n0_ n1_; clear hb; (try clear rp); have rp := blk_cell BP.out))
    go_ret
    exact ⟨by first | rfl | (rw [HE.out]), HB.out⟩
  have D16 := Aside0.mk (C16 (Int.not_lt.1 h15))
  by_cases h16 : r16 < 0
  · rw [if_neg h5, if_neg h8, if_neg h9, if_neg h10, if_neg h14, if_neg h15, if_pos h16]
    have e5 : decide (r5 < 0) = false := decide_eq_false h5
    have e8 : decide (r8 < 0) = false := decide_eq_false h8
    have e9 : decide (r9 < 0) = false := decide_eq_false h9
    have e10 : decide (r10 < 0) = false := decide_eq_false h10
    have e14 : decide (r14 < 0) = false := decide_eq_false h14
    have e15 : decide (r15 < 0) = false := decide_eq_false h15
    have e16 : decide (r16 < 0) = true := decide_eq_true h16
    clear h5 h8 h9 h10 h14 h15 h16 C5 C8 C9 C10 C14 C15 C16
    go_enter Try.func24, Try.ntmps24
    go_wp2_with (first
      | ((with_reducible refine gate_dst (N := 2) rfl ?_); refine box_event ?hg (N := 2) ?hd (cs := #[.int .i64 n0, .int .i64 o, .bool b2, .int .i64 n3, .int .i64 n4, .slice A5 x5.length c5, .int .i64 n6, .int .i64 n7, .slice A8 x8.length c8, .slice A9 x9.length c9, .slice A10 x10.length c10, .bool L, .bool T, .int .i64 n13, .slice A14 x14.length c14, .slice A15 x15.length c15, .slice A16 x16.length c16, .int .i64 n17]) (t := 67) ?hr ?_; (case hd => rfl); (case hg => rfl); (case hr => first | (go_simp; done) | (go_simp; rfl)); intro gp _hg w1 hbox hb; have n0_ := Aside0.mk (below_step HB.out hb); clear HB; have HB := n0_; clear n0_; have BP := Aside0.mk hbox; clear hb hbox _hg; have rp := blk_cell BP.out)
      | ((first
          | (go_at_call 43; (with_reducible refine (D5.out _ HB.out).mono ?_))
          | (go_at_call 43; (with_reducible refine (D8.out _ HB.out).mono ?_))
          | (go_at_call 10; (with_reducible refine (D9.out _ HB.out).mono ?_))
          | (go_at_call 44; (with_reducible refine (D10.out _ HB.out).mono ?_))
          | (go_at_call 45; (with_reducible refine (D14.out _ HB.out).mono ?_))
          | (go_at_call 46; (with_reducible refine (D15.out _ HB.out).mono ?_))
          | (go_at_call 47; (with_reducible refine (D16.out _ HB.out).mono ?_)));
         rintro e wn ⟨rfl, hb⟩; have n0_ := Aside0.mk (below_step HB.out hb); have n1_ := Aside0.mk (blk_below BP.out hb); clear HB BP; have HB := n0_; have BP := n1_; clear n0_ n1_; clear hb; (try clear rp); have rp := blk_cell BP.out))
    go_ret
    exact ⟨by first | rfl | (rw [HE.out]), HB.out⟩
  rw [if_neg h5, if_neg h8, if_neg h9, if_neg h10, if_neg h14, if_neg h15, if_neg h16]
  have e5 : decide (r5 < 0) = false := decide_eq_false h5
  have e8 : decide (r8 < 0) = false := decide_eq_false h8
  have e9 : decide (r9 < 0) = false := decide_eq_false h9
  have e10 : decide (r10 < 0) = false := decide_eq_false h10
  have e14 : decide (r14 < 0) = false := decide_eq_false h14
  have e15 : decide (r15 < 0) = false := decide_eq_false h15
  have e16 : decide (r16 < 0) = false := decide_eq_false h16
  clear h5 h8 h9 h10 h14 h15 h16 C5 C8 C9 C10 C14 C15 C16
  go_enter Try.func24, Try.ntmps24
  go_wp2_with (first
    | ((with_reducible refine gate_dst (N := 2) rfl ?_); refine box_event ?hg (N := 2) ?hd (cs := #[.int .i64 n0, .int .i64 o, .bool b2, .int .i64 n3, .int .i64 n4, .slice A5 x5.length c5, .int .i64 n6, .int .i64 n7, .slice A8 x8.length c8, .slice A9 x9.length c9, .slice A10 x10.length c10, .bool L, .bool T, .int .i64 n13, .slice A14 x14.length c14, .slice A15 x15.length c15, .slice A16 x16.length c16, .int .i64 n17]) (t := 67) ?hr ?_; (case hd => rfl); (case hg => rfl); (case hr => first | (go_simp; done) | (go_simp; rfl)); intro gp _hg w1 hbox hb; have n0_ := Aside0.mk (below_step HB.out hb); clear HB; have HB := n0_; clear n0_; have BP := Aside0.mk hbox; clear hb hbox _hg; have rp := blk_cell BP.out)
    | ((first
        | (go_at_call 43; (with_reducible refine (D5.out _ HB.out).mono ?_))
        | (go_at_call 43; (with_reducible refine (D8.out _ HB.out).mono ?_))
        | (go_at_call 10; (with_reducible refine (D9.out _ HB.out).mono ?_))
        | (go_at_call 44; (with_reducible refine (D10.out _ HB.out).mono ?_))
        | (go_at_call 45; (with_reducible refine (D14.out _ HB.out).mono ?_))
        | (go_at_call 46; (with_reducible refine (D15.out _ HB.out).mono ?_))
        | (go_at_call 47; (with_reducible refine (D16.out _ HB.out).mono ?_)));
       rintro e wn ⟨rfl, hb⟩; have n0_ := Aside0.mk (below_step HB.out hb); have n1_ := Aside0.mk (blk_below BP.out hb); clear HB BP; have HB := n0_; have BP := n1_; clear n0_ n1_; clear hb; (try clear rp); have rp := blk_cell BP.out))
  go_ret
  exact ⟨by first | rfl | (rw [HE.out]), HB.out⟩
theorem szDiskC (p n a r : Int) (xs : List S106) (A : Option Addr) (c : Nat) (w : World) (hC : Kd.C k106 w A xs.length xs) (hc : xs.length ≤ c) (h : laws_szRecSlotS.f (xs.length + 1) xs a = some r) (hr : -1 ≤ r) :
    QI w 43 #[.agg #[.int .i64 p, .int .i64 n, .slice A xs.length c], .int .i64 a] r := fun W hb =>
  laws_szRecDisk.calls (xs.length + 1) p n A c xs a r W (Kd.C_below hC hb) hc (by
    unfold laws_szRecDisk.f
    rw [h]
    simp only [Option.bind_some]
    by_cases hn : r < 0
    · rw [if_pos hn]; congr 1; omega
    · rw [if_neg hn])
theorem szRecorderC (n0 o n3 n4 n6 n7 n13 n17 left : Int) (b2 L T : Bool) (x5 : List S106) (x8 : List S106) (x9 : List S70) (x10 : List ByteArray) (x14 : List Int) (x15 : List S106) (x16 : List S108) (A5 A8 A9 A10 A14 A15 A16 : Option Addr) (c5 c8 c9 c10 c14 c15 c16 : Nat) (w : World) (hl0 : 0 ≤ left) (hl1 : left ≤ 1048576)
    (h5 : Kd.C k106 w A5 x5.length x5) (l5 : x5.length ≤ c5) (m5 : x5.length ≤ maxLen) (f5 : ∀ y ∈ x5, y.f1.size ≤ maxLen)
    (h8 : Kd.C k106 w A8 x8.length x8) (l8 : x8.length ≤ c8) (m8 : x8.length ≤ maxLen) (f8 : ∀ y ∈ x8, y.f1.size ≤ maxLen)
    (h9 : Kd.C k70 w A9 x9.length x9) (l9 : x9.length ≤ c9) (m9 : x9.length ≤ maxLen) (f9 : ∀ x ∈ x9, x.f6.size ≤ maxLen ∧ x.f7.length ≤ maxLen ∧ ∀ y ∈ x.f7, y.f1.size ≤ maxLen)
    (h10 : Kd.C Kd.string w A10 x10.length x10) (l10 : x10.length ≤ c10) (m10 : x10.length ≤ maxLen) (f10 : ∀ x ∈ x10, x.size ≤ maxLen)
    (h14 : Kd.C (Kd.int .i64) w A14 x14.length x14) (l14 : x14.length ≤ c14) (m14 : x14.length ≤ maxLen)
    (h15 : Kd.C k106 w A15 x15.length x15) (l15 : x15.length ≤ c15) (m15 : x15.length ≤ maxLen) (f15 : ∀ y ∈ x15, y.f1.size ≤ maxLen)
    (h16 : Kd.C k108 w A16 x16.length x16) (l16 : x16.length ≤ c16) (m16 : x16.length ≤ maxLen) (f16 : ∀ x ∈ x16, x.f1.length ≤ maxLen) :
    ∃ r : Int, (-1 ≤ r ∧ r ≤ 1048576) ∧ (0 ≤ r → (x5.length ≤ 1048576 ∧ x8.length ≤ 1048576 ∧ x9.length ≤ 1048576 ∧ x10.length ≤ 1048576 ∧ x14.length ≤ 1048576 ∧ x15.length ≤ 1048576 ∧ x16.length ≤ 1048576) ∧ (∀ x ∈ x9, x.f7.length ≤ 1048576) ∧ (∀ x ∈ x16, x.f1.length ≤ 1048576)) ∧ QI w 24 #[.agg #[.int .i64 n0, .int .i64 o, .bool b2, .int .i64 n3, .int .i64 n4, .slice A5 x5.length c5, .int .i64 n6, .int .i64 n7, .slice A8 x8.length c8, .slice A9 x9.length c9, .slice A10 x10.length c10, .bool L, .bool T, .int .i64 n13, .slice A14 x14.length c14, .slice A15 x15.length c15, .slice A16 x16.length c16, .int .i64 n17], .int .i64 left] r := by
  have K5 : ∃ r, laws_szRecSlotS.f (x5.length + 1) x5 left = some r ∧ r ≤ 1048576 ∧ -1 ≤ r ∧ (0 ≤ r → (x5.length : Int) ≤ 1048576) := by
    obtain ⟨r, q1, q2, q3, q4⟩ := szSlotS x5 left (by omega) (by omega) m5 f5 _ (Nat.lt_succ_self _)
    exact ⟨r, q1, by omega, q3, fun h => by have := q4 h; omega⟩
  obtain ⟨r5, a5, b5, d5, e5⟩ := K5
  have K8 : ∃ r : Int, -1 ≤ r ∧ r ≤ 1048576 ∧ (0 ≤ r5 → laws_szRecSlotS.f (x8.length + 1) x8 r5 = some r) ∧ (0 ≤ r5 → 0 ≤ r → (x8.length : Int) ≤ 1048576) := by
    by_cases h : 0 ≤ r5
    · obtain ⟨r, q1, q2, q3, q4⟩ := szSlotS x8 r5 h (by omega) m8 f8 _ (Nat.lt_succ_self _)
      exact ⟨r, q3, by omega, fun _ => q1, fun _ h2 => by have := q4 h2; omega⟩
    · exact ⟨-1, by omega, by omega, fun h2 => absurd h2 h, fun h2 => absurd h2 h⟩
  obtain ⟨r8, d8, b8, a8, e8⟩ := K8
  have K9 : ∃ r : Int, -1 ≤ r ∧ r ≤ 1048576 ∧ (0 ≤ r8 → laws_szRecMessageS.f (x9.length + 9223372036854775809) x9 r8 = some r) ∧ (0 ≤ r8 → 0 ≤ r → (x9.length : Int) ≤ 1048576 ∧ ∀ x ∈ x9, (x.f7.length : Int) ≤ 1048576) := by
    by_cases h : 0 ≤ r8
    · obtain ⟨r, q1, q2, q3, q4⟩ := szMsgS x9 r8 h (by omega) m9 f9 (x9.length + 9223372036854775809) (by omega)
      exact ⟨r, q3, by omega, fun _ => q1, fun _ h2 => ⟨by have := (q4 h2).1; omega, fun x hx => by have := (q4 h2).2 x hx; omega⟩⟩
    · exact ⟨-1, by omega, by omega, fun h2 => absurd h2 h, fun h2 => absurd h2 h⟩
  obtain ⟨r9, d9, b9, a9, e9⟩ := K9
  have K10 : ∃ r : Int, -1 ≤ r ∧ r ≤ 1048576 ∧ (0 ≤ r9 → laws_szStringS.f (x10.length + 1) x10 r9 = some r) ∧ (0 ≤ r9 → 0 ≤ r → (x10.length : Int) ≤ 1048576) := by
    by_cases h : 0 ≤ r9
    · obtain ⟨r, q1, q2, q3, q4⟩ := szStr x10 r9 h (by omega) m10 f10 _ (Nat.lt_succ_self _)
      exact ⟨r, q3, by omega, fun _ => q1, fun _ h2 => by have := q4 h2; omega⟩
    · exact ⟨-1, by omega, by omega, fun h2 => absurd h2 h, fun h2 => absurd h2 h⟩
  obtain ⟨r10, d10, b10, a10, e10⟩ := K10
  have K14 : ∃ r : Int, -1 ≤ r ∧ r ≤ 1048576 ∧ (0 ≤ r10 → laws_szIntS.f x14 r10 = some r) ∧ (0 ≤ r10 → 0 ≤ r → (x14.length : Int) ≤ 1048576) := by
    by_cases h : 0 ≤ r10
    · obtain ⟨r, q1, q2, q3, q4⟩ := szNum x14 r10 h (by omega) m14
      exact ⟨r, q3, by omega, fun _ => q1, fun _ h2 => by have := q4 h2; omega⟩
    · exact ⟨-1, by omega, by omega, fun h2 => absurd h2 h, fun h2 => absurd h2 h⟩
  obtain ⟨r14, d14, b14, a14, e14⟩ := K14
  have K15 : ∃ r : Int, -1 ≤ r ∧ r ≤ 1048576 ∧ (0 ≤ r14 → laws_szRecSlotS.f (x15.length + 1) x15 r14 = some r) ∧ (0 ≤ r14 → 0 ≤ r → (x15.length : Int) ≤ 1048576) := by
    by_cases h : 0 ≤ r14
    · obtain ⟨r, q1, q2, q3, q4⟩ := szSlotS x15 r14 h (by omega) m15 f15 _ (Nat.lt_succ_self _)
      exact ⟨r, q3, by omega, fun _ => q1, fun _ h2 => by have := q4 h2; omega⟩
    · exact ⟨-1, by omega, by omega, fun h2 => absurd h2 h, fun h2 => absurd h2 h⟩
  obtain ⟨r15, d15, b15, a15, e15⟩ := K15
  have K16 : ∃ r : Int, -1 ≤ r ∧ r ≤ 1048576 ∧ (0 ≤ r15 → laws_szRecAckS.f (x16.length + 1) x16 r15 = some r) ∧ (0 ≤ r15 → 0 ≤ r → (x16.length : Int) ≤ 1048576 ∧ ∀ x ∈ x16, (x.f1.length : Int) ≤ 1048576) := by
    by_cases h : 0 ≤ r15
    · obtain ⟨r, q1, q2, q3, q4⟩ := szAckS x16 r15 h (by omega) m16 f16 _ (Nat.lt_succ_self _)
      exact ⟨r, q3, by omega, fun _ => q1, fun _ h2 => ⟨by have := (q4 h2).1; omega, fun x hx => by have := (q4 h2).2 x hx; omega⟩⟩
    · exact ⟨-1, by omega, by omega, fun h2 => absurd h2 h, fun h2 => absurd h2 h⟩
  obtain ⟨r16, d16, b16, a16, e16⟩ := K16
  refine ⟨_, ⟨by (repeat' split) <;> omega, by (repeat' split) <;> omega⟩, fun hr => ?_, fun V hV => szWalk n0 o n3 n4 n6 n7 n13 n17 left b2 L T x5 x8 x9 x10 x14 x15 x16 A5 A8 A9 A10 A14 A15 A16 c5 c8 c9 c10 c14 c15 c16 V r5 r8 r9 r10 r14 r15 r16
    (szDiskC _ _ _ _ x5 A5 c5 V (Kd.C_below h5 hV) l5 a5 d5) (fun h => szDiskC _ _ _ _ x8 A8 c8 V (Kd.C_below h8 hV) l8 (a8 h) d8)
    (fun h W hb => laws_szRecMessageS.calls _ A9 c9 x9 r8 r9 W (Kd.C_below (Kd.C_below h9 hV) hb) l9 (a9 h))
    (fun h W hb => (laws_szStringS.calls _ A10 c10 x10 r9 r10 W (Kd.C_below (Kd.C_below h10 hV) hb) l10 (a10 h)).mono fun _ _ ⟨u1, u2⟩ => ⟨u1, u2.below⟩)
    (fun h W hb => (laws_szIntS.calls A14 c14 x14 r10 r14 W (Kd.C_below (Kd.C_below h14 hV) hb) l14 (a14 h)).mono fun _ _ ⟨u1, u2⟩ => ⟨u1, u2.below⟩)
    (fun h W hb => laws_szRecSlotS.calls _ A15 c15 x15 r14 r15 W (Kd.C_below (Kd.C_below h15 hV) hb) l15 (a15 h))
    (fun h W hb => laws_szRecAckS.calls _ A16 c16 x16 r15 r16 W (Kd.C_below (Kd.C_below h16 hV) hb) l16 (a16 h))⟩
  clear h5 h8 h9 h10 h14 h15 h16 a5 a8 a9 a10 a14 a15 a16
  have g5 : 0 ≤ r5 := Int.not_lt.1 (fun h => by rw [if_pos h] at hr; omega)
  rw [if_neg (by omega)] at hr
  have g8 : 0 ≤ r8 := Int.not_lt.1 (fun h => by rw [if_pos h] at hr; omega)
  rw [if_neg (by omega)] at hr
  have g9 : 0 ≤ r9 := Int.not_lt.1 (fun h => by rw [if_pos h] at hr; omega)
  rw [if_neg (by omega)] at hr
  have g10 : 0 ≤ r10 := Int.not_lt.1 (fun h => by rw [if_pos h] at hr; omega)
  rw [if_neg (by omega)] at hr
  have g14 : 0 ≤ r14 := Int.not_lt.1 (fun h => by rw [if_pos h] at hr; omega)
  rw [if_neg (by omega)] at hr
  have g15 : 0 ≤ r15 := Int.not_lt.1 (fun h => by rw [if_pos h] at hr; omega)
  rw [if_neg (by omega)] at hr
  have g16 : 0 ≤ r16 := Int.not_lt.1 (fun h => by rw [if_pos h] at hr; omega)
  have t9 := e9 g8 g9
  have t16 := e16 g15 g16
  exact ⟨⟨by have := e5 g5; omega, by have := e8 g5 g8; omega, by have := t9.1; omega, by have := e10 g9 g10; omega, by have := e14 g10 g14; omega, by have := e15 g14 g15; omega, by have := t16.1; omega⟩, fun x hx => by have := t9.2 x hx; omega, fun x hx => by have := t16.2 x hx; omega⟩
/-! ### rows of recorders, worlds: the same data -/
theorem Sl.mk {α : Type} {e : Nat} {d : Kd α} {w : World} {x : List α} {A : Option Addr} {c : Nat} (h : x.length ≤ c) (hC : Kd.C d w A x.length x) : Sl e d w x (.slice A x.length c) := ⟨A, c, rfl, h, hC⟩
def eqRecI.r6.T : Bool × List (List Nat × List Nat) := (true, [([], []), ([], []), ([0, 1], [0, 1]), ([2], [2]), ([], []), ([], []), ([4, 5], [4, 5]), ([6], [6]), ([3, 7], [3, 7]), ([8], [8])])
def eqRecI.r6.B : List Nat := [0, 0, 3, 7, 0, 0, 48, 112, 255, 511]
theorem eqRecI.r6.tab : rtab .any (opsOf Try.f21 6) = eqRecI.r6.T := by kernel_rfl
theorem eqRecI.r6.bits : waitsOk eqRecI.r6.T.2 eqRecI.r6.B = true := by kernel_rfl
set_option maxHeartbeats 8000000 in
set_option maxRecDepth 100000 in
theorem eqRecISC (xs : List RecI) (A A' : Option Addr) (c c' : Nat) (w : World) (h1 : Kd.C kI w A xs.length xs) (h2 : Kd.C kI w A' xs.length xs) :
    Calls Try.prog 21 #[.slice A xs.length c, .slice A' xs.length c'] w fun e w' => e = .returned (.bool true) ∧ Below w.heap.size w w' := by
  have HR := Aside0.mk h1
  have HQ := Aside0.mk h2
  have HL := Aside0.mk h1.2.1
  clear h1 h2
  have HB := Aside0.mk (Below.refl w.heap.size w)
  go_enter Try.func21, Try.ntmps21
  go_wp2
  go_loopg [5] xs.length (fun kr v5 w' => ∃ (i : Int), v5 = .int .i64 i ∧ Aside0 (0 ≤ i ∧ i + kr = xs.length) ∧ Aside0 (Below w.heap.size w w'))
  case atStart => exact ⟨0, rfl, ⟨⟨Int.le_refl _, by omega⟩⟩, HB⟩
  case round =>
    clear HB
    obtain ⟨i, rfl, HI, HB⟩ := hrel
    by_cases hi : i < (xs.length : Int)
    · rcases gk with _ | gk1
      · exact absurd HI.out.2 (by omega)
      have hcd : decide (i < (xs.length : Int)) = true := decide_eq_true hi
      have hc0 : decide (0 ≤ i) = true := decide_eq_true HI.out.1
      have HI' := Aside0.mk hi
      have p0 := HI.out.1
      have p1 := hi
      clear hi
      go_upto_region 6 with (fail)
      have hbd : Below wr.heap.size wr wr.drew := below_drew1 (Below.refl _ wr)
      obtain ⟨ad, A5, A8, A9, A10, A14, A15, A16, c5, c8, c9, c10, c14, c15, c16, e, hr, hs, h5, h8, h9, h10, h14, h15, h16⟩ := atRecI HR.out i p0 p1
      obtain ⟨ad', A5', A8', A9', A10', A14', A15', A16', c5', c8', c9', c10', c14', c15', c16', e', gr, gs, g5, g8, g9, g10, g14, g15, g16⟩ := atRecI HQ.out i p0 p1
      subst e e'
      replace hr := range_below hr HB.out
      replace gr := range_below gr HB.out
      refine start_ (n := 10) (S := (fun w' => w'.rangeAt (ad.add (i.toNat * 18)).block (ad.add (i.toNat * 18)).off [.int .i64 (rdRecI xs i).f0, .int .i64 (rdRecI xs i).f1, .bool (rdRecI xs i).f2, .int .i64 (rdRecI xs i).f3, .int .i64 (rdRecI xs i).f4, .slice A5 (rdRecI xs i).f5.length c5, .int .i64 (rdRecI xs i).f6, .int .i64 (rdRecI xs i).f7, .slice A8 (rdRecI xs i).f8.length c8, .slice A9 (rdRecI xs i).f9.length c9, .slice A10 (rdRecI xs i).f10.length c10, .bool (rdRecI xs i).f11, .bool (rdRecI xs i).f12, .int .i64 (rdRecI xs i).f13, .slice A14 (rdRecI xs i).f14.length c14, .slice A15 (rdRecI xs i).f15.length c15, .slice A16 (rdRecI xs i).f16.length c16, .int .i64 (rdRecI xs i).f17] ∧ w'.rangeAt (ad'.add (i.toNat * 18)).block (ad'.add (i.toNat * 18)).off [.int .i64 (rdRecI xs i).f0, .int .i64 (rdRecI xs i).f1, .bool (rdRecI xs i).f2, .int .i64 (rdRecI xs i).f3, .int .i64 (rdRecI xs i).f4, .slice A5' (rdRecI xs i).f5.length c5', .int .i64 (rdRecI xs i).f6, .int .i64 (rdRecI xs i).f7, .slice A8' (rdRecI xs i).f8.length c8', .slice A9' (rdRecI xs i).f9.length c9', .slice A10' (rdRecI xs i).f10.length c10', .bool (rdRecI xs i).f11, .bool (rdRecI xs i).f12, .int .i64 (rdRecI xs i).f13, .slice A14' (rdRecI xs i).f14.length c14', .slice A15' (rdRecI xs i).f15.length c15', .slice A16' (rdRecI xs i).f16.length c16', .int .i64 (rdRecI xs i).f17])) (ds := []) #[O,O,O,O,O,O,O,O,O,O] (by kernel_rfl) rfl rfl ⟨range_below hr hbd, range_below gr hbd⟩ (fun hHeld => ?_); refine with_tabW eqRecI.r6.tab eqRecI.r6.bits (fun HT_ HW_ => ?_)
      refine pure_ (i := 0) (N := some 17) (v := ?_) (a' := ?_) #[I,O,O,O,O,O,O,O,O,O] rfl rfl (any_of HT_.out (by kernel_rfl)) (fun _ _ _ h => h) (Or.inl ⟨by rfl, ?_⟩) ?_ ?_
      rotate_left; intro w'; go_simp; with_reducible rfl; rotate_left; simp only [Act.put, List.setIfInBounds_toArray, List.set_cons_zero, List.set_cons_succ, i64_w, i32_w]; rfl
      refine pure_ (i := 1) (N := some 18) (v := ?_) (a' := ?_) #[I,I,O,O,O,O,O,O,O,O] rfl rfl (any_of HT_.out (by kernel_rfl)) (fun _ _ _ h => h) (Or.inl ⟨by rfl, ?_⟩) ?_ ?_
      rotate_left; intro w'; go_simp; with_reducible rfl; rotate_left; simp only [Act.put, List.setIfInBounds_toArray, List.set_cons_zero, List.set_cons_succ, i64_w, i32_w]; rfl
      refine pure_ (i := 2) (N := some 19) (v := ?_) (a' := ?_) #[I,I,I,O,O,O,O,O,O,O] rfl rfl (any_of HT_.out (by kernel_rfl)) (fun _ _ _ h => h) (Or.inl ⟨by rfl, ?_⟩) ?_ ?_
      rotate_left; intro w'; go_simp; with_reducible rfl; rotate_left; simp only [Act.put, List.setIfInBounds_toArray, List.set_cons_zero, List.set_cons_succ, i64_w, i32_w]; rfl
      refine take_ (i := 3) (N := some 20) (v := ?_) (a' := ?_) #[I,I,I,I,O,O,O,O,O,O] rfl rfl (take_ofW HT_.out HW_.out (by kernel_rfl)) (fun _ _ _ h => h) (Or.inl ⟨by rfl, ?_⟩) hHeld ?_ ?_
      rotate_left
      · rintro w' ⟨s0, s1⟩
        refine run_load_range (x := .tmp 19) ?_ ?_ hs s0 Try.underlying49 rfl (by kernel_rfl) <;> rfl
      rotate_left
      · simp only [Act.put, List.setIfInBounds_toArray, List.set_cons_zero, List.set_cons_succ, i64_w, i32_w]
        rfl
      refine pure_ (i := 4) (N := some 21) (v := ?_) (a' := ?_) #[I,I,I,I,I,O,O,O,O,O] rfl rfl (any_of HT_.out (by kernel_rfl)) (fun _ _ _ h => h) (Or.inl ⟨by rfl, ?_⟩) ?_ ?_
      rotate_left; intro w'; go_simp; with_reducible rfl; rotate_left; simp only [Act.put, List.setIfInBounds_toArray, List.set_cons_zero, List.set_cons_succ, i64_w, i32_w]; rfl
      refine pure_ (i := 5) (N := some 22) (v := ?_) (a' := ?_) #[I,I,I,I,I,I,O,O,O,O] rfl rfl (any_of HT_.out (by kernel_rfl)) (fun _ _ _ h => h) (Or.inl ⟨by rfl, ?_⟩) ?_ ?_
      rotate_left; intro w'; go_simp; with_reducible rfl; rotate_left; simp only [Act.put, List.setIfInBounds_toArray, List.set_cons_zero, List.set_cons_succ, i64_w, i32_w]; rfl
      refine pure_ (i := 6) (N := some 23) (v := ?_) (a' := ?_) #[I,I,I,I,I,I,I,O,O,O] rfl rfl (any_of HT_.out (by kernel_rfl)) (fun _ _ _ h => h) (Or.inl ⟨by rfl, ?_⟩) ?_ ?_
      rotate_left; intro w'; go_simp; with_reducible rfl; rotate_left; simp only [Act.put, List.setIfInBounds_toArray, List.set_cons_zero, List.set_cons_succ, i64_w, i32_w]; rfl
      refine take_ (i := 7) (N := some 24) (v := ?_) (a' := ?_) #[I,I,I,I,I,I,I,I,O,O] rfl rfl (take_ofW HT_.out HW_.out (by kernel_rfl)) (fun _ _ _ h => h) (Or.inl ⟨by rfl, ?_⟩) hHeld ?_ ?_
      rotate_left
      · rintro w' ⟨s0, s1⟩
        refine run_load_range (x := .tmp 23) ?_ ?_ gs s1 Try.underlying49 rfl (by kernel_rfl) <;> rfl
      rotate_left
      · simp only [Act.put, List.setIfInBounds_toArray, List.set_cons_zero, List.set_cons_succ, i64_w, i32_w]
        rfl
      refine one_ (i := 8) (N := some 25) #[I,I,I,I,I,I,I,I,I,O] rfl rfl (one_of HT_.out (by kernel_rfl)) (by decide) (fun K hK => ?_)
      refine goes_ Try.func40 (by kernel_rfl) rfl #[.agg #[.int .i64 (rdRecI xs i).f0, .int .i64 (rdRecI xs i).f1, .bool (rdRecI xs i).f2, .int .i64 (rdRecI xs i).f3, .int .i64 (rdRecI xs i).f4, .slice A5 (rdRecI xs i).f5.length c5, .int .i64 (rdRecI xs i).f6, .int .i64 (rdRecI xs i).f7, .slice A8 (rdRecI xs i).f8.length c8, .slice A9 (rdRecI xs i).f9.length c9, .slice A10 (rdRecI xs i).f10.length c10, .bool (rdRecI xs i).f11, .bool (rdRecI xs i).f12, .int .i64 (rdRecI xs i).f13, .slice A14 (rdRecI xs i).f14.length c14, .slice A15 (rdRecI xs i).f15.length c15, .slice A16 (rdRecI xs i).f16.length c16, .int .i64 (rdRecI xs i).f17], .agg #[.int .i64 (rdRecI xs i).f0, .int .i64 (rdRecI xs i).f1, .bool (rdRecI xs i).f2, .int .i64 (rdRecI xs i).f3, .int .i64 (rdRecI xs i).f4, .slice A5' (rdRecI xs i).f5.length c5', .int .i64 (rdRecI xs i).f6, .int .i64 (rdRecI xs i).f7, .slice A8' (rdRecI xs i).f8.length c8', .slice A9' (rdRecI xs i).f9.length c9', .slice A10' (rdRecI xs i).f10.length c10', .bool (rdRecI xs i).f11, .bool (rdRecI xs i).f12, .int .i64 (rdRecI xs i).f13, .slice A14' (rdRecI xs i).f14.length c14', .slice A15' (rdRecI xs i).f15.length c15', .slice A16' (rdRecI xs i).f16.length c16', .int .i64 (rdRecI xs i).f17]] (by rfl) rfl rfl (by (try simp only [List.map_toArray, List.map_cons, List.map_nil]); first | done | rfl) ?_
      with_reducible refine (eqRecorderC (rdRecI xs i).f0 (rdRecI xs i).f1 (rdRecI xs i).f3 (rdRecI xs i).f4 (rdRecI xs i).f6 (rdRecI xs i).f7 (rdRecI xs i).f13 (rdRecI xs i).f17 (rdRecI xs i).f2 (rdRecI xs i).f11 (rdRecI xs i).f12 (rdRecI xs i).f5 (rdRecI xs i).f8 (rdRecI xs i).f15 (rdRecI xs i).f9 (rdRecI xs i).f10 (rdRecI xs i).f14 (rdRecI xs i).f16 _ _ _ _ _ _ _ _ _ _ _ _ _ _ _ (Sl.mk h5.1 (Kd.C_below h5.2 (below_step HB.out hbd))) (Sl.mk h8.1 (Kd.C_below h8.2 (below_step HB.out hbd))) (Sl.mk h9.1 (Kd.C_below h9.2 (below_step HB.out hbd))) (Sl.mk h10.1 (Kd.C_below h10.2 (below_step HB.out hbd))) (Sl.mk h14.1 (Kd.C_below h14.2 (below_step HB.out hbd))) (Sl.mk h15.1 (Kd.C_below h15.2 (below_step HB.out hbd))) (Sl.mk h16.1 (Kd.C_below h16.2 (below_step HB.out hbd))) (Sl.mk g5.1 (Kd.C_below g5.2 (below_step HB.out hbd))) (Sl.mk g8.1 (Kd.C_below g8.2 (below_step HB.out hbd))) (Sl.mk g9.1 (Kd.C_below g9.2 (below_step HB.out hbd))) (Sl.mk g10.1 (Kd.C_below g10.2 (below_step HB.out hbd))) (Sl.mk g14.1 (Kd.C_below g14.2 (below_step HB.out hbd))) (Sl.mk g15.1 (Kd.C_below g15.2 (below_step HB.out hbd))) (Sl.mk g16.1 (Kd.C_below g16.2 (below_step HB.out hbd)))).mono ?_
      rintro e wn ⟨rfl, hb⟩
      have hb2 := below_step hbd hb
      refine ⟨_, rfl, ?_⟩
      refine hK.out _ _ ⟨range_below hr hb2, range_below gr hb2⟩ (fun hHeld => ?_)
      clear hK K
      refine norm_ (a' := ?_) ?_ ?_
      rotate_left
      · show Act.put _ (some 25) _ = _
        simp only [Act.put, List.setIfInBounds_toArray, List.set_cons_zero, List.set_cons_succ, i64_w, i32_w]
        rfl
      refine pure_ (i := 9) (N := some 26) (v := ?_) (a' := ?_) #[I,I,I,I,I,I,I,I,I,I] rfl rfl (any_of HT_.out (by kernel_rfl)) (fun _ _ _ h => h) (Or.inl ⟨by rfl, ?_⟩) ?_ ?_
      rotate_left; intro w'; go_simp; with_reducible rfl; rotate_left; simp only [Act.put, List.setIfInBounds_toArray, List.set_cons_zero, List.set_cons_succ, i64_w, i32_w]; rfl
      refine done_ (done_of HT_.out (by kernel_rfl)) ?_
      go_wp2
      go_roundg gk1
      case measure => omega
      case rel => exact ⟨wrap64 (i + 1), rfl, ⟨by have := HI.out; have := HL.out; have := HI'.out; rw [wrapIn (by omega) (by omega)]; omega⟩, ⟨below_step HB.out hb2⟩⟩
    · have hcd : decide (i < (xs.length : Int)) = false := decide_eq_false hi
      clear hi
      go_wp2
      go_ret
      exact ⟨rfl, HB.out⟩
set_option maxHeartbeats 4000000 in
set_option maxRecDepth 100000 in
theorem eqWorldC (xs : List RecI) (ms : List S52) (fs : List S54) (A A' B B' C C' : Option Addr) (c c' d d' e e' : Nat) (w : World) (h1 : Kd.C kI w A xs.length xs) (h2 : Kd.C kI w A' xs.length xs)
    (h3 : Kd.C k52 w B ms.length ms) (h4 : Kd.C k52 w B' ms.length ms) (h5 : Kd.C k54 w C fs.length fs) (h6 : Kd.C k54 w C' fs.length fs) (l3 : ms.length ≤ d) (l4 : ms.length ≤ d') (l5 : fs.length ≤ e) (l6 : fs.length ≤ e') :
    Calls Try.prog 8 #[.agg #[.slice A xs.length c, .slice B ms.length d, .slice C fs.length e], .agg #[.slice A' xs.length c', .slice B' ms.length d', .slice C' fs.length e']] w fun e w' => e = .returned (.bool true) ∧ Below w.heap.size w w' := by
  have hu := Try.underlying33
  have H := Aside0.mk (And.intro h1 (And.intro h2 (And.intro h3 (And.intro h4 (And.intro h5 h6)))))
  have L := Aside0.mk (And.intro l3 (And.intro l4 (And.intro l5 l6)))
  clear h1 h2 h3 h4 h5 h6 l3 l4 l5 l6
  have HB := Aside0.mk (Below.refl w.heap.size w)
  go_enter Try.func8, Try.ntmps8
  go_wp2_with (first
    | ((with_reducible refine gate_dst (N := 2) rfl ?_); refine box_event ?hg (N := 2) ?hd (cs := #[.slice A xs.length c, .slice B ms.length d, .slice C fs.length e]) (t := 33) ?hr ?_; (case hd => rfl); (case hg => rfl); (case hr => first | (go_simp; done) | (go_simp; rfl)); intro ga _hg w1 hbox hb; have n0_ := Aside0.mk (below_step HB.out hb); clear HB; have HB := n0_; clear n0_; have BA := Aside0.mk hbox; clear hb hbox _hg; have ra := blk_cell BA.out)
    | ((with_reducible refine gate_dst (N := 3) rfl ?_); refine box_event ?hg (N := 3) ?hd (cs := #[.slice A' xs.length c', .slice B' ms.length d', .slice C' fs.length e']) (t := 33) ?hr ?_; (case hd => rfl); (case hg => rfl); (case hr => first | (go_simp; done) | (go_simp; rfl)); intro gb _hg w2 hbox hb; have n0_ := Aside0.mk (below_step HB.out hb); have n1_ := Aside0.mk (blk_below BA.out hb); clear HB BA; have HB := n0_; have BA := n1_; clear n0_ n1_ ra; have BB := Aside0.mk hbox; clear hb hbox _hg; have ra := blk_cell BA.out; have rb := blk_cell BB.out)
    | ((first
        | (go_at_call 21; (with_reducible refine (eqRecISC _ _ _ _ _ _ (Kd.C_below H.out.1 HB.out) (Kd.C_below H.out.2.1 HB.out)).mono ?_))
        | (go_at_call 22; (with_reducible refine (eqRecMessageSC _ _ _ _ _ _ (Kd.C_below H.out.2.2.1 HB.out) (Kd.C_below H.out.2.2.2.1 HB.out) L.out.1 L.out.2.1).mono ?_))
        | (go_at_call 23; (with_reducible refine (eqRecFixSC _ _ _ _ _ _ (Kd.C_below H.out.2.2.2.2.1 HB.out) (Kd.C_below H.out.2.2.2.2.2 HB.out) L.out.2.2.1 L.out.2.2.2).mono ?_)));
       rintro e wn ⟨rfl, hb⟩; have n0_ := Aside0.mk (below_step HB.out hb); have n1_ := Aside0.mk (blk_below BA.out hb); have n2_ := Aside0.mk (blk_below BB.out hb); clear HB BA BB; have HB := n0_; have BA := n1_; have BB := n2_; clear n0_ n1_ n2_ ra rb; clear hb; have ra := blk_cell BA.out; have rb := blk_cell BB.out))
  go_ret
  exact ⟨rfl, HB.out⟩

/-! ### sizes of worlds -/
def BX (x : RecL) : Prop := (x.f5.length ≤ 1048576 ∧ x.f8.length ≤ 1048576 ∧ x.f9.length ≤ 1048576 ∧ x.f10.length ≤ 1048576 ∧ x.f14.length ≤ 1048576 ∧ x.f15.length ≤ 1048576 ∧ x.f16.length ≤ 1048576) ∧ (∀ m ∈ x.f9, m.f7.length ≤ 1048576) ∧ (∀ m ∈ x.f16, m.f1.length ≤ 1048576)
structure WFr (x : RecL) : Prop where
  m5 : x.f5.length ≤ maxLen
  f5 : ∀ y ∈ x.f5, y.f1.size ≤ maxLen
  m8 : x.f8.length ≤ maxLen
  f8 : ∀ y ∈ x.f8, y.f1.size ≤ maxLen
  m9 : x.f9.length ≤ maxLen
  f9 : ∀ m ∈ x.f9, m.f6.size ≤ maxLen ∧ m.f7.length ≤ maxLen ∧ ∀ y ∈ m.f7, y.f1.size ≤ maxLen
  m10 : x.f10.length ≤ maxLen
  f10 : ∀ y ∈ x.f10, y.size ≤ maxLen
  m14 : x.f14.length ≤ maxLen
  m15 : x.f15.length ≤ maxLen
  f15 : ∀ y ∈ x.f15, y.f1.size ≤ maxLen
  m16 : x.f16.length ≤ maxLen
  f16 : ∀ m ∈ x.f16, m.f1.length ≤ maxLen
theorem szFix (x : S72) (a : Int) (h0 : 0 ≤ a) (ha : a ≤ 1048576) (hs : x.f1.size ≤ maxLen) :
    ∃ r, laws_szRecFix.f x.f0 x.f1 a = some r ∧ r ≤ a ∧ -1 ≤ r := by
  unfold laws_szRecFix.f maxLen at *
  rw [wrapIn (by omega) (by omega)]
  by_cases h : a - (x.f1.size : Int) < 0
  · rw [if_pos h]; exact ⟨_, rfl, by omega, by omega⟩
  · rw [if_neg h]; exact ⟨_, rfl, by omega, by omega⟩
theorem szFixS (xs : List S72) (a : Int) (h0 : 0 ≤ a) (ha : a ≤ 1048576) (hl : xs.length ≤ maxLen) (hs : ∀ x ∈ xs, x.f1.size ≤ maxLen) (k : Nat) (hk : xs.length < k) :
    ∃ r, laws_szRecFixS.f k xs a = some r ∧ r ≤ a ∧ -1 ≤ r ∧ (0 ≤ r → (xs.length : Int) ≤ a) := by
  have hl' : xs.length ≤ 9223372036854775807 := by unfold maxLen at hl; omega
  unfold laws_szRecFixS.f
  rw [wrapIn (by omega) (by omega)]
  by_cases h : a - (xs.length : Int) < 0
  · rw [if_pos h]; exact ⟨_, rfl, by omega, by omega, fun _ => by omega⟩
  · rw [if_neg h]
    have hsm : xs.length ≤ 1048576 := by omega
    have key := loopInd xs.length (fun k i => ∀ b : Int, 0 ≤ b → b ≤ a - xs.length → ∃ r, laws_szRecFixS.l0 k xs b (i : Int) = some r ∧ r ≤ b ∧ -1 ≤ r) ?_ ?_ 0 k (Nat.zero_le _) (by omega) (a - xs.length) (by omega) (by omega)
    · obtain ⟨r, h1, h2, h3⟩ := key
      exact ⟨r, h1, by omega, h3, fun _ => by omega⟩
    · intro k b hb _
      refine ⟨b, ?_, by omega, by omega⟩
      simp only [laws_szRecFixS.l0]
      rw [if_neg (by omega)]
    · intro k i hi ih b hb hba
      simp only [laws_szRecFixS.l0]
      rw [if_pos (by omega), if_pos (by omega), wrapSucc hi (by omega)]
      unfold rd_T72
      rw [getDAt hi]
      obtain ⟨t, ht, hta, htm⟩ := szFix xs[i] b hb (by omega) (hs _ (List.getElem_mem hi))
      rw [ht]
      simp only [Option.bind_some]
      by_cases hneg : t < 0
      · rw [if_pos hneg]; exact ⟨_, rfl, by omega, by omega⟩
      · rw [if_neg hneg]
        obtain ⟨r, h1, h2, h3⟩ := ih t (by omega) (by omega)
        exact ⟨r, h1, by omega, h3⟩
theorem bxStep {xs : List RecL} {i : Int} (h : ∀ (j : Nat) (x : RecL), j < i.toNat → xs[j]? = some x → BX x) (hg : xs[i.toNat]? = some (rdRecL xs i)) (h0 : 0 ≤ i) (h1 : i < xs.length) (hn : xs.length ≤ 1048576) (hB : BX (rdRecL xs i)) : ∀ (j : Nat) (x : RecL), j < (wrap64 (i + 1)).toNat → xs[j]? = some x → BX x := by
  intro j x hj hx
  rw [wrapIn (by omega) (by omega)] at hj
  by_cases e : j = i.toNat
  · subst e
    rw [hg] at hx
    cases hx
    exact hB
  · exact h j x (by omega) hx
set_option maxHeartbeats 8000000 in
set_option maxRecDepth 100000 in
theorem szRecLSC (xs : List RecL) (A : Option Addr) (c : Nat) (w : World) (h1 : Kd.C kL w A xs.length xs) (hw : ∀ x ∈ xs, WFr x) (a0 : Int) (ha0 : 0 ≤ a0 ∧ a0 ≤ 1048576) :
    Calls Try.prog 9 #[.slice A xs.length c, .int .i64 a0] w fun e w' => ∃ r : Int, e = .returned (.int .i64 r) ∧ (-1 ≤ r ∧ r ≤ 1048576 ∧ (0 ≤ r → xs.length ≤ 1048576 ∧ ∀ x ∈ xs, BX x)) ∧ Below w.heap.size w w' := by
  have hu := Try.underlying67
  have HL := Aside0.mk h1.2.1
  have HR := Aside0.mk h1
  have HW := Aside0.mk hw
  have HA0 := Aside0.mk ha0
  have hwr : wrap64 (a0 - (xs.length : Int)) = a0 - (xs.length : Int) := by have := h1.2.1; exact wrapIn (by omega) (by omega)
  clear h1 hw ha0
  have HB := Aside0.mk (Below.refl w.heap.size w)
  by_cases hneg : a0 - (xs.length : Int) < 0
  · have hd : decide (a0 - (xs.length : Int) < 0) = true := decide_eq_true hneg
    have hd2 : decide (wrap64 (a0 - (xs.length : Int)) < 0) = true := by rw [hwr]; exact hd
    clear hneg hwr
    go_enter Try.func9, Try.ntmps9
    go_wp2
    go_ret
    exact ⟨-1, rfl, ⟨by omega, by omega, fun h => by omega⟩, HB.out⟩
  have hd : decide (a0 - (xs.length : Int) < 0) = false := decide_eq_false hneg
  have hd2 : decide (wrap64 (a0 - (xs.length : Int)) < 0) = false := by rw [hwr]; exact hd
  have HN := Aside0.mk (show xs.length ≤ 1048576 by have := HA0.out; omega)
  have HS := Aside0.mk (show 0 ≤ wrap64 (a0 - (xs.length : Int)) ∧ wrap64 (a0 - (xs.length : Int)) ≤ 1048576 by rw [hwr]; have := HA0.out; omega)
  clear hneg hwr
  go_enter Try.func9, Try.ntmps9
  go_wp2
  go_loopg [1, 5] xs.length (fun kr v1 v5 w' => ∃ (a i : Int), v1 = .int .i64 a ∧ v5 = .int .i64 i ∧ Aside0 (0 ≤ a ∧ a ≤ 1048576) ∧ Aside0 (0 ≤ i ∧ i + kr = xs.length) ∧ Aside0 (∀ (j : Nat) (x : RecL), j < i.toNat → xs[j]? = some x → BX x) ∧ Aside0 (Below w.heap.size w w'))
  case atStart => exact ⟨_, 0, rfl, rfl, HS, ⟨⟨Int.le_refl _, by omega⟩⟩, ⟨fun j x hj => absurd hj (by simp)⟩, HB⟩
  case round =>
    clear HB HS
    obtain ⟨a, i, rfl, rfl, HA, HI, HX, HB⟩ := hrel
    by_cases hi : i < (xs.length : Int)
    · rcases gk with _ | gk1
      · exact absurd HI.out.2 (by omega)
      have hcd : decide (i < (xs.length : Int)) = true := decide_eq_true hi
      have hc0 : decide (0 ≤ i) = true := decide_eq_true HI.out.1
      have HI' := Aside0.mk hi
      have p0 := HI.out.1
      have p1 := hi
      clear hi
      have hget : xs[i.toNat]? = some (rdRecL xs i) := by
        have hlt : i.toNat < xs.length := by omega
        unfold rdRecL
        rw [List.getD_eq_getElem?_getD, List.getElem?_eq_getElem hlt]
        rfl
      have W := HW.out _ (List.mem_of_getElem? hget)
      obtain ⟨ad, A5, A8, A9, A10, A14, A15, A16, c5, c8, c9, c10, c14, c15, c16, e, hr, hs, h5, h8, h9, h10, h14, h15, h16⟩ := atRecL HR.out i p0 p1
      subst e
      have ha := HA.out
      obtain ⟨r, hrb, hB, hQ⟩ := szRecorderC (rdRecL xs i).f0 (rdRecL xs i).f1 (rdRecL xs i).f3 (rdRecL xs i).f4 (rdRecL xs i).f6 (rdRecL xs i).f7 (rdRecL xs i).f13 (rdRecL xs i).f17 a (rdRecL xs i).f2 (rdRecL xs i).f11 (rdRecL xs i).f12 (rdRecL xs i).f5 (rdRecL xs i).f8 (rdRecL xs i).f9 (rdRecL xs i).f10 (rdRecL xs i).f14 (rdRecL xs i).f15 (rdRecL xs i).f16 A5 A8 A9 A10 A14 A15 A16 c5 c8 c9 c10 c14 c15 c16 w (by omega) (by omega) h5.2 h5.1 W.m5 W.f5 h8.2 h8.1 W.m8 W.f8 h9.2 h9.1 W.m9 W.f9 h10.2 h10.1 W.m10 W.f10 h14.2 h14.1 W.m14 h15.2 h15.1 W.m15 W.f15 h16.2 h16.1 W.m16 W.f16
      replace hr := range_below hr HB.out
      have HQ := Aside0.mk hQ
      have HRg := Aside0.mk hr
      have HSp := Aside0.mk hs
      have HGet := Aside0.mk hget
      clear W hQ ha hr hs hget h5 h8 h9 h10 h14 h15 h16
      by_cases hneg : r < 0
      all_goals
        first | (have hdr : decide (r < 0) = true := decide_eq_true hneg) | (have hdr : decide (r < 0) = false := decide_eq_false hneg)
        have HG := Aside0.mk (And.intro hneg (And.intro hrb hB))
        clear hneg hrb hB
        go_wp2_with (first
          | ((with_reducible refine gate_load (t := 67) (p := 20) rfl ?_); refine load_range (ty := 67) (x := .tmp 20) (q := ad.add (i.toNat * 18)) (cs := [.int .i64 (rdRecL xs i).f0, .int .i64 (rdRecL xs i).f1, .bool (rdRecL xs i).f2, .int .i64 (rdRecL xs i).f3, .int .i64 (rdRecL xs i).f4, .slice A5 (rdRecL xs i).f5.length c5, .int .i64 (rdRecL xs i).f6, .int .i64 (rdRecL xs i).f7, .slice A8 (rdRecL xs i).f8.length c8, .slice A9 (rdRecL xs i).f9.length c9, .slice A10 (rdRecL xs i).f10.length c10, .bool (rdRecL xs i).f11, .bool (rdRecL xs i).f12, .int .i64 (rdRecL xs i).f13, .slice A14 (rdRecL xs i).f14.length c14, .slice A15 (rdRecL xs i).f15.length c15, .slice A16 (rdRecL xs i).f16.length c16, .int .i64 (rdRecL xs i).f17]) rfl rfl rfl HSp.out HRg.out Try.underlying67 rfl (by kernel_rfl) ?_)
          | (go_at_call 24; (with_reducible refine (HQ.out _ HB.out).mono ?_); rintro e wn ⟨rfl, hb⟩; have n0_ := Aside0.mk (below_step HB.out hb); clear HB hb HRg; have HB := n0_; clear n0_))
        first
          | (go_ret; exact ⟨-1, rfl, ⟨by omega, by omega, fun h => by omega⟩, HB.out⟩)
          | (go_roundg gk1
             case measure => omega
             case rel => exact ⟨r, wrap64 (i + 1), rfl, rfl, ⟨by have := HG.out; omega⟩, ⟨by have := HI.out; have := HN.out; have := HI'.out; rw [wrapIn (by omega) (by omega)]; omega⟩, ⟨bxStep HX.out HGet.out p0 p1 HN.out (HG.out.2.2 (by first | exact HG.out.1 | exact Int.not_lt.1 HG.out.1))⟩, HB⟩)
    · have hcd : decide (i < (xs.length : Int)) = false := decide_eq_false hi
      have HE := Aside0.mk (show i.toNat = xs.length by have := HI.out; omega)
      clear hi
      go_wp2
      go_ret
      refine ⟨a, rfl, ⟨by have := HA.out; omega, by have := HA.out; omega, fun _ => ⟨HN.out, fun x hx => ?_⟩⟩, HB.out⟩
      obtain ⟨j, hj, rfl⟩ := List.getElem_of_mem hx
      exact HX.out j _ (by rw [HE.out]; exact hj) (List.getElem?_eq_getElem hj)
set_option maxHeartbeats 8000000 in
set_option maxRecDepth 100000 in
theorem szWorldC (xs : List RecL) (ms : List S70) (fs : List S72) (A B C : Option Addr) (c d e : Nat) (w : World) (h1 : Kd.C kL w A xs.length xs) (hw : ∀ x ∈ xs, WFr x) (h2 : Kd.C k70 w B ms.length ms) (l2 : ms.length ≤ d) (m2 : ms.length ≤ maxLen) (f2 : ∀ m ∈ ms, m.f6.size ≤ maxLen ∧ m.f7.length ≤ maxLen ∧ ∀ y ∈ m.f7, y.f1.size ≤ maxLen)
    (h3 : Kd.C k72 w C fs.length fs) (l3 : fs.length ≤ e) (m3 : fs.length ≤ maxLen) (f3 : ∀ f ∈ fs, f.f1.size ≤ maxLen) :
    Calls Try.prog 4 #[.agg #[.slice A xs.length c, .slice B ms.length d, .slice C fs.length e], .int .i64 1048576] w fun e w' => ∃ r : Int, e = .returned (.int .i64 r) ∧ (0 ≤ r → (xs.length ≤ 1048576 ∧ ∀ x ∈ xs, BX x) ∧ (ms.length ≤ 1048576 ∧ ∀ m ∈ ms, m.f7.length ≤ 1048576) ∧ fs.length ≤ 1048576) ∧ Below w.heap.size w w' := by
  have hu := Try.underlying26
  have H := Aside0.mk (And.intro h1 (And.intro h2 h3))
  have HW := Aside0.mk hw
  have H2 := Aside0.mk (And.intro l2 (And.intro m2 f2))
  have H3 := Aside0.mk (And.intro l3 (And.intro m3 f3))
  clear h1 h2 h3 hw l2 m2 f2 l3 m3 f3
  have HB := Aside0.mk (Below.refl w.heap.size w)
  go_enter Try.func4, Try.ntmps4
  go_upto_region 2 with (first
    | ((with_reducible refine gate_dst (N := 2) rfl ?_); refine box_event ?hg (N := 2) ?hd (cs := #[.slice A xs.length c, .slice B ms.length d, .slice C fs.length e]) (t := 26) ?hr ?_; (case hd => rfl); (case hg => rfl); (case hr => first | (go_simp; done) | (go_simp; rfl)); intro gp _hg w1 hbox hb; have n0_ := Aside0.mk (below_step HB.out hb); clear HB; have HB := n0_; clear n0_; have BP := Aside0.mk hbox; clear hb hbox _hg; have rp := blk_cell BP.out)
    | (go_at_call 9; (with_reducible refine (szRecLSC xs A c _ (Kd.C_below H.out.1 HB.out) HW.out 1048576 (by omega)).mono ?_); rintro e_ wn ⟨r1, rfl, hr1, hb⟩; have n0_ := Aside0.mk (below_step HB.out hb); have n1_ := Aside0.mk (blk_below BP.out hb); clear HB BP; have HB := n0_; have BP := n1_; clear n0_ n1_ rp; clear hb; have rp := blk_cell BP.out))
  by_cases h1 : r1 < 0
  · have hd : decide (r1 < 0) = true := decide_eq_true h1
    clear h1 hr1
    go_wp2
    go_ret
    exact ⟨-1, rfl, fun h => by omega, HB.out⟩
  have hd : decide (r1 < 0) = false := decide_eq_false h1
  obtain ⟨r2, hf2, hr2a, hr2b, hr2c⟩ := szMsgS ms r1 (Int.not_lt.1 h1) hr1.2.1 H2.out.2.1 H2.out.2.2 (ms.length + 9223372036854775809) (by omega)
  have HF := Aside0.mk hf2
  have HG := Aside0.mk (And.intro (hr1.2.2 (Int.not_lt.1 h1)) (And.intro hr1.2.1 (And.intro hr2a (And.intro hr2b hr2c))))
  clear h1 hr1 hf2 hr2a hr2b hr2c
  by_cases h2 : r2 < 0
  · have hd2 : decide (r2 < 0) = true := decide_eq_true h2
    clear h2
    go_wp2_with (go_at_call 10; (with_reducible refine (laws_szRecMessageS.calls _ B d ms r1 r2 _ (Kd.C_below H.out.2.1 HB.out) H2.out.1 HF.out).mono ?_); rintro e_ wn ⟨rfl, hb⟩; have n0_ := Aside0.mk (below_step HB.out hb); have n1_ := Aside0.mk (blk_below BP.out hb); clear HB BP; have HB := n0_; have BP := n1_; clear n0_ n1_ rp; clear hb; have rp := blk_cell BP.out)
    go_ret
    exact ⟨-1, rfl, fun h => by omega, HB.out⟩
  have hd2 : decide (r2 < 0) = false := decide_eq_false h2
  have hg := HG.out
  obtain ⟨r3, hf3, hr3a, hr3b, hr3c⟩ := szFixS fs r2 (Int.not_lt.1 h2) (by omega) H3.out.2.1 H3.out.2.2 (fs.length + 1) (Nat.lt_succ_self _)
  have HF3 := Aside0.mk hf3
  have HG3 := Aside0.mk (And.intro (show 0 ≤ r2 ∧ r2 ≤ 1048576 ∧ ms.length ≤ 1048576 ∧ ∀ m ∈ ms, m.f7.length ≤ 1048576 from ⟨Int.not_lt.1 h2, by omega, by have := (hg.2.2.2.2 (Int.not_lt.1 h2)).1; omega, fun m hm => by have := (hg.2.2.2.2 (Int.not_lt.1 h2)).2 m hm; omega⟩) (And.intro hr3b hr3c))
  clear h2 hf3 hr3a hr3b hr3c hg
  by_cases h3 : r3 < 0
  all_goals
    first | (have hd3 : decide (r3 < 0) = true := decide_eq_true h3) | (have hd3 : decide (r3 < 0) = false := decide_eq_false h3)
    have HN := Aside0.mk h3
    clear h3
    go_wp2_with (first
      | (go_at_call 10; (with_reducible refine (laws_szRecMessageS.calls _ B d ms r1 r2 _ (Kd.C_below H.out.2.1 HB.out) H2.out.1 HF.out).mono ?_); rintro e_ wn ⟨rfl, hb⟩; have n0_ := Aside0.mk (below_step HB.out hb); have n1_ := Aside0.mk (blk_below BP.out hb); clear HB BP; have HB := n0_; have BP := n1_; clear n0_ n1_ rp; clear hb; have rp := blk_cell BP.out)
      | (go_at_call 11; (with_reducible refine (laws_szRecFixS.calls _ C e fs r2 r3 _ (Kd.C_below H.out.2.2 HB.out) H3.out.1 HF3.out).mono ?_); rintro e_ wn ⟨rfl, hb⟩; have n0_ := Aside0.mk (below_step HB.out hb); have n1_ := Aside0.mk (blk_below BP.out hb); clear HB BP; have HB := n0_; have BP := n1_; clear n0_ n1_ rp; clear hb; have rp := blk_cell BP.out))
    go_ret
    first
      | exact ⟨-1, rfl, fun h => by omega, HB.out⟩
      | exact ⟨r3, rfl, fun h => ⟨HG.out.1, HG3.out.1.2.2, by have := HG3.out.2.2 h; have := HG3.out.1.2.1; omega⟩, HB.out⟩

/-! ### worlds' mirrors: the machine's side -/
def mRec (x : RecL) : RecI := ⟨x.f0, x.f1, x.f2, x.f3, x.f4, x.f5.map mSlot, x.f6, x.f7, x.f8.map mSlot, x.f9.map mMsg, x.f10, x.f11, x.f12, x.f13, x.f14, x.f15.map mSlot, x.f16.map mAck, x.f17⟩
/-- Row g, of n places, holds the first i of ys; what they lead to lies behind g. -/
def Filled (W : World) (base g n i : Nat) (ys : List RecI) : Prop :=
  ∃ cs : Array Value, cs.size = n * 18 ∧ W.heap[g]? = some (.cells cs 49 (0, 0)) ∧ ∀ (j : Nat) (p : RecI), j < i → ys[j]? = some p → ∃ c : List Value, c.length = 18 ∧ (∀ t u, c[t]? = some u → cs[j * 18 + t]? = some u) ∧ kI.M W base (fun k => g < k) p c
theorem putRow_size : ∀ (vs : List Value) (old : Array Value) (o : Nat), (putRow old o vs).size = old.size
  | [], _, _ => rfl
  | v :: r, old, o => by rw [putRow, putRow_size r]; simp
theorem putRow_out : ∀ (vs : List Value) (old : Array Value) (o k : Nat), k < o ∨ o + vs.length ≤ k → (putRow old o vs)[k]? = old[k]?
  | [], _, _, _, _ => rfl
  | v :: r, old, o, k, h => by
    rw [putRow, putRow_out r _ _ _ (h.elim (fun h => Or.inl (by omega)) (fun h => Or.inr (by simp at h; omega)))]
    have hne : o ≠ k := h.elim (fun h => by omega) (fun h => by simp at h; omega)
    simp [Array.getElem?_setIfInBounds, hne]
theorem putRow_in : ∀ (vs : List Value) (old : Array Value) (o t : Nat), t < vs.length → o + t < old.size → (putRow old o vs)[o + t]? = vs[t]?
  | [], _, _, _, h, _ => absurd h (by simp)
  | v :: r, old, o, 0, _, h => by
    rw [putRow, putRow_out r _ _ _ (Or.inl (by omega))]
    have h' : o < old.size := by omega
    simp [Array.getElem?_setIfInBounds, h']
  | v :: r, old, o, t + 1, h, hs => by
    rw [putRow, show o + (t + 1) = o + 1 + t by omega, putRow_in r _ _ _ (by simpa using h) (by simp; omega)]
    rfl
theorem Filled.below {W W1 : World} {base g n i : Nat} {ys : List RecI} (h : Filled W base g n i ys) (hb : Below W.heap.size W W1) : Filled W1 base g n i ys := by
  obtain ⟨cs, h1, h2, h3⟩ := h
  refine ⟨cs, h1, blk_below h2 hb, fun j p hj hp => ?_⟩
  obtain ⟨c, q1, q2, q3⟩ := h3 j p hj hp
  exact ⟨c, q1, q2, Kd.M_below q3 hb⟩
theorem Filled.store {W : World} {base g n i : Nat} {ys : List RecI} (h : Filled W base g n i ys) (hin : i < n) {c : List Value} {p : RecI} (hc : c.length = 18) (hp : ys[i]? = some p) (hM : kI.M W base (fun k => g < k) p c) : Filled (W.setCells g (i * 18) c) base g n (i + 1) ys := by
  obtain ⟨cs, h1, h2, h3⟩ := h
  have hg := grown_setCells g c (i * 18) W
  refine ⟨putRow cs (i * 18) c, by rw [putRow_size]; exact h1, setCells_heap g _ _ c (i * 18) W cs h2, fun j q hj hq => ?_⟩
  by_cases e : j = i
  · subst e
    rw [hp] at hq
    cases hq
    refine ⟨c, hc, fun t u hu => ?_, Kd.M_grown hM hg (fun k hk e_ => absurd (Option.some.inj e_) (Nat.ne_of_gt hk))⟩
    have ht : t < c.length := (List.getElem?_eq_some_iff.1 hu).1
    rw [putRow_in c cs (j * 18) t ht (by omega)]
    exact hu
  · obtain ⟨c1, q1, q2, q3⟩ := h3 j q (by omega) hq
    refine ⟨c1, q1, fun t u hu => ?_, Kd.M_grown q3 hg (fun k hk e_ => absurd (Option.some.inj e_) (Nat.ne_of_gt hk))⟩
    have ht : t < c1.length := (List.getElem?_eq_some_iff.1 hu).1
    rw [putRow_out c cs (i * 18) _ (by omega)]
    exact q2 t u hu
theorem Filled.reads {W : World} {base g n : Nat} {ys : List RecI} (h : Filled W base g n n ys) (hn : ys.length = n) (hl : n ≤ 9223372036854775807) : Kd.C kI W (some ⟨g, 0, none⟩) ys.length ys := by
  obtain ⟨cs, h1, h2, h3⟩ := h
  refine ⟨rfl, by omega, fun _ => ⟨_, rfl, fun j p hj => ?_⟩⟩
  have hjn : j < n := by have := (List.getElem?_eq_some_iff.1 hj).1; omega
  obtain ⟨c, q1, q2, q3⟩ := h3 j p hjn hj
  refine ⟨c, q1, kI.K_of_M q3, fun t u hu => ?_⟩
  have e : (⟨g, 0, none⟩ : Addr).add (j * kI.sz + t) = ⟨g, j * kI.sz + t, none⟩ := by unfold Addr.add; split <;> simp_all
  rw [e, blk_cell h2]
  exact q2 t u hu
section
variable {P : Program} {ops : Array Oper} {rest : List Oper} {o : Oper} {a : Act} {W : World} {Q : Exit → Act → World → Prop}
/-- A row of so many places is made. -/
theorem make_row (hgd : o.guard = none) {N : Tmp} (hd : o.dst = some N) {t e : TypeId} {x y : Operand} (ho : o.op = .makeSlice t x y) {n : Nat} (hx : a.eval x = .int .i64 (n : Int)) (hy : a.eval y = .int .i64 (n : Int)) (ht : P.underlying t = some (.slice e))
    {z : Value} {bytes sz : Nat} (hinfo : (P.info? e).map (fun i => (i.zero, i.size, i.bytes)) = some (some z, sz, bytes)) (hl : n * bytes ≤ 281474976710656) (hn : n ≤ 9223372036854775807)
    (h : ∀ g, g = W.heap.size → ∀ (w1 : World) (cs : Array Value), cs.size = n * sz → w1.heap[g]? = some (.cells cs e (0, 0)) → Below W.heap.size W w1 → wpList P ops Q rest (a.put o.dst (.slice (some ⟨g, 0, none⟩) n n)) w1) : wpList P ops Q (o :: rest) a W := by
  obtain ⟨i0, hi, hzz⟩ := Option.map_eq_some_iff.1 hinfo
  simp only [Prod.mk.injEq] at hzz
  obtain ⟨hz0, hz1, hz2⟩ := hzz
  have hr := run_make (P := P) W t e i0 z ht hi hz0 .i64 .i64 (n : Int) (n : Int) (by omega) (by omega)
    (by
      have h3 : ((i0.bytes * n : Nat) : Int) ≤ 281474976710656 := by rw [hz2, Nat.mul_comm]; omega
      rwa [Int.natCast_mul] at h3) (by omega)
  simp only [Int.toNat_natCast] at hr
  rw [hz1] at hr
  refine Kd.event_run hgd (w1 := W.alloc (.cells (madeCells z.cells (n * sz)) e)) (v := .slice (some ⟨W.heap.size, 0, none⟩) n n) ?_ (h _ rfl _ _ (size_madeCells _ _) (blk_new W _) (below_alloc (Below.refl _ _) _))
  simp [execOp, ho, hx, hy, hr]
/-- A struct is stored into a place of a row. -/
theorem store_place (hgd : o.guard = none) {ty : TypeId} {x y : Operand} (ho : o.op = .store ty x y) (hd : o.dst = none) {g off : Nat} {cs : List Value} {old : Array Value} {t : TypeId}
    (hx : a.eval x = .pointer (some ⟨g, off, none⟩)) (hy : a.eval y = .agg cs.toArray) (hg : W.heap[g]? = some (.cells old t (0, 0))) (hi : (P.info? ty).map (·.size) = some cs.length) (hsz : off + cs.length ≤ old.size) (h1 : ∀ u ∈ cs, u.oneCell' = true)
    (h : wpList P ops Q rest a (W.setCells g off cs)) : wpList P ops Q (o :: rest) a W := by
  refine wpList_plain hgd fun K hK => ?_
  unfold Oper.wp execOp
  simp only [ho, hx, hy, Instr.storeAt, Instr.sureAddr, Sem.run_bind, Sem.run_pure, Result.andThen_ok, run_storeVar_part W g off ty (.agg cs.toArray) cs (by simp [Value.cells]) (there_row hg hsz) hi h1]
  show K (a.put o.dst undef) _
  rw [hd]
  exact hK _ _ h
end
theorem oneL18 {b0 b1 b2 b3 b4 b5 b6 b7 b8 b9 b10 b11 b12 b13 b14 b15 b16 b17 : Value} (h : (List.all [b0, b1, b2, b3, b4, b5, b6, b7, b8, b9, b10, b11, b12, b13, b14, b15, b16, b17] (·.oneCell')) = true) : ∀ u ∈ [b0, b1, b2, b3, b4, b5, b6, b7, b8, b9, b10, b11, b12, b13, b14, b15, b16, b17], u.oneCell' = true := List.all_eq_true.1 h
theorem Filled.grown {W W1 : World} {base g g' n i : Nat} {ys : List RecI} (h : Filled W base g n i ys) (hg : W.grownBy W1 (some g')) (hlt : g' < g) : Filled W1 base g n i ys := by
  obtain ⟨cs, h1, h2, h3⟩ := h
  refine ⟨cs, h1, blk_grown h2 hg (fun e_ => absurd (Option.some.inj e_) (Nat.ne_of_gt hlt)), fun j p hj hp => ?_⟩
  obtain ⟨c, q1, q2, q3⟩ := h3 j p hj hp
  exact ⟨c, q1, q2, Kd.M_grown q3 hg (fun k hk e_ => absurd (Option.some.inj e_) (Nat.ne_of_gt (Nat.lt_trans hlt hk)))⟩
theorem infoRec : (Try.prog.info? 49).map (fun i => (i.zero, i.size, i.bytes)) = some (some (.agg #[.int .i64 0, .int .i64 0, .bool false, .int .i64 0, .int .i64 0, .slice none 0 0, .int .i64 0, .int .i64 0, .slice none 0 0, .slice none 0 0, .slice none 0 0, .bool false, .bool false, .int .i64 0, .slice none 0 0, .slice none 0 0, .slice none 0 0, .int .i64 0]), 18, 248) := by kernel_rfl
theorem R_to {α : Type} {d : Kd α} {e : Nat} {w : World} {b base g : Nat} {v : Value} {xs : List α} (h : d.R e w b (fun k => b ≤ k) v xs) (h0 : base ≤ b) (hg : g < b) : d.R e w base (fun k => g < k) v xs := Kd.R_lower (Kd.R_mono h (fun _ hk => Nat.lt_of_lt_of_le hg hk)) h0
set_option maxHeartbeats 8000000 in
set_option maxRecDepth 100000 in
theorem toRecLSC (xs : List RecL) (A : Option Addr) (c : Nat) (w : World) (h1 : Kd.C kL w A xs.length xs) (hl : xs.length ≤ 1048576) (hB : ∀ x ∈ xs, BX x) :
    Calls Try.prog 15 #[.slice A xs.length c] w fun e w' => ∃ g, e = .returned (.slice (some ⟨g, 0, none⟩) xs.length xs.length) ∧ (w.heap.size ≤ g ∧ Filled w' w.heap.size g xs.length xs.length (xs.map mRec)) ∧ Below w.heap.size w w' := by
  have hu := Try.underlying67
  have hu2 := Try.underlying49
  have HR := Aside0.mk h1
  have HN := Aside0.mk hl
  have HX := Aside0.mk hB
  clear h1 hB
  have HB := Aside0.mk (Below.refl w.heap.size w)
  go_enter Try.func15, Try.ntmps15
  go_wp2_with ((with_reducible refine gate_dst (N := 7) rfl ?_); refine make_row rfl (N := 7) rfl (t := 29) (e := 49) (n := xs.length) rfl rfl rfl Try.underlying29 infoRec (by have := HN.out; omega) (by have := HN.out; omega) ?_; intro g hg0 w1 cs0 hcs hbox hb; have HF := Aside0.mk (show Filled w1 w.heap.size g xs.length 0 (xs.map mRec) from ⟨cs0, hcs, hbox, fun j p hj => absurd hj (Nat.not_lt_zero j)⟩); have HG := Aside0.mk (Nat.le_trans (below_size HB.out) (Nat.le_of_eq hg0.symm)); have n0_ := Aside0.mk (below_step HB.out hb); clear HB hb hbox hcs hg0; have HB := n0_; clear n0_)
  go_loopg [4] xs.length (fun kr v4 w' => ∃ (i : Int), v4 = .int .i64 i ∧ Aside0 (0 ≤ i ∧ i + kr = xs.length) ∧ Aside0 (Filled w' w.heap.size g xs.length i.toNat (xs.map mRec)) ∧ Aside0 (Below w.heap.size w w'))
  case atStart => exact ⟨0, rfl, ⟨⟨Int.le_refl _, by omega⟩⟩, HF, HB⟩
  case round =>
    clear HB HF
    obtain ⟨i, rfl, HI, HF, HB⟩ := hrel
    by_cases hi : i < (xs.length : Int)
    · rcases gk with _ | gk1
      · exact absurd HI.out.2 (by omega)
      have hcd : decide (i < (xs.length : Int)) = true := decide_eq_true hi
      have hc0 : decide (0 ≤ i) = true := decide_eq_true HI.out.1
      have HI' := Aside0.mk hi
      have p0 := HI.out.1
      have p1 := hi
      clear hi
      have hlt : i.toNat < xs.length := by omega
      have hget : xs[i.toNat]? = some (rdRecL xs i) := by
        unfold rdRecL
        rw [List.getD_eq_getElem?_getD, List.getElem?_eq_getElem hlt]
        rfl
      have hgetm : (xs.map mRec)[i.toNat]? = some (mRec (rdRecL xs i)) := by rw [List.getElem?_map, hget]; rfl
      have B := HX.out _ (List.mem_of_getElem? hget)
      obtain ⟨ad, A5, A8, A9, A10, A14, A15, A16, c5, c8, c9, c10, c14, c15, c16, e, hr, hs, h5, h8, h9, h10, h14, h15, h16⟩ := atRecL HR.out i p0 p1
      subst e
      have HT := Aside0.mk (fun (W_ : World) (hb_ : Below w.heap.size w W_) => toRecorderR (rdRecL xs i).f0 (rdRecL xs i).f1 (rdRecL xs i).f3 (rdRecL xs i).f4 (rdRecL xs i).f6 (rdRecL xs i).f7 (rdRecL xs i).f13 (rdRecL xs i).f17 (rdRecL xs i).f2 (rdRecL xs i).f11 (rdRecL xs i).f12 (rdRecL xs i).f5 (rdRecL xs i).f8 (rdRecL xs i).f9 (rdRecL xs i).f10 (rdRecL xs i).f14 (rdRecL xs i).f15 (rdRecL xs i).f16 A5 A8 A9 A10 A14 A15 A16 c5 c8 c9 c10 c14 c15 c16 W_ (Kd.C_below h5.2 hb_) h5.1 B.1.1 (Kd.C_below h8.2 hb_) h8.1 B.1.2.1 (Kd.C_below h9.2 hb_) h9.1 B.1.2.2.1 (Kd.C_below h10.2 hb_) h10.1 B.1.2.2.2.1 (Kd.C_below h14.2 hb_) h14.1 B.1.2.2.2.2.1 (Kd.C_below h15.2 hb_) h15.1 B.1.2.2.2.2.2.1 (Kd.C_below h16.2 hb_) h16.1 B.1.2.2.2.2.2.2 B.2.1 B.2.2)
      replace hr := range_below hr HB.out
      have HRg := Aside0.mk hr
      have HSp := Aside0.mk hs
      have HM := Aside0.mk (And.intro hgetm hlt)
      clear B hr hs hget hgetm hlt h5 h8 h9 h10 h14 h15 h16
      go_wp2_with (first
        | ((with_reducible refine gate_load (t := 67) (p := 18) rfl ?_); refine load_range (ty := 67) (x := .tmp 18) (q := ad.add (i.toNat * 18)) (cs := [.int .i64 (rdRecL xs i).f0, .int .i64 (rdRecL xs i).f1, .bool (rdRecL xs i).f2, .int .i64 (rdRecL xs i).f3, .int .i64 (rdRecL xs i).f4, .slice A5 (rdRecL xs i).f5.length c5, .int .i64 (rdRecL xs i).f6, .int .i64 (rdRecL xs i).f7, .slice A8 (rdRecL xs i).f8.length c8, .slice A9 (rdRecL xs i).f9.length c9, .slice A10 (rdRecL xs i).f10.length c10, .bool (rdRecL xs i).f11, .bool (rdRecL xs i).f12, .int .i64 (rdRecL xs i).f13, .slice A14 (rdRecL xs i).f14.length c14, .slice A15 (rdRecL xs i).f15.length c15, .slice A16 (rdRecL xs i).f16.length c16, .int .i64 (rdRecL xs i).f17]) rfl rfl rfl HSp.out HRg.out Try.underlying67 rfl (by kernel_rfl) ?_)
        | (go_at_call 33; (with_reducible refine (HT.out _ HB.out).mono ?_); rintro e wn ⟨v5, v8, v9, v10, v14, v15, v16, rfl, hv, hb⟩; have HV := Aside0.mk (And.intro hv (And.intro (below_size HB.out) (show g < _ from by obtain ⟨_, _, q, _⟩ := HF.out; exact blk_lt q))); have n0_ := Aside0.mk (below_step HB.out hb); have n1_ := Aside0.mk (Filled.below HF.out hb); clear HB HF hb hv HRg; have HB := n0_; have HF := n1_; clear n0_ n1_)
        | ((with_reducible refine gate_store (t := 49) (p := 21) (v := .tmp 20) rfl ?_); obtain ⟨csA, hsA, hgA, hmA⟩ := HF.out; refine store_place (ty := 49) (t := 49) (g := g) (off := i.toNat * 18) (cs := [.int .i64 (rdRecL xs i).f0, .int .i64 (rdRecL xs i).f1, .bool (rdRecL xs i).f2, .int .i64 (rdRecL xs i).f3, .int .i64 (rdRecL xs i).f4, v5, .int .i64 (rdRecL xs i).f6, .int .i64 (rdRecL xs i).f7, v8, v9, v10, .bool (rdRecL xs i).f11, .bool (rdRecL xs i).f12, .int .i64 (rdRecL xs i).f13, v14, v15, v16, .int .i64 (rdRecL xs i).f17]) (old := csA) rfl rfl rfl rfl rfl hgA (by kernel_rfl) (by have := HM.out.2; simp only [List.length_cons, List.length_nil]; omega) (oneL18 (by simp only [List.all_cons, List.all_nil, (Kd.R_val HV.out.1.1).2, (Kd.R_val HV.out.1.2.1).2, (Kd.R_val HV.out.1.2.2.1).2, (Kd.R_val HV.out.1.2.2.2.1).2, (Kd.R_val HV.out.1.2.2.2.2.1).2, (Kd.R_val HV.out.1.2.2.2.2.2.1).2, (Kd.R_val HV.out.1.2.2.2.2.2.2).2, Bool.and_true]; rfl)) ?_; have n0_ := Aside0.mk (below_grow HB.out (grown_setCells g [.int .i64 (rdRecL xs i).f0, .int .i64 (rdRecL xs i).f1, .bool (rdRecL xs i).f2, .int .i64 (rdRecL xs i).f3, .int .i64 (rdRecL xs i).f4, v5, .int .i64 (rdRecL xs i).f6, .int .i64 (rdRecL xs i).f7, v8, v9, v10, .bool (rdRecL xs i).f11, .bool (rdRecL xs i).f12, .int .i64 (rdRecL xs i).f13, v14, v15, v16, .int .i64 (rdRecL xs i).f17] (i.toNat * 18) _) HG.out); have n1_ := Aside0.mk (Filled.store (c := [.int .i64 (rdRecL xs i).f0, .int .i64 (rdRecL xs i).f1, .bool (rdRecL xs i).f2, .int .i64 (rdRecL xs i).f3, .int .i64 (rdRecL xs i).f4, v5, .int .i64 (rdRecL xs i).f6, .int .i64 (rdRecL xs i).f7, v8, v9, v10, .bool (rdRecL xs i).f11, .bool (rdRecL xs i).f12, .int .i64 (rdRecL xs i).f13, v14, v15, v16, .int .i64 (rdRecL xs i).f17]) HF.out HM.out.2 rfl HM.out.1 (kI_mkM _ _ _ _ (R_to HV.out.1.1 HV.out.2.1 HV.out.2.2) (R_to HV.out.1.2.1 HV.out.2.1 HV.out.2.2) (R_to HV.out.1.2.2.1 HV.out.2.1 HV.out.2.2) (R_to HV.out.1.2.2.2.1 HV.out.2.1 HV.out.2.2) (R_to HV.out.1.2.2.2.2.1 HV.out.2.1 HV.out.2.2) (R_to HV.out.1.2.2.2.2.2.1 HV.out.2.1 HV.out.2.2) (R_to HV.out.1.2.2.2.2.2.2 HV.out.2.1 HV.out.2.2))); clear HB HF hsA hgA hmA; have HB := n0_; have HF := n1_; clear n0_ n1_))
      go_roundg gk1
      case measure => omega
      case rel => first | exact ⟨wrap64 (i + 1), rfl, ⟨by have := HI.out; have := HN.out; have := HI'.out; rw [wrapIn (by omega) (by omega)]; omega⟩, ⟨by rw [show (wrap64 (i + 1)).toNat = i.toNat + 1 by have := HI.out; have := HN.out; have := HI'.out; rw [wrapIn (by omega) (by omega)]; omega]; exact HF.out⟩, HB⟩ | exact ⟨i + 1, rfl, ⟨by have := HI.out; have := HI'.out; omega⟩, ⟨by rw [show (i + 1).toNat = i.toNat + 1 by have := HI.out; omega]; exact HF.out⟩, HB⟩
    · have hcd : decide (i < (xs.length : Int)) = false := decide_eq_false hi
      have HE := Aside0.mk (show i.toNat = xs.length by have := HI.out; omega)
      clear hi
      go_wp2
      go_ret
      exact ⟨g, rfl, ⟨HG.out, by rw [HE.out] at HF; exact HF.out⟩, HB.out⟩
def mFix (x : S72) : S54 := ⟨x.f0, x.f1⟩
theorem toFixS (xs : List S72) (hl : xs.length ≤ 1048576) (k : Nat) (hk : xs.length < k) : laws_toRecFixS.f k xs = some (xs.map mFix) := by
  unfold laws_toRecFixS.f
  rw [if_pos (by omega), if_pos (by rw [Int.toNat_natCast]; omega), Int.toNat_natCast]
  have key := loopInd xs.length (fun k i => laws_toRecFixS.l0 k xs (fill (xs.map mFix) z54 i) (i : Int) = some (xs.map mFix)) ?_ ?_ 0 k (Nat.zero_le _) (by omega)
  · rw [fill_zero, List.length_map] at key
    exact key
  · intro k
    simp only [laws_toRecFixS.l0]
    rw [if_neg (by omega)]
    have := fill_all (xs.map mFix) z54
    rw [List.length_map] at this
    rw [this]
  · intro k i hi ih
    simp only [laws_toRecFixS.l0]
    have hfl := fill_length (xs.map mFix) z54 i (by rw [List.length_map]; omega)
    rw [List.length_map] at hfl
    rw [if_pos (by omega), if_pos (by omega), wrapSucc hi (by omega)]
    unfold laws_toRecFix.f rd_T72
    rw [getDAt hi]
    simp only [Option.bind_some]
    rw [if_pos (by rw [hfl]; omega), Int.toNat_natCast]
    have hs := fill_set (xs.map mFix) z54 i (by rw [List.length_map]; omega)
    rw [List.getElem_map] at hs
    have e : (⟨xs[i].f0, xs[i].f1⟩ : S54) = mFix xs[i] := rfl
    rw [e, hs]
    exact ih
theorem toFixC (xs : List S72) (A : Option Addr) (c : Nat) (W : World) (hC : Kd.C k72 W A xs.length xs) (hc : xs.length ≤ c) (hl : xs.length ≤ 1048576) (g : Nat) (hg : g < W.heap.size) :
    Calls Try.prog 17 #[.slice A xs.length c] W fun e w' => ∃ v, e = .returned v ∧ Kd.R k54 54 w' W.heap.size (fun k => g < k) v (xs.map mFix) ∧ Below W.heap.size W w' :=
  (laws_toRecFixS.calls (xs.length + 1) A c xs (xs.map mFix) W hC hc (toFixS xs hl _ (by omega))).mono fun _ _ ⟨v, h1, h2, h3⟩ => ⟨v, h1, from_R h2 hg, h3⟩
set_option maxHeartbeats 8000000 in
set_option maxRecDepth 100000 in
theorem toWorldC (xs : List RecL) (ms : List S70) (fs : List S72) (A B C : Option Addr) (c d e : Nat) (w : World) (h1 : Kd.C kL w A xs.length xs) (hl : xs.length ≤ 1048576) (hB : ∀ x ∈ xs, BX x) (h2 : Kd.C k70 w B ms.length ms) (l2 : ms.length ≤ d) (m2 : ms.length ≤ 1048576) (f2 : ∀ m ∈ ms, m.f7.length ≤ 1048576)
    (h3 : Kd.C k72 w C fs.length fs) (l3 : fs.length ≤ e) (m3 : fs.length ≤ 1048576) :
    Calls Try.prog 6 #[.agg #[.slice A xs.length c, .slice B ms.length d, .slice C fs.length e]] w fun e w' => ∃ v1 v2 v3, e = .returned (.agg #[v1, v2, v3]) ∧ (Sl 49 kI w' (xs.map mRec) v1 ∧ Sl 52 k52 w' (ms.map mMsg) v2 ∧ Sl 54 k54 w' (fs.map mFix) v3) ∧ Below w.heap.size w w' := by
  have hu1 := Try.underlying33
  have hu3 := Try.underlying26
  have H := Aside0.mk (And.intro h1 (And.intro h2 h3))
  have HL := Aside0.mk (And.intro hl (And.intro l2 (And.intro m2 (And.intro f2 (And.intro l3 m3)))))
  have HX := Aside0.mk hB
  clear h1 h2 h3 hl l2 m2 f2 l3 m3 hB
  have HB := Aside0.mk (Below.refl w.heap.size w)
  have F1 := Aside0.mk trivial
  have F2 := Aside0.mk trivial
  have F3 := Aside0.mk trivial
  have BN := Aside0.mk trivial
  have BC := Aside0.mk trivial
  go_enter Try.func6, Try.ntmps6
  go_wp2_with (first
    | ((with_reducible refine gate_dst (N := 1) rfl ?_); refine box_event ?hg (N := 1) ?hd (cs := #[.slice A xs.length c, .slice B ms.length d, .slice C fs.length e]) (t := 26) ?hr ?_; (case hd => rfl); (case hg => rfl); (case hr => first | (go_simp; done) | (go_simp; rfl)); intro gp hg_ w1 hbox hb; have n_ := Aside0.mk (below_step HB.out hb); clear HB; have HB := n_; clear n_; have BP := Aside0.mk hbox; clear hb hbox hg_; have rp := blk_cell BP.out)
    | ((with_reducible refine gate_dst (N := 2) rfl ?_); refine box_event ?hg (N := 2) ?hd (cs := #[.slice none 0 0, .slice none 0 0, .slice none 0 0]) (t := 33) ?hr ?_; (case hd => rfl); (case hg => rfl); (case hr => first | (go_simp; done) | (go_simp; rfl)); intro gb hg_ w1 hbox hb; have lpb := Aside0.mk (Nat.lt_of_lt_of_le (blk_lt BP.out) (Nat.le_of_eq hg_.symm)); have geb := Aside0.mk (Nat.le_trans (below_size HB.out) (Nat.le_of_eq hg_.symm)); have n_ := Aside0.mk (below_step HB.out hb); clear HB; have HB := n_; clear n_; have n_ := Aside0.mk (blk_below BP.out hb); clear BP; have BP := n_; clear n_; clear BN; have BN := Aside0.mk hbox; clear hb hbox hg_ rp; have rp := blk_cell BP.out)
    | ((with_reducible refine gate_dst (N := 3) rfl ?_); refine box_event ?hg (N := 3) ?hd (cs := #[.slice none 0 0, .slice none 0 0, .slice none 0 0]) (t := 33) ?hr ?_; (case hd => rfl); (case hg => rfl); (case hr => first | (go_simp; done) | (go_simp; rfl)); intro gc hg_ w1 hbox hb; have lbc := Aside0.mk (Nat.lt_of_lt_of_le (blk_lt BN.out) (Nat.le_of_eq hg_.symm)); have gec := Aside0.mk (Nat.le_trans (below_size HB.out) (Nat.le_of_eq hg_.symm)); have n_ := Aside0.mk (below_step HB.out hb); clear HB; have HB := n_; clear n_; have n_ := Aside0.mk (blk_below BP.out hb); clear BP; have BP := n_; clear n_; have n_ := Aside0.mk (blk_below BN.out hb); clear BN; have BN := n_; clear n_; clear BC; have BC := Aside0.mk hbox; clear hb hbox hg_ rp; have rp := blk_cell BP.out)
    | ((with_reducible refine gate_store (t := 29) (p := 7) (v := .tmp 6) rfl ?_); refine store_part (ty := 29) (t := 33) (g := gc) (off := 0) (v := .slice (some ⟨g1, 0, none⟩) xs.length xs.length) (cs := [.slice (some ⟨g1, 0, none⟩) xs.length xs.length]) (old := #[.slice none 0 0, .slice none 0 0, .slice none 0 0]) (new := #[.slice (some ⟨g1, 0, none⟩) xs.length xs.length, .slice none 0 0, .slice none 0 0]) rfl rfl rfl rfl rfl rfl BC.out (by kernel_rfl) (Nat.le_of_ble_eq_true rfl) (oneL1 rfl) rfl ?_; intro w9 hbox hg; have n_ := Aside0.mk (below_grow HB.out hg gec.out); clear HB; have HB := n_; clear n_; have n_ := Aside0.mk (blk_grown BP.out hg (fun e_ => absurd (Option.some.inj e_) (Nat.ne_of_lt (Nat.lt_trans lpb.out lbc.out)))); clear BP; have BP := n_; clear n_; have n_ := Aside0.mk (blk_grown BN.out hg (fun e_ => absurd (Option.some.inj e_) (Nat.ne_of_lt lbc.out))); clear BN; have BN := n_; clear n_; (try (have n_ := Aside0.mk (Filled.grown F1.out hg lg1.out); clear F1; have F1 := n_; clear n_)); (try (have n_ := Aside0.mk (Kd.R_grown F2.out hg (fun k_ hk_ e_ => absurd (Option.some.inj e_) (Nat.ne_of_gt hk_))); clear F2; have F2 := n_; clear n_)); (try (have n_ := Aside0.mk (Kd.R_grown F3.out hg (fun k_ hk_ e_ => absurd (Option.some.inj e_) (Nat.ne_of_gt hk_))); clear F3; have F3 := n_; clear n_)); clear BC; have BC := Aside0.mk hbox; clear hbox hg; (try clear rp); have rp := blk_cell BP.out)
    | ((with_reducible refine gate_store (t := 30) (p := 11) (v := .tmp 10) rfl ?_); refine store_part (ty := 30) (t := 33) (g := gc) (off := 1) (v := v2) (cs := [v2]) (old := #[.slice (some ⟨g1, 0, none⟩) xs.length xs.length, .slice none 0 0, .slice none 0 0]) (new := #[.slice (some ⟨g1, 0, none⟩) xs.length xs.length, v2, .slice none 0 0]) rfl rfl rfl rfl rfl (Kd.R_val F2.out).1 BC.out (by kernel_rfl) (Nat.le_of_ble_eq_true rfl) (oneL1 (Kd.R_val F2.out).2) rfl ?_; intro w9 hbox hg; have n_ := Aside0.mk (below_grow HB.out hg gec.out); clear HB; have HB := n_; clear n_; have n_ := Aside0.mk (blk_grown BP.out hg (fun e_ => absurd (Option.some.inj e_) (Nat.ne_of_lt (Nat.lt_trans lpb.out lbc.out)))); clear BP; have BP := n_; clear n_; have n_ := Aside0.mk (blk_grown BN.out hg (fun e_ => absurd (Option.some.inj e_) (Nat.ne_of_lt lbc.out))); clear BN; have BN := n_; clear n_; (try (have n_ := Aside0.mk (Filled.grown F1.out hg lg1.out); clear F1; have F1 := n_; clear n_)); (try (have n_ := Aside0.mk (Kd.R_grown F2.out hg (fun k_ hk_ e_ => absurd (Option.some.inj e_) (Nat.ne_of_gt hk_))); clear F2; have F2 := n_; clear n_)); (try (have n_ := Aside0.mk (Kd.R_grown F3.out hg (fun k_ hk_ e_ => absurd (Option.some.inj e_) (Nat.ne_of_gt hk_))); clear F3; have F3 := n_; clear n_)); clear BC; have BC := Aside0.mk hbox; clear hbox hg; (try clear rp); have rp := blk_cell BP.out)
    | ((with_reducible refine gate_store (t := 31) (p := 15) (v := .tmp 14) rfl ?_); refine store_part (ty := 31) (t := 33) (g := gc) (off := 2) (v := v3) (cs := [v3]) (old := #[.slice (some ⟨g1, 0, none⟩) xs.length xs.length, v2, .slice none 0 0]) (new := #[.slice (some ⟨g1, 0, none⟩) xs.length xs.length, v2, v3]) rfl rfl rfl rfl rfl (Kd.R_val F3.out).1 BC.out (by kernel_rfl) (Nat.le_of_ble_eq_true rfl) (oneL1 (Kd.R_val F3.out).2) rfl ?_; intro w9 hbox hg; have n_ := Aside0.mk (below_grow HB.out hg gec.out); clear HB; have HB := n_; clear n_; have n_ := Aside0.mk (blk_grown BP.out hg (fun e_ => absurd (Option.some.inj e_) (Nat.ne_of_lt (Nat.lt_trans lpb.out lbc.out)))); clear BP; have BP := n_; clear n_; have n_ := Aside0.mk (blk_grown BN.out hg (fun e_ => absurd (Option.some.inj e_) (Nat.ne_of_lt lbc.out))); clear BN; have BN := n_; clear n_; (try (have n_ := Aside0.mk (Filled.grown F1.out hg lg1.out); clear F1; have F1 := n_; clear n_)); (try (have n_ := Aside0.mk (Kd.R_grown F2.out hg (fun k_ hk_ e_ => absurd (Option.some.inj e_) (Nat.ne_of_gt hk_))); clear F2; have F2 := n_; clear n_)); (try (have n_ := Aside0.mk (Kd.R_grown F3.out hg (fun k_ hk_ e_ => absurd (Option.some.inj e_) (Nat.ne_of_gt hk_))); clear F3; have F3 := n_; clear n_)); clear BC; have BC := Aside0.mk hbox; clear hbox hg; (try clear rp); have rp := blk_cell BP.out)
    | (((with_reducible refine gate_load (t := 33) (p := 3) rfl ?_); refine load_row (ty := 33) (t := 33) (g := gc) (cs := #[.slice (some ⟨g1, 0, none⟩) xs.length xs.length, v2, v3]) rfl rfl rfl BC.out Try.underlying33 rfl (by kernel_rfl) ?_))
    | ((with_reducible refine gate_store (t := 33) (p := 2) (v := .tmp 16) rfl ?_); refine store_row (ty := 33) (t := 33) (g := gb) (cells := #[.slice (some ⟨g1, 0, none⟩) xs.length xs.length, v2, v3]) (old := #[.slice none 0 0, .slice none 0 0, .slice none 0 0]) rfl rfl rfl rfl rfl BN.out (by kernel_rfl) rfl (by simp only [List.all_cons, List.all_nil, List.toList_toArray, (Kd.R_val F2.out).2, (Kd.R_val F3.out).2, Bool.and_true]; rfl) ?_; intro w9 hbox hg; have n_ := Aside0.mk (below_grow HB.out hg geb.out); clear HB; have HB := n_; clear n_; have n_ := Aside0.mk (Filled.grown F1.out hg (Nat.lt_trans lbc.out lg1.out)); clear F1; have F1 := n_; clear n_; have n_ := Aside0.mk (Kd.R_grown F2.out hg (fun k_ hk_ e_ => absurd (Option.some.inj e_) (Nat.ne_of_gt (Nat.lt_trans lbc.out hk_)))); clear F2; have F2 := n_; clear n_; have n_ := Aside0.mk (Kd.R_grown F3.out hg (fun k_ hk_ e_ => absurd (Option.some.inj e_) (Nat.ne_of_gt (Nat.lt_trans lbc.out hk_)))); clear F3; have F3 := n_; clear n_; clear BN; have BN := Aside0.mk hbox; clear hbox hg BC BP; (try clear rp))
    | (go_at_call 15; (with_reducible refine (toRecLSC xs A c _ (Kd.C_below H.out.1 HB.out) HL.out.1 HX.out).mono ?_); rintro e_ wn ⟨g1, rfl, hf, hb⟩; have lg1 := Aside0.mk (Nat.lt_of_lt_of_le (blk_lt BC.out) hf.1); have n_ := Aside0.mk (below_step HB.out hb); clear HB; have HB := n_; clear n_; (try (have n_ := Aside0.mk (blk_below BP.out hb); clear BP; have BP := n_; clear n_)); (try (have n_ := Aside0.mk (blk_below BN.out hb); clear BN; have BN := n_; clear n_)); (try (have n_ := Aside0.mk (blk_below BC.out hb); clear BC; have BC := n_; clear n_)); (try (have n_ := Aside0.mk (Filled.below F1.out hb); clear F1; have F1 := n_; clear n_)); (try (have n_ := Aside0.mk (Kd.R_below F2.out hb); clear F2; have F2 := n_; clear n_)); (try (have n_ := Aside0.mk (Kd.R_below F3.out hb); clear F3; have F3 := n_; clear n_)); (try clear rp); have rp := blk_cell BP.out; clear F1; have F1 := Aside0.mk hf.2; clear hf hb)
    | (go_at_call 16; (with_reducible refine (toMsgC ms B d _ (Kd.C_below H.out.2.1 HB.out) HL.out.2.1 HL.out.2.2.1 HL.out.2.2.2.1 gc (blk_lt BC.out)).mono ?_); rintro e_ wn ⟨v2, rfl, hf, hb⟩; replace hf := Kd.R_lower hf (below_size HB.out); have n_ := Aside0.mk (below_step HB.out hb); clear HB; have HB := n_; clear n_; (try (have n_ := Aside0.mk (blk_below BP.out hb); clear BP; have BP := n_; clear n_)); (try (have n_ := Aside0.mk (blk_below BN.out hb); clear BN; have BN := n_; clear n_)); (try (have n_ := Aside0.mk (blk_below BC.out hb); clear BC; have BC := n_; clear n_)); (try (have n_ := Aside0.mk (Filled.below F1.out hb); clear F1; have F1 := n_; clear n_)); (try (have n_ := Aside0.mk (Kd.R_below F2.out hb); clear F2; have F2 := n_; clear n_)); (try (have n_ := Aside0.mk (Kd.R_below F3.out hb); clear F3; have F3 := n_; clear n_)); (try clear rp); have rp := blk_cell BP.out; clear F2; have F2 := Aside0.mk hf; clear hf hb)
    | (go_at_call 17; (with_reducible refine (toFixC fs C e _ (Kd.C_below H.out.2.2 HB.out) HL.out.2.2.2.2.1 HL.out.2.2.2.2.2 gc (blk_lt BC.out)).mono ?_); rintro e_ wn ⟨v3, rfl, hf, hb⟩; replace hf := Kd.R_lower hf (below_size HB.out); have n_ := Aside0.mk (below_step HB.out hb); clear HB; have HB := n_; clear n_; (try (have n_ := Aside0.mk (blk_below BP.out hb); clear BP; have BP := n_; clear n_)); (try (have n_ := Aside0.mk (blk_below BN.out hb); clear BN; have BN := n_; clear n_)); (try (have n_ := Aside0.mk (blk_below BC.out hb); clear BC; have BC := n_; clear n_)); (try (have n_ := Aside0.mk (Filled.below F1.out hb); clear F1; have F1 := n_; clear n_)); (try (have n_ := Aside0.mk (Kd.R_below F2.out hb); clear F2; have F2 := n_; clear n_)); (try (have n_ := Aside0.mk (Kd.R_below F3.out hb); clear F3; have F3 := n_; clear n_)); (try clear rp); have rp := blk_cell BP.out; clear F3; have F3 := Aside0.mk hf; clear hf hb))
  exact bodyPost_ret (results_cell_row rfl _ _ gb 33 _ (0, 0) _ rfl BN.out Try.underlying33 rfl (by kernel_rfl)) rfl ⟨_, v2, v3, rfl, ⟨⟨some ⟨g1, 0, none⟩, xs.length, by rw [List.length_map], by rw [List.length_map]; exact Nat.le_refl _, Filled.reads F1.out (by rw [List.length_map]) (by have := HL.out.1; omega)⟩, Sl.of_R F2.out, Sl.of_R F3.out⟩, HB.out⟩

end Go.Proofs.Ytjkhlhopfaapmaa.QFnExactRecWorldOk
