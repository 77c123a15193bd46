/- Walking over rows of the call's own: their elements read, written, appended. Any program; no condition. -/
import Derived.Test.YtjeijflpejhkhaaSpMem
import Derived.Deep.AppendLies
namespace Go.Proofs.Ytjeijflpejhkhaa.Sp
open Go Go.RowKit
set_option linter.unusedVariables false
set_option linter.unusedSimpArgs false

/-! ### lists of cells, element by element -/
theorem flat_length {sz : Nat} : ∀ {css : List (List Value)}, (∀ c ∈ css, c.length = sz) → css.flatten.length = css.length * sz
  | [], _ => by simp
  | c :: r, h => by
    rw [List.flatten_cons, List.length_append, h c (List.mem_cons_self ..), flat_length (fun x hx => h x (List.mem_cons_of_mem _ hx)), List.length_cons, Nat.add_mul]
    omega
theorem flat_get {sz : Nat} : ∀ {css : List (List Value)} (i j : Nat), (∀ c ∈ css, c.length = sz) → (hi : i < css.length) → j < sz → css.flatten[i * sz + j]? = (css[i])[j]?
  | [], i, j, _, hi, _ => by simp at hi
  | c :: r, 0, j, h, _, hj => by
    have hc := h c (List.mem_cons_self ..)
    rw [List.flatten_cons, Nat.zero_mul, Nat.zero_add, List.getElem?_append_left (by omega)]
    rfl
  | c :: r, i + 1, j, h, hi, hj => by
    have hc := h c (List.mem_cons_self ..)
    have e : (i + 1) * sz + j = sz + (i * sz + j) := by rw [Nat.add_mul]; omega
    rw [List.flatten_cons, e, List.getElem?_append_right (by omega), hc, Nat.add_sub_cancel_left]
    simpa using flat_get i j (fun x hx => h x (List.mem_cons_of_mem _ hx)) (by simpa using hi) hj
theorem flat_set {sz : Nat} : ∀ {css : List (List Value)} (i j : Nat) (v : Value), (∀ c ∈ css, c.length = sz) → (hi : i < css.length) → j < sz → css.flatten.set (i * sz + j) v = (css.set i ((css[i]).set j v)).flatten
  | [], i, j, v, _, hi, _ => by simp at hi
  | c :: r, 0, j, v, h, _, hj => by
    have hc := h c (List.mem_cons_self ..)
    rw [List.flatten_cons, Nat.zero_mul, Nat.zero_add, List.set_append_left _ _ (by omega)]
    rfl
  | c :: r, i + 1, j, v, h, hi, hj => by
    have hc := h c (List.mem_cons_self ..)
    have e : (i + 1) * sz + j = sz + (i * sz + j) := by rw [Nat.add_mul]; omega
    rw [List.flatten_cons, e, List.set_append_right _ _ (by omega), hc, Nat.add_sub_cancel_left, flat_set i j v (fun x hx => h x (List.mem_cons_of_mem _ hx)) (by simpa using hi) hj]
    rfl
section
variable {α : Type} {d : Ty α} {W : World}
theorem els_get : ∀ {xs : List α} {css : List (List Value)} {ok : Nat → Prop} (i : Nat) (hi : i < xs.length) (hc : i < css.length), SepIn W ok (els d xs css) → ∃ F, (d.A xs[i] css[i]).H W F
  | x :: xs, c :: css, ok, 0, _, _, ⟨F, _, h, _⟩ => ⟨F, h⟩
  | x :: xs, c :: css, ok, i + 1, hi, hc, ⟨F, _, _, h⟩ => by simpa using els_get i (by simpa using hi) (by simpa using hc) h
theorem els_len {xs : List α} {css : List (List Value)} {ok : Nat → Prop} (hl : css.length = xs.length) (h : SepIn W ok (els d xs css)) : ∀ c ∈ css, c.length = d.sz := by
  intro c hc
  obtain ⟨i, hi, rfl⟩ := List.getElem_of_mem hc
  obtain ⟨F, hF⟩ := els_get i (by omega) hi h
  exact d.len hF
theorem els_one {xs : List α} {css : List (List Value)} {ok : Nat → Prop} (hl : css.length = xs.length) (h : SepIn W ok (els d xs css)) : ∀ u ∈ css.flatten, u.oneCell' = true := by
  intro u hu
  obtain ⟨c, hc, hu⟩ := List.mem_flatten.1 hu
  obtain ⟨i, hi, rfl⟩ := List.getElem_of_mem hc
  obtain ⟨F, hF⟩ := els_get i (by omega) hi h
  exact d.one hF u hu
theorem els_append : ∀ (xs ys : List α) (css dss : List (List Value)), css.length = xs.length → els d (xs ++ ys) (css ++ dss) = els d xs css ++ els d ys dss
  | [], ys, [], dss, _ => rfl
  | x :: xs, ys, c :: css, dss, h => by
    simp only [List.cons_append, els]
    rw [els_append xs ys css dss (by simpa using h)]
/-- One element taken out. -/
theorem els_perm : ∀ (xs : List α) (css : List (List Value)) (i : Nat) (hi : i < xs.length) (hc : i < css.length), (els d xs css).Perm (d.A xs[i] css[i] :: els d (xs.eraseIdx i) (css.eraseIdx i))
  | x :: xs, c :: css, 0, _, _ => List.Perm.refl _
  | x :: xs, c :: css, i + 1, hi, hc => (List.Perm.cons _ (els_perm xs css i (by simpa using hi) (by simpa using hc))).trans (List.Perm.swap ..)
theorem erase_set {β : Type} (l : List β) (i : Nat) (b : β) : (l.set i b).eraseIdx i = l.eraseIdx i := by
  induction l generalizing i with
  | nil => rfl
  | cons a r ih => cases i with
    | zero => rfl
    | succ i => simp [ih]
/-- .. and laid back, turned. -/
theorem els_put (xs : List α) (css : List (List Value)) (i : Nat) (hi : i < xs.length) (hc : i < css.length) (x : α) (c : List Value) : (d.A x c :: els d (xs.eraseIdx i) (css.eraseIdx i)).Perm (els d (xs.set i x) (css.set i c)) := by
  have := els_perm (d := d) (xs.set i x) (css.set i c) i (by simpa using hi) (by simpa using hc)
  rw [erase_set, erase_set] at this
  simpa using this.symm
end

/-! ### what a row of the call's own tells -/
section
variable {α : Type} {d : Ty α} {e c : Nat} {A : Option Addr} {xs : List α} {w0 W W1 : World} {L L' R : List Asn}
theorem Mem.own [h : OwnAt L A c α d e xs] (hm : Mem w0 W L) : ∃ F, (own d e A c xs).H W F := by
  obtain ⟨R, hp⟩ := h.mem
  obtain ⟨F, _, h2, _⟩ := (hm.perm hp).sep
  exact ⟨F, h2⟩
theorem own_addr {F : Nat → Prop} (h : (own d e A c xs).H W F) (hl : 0 < xs.length) : A = some (adr A) ∧ ∃ g, adr A = ⟨g, 0, none⟩ ∧ F g := by
  obtain ⟨css, _, G, h1, ⟨⟨_, h2⟩, h4⟩, h3⟩ := h
  rcases h2 with ⟨_, h0⟩ | ⟨g, cap, cur, he, _⟩
  · omega
  · injection he with he
    subst he
    exact ⟨rfl, g, rfl, h1 g (h4 g rfl)⟩
theorem own_max {F : Nat → Prop} (h : (own d e A c xs).H W F) : xs.length ≤ 9223372036854775807 ∧ xs.length ≤ c := by
  obtain ⟨css, _, G, h1, ⟨⟨_, h2⟩, h4⟩, h3⟩ := h
  rcases h2 with ⟨he, h0⟩ | ⟨g, cap, cur, he, _, _, h5, h6, _⟩
  · injection he with _ _ e; omega
  · injection he with _ _ e; subst e; unfold maxLen at h6; omega
/-- One cell of element i. -/
theorem own_cell {F : Nat → Prop} (h : (own d e A c xs).H W F) (i : Int) (h0 : 0 ≤ i) (h1 : i < xs.length) {j : Nat} {v : Value} (hv : d.get (rd d xs i) j = some v) : W.cell? ((adr A).add (i.toNat * d.sz + j)) = some v := by
  obtain ⟨_, g, hg, _⟩ := own_addr h (by omega)
  have hA := (own_addr h (by omega)).1
  obtain ⟨css, hl, G, h2, ⟨ho, h4⟩, h3⟩ := h
  have hi : i.toNat < xs.length := by omega
  have hr : rd d xs i = xs[i.toNat] := by unfold rd; rw [List.getD_eq_getElem?_getD, List.getElem?_eq_getElem hi]; rfl
  obtain ⟨G2, h5⟩ := els_get i.toNat hi (by omega) h3
  rw [hr] at hv
  have h6 := d.get_ok h5 hv
  have hj : j < d.sz := by rw [← d.len h5]; exact (List.getElem?_eq_some_iff.1 h6).1
  have h7 := flat_get i.toNat j (els_len hl h3) (by omega) hj
  rw [hg]
  refine ho.cells (g := g) (by rw [hA, hg]; rfl) _ v ?_
  rw [h7]; exact h6
/-- One cell of element i is written. -/
theorem own_set {F : Nat → Prop} (h : (own d e A c xs).H W F) (i : Int) (h0 : 0 ≤ i) (h1 : i < xs.length) {j : Nat} {v : Value} {x' : α} (hv : d.set (rd d xs i) j v = some x') :
    ∃ g, adr A = ⟨g, 0, none⟩ ∧ F g ∧ (∃ u, W.cell? ⟨g, i.toNat * d.sz + j, none⟩ = some u) ∧ W.frozen? ⟨g, i.toNat * d.sz + j, none⟩ = false ∧ v.oneCell' = true ∧ W.grownBy (W.setCell ⟨g, i.toNat * d.sz + j, none⟩ v) (some g) ∧ (own d e A c (xs.set i.toNat x')).H (W.setCell ⟨g, i.toNat * d.sz + j, none⟩ v) F := by
  obtain ⟨hA, g, hg, hFg⟩ := own_addr h (by omega)
  obtain ⟨css, hl, G, h2, ⟨ho, h4⟩, h3⟩ := h
  rw [hg] at hA
  subst hA
  have hi : i.toNat < xs.length := by omega
  have hr : rd d xs i = xs[i.toNat] := by unfold rd; rw [List.getD_eq_getElem?_getD, List.getElem?_eq_getElem hi]; rfl
  rw [hr] at hv
  obtain ⟨K, k1, k2, k3⟩ := h3.perm (els_perm xs css i.toNat hi (by omega))
  obtain ⟨h5, hj, hone⟩ := d.set_ok k2 hv
  have hlen := els_len hl h3
  have hlt : i.toNat * d.sz + j < xs.length * d.sz := by
    have : (i.toNat + 1) * d.sz ≤ xs.length * d.sz := Nat.mul_le_mul_right _ hi
    rw [Nat.add_mul] at this
    omega
  obtain ⟨ho1, hgr⟩ := ho.stored (i.toNat * d.sz + j) v
  have hcell := ho.cellAt (i.toNat * d.sz + j) hlt
  refine ⟨g, hg, hFg, ⟨_, by rw [hcell]; exact List.getElem?_eq_getElem (by rw [flat_length hlen, hl]; exact hlt)⟩, ?_, hone, hgr, ?_⟩
  · rcases ho.2 with ⟨hh, _⟩ | ⟨g', cap, cur, hh, _, hc, _⟩
    · cases hh
    · injection hh with hh; injection hh with hh; injection hh with hh
      subst hh
      simp [World.frozen?, hc]
  · refine ⟨css.set i.toNat ((css[i.toNat]'(by omega)).set j v), by simp [hl], G, h2, ⟨?_, h4⟩, ?_⟩
    · rw [List.length_set, ← flat_set i.toNat j v hlen (by omega) hj]
      exact ho1
    · refine SepIn.perm (els_put xs css i.toNat hi (by omega) x' _) ?_
      have hGg : G g := h4 g rfl
      refine ⟨K, k1, ?_, ?_⟩
      · exact (d.A x' _).move (fun k hk _ => Below.heap_setCell _ _ _ k (fun e => (k1 k hk).2 (e ▸ hGg))) h5
      · exact k3.move (fun k hk _ => Below.heap_setCell _ _ _ k (fun e => hk.1.2 (e ▸ hGg)))
end

theorem rd_set {α : Type} {d : Ty α} {xs : List α} {i : Int} (h0 : 0 ≤ i) (h1 : i < xs.length) (x : α) : rd d (xs.set i.toNat x) i = x := by
  have : i.toNat < xs.length := by omega
  simp [rd, List.getD_eq_getElem?_getD, this]
theorem rd_set_ne {α : Type} {d : Ty α} {xs : List α} {i j : Nat} (h : i ≠ j) (x : α) : rd d (xs.set i x) (j : Int) = rd d xs j := by
  simp [rd, List.getD_eq_getElem?_getD, List.getElem?_set_ne h]
theorem rd_at {α : Type} {d : Ty α} {xs : List α} {i : Nat} (h : i < xs.length) : rd d xs (i : Int) = xs[i] := by
  simp [rd, List.getD_eq_getElem?_getD, h]
theorem set_same {α : Type} {d : Ty α} {xs : List α} {i : Nat} (h : i < xs.length) {x : α} (e : rd d xs (i : Int) = x) : xs.set (i : Int).toNat x = xs := by
  subst e
  rw [rd_at h, Int.toNat_natCast, List.set_getElem_self]
theorem rd_ext {α : Type} {d : Ty α} {xs ys : List α} (hl : xs.length = ys.length) (h : ∀ j : Nat, j < xs.length → rd d xs j = rd d ys j) : xs = ys := by
  refine List.ext_getElem hl (fun j h1 h2 => ?_)
  have := h j h1
  rwa [rd_at h1, rd_at h2] at this

/-! ### walking -/
/-- The address of cell j of element i. -/
def rp (A : Option Addr) (i : Int) (sz j : Nat) : Addr := (adr A).add (i.toNat * sz + j)
section
variable {P : Program} {n : Nat} {ops : Array Oper} {Q : Exit → Act → World → Prop} {rest : List Oper} {E : Env} {w0 W : World} {L L' R : List Asn}
variable {d : Nat} {ty pt st : TypeId} {pos : String} {after : Array Edge} {x y : Operand} {v : Value} {e sz j c l : Nat} {A : Option Addr} {i : Int} {k : IntKind} {α : Type} {D : Ty α} {xs : List α}
theorem p_indexo [hU : Und P st (.slice e)] [hS : Siz P e sz] [hO : OwnAt L A c α D e xs] (hm : Mem w0 W L) (hx : ev E x = some (.slice A l c)) (hl : l = xs.length) (hy : ev E y = some (.int k i)) (h0 : 0 ≤ i) (h1 : i < xs.length) : PV P E (.indexAddr st x y) (.pointer (some (rp A i sz 0))) := by
  obtain ⟨F, hF⟩ := hm.own (A := A) (c := c)
  exact p_index hx (own_addr hF (by omega)).1 hy h0 (by omega)
theorem p_fieldo {f q j' : Nat} [hF : FAt P st f q] (hx : ev E x = some (.pointer (some (rp A i sz j)))) (hj : j + q = j') : PV P E (.fieldAddr st x f) (.pointer (some (rp A i sz j'))) :=
  p_fieldr (j := i.toNat * sz + j) (c := q) (ad := adr A) (j' := i.toNat * sz + j') hx (by omega)
theorem p_loado [hO : OwnAt L A c α D e xs] [h1c : One P pt] (hx : ev E x = some (.pointer (some (rp A i sz j)))) (hs : sz = D.sz) (h0 : 0 ≤ i) (h1 : i < xs.length) (hv : D.get (rd D xs i) j = some v) : LV P E w0 L (.load pt x) v :=
  ⟨fun W hm n a ha dst ty pos after gd => by
    obtain ⟨F, hF⟩ := hm.own (A := A) (c := c)
    obtain ⟨u, hu, hu2⟩ := h1c.out
    subst hs
    have hc := own_cell hF i h0 h1 hv
    have hl : (loadVar pt ((adr A).add (i.toNat * D.sz + j))).run P W = .ok v W := by
      unfold loadVar isAgg
      cases u <;> simp_all [underlying, load, Sem.run]
    simp [execOp, ha.eval hx, Instr.loadAt, Instr.sureAddr, rp, hl]⟩
/-- A kind whose cells are told by its data alone. -/
class Flat {α : Type} (D : Ty α) (enc : outParam (α → List Value)) : Prop where out : ∀ {x c W F}, (D.A x c).H W F → c = enc x
theorem own_cells {enc : α → List Value} [hf : Flat D enc] {F : Nat → Prop} {W : World} (h : (own D e A c xs).H W F) (i : Int) (h0 : 0 ≤ i) (h1 : i < xs.length) : (enc (rd D xs i)).length = D.sz ∧ ∀ j v, (enc (rd D xs i))[j]? = some v → W.cell? ((adr A).add (i.toNat * D.sz + j)) = some v := by
  obtain ⟨_, g, hg, _⟩ := own_addr h (by omega)
  have hA := (own_addr h (by omega)).1
  obtain ⟨css, hl, G, h2, ⟨ho, h4⟩, h3⟩ := h
  have hi : i.toNat < xs.length := by omega
  have hr : rd D xs i = xs[i.toNat] := by unfold rd; rw [List.getD_eq_getElem?_getD, List.getElem?_eq_getElem hi]; rfl
  obtain ⟨G2, h5⟩ := els_get i.toNat hi (by omega) h3
  have h6 := hf.out h5
  have h7 := D.len h5
  rw [hr, ← h6]
  refine ⟨h7, fun j v hv => ?_⟩
  have hj : j < D.sz := by rw [← h7]; exact (List.getElem?_eq_some_iff.1 hv).1
  rw [hg]
  refine ho.cells (g := g) (by rw [hA, hg]; rfl) _ v ?_
  rw [flat_get i.toNat j (els_len hl h3) (by omega) hj]; exact hv
theorem own_addr0 {F : Nat → Prop} {W : World} (h : (own D e A c xs).H W F) (hl : 0 < xs.length) : ∃ g, adr A = ⟨g, 0, none⟩ := by
  obtain ⟨_, g, hg, _⟩ := own_addr h hl
  exact ⟨g, hg⟩
/-- A whole element. -/
theorem p_loadwo {m : Nat} {enc : α → List Value} [hO : OwnAt L A c α D e xs] [hA : Agg P pt m] [hf : Flat D enc] (hx : ev E x = some (.pointer (some (rp A i sz 0)))) (hs : sz = D.sz) (hm : m = D.sz) (h0 : 0 ≤ i) (h1 : i < xs.length) : LV P E w0 L (.load pt x) (.agg (enc (rd D xs i)).toArray) :=
  ⟨fun W hmem n a ha dst ty pos after gd => by
    obtain ⟨F, hF⟩ := hmem.own (A := A) (c := c)
    obtain ⟨u, hu, hu2, hi⟩ := hA.out
    subst hs hm
    obtain ⟨hl, hc⟩ := own_cells hF i h0 h1
    obtain ⟨g, hg⟩ := own_addr0 hF (by omega)
    have hr : W.rangeAt g (i.toNat * D.sz) (enc (rd D xs i)) := by
      intro j z hz
      have := hc j z hz
      rwa [hg, add_plain, Nat.zero_add] at this
    have h3 := run_loadVar_mid (P := P) W g (i.toNat * D.sz) pt _ u hr hu (by cases u <;> simp_all [TypeDesc.isRow]) (by rw [hi, hl])
    simp [execOp, ha.eval hx, Instr.loadAt, Instr.sureAddr, rp, hg, add_plain, h3]⟩
theorem s_storeo {x' : α} [hO : OwnAt L A c α D e xs] [hS : Siz P pt 1] (hm : Mem w0 W L) (hx : ev E x = some (.pointer (some (rp A i sz j)))) (hy : ev E y = some v) (hs : sz = D.sz) (h0 : 0 ≤ i) (h1 : i < xs.length) (hv : D.set (rd D xs i) j v = some x')
    [hr : Rp L (own D e A c xs) (own D e A c (xs.set i.toNat x')) L'] (h : ∀ W1, Mem w0 W1 L' → WL P n ops Q rest E W1) :
    WL P n ops Q (⟨none, .store pt x y, ty, pos, after, none⟩ :: rest) E W := by
  obtain ⟨F, hF⟩ := hm.own (A := A) (c := c)
  subst hs
  obtain ⟨g, hg, hFg, ⟨u, hu⟩, hfz, hone, hgr, hown⟩ := own_set hF i h0 h1 hv
  have ht : W.there g (i.toNat * D.sz + j) 1 := fun m hm1 => by
    obtain rfl : m = 0 := by omega
    exact ⟨by simp [hu], hfz⟩
  have hvc : v.cells.toList = [v] := by cases v <;> first | rfl | cases hone
  have hrun := run_store (P := P) W g (i.toNat * D.sz + j) pt v [v] hvc ht (by rw [hS.out]; rfl) (by simpa using hone)
  obtain ⟨R, p1, p2⟩ := hr.out
  refine s_act (W1 := W.setCells g (i.toNat * D.sz + j) [v]) rfl rfl (fun a ha => ?_) (h _ (Mem.perm (L := own D e A c (xs.set i.toNat x') :: R) ?_ p2.symm))
  · simp [execOp, ha.eval hx, ha.eval hy, Instr.storeAt, Instr.sureAddr, rp, hg, add_plain, hrun]
  · refine (hm.perm p1).turn1 (fun F2 hF2 hA => ?_)
    obtain ⟨g', hg', hFg', _, _, _, hgr', hown'⟩ := own_set hA i h0 h1 hv
    have : g' = g := by rw [hg] at hg'; injection hg' with h; exact h.symm
    subst this
    exact ⟨hgr'.os, hgr'.tape, hgr'.output, hgr'.size, fun k hk hn => hgr'.block k hk (fun e => hn (Option.some.inj e ▸ hFg')), (own D e A c _).mono (fun k hk => .inl hk) hown'⟩
/-- The element was written before: it is told anew. -/
theorem s_storeo2 {x1 x' : α} {zs : List α} [hO : OwnAt L A c α D e xs] [hS : Siz P pt 1] (hm : Mem w0 W L) (hx : ev E x = some (.pointer (some (rp A i sz j)))) (hxs : xs = zs.set i.toNat x1) (hy : ev E y = some v) (hs : sz = D.sz) (h0 : 0 ≤ i) (h1 : i < zs.length) (hv : D.set x1 j v = some x')
    [hr : Rp L (own D e A c xs) (own D e A c (zs.set i.toNat x')) L'] (h : ∀ W1, Mem w0 W1 L' → WL P n ops Q rest E W1) :
    WL P n ops Q (⟨none, .store pt x y, ty, pos, after, none⟩ :: rest) E W := by
  subst hxs
  have e2 : zs.set i.toNat x' = (zs.set i.toNat x1).set i.toNat x' := by rw [List.set_set]
  have hr2 : Rp L (own D e A c (zs.set i.toNat x1)) (own D e A c ((zs.set i.toNat x1).set i.toNat x')) L' := by rw [← e2]; exact hr
  exact s_storeo (x' := x') hm hx hy hs h0 (by simpa using h1) (by rw [rd_set h0 h1]; exact hv) h
theorem p_loado2 {x1 : α} {zs : List α} [hO : OwnAt L A c α D e xs] [h1c : One P pt] (hx : ev E x = some (.pointer (some (rp A i sz j)))) (hxs : xs = zs.set i.toNat x1) (hs : sz = D.sz) (h0 : 0 ≤ i) (h1 : i < zs.length) (hv : D.get x1 j = some v) : LV P E w0 L (.load pt x) v := by
  subst hxs
  exact p_loado (c := c) (xs := zs.set i.toNat x1) (D := D) hx hs h0 (by simpa using h1) (by rw [rd_set h0 h1]; exact hv)
end

/-! ### appending, making -/
/-- The cells ws are those of x, what hangs on them taken out of the list. -/
class MkIn {α : Type} (L : List Asn) (D : Ty α) (ws : List Value) (x : outParam α) (L' : outParam (List Asn)) : Prop where out : ∀ (W : World) (ok : Nat → Prop), SepIn W ok L → SepIn W ok (D.A x ws :: L')
/-- The row at A of elements of type e. -/
class OwnE (L : List Asn) (A : Option Addr) (e : Nat) (c : outParam Nat) (α : outParam Type) (d : outParam (Ty α)) (xs : outParam (List α)) : Prop where tr : True
instance OwnE.here {α : Type} {d : Ty α} {e : Nat} {A : Option Addr} {c : Nat} {xs : List α} {L : List Asn} : OwnE (own d e A c xs :: L) A e c α d xs := ⟨trivial⟩
instance (priority := low) OwnE.there {α : Type} {d : Ty α} {e : Nat} {A : Option Addr} {c : Nat} {xs : List α} {L : List Asn} {B : Asn} [h : OwnE L A e c α d xs] : OwnE (B :: L) A e c α d xs := ⟨trivial⟩
section
variable {w0 W : World} {L R : List Asn} {α : Type} {D : Ty α} {e c : Nat} {A : Option Addr} {xs : List α}
theorem Mem.two {A B : Asn} (h : Mem w0 W (A :: B :: L)) : Mem w0 W (exP (fun _ : Unit => True) (fun _ => [A, B]) :: L) := Mem.mkx () trivial h
theorem own_nil {F : Nat → Prop} (D : Ty α) (e : Nat) : (own D e none 0 []).H W F := ⟨[], rfl, fun _ => False, fun _ h => h.elim, ⟨⟨by simp, .inl ⟨rfl, rfl⟩⟩, fun k hk => by cases hk⟩, trivial⟩
/-- nil is a row. -/
theorem Mem.nil (h : Mem w0 W L) (D : Ty α) (e : Nat) : Mem w0 W (Sp.own D e none 0 [] :: L) := ⟨h.below, fun _ => False, fun _ h => h.elim, own_nil D e, h.sep.mono (fun k hk => ⟨hk, fun h => h⟩)⟩
theorem own_zero {F : Nat → Prop} (h : (own D e none c xs).H W F) : xs = [] ∧ c = 0 := by
  obtain ⟨css, _, G, h1, ⟨⟨_, h2⟩, h4⟩, h3⟩ := h
  rcases h2 with ⟨he, h0⟩ | ⟨g, cap, cur, he, _⟩
  · injection he with _ e1 e2; exact ⟨List.eq_nil_of_length_eq_zero h0, e2⟩
  · injection he with he; cases he
end
section
variable {P : Program} {n : Nat} {ops : Array Oper} {Q : Exit → Act → World → Prop} {rest : List Oper} {E : Env} {w0 W : World} {L L' R R1 R2 R3 : List Asn}
variable {d : Nat} {ty st : TypeId} {pos : String} {after : Array Edge} {x y : Operand} {e sz bytes c l g t : Nat} {A : Option Addr} {α : Type} {D : Ty α} {xs : List α} {x1 : α} {ws : List Value}
theorem run_append1 [hU : Und P st (.slice e)] [hE : Elt P e sz bytes] (hm : Mem w0 W (own D e A c xs :: D.A x1 ws :: R)) (hs : sz = D.sz) (g : Nat) (hg : W.heap[g]? = some (.cells ws.toArray e (0, 0))) (hlim : (xs.length + 1) * bytes ≤ 140737488355328) (ty : TypeId) :
    ∃ A1 c1 W1, (Builtin.append_ #[st, st] ty #[.slice A xs.length c, .slice (some ⟨g, 0, none⟩) 1 1]).run P W = .ok (.slice A1 (xs ++ [x1]).length c1) W1 ∧ Mem w0 W1 (own D e A1 c1 (xs ++ [x1]) :: R) := by
  obtain ⟨i0, z, hi, hz, hzs, hs1, hb1, hs0, hb0⟩ := hE.spec
  subst hs
  obtain ⟨F, hF, ⟨_, _, F1, h1, ⟨css, hl, G, h2, ⟨ho, h4⟩, h3⟩, F2, h5, h6, _⟩, key⟩ := hm.two.split
  have hws := D.len h6
  have hlen : xs.length + 1 ≤ 140737488355328 := Nat.le_trans (Nat.le_mul_of_pos_right _ hb0) hlim
  obtain ⟨v1, W1, hrun, hown, hgr, _, hat⟩ := run_append_own_at (P := P) (w := W) 0 st ty e i0 z D.sz bytes hU.out hi hz hs1 hb1 hzs (by omega) (.slice A xs.length c) xs.length css.flatten ho ⟨g, 0, none⟩ 1 1 ws (by rw [hws]; simp)
    (by simpa using World.news_of_block (cs := ws.toArray) (t := e) (fr := (0, 0)) hg) (D.one h6) (by simp only [maxLen]; omega) hlim (Nat.zero_le _)
  obtain ⟨hl1, hh⟩ := hown
  rcases hh with ⟨_, h0⟩ | ⟨g1, cap, cur, rfl, hb, hc, h7, h8, h9, h10⟩
  · omega
  refine ⟨some ⟨g1, 0, none⟩, cap, W1, by simpa using hrun, ?_⟩
  have hgF : (Value.slice A xs.length c).ownBlock = some g1 ∨ g1 = W.heap.size := by
    rcases hat with hat | hat
    · exact .inl hat.symm
    · right; simpa [Value.ownBlock] using hat
  refine key W1 [own D e (some ⟨g1, 0, none⟩) cap (xs ++ [x1])] hgr.os hgr.tape hgr.output hgr.size (fun k hk hn => hgr.block k hk (fun e => hn (h1 k (h2 k (h4 k e.symm))))) ?_
  refine ⟨_, fun _ h => h, ⟨css ++ [ws], by simp [hl], fun k => k = g1, fun k hk => ?_, ⟨?_, fun k hk => ?_⟩, ?_⟩, trivial⟩
  · subst hk
    rcases hgF with h | h
    · exact .inl (h1 _ (h2 _ (h4 _ h)))
    · exact .inr (by omega)
  · refine ⟨by simpa using hl1, .inr ⟨g1, cap, cur, by simp, Nat.zero_le _, hc, by simpa using h7, h8, h9, by simpa using h10⟩⟩
  · simpa [Value.ownBlock] using hk.symm
  · rw [els_append xs [x1] css [ws] hl]
    have hnew : ∀ k, k < W.heap.size → ¬ G k → k ≠ g1 := fun k hk hnG e => by
      subst e
      rcases hgF with h | h
      · exact hnG (h4 _ h)
      · omega
    have hsame : ∀ k, k < W.heap.size → ¬ G k → W1.heap[k]? = W.heap[k]? := fun k hk hnG => hgr.block k hk (fun e => hnG (h4 k e.symm))
    refine SepIn.join (F := fun k => (F1 k ∧ ¬ G k) ∧ k < W.heap.size) (fun k hk => ⟨.inl (h1 k hk.1.1), hnew k hk.2 hk.1.2⟩) (h3.bound.move (fun k hk _ => hsame k hk.2 hk.1.2)) ?_
    refine ⟨fun k => F2 k ∧ k < W.heap.size, fun k hk => ⟨⟨.inl (h5 k hk.1).1, hnew k hk.2 (fun hg => (h5 k hk.1).2 (h2 k hg))⟩, fun hf => (h5 k hk.1).2 hf.1.1⟩, ?_, trivial⟩
    exact (D.A x1 ws).move (fun k hk _ => hsame k hk.2 (fun hg => (h5 k hk.1).2 (h2 k hg))) ((D.A x1 ws).bound h6)
/-- append(s, x). -/
theorem s_append1 [hU : Und P st (.slice e)] [hE : Elt P e sz bytes] {t2 : Nat} (hm : Mem w0 W L) (hx : ev E x = some (.slice A l c)) (hy : ev E y = some (.slice (some ⟨g, 0, none⟩) 1 1)) [hO : OwnE L A e c α D xs] (hl : l = xs.length) (hs : sz = D.sz) [hB : BoxAt L g t2 ws] (ht : t2 = e) [hp : Pk L (own D e A c xs) R1] [hb : Pk R1 (box g t2 ws) R2] [hk : MkIn R2 D ws x1 R3]
    (hlim : (xs.length + 1) * bytes ≤ 140737488355328) (hn : Nat.blt d n = true) (h : ∀ A1 c1 W1, Mem w0 W1 (own D e A1 c1 (xs ++ [x1]) :: R3) → WL P n ops Q rest ((d, .slice A1 (xs ++ [x1]).length c1) :: E) W1) :
    WL P n ops Q (⟨some d, .call { callee := .builtin .append, args := #[x, y], argTypes := #[st, st] }, ty, pos, after, none⟩ :: rest) E W := by
  subst ht hl
  have hg := hm.heap (g := g)
  have hm2 : Mem w0 W (own D t2 A c xs :: D.A x1 ws :: R3) := by
    have h1 : Mem w0 W (box g t2 ws :: own D t2 A c xs :: R2) := (hm.pk (A := own D t2 A c xs)).perm ((List.Perm.cons _ hb.out).trans (List.Perm.swap _ _ _))
    have h2 : Mem w0 W (own D t2 A c xs :: R2) := h1.drop
    obtain ⟨hbel, F, f1, f2, f3⟩ := h2
    exact ⟨hbel, F, f1, f2, hk.out _ _ f3⟩
  obtain ⟨A1, c1, W1, hrun, hm3⟩ := run_append1 (P := P) (st := st) hm2 hs g hg hlim ty
  exact s_run (W1 := W1) rfl rfl hn (fun a ha => by simp [execOp, ha.eval hx, ha.eval hy, resolve, invoke, builtin, hrun]) (h A1 c1 W1 hm3)
end
end Go.Proofs.Ytjeijflpejhkhaa.Sp
