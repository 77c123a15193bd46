/- Rows of the call's own: made of zeros, an element written whole, an element laid open. Any program; no condition. -/
import Derived.Test.YtjeijflpejhkhaaSpRow
import Derived.Test.YtjeijflpejhkhaaSpData
namespace Go.Proofs.Ytjeijflpejhkhaa.Sp
open Go Go.RowKit
set_option linter.unusedVariables false
set_option linter.unusedSimpArgs false
theorem puts_app : ∀ (ws c r : List Value), ws.length = c.length → puts (c ++ r) 0 ws = ws ++ r
  | [], [], r, _ => rfl
  | w :: ws, a :: c, r, h => by simp only [List.cons_append, puts, List.set_cons_zero]; rw [puts_cons, puts_app ws c r (by simpa using h)]
theorem puts_skip : ∀ (c r ws : List Value) (o : Nat), puts (c ++ r) (c.length + o) ws = c ++ puts r o ws
  | [], r, ws, o => by simp
  | a :: c, r, ws, o => by
    have : (a :: c).length + o = (c.length + o) + 1 := by simp; omega
    rw [this, List.cons_append, puts_cons, puts_skip c r ws o]; rfl
theorem flat_puts {sz : Nat} : ∀ (css : List (List Value)) (i : Nat) (ws : List Value), (∀ c ∈ css, c.length = sz) → i < css.length → ws.length = sz → puts css.flatten (i * sz) ws = (css.set i ws).flatten
  | c :: r, 0, ws, h, _, hw => by
    rw [Nat.zero_mul, List.flatten_cons, puts_app ws c _ (by rw [hw, h c (List.mem_cons_self ..)])]; rfl
  | c :: r, i + 1, ws, h, hi, hw => by
    have hc := h c (List.mem_cons_self ..)
    have : (i + 1) * sz = c.length + i * sz := by rw [Nat.add_mul, hc]; omega
    rw [this, List.flatten_cons, puts_skip, flat_puts r i ws (fun x hx => h x (List.mem_cons_of_mem _ hx)) (by simpa using hi) hw]; rfl
theorem put_part {cs : List Value} : ∀ (ws : List Value) (css1 css2 : List Value) (j : Nat), j + ws.length ≤ cs.length → puts (css1 ++ cs ++ css2) (css1.length + j) ws = css1 ++ puts cs j ws ++ css2 := by
  intro ws
  induction ws generalizing cs with
  | nil => intros; rfl
  | cons w r ih =>
    intro c1 c2 j hj
    simp only [puts]
    have hj' : j < cs.length := by simp at hj; omega
    have e : (c1 ++ cs ++ c2).set (c1.length + j) w = c1 ++ cs.set j w ++ c2 := by
      rw [List.append_assoc, List.set_append_right _ _ (by omega), Nat.add_sub_cancel_left, List.set_append_left _ _ hj', List.append_assoc]
    rw [e, Nat.add_assoc, ih c1 c2 (j + 1) (by simp at hj ⊢; omega)]
theorem flat_part {sz : Nat} : ∀ (css : List (List Value)) (i j : Nat) (ws : List Value), (∀ c ∈ css, c.length = sz) → (hi : i < css.length) → j + ws.length ≤ sz → puts css.flatten (i * sz + j) ws = (css.set i (puts css[i] j ws)).flatten
  | c :: r, 0, j, ws, h, _, hw => by
    have hc := h c (List.mem_cons_self ..)
    have := put_part (cs := c) ws [] r.flatten j (by omega)
    simp only [List.nil_append, List.length_nil, Nat.zero_add] at this
    rw [Nat.zero_mul, Nat.zero_add, List.flatten_cons, this]; rfl
  | c :: r, i + 1, j, ws, h, hi, hw => by
    have hc := h c (List.mem_cons_self ..)
    have : (i + 1) * sz + j = c.length + (i * sz + j) := by rw [Nat.add_mul, hc]; omega
    rw [this, List.flatten_cons, puts_skip, flat_part r i j ws (fun x hx => h x (List.mem_cons_of_mem _ hx)) (by simpa using hi) hw]; rfl
theorem puts_len : ∀ (ws cs : List Value) (j : Nat), (puts cs j ws).length = cs.length
  | [], _, _ => rfl
  | w :: r, cs, j => by simp only [puts]; rw [puts_len]; simp
theorem owns_puts {e sz n cap g : Nat} : ∀ (ws : List Value) (j : Nat) (W : World) (xs : List Value), W.ownsRow 0 e sz (.slice (some ⟨g, 0, none⟩) n cap) n xs → (W.setCells g j ws).ownsRow 0 e sz (.slice (some ⟨g, 0, none⟩) n cap) n (puts xs j ws)
  | [], _, _, _, h => h
  | w :: r, j, W, xs, h => owns_puts r (j + 1) _ _ (h.stored j w).1
theorem heap_setCells (g : Nat) : ∀ (ws : List Value) (j : Nat) (W : World) (k : Nat), k ≠ g → (W.setCells g j ws).heap[k]? = W.heap[k]?
  | [], _, _, _, _ => rfl
  | w :: r, j, W, k, h => (heap_setCells g r (j + 1) _ k h).trans (Below.heap_setCell _ _ _ k (fun e => h e))

/-! ### one element laid open -/
section
variable {α : Type} {D : Ty α} {e c : Nat} {A : Option Addr} {xs : List α} {w0 W : World} {L L' R : List Asn}
/-- A row but for what hangs on element i, whose cells are cs. -/
def hol (D : Ty α) (e : Nat) (A : Option Addr) (c : Nat) (xs : List α) (i : Nat) (cs : List Value) : Asn :=
  exP (fun css : List (List Value) => css.length = xs.length ∧ i < xs.length ∧ css[i]? = some cs ∧ (∀ c ∈ css, c.length = D.sz) ∧ ∀ u ∈ cs, u.oneCell' = true) (fun css => row e D.sz A xs.length c css.flatten :: els D (xs.eraseIdx i) (css.eraseIdx i))
class HolAt (L : List Asn) (A : Option Addr) (c : outParam Nat) (α : outParam Type) (D : outParam (Ty α)) (e : outParam Nat) (xs : outParam (List α)) (i : outParam Nat) (cs : outParam (List Value)) : Prop where mem : ∃ R, L.Perm (hol D e A c xs i cs :: R)
instance HolAt.here {i : Nat} {cs : List Value} : HolAt (hol D e A c xs i cs :: L) A c α D e xs i cs := ⟨L, List.Perm.refl _⟩
instance (priority := low) HolAt.there {i : Nat} {cs : List Value} {B : Asn} [h : HolAt L A c α D e xs i cs] : HolAt (B :: L) A c α D e xs i cs := ⟨by
  obtain ⟨R, h⟩ := h.mem
  exact ⟨B :: R, (List.Perm.cons B h).trans (List.Perm.swap _ B R)⟩⟩
theorem opn_ (h : Mem w0 W (own D e A c xs :: L)) (i : Nat) (hi : i < xs.length) : ∃ cs, Mem w0 W (hol D e A c xs i cs :: D.A xs[i] cs :: L) := by
  obtain ⟨css, hl, h⟩ := h.ex
  have hel : Mem w0 W (row e D.sz A xs.length c css.flatten :: D.A xs[i] (css[i]'(by omega)) :: (els D (xs.eraseIdx i) (css.eraseIdx i) ++ L)) :=
    h.perm (List.Perm.cons _ ((els_perm xs css i hi (by omega)).append_right L))
  have hs : ∀ c ∈ css, c.length = D.sz := by
    obtain ⟨F, _, _, h3⟩ := h.sep
    obtain ⟨G, _, h4, _⟩ := SepIn.append h3
    exact els_len hl h4
  have hone : ∀ u ∈ css[i]'(by omega), u.oneCell' = true := by
    obtain ⟨F, _, _, G, _, h3, _⟩ := hel.sep
    exact D.one h3
  refine ⟨css[i]'(by omega), Mem.mkx css ⟨hl, hi, List.getElem?_eq_getElem (by omega), hs, hone⟩ ?_⟩
  refine hel.perm (List.Perm.cons _ ?_)
  exact (List.perm_middle (a := D.A xs[i] (css[i]'(by omega))) (l₁ := els D (xs.eraseIdx i) (css.eraseIdx i)) (l₂ := L)).symm
theorem els_put2 : ∀ (xs : List α) (css : List (List Value)) (i : Nat) (hi : i < xs.length) (hc : i < css.length) (x : α), (D.A x css[i] :: els D (xs.eraseIdx i) (css.eraseIdx i)).Perm (els D (xs.set i x) css) := by
  intro xs css i hi hc x
  have := els_put (d := D) xs css i hi hc x css[i]
  rwa [List.set_getElem_self] at this
theorem cls_ {i : Nat} {cs : List Value} {x : α} (h : Mem w0 W (hol D e A c xs i cs :: D.A x cs :: L)) : Mem w0 W (own D e A c (xs.set i x) :: L) := by
  obtain ⟨css, ⟨hl, hi, hc, hs, hone⟩, h⟩ := h.ex
  have hci : css[i]'(by omega) = cs := by rw [List.getElem?_eq_getElem (by omega)] at hc; exact Option.some.inj hc
  refine Mem.mkx css (by simpa using hl) ?_
  rw [List.length_set]
  refine h.perm (List.Perm.cons _ ?_)
  refine (List.perm_middle (a := D.A x cs) (l₁ := els D (xs.eraseIdx i) (css.eraseIdx i)) (l₂ := L)).trans ?_
  have := els_put2 (D := D) xs css i hi (by omega) x
  rw [hci] at this
  exact this.append_right L
/-- Where the hole's cells lie. -/
theorem hol_at {i : Nat} {cs : List Value} {F : Nat → Prop} (h : (hol D e A c xs i cs).H W F) : ∃ g, A = some ⟨g, 0, none⟩ ∧ F g ∧ cs.length = D.sz ∧ (∀ j v, cs[j]? = some v → W.cell? ⟨g, i * D.sz + j, none⟩ = some v) ∧ (∀ j, W.frozen? ⟨g, j, none⟩ = false) ∧ i < xs.length := by
  obtain ⟨css, ⟨hl, hi, hc, hs, hone⟩, G, h1, ⟨ho, h4⟩, h3⟩ := h
  have hci : css[i]'(by omega) = cs := by rw [List.getElem?_eq_getElem (by omega)] at hc; exact Option.some.inj hc
  rcases ho.2 with ⟨_, h0⟩ | ⟨g, cap, cur, he, hb, hh, _⟩
  · omega
  injection he with he
  subst he
  have hcs : cs.length = D.sz := by rw [← hci]; exact hs _ (List.getElem_mem ..)
  refine ⟨g, rfl, h1 g (h4 g rfl), hcs, fun j v hv => ?_, fun j => ?_, hi⟩
  · have hj : j < D.sz := by rw [← hcs]; exact (List.getElem?_eq_some_iff.1 hv).1
    have := ho.cells (g := g) rfl (i * D.sz + j) v (by rw [flat_get i j hs (by omega) hj, hci]; exact hv)
    rwa [add_plain, Nat.zero_add] at this
  · simp [World.frozen?, hh]
theorem hol_put {i j : Nat} {cs ws : List Value} {F : Nat → Prop} (h : (hol D e A c xs i cs).H W F) (hj : j + ws.length ≤ cs.length) (h1 : ∀ u ∈ ws, u.oneCell' = true) {g : Nat} (hA : A = some ⟨g, 0, none⟩) : (hol D e A c xs i (puts cs j ws)).H (W.setCells g (i * D.sz + j) ws) F := by
  subst hA
  obtain ⟨css, ⟨hl, hi, hc, hs, hone⟩, G, g1, ⟨ho, h4⟩, h3⟩ := h
  have hci : css[i]'(by omega) = cs := by rw [List.getElem?_eq_getElem (by omega)] at hc; exact Option.some.inj hc
  have hcs : cs.length = D.sz := by rw [← hci]; exact hs _ (List.getElem_mem ..)
  have hone2 : ∀ (ws cs : List Value) (j : Nat), (∀ u ∈ cs, u.oneCell' = true) → (∀ u ∈ ws, u.oneCell' = true) → ∀ u ∈ puts cs j ws, u.oneCell' = true := by
    intro ws
    induction ws with
    | nil => intro cs j h _; exact h
    | cons w r ih =>
      intro cs j h h2
      refine ih _ _ (fun u hu => ?_) (fun u hu => h2 u (List.mem_cons_of_mem _ hu))
      rcases List.mem_or_eq_of_mem_set hu with hu | hu
      · exact h u hu
      · subst hu; exact h2 _ (List.mem_cons_self ..)
  have hfl := flat_part css i j ws hs (by omega) (by omega)
  rw [hci] at hfl
  refine ⟨css.set i (puts cs j ws), ⟨by simpa using hl, hi, by simp [hl, hi], fun c hc => ?_, hone2 ws cs j hone h1⟩, G, g1, ⟨?_, h4⟩, ?_⟩
  · rcases List.mem_or_eq_of_mem_set hc with hc | hc
    · exact hs c hc
    · rw [hc, puts_len, hcs]
  · rw [← hfl]
    exact owns_puts ws _ W _ ho
  · rw [erase_set]
    exact h3.move (fun k hk _ => heap_setCells g ws _ W k (fun e => hk.2 (by subst e; exact h4 _ rfl)))
theorem Mem.hol {i : Nat} {cs : List Value} [h : HolAt L A c α D e xs i cs] (hm : Mem w0 W L) : ∃ F, (Sp.hol D e A c xs i cs).H W F := by
  obtain ⟨R, hp⟩ := h.mem
  obtain ⟨F, _, h2, _⟩ := (hm.perm hp).sep
  exact ⟨F, h2⟩
end

/-! ### walking -/
section
variable {P : Program} {n : Nat} {ops : Array Oper} {Q : Exit → Act → World → Prop} {rest : List Oper} {E : Env} {w0 W : World} {L L' R R1 R2 : List Asn}
variable {d : Nat} {ty pt st : TypeId} {pos : String} {after : Array Edge} {x y : Operand} {v : Value} {e sz j c l q m bytes : Nat} {A : Option Addr} {i : Int} {k k' : IntKind} {α : Type} {D : Ty α} {xs : List α} {cs cs' ws zs : List Value}
theorem p_indexh [hU : Und P st (.slice e)] [hS : Siz P e sz] [hO : HolAt L A c α D e xs q cs] (hm : Mem w0 W L) (hx : ev E x = some (.slice A l c)) (hl : l = xs.length) (hy : ev E y = some (.int k i)) (h0 : 0 ≤ i) (h1 : i < xs.length) : PV P E (.indexAddr st x y) (.pointer (some (rp A i sz 0))) := by
  obtain ⟨F, hF⟩ := hm.hol (A := A)
  obtain ⟨g, hA, _⟩ := hol_at hF
  subst hA
  exact p_index (ad := adr (some ⟨g, 0, none⟩)) hx rfl hy h0 (by omega)
/-- One cell of the element that is open. -/
theorem p_loadh [hO : HolAt L A c α D e xs q cs] [h1c : One P pt] [hv : Nth cs j v] (hx : ev E x = some (.pointer (some (rp A i sz j)))) (hs : sz = D.sz) (hi : i = q) : LV P E w0 L (.load pt x) v :=
  ⟨fun W hm n a ha dst ty pos after gd => by
    obtain ⟨F, hF⟩ := hm.hol (A := A)
    obtain ⟨g, hA, _, hl, hc, _⟩ := hol_at hF
    obtain ⟨u, hu, hu2⟩ := h1c.out
    subst hs hA hi
    have hcell := hc j v hv.out
    have hl : (loadVar pt (⟨g, q * D.sz + j, none⟩ : Addr)).run P W = .ok v W := by
      unfold loadVar isAgg
      cases u <;> simp_all [underlying, load, Sem.run]
    simp [execOp, ha.eval hx, Instr.loadAt, Instr.sureAddr, rp, adr, add_plain, hl]⟩
theorem p_loadsh [hO : HolAt L A c α D e xs q cs] [hA : Agg P pt m] [hv : Sub cs j m ws] (hx : ev E x = some (.pointer (some (rp A i sz j)))) (hs : sz = D.sz) (hi : i = q) : LV P E w0 L (.load pt x) (.agg ws.toArray) :=
  ⟨fun W hm n a ha dst ty pos after gd => by
    obtain ⟨F, hF⟩ := hm.hol (A := A)
    obtain ⟨g, hAe, _, hl, hc, _⟩ := hol_at hF
    obtain ⟨u, hu, hu2, hinf⟩ := hA.out
    subst hs hAe hi
    obtain ⟨h1, h2⟩ := hv.out
    have hr : W.rangeAt g (q * D.sz + j) ws := by
      intro i z hz
      rw [← h1, List.getElem?_take] at hz
      split at hz
      · rw [List.getElem?_drop] at hz
        rw [Nat.add_assoc]
        exact hc _ _ hz
      · cases hz
    have hl2 : ws.length = m := by rw [← h1]; simp; omega
    have := run_loadVar_mid (P := P) W g (q * D.sz + j) pt ws u hr hu (by cases u <;> simp_all [TypeDesc.isRow]) (by rw [hinf, hl2])
    simp [execOp, ha.eval hx, Instr.loadAt, Instr.sureAddr, rp, adr, add_plain, this]⟩
theorem s_storeh [hO : HolAt L A c α D e xs q cs] [hS : Siz P pt m] (hm : Mem w0 W L) (hx : ev E x = some (.pointer (some (rp A i sz j)))) (hy : ev E y = some v) (hs : sz = D.sz) (hi : i = q) [hv : Cel v ws] (hl : ws.length = m) (h1 : ws.all (·.oneCell') = true)
    [hp : Pts cs j ws cs'] [hr : Rp L (hol D e A c xs q cs) (hol D e A c xs q cs') L'] (h : ∀ W1, Mem w0 W1 L' → WL P n ops Q rest E W1) :
    WL P n ops Q (⟨none, .store pt x y, ty, pos, after, none⟩ :: rest) E W := by
  obtain ⟨F, hF⟩ := hm.hol (A := A)
  obtain ⟨g, hA, _, hlen, hc, hfz, _⟩ := hol_at hF
  subst hs hi
  obtain ⟨e1, e2⟩ := hp.out
  have hone : ∀ u ∈ ws, u.oneCell' = true := by simpa [List.all_eq_true] using h1
  have ht : W.there g (q * D.sz + j) ws.length := fun j2 hj2 => by
    have hlt : j + j2 < cs.length := by omega
    refine ⟨?_, hfz _⟩
    rw [Nat.add_assoc, hc (j + j2) _ (List.getElem?_eq_getElem hlt)]; simp
  have hrun := run_store (P := P) W g (q * D.sz + j) pt v ws hv.out ht (by rw [hS.out, hl]) hone
  obtain ⟨R, p1, p2⟩ := hr.out
  refine s_act (W1 := W.setCells g (q * D.sz + j) ws) rfl rfl (fun a ha => ?_) (h _ (Mem.perm (L := hol D e A c xs q cs' :: R) ?_ p2.symm))
  · simp [execOp, ha.eval hx, ha.eval hy, Instr.storeAt, Instr.sureAddr, rp, hA, adr, add_plain, hrun]
  · refine (hm.perm p1).turn1 (fun F2 hF2 hH => ?_)
    have h3 := hol_put hH e2 hone hA
    rw [e1] at h3
    have hgr := grown_setCells g ws (q * D.sz + j) W
    obtain ⟨g', hA', hFg', _⟩ := hol_at hH
    have : g' = g := by rw [hA] at hA'; injection hA' with h; injection h with h; exact h.symm
    subst this
    exact ⟨hgr.os, hgr.tape, hgr.output, hgr.size, fun k hk hn => hgr.block k hk (fun e => hn (Option.some.inj e ▸ hFg')), (hol D e A c xs q cs').mono (fun k hk => .inl hk) h3⟩
/-- An element is written whole. -/
theorem s_storew {x1 : α} [hO : OwnAt L A c α D e xs] [hS : Siz P pt m] (hm : Mem w0 W L) (hx : ev E x = some (.pointer (some (rp A i sz 0)))) (hy : ev E y = some v) (hs : sz = D.sz) (h0 : 0 ≤ i) (h1 : i < xs.length) [hv : Cel v ws] (hl : D.sz = m)
    [hp : Pk L (own D e A c xs) R1] [hk : MkIn R1 D ws x1 R2] (h : ∀ W1, Mem w0 W1 (own D e A c (xs.set i.toNat x1) :: R2) → WL P n ops Q rest E W1) :
    WL P n ops Q (⟨none, .store pt x y, ty, pos, after, none⟩ :: rest) E W := by
  subst hs
  have hi : i.toNat < xs.length := by omega
  obtain ⟨cs, hm2⟩ := opn_ (hm.pk (A := own D e A c xs)) i.toNat hi
  have hm3 : Mem w0 W (hol D e A c xs i.toNat cs :: R1) := by
    have := hm2.perm (List.Perm.swap _ _ _)
    exact this.drop
  have hm4 : Mem w0 W (hol D e A c xs i.toNat cs :: D.A x1 ws :: R2) := by
    obtain ⟨hb, F, f1, f2, f3⟩ := hm3
    exact ⟨hb, F, f1, f2, hk.out _ _ f3⟩
  have hwl : ws.length = D.sz ∧ ∀ u ∈ ws, u.oneCell' = true := by
    obtain ⟨F, _, _, G, _, h3, _⟩ := hm4.sep
    exact ⟨D.len h3, D.one h3⟩
  obtain ⟨F, hF⟩ : ∃ F, (hol D e A c xs i.toNat cs).H W F := ⟨_, hm3.sep.choose_spec.2.1⟩
  obtain ⟨g, hA, _, hlen, hc, hfz, _⟩ := hol_at hF
  have ht : W.there g (i.toNat * D.sz + 0) ws.length := fun j2 hj2 => by
    have hlt : 0 + j2 < cs.length := by omega
    refine ⟨?_, hfz _⟩
    rw [Nat.add_assoc, hc (0 + j2) _ (List.getElem?_eq_getElem hlt)]; simp
  have hrun := run_store (P := P) W g (i.toNat * D.sz + 0) pt v ws hv.out ht (by rw [hS.out, hwl.1, hl]) hwl.2
  have hpw : puts cs 0 ws = ws := by
    have := puts_app ws cs [] (by rw [hwl.1, hlen])
    simpa using this
  have hm5 : Mem w0 (W.setCells g (i.toNat * D.sz + 0) ws) (hol D e A c xs i.toNat ws :: D.A x1 ws :: R2) := by
    refine hm4.turn1 (fun F2 hF2 hH => ?_)
    have h3 := hol_put (j := 0) hH (by omega) hwl.2 hA
    rw [hpw] at h3
    have hgr := grown_setCells g ws (i.toNat * D.sz + 0) W
    obtain ⟨g', hA', hFg', _⟩ := hol_at hH
    have : g' = g := by rw [hA] at hA'; injection hA' with h; injection h with h; exact h.symm
    subst this
    exact ⟨hgr.os, hgr.tape, hgr.output, hgr.size, fun k hk hn => hgr.block k hk (fun e => hn (Option.some.inj e ▸ hFg')), (hol D e A c xs i.toNat ws).mono (fun k hk => .inl hk) h3⟩
  refine s_act (W1 := W.setCells g (i.toNat * D.sz + 0) ws) rfl rfl (fun a ha => ?_) (h _ (cls_ hm5))
  simp only [Nat.add_zero] at hrun ⊢
  simp [execOp, ha.eval hx, ha.eval hy, Instr.storeAt, Instr.sureAddr, rp, hA, adr, add_plain, hrun]
/-- A kind's zero. -/
class ZD {α : Type} (D : Ty α) (zs : List Value) : Prop where out : ∀ W F, (D.A D.z zs).H W F
theorem made_flat (zs : List Value) (n : Nat) (hz : 0 < zs.length) : (madeCells zs.toArray (n * zs.length)).toList = (List.replicate n zs).flatten := by
  refine List.ext_getElem? (fun j => ?_)
  by_cases hj : j < n * zs.length
  · have hq : j / zs.length < n := (Nat.div_lt_iff_lt_mul hz).2 hj
    have hr := Nat.mod_lt j hz
    have := flat_get (sz := zs.length) (css := List.replicate n zs) (j / zs.length) (j % zs.length) (fun c hc => by rw [List.eq_of_mem_replicate hc]) (by simpa using hq) hr
    rw [Nat.mul_comm, Nat.div_add_mod] at this
    rw [this]
    simp [madeCells, hj, List.getElem?_eq_getElem hr]
  · have h1 : (List.replicate n zs).flatten.length = n * zs.length := by simp
    rw [List.getElem?_eq_none (by simp [madeCells]; omega), List.getElem?_eq_none (by omega)]
theorem els_zero {D : Ty α} (hz : ∀ W F, (D.A D.z zs).H W F) (W : World) : ∀ n (ok : Nat → Prop), SepIn W ok (els D (List.replicate n D.z) (List.replicate n zs))
  | 0, ok => trivial
  | n + 1, ok => ⟨fun _ => False, fun _ h => h.elim, hz _ _, (els_zero hz W n ok).mono (fun k hk => ⟨hk, fun h => h⟩)⟩
/-- make(t, l). -/
theorem s_make (D : Ty α) [hU : Und P st (.slice e)] [hE : Elt P e sz bytes] [hz : Zer P e zs] [hD : ZD D zs] (hm : Mem w0 W L) (hx : ev E x = some (.int k l)) (hy : ev E y = some (.int k' l)) (hs : sz = D.sz) (hlim : bytes * l ≤ 281474976710656) (hn : Nat.blt d n = true)
    (h : ∀ A1 W1, Mem w0 W1 (own D e A1 l (List.replicate l D.z) :: L) → WL P n ops Q rest ((d, .slice A1 l l) :: E) W1) :
    WL P n ops Q (⟨some d, .makeSlice st x y, ty, pos, after, none⟩ :: rest) E W := by
  obtain ⟨i0, z, hi, hzz, hzs, hs1, hb1, hs0, hb0⟩ := hE.spec
  obtain ⟨i0', z', hi', hzz', hzc⟩ := hz.out
  rw [hi] at hi'; cases hi'
  rw [hzz] at hzz'; cases hzz'
  subst hs hb1
  have hzl : zs.length = D.sz := by rw [← hzc]; simpa using hzs
  have hml : l ≤ maxLen := by
    have : l ≤ i0.bytes * l := Nat.le_mul_of_pos_left _ hb0
    simp only [maxLen]; omega
  obtain ⟨W1, hrun, hown, hgr⟩ := run_make_full (P := P) W W.heap.size st e i0 z D.sz hU.out hi hzz hs1 k k' l hlim hml (Nat.le_refl _)
  have hzc2 : z.cells = zs.toArray := by rw [← hzc]
  rw [hzc2, ← hzl, made_flat zs l (by omega), hzl] at hown
  refine s_run (W1 := W1) rfl rfl hn (fun a ha => by simp [execOp, ha.eval hx, ha.eval hy, hrun]) (h (some ⟨W.heap.size, 0, none⟩) W1 ?_)
  refine hm.add ⟨hgr.os, hgr.tape, hgr.output, hgr.size, fun g hg => hgr.block g hg (by simp)⟩ ?_
  refine ⟨List.replicate l zs, by simp, fun k => k = W.heap.size, fun k hk => by omega, ⟨?_, fun k hk => ?_⟩, els_zero hD.out W1 l _⟩
  · have := hown
    rw [List.length_replicate]
    obtain ⟨o1, o2⟩ := this
    refine ⟨o1, ?_⟩
    rcases o2 with o2 | ⟨g, cap, cur, he, hb, hh⟩
    · exact .inl o2
    · exact .inr ⟨g, cap, cur, he, Nat.zero_le _, hh⟩
  · simpa [Value.ownBlock] using hk.symm
end
end Go.Proofs.Ytjeijflpejhkhaa.Sp
