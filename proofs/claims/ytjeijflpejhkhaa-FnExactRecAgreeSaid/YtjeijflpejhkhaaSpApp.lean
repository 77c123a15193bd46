/- Appending one row to another; a row's part. Any program; no condition. -/
import Derived.Test.YtjeijflpejhkhaaSpMore
namespace Go.Proofs.Ytjeijflpejhkhaa.Sp
open Go Go.RowKit
set_option linter.unusedVariables false
set_option linter.unusedSimpArgs false
/-- The cells of a row that is read. -/
structure Rdc (w : World) (sz : Nat) (A : Option Addr) (n : Nat) (cs : List Value) : Prop where
  len : cs.length = n * sz
  some_ : 0 < n → A = some (adr A)
  cell : ∀ j v, cs[j]? = some v → w.cell? ((adr A).add j) = some v
/-- What hangs on elements that lie somewhere. -/
def lels {α : Type} (D : Ty α) (ys : List α) (css : List (List Value)) : Asn := exP (fun _ : Unit => css.length = ys.length) (fun _ => els D ys css)
section
variable {P : Program} {w0 W : World} {L R : List Asn} {α : Type} {D : Ty α} {e sz bytes c c2 st : Nat} {A A2 : Option Addr} {xs ys : List α} {css : List (List Value)}
theorem run_append_none [hU : Und P st (.slice e)] [hE : Elt P e sz bytes] (v : Value) (n : Nat) (cs : List Value) (hown : W.ownsRow 0 e sz v n cs) (ty : TypeId) (c2 : Nat) : (Builtin.append_ #[st, st] ty #[v, .slice none 0 c2]).run P W = .ok v W := by
  obtain ⟨i, z, hi, hz, hzs, hs1, hb1, hs0, hb0⟩ := hE.spec
  rcases hown.2 with ⟨rfl, rfl⟩ | ⟨g, cap, cur, rfl, _, _, hnc, _⟩
  · simp [Builtin.append_, run_underlying hU.out, sizeOf, typeInfo, hi, Builtin.lenOf, Builtin.firstCells]
  · simp [Builtin.append_, run_underlying hU.out, sizeOf, typeInfo, hi, Builtin.lenOf, Builtin.firstCells, hnc, storeCells]
theorem lels_nil {D : Ty α} {F : Nat → Prop} : (lels D [] []).H W F := ⟨(), rfl, trivial⟩
theorem lels_take (css : List (List Value)) (xs : List α) (k : Nat) (hl : css.length = xs.length) : els D xs css = els D (xs.take k) (css.take k) ++ els D (xs.drop k) (css.drop k) := by
  rw [← els_append _ _ _ _ (by simp; omega), List.take_append_drop, List.take_append_drop]
theorem run_appendn [hU : Und P st (.slice e)] [hE : Elt P e sz bytes] (hm : Mem w0 W (own D e A c xs :: lels D ys css :: R)) (hs : sz = D.sz) (hr : Rdc W sz A2 ys.length css.flatten) (hlim : (xs.length + ys.length) * bytes ≤ 140737488355328) (ty : TypeId) :
    ∃ A1 c1 W1, (Builtin.append_ #[st, st] ty #[.slice A xs.length c, .slice A2 ys.length c2]).run P W = .ok (.slice A1 (xs ++ ys).length c1) W1 ∧ Mem w0 W1 (own D e A1 c1 (xs ++ ys) :: R) := by
  obtain ⟨i0, z, hi, hz, hzs, hs1, hb1, hs0, hb0⟩ := hE.spec
  subst hs
  obtain ⟨F, hF, ⟨_, _, F1, h1, ⟨css0, hl, G, h2, ⟨ho, h4⟩, h3⟩, F2, h5, ⟨_, hcl, h6⟩, _⟩, key⟩ := hm.two.split
  by_cases hy0 : ys.length = 0
  · have hys : ys = [] := List.eq_nil_of_length_eq_zero hy0
    subst hys
    have hrun : ∃ W1, (Builtin.append_ #[st, st] ty #[.slice A xs.length c, .slice A2 0 c2]).run P W = .ok (.slice A xs.length c) W1 ∧ W1 = W := by
      cases A2 with
      | none => exact ⟨W, run_append_none _ _ _ ho ty c2, rfl⟩
      | some a2 =>
        rcases ho.2 with ⟨he, h0⟩ | ⟨g, cap, cur, he, _, hh, hnc, _, hcs, _⟩
        · injection he with he1 he2 he3
          subst he1 he3
          exact ⟨W, by simp [Builtin.append_, run_underlying hU.out, sizeOf, typeInfo, hi, Builtin.lenOf, Builtin.firstCells, h0, loadCells, loadCellsFrom], rfl⟩
        · injection he with he1 he2 he3
          subst he1 he3
          exact ⟨W, by simp [Builtin.append_, run_underlying hU.out, sizeOf, typeInfo, hi, Builtin.lenOf, Builtin.firstCells, hnc, storeCells, loadCells, loadCellsFrom], rfl⟩
    obtain ⟨W1, hrun, rfl⟩ := hrun
    refine ⟨A, c, W1, by simpa using hrun, ?_⟩
    have hm2 := hm.perm (List.Perm.swap ..)
    simpa using hm2.drop
  have hsep6 : SepIn W F2 (els D ys css) := h6
  have hnl : css.flatten.length = ys.length * D.sz := hr.len
  have hlen : xs.length + ys.length ≤ 140737488355328 := Nat.le_trans (Nat.le_mul_of_pos_right _ hb0) hlim
  obtain ⟨v1, W1, hrun, hown, hgr, _, hat⟩ := run_append_own_at (P := P) (w := W) 0 st ty e i0 z D.sz bytes hU.out hi hz hs1 hb1 hzs (by omega) (.slice A xs.length c) xs.length css0.flatten ho (adr A2) ys.length c2 css.flatten hnl
    hr.cell (els_one hcl hsep6) (by simp only [maxLen]; omega) hlim (Nat.zero_le _)
  obtain ⟨hl1, hh⟩ := hown
  rcases hh with ⟨_, h0⟩ | ⟨g1, cap, cur, rfl, hb, hc, h7, h8, h9, h10⟩
  · omega
  have hA2 := hr.some_ (by omega)
  refine ⟨some ⟨g1, 0, none⟩, cap, W1, by rw [hA2]; simpa using hrun, ?_⟩
  have hgF : (Value.slice A xs.length c).ownBlock = some g1 ∨ g1 = W.heap.size := by
    rcases hat with hat | hat
    · exact .inl hat.symm
    · right; simpa [Value.ownBlock] using hat
  refine key W1 [own D e (some ⟨g1, 0, none⟩) cap (xs ++ ys)] hgr.os hgr.tape hgr.output hgr.size (fun k hk hn => hgr.block k hk (fun e => hn (h1 k (h2 k (h4 k e.symm))))) ?_
  refine ⟨_, fun _ h => h, ⟨css0 ++ css, by simp [hl, hcl], fun k => k = g1, fun k hk => ?_, ⟨?_, fun k hk => ?_⟩, ?_⟩, trivial⟩
  · subst hk
    rcases hgF with h | h
    · exact .inl (h1 _ (h2 _ (h4 _ h)))
    · exact .inr (by omega)
  · refine ⟨by simpa using hl1, .inr ⟨g1, cap, cur, by simp, Nat.zero_le _, hc, by simpa using h7, h8, h9, by simpa using h10⟩⟩
  · simpa [Value.ownBlock] using hk.symm
  · rw [els_append xs ys css0 css hl]
    have hnew : ∀ k, k < W.heap.size → ¬ G k → k ≠ g1 := fun k hk hnG e => by
      subst e
      rcases hgF with h | h
      · exact hnG (h4 _ h)
      · omega
    have hsame : ∀ k, k < W.heap.size → ¬ G k → W1.heap[k]? = W.heap[k]? := fun k hk hnG => hgr.block k hk (fun e => hnG (h4 k e.symm))
    refine SepIn.join (F := fun k => (F1 k ∧ ¬ G k) ∧ k < W.heap.size) (fun k hk => ⟨.inl (h1 k hk.1.1), hnew k hk.2 hk.1.2⟩) (h3.bound.move (fun k hk _ => hsame k hk.2 hk.1.2)) ?_
    have h11 := (h6.bound.move (fun k hk _ => hsame k hk.2 (fun hg => (h5 k hk.1).2 (h2 k hg))))
    exact h11.mono (fun k hk => ⟨⟨.inl (h5 k hk.1).1, hnew k hk.2 (fun hg => (h5 k hk.1).2 (h2 k hg))⟩, fun hf => (h5 k hk.1).2 hf.1.1⟩)
end
/-- A flat kind: the cells tell all. -/
class FlatO {α : Type} (D : Ty α) (enc : outParam (α → List Value)) : Prop where
  out : ∀ x W F, (D.A x (enc x)).H W F
instance : FlatO tInt (fun n => [.int .i64 n]) := ⟨fun x W F => ⟨(), rfl, trivial⟩⟩
instance : FlatO tStr (fun n => [.string n]) := ⟨fun x W F => ⟨(), rfl, trivial⟩⟩
instance : FlatO tSlot (fun x => encSlot x ()) := ⟨fun x W F => ⟨(), rfl, trivial⟩⟩
instance : FlatO tFix (fun x => encFix x ()) := ⟨fun x W F => ⟨(), rfl, trivial⟩⟩
class FlatR {α : Type} (D : TyR α) (enc : outParam (α → List Value)) : Prop where
  out : ∀ {w x c}, D.R w x c → c = enc x
instance : FlatR rInt (fun n => [.int .i64 n]) := ⟨by rintro w x c ⟨_, h, _⟩; exact h⟩
instance {b : Bool} : FlatR (rStr b) (fun n => [.string n]) := ⟨by rintro w x c ⟨_, h, _⟩; exact h⟩
instance {b : Bool} : FlatR (rSlot b) (fun x => encSlot x ()) := ⟨by rintro w x c ⟨_, h, _⟩; exact h⟩
instance {b : Bool} : FlatR (rFix b) (fun x => encFix x ()) := ⟨by rintro w x c ⟨_, h, _⟩; exact h⟩
section
variable {w0 W : World} {L R : List Asn} {α : Type} {D : Ty α} {DR : TyR α} {enc : α → List Value} {e sz c : Nat} {A A2 : Option Addr} {xs ys : List α}
theorem els_flat [h : FlatO D enc] (W : World) : ∀ (ys : List α) (ok : Nat → Prop), SepIn W ok (els D ys (ys.map enc))
  | [], _ => trivial
  | y :: ys, ok => ⟨fun _ => False, fun _ h => h.elim, h.out y W _, (els_flat W ys ok).mono (fun k hk => ⟨hk, fun h => h⟩)⟩
theorem Mem.flat [h : FlatO D enc] (ys : List α) (hm : Mem w0 W L) : Mem w0 W (lels D ys (ys.map enc) :: L) :=
  ⟨hm.below, fun _ => False, fun _ h => h.elim, ⟨(), by simp, els_flat W ys _⟩, hm.sep.mono (fun k hk => ⟨hk, fun h => h⟩)⟩
theorem ro_rdc [h : FlatR DR enc] (hr : RoRow DR W A ys) : Rdc W DR.sz A ys.length (ys.map enc).flatten := by
  have hlen : ∀ c ∈ ys.map enc, c.length = DR.sz := by
    intro c hc
    obtain ⟨y, hy, rfl⟩ := List.mem_map.1 hc
    obtain ⟨i, hi, rfl⟩ := List.getElem_of_mem hy
    obtain ⟨c, h1, _⟩ := hr.cell i hi
    rw [← h.out h1]; exact DR.len h1
  have hl := flat_length hlen
  rw [List.length_map] at hl
  refine ⟨hl, hr.some_, fun j v hv => ?_⟩
  have hj : j < ys.length * DR.sz := by rw [← hl]; exact (List.getElem?_eq_some_iff.1 hv).1
  have hz : 0 < DR.sz := by
    rcases Nat.eq_zero_or_pos DR.sz with e | e
    · rw [e] at hj; omega
    · exact e
  have hq : j / DR.sz < ys.length := (Nat.div_lt_iff_lt_mul hz).2 hj
  have hm := Nat.mod_lt j hz
  obtain ⟨c, h1, h2⟩ := hr.cell (j / DR.sz) hq
  have h3 := flat_get (css := ys.map enc) (j / DR.sz) (j % DR.sz) hlen (by simpa using hq) hm
  have e1 : j / DR.sz * DR.sz + j % DR.sz = j := by rw [Nat.mul_comm]; exact Nat.div_add_mod ..
  rw [e1] at h3
  rw [h3] at hv
  have := h2 (j % DR.sz) v (by rw [h.out h1]; simpa using hv)
  rwa [e1] at this
theorem RoRow.now (hm : Mem w0 W L) (h : RoRow DR w0 A ys) (hmv : ∀ x c, DR.R w0 x c → DR.R W x c) : RoRow DR W A ys :=
  ⟨h.max, h.some_, fun i hi => by obtain ⟨c, h1, h2⟩ := h.cell i hi; exact ⟨c, hmv _ _ h1, fun j v hv => hm.old (h2 j v hv)⟩⟩
theorem rdc_now {n : Nat} {cs : List Value} (hm : Mem w0 W L) (h : Rdc w0 sz A n cs) : Rdc W sz A n cs := ⟨h.len, h.some_, fun j v hv => hm.old (h.cell j v hv)⟩
end
section
variable {P : Program} {n : Nat} {ops : Array Oper} {Q : Exit → Act → World → Prop} {rest : List Oper} {E : Env} {w0 W : World} {L L' R R1 R2 : List Asn}
variable {d : Nat} {ty st : TypeId} {pos : String} {after : Array Edge} {x y : Operand} {e sz bytes c c2 l m : Nat} {A A2 : Option Addr} {α : Type} {D : Ty α} {DR : TyR α} {enc : α → List Value} {xs ys : List α} {css : List (List Value)}
/-- append(s, t...), what hangs on t's elements goes over. -/
theorem s_appn [hU : Und P st (.slice e)] [hE : Elt P e sz bytes] (hm : Mem w0 W L) (hx : ev E x = some (.slice A l c)) (hy : ev E y = some (.slice A2 m c2)) [hO : OwnE L A e c α D xs] (hl : l = xs.length) (hs : sz = D.sz) [hp : Pk L (own D e A c xs) R1] [hq : Pk R1 (lels D ys css) R2] (hr : Rdc W sz A2 ys.length css.flatten) (hml : m = ys.length)
    (hlim : (xs.length + ys.length) * bytes ≤ 140737488355328) (hn : Nat.blt d n = true) (h : ∀ A1 c1 W1, Mem w0 W1 (own D e A1 c1 (xs ++ ys) :: R2) → WL P n ops Q rest ((d, .slice A1 (xs ++ ys).length c1) :: E) W1) :
    WL P n ops Q (⟨some d, .call { callee := .builtin .append, args := #[x, y], argTypes := #[st, st] }, ty, pos, after, none⟩ :: rest) E W := by
  subst hl hml
  have hm2 : Mem w0 W (own D e A c xs :: lels D ys css :: R2) := (hm.pk (A := own D e A c xs)).perm (List.Perm.cons _ hq.out)
  obtain ⟨A1, c1, W1, hrun, hm3⟩ := run_appendn (P := P) (st := st) (c2 := c2) hm2 hs hr hlim ty
  exact s_run (W1 := W1) rfl rfl hn (fun a ha => by simp [execOp, ha.eval hx, ha.eval hy, resolve, invoke, builtin, hrun]) (h A1 c1 W1 hm3)
theorem mem_with (hm : Mem w0 W L) [hp : Pk L (own D e A c xs) R1] [hF : FlatO D enc] (ys : List α) : Mem w0 W (own D e A c xs :: lels D ys (ys.map enc) :: R1) := ((hm.pk (A := own D e A c xs)).flat (D := D) ys).perm (List.Perm.swap ..)
/-- append(s, t...), t a flat row that is read now. -/
theorem s_appw [hU : Und P st (.slice e)] [hE : Elt P e sz bytes] (hm : Mem w0 W L) (hx : ev E x = some (.slice A l c)) (hy : ev E y = some (.slice A2 m c2)) [hO : OwnE L A e c α D xs] (hl : l = xs.length) (hs : sz = D.sz) [hp : Pk L (own D e A c xs) R1] [hF : FlatO D enc] (hr : Rdc W sz A2 ys.length (ys.map enc).flatten) (hml : m = ys.length)
    (hlim : (xs.length + ys.length) * bytes ≤ 140737488355328) (hn : Nat.blt d n = true) (h : ∀ A1 c1 W1, Mem w0 W1 (own D e A1 c1 (xs ++ ys) :: R1) → WL P n ops Q rest ((d, .slice A1 (xs ++ ys).length c1) :: E) W1) :
    WL P n ops Q (⟨some d, .call { callee := .builtin .append, args := #[x, y], argTypes := #[st, st] }, ty, pos, after, none⟩ :: rest) E W := by
  subst hl hml
  obtain ⟨A1, c1, W1, hrun, hm3⟩ := run_appendn (P := P) (st := st) (c2 := c2) (mem_with (A := A) (D := D) (e := e) (c := c) (xs := xs) hm ys) hs hr hlim ty
  exact s_run (W1 := W1) rfl rfl hn (fun a ha => by simp [execOp, ha.eval hx, ha.eval hy, resolve, invoke, builtin, hrun]) (h A1 c1 W1 hm3)
/-- .. t a flat row that came in. -/
theorem s_appr [hU : Und P st (.slice e)] [hE : Elt P e sz bytes] (hm : Mem w0 W L) (hx : ev E x = some (.slice A l c)) (hy : ev E y = some (.slice A2 m c2)) [hO : OwnE L A e c α D xs] (hl : l = xs.length) [hR : RoAt L A2 α DR w0 ys] (hs : sz = D.sz) (hs2 : sz = DR.sz) [hp : Pk L (own D e A c xs) R1] [hF : FlatO D enc] [hG : FlatR DR enc] (hml : m = ys.length)
    (hlim : (xs.length + ys.length) * bytes ≤ 140737488355328) (hn : Nat.blt d n = true) (h : ∀ A1 c1 W1, Mem w0 W1 (own D e A1 c1 (xs ++ ys) :: R1) → WL P n ops Q rest ((d, .slice A1 (xs ++ ys).length c1) :: E) W1) :
    WL P n ops Q (⟨some d, .call { callee := .builtin .append, args := #[x, y], argTypes := #[st, st] }, ty, pos, after, none⟩ :: rest) E W := by
  have hr := hm.ro (A := A2) (D := DR)
  have h1 := rdc_now hm (ro_rdc hr)
  rw [← hs2] at h1
  exact s_appw hm hx hy hl hs h1 hml hlim hn h
/-- append(nil, t...): t a flat row that is read now. -/
theorem s_app0 (D : Ty α) [hU : Und P st (.slice e)] [hE : Elt P e sz bytes] (hm : Mem w0 W L) (hx : ev E x = some (.slice none 0 0)) (hy : ev E y = some (.slice A2 m c2)) (hs : sz = D.sz) [hF : FlatO D enc] (hr : Rdc W sz A2 ys.length (ys.map enc).flatten) (hml : m = ys.length)
    (hlim : ys.length * bytes ≤ 140737488355328) (hn : Nat.blt d n = true) (h : ∀ A1 c1 W1, Mem w0 W1 (own D e A1 c1 ys :: L) → WL P n ops Q rest ((d, .slice A1 ys.length c1) :: E) W1) :
    WL P n ops Q (⟨some d, .call { callee := .builtin .append, args := #[x, y], argTypes := #[st, st] }, ty, pos, after, none⟩ :: rest) E W :=
  s_appw (xs := []) (D := D) (A := none) (c := 0) (e := e) (hp := ⟨List.Perm.refl _⟩) (hO := ⟨trivial⟩) (hm.nil D e) hx hy rfl hs hr hml (by simpa using hlim) hn (fun A1 c1 W1 h1 => h A1 c1 W1 h1)
theorem s_app0r (D : Ty α) [hU : Und P st (.slice e)] [hE : Elt P e sz bytes] (hm : Mem w0 W L) (hx : ev E x = some (.slice none 0 0)) (hy : ev E y = some (.slice A2 m c2)) [hR : RoAt L A2 α DR w0 ys] (hs : sz = D.sz) (hs2 : sz = DR.sz) [hF : FlatO D enc] [hG : FlatR DR enc] (hml : m = ys.length)
    (hlim : ys.length * bytes ≤ 140737488355328) (hn : Nat.blt d n = true) (h : ∀ A1 c1 W1, Mem w0 W1 (own D e A1 c1 ys :: L) → WL P n ops Q rest ((d, .slice A1 ys.length c1) :: E) W1) :
    WL P n ops Q (⟨some d, .call { callee := .builtin .append, args := #[x, y], argTypes := #[st, st] }, ty, pos, after, none⟩ :: rest) E W := by
  have hr := hm.ro (A := A2) (D := DR)
  have h1 := rdc_now hm (ro_rdc hr)
  rw [← hs2] at h1
  exact s_app0 D hm hx hy hs h1 hml hlim hn h
end
end Go.Proofs.Ytjeijflpejhkhaa.Sp
