/- What an argument that reads as data holds, told by the kinds of its cells. Any program; no condition. -/
import Derived.Test.YtjeijflpejhkhaaSpRo
namespace Go.Proofs.Ytjeijflpejhkhaa.Sp
open Go Go.RowKit Go.ChangeShapes Go.WideShapes
set_option linter.unusedVariables false
set_option linter.unusedSimpArgs false
structure OpP (P : Program) (t sz : Nat) (R : World → List Value → Prop) : Prop where
  out : ∀ {H : Type} (enc : TypeId × Value → H) (w : World) (fuel : Nat) (cs : List Value) (x : DataW H × List MemPlace), DataW.trod enc P w 0 (fun _ => true) true fuel t cs = some x → R w cs
theorem OpP.imp {P : Program} {t sz : Nat} {R R' : World → List Value → Prop} (h : OpP P t sz R) (hi : ∀ w cs, R w cs → R' w cs) : OpP P t sz R' := ⟨fun enc w fuel cs x hx => hi _ _ (h.out enc w fuel cs x hx)⟩
theorem opInt {P : Program} {t : Nat} (ht : P.underlying t = some (.int .i64)) : OpP P t 1 (fun _ cs => ∃ n : Int, cs = [.int .i64 n]) := ⟨fun enc w fuel cs x hx => by
  obtain ⟨n, rfl, _, hw⟩ := DataW.trod_int ht hx
  exact ⟨n, rfl⟩⟩
theorem opBool {P : Program} {t : Nat} (ht : P.underlying t = some .bool) : OpP P t 1 (fun _ cs => ∃ b : Bool, cs = [.bool b]) := ⟨fun enc w fuel cs x hx => by
  obtain ⟨n, rfl, _⟩ := DataW.trod_bool ht hx
  exact ⟨n, rfl⟩⟩
theorem opStr {P : Program} {t : Nat} (ht : P.underlying t = some .string) : OpP P t 1 (fun _ cs => ∃ s : ByteArray, cs = [.string s] ∧ s.size ≤ maxLen) := ⟨fun enc w fuel cs x hx => by
  obtain ⟨n, rfl, _, hl⟩ := DataW.trod_string ht hx
  exact ⟨n, rfl, hl⟩⟩
theorem choose_list {α : Type} {P : Nat → α → Prop} : ∀ n, (∀ i, i < n → ∃ y, P i y) → ∃ ys : List α, ys.length = n ∧ ∀ i (h : i < ys.length), P i ys[i]
  | 0, _ => ⟨[], rfl, fun i h => by simp at h⟩
  | n + 1, h => by
    obtain ⟨ys, hl, hp⟩ := choose_list n (fun i hi => h i (by omega))
    obtain ⟨y, hy⟩ := h n (by omega)
    refine ⟨ys ++ [y], by simp [hl], fun i hi => ?_⟩
    rcases Nat.lt_or_ge i n with h1 | h1
    · rw [List.getElem_append_left (by omega)]; exact hp i (by omega)
    · have : i = n := by simp at hi; omega
      subst this
      rw [List.getElem_append_right (by omega)]
      simpa [hl] using hy
theorem opSlice {α : Type} {P : Program} {t e : Nat} {D : TyR α} (ht : P.underlying t = some (.slice e)) (hc : P.cellsOf e = D.sz) (he : OpP P e D.sz (fun w cs => ∃ x, D.R w x cs)) :
    OpP P t 1 (fun w cs => ∃ (xs : List α) (A : Option Addr) (c : Nat), cs = [.slice A xs.length c] ∧ RoRow D w A xs) := ⟨fun enc w fuel cs x hx => by
  rcases DataW.trod_slice ht hx with ⟨rfl, _⟩ | ⟨a, len, cap, elems, rest, n, _, rfl, _, _, hlc, hcm, hlen, hel, _, _⟩
  · exact ⟨[], none, 0, rfl, by simp, fun h => by simp at h, fun i h => by simp at h⟩
  · obtain ⟨ys, hyl, hys⟩ := choose_list (P := fun i y => ∃ c, w.cells? 0 (a.add (i * P.cellsOf e)) (P.cellsOf e) = some c ∧ D.R w y c) len (fun i hi => by
      have h1 := hel i hi
      rw [List.getElem?_eq_getElem (by omega : i < elems.length)] at h1
      obtain ⟨c, hc1, hc2⟩ := Option.bind_eq_some_iff.1 h1
      obtain ⟨y, hy1⟩ := he.out enc w n c _ hc2
      exact ⟨y, c, hc1, hy1⟩)
    have hml : len ≤ maxLen := Nat.le_trans hlc hcm
    refine ⟨ys, some a, cap, by rw [hyl], by unfold maxLen at hml; omega, fun _ => rfl, fun i hi => ?_⟩
    obtain ⟨c, hc1, hR⟩ := hys i hi
    obtain ⟨_, hcl, hcell⟩ := World.cells?_some hc1
    refine ⟨c, hR, fun j v hv => ?_⟩
    have hjl : j < P.cellsOf e := by rw [← hcl]; exact (List.getElem?_eq_some_iff.1 hv).1
    show w.cell? (a.add (i * D.sz + j)) = some v
    rw [← hc, ← addr_add_add, hcell j hjl]
    exact hv⟩
structure OpFs (P : Program) (fs : List Field) (off sz : Nat) (R : World → List Value → Prop) : Prop where
  out : ∀ {H : Type} (enc : TypeId × Value → H) (w : World) (n : Nat) (cs : List Value), cs.length = sz →
    (∀ (i : Nat) (f : Field), fs[i]? = some f → ∃ x, DataW.trod enc P w 0 (fun _ => true) true n f.type ((cs.drop (f.offset - off)).take (P.cellsOf f.type)) = some x) → R w cs
theorem opOne {P : Program} {f : Field} {off sz : Nat} {R : World → List Value → Prop} (ho : f.offset = off) (hc : P.cellsOf f.type = sz) (h : OpP P f.type sz R) : OpFs P [f] off sz R := ⟨fun enc w n cs hl hf => by
  obtain ⟨x, hx⟩ := hf 0 f rfl
  rw [ho, Nat.sub_self, List.drop_zero, hc, List.take_of_length_le (by omega)] at hx
  exact h.out enc w n cs x hx⟩
theorem opCons {P : Program} {f : Field} {fs : List Field} {off s1 s2 : Nat} {R1 R2 : World → List Value → Prop} (ho : f.offset = off) (hc : P.cellsOf f.type = s1) (h : OpP P f.type s1 R1) (hfs : fs.all (fun g => decide (off + s1 ≤ g.offset)) = true) (h2 : OpFs P fs (off + s1) s2 R2) :
    OpFs P (f :: fs) off (s1 + s2) (fun w cs => ∃ c1 c2, cs = c1 ++ c2 ∧ R1 w c1 ∧ R2 w c2) := ⟨fun enc w n cs hl hf => by
  obtain ⟨x, hx⟩ := hf 0 f rfl
  rw [ho, Nat.sub_self, List.drop_zero, hc] at hx
  refine ⟨cs.take s1, cs.drop s1, (List.take_append_drop _ _).symm, h.out enc w n _ x hx, h2.out enc w n (cs.drop s1) (by rw [List.length_drop]; omega) (fun i g hg => ?_)⟩
  obtain ⟨x, hx⟩ := hf (i + 1) g (by simpa using hg)
  have hge : off + s1 ≤ g.offset := of_decide_eq_true (List.all_eq_true.1 hfs g (List.mem_of_getElem? hg))
  refine ⟨x, ?_⟩
  rw [List.drop_drop]
  have : s1 + (g.offset - (off + s1)) = g.offset - off := by omega
  rw [this]
  exact hx⟩
theorem opStruct {P : Program} {t sz : Nat} {fs : Array Field} {R : World → List Value → Prop} (ht : P.underlying t = some (.struct fs)) (hc : P.cellsOf t = sz) (h : OpFs P fs.toList 0 sz R) : OpP P t sz R := ⟨fun enc w fuel cs x hx => by
  obtain ⟨xs, n, _, _, hcl, hxl, hf⟩ := DataW.trod_struct ht hx
  refine h.out enc w n cs (by omega) (fun i f hi => ?_)
  have hi' : fs[i]? = some f := by simpa using hi
  have hlt : i < xs.length := by rw [hxl]; exact (Array.getElem?_eq_some_iff.1 hi').1
  have h1 := hf i f hi'
  rw [List.getElem?_eq_getElem hlt] at h1
  exact ⟨xs[i], by rw [Nat.sub_zero]; exact h1⟩⟩
/-- A struct's value is its cells. -/
theorem agg_of {P : Program} {W : World} {r : Reach} {base : Nat} {t : TypeId} {fs : Array Field} {v : Value} (ht : P.underlying t = some (.struct fs)) (h : Value.okWide P W r base t v) {l : List Value} (hl : v.cells.toList = l) : v = .agg l.toArray := by
  unfold Value.okWide at h
  rw [ht] at h
  obtain ⟨cs, rfl, _⟩ := h
  subst hl
  simp [Value.cells]
end Go.Proofs.Ytjeijflpejhkhaa.Sp
