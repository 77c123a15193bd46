/- What an argument that reads as data holds, told by kinds: whole numbers, bools, strings, slices and structs of these. Any program; no condition. -/
import Derived.Test.YtjkhlhopfaapmaaWWords
import Derived.ChangeArms
namespace Go.Proofs.Ytjkhlhopfaapmaa.Op
open Go.RowKit Go.Proofs.YtjkhlhopfaapmaaW.PrintWords

structure Opens {α : Type} (P : Program) (t : TypeId) (d : Kd α) (wf : α → Prop) : Prop where
  out : ∀ {H : Type} (enc : TypeId × Value → H) (w : World) (fuel : Nat) (cs : List Value) (x : DataW H × List MemPlace),
    DataW.trod enc P w 0 (fun _ => true) true fuel t cs = some x → ∃ y, d.K w y cs ∧ wf y

theorem Opens.imp {α : Type} {P : Program} {t : TypeId} {d : Kd α} {wf wf' : α → Prop} (h : Opens P t d wf) (hi : ∀ y, wf y → wf' y) : Opens P t d wf' := by
  refine ⟨?_⟩
  intro H enc w fuel cs x hx
  obtain ⟨y, h1, h2⟩ := h.out enc w fuel cs x hx
  exact ⟨y, h1, hi y h2⟩

theorem opens_int {P : Program} {t : TypeId} (ht : P.underlying t = some (.int .i64)) : Opens P t (Kd.int .i64) (fun n => (Lit.int .i64 n).wf = true) := by
  refine ⟨?_⟩
  intro H enc w fuel cs x hx
  obtain ⟨n, rfl, _, hw⟩ := DataW.trod_int ht hx
  exact ⟨n, rfl, hw⟩

theorem opens_bool {P : Program} {t : TypeId} (ht : P.underlying t = some .bool) : Opens P t Kd.bool (fun _ => True) := by
  refine ⟨?_⟩
  intro H enc w fuel cs x hx
  obtain ⟨n, rfl, _⟩ := DataW.trod_bool ht hx
  exact ⟨n, rfl, trivial⟩

theorem opens_string {P : Program} {t : TypeId} (ht : P.underlying t = some .string) : Opens P t Kd.string (fun s => s.size ≤ maxLen) := by
  refine ⟨?_⟩
  intro H enc w fuel cs x hx
  obtain ⟨n, rfl, _, hl⟩ := DataW.trod_string ht hx
  exact ⟨n, rfl, hl⟩

theorem choose_list {α : Type} {P : Nat → α → Prop} : ∀ n, (∀ i, i < n → ∃ y, P i y) → ∃ ys : List α, ys.length = n ∧ ∀ i y, ys[i]? = some y → P i y
  | 0, _ => ⟨[], rfl, fun i y h => by simp at h⟩
  | n + 1, h => by
    obtain ⟨ys, hl, hp⟩ := choose_list n (fun i hi => h i (by omega))
    obtain ⟨y, hy⟩ := h n (by omega)
    refine ⟨ys ++ [y], by simp [hl], fun i z hz => ?_⟩
    rcases Nat.lt_or_ge i n with hi | hi
    · rw [List.getElem?_append_left (by omega)] at hz
      exact hp i z hz
    · rw [List.getElem?_append_right (by omega)] at hz
      have h0 : i - ys.length = 0 := by
        rcases Nat.eq_zero_or_pos (i - ys.length) with h | h
        · exact h
        · rw [List.getElem?_eq_none (by simp; omega)] at hz; cases hz
      rw [h0] at hz
      have hin : i = n := by omega
      simp at hz
      subst hz hin
      exact hy

theorem addr_add_add (a : Addr) (m n : Nat) : (a.add m).add n = a.add (m + n) := by
  unfold Addr.add
  by_cases hm : m = 0
  · subst hm; simp
  · by_cases hn : n = 0
    · subst hn; simp [hm]
    · have : ¬ (m + n = 0) := by omega
      simp [hm, hn, Nat.add_assoc]

theorem opens_slice {α : Type} {P : Program} {t e : TypeId} {d : Kd α} {wf : α → Prop} (ht : P.underlying t = some (.slice e)) (hc : P.cellsOf e = d.sz) (he : Opens P e d wf) :
    Opens P t (Kd.slice e d) (fun xs => xs.length ≤ maxLen ∧ ∀ x ∈ xs, wf x) := by
  refine ⟨?_⟩
  intro H enc w fuel cs x hx
  rcases DataW.trod_slice ht hx with ⟨rfl, _⟩ | ⟨a, len, cap, elems, rest, n, _, rfl, _, _, hlc, hcm, hlen, hel, _, _⟩
  · exact ⟨[], ⟨none, 0, rfl, Nat.le_refl _, Kd.C_nil _ _⟩, by simp, fun x h => by simp at h⟩
  · obtain ⟨ys, hyl, hys⟩ := choose_list (α := α) (P := fun i y => (∃ c, w.cells? 0 (a.add (i * P.cellsOf e)) (P.cellsOf e) = some c ∧ d.K w y c) ∧ wf y) len (fun i hi => by
      have h1 := hel i hi
      rw [List.getElem?_eq_getElem (by omega : i < elems.length)] at h1
      obtain ⟨c, hc1, hc2⟩ := Option.bind_eq_some_iff.1 h1
      obtain ⟨y, hy1, hy2⟩ := he.out enc w n c _ hc2
      exact ⟨y, ⟨c, hc1, hy1⟩, hy2⟩)
    have hml : len ≤ maxLen := Nat.le_trans hlc hcm
    refine ⟨ys, ⟨some a, cap, by rw [hyl], by omega, ⟨rfl, by rw [hyl]; unfold maxLen at hml; omega, fun _ => ⟨a, rfl, fun j p hj => ?_⟩⟩⟩, by omega, fun x hx => ?_⟩
    · obtain ⟨⟨c, hc1, hK⟩, _⟩ := hys j p hj
      obtain ⟨_, hcl, hcell⟩ := World.cells?_some hc1
      refine ⟨c, d.K_len hK, hK, fun i u hu => ?_⟩
      have hil : i < P.cellsOf e := by rw [← hcl]; exact (List.getElem?_eq_some_iff.1 hu).1
      rw [← hc, ← addr_add_add, hcell i hil]
      exact hu
    · obtain ⟨i, hi, rfl⟩ := List.getElem_of_mem hx
      exact (hys i _ (List.getElem?_eq_getElem hi)).2

structure OpensFs {α : Type} (P : Program) (fs : List Field) (off : Nat) (d : Kd α) (wf : α → Prop) : Prop where
  out : ∀ {H : Type} (enc : TypeId × Value → H) (w : World) (n : Nat) (cs : List Value), cs.length = d.sz →
    (∀ (i : Nat) (f : Field), fs[i]? = some f → ∃ x, DataW.trod enc P w 0 (fun _ => true) true n f.type ((cs.drop (f.offset - off)).take (P.cellsOf f.type)) = some x) → ∃ y, d.K w y cs ∧ wf y

theorem opensFs_one {α : Type} {P : Program} {f : Field} {off : Nat} {d : Kd α} {wf : α → Prop} (ho : f.offset = off) (hc : P.cellsOf f.type = d.sz) (h : Opens P f.type d wf) : OpensFs P [f] off d wf := by
  refine ⟨?_⟩
  intro H enc w n cs hl hf
  obtain ⟨x, hx⟩ := hf 0 f rfl
  rw [ho, Nat.sub_self, List.drop_zero, hc, List.take_of_length_le (by omega)] at hx
  exact h.out enc w n cs x hx

theorem opensFs_cons {α β : Type} {P : Program} {f : Field} {fs : List Field} {off : Nat} {d1 : Kd α} {d2 : Kd β} {wf1 : α → Prop} {wf2 : β → Prop} (ho : f.offset = off) (hc : P.cellsOf f.type = d1.sz) (h : Opens P f.type d1 wf1)
    (hfs : fs.all (fun g => decide (off + d1.sz ≤ g.offset)) = true) (h2 : OpensFs P fs (off + d1.sz) d2 wf2) : OpensFs P (f :: fs) off (Kd.pair d1 d2) (fun y => wf1 y.1 ∧ wf2 y.2) := by
  refine ⟨?_⟩
  intro H enc w n cs hl hf
  have hsz : cs.length = d1.sz + d2.sz := hl
  obtain ⟨x, hx⟩ := hf 0 f rfl
  rw [ho, Nat.sub_self, List.drop_zero, hc] at hx
  obtain ⟨y1, hK1, hw1⟩ := h.out enc w n _ x hx
  obtain ⟨y2, hK2, hw2⟩ := h2.out enc w n (cs.drop d1.sz) (by rw [List.length_drop]; omega) (fun i g hg => by
    obtain ⟨x, hx⟩ := hf (i + 1) g (by simpa using hg)
    have hge : off + d1.sz ≤ g.offset := by
      have := List.all_eq_true.1 hfs g (List.mem_of_getElem? hg)
      exact of_decide_eq_true this
    refine ⟨x, ?_⟩
    rw [List.drop_drop]
    have : d1.sz + (g.offset - (off + d1.sz)) = g.offset - off := by omega
    rw [this]
    exact hx)
  exact ⟨(y1, y2), ⟨cs.take d1.sz, cs.drop d1.sz, (List.take_append_drop _ _).symm, hK1, hK2⟩, hw1, hw2⟩

theorem opens_struct {α : Type} {P : Program} {t : TypeId} {fs : Array Field} {d : Kd α} {wf : α → Prop} (ht : P.underlying t = some (.struct fs)) (hc : P.cellsOf t = d.sz) (h : OpensFs P fs.toList 0 d wf) : Opens P t d wf := by
  refine ⟨?_⟩
  intro H enc w fuel cs x hx
  obtain ⟨xs, n, _, _, hcl, hxl, hf⟩ := DataW.trod_struct ht hx
  refine h.out enc w n cs (by omega) (fun i f hi => ?_)
  have hi' : fs[i]? = some f := by simpa using hi
  have hlt : i < xs.length := by rw [hxl]; exact (Array.getElem?_eq_some_iff.1 hi').1
  have h1 := hf i f hi'
  rw [List.getElem?_eq_getElem hlt] at h1
  exact ⟨xs[i], by rw [Nat.sub_zero]; exact h1⟩

theorem opens_iso {α β : Type} {P : Program} {t : TypeId} {d : Kd α} {wf : α → Prop} {f : β → α} (g : α → β) (hg : ∀ a, f (g a) = a) (h : Opens P t d wf) : Opens P t (Kd.iso d f) (fun b => wf (f b)) := by
  refine ⟨?_⟩
  intro H enc w fuel cs x hx
  obtain ⟨y, hK, hw⟩ := h.out enc w fuel cs x hx
  exact ⟨g y, by show d.K w (f (g y)) cs; rw [hg]; exact hK, by show wf (f (g y)); rw [hg]; exact hw⟩

/-- A struct's value is its cells. -/
theorem agg_of {P : Program} {W : World} {r : Reach} {base : Nat} {t : TypeId} {fs : Array Field} {v : Value} (ht : P.underlying t = some (.struct fs)) (h : Value.okWide P W r base t v) {l : List Value} (hl : v.cells.toList = l) : v = .agg l.toArray := by
  unfold Value.okWide at h
  rw [ht] at h
  obtain ⟨cs, rfl, _⟩ := h
  subst hl
  simp [Value.cells]

end Go.Proofs.Ytjkhlhopfaapmaa.Op
