/- Words for walks: a struct's box that is stored into, whole or a cell of it, and what stays as it was. Any program; no condition. -/
import Derived.Test.YtjkhlhopfaapmaaWWords
import Derived.Test.YtjkhlhopfaapmaaWLast
import Derived.Test.YtjkhlhopfaapmaaWMore
import Derived.Laws.Tables
import Derived.Laws.Rows
import Derived.Deep.MidRow
import Derived.Test.YtjkhlhopfaapmaaWApart
namespace Go.Proofs.Ytjkhlhopfaapmaa.Wk
open Go.RowKit Go.Proofs.YtjkhlhopfaapmaaW.PrintWords Go.Proofs.YtjkhlhopfaapmaaW.PrintLast Go.Proofs.YtjkhlhopfaapmaaW.PrintMore

theorem grown_setRow (w : World) (g : Nat) (cs : Array Value) : w.grownBy (w.setRow g cs) (some g) :=
  ⟨rfl, rfl, rfl, by simp, fun k _ hk => setRow_other w g k cs (fun e => hk (by rw [e]))⟩

section
variable {P : Program} {ops : Array Oper} {rest : List Oper} {o : Oper} {a : Act} {W : World} {Q : Exit → Act → World → Prop}
/-- A whole struct stored into its box. -/
theorem store_row (hgd : o.guard = none) {ty : TypeId} {x y : Operand} (ho : o.op = .store ty x y) (hd : o.dst = none) {g : Nat} {cells old : Array Value} {t : TypeId}
    (hx : a.eval x = .pointer (some ⟨g, 0, none⟩)) (hy : a.eval y = .agg cells) (hg : W.heap[g]? = some (.cells old t (0, 0))) (hi : (P.info? ty).map (·.size) = some cells.size)
    (hold : old.size = cells.size) (h1 : cells.toList.all (·.oneCell') = true)
    (h : ∀ w1, w1.heap[g]? = some (.cells cells t (0, 0)) → W.grownBy w1 (some g) → wpList P ops Q rest a w1) : wpList P ops Q (o :: rest) a W := by
  refine wpList_store_row hgd ty x y ho g cells hx hy t old hg hi hold (by rw [← Array.all_toList]; exact h1) ?_
  rw [hd]
  exact h _ (setRow_heap W g old cells t (0, 0) hg) (grown_setRow W g cells)
/-- A whole struct loaded from its box. -/
theorem load_row (hgd : o.guard = none) {ty : TypeId} {x : Operand} (ho : o.op = .load ty x) {g : Nat} {t : TypeId} {cs : Array Value} {d : TypeDesc}
    (hx : a.eval x = .pointer (some ⟨g, 0, none⟩)) (hg : W.heap[g]? = some (.cells cs t (0, 0)))
    (hu : P.underlying ty = some d) (hd : (match d with | .struct _ | .array _ _ => true | _ => false) = true) (hi : (P.info? ty).map (·.size) = some cs.size)
    (h : wpList P ops Q rest (a.put o.dst (.agg cs)) W) : wpList P ops Q (o :: rest) a W :=
  wpList_load_row hgd ty x ho g hx t cs (0, 0) d hg hu hd hi h
/-- The same, of an operation whose guard says yes. -/
theorem load_row_g (hw : Region.wanted o (yielded ops a.tmps) = true) {ty : TypeId} {x : Operand} (ho : o.op = .load ty x) {g : Nat} {t : TypeId} {cs : Array Value} {d : TypeDesc}
    (hx : a.eval x = .pointer (some ⟨g, 0, none⟩)) (hg : W.heap[g]? = some (.cells cs t (0, 0)))
    (hu : P.underlying ty = some d) (hd : (match d with | .struct _ | .array _ _ => true | _ => false) = true) (hi : (P.info? ty).map (·.size) = some cs.size)
    (h : wpList P ops Q rest (a.put o.dst (.agg cs)) W) : wpList P ops Q (o :: rest) a W :=
  BigFrame.wpList_want hw fun _ hK => wp_load_row ty x ho g hx t cs (0, 0) d hg hu hd hi (hK _ _ h)
theorem gate_load {t : TypeId} {p : Tmp} (_ho : o.op = .load t (.tmp p)) (h : wpList P ops Q (o :: rest) a W) : wpList P ops Q (o :: rest) a W := h
end
theorem below_grow {w W w1 : World} {g : Nat} (h : Below w.heap.size w W) (hg : W.grownBy w1 (some g)) (hge : w.heap.size ≤ g) : Below w.heap.size w w1 :=
  h.grown hg h.size (fun k hk => by cases hk; exact hge)

/-- An element of an owned row of structs is there, to be written. -/
theorem S_there {α : Type} {d : Kd α} {e : Nat} {W : World} {base : Nat} {ok : Nat → Prop} {g n cap : Nat} {xs : List α} (h : Kd.S d e W base ok (.slice (some ⟨g, 0, none⟩) n cap) xs) (z : α) (i : Int) (h0 : 0 ≤ i) (h1 : i < n) : W.there g (i.toNat * d.sz) d.sz := by
  obtain ⟨_, c, hl, _, hcc, hfr, _, _⟩ := Kd.S_elem h z i h0 h1
  intro j hj
  refine ⟨?_, hfr j⟩
  rw [hcc j c[j] (List.getElem?_eq_getElem (by omega))]
  rfl
/-- A whole struct stored at an offset: the run of the operation. -/
theorem run_mid {P : Program} {o : Oper} {a : Act} {W w1 : World} {ty : TypeId} {x y : Operand} (ho : o.op = .store ty x y) {b off : Nat} {cells : Array Value} (hx : a.eval x = .pointer (some ⟨b, off, none⟩)) (hy : a.eval y = .agg cells)
    (ht : W.there b off cells.size) (hi : (P.info? ty).map (·.size) = some cells.size) (h1 : cells.toList.all (·.oneCell') = true) (hw : w1 = W.setCells b off cells.toList) : (execOp a.eval o).run P W = .ok .skip w1 := by
  subst hw
  unfold execOp
  simp only [ho, hx, hy, Instr.storeAt, Instr.sureAddr, Sem.run_bind, Sem.run_pure, Result.andThen_ok, run_storeVar_mid W b off ty cells ht hi (by rw [← Array.all_toList]; exact h1)]

/-! ### A part of a struct's box is written -/
def putRow (old : Array Value) : Nat → List Value → Array Value
  | _, [] => old
  | o, v :: r => putRow (old.setIfInBounds o v) (o + 1) r
theorem setCell_heap (w : World) (g o : Nat) (v : Value) (old : Array Value) (t : TypeId) (fr : Nat × Nat) (hg : w.heap[g]? = some (.cells old t fr)) : (w.setCell ⟨g, o, none⟩ v).heap[g]? = some (.cells (old.setIfInBounds o v) t fr) := by
  simp [World.setCell, Array.getElem?_modify, hg]
theorem setCells_heap (g : Nat) (t : TypeId) (fr : Nat × Nat) : ∀ (vs : List Value) (o : Nat) (w : World) (old : Array Value), w.heap[g]? = some (.cells old t fr) → (w.setCells g o vs).heap[g]? = some (.cells (putRow old o vs) t fr)
  | [], _, _, _, h => h
  | v :: r, o, w, old, h => setCells_heap g t fr r (o + 1) _ _ (setCell_heap w g o v old t fr h)
theorem grown_setCell (w : World) (g o : Nat) (v : Value) : w.grownBy (w.setCell ⟨g, o, none⟩ v) (some g) :=
  ⟨rfl, rfl, rfl, by simp [World.setCell], fun k _ hk => Below.heap_setCell _ _ _ k (fun e => hk (by rw [e]))⟩
theorem grown_trans {w w1 w2 : World} {g : Nat} (h : w.grownBy w1 (some g)) (h2 : w1.grownBy w2 (some g)) : w.grownBy w2 (some g) := by
  obtain ⟨a1, a2, a3, a4, a5⟩ := h
  obtain ⟨b1, b2, b3, b4, b5⟩ := h2
  exact ⟨b1.trans a1, b2.trans a2, b3.trans a3, Nat.le_trans a4 b4, fun k hk hn => (b5 k (by omega) hn).trans (a5 k hk hn)⟩
theorem grown_setCells (g : Nat) : ∀ (vs : List Value) (o : Nat) (w : World), w.grownBy (w.setCells g o vs) (some g)
  | [], _, w => World.grownBy.refl w _
  | v :: r, o, w => grown_trans (grown_setCell w g o v) (grown_setCells g r (o + 1) _)
theorem there_row {w : World} {g o : Nat} {old : Array Value} {t : TypeId} (hg : w.heap[g]? = some (.cells old t (0, 0))) {n : Nat} (h : o + n ≤ old.size) : w.there g o n := by
  intro j hj
  have hlt : o + j < old.size := by omega
  refine ⟨?_, ?_⟩
  · simp [World.cell?, hg, hlt]
  · simp [World.frozen?, hg]
theorem run_storeVar_part {P : Program} (w : World) (g o : Nat) (ty : TypeId) (v : Value) (cs : List Value) (hv : v.cells.toList = cs) (ht : w.there g o cs.length) (hi : (P.info? ty).map (·.size) = some cs.length) (h1 : ∀ u ∈ cs, u.oneCell' = true) :
    (storeVar ty ⟨g, o, none⟩ v).run P w = .ok () (w.setCells g o cs) := by
  have hm := run_storeVar_mid (P := P) w g o ty cs.toArray (by simpa using ht) (by simpa using hi) (by rw [← Array.all_toList]; simpa [List.all_eq_true] using h1)
  have e : v.cells = cs.toArray := by rw [← hv]
  unfold storeVar at hm ⊢
  rw [e]
  simpa [Value.cells] using hm
section
variable {P : Program} {ops : Array Oper} {rest : List Oper} {o : Oper} {a : Act} {W : World} {Q : Exit → Act → World → Prop}
/-- A part of a struct's box is stored. -/
theorem store_part (hgd : o.guard = none) {ty : TypeId} {x y : Operand} (ho : o.op = .store ty x y) (hd : o.dst = none) {g off : Nat} {v : Value} {cs : List Value} {old new : Array Value} {t : TypeId}
    (hx : a.eval x = .pointer (some ⟨g, off, none⟩)) (hy : a.eval y = v) (hv : v.cells.toList = cs) (hg : W.heap[g]? = some (.cells old t (0, 0))) (hi : (P.info? ty).map (·.size) = some cs.length)
    (hsz : off + cs.length ≤ old.size) (h1 : ∀ u ∈ cs, u.oneCell' = true) (hn : putRow old off cs = new)
    (h : ∀ w1, w1.heap[g]? = some (.cells new t (0, 0)) → W.grownBy w1 (some g) → wpList P ops Q rest a w1) : wpList P ops Q (o :: rest) a W := by
  refine wpList_plain hgd fun K hK => ?_
  unfold Oper.wp execOp
  simp only [ho, hx, hy, Instr.storeAt, Instr.sureAddr, Sem.run_bind, Sem.run_pure, Result.andThen_ok, run_storeVar_part W g off ty v cs hv (there_row hg hsz) hi h1]
  show K (a.put o.dst undef) _
  rw [hd]
  exact hK _ _ (h _ (by rw [← hn]; exact setCells_heap g t (0, 0) cs off W old hg) (grown_setCells g cs off W))
end

/-- A whole struct loaded: the run of the operation. -/
theorem run_load_box {P : Program} {o : Oper} {a : Act} {W : World} {ty : TypeId} {x : Operand} (ho : o.op = .load ty x) {g : Nat} {t : TypeId} {cs : Array Value} {d : TypeDesc} (hx : a.eval x = .pointer (some ⟨g, 0, none⟩)) (hg : W.heap[g]? = some (.cells cs t (0, 0)))
    (hu : P.underlying ty = some d) (hd : (match d with | .struct _ | .array _ _ => true | _ => false) = true) (hi : (P.info? ty).map (·.size) = some cs.size) : (execOp a.eval o).run P W = .ok (.value (.agg cs)) W := by
  unfold execOp
  simp only [ho, hx, Instr.loadAt, Instr.sureAddr, Sem.run_bind, Sem.run_pure, Result.andThen_ok, run_loadVar_row W g t ty cs (0, 0) d hg hu hd hi]

/-- A whole struct loaded out of a row: the run of the operation. -/
theorem run_load_range {P : Program} {o : Oper} {a : Act} {W : World} {ty : TypeId} {x : Operand} (ho : o.op = .load ty x) {q : Addr} {cs : List Value} {d : TypeDesc} (hx : a.eval x = .pointer (some q)) (hq : q.spot = none) (hc : W.rangeAt q.block q.off cs)
    (hu : P.underlying ty = some d) (hd : d.isRow = true) (hi : (P.info? ty).map (·.size) = some cs.length) : (execOp a.eval o).run P W = .ok (.value (.agg cs.toArray)) W := by
  obtain ⟨b, off, s⟩ := q
  cases hq
  unfold execOp
  simp only [ho, hx, Instr.loadAt, Instr.sureAddr, Sem.run_bind, Sem.run_pure, Result.andThen_ok, run_loadVar_mid W b off ty cs d hc hu hd hi]
theorem range_below {w w1 : World} {b o : Nat} {cs : List Value} (h : w.rangeAt b o cs) (hb : Below w.heap.size w w1) : w1.rangeAt b o cs := fun j v hv => (hb.cell (World.block_lt_of_cell? w _ (h j v hv))).trans (h j v hv)
section
variable {P : Program} {ops : Array Oper} {rest : List Oper} {o : Oper} {a : Act} {W : World} {Q : Exit → Act → World → Prop}
/-- A whole struct loaded out of a row, in a plain region. -/
theorem load_range (hgd : o.guard = none) {ty : TypeId} {x : Operand} (ho : o.op = .load ty x) {q : Addr} {cs : List Value} {d : TypeDesc} (hx : a.eval x = .pointer (some q)) (hq : q.spot = none) (hc : W.rangeAt q.block q.off cs)
    (hu : P.underlying ty = some d) (hd : d.isRow = true) (hi : (P.info? ty).map (·.size) = some cs.length)
    (h : wpList P ops Q rest (a.put o.dst (.agg cs.toArray)) W) : wpList P ops Q (o :: rest) a W := by
  obtain ⟨b, off, s⟩ := q
  cases hq
  exact wpList_load_mid hgd ty x ho b off hx cs d hc hu hd hi h
end

end Go.Proofs.Ytjkhlhopfaapmaa.Wk
