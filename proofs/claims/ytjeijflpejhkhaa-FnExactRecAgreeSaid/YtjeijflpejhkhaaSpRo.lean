/- Rows that came in, which are only read: what an argument that reads as data holds; walking over it. Any program; no condition. -/
import Derived.Test.YtjeijflpejhkhaaSpData
import Derived.ChangeArms
namespace Go.Proofs.Ytjeijflpejhkhaa.Sp
open Go Go.RowKit
set_option linter.unusedVariables false
set_option linter.unusedSimpArgs false

/-- How data that came in lie in cells. -/
structure TyR (α : Type) where
  sz : Nat
  z : α
  R : World → α → List Value → Prop
  get : α → Nat → Option Value
  len : ∀ {w x c}, R w x c → c.length = sz
  get_ok : ∀ {w x c j v}, R w x c → get x j = some v → c[j]? = some v
structure RoRow {α : Type} (D : TyR α) (w : World) (A : Option Addr) (xs : List α) : Prop where
  max : xs.length ≤ 9223372036854775807
  some_ : 0 < xs.length → A = some (adr A)
  cell : ∀ i (h : i < xs.length), ∃ c, D.R w xs[i] c ∧ ∀ j v, c[j]? = some v → w.cell? ((adr A).add (i * D.sz + j)) = some v
def rdR {α : Type} (D : TyR α) (xs : List α) (i : Int) : α := xs.getD i.toNat D.z
theorem rdR_at {α : Type} {D : TyR α} {xs : List α} {i : Nat} (h : i < xs.length) : rdR D xs (i : Int) = xs[i] := by simp [rdR, List.getD_eq_getElem?_getD, h]
/-- Something that is so, whatever the world. -/
def pur (p : Prop) : Asn := exP (fun _ : Unit => p) (fun _ => [])
theorem Mem.pur {w0 W : World} {L : List Asn} (h : Mem w0 W L) {p : Prop} (hp : p) : Mem w0 W (pur p :: L) := Mem.mkx () hp h
/-- A row that came in. -/
def ro {α : Type} (D : TyR α) (w0 : World) (A : Option Addr) (xs : List α) : Asn := pur (RoRow D w0 A xs)
/-- The cells of one element that came in. -/
def roC (w0 : World) (A : Option Addr) (i sz : Nat) (c : List Value) : Asn := pur (A = some (adr A) ∧ c.length = sz ∧ ∀ j v, c[j]? = some v → w0.cell? ((adr A).add (i * sz + j)) = some v)
class RoAt (L : List Asn) (A : Option Addr) (α : outParam Type) (d : outParam (TyR α)) (w0 : outParam World) (xs : outParam (List α)) : Prop where mem : ∃ R, L.Perm (ro d w0 A xs :: R)
instance RoAt.here {α : Type} {d : TyR α} {A : Option Addr} {w0 : World} {xs : List α} {L : List Asn} : RoAt (ro d w0 A xs :: L) A α d w0 xs := ⟨L, List.Perm.refl _⟩
instance (priority := low) RoAt.there {α : Type} {d : TyR α} {A : Option Addr} {w0 : World} {xs : List α} {L : List Asn} {B : Asn} [h : RoAt L A α d w0 xs] : RoAt (B :: L) A α d w0 xs := ⟨by
  obtain ⟨R, h⟩ := h.mem
  exact ⟨B :: R, (List.Perm.cons B h).trans (List.Perm.swap _ B R)⟩⟩
class RoCAt (L : List Asn) (A : Option Addr) (w0 : outParam World) (i sz : outParam Nat) (c : outParam (List Value)) : Prop where mem : ∃ R, L.Perm (roC w0 A i sz c :: R)
instance RoCAt.here {A : Option Addr} {w0 : World} {i sz : Nat} {c : List Value} {L : List Asn} : RoCAt (roC w0 A i sz c :: L) A w0 i sz c := ⟨L, List.Perm.refl _⟩
instance (priority := low) RoCAt.there {A : Option Addr} {w0 : World} {i sz : Nat} {c : List Value} {L : List Asn} {B : Asn} [h : RoCAt L A w0 i sz c] : RoCAt (B :: L) A w0 i sz c := ⟨by
  obtain ⟨R, h⟩ := h.mem
  exact ⟨B :: R, (List.Perm.cons B h).trans (List.Perm.swap _ B R)⟩⟩
section
variable {w0 W : World} {L : List Asn} {A : Option Addr} {α : Type} {D : TyR α} {xs : List α}
theorem Mem.pure_ {p : Prop} {R : List Asn} (hp : L.Perm (Sp.pur p :: R)) (hm : Mem w0 W L) : p := by
  obtain ⟨F, _, ⟨_, h, _⟩, _⟩ := (hm.perm hp).sep
  exact h
theorem Mem.ro [h : RoAt L A α D w0 xs] (hm : Mem w0 W L) : RoRow D w0 A xs := by
  obtain ⟨R, hp⟩ := h.mem
  exact Mem.pure_ hp hm
/-- One element laid open. -/
theorem Mem.roOpen [h : RoAt L A α D w0 xs] (hm : Mem w0 W L) (i : Nat) (hi : i < xs.length) : ∃ c, D.R w0 xs[i] c ∧ Mem w0 W (roC w0 A i D.sz c :: L) := by
  have hr := hm.ro (A := A) (D := D)
  obtain ⟨c, h1, h2⟩ := hr.cell i hi
  exact ⟨c, h1, hm.pur ⟨hr.some_ (by omega), D.len h1, h2⟩⟩
theorem Mem.old (hm : Mem w0 W L) {a : Addr} {v : Value} (h : w0.cell? a = some v) : W.cell? a = some v := (hm.below.cell (World.block_lt_of_cell? w0 a h)).trans h
end
section
variable {P : Program} {n : Nat} {E : Env} {w0 W : World} {L : List Asn} {pt st : TypeId} {x y : Operand} {v : Value} {e sz j l c : Nat} {A : Option Addr} {i : Int} {k : IntKind} {α : Type} {D : TyR α} {xs : List α} {ws : List Value} {q : Nat}
theorem p_indexr [hU : Und P st (.slice e)] [hS : Siz P e sz] [hO : RoAt L A α D w0 xs] (hm : Mem w0 W L) (hx : ev E x = some (.slice A l c)) (hl : l = xs.length) (hy : ev E y = some (.int k i)) (h0 : 0 ≤ i) (h1 : i < xs.length) : PV P E (.indexAddr st x y) (.pointer (some (rp A i sz 0))) :=
  p_index hx ((hm.ro (A := A) (D := D)).some_ (by omega)) hy h0 (by omega)
theorem p_loadr [hO : RoAt L A α D w0 xs] [h1c : One P pt] (hx : ev E x = some (.pointer (some (rp A i sz j)))) (hs : sz = D.sz) (h0 : 0 ≤ i) (h1 : i < xs.length) (hv : D.get (rdR D xs i) j = some v) : LV P E w0 L (.load pt x) v :=
  ⟨fun W hm n a ha dst ty pos after gd => by
    obtain ⟨u, hu, hu2⟩ := h1c.out
    subst hs
    obtain ⟨i, rfl⟩ := Int.eq_ofNat_of_zero_le h0
    have h1 : i < xs.length := by omega
    obtain ⟨c, hR, hc⟩ := (hm.ro (A := A) (D := D)).cell i h1
    rw [rdR_at h1] at hv
    have hcell := hm.old (hc j v (D.get_ok hR hv))
    have hl : (loadVar pt ((adr A).add (i * D.sz + j))).run P W = .ok v W := by
      unfold loadVar isAgg
      cases u <;> simp_all [underlying, load, Sem.run]
    simp [execOp, ha.eval hx, Instr.loadAt, Instr.sureAddr, rp, hl]⟩
/-- A whole element whose cells are laid open. -/
theorem p_loadwr {m : Nat} [hO : RoCAt L A w0 q sz ws] [hA : Agg P pt m] (hx : ev E x = some (.pointer (some (rp A i sz 0)))) (hm : m = sz) (hi : i = q) : LV P E w0 L (.load pt x) (.agg ws.toArray) :=
  ⟨fun W hmem n a ha dst ty pos after gd => by
    obtain ⟨R, hp⟩ := hO.mem
    obtain ⟨hA1, hl, hc⟩ := Mem.pure_ hp hmem
    obtain ⟨u, hu, hu2, hinf⟩ := hA.out
    subst hm hi
    have key : ∀ (vs : List Value) (acc : Array Value) (j : Nat) (a : Addr), (∀ q v, vs[q]? = some v → W.cell? (a.add (j + q)) = some v) → (loadCellsFrom a j vs.length acc).run P W = .ok (acc ++ vs.toArray) W := by
      intro vs
      induction vs with
      | nil => intro acc j a h; simp [loadCellsFrom]
      | cons v r ih =>
        intro acc j a h
        have h1 := h 0 v rfl
        rw [Nat.add_zero] at h1
        have h2 := ih (acc.push v) (j + 1) a (fun q u hq => by have := h (q + 1) u (by simpa using hq); rwa [Nat.add_assoc, Nat.add_comm 1 q])
        simp only [List.length_cons, loadCellsFrom, Sem.run_bind]
        have h3 : (load (a.add j)).run P W = .ok v W := by simp [load, Sem.run, h1]
        rw [h3]
        simp only [Result.andThen_ok]
        rw [h2]
        simp
    have h4 := key ws #[] 0 ((adr A).add (q * m)) (fun q2 v hv => by rw [addr_add_add, Nat.zero_add]; exact hmem.old (hc q2 v hv))
    have h5 : (loadVar pt ((adr A).add (q * m))).run P W = .ok (.agg ws.toArray) W := by
      rw [hl] at h4
      obtain ⟨inf, hi1, hi2⟩ := Option.map_eq_some_iff.1 hinf
      have hagg : (isAgg pt).run P W = .ok true W := by
        unfold isAgg
        simp only [Sem.run_bind, run_underlying hu, Result.andThen_ok]
        cases u <;> first | rfl | (exfalso; simp at hu2)
      unfold loadVar
      simp only [Sem.run_bind, hagg, Result.andThen_ok, if_true]
      have h6 : (sizeOf pt).run P W = .ok m W := by simp [sizeOf, typeInfo, hi1, hi2]
      rw [h6]
      simp only [Result.andThen_ok, loadCells]
      rw [h4]
      simp
    simp [execOp, ha.eval hx, Instr.loadAt, Instr.sureAddr, rp, h5]⟩
end
end Go.Proofs.Ytjeijflpejhkhaa.Sp
