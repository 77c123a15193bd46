/- Kinds of the element types; rows made, appended to, by their types. No condition. -/
import Derived.Test.YtjeijflpejhkhaaSpTy
import Derived.Test.YtjeijflpejhkhaaSpApp
import Derived.Test.YtjeijflpejhkhaaSpLit
import Derived.Test.YtjeijflpejhkhaaSpLaw
namespace Go.Proofs.Ytjeijflpejhkhaa.Sp
open Go Go.RowKit
set_option linter.unusedVariables false
set_option linter.unusedSimpArgs false
/-- The kind of a type's elements. -/
class TyE (P : Program) (e : Nat) (α : outParam Type) (D : outParam (Ty α)) : Prop where tr : True
instance : TyE Try.prog 3 Int tInt := ⟨trivial⟩
instance : TyE Try.prog 9 ByteArray tStr := ⟨trivial⟩
instance : TyE Try.prog 80 Slot tSlot := ⟨trivial⟩
instance : TyE Try.prog 78 Fix tFix := ⟨trivial⟩
instance : TyE Try.prog 77 Msg (tMsg 80) := ⟨trivial⟩
instance : TyE Try.prog 107 Ack (tAck 3) := ⟨trivial⟩
section
variable {P : Program} {n : Nat} {ops : Array Oper} {Q : Exit → Act → World → Prop} {rest : List Oper} {E : Env} {w0 W : World} {L : List Asn}
variable {d : Nat} {ty st : TypeId} {pos : String} {after : Array Edge} {x y : Operand} {e sz bytes c2 m l : Nat} {A2 : Option Addr} {α : Type} {D : Ty α} {DR : TyR α} {enc : α → List Value} {ys : List α} {k k' : IntKind} {zs : List Value}
theorem s_lit0a [hU : Und P st (.slice e)] [hT : TyE P e α D] [hE : Elt P e sz bytes] (hm : Mem w0 W L) (hs : sz = D.sz) (hn : Nat.blt d n = true) (h : ∀ A1 W1, Mem w0 W1 (own D e A1 0 [] :: L) → WL P n ops Q rest ((d, .slice A1 0 0) :: E) W1) :
    WL P n ops Q (⟨some d, .buildSlice st 0 #[], ty, pos, after, none⟩ :: rest) E W := s_lit0 D hm hs hn h
theorem s_makea [hU : Und P st (.slice e)] [hT : TyE P e α D] [hE : Elt P e sz bytes] [hz : Zer P e zs] [hD : ZD D zs] (hm : Mem w0 W L) (hx : ev E x = some (.int k l)) (hy : ev E y = some (.int k' l)) (hs : sz = D.sz) (hlim : bytes * l ≤ 281474976710656) (hn : Nat.blt d n = true)
    (h : ∀ A1 W1, Mem w0 W1 (own D e A1 l (List.replicate l D.z) :: L) → WL P n ops Q rest ((d, .slice A1 l l) :: E) W1) :
    WL P n ops Q (⟨some d, .makeSlice st x y, ty, pos, after, none⟩ :: rest) E W := s_make D hm hx hy hs hlim hn h
theorem s_app0a [hU : Und P st (.slice e)] [hT : TyE P e α D] [hE : Elt P e sz bytes] (hm : Mem w0 W L) (hx : ev E x = some (.slice none 0 0)) (hy : ev E y = some (.slice A2 m c2)) (hs : sz = D.sz) [hR : RoAt L A2 α DR w0 ys] (hs2 : sz = DR.sz) [hF : FlatO D enc] [hG : FlatR DR enc] (hml : m = ys.length)
    (hlim : ys.length * bytes ≤ 140737488355328) (hn : Nat.blt d n = true) (h : ∀ A1 c1 W1, Mem w0 W1 (own D e A1 c1 ys :: L) → WL P n ops Q rest ((d, .slice A1 ys.length c1) :: E) W1) :
    WL P n ops Q (⟨some d, .call { callee := .builtin .append, args := #[x, y], argTypes := #[st, st] }, ty, pos, after, none⟩ :: rest) E W :=
  s_app0r D hm hx hy hs hs2 hml hlim hn h
theorem s_appr0 {R1 : List Asn} {c l : Nat} {A : Option Addr} [hU : Und P st (.slice e)] [hE : Elt P e sz bytes] (hm : Mem w0 W L) (hx : ev E x = some (.slice A l c)) (hy : ev E y = some (.slice A2 m c2)) (hl : l = 0) [hR : RoAt L A2 α DR w0 ys] [hp : Pk L (own D e A c []) R1] [hT : TyE P e α D] (hs : sz = D.sz) (hs2 : sz = DR.sz) [hF : FlatO D enc] [hG : FlatR DR enc] (hml : m = ys.length)
    (hlim : ys.length * bytes ≤ 140737488355328) (hn : Nat.blt d n = true) (h : ∀ A1 c1 W1, Mem w0 W1 (own D e A1 c1 ys :: R1) → WL P n ops Q rest ((d, .slice A1 ys.length c1) :: E) W1) :
    WL P n ops Q (⟨some d, .call { callee := .builtin .append, args := #[x, y], argTypes := #[st, st] }, ty, pos, after, none⟩ :: rest) E W :=
  s_appr (xs := []) (D := D) (A := A) (c := c) (e := e) (hO := ⟨trivial⟩) hm hx hy hl hs hs2 hml (by simpa using hlim) hn h
theorem p_nil {a : Addr} (hx : ev E x = some (.pointer (some a))) : PV P E (.nilCheck x) (.pointer (some a)) := ⟨fun n act ha dst ty pos after gd W => by simp [execOp, ha.eval hx, asAddr]⟩
end
theorem Mem.rod {w0 W : World} {L : List Asn} {α : Type} {D : TyR α} {A : Option Addr} {xs : List α} (hm : Mem w0 W L) (h : RoRow D w0 A xs) : Mem w0 W (Sp.ro D w0 A xs :: L) := hm.pur h
/-- A variable's block that is only read. -/
def roB (w0 : World) (g t : Nat) (cs : List Value) : Asn := pur (w0.heap[g]? = some (.cells cs.toArray t (0, 0)))
class RoBAt (L : List Asn) (g : Nat) (w0 : outParam World) (t : outParam Nat) (cs : outParam (List Value)) : Prop where mem : ∃ R, L.Perm (roB w0 g t cs :: R)
instance RoBAt.here {w0 : World} {g t : Nat} {cs : List Value} {L : List Asn} : RoBAt (roB w0 g t cs :: L) g w0 t cs := ⟨L, List.Perm.refl _⟩
instance (priority := low) RoBAt.there {B : Asn} {L : List Asn} {w0 : World} {g t : Nat} {cs : List Value} [h : RoBAt L g w0 t cs] : RoBAt (B :: L) g w0 t cs := ⟨by
  obtain ⟨R, h⟩ := h.mem
  exact ⟨B :: R, (List.Perm.cons B h).trans (List.Perm.swap _ B R)⟩⟩
theorem Mem.robox {w0 W : World} {L : List Asn} {g t : Nat} {cs : List Value} (hm : Mem w0 W L) (h : w0.heap[g]? = some (.cells cs.toArray t (0, 0))) : Mem w0 W (Sp.roB w0 g t cs :: L) := hm.pur h
theorem Mem.rob {w0 W : World} {L : List Asn} {g t : Nat} {cs : List Value} [h : RoBAt L g w0 t cs] (hm : Mem w0 W L) : W.heap[g]? = some (.cells cs.toArray t (0, 0)) := by
  obtain ⟨R, hp⟩ := h.mem
  have h1 := Mem.pure_ hp hm
  exact (hm.below.block g (Array.getElem?_eq_some_iff.1 h1).1).trans h1
section
variable {P : Program} {E : Env} {w0 : World} {L : List Asn} {pt : TypeId} {x : Operand} {v : Value} {g t j m : Nat} {cs ws : List Value}
theorem p_loadrb [hB : RoBAt L g w0 t cs] [hv : Nth cs j v] [hO : One P pt] (hx : ev E x = some (.pointer (some ⟨g, j, none⟩))) : LV P E w0 L (.load pt x) v :=
  ⟨fun W hm n a ha dst ty pos after gd => by
    obtain ⟨u, hu, hu2⟩ := hO.out
    have hc : W.cell? ⟨g, j, none⟩ = some v := by rw [cell_of_row W g j _ t (0, 0) hm.rob]; simpa using hv.out
    have hl : (loadVar pt ⟨g, j, none⟩).run P W = .ok v W := by
      unfold loadVar isAgg
      cases u <;> simp_all [underlying, load, Sem.run]
    simp [execOp, ha.eval hx, Instr.loadAt, Instr.sureAddr, hl]⟩
theorem p_loadsrb [hB : RoBAt L g w0 t cs] [hA : Agg P pt m] [hv : Sub cs j m ws] (hx : ev E x = some (.pointer (some ⟨g, j, none⟩))) : LV P E w0 L (.load pt x) (.agg ws.toArray) :=
  ⟨fun W hm n a ha dst ty pos after gd => by
    obtain ⟨u, hu, hu2, hi⟩ := hA.out
    obtain ⟨h1, h2⟩ := hv.out
    have hr : W.rangeAt g j ws := by
      intro i z hz
      rw [cell_of_row W g (j + i) _ t (0, 0) hm.rob]
      rw [← h1] at hz
      rw [List.getElem?_take] at hz
      split at hz
      · simpa [List.getElem?_drop] using hz
      · cases hz
    have hl : ws.length = m := by rw [← h1]; simp; omega
    have := run_loadVar_mid (P := P) W g j pt ws u hr hu (by cases u <;> simp_all [TypeDesc.isRow]) (by rw [hi, hl])
    simp [execOp, ha.eval hx, Instr.loadAt, Instr.sureAddr, this]⟩
end
/-- Some cells of an element laid open. -/
theorem p_loadsrc {P : Program} {E : Env} {w0 : World} {L : List Asn} {pt : TypeId} {x : Operand} {A : Option Addr} {i : Int} {sz q j m : Nat} {ws vs : List Value} [hO : RoCAt L A w0 q sz ws] [hA : Agg P pt m] [hv : Sub ws j m vs] (hx : ev E x = some (.pointer (some (rp A i sz j)))) (hi : i = q) : LV P E w0 L (.load pt x) (.agg vs.toArray) :=
  ⟨fun W hmem n a ha dst ty pos after gd => by
    obtain ⟨R, hp⟩ := hO.mem
    obtain ⟨hA1, hl, hc⟩ := Mem.pure_ hp hmem
    obtain ⟨u, hu, hu2, hinf⟩ := hA.out
    obtain ⟨hv1, hv2⟩ := hv.out
    subst hi
    have hvl : vs.length = m := by rw [← hv1]; simp; omega
    have key : ∀ (vs : List Value) (acc : Array Value) (j : Nat) (a : Addr), (∀ q v, vs[q]? = some v → W.cell? (a.add (j + q)) = some v) → (loadCellsFrom a j vs.length acc).run P W = .ok (acc ++ vs.toArray) W := by
      intro vs
      induction vs with
      | nil => intro acc j a h; simp [loadCellsFrom]
      | cons v r ih =>
        intro acc j a h
        have h1 := h 0 v rfl
        rw [Nat.add_zero] at h1
        have h2 := ih (acc.push v) (j + 1) a (fun q u hq => by have := h (q + 1) u (by simpa using hq); rwa [Nat.add_assoc, Nat.add_comm 1 q])
        simp only [List.length_cons, loadCellsFrom, Sem.run_bind]
        have h3 : (load (a.add j)).run P W = .ok v W := by simp [load, Sem.run, h1]
        rw [h3]
        simp only [Result.andThen_ok]
        rw [h2]
        simp
    have h4 := key vs #[] 0 ((adr A).add (q * sz + j)) (fun q2 v hv => by
      rw [addr_add_add, Nat.zero_add, Nat.add_assoc]
      refine hmem.old (hc (j + q2) v ?_)
      rw [← hv1, List.getElem?_take] at hv
      split at hv
      · rw [List.getElem?_drop] at hv; exact hv
      · cases hv)
    have h5 : (loadVar pt ((adr A).add (q * sz + j))).run P W = .ok (.agg vs.toArray) W := by
      rw [hvl] at h4
      obtain ⟨inf, hi1, hi2⟩ := Option.map_eq_some_iff.1 hinf
      have hagg : (isAgg pt).run P W = .ok true W := by
        unfold isAgg
        simp only [Sem.run_bind, run_underlying hu, Result.andThen_ok]
        cases u <;> first | rfl | (exfalso; simp at hu2)
      unfold loadVar
      simp only [Sem.run_bind, hagg, Result.andThen_ok, if_true]
      have h6 : (sizeOf pt).run P W = .ok m W := by simp [sizeOf, typeInfo, hi1, hi2]
      rw [h6]
      simp only [Result.andThen_ok, loadCells]
      rw [h4]
      simp
    simp [execOp, ha.eval hx, Instr.loadAt, Instr.sureAddr, rp, h5]⟩
/-- A whole flat element of a row that came in. -/
theorem p_loadwf {P : Program} {E : Env} {w0 : World} {L : List Asn} {pt : TypeId} {x : Operand} {A : Option Addr} {i : Int} {sz m : Nat} {α : Type} {D : TyR α} {enc : α → List Value} {xs : List α} [hO : RoAt L A α D w0 xs] [hA : Agg P pt m] [hF : FlatR D enc] (hx : ev E x = some (.pointer (some (rp A i sz 0)))) (hs : sz = D.sz) (hm : m = sz) (h0 : 0 ≤ i) (h1 : i < xs.length) : LV P E w0 L (.load pt x) (.agg (enc (rdR D xs i)).toArray) :=
  ⟨fun W hmem n a ha dst ty pos after gd => by
    obtain ⟨q, rfl⟩ := Int.eq_ofNat_of_zero_le h0
    have hq : q < xs.length := by omega
    obtain ⟨c, hc, hm2⟩ := hmem.roOpen (A := A) q hq
    have e := hF.out hc
    rw [rdR_at hq, ← e]
    subst hs
    exact (p_loadwr (P := P) (L := roC w0 A q D.sz c :: L) hx hm rfl).out W hm2 n a ha dst ty pos after gd⟩
theorem rdR_int {α : Type} {D : TyR α} {xs : List α} {i : Int} (h0 : 0 ≤ i) (h1 : i < xs.length) : rdR D xs i = xs[i.toNat]'(by omega) := by
  have : i.toNat < xs.length := by omega
  simp [rdR, List.getD_eq_getElem?_getD, this]
/-- A recorder of zeros. -/
def zeroR : Rcd := ⟨0, 0, false, 0, 0, [], 0, 0, [], [], [], false, false, 0, [], [], [], 0⟩
def atZ : AtRcd := ⟨(none, 0), (none, 0), (none, 0), (none, 0), (none, 0), (none, 0), (none, 0)⟩
theorem Mem.zeroR {w0 W : World} {L : List Asn} (eS eM eT eI eA : Nat) (h : Mem w0 W L) : Mem w0 W (partRcd eS eM eT eI eA Sp.zeroR atZ ++ L) :=
  ((((((h.nil (tAck eI) eA).nil tSlot eS).nil tInt eI).nil tStr eT).nil (tMsg eS) eM).nil tSlot eS).nil tSlot eS
end Go.Proofs.Ytjeijflpejhkhaa.Sp
