/- Kinds of the element types; rows made, appended to, by their types. No condition. -/
import Derived.Test.YtokhocmopmoblaaSpTy
import Derived.Test.YtokhocmopmoblaaSpApp
import Derived.Test.YtokhocmopmoblaaSpLit
import Derived.Test.YtokhocmopmoblaaSpLaw
namespace Go.Proofs.Ytokhocmopmoblaa.Sp
open Go Go.RowKit
set_option linter.unusedVariables false
set_option linter.unusedSimpArgs false
/-- The kind of a type's elements. -/
class TyE (P : Program) (e : Nat) (α : outParam Type) (D : outParam (Ty α)) : Prop where tr : True
instance : TyE Try.prog 3 Int tInt := ⟨trivial⟩
instance : TyE Try.prog 9 ByteArray tStr := ⟨trivial⟩
instance : TyE Try.prog 91 Slot tSlot := ⟨trivial⟩
instance : TyE Try.prog 85 Msg (tMsg 91) := ⟨trivial⟩
instance : TyE Try.prog 93 Ack (tAck 3) := ⟨trivial⟩
section
variable {P : Program} {n : Nat} {ops : Array Oper} {Q : Exit → Act → World → Prop} {rest : List Oper} {E : Env} {w0 W : World} {L : List Asn}
variable {d : Nat} {ty st : TypeId} {pos : String} {after : Array Edge} {x y : Operand} {e sz bytes c2 m l : Nat} {A2 : Option Addr} {α : Type} {D : Ty α} {DR : TyR α} {enc : α → List Value} {ys : List α} {k k' : IntKind} {zs : List Value}
theorem s_lit0a [hU : Und P st (.slice e)] [hT : TyE P e α D] [hE : Elt P e sz bytes] (hm : Mem w0 W L) (hs : sz = D.sz) (hn : Nat.blt d n = true) (h : ∀ A1 W1, Mem w0 W1 (own D e A1 0 [] :: L) → WL P n ops Q rest ((d, .slice A1 0 0) :: E) W1) :
    WL P n ops Q (⟨some d, .buildSlice st 0 #[], ty, pos, after, none⟩ :: rest) E W := s_lit0 D hm hs hn h
theorem s_makea [hU : Und P st (.slice e)] [hT : TyE P e α D] [hE : Elt P e sz bytes] [hz : Zer P e zs] [hD : ZD D zs] (hm : Mem w0 W L) (hx : ev E x = some (.int k l)) (hy : ev E y = some (.int k' l)) (hs : sz = D.sz) (hlim : bytes * l ≤ 281474976710656) (hn : Nat.blt d n = true)
    (h : ∀ A1 W1, Mem w0 W1 (own D e A1 l (List.replicate l D.z) :: L) → WL P n ops Q rest ((d, .slice A1 l l) :: E) W1) :
    WL P n ops Q (⟨some d, .makeSlice st x y, ty, pos, after, none⟩ :: rest) E W := s_make D hm hx hy hs hlim hn h
theorem s_app0a [hU : Und P st (.slice e)] [hT : TyE P e α D] [hE : Elt P e sz bytes] (hm : Mem w0 W L) (hx : ev E x = some (.slice none 0 0)) (hy : ev E y = some (.slice A2 m c2)) (hs : sz = D.sz) [hR : RoAt L A2 α DR w0 ys] (hs2 : sz = DR.sz) [hF : FlatO D enc] [hG : FlatR DR enc] (hml : m = ys.length)
    (hlim : ys.length * bytes ≤ 140737488355328) (hn : Nat.blt d n = true) (h : ∀ A1 c1 W1, Mem w0 W1 (own D e A1 c1 ys :: L) → WL P n ops Q rest ((d, .slice A1 ys.length c1) :: E) W1) :
    WL P n ops Q (⟨some d, .call { callee := .builtin .append, args := #[x, y], argTypes := #[st, st] }, ty, pos, after, none⟩ :: rest) E W :=
  s_app0r D hm hx hy hs hs2 hml hlim hn h
theorem s_appr0 {R1 : List Asn} {c l : Nat} {A : Option Addr} [hU : Und P st (.slice e)] [hE : Elt P e sz bytes] (hm : Mem w0 W L) (hx : ev E x = some (.slice A l c)) (hy : ev E y = some (.slice A2 m c2)) (hl : l = 0) [hR : RoAt L A2 α DR w0 ys] [hp : Pk L (own D e A c []) R1] [hT : TyE P e α D] (hs : sz = D.sz) (hs2 : sz = DR.sz) [hF : FlatO D enc] [hG : FlatR DR enc] (hml : m = ys.length)
    (hlim : ys.length * bytes ≤ 140737488355328) (hn : Nat.blt d n = true) (h : ∀ A1 c1 W1, Mem w0 W1 (own D e A1 c1 ys :: R1) → WL P n ops Q rest ((d, .slice A1 ys.length c1) :: E) W1) :
    WL P n ops Q (⟨some d, .call { callee := .builtin .append, args := #[x, y], argTypes := #[st, st] }, ty, pos, after, none⟩ :: rest) E W :=
  s_appr (xs := []) (D := D) (A := A) (c := c) (e := e) (hO := ⟨trivial⟩) hm hx hy hl hs hs2 hml (by simpa using hlim) hn h
theorem p_nil {a : Addr} (hx : ev E x = some (.pointer (some a))) : PV P E (.nilCheck x) (.pointer (some a)) := ⟨fun n act ha dst ty pos after gd W => by simp [execOp, ha.eval hx, asAddr]⟩
end
theorem Mem.rod {w0 W : World} {L : List Asn} {α : Type} {D : TyR α} {A : Option Addr} {xs : List α} (hm : Mem w0 W L) (h : RoRow D w0 A xs) : Mem w0 W (Sp.ro D w0 A xs :: L) := hm.pur h
/-- A variable's block that is only read. -/
def roB (w0 : World) (g t : Nat) (cs : List Value) : Asn := pur (w0.heap[g]? = some (.cells cs.toArray t (0, 0)))
class RoBAt (L : List Asn) (g : Nat) (w0 : outParam World) (t : outParam Nat) (cs : outParam (List Value)) : Prop where mem : ∃ R, L.Perm (roB w0 g t cs :: R)
instance RoBAt.here {w0 : World} {g t : Nat} {cs : List Value} {L : List Asn} : RoBAt (roB w0 g t cs :: L) g w0 t cs := ⟨L, List.Perm.refl _⟩
instance (priority := low) RoBAt.there {B : Asn} {L : List Asn} {w0 : World} {g t : Nat} {cs : List Value} [h : RoBAt L g w0 t cs] : RoBAt (B :: L) g w0 t cs := ⟨by
  obtain ⟨R, h⟩ := h.mem
  exact ⟨B :: R, (List.Perm.cons B h).trans (List.Perm.swap _ B R)⟩⟩
theorem Mem.robox {w0 W : World} {L : List Asn} {g t : Nat} {cs : List Value} (hm : Mem w0 W L) (h : w0.heap[g]? = some (.cells cs.toArray t (0, 0))) : Mem w0 W (Sp.roB w0 g t cs :: L) := hm.pur h
theorem Mem.rob {w0 W : World} {L : List Asn} {g t : Nat} {cs : List Value} [h : RoBAt L g w0 t cs] (hm : Mem w0 W L) : W.heap[g]? = some (.cells cs.toArray t (0, 0)) := by
  obtain ⟨R, hp⟩ := h.mem
  have h1 := Mem.pure_ hp hm
  exact (hm.below.block g (Array.getElem?_eq_some_iff.1 h1).1).trans h1
section
variable {P : Program} {E : Env} {w0 : World} {L : List Asn} {pt : TypeId} {x : Operand} {v : Value} {g t j m : Nat} {cs ws : List Value}
theorem p_loadrb [hB : RoBAt L g w0 t cs] [hv : Nth cs j v] [hO : One P pt] (hx : ev E x = some (.pointer (some ⟨g, j, none⟩))) : LV P E w0 L (.load pt x) v :=
  ⟨fun W hm n a ha dst ty pos after gd => by
    obtain ⟨u, hu, hu2⟩ := hO.out
    have hc : W.cell? ⟨g, j, none⟩ = some v := by rw [cell_of_row W g j _ t (0, 0) hm.rob]; simpa using hv.out
    have hl : (loadVar pt ⟨g, j, none⟩).run P W = .ok v W := by
      unfold loadVar isAgg
      cases u <;> simp_all [underlying, load, Sem.run]
    simp [execOp, ha.eval hx, Instr.loadAt, Instr.sureAddr, hl]⟩
theorem p_loadsrb [hB : RoBAt L g w0 t cs] [hA : Agg P pt m] [hv : Sub cs j m ws] (hx : ev E x = some (.pointer (some ⟨g, j, none⟩))) : LV P E w0 L (.load pt x) (.agg ws.toArray) :=
  ⟨fun W hm n a ha dst ty pos after gd => by
    obtain ⟨u, hu, hu2, hi⟩ := hA.out
    obtain ⟨h1, h2⟩ := hv.out
    have hr : W.rangeAt g j ws := by
      intro i z hz
      rw [cell_of_row W g (j + i) _ t (0, 0) hm.rob]
      rw [← h1] at hz
      rw [List.getElem?_take] at hz
      split at hz
      · simpa [List.getElem?_drop] using hz
      · cases hz
    have hl : ws.length = m := by rw [← h1]; simp; omega
    have := run_loadVar_mid (P := P) W g j pt ws u hr hu (by cases u <;> simp_all [TypeDesc.isRow]) (by rw [hi, hl])
    simp [execOp, ha.eval hx, Instr.loadAt, Instr.sureAddr, this]⟩
end
/-- A recorder of zeros. -/
def zeroR : Rcd := ⟨0, 0, false, 0, 0, [], 0, 0, [], [], [], false, false, 0, [], [], [], 0⟩
def atZ : AtRcd := ⟨(none, 0), (none, 0), (none, 0), (none, 0), (none, 0), (none, 0), (none, 0)⟩
theorem Mem.zeroR {w0 W : World} {L : List Asn} (eS eM eT eI eA : Nat) (h : Mem w0 W L) : Mem w0 W (partRcd eS eM eT eI eA Sp.zeroR atZ ++ L) :=
  ((((((h.nil (tAck eI) eA).nil tSlot eS).nil tInt eI).nil tStr eT).nil (tMsg eS) eM).nil tSlot eS).nil tSlot eS
end Go.Proofs.Ytokhocmopmoblaa.Sp
