/- Memory as a list of parts that do not touch: variables' blocks, rows of the call's own, what lies inside. Any program; no condition. -/
import Derived.Test.YtjeijflpejhkhaaSpWalk
import Derived.Maps.AppendAt
import Derived.Laws.OwnMore
import Derived.Laws.MakeOwn
import Derived.Laws.Rows
import Derived.Deep.MidRow
import Derived.OwnWalk
namespace Go.Proofs.Ytjeijflpejhkhaa.Sp
open Go Go.RowKit
set_option linter.unusedVariables false
set_option linter.unusedSimpArgs false

/-- What holds of some blocks of a world. -/
structure Asn where
  H : World → (Nat → Prop) → Prop
  mono : ∀ {W : World} {F F' : Nat → Prop}, (∀ k, F k → F' k) → H W F → H W F'
  move : ∀ {W W' : World} {F : Nat → Prop}, (∀ k, F k → k < W.heap.size → W'.heap[k]? = W.heap[k]?) → H W F → H W' F
  bound : ∀ {W : World} {F : Nat → Prop}, H W F → H W (fun k => F k ∧ k < W.heap.size)

def SepIn (W : World) : (Nat → Prop) → List Asn → Prop
  | _, [] => True
  | ok, A :: L => ∃ F : Nat → Prop, (∀ k, F k → ok k) ∧ A.H W F ∧ SepIn W (fun k => ok k ∧ ¬ F k) L
theorem SepIn.mono {W : World} : ∀ {L : List Asn} {ok ok' : Nat → Prop}, (∀ k, ok k → ok' k) → SepIn W ok L → SepIn W ok' L
  | [], _, _, _, _ => trivial
  | A :: L, ok, ok', h, ⟨F, h1, h2, h3⟩ => ⟨F, fun k hk => h k (h1 k hk), h2, SepIn.mono (fun k hk => ⟨h k hk.1, hk.2⟩) h3⟩
theorem SepIn.move {W W' : World} : ∀ {L : List Asn} {ok : Nat → Prop}, (∀ k, ok k → k < W.heap.size → W'.heap[k]? = W.heap[k]?) → SepIn W ok L → SepIn W' ok L
  | [], _, _, _ => trivial
  | A :: L, ok, h, ⟨F, h1, h2, h3⟩ => ⟨F, h1, A.move (fun k hk hl => h k (h1 k hk) hl) h2, SepIn.move (fun k hk hl => h k hk.1 hl) h3⟩
theorem SepIn.bound {W : World} : ∀ {L : List Asn} {ok : Nat → Prop}, SepIn W ok L → SepIn W (fun k => ok k ∧ k < W.heap.size) L
  | [], _, _ => trivial
  | A :: L, ok, ⟨F, h1, h2, h3⟩ => by
    refine ⟨fun k => F k ∧ k < W.heap.size, fun k hk => ⟨h1 k hk.1, hk.2⟩, A.bound h2, ?_⟩
    exact SepIn.mono (fun k hk => ⟨⟨hk.1.1, hk.2⟩, fun hf => hk.1.2 hf.1⟩) (SepIn.bound h3)
theorem SepIn.perm {W : World} {L L' : List Asn} (h : L.Perm L') : ∀ {ok : Nat → Prop}, SepIn W ok L → SepIn W ok L' := by
  induction h with
  | nil => exact fun h => h
  | cons A _ ih => rintro ok ⟨F, h1, h2, h3⟩; exact ⟨F, h1, h2, ih h3⟩
  | swap A B L =>
    rintro ok ⟨F, h1, h2, G, h3, h4, h5⟩
    exact ⟨G, fun k hk => (h3 k hk).1, h4, F, fun k hk => ⟨h1 k hk, fun hg => (h3 k hg).2 hk⟩, h2, h5.mono (fun k hk => ⟨⟨hk.1.1, hk.2⟩, hk.1.2⟩)⟩
  | trans _ _ ih1 ih2 => exact fun h => ih2 (ih1 h)
theorem SepIn.append {W : World} : ∀ {L M : List Asn} {ok : Nat → Prop}, SepIn W ok (L ++ M) → ∃ F : Nat → Prop, (∀ k, F k → ok k) ∧ SepIn W F L ∧ SepIn W (fun k => ok k ∧ ¬ F k) M
  | [], M, ok, h => ⟨fun _ => False, fun _ h => h.elim, trivial, h.mono (fun k hk => ⟨hk, fun h => h⟩)⟩
  | A :: L, M, ok, ⟨F, h1, h2, h3⟩ => by
    obtain ⟨G, g1, g2, g3⟩ := SepIn.append h3
    refine ⟨fun k => F k ∨ G k, fun k hk => hk.elim (h1 k) (fun h => (g1 k h).1), ⟨F, fun k hk => .inl hk, h2, g2.mono (fun k hk => ⟨.inr hk, (g1 k hk).2⟩)⟩, g3.mono (fun k hk => ⟨hk.1.1, fun h => h.elim hk.1.2 hk.2⟩)⟩
theorem SepIn.join {W : World} : ∀ {L M : List Asn} {ok F : Nat → Prop}, (∀ k, F k → ok k) → SepIn W F L → SepIn W (fun k => ok k ∧ ¬ F k) M → SepIn W ok (L ++ M)
  | [], M, ok, F, h, _, h2 => h2.mono (fun k hk => hk.1)
  | A :: L, M, ok, F, h, ⟨G, g1, g2, g3⟩, h2 => by
    refine ⟨G, fun k hk => h k (g1 k hk), g2, SepIn.join (F := fun k => F k ∧ ¬ G k) (fun k hk => ⟨h k hk.1, hk.2⟩) g3 (h2.mono (fun k hk => ⟨⟨hk.1, fun hg => hk.2 (g1 k hg)⟩, fun hf => hk.2 hf.1⟩))⟩

/-- The world as an elder one left it, but for what lies in the parts. -/
structure Mem (w0 W : World) (L : List Asn) : Prop where
  below : Below w0.heap.size w0 W
  sep : SepIn W (fun k => w0.heap.size ≤ k) L
section
variable {w0 W W1 : World} {L L' R : List Asn} {A B : Asn}
theorem Mem.start (w : World) : Mem w w [] := ⟨Below.refl _ _, trivial⟩
theorem Mem.perm (h : Mem w0 W L) (hp : L.Perm L') : Mem w0 W L' := ⟨h.below, h.sep.perm hp⟩
theorem Mem.drop (h : Mem w0 W (A :: L)) : Mem w0 W L := ⟨h.below, by obtain ⟨F, _, _, h3⟩ := h.sep; exact h3.mono (fun k hk => hk.1)⟩
theorem Mem.step (h : Mem w0 W L) (hb : Below W.heap.size W W1) : Mem w0 W1 L :=
  ⟨h.below.trans ⟨hb.os, hb.tape, hb.output, hb.size, fun k hk => hb.block k (Nat.lt_of_lt_of_le hk h.below.size)⟩, h.sep.move (fun k _ hl => hb.block k hl)⟩
theorem Mem.drew (h : Mem w0 W L) : Mem w0 W.drew L := h.step ⟨rfl, rfl, rfl, Nat.le_refl _, fun _ _ => rfl⟩
/-- Something new beside it. -/
theorem Mem.add (h : Mem w0 W L) (hb : Below W.heap.size W W1) (hB : B.H W1 (fun k => W.heap.size ≤ k)) : Mem w0 W1 (B :: L) := by
  refine ⟨(h.step hb).below, fun k => W.heap.size ≤ k, fun k hk => Nat.le_trans h.below.size hk, hB, ?_⟩
  exact (h.sep.bound.move (fun k hk _ => hb.block k hk.2)).mono (fun k hk => ⟨hk.1, fun hg => by have := hk.2; omega⟩)
/-- The first part laid open: whatever becomes of it, the rest stays. -/
theorem Mem.split (h : Mem w0 W (A :: L)) : ∃ F : Nat → Prop, (∀ k, F k → w0.heap.size ≤ k) ∧ A.H W F ∧ ∀ (W1 : World) (R : List Asn), W1.os = W.os → W1.tape = W.tape → W1.output = W.output → W.heap.size ≤ W1.heap.size →
    (∀ k, k < W.heap.size → ¬ F k → W1.heap[k]? = W.heap[k]?) → SepIn W1 (fun k => F k ∨ W.heap.size ≤ k) R → Mem w0 W1 (R ++ L) := by
  obtain ⟨hb, F, h1, h2, h3⟩ := h
  refine ⟨F, h1, h2, fun W1 R e1 e2 e3 e4 e5 e6 => ?_⟩
  refine ⟨⟨e1.trans hb.os, e2.trans hb.tape, e3.trans hb.output, Nat.le_trans hb.size e4, fun k hk => (e5 k (Nat.lt_of_lt_of_le hk hb.size) (fun hf => by have := h1 k hf; omega)).trans (hb.block k hk)⟩, ?_⟩
  refine SepIn.join (F := fun k => F k ∨ W.heap.size ≤ k) (fun k hk => hk.elim (h1 k) (fun h => Nat.le_trans hb.size h)) e6 ?_
  refine (h3.bound.move (fun k hk _ => e5 k hk.2 hk.1.2)).mono (fun k hk => ⟨hk.1.1, fun hf => hf.elim hk.1.2 (fun h => by have := hk.2; omega)⟩)
/-- The first part is turned; the rest stays. -/
theorem Mem.turn (h : Mem w0 W (A :: L)) (hu : ∀ F : Nat → Prop, (∀ k, F k → w0.heap.size ≤ k) → A.H W F → W1.os = W.os ∧ W1.tape = W.tape ∧ W1.output = W.output ∧ W.heap.size ≤ W1.heap.size ∧
    (∀ k, k < W.heap.size → ¬ F k → W1.heap[k]? = W.heap[k]?) ∧ SepIn W1 (fun k => F k ∨ W.heap.size ≤ k) R) : Mem w0 W1 (R ++ L) := by
  obtain ⟨hb, F, h1, h2, h3⟩ := h
  obtain ⟨e1, e2, e3, e4, e5, e6⟩ := hu F h1 h2
  refine ⟨⟨e1.trans hb.os, e2.trans hb.tape, e3.trans hb.output, Nat.le_trans hb.size e4, fun k hk => (e5 k (Nat.lt_of_lt_of_le hk hb.size) (fun hf => by have := h1 k hf; omega)).trans (hb.block k hk)⟩, ?_⟩
  refine SepIn.join (F := fun k => F k ∨ W.heap.size ≤ k) (fun k hk => hk.elim (h1 k) (fun h => Nat.le_trans hb.size h)) e6 ?_
  refine (h3.bound.move (fun k hk _ => e5 k hk.2 hk.1.2)).mono (fun k hk => ⟨hk.1.1, fun hf => hf.elim hk.1.2 (fun h => by have := hk.2; omega)⟩)
theorem Mem.turn1 (h : Mem w0 W (A :: L)) (hu : ∀ F : Nat → Prop, (∀ k, F k → w0.heap.size ≤ k) → A.H W F → W1.os = W.os ∧ W1.tape = W.tape ∧ W1.output = W.output ∧ W.heap.size ≤ W1.heap.size ∧
    (∀ k, k < W.heap.size → ¬ F k → W1.heap[k]? = W.heap[k]?) ∧ B.H W1 (fun k => F k ∨ W.heap.size ≤ k)) : Mem w0 W1 (B :: L) :=
  h.turn (R := [B]) fun F hF hA => by
    obtain ⟨e1, e2, e3, e4, e5, e6⟩ := hu F hF hA
    exact ⟨e1, e2, e3, e4, e5, _, fun _ h => h, e6, trivial⟩
end

/-- Something of a part, all of it told by other parts. -/
def exP {ι : Type} (p : ι → Prop) (L : ι → List Asn) : Asn where
  H := fun W F => ∃ i, p i ∧ SepIn W F (L i)
  mono := fun h ⟨i, h1, h2⟩ => ⟨i, h1, h2.mono h⟩
  move := fun h ⟨i, h1, h2⟩ => ⟨i, h1, h2.move h⟩
  bound := fun ⟨i, h1, h2⟩ => ⟨i, h1, h2.bound⟩
section
variable {w0 W : World} {M : List Asn}
theorem Mem.ex {ι : Type} {p : ι → Prop} {L : ι → List Asn} (h : Mem w0 W (exP p L :: M)) : ∃ i, p i ∧ Mem w0 W (L i ++ M) := by
  obtain ⟨hb, F, h1, ⟨i, hp, hs⟩, h3⟩ := h
  exact ⟨i, hp, hb, SepIn.join h1 hs h3⟩
theorem Mem.mkx {ι : Type} {p : ι → Prop} {L : ι → List Asn} (i : ι) (hp : p i) (h : Mem w0 W (L i ++ M)) : Mem w0 W (exP p L :: M) := by
  obtain ⟨F, h1, h2, h3⟩ := SepIn.append h.sep
  exact ⟨h.below, F, h1, ⟨i, hp, h2⟩, h3⟩
end

/-- A variable's block. -/
def box (g t : Nat) (cs : List Value) : Asn where
  H := fun W F => F g ∧ W.heap[g]? = some (.cells cs.toArray t (0, 0))
  mono := fun h ⟨h1, h2⟩ => ⟨h _ h1, h2⟩
  move := fun h ⟨h1, h2⟩ => ⟨h1, (h _ h1 (Array.getElem?_eq_some_iff.1 h2).1).trans h2⟩
  bound := fun ⟨h1, h2⟩ => ⟨⟨h1, (Array.getElem?_eq_some_iff.1 h2).1⟩, h2⟩
/-- A row of the call's own: its cells. -/
def row (e sz : Nat) (A : Option Addr) (n c : Nat) (cs : List Value) : Asn where
  H := fun W F => W.ownsRow 0 e sz (.slice A n c) n cs ∧ ∀ k, (Value.slice A n c).ownBlock = some k → F k
  mono := fun h ⟨h1, h2⟩ => ⟨h1, fun k hk => h k (h2 k hk)⟩
  move := by
    rintro W W' F h ⟨h1, h2⟩
    refine ⟨?_, h2⟩
    obtain ⟨hl, h3⟩ := h1
    refine ⟨hl, ?_⟩
    rcases h3 with h3 | ⟨g, cap, cur, he, hb, hh, hr⟩
    · exact .inl h3
    · exact .inr ⟨g, cap, cur, he, hb, (h g (h2 g (by rw [he]; rfl)) (Array.getElem?_eq_some_iff.1 hh).1).trans hh, hr⟩
  bound := by
    rintro W F ⟨h1, h2⟩
    refine ⟨h1, fun k hk => ⟨h2 k hk, ?_⟩⟩
    obtain ⟨hl, h3⟩ := h1
    rcases h3 with ⟨he, _⟩ | ⟨g, cap, cur, he, hb, hh, hr⟩
    · rw [he] at hk; cases hk
    · rw [he] at hk
      cases hk
      exact (Array.getElem?_eq_some_iff.1 hh).1

/-- How Go data lie in cells: A: an element's cells and what hangs on it; get, set: its single cells. -/
structure Ty (α : Type) where
  sz : Nat
  z : α
  A : α → List Value → Asn
  get : α → Nat → Option Value
  set : α → Nat → Value → Option α
  len : ∀ {x c W F}, (A x c).H W F → c.length = sz
  one : ∀ {x c W F}, (A x c).H W F → ∀ u ∈ c, u.oneCell' = true
  get_ok : ∀ {x c W F j v}, (A x c).H W F → get x j = some v → c[j]? = some v
  set_ok : ∀ {x c W F j v x'}, (A x c).H W F → set x j v = some x' → (A x' (c.set j v)).H W F ∧ j < sz ∧ v.oneCell' = true
def els {α : Type} (d : Ty α) : List α → List (List Value) → List Asn
  | x :: xs, c :: cs => d.A x c :: els d xs cs
  | _, _ => []
/-- A row of the call's own and all that hangs on it. -/
def own {α : Type} (d : Ty α) (e : Nat) (A : Option Addr) (c : Nat) (xs : List α) : Asn :=
  exP (fun css : List (List Value) => css.length = xs.length) (fun css => row e d.sz A xs.length c css.flatten :: els d xs css)
def rd {α : Type} (d : Ty α) (xs : List α) (i : Int) : α := xs.getD i.toNat d.z
def adr (A : Option Addr) : Addr := A.getD ⟨0, 0, none⟩

/-! ### finding a part in the list -/
class Pk (L : List Asn) (A : Asn) (R : outParam (List Asn)) : Prop where out : L.Perm (A :: R)
instance Pk.here {A : Asn} {L : List Asn} : Pk (A :: L) A L := ⟨List.Perm.refl _⟩
instance (priority := low) Pk.there {A B : Asn} {L R : List Asn} [h : Pk L A R] : Pk (B :: L) A (B :: R) := ⟨(List.Perm.cons B h.out).trans (List.Perm.swap A B R)⟩
/-- A replaced by B where it stands. -/
class Rp (L : List Asn) (A B : Asn) (L' : outParam (List Asn)) : Prop where out : ∃ R, L.Perm (A :: R) ∧ L'.Perm (B :: R)
instance Rp.here {A B : Asn} {L : List Asn} : Rp (A :: L) A B (B :: L) := ⟨L, List.Perm.refl _, List.Perm.refl _⟩
instance (priority := low) Rp.there {A B C : Asn} {L L' : List Asn} [h : Rp L A B L'] : Rp (C :: L) A B (C :: L') := ⟨by
  obtain ⟨R, h1, h2⟩ := h.out
  exact ⟨C :: R, (List.Perm.cons C h1).trans (List.Perm.swap A C R), (List.Perm.cons C h2).trans (List.Perm.swap B C R)⟩⟩
/-- Which block is told how. -/
class BoxAt (L : List Asn) (g : Nat) (t : outParam Nat) (cs : outParam (List Value)) : Prop where mem : ∃ R, L.Perm (box g t cs :: R)
instance BoxAt.here {g t : Nat} {cs : List Value} {L : List Asn} : BoxAt (box g t cs :: L) g t cs := ⟨L, List.Perm.refl _⟩
instance (priority := low) BoxAt.there {B : Asn} {L : List Asn} {g t : Nat} {cs : List Value} [h : BoxAt L g t cs] : BoxAt (B :: L) g t cs := ⟨by
  obtain ⟨R, h⟩ := h.mem
  exact ⟨B :: R, (List.Perm.cons B h).trans (List.Perm.swap _ B R)⟩⟩
class OwnAt (L : List Asn) (A : Option Addr) (c : outParam Nat) (α : outParam Type) (d : outParam (Ty α)) (e : outParam Nat) (xs : outParam (List α)) : Prop where mem : ∃ R, L.Perm (own d e A c xs :: R)
instance OwnAt.here {α : Type} {d : Ty α} {e : Nat} {A : Option Addr} {c : Nat} {xs : List α} {L : List Asn} : OwnAt (own d e A c xs :: L) A c α d e xs := ⟨L, List.Perm.refl _⟩
instance (priority := low) OwnAt.there {α : Type} {d : Ty α} {e : Nat} {A : Option Addr} {c : Nat} {xs : List α} {L : List Asn} {B : Asn} [h : OwnAt L A c α d e xs] : OwnAt (B :: L) A c α d e xs := ⟨by
  obtain ⟨R, h⟩ := h.mem
  exact ⟨B :: R, (List.Perm.cons B h).trans (List.Perm.swap _ B R)⟩⟩
/-- Lists of cells, by literal places. -/
class Nth (cs : List Value) (j : Nat) (v : outParam Value) : Prop where out : cs[j]? = some v
instance Nth.zero {v : Value} {cs : List Value} : Nth (v :: cs) 0 v := ⟨rfl⟩
instance Nth.succ {u v : Value} {cs : List Value} {j : Nat} [h : Nth cs j v] : Nth (u :: cs) (j + 1) v := ⟨by rw [List.getElem?_cons_succ]; exact h.out⟩
class Stl (cs : List Value) (j : Nat) (v : Value) (cs' : outParam (List Value)) : Prop where out : cs.set j v = cs' ∧ j < cs.length
instance Stl.zero {u v : Value} {cs : List Value} : Stl (u :: cs) 0 v (v :: cs) := ⟨rfl, by simp⟩
instance Stl.succ {u v : Value} {cs cs' : List Value} {j : Nat} [h : Stl cs j v cs'] : Stl (u :: cs) (j + 1) v (u :: cs') := ⟨by rw [List.set_cons_succ, h.out.1], by simpa using h.out.2⟩
class Sub (cs : List Value) (j m : Nat) (ws : outParam (List Value)) : Prop where out : (cs.drop j).take m = ws ∧ j + m ≤ cs.length
instance Sub.nil {cs : List Value} : Sub cs 0 0 [] := ⟨by simp, by simp⟩
instance Sub.take {u : Value} {cs ws : List Value} {m : Nat} [h : Sub cs 0 m ws] : Sub (u :: cs) 0 (m + 1) (u :: ws) := ⟨by have := h.out.1; simp at this ⊢; exact this, by have := h.out.2; simp at this ⊢; omega⟩
instance Sub.skip {u : Value} {cs ws : List Value} {j m : Nat} [h : Sub cs j m ws] : Sub (u :: cs) (j + 1) m ws := ⟨by have := h.out.1; simpa using this, by have := h.out.2; simp at this ⊢; omega⟩
/-- Some cells from place j on are overwritten. -/
def puts : List Value → Nat → List Value → List Value
  | cs, _, [] => cs
  | cs, j, v :: r => puts (cs.set j v) (j + 1) r
class Pts (cs : List Value) (j : Nat) (ws : List Value) (cs' : outParam (List Value)) : Prop where out : puts cs j ws = cs' ∧ j + ws.length ≤ cs.length
instance Pts.nil {cs : List Value} : Pts cs 0 [] cs := ⟨rfl, by simp⟩
theorem puts_cons (u : Value) : ∀ (ws cs : List Value) (j : Nat), puts (u :: cs) (j + 1) ws = u :: puts cs j ws
  | [], _, _ => rfl
  | v :: r, cs, j => by simp only [puts, List.set_cons_succ]; exact puts_cons u r _ _
instance Pts.cons {u v : Value} {cs ws cs' : List Value} [h : Pts cs 0 ws cs'] : Pts (u :: cs) 0 (v :: ws) (v :: cs') := ⟨by simp only [puts, List.set_cons_zero]; rw [puts_cons, h.out.1], by have := h.out.2; simp at this ⊢; omega⟩
instance Pts.skip {u w : Value} {cs ws cs' : List Value} {j : Nat} [h : Pts cs j (w :: ws) cs'] : Pts (u :: cs) (j + 1) (w :: ws) (u :: cs') := ⟨by rw [puts_cons, h.out.1], by have := h.out.2; simp at this ⊢; omega⟩

section
variable {w0 W W1 : World} {L L' R : List Asn} {A B : Asn}
theorem Mem.pk [h : Pk L A R] (hm : Mem w0 W L) : Mem w0 W (A :: R) := hm.perm h.out
theorem Mem.heap {g t : Nat} {cs : List Value} [h : BoxAt L g t cs] (hm : Mem w0 W L) : W.heap[g]? = some (.cells cs.toArray t (0, 0)) := by
  obtain ⟨R, hp⟩ := h.mem
  obtain ⟨F, _, ⟨_, h2⟩, _⟩ := (hm.perm hp).sep
  exact h2
/-- Cells of a variable's block are turned. -/
theorem Mem.put {g t : Nat} {cs cs' : List Value} [h : Rp L (box g t cs) (box g t cs') L'] (hm : Mem w0 W L) (hh : W1.heap[g]? = some (.cells cs'.toArray t (0, 0))) (hg : W.grownBy W1 (some g)) : Mem w0 W1 L' := by
  obtain ⟨R, h1, h2⟩ := h.out
  refine Mem.perm (L := box g t cs' :: R) ?_ h2.symm
  refine (hm.perm h1).turn1 (fun F hF hA => ?_)
  obtain ⟨hFg, _⟩ := hA
  exact ⟨hg.os, hg.tape, hg.output, hg.size, fun k hk hn => hg.block k hk (fun e => hn (Option.some.inj e ▸ hFg)), .inl hFg, hh⟩
end

/-- A value's cells, written out. -/
class Cel (v : Value) (ws : outParam (List Value)) : Prop where out : v.cells.toList = ws
instance Cel.int {k : IntKind} {m : Int} : Cel (.int k m) [.int k m] := ⟨rfl⟩
instance Cel.bool {b : Bool} : Cel (.bool b) [.bool b] := ⟨rfl⟩
instance Cel.string {s : ByteArray} : Cel (.string s) [.string s] := ⟨rfl⟩
instance Cel.slice {A : Option Addr} {l c : Nat} : Cel (.slice A l c) [.slice A l c] := ⟨rfl⟩
instance Cel.pointer {A : Option Addr} : Cel (.pointer A) [.pointer A] := ⟨rfl⟩
instance Cel.agg {ws : List Value} : Cel (.agg ws.toArray) ws := ⟨rfl⟩
/-- Another order, some parts left out. -/
class Sb (L L' : List Asn) : Prop where out : ∀ (W : World) (ok : Nat → Prop), SepIn W ok L → SepIn W ok L'
instance (priority := high) Sb.refl {L : List Asn} : Sb L L := ⟨fun _ _ h => h⟩
instance Sb.cons {L R L' : List Asn} {A : Asn} [h1 : Pk L A R] [h2 : Sb R L'] : Sb L (A :: L') := ⟨fun W ok h => by
  obtain ⟨F, f1, f2, f3⟩ := h.perm h1.out
  exact ⟨F, f1, f2, h2.out _ _ f3⟩⟩
instance (priority := low) Sb.drop {L L' : List Asn} {B : Asn} [h : Sb L L'] : Sb (B :: L) L' := ⟨fun W ok ⟨F, _, _, f3⟩ => h.out _ _ (f3.mono (fun k hk => hk.1))⟩
theorem Mem.sb {w0 W : World} {L L' : List Asn} (hm : Mem w0 W L) [h : Sb L L'] : Mem w0 W L' := ⟨hm.below, h.out _ _ hm.sep⟩

/-! ### walking: variables' blocks -/
section
variable {P : Program} {n : Nat} {ops : Array Oper} {Q : Exit → Act → World → Prop} {rest : List Oper} {E : Env} {w0 W : World} {L L' R : List Asn}
variable {d : Nat} {ty pt : TypeId} {pos : String} {after : Array Edge} {x y : Operand} {v : Value} {g t j : Nat} {cs ws cs' : List Value}
class One (P : Program) (t : TypeId) : Prop where out : ∃ u, P.underlying t = some u ∧ (match u with | .struct _ | .array _ _ => false | _ => true) = true
class Agg (P : Program) (t : TypeId) (m : outParam Nat) : Prop where out : ∃ u, P.underlying t = some u ∧ (match u with | .struct _ | .array _ _ => true | _ => false) = true ∧ (P.info? t).map (·.size) = some m
/-- The zero value's cells. -/
class Zer (P : Program) (t : TypeId) (cs : outParam (List Value)) : Prop where out : ∃ i z, P.info? t = some i ∧ i.zero = some z ∧ z.cells.toList = cs
theorem run_new (W : World) (t : Nat) (v : Value) : (newVar t v).run P W = .ok ⟨W.heap.size, 0, none⟩ (W.alloc (.cells v.cells t)) := by
  rfl
theorem Mem.alloc (hm : Mem w0 W L) (t : Nat) (cs : List Value) : Mem w0 (W.alloc (.cells cs.toArray t)) (box W.heap.size t cs :: L) := by
  refine hm.add ((Below.refl _ _).alloc (Nat.le_refl _) _) ⟨Nat.le_refl _, heap_alloc_new W _⟩
theorem s_box (hm : Mem w0 W L) (hx : ev E x = some v) [hcl : Cel v cs] (hn : Nat.blt d n = true) (h : ∀ g W1, Mem w0 W1 (box g t cs :: L) → WL P n ops Q rest ((d, .pointer (some ⟨g, 0, none⟩)) :: E) W1) :
    WL P n ops Q (⟨some d, .box t x, ty, pos, after, none⟩ :: rest) E W :=
  have hc := hcl.out
  s_run (W1 := W.alloc (.cells v.cells t)) rfl rfl hn (fun a ha => by simp [execOp, ha.eval hx, Instr.box, run_new]) (h W.heap.size _ (by subst hc; simpa using hm.alloc t v.cells.toList))
theorem s_alloc [hz : Zer P t cs] (hm : Mem w0 W L) (hn : Nat.blt d n = true) (h : ∀ g W1, Mem w0 W1 (box g t cs :: L) → WL P n ops Q rest ((d, .pointer (some ⟨g, 0, none⟩)) :: E) W1) :
    WL P n ops Q (⟨some d, .alloc t, ty, pos, after, none⟩ :: rest) E W := by
  obtain ⟨i, z, hi, hzz, rfl⟩ := hz.out
  exact s_run (W1 := W.alloc (.cells z.cells t)) rfl rfl hn (fun a ha => by simp [execOp, Instr.alloc, zeroValue, typeInfo, hi, hzz, run_new]) (h W.heap.size _ (by simpa using hm.alloc t z.cells.toList))
/-- What a load yields in every world where the parts lie. -/
structure LV (P : Program) (E : Env) (w0 : World) (L : List Asn) (op : Op) (v : Value) : Prop where out : ∀ w, Mem w0 w L → ∀ (n : Nat) (a : Act), Fits n E a → ∀ dst ty pos after gd, (execOp a.eval ⟨dst, op, ty, pos, after, gd⟩).run P w = .ok (.value v) w
theorem PV.lv {op : Op} (h : PV P E op v) : LV P E w0 L op v := ⟨fun w _ n a ha _ _ _ _ _ => h.out n a ha _ _ _ _ _ _⟩
theorem s_lv {op : Op} (hm : Mem w0 W L) (hl : LV P E w0 L op v) (hn : Nat.blt d n = true) (h : WL P n ops Q rest ((d, v) :: E) W) : WL P n ops Q (⟨some d, op, ty, pos, after, none⟩ :: rest) E W := s_run rfl rfl hn (fun a ha => hl.out W hm n a ha _ _ _ _ _) h
structure GV (P : Program) (E : Env) (w0 : World) (L : List Asn) (op : Op) (K : Value → Prop) : Prop where out : ∃ v, LV P E w0 L op v ∧ K v
theorem gv {op : Op} {K : Value → Prop} (hp : LV P E w0 L op v) (h : K v) : GV P E w0 L op K := ⟨v, hp, h⟩
theorem s_gv {t : TypeId} (hm : Mem w0 W L) (hn : Nat.blt d n = true) (h : GV P E w0 L (.load t x) fun v => WL P n ops Q rest ((d, v) :: E) W) : WL P n ops Q (⟨some d, .load t x, ty, pos, after, none⟩ :: rest) E W := by
  obtain ⟨v, hp, h⟩ := h.out
  exact s_lv hm hp hn h
theorem gGV {op : Op} {K : Value → Prop} (h : GV P E w0 L op K) : GV P E w0 L op K := h
/-- One cell of a variable. -/
theorem p_load [hB : BoxAt L g t cs] [hv : Nth cs j v] [hO : One P pt] (hx : ev E x = some (.pointer (some ⟨g, j, none⟩))) : LV P E w0 L (.load pt x) v :=
  ⟨fun W hm n a ha dst ty pos after gd => by
    obtain ⟨u, hu, hu2⟩ := hO.out
    have hc : W.cell? ⟨g, j, none⟩ = some v := by rw [cell_of_row W g j _ t (0, 0) hm.heap]; simpa using hv.out
    have hl : (loadVar pt ⟨g, j, none⟩).run P W = .ok v W := by
      unfold loadVar isAgg
      cases u <;> simp_all [underlying, load, Sem.run]
    simp [execOp, ha.eval hx, Instr.loadAt, Instr.sureAddr, hl]⟩
/-- Several cells of a variable: a struct's value. -/
theorem p_loads {m : Nat} [hB : BoxAt L g t cs] [hA : Agg P pt m] [hv : Sub cs j m ws] (hx : ev E x = some (.pointer (some ⟨g, j, none⟩))) : LV P E w0 L (.load pt x) (.agg ws.toArray) :=
  ⟨fun W hm n a ha dst ty pos after gd => by
    obtain ⟨u, hu, hu2, hi⟩ := hA.out
    obtain ⟨h1, h2⟩ := hv.out
    have hr : W.rangeAt g j ws := by
      intro i z hz
      rw [cell_of_row W g (j + i) _ t (0, 0) hm.heap]
      rw [← h1] at hz
      rw [List.getElem?_take] at hz
      split at hz
      · simpa [List.getElem?_drop] using hz
      · cases hz
    have hl : ws.length = m := by rw [← h1]; simp; omega
    have := run_loadVar_mid (P := P) W g j pt ws u hr hu (by cases u <;> simp_all [TypeDesc.isRow]) (by rw [hi, hl])
    simp [execOp, ha.eval hx, Instr.loadAt, Instr.sureAddr, this]⟩
theorem grown_setCells (g : Nat) : ∀ (vs : List Value) (o : Nat) (w : World), w.grownBy (w.setCells g o vs) (some g)
  | [], _, w => World.grownBy.refl w _
  | v :: r, o, w => by
    have h1 : w.grownBy (w.setCell ⟨g, o, none⟩ v) (some g) := ⟨rfl, rfl, rfl, by simp [World.setCell], fun k _ hk => Below.heap_setCell _ _ _ k (fun e => hk (by rw [e]))⟩
    have h2 := grown_setCells g r (o + 1) (w.setCell ⟨g, o, none⟩ v)
    exact ⟨h2.os.trans h1.os, h2.tape.trans h1.tape, h2.output.trans h1.output, Nat.le_trans h1.size h2.size, fun k hk hn => (h2.block k (Nat.lt_of_lt_of_le hk h1.size) hn).trans (h1.block k hk hn)⟩
theorem setCell_heap (w : World) (g o : Nat) (v : Value) (old : List Value) (t : TypeId) (fr : Nat × Nat) (hg : w.heap[g]? = some (.cells old.toArray t fr)) : (w.setCell ⟨g, o, none⟩ v).heap[g]? = some (.cells (old.set o v).toArray t fr) := by
  simp [World.setCell, Array.getElem?_modify, hg]
theorem setCells_heap (g : Nat) (t : TypeId) (fr : Nat × Nat) : ∀ (vs : List Value) (o : Nat) (w : World) (old : List Value), w.heap[g]? = some (.cells old.toArray t fr) → (w.setCells g o vs).heap[g]? = some (.cells (puts old o vs).toArray t fr)
  | [], _, _, _, h => h
  | v :: r, o, w, old, h => setCells_heap g t fr r (o + 1) _ _ (setCell_heap w g o v old t fr h)
theorem there_box {w : World} {g o : Nat} {old : List Value} {t : TypeId} (hg : w.heap[g]? = some (.cells old.toArray t (0, 0))) {n : Nat} (h : o + n ≤ old.length) : w.there g o n := by
  intro j hj
  have hlt : o + j < old.length := by omega
  exact ⟨by simp [World.cell?, hg, hlt], by simp [World.frozen?, hg]⟩
theorem run_store (W : World) (g o : Nat) (ty : TypeId) (v : Value) (cs : List Value) (hv : v.cells.toList = cs) (ht : W.there g o cs.length) (hi : (P.info? ty).map (·.size) = some cs.length) (h1 : ∀ u ∈ cs, u.oneCell' = true) :
    (storeVar ty ⟨g, o, none⟩ v).run P W = .ok () (W.setCells g o cs) := by
  have hm := run_storeVar_mid (P := P) W g o ty cs.toArray (by simpa using ht) (by simpa using hi) (by rw [← Array.all_toList]; simpa [List.all_eq_true] using h1)
  have e : v.cells = cs.toArray := by rw [← hv]
  unfold storeVar at hm ⊢
  rw [e]
  simpa [Value.cells] using hm
/-- Cells of a variable are overwritten. -/
theorem s_store {m : Nat} [hB : BoxAt L g t cs] [hS : Siz P pt m] (hm : Mem w0 W L) (hx : ev E x = some (.pointer (some ⟨g, j, none⟩))) (hy : ev E y = some v) [hv : Cel v ws] (hl : ws.length = m) (h1 : ws.all (·.oneCell') = true)
    [hp : Pts cs j ws cs'] [hr : Rp L (box g t cs) (box g t cs') L'] (h : ∀ W1, Mem w0 W1 L' → WL P n ops Q rest E W1) :
    WL P n ops Q (⟨none, .store pt x y, ty, pos, after, none⟩ :: rest) E W := by
  obtain ⟨e, hlen⟩ := hp.out
  have hh : (W.setCells g j ws).heap[g]? = some (.cells cs'.toArray t (0, 0)) := by rw [← e]; exact setCells_heap g t (0, 0) ws j W cs hm.heap
  refine s_act (W1 := W.setCells g j ws) rfl rfl (fun a ha => ?_) (h _ (hm.put (cs := cs) (cs' := cs') hh (grown_setCells g ws j W)))
  have := run_store (P := P) W g j pt v ws hv.out (there_box hm.heap hlen) (by rw [hS.out, hl]) (by simpa [List.all_eq_true] using h1)
  simp [execOp, ha.eval hx, ha.eval hy, Instr.storeAt, Instr.sureAddr, this]
/-- A result that lies in memory. -/
theorem ret_cell {fn : Func} {R : Ending → World → Prop} {p m : Nat} [hB : BoxAt L g t cs] [hA : Agg P pt m] (hm : Mem w0 W L) (hf : fn.results = #[.cell p pt]) (hp : look E p = some (.pointer (some ⟨g, 0, none⟩))) (hl : cs.length = m) (h : R (.returned (.agg cs.toArray)) W) : WN n .ret (bodyPost P fn R) E W := ⟨fun a ha => by
  obtain ⟨u, hu, hu2, hi⟩ := hA.out
  exact ⟨ha.defers, _, results_cell_row hf _ _ g t cs.toArray (0, 0) u (ha.slots p _ hp) hm.heap hu (by cases u <;> first | rfl | (simp at hu2)) (by rw [hi]; simp [hl]), h⟩⟩
end

/-! ### what a cut's types and functions are asked -/
theorem zerB {P : Program} {t : TypeId} {cs : List Value} (h : ((P.info? t).bind fun i => i.zero.map fun z => z.cells.toList) = some cs) : Zer P t cs := ⟨by
  obtain ⟨i, hi, hz⟩ := Option.bind_eq_some_iff.1 h
  obtain ⟨z, hz, hc⟩ := Option.map_eq_some_iff.1 hz
  exact ⟨i, z, hi, hz, hc⟩⟩
def eltOk (P : Program) (e sz bytes : Nat) : Bool :=
  match P.info? e with
  | some i => (match i.zero with | some z => z.cells.size == sz | none => false) && i.size == sz && i.bytes == bytes && Nat.blt 0 sz && Nat.blt 0 bytes
  | none => false
/-- An element's cells and bytes. -/
class Elt (P : Program) (e : Nat) (sz bytes : outParam Nat) : Prop where out : eltOk P e sz bytes = true
theorem eltB {P : Program} {e sz bytes : Nat} (h : eltOk P e sz bytes = true) : Elt P e sz bytes := ⟨h⟩
theorem Elt.spec {P : Program} {e sz bytes : Nat} (h : Elt P e sz bytes) : ∃ i z, P.info? e = some i ∧ i.zero = some z ∧ z.cells.size = sz ∧ i.size = sz ∧ i.bytes = bytes ∧ 0 < sz ∧ 0 < bytes := by
  have h := h.out
  unfold eltOk at h
  split at h
  · rename_i i hi
    split at h
    · rename_i z hz
      simp [Nat.blt_eq] at h
      exact ⟨i, z, hi, hz, h.1.1.1.1, h.1.1.1.2, h.1.1.2, h.1.2, h.2⟩
    · simp at h
  · cases h
class Fun (P : Program) (f : Nat) (fn : outParam Func) : Prop where
  out : P.funcs[f]? = some fn
  name : (fn.name == "runtime.NumGoroutine") = false
  body : fn.body.isSome = true
section
variable {P : Program} {n : Nat} {ops : Array Oper} {Q : Exit → Act → World → Prop} {rest : List Oper} {E : Env} {W : World} {d : Nat} {ty : TypeId} {pos : String} {after : Array Edge}
theorem s_fn {f : FuncId} {fn : Func} {as : List Operand} {ts : Array TypeId} {vs : List Value} [hf : Fun P f fn] (hvs : evs E as = some vs) (hn : Nat.blt d n = true) (h : Calls P f vs.toArray W fun e w => ∃ v, e = .returned v ∧ WL P n ops Q rest ((d, v) :: E) w) :
    WL P n ops Q (⟨some d, .call { callee := .value (.func f), args := as.toArray, argTypes := ts }, ty, pos, after, none⟩ :: rest) E W := s_call hf.out hf.name hf.body hvs hn h
end

/-! ### struct values and literals -/
/-- Where a struct's fields lie, and their sizes. -/
class Lay (P : Program) (t : TypeId) (pl : outParam (List (Nat × Nat))) : Prop where out : ∃ fs, P.underlying t = some (.struct fs) ∧ fs.toList.mapM (fun f => (P.info? f.type).map fun i => (f.offset, i.size)) = some pl
theorem layB {P : Program} {t : TypeId} {pl : List (Nat × Nat)} (h : (match P.underlying t with | some (.struct fs) => fs.toList.mapM (fun f => (P.info? f.type).map fun i => (f.offset, i.size)) | _ => none) = some pl) : Lay P t pl := ⟨by
  split at h
  · rename_i fs hu; exact ⟨fs, hu, h⟩
  · cases h⟩
class PlAt (pl : List (Nat × Nat)) (i : Nat) (off sz : outParam Nat) : Prop where out : pl[i]? = some (off, sz)
instance PlAt.zero {o s : Nat} {r : List (Nat × Nat)} : PlAt ((o, s) :: r) 0 o s := ⟨rfl⟩
instance PlAt.succ {p : Nat × Nat} {r : List (Nat × Nat)} {i o s : Nat} [h : PlAt r i o s] : PlAt (p :: r) (i + 1) o s := ⟨by rw [List.getElem?_cons_succ]; exact h.out⟩
class Len (ws : List Value) (k : outParam Nat) : Prop where out : ws.length = k
instance Len.nil : Len [] 0 := ⟨rfl⟩
instance Len.cons {w : Value} {ws : List Value} {k : Nat} [h : Len ws k] : Len (w :: ws) (k + 1) := ⟨by rw [List.length_cons, h.out]⟩
/-- A struct's cells out of its parts. -/
class Bld (pl : List (Nat × Nat)) (cs : List Value) (vs : List (Nat × Value)) (cs' : outParam (List Value)) : Prop where out : Instr.fill (pl.toArray[·]?) cs.toArray vs = some cs'.toArray
instance Bld.nil {pl : List (Nat × Nat)} {cs : List Value} : Bld pl cs [] cs := ⟨rfl⟩
theorem fill_puts (ws : List Value) : ∀ (cs : List Value) (off k : Nat), (ws.toArray.zipIdx k).foldl (fun cs (c, j) => cs.setIfInBounds (off + j) c) cs.toArray = (puts cs (off + k) ws).toArray := by
  induction ws with
  | nil => intro cs off k; rfl
  | cons w r ih =>
    intro cs off k
    have h := ih (cs.set (off + k) w) off (k + 1)
    simp only [puts]
    rw [← Array.foldl_toList] at h ⊢
    simp only [Array.toList_zipIdx, List.zipIdx_cons, List.foldl_cons] at h ⊢
    rw [Nat.add_assoc, ← h]
    simp
instance Bld.cons {pl : List (Nat × Nat)} {cs cs1 cs2 ws : List Value} {i off k : Nat} {v : Value} {r : List (Nat × Value)} [h1 : PlAt pl i off k] [h2 : Cel v ws] [h3 : Len ws k] [h4 : Pts cs off ws cs1] [h5 : Bld pl cs1 r cs2] : Bld pl cs ((i, v) :: r) cs2 := ⟨by
  have hv : v.cells = ws.toArray := by rw [← h2.out]
  obtain ⟨e1, e2⟩ := h4.out
  have h6 : pl.toArray[i]? = some (off, k) := by simpa using h1.out
  unfold Instr.fill
  simp only [h6, hv]
  have h7 := h3.out
  rw [if_neg (by simp [h3.out]; omega)]
  have := fill_puts ws cs off 0
  simp only [Nat.add_zero] at this
  rw [this, e1]
  exact h5.out⟩
def evp (E : Env) : List (Nat × Operand) → Option (List (Nat × Value))
  | [] => some []
  | (i, x) :: r => match ev E x, evp E r with | some v, some vs => some ((i, v) :: vs) | _, _ => none
theorem Fits.evp {n : Nat} {E : Env} {a : Act} (h : Fits n E a) : ∀ {xs : List (Nat × Operand)} {vs : List (Nat × Value)}, Sp.evp E xs = some vs → xs.map (fun p => (p.1, a.eval p.2)) = vs
  | [], vs, hx => by cases hx; rfl
  | (i, x) :: r, vs, hx => by
    unfold Sp.evp at hx
    cases hv : ev E x with
    | none => simp [hv] at hx
    | some v =>
      cases hvs : Sp.evp E r with
      | none => simp [hv, hvs] at hx
      | some us =>
        simp only [hv, hvs] at hx
        cases hx
        rw [List.map_cons, h.eval hv, h.evp hvs]
section
variable {P : Program} {n : Nat} {ops : Array Oper} {Q : Exit → Act → World → Prop} {rest : List Oper} {E : Env} {w0 W : World} {L : List Asn} {d : Nat} {ty : TypeId} {pos : String} {after : Array Edge} {t : TypeId}
theorem run_mapM_opt {α β : Type} (g : α → Sem β) (k : α → Option β) (hg : ∀ f b W, k f = some b → (g f).run P W = .ok b W) : ∀ (l : List α) (bs : List β) (W : World), l.mapM k = some bs → (l.mapM g).run P W = .ok bs W
  | [], bs, W, h => by simp at h; subst h; rfl
  | f :: r, bs, W, h => by
    rw [List.mapM_cons] at h
    obtain ⟨p, hp, h⟩ := Option.bind_eq_some_iff.1 h
    obtain ⟨q, hq, h⟩ := Option.bind_eq_some_iff.1 h
    have h : some (p :: q) = some bs := h
    cases h
    rw [List.mapM_cons]
    simp only [Sem.run_bind, hg f p W hp, Result.andThen_ok, run_mapM_opt g k hg r q W hq, Sem.run_pure]
theorem p_build {parts : List (Nat × Operand)} {vs : List (Nat × Value)} {pl : List (Nat × Nat)} {zs cs : List Value} (hv : evp E parts = some vs) [hl : Lay P t pl] [hz : Zer P t zs] [hb : Bld pl zs vs cs] : PV P E (.build t parts.toArray) (.agg cs.toArray) :=
  ⟨fun n a ha dst ty pos after gd W => by
    obtain ⟨i, z, hi, hzz, hzc⟩ := hz.out
    obtain ⟨fs, hu, hm⟩ := hl.out
    have hzc' : z.cells = zs.toArray := by rw [← hzc]
    have hk : ∀ g : Field → Sem (Nat × Nat), (∀ f j W, P.info? f.type = some j → (g f).run P W = .ok (f.offset, j.size) W) → (fs.mapM g).run P W = .ok pl.toArray W := fun g hg => by
      rw [Array.mapM_eq_mapM_toList]
      simp [run_mapM_opt g (fun f => (P.info? f.type).map fun i => (f.offset, i.size)) (fun f b W hb => by
        obtain ⟨j, hj, rfl⟩ := Option.map_eq_some_iff.1 hb
        exact hg f j W hj) _ _ W hm]
    have hk2 := hk (fun f => do pure (f.offset, ← sizeOf f.type)) (fun f j W hj => by simp [sizeOf, typeInfo, hj])
    have hp : (parts.toArray.map fun (i, x) => (i, a.eval x)).toList = vs := by rw [← ha.evp hv]; simp
    show ((Instr.build t (parts.toArray.map fun (i, x) => (i, a.eval x)) >>= fun v => pure (Next.value v)) : Sem Next).run P W = _
    have hb2 : (Instr.build t (parts.toArray.map fun (i, x) => (i, a.eval x))).run P W = .ok (.agg cs.toArray) W := by
      unfold Instr.build
      simp only [zeroValue, typeInfo, Sem.run_bind, run_program, Result.andThen_ok, hi, Sem.run_pure, hzz, underlying, hu]
      rw [hk2]
      simp only [Result.andThen_ok, hp, hzc', hb.out, Sem.run_pure]
    simp only [Sem.run_bind, hb2, Result.andThen_ok, Sem.run_pure]⟩
end

section
variable {P : Program} {n : Nat} {ops : Array Oper} {Q : Exit → Act → World → Prop} {rest : List Oper} {E : Env} {w0 W : World} {L : List Asn} {d : Nat} {ty : TypeId} {pos : String} {after : Array Edge} {t e sz bytes : Nat} {x : Operand} {v : Value} {ws : List Value}
/-- A slice literal of one element: its block. -/
theorem s_lit1 [hU : Und P t (.slice e)] [hE : Elt P e sz bytes] (hm : Mem w0 W L) (hx : ev E x = some v) (hn : Nat.blt d n = true) (h3 : Nat.ble sz 16777216 = true) [h2 : Cel v ws] [hL : Len ws sz] (h : ∀ g W1, Mem w0 W1 (box g e ws :: L) → WL P n ops Q rest ((d, .slice (some ⟨g, 0, none⟩) 1 1) :: E) W1) :
    WL P n ops Q (⟨some d, .buildSlice t 1 #[(0, x)], ty, pos, after, none⟩ :: rest) E W := by
  obtain ⟨i, z, hi, hz, hzs, hs, hb, hs0, hb0⟩ := hE.spec
  have h3 := Nat.le_of_ble_eq_true h3
  have hv : v.cells = ws.toArray := by rw [← h2.out]
  refine s_run (W1 := W.alloc (.cells ws.toArray e)) rfl rfl hn (fun a ha => ?_) (h W.heap.size _ (hm.alloc e ws))
  have hfill : ∀ cs : Array Value, cs.size = sz → Instr.fill (fun i => some (i * sz, sz)) cs [(0, v)] = some ws.toArray := by
    intro cs hcs
    have hw := hL.out
    unfold Instr.fill
    simp only [hv, Nat.zero_mul, Nat.zero_add]
    rw [if_neg (by simp [hw, hcs])]
    have h4 := fill_puts ws cs.toList 0 0
    simp only [Nat.zero_add] at h4
    have h5 : ∀ (ws cs : List Value), ws.length = cs.length → puts cs 0 ws = ws := by
      intro ws
      induction ws with
      | nil => intro cs h; cases cs with
        | nil => rfl
        | cons _ _ => simp at h
      | cons w r ih => intro cs h; cases cs with
        | nil => simp at h
        | cons c cs => simp only [puts, List.set_cons_zero]; rw [puts_cons, ih cs (by simpa using h)]
    rw [h5 ws cs.toList (by simp [hw, hcs])] at h4
    unfold Instr.fill
    have h6 : cs = cs.toList.toArray := by simp
    rw [h6]
    exact congrArg some h4
  have hrun : (Instr.buildSlice t 1 #[(0, v)]).run P W = .ok (.slice (some ⟨W.heap.size, 0, none⟩) 1 1) (W.alloc (.cells ws.toArray e)) := by
    have hz2 : sz ≠ 0 := by omega
    have h7 : ¬ 16777216 < sz := by omega
    simp [Instr.buildSlice, underlying, hU.out, sizeOf, typeInfo, hi, hs, zeroValue, hz, hz2, h7, newRow, World.alloc_eq]
    rw [hfill _ (by simp)]
    simp
  simp [execOp, ha.eval hx, hrun]
end
end Go.Proofs.Ytjeijflpejhkhaa.Sp
