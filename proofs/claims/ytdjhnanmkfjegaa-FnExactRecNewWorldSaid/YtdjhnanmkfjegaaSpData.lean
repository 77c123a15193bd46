/- The program's data as Lean data, and how they lie in cells. No condition. -/
import Derived.Test.YtdjhnanmkfjegaaSpRow
namespace Go.Proofs.Ytdjhnanmkfjegaa.Sp
open Go Go.RowKit
set_option linter.unusedVariables false
set_option linter.unusedSimpArgs false

/-- A kind told by its cells; i: where the slices in it lie. -/
def nest {α ι : Type} (sz : Nat) (z : α) (enc : α → ι → List Value) (parts : α → ι → List Asn) (get : α → Nat → Option Value) (set : α → Nat → Value → Option α) (hl : ∀ x i, (enc x i).length = sz) (h1 : ∀ x i, ∀ u ∈ enc x i, u.oneCell' = true)
    (hg : ∀ x j v i, get x j = some v → (enc x i)[j]? = some v) (hs : ∀ x j v x' i, set x j v = some x' → (enc x i).set j v = enc x' i ∧ parts x' i = parts x i ∧ j < sz ∧ v.oneCell' = true) : Ty α where
  sz := sz
  z := z
  A := fun x c => exP (fun i => c = enc x i) (parts x)
  get := get
  set := set
  len := by rintro x c W F ⟨i, rfl, _⟩; exact hl x i
  one := by rintro x c W F ⟨i, rfl, _⟩; exact h1 x i
  get_ok := by rintro x c W F j v ⟨i, rfl, _⟩ h; exact hg x j v i h
  set_ok := by
    rintro x c W F j v x' ⟨i, rfl, hp⟩ h
    obtain ⟨e1, e2, e3, e4⟩ := hs x j v x' i h
    exact ⟨⟨i, e1, by rw [e2]; exact hp⟩, e3, e4⟩

def setI {α : Type} (f : Int → α) : Value → Option α
  | .int .i64 n => some (f n)
  | _ => none
def setB {α : Type} (f : Bool → α) : Value → Option α
  | .bool b => some (f b)
  | _ => none
def setS {α : Type} (f : ByteArray → α) : Value → Option α
  | .string s => some (f s)
  | _ => none
theorem setI_some {α : Type} {f : Int → α} {v : Value} {x : α} (h : setI f v = some x) : ∃ n, v = .int .i64 n ∧ x = f n := by
  unfold setI at h
  split at h
  · cases h; exact ⟨_, rfl, rfl⟩
  · cases h
theorem setB_some {α : Type} {f : Bool → α} {v : Value} {x : α} (h : setB f v = some x) : ∃ n, v = .bool n ∧ x = f n := by
  unfold setB at h
  split at h
  · cases h; exact ⟨_, rfl, rfl⟩
  · cases h
theorem setS_some {α : Type} {f : ByteArray → α} {v : Value} {x : α} (h : setS f v = some x) : ∃ n, v = .string n ∧ x = f n := by
  unfold setS at h
  split at h
  · cases h; exact ⟨_, rfl, rfl⟩
  · cases h

def tInt : Ty Int := nest (ι := Unit) 1 0 (fun n _ => [.int .i64 n]) (fun _ _ => []) (fun n j => match j with | 0 => some (.int .i64 n) | _ => none) (fun n j v => match j with | 0 => setI id v | _ => none)
  (fun _ _ => rfl) (fun _ _ u hu => by simp at hu; subst hu; rfl)
  (fun x j v i h => by match j with | 0 => simpa using h | j + 1 => simp at h)
  (fun x j v x' i h => by match j with
    | 0 => obtain ⟨n, rfl, rfl⟩ := setI_some h; exact ⟨rfl, rfl, by decide, rfl⟩
    | j + 1 => simp at h)
def tStr : Ty ByteArray := nest (ι := Unit) 1 ⟨#[]⟩ (fun n _ => [.string n]) (fun _ _ => []) (fun n j => match j with | 0 => some (.string n) | _ => none) (fun n j v => match j with | 0 => setS id v | _ => none)
  (fun _ _ => rfl) (fun _ _ u hu => by simp at hu; subst hu; rfl)
  (fun x j v i h => by match j with | 0 => simpa using h | j + 1 => simp at h)
  (fun x j v x' i h => by match j with
    | 0 => obtain ⟨n, rfl, rfl⟩ := setS_some h; exact ⟨rfl, rfl, by decide, rfl⟩
    | j + 1 => simp at h)
structure Slot where
  ballot : Int
  text : ByteArray
def tSlot : Ty Slot := nest (ι := Unit) 2 ⟨0, ⟨#[]⟩⟩ (fun x _ => [.int .i64 x.ballot, .string x.text]) (fun _ _ => []) (fun x j => match j with | 0 => some (.int .i64 x.ballot) | 1 => some (.string x.text) | _ => none)
  (fun x j v => match j with | 0 => setI (fun n => { x with ballot := n }) v | 1 => setS (fun n => { x with text := n }) v | _ => none)
  (fun _ _ => rfl) (fun _ _ u hu => by simp at hu; rcases hu with rfl | rfl <;> rfl)
  (fun x j v i h => by match j with | 0 => simpa using h | 1 => simpa using h | j + 2 => simp at h)
  (fun x j v x' i h => by match j with
    | 0 => obtain ⟨n, rfl, rfl⟩ := setI_some h; exact ⟨rfl, rfl, by decide, rfl⟩
    | 1 => obtain ⟨n, rfl, rfl⟩ := setS_some h; exact ⟨rfl, rfl, by decide, rfl⟩
    | j + 2 => simp at h)
structure Fix where
  index : Int
  text : ByteArray
def tFix : Ty Fix := nest (ι := Unit) 2 ⟨0, ⟨#[]⟩⟩ (fun x _ => [.int .i64 x.index, .string x.text]) (fun _ _ => []) (fun x j => match j with | 0 => some (.int .i64 x.index) | 1 => some (.string x.text) | _ => none)
  (fun x j v => match j with | 0 => setI (fun n => { x with index := n }) v | 1 => setS (fun n => { x with text := n }) v | _ => none)
  (fun _ _ => rfl) (fun _ _ u hu => by simp at hu; rcases hu with rfl | rfl <;> rfl)
  (fun x j v i h => by match j with | 0 => simpa using h | 1 => simpa using h | j + 2 => simp at h)
  (fun x j v x' i h => by match j with
    | 0 => obtain ⟨n, rfl, rfl⟩ := setI_some h; exact ⟨rfl, rfl, by decide, rfl⟩
    | 1 => obtain ⟨n, rfl, rfl⟩ := setS_some h; exact ⟨rfl, rfl, by decide, rfl⟩
    | j + 2 => simp at h)
/-- Where a slice lies: its address, its capacity. -/
abbrev At := Option Addr × Nat
structure Msg where
  kind : Int
  frm : Int
  to : Int
  ballot : Int
  index : Int
  known : Int
  text : ByteArray
  slots : List Slot
def tMsg (eS : Nat) : Ty Msg := nest (ι := At) 8 ⟨0, 0, 0, 0, 0, 0, ⟨#[]⟩, []⟩ (fun x i => [.int .i64 x.kind, .int .i64 x.frm, .int .i64 x.to, .int .i64 x.ballot, .int .i64 x.index, .int .i64 x.known, .string x.text, .slice i.1 x.slots.length i.2]) (fun x i => [own tSlot eS i.1 i.2 x.slots])
  (fun x j => match j with | 0 => some (.int .i64 x.kind) | 1 => some (.int .i64 x.frm) | 2 => some (.int .i64 x.to) | 3 => some (.int .i64 x.ballot) | 4 => some (.int .i64 x.index) | 5 => some (.int .i64 x.known) | 6 => some (.string x.text) | _ => none)
  (fun x j v => match j with | 0 => setI (fun n => { x with kind := n }) v | 1 => setI (fun n => { x with frm := n }) v | 2 => setI (fun n => { x with to := n }) v | 3 => setI (fun n => { x with ballot := n }) v | 4 => setI (fun n => { x with index := n }) v | 5 => setI (fun n => { x with known := n }) v | 6 => setS (fun n => { x with text := n }) v | _ => none)
  (fun _ _ => rfl) (fun _ _ u hu => by simp at hu; rcases hu with rfl | rfl | rfl | rfl | rfl | rfl | rfl | rfl <;> rfl)
  (fun x j v i h => by match j with | 0 => simpa using h | 1 => simpa using h | 2 => simpa using h | 3 => simpa using h | 4 => simpa using h | 5 => simpa using h | 6 => simpa using h | j + 7 => simp at h)
  (fun x j v x' i h => by match j with
    | 0 => obtain ⟨n, rfl, rfl⟩ := setI_some h; exact ⟨rfl, rfl, by decide, rfl⟩
    | 1 => obtain ⟨n, rfl, rfl⟩ := setI_some h; exact ⟨rfl, rfl, by decide, rfl⟩
    | 2 => obtain ⟨n, rfl, rfl⟩ := setI_some h; exact ⟨rfl, rfl, by decide, rfl⟩
    | 3 => obtain ⟨n, rfl, rfl⟩ := setI_some h; exact ⟨rfl, rfl, by decide, rfl⟩
    | 4 => obtain ⟨n, rfl, rfl⟩ := setI_some h; exact ⟨rfl, rfl, by decide, rfl⟩
    | 5 => obtain ⟨n, rfl, rfl⟩ := setI_some h; exact ⟨rfl, rfl, by decide, rfl⟩
    | 6 => obtain ⟨n, rfl, rfl⟩ := setS_some h; exact ⟨rfl, rfl, by decide, rfl⟩
    | j + 7 => simp at h)
structure Ack where
  index : Int
  frm : List Int
def tAck (eI : Nat) : Ty Ack := nest (ι := At) 2 ⟨0, []⟩ (fun x i => [.int .i64 x.index, .slice i.1 x.frm.length i.2]) (fun x i => [own tInt eI i.1 i.2 x.frm]) (fun x j => match j with | 0 => some (.int .i64 x.index) | _ => none)
  (fun x j v => match j with | 0 => setI (fun n => { x with index := n }) v | _ => none)
  (fun _ _ => rfl) (fun _ _ u hu => by simp at hu; rcases hu with rfl | rfl <;> rfl)
  (fun x j v i h => by match j with | 0 => simpa using h | j + 1 => simp at h)
  (fun x j v x' i h => by match j with
    | 0 => obtain ⟨n, rfl, rfl⟩ := setI_some h; exact ⟨rfl, rfl, by decide, rfl⟩
    | j + 1 => simp at h)
end Go.Proofs.Ytdjhnanmkfjegaa.Sp
