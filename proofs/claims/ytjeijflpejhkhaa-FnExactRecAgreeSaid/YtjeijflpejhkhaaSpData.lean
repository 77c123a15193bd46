/- The program's data as Lean data, and how they lie in cells. No condition. -/
import Derived.Test.YtjeijflpejhkhaaSpRow
namespace Go.Proofs.Ytjeijflpejhkhaa.Sp
open Go Go.RowKit
set_option linter.unusedVariables false
set_option linter.unusedSimpArgs false

/-- A kind told by its cells; i: where the slices in it lie. -/
def nest {α ι : Type} (sz : Nat) (z : α) (enc : α → ι → List Value) (parts : α → ι → List Asn) (get : α → Nat → Option Value) (set : α → Nat → Value → Option α) (hl : ∀ x i, (enc x i).length = sz) (h1 : ∀ x i, ∀ u ∈ enc x i, u.oneCell' = true)
    (hg : ∀ x j v i, get x j = some v → (enc x i)[j]? = some v) (hs : ∀ x j v x' i, set x j v = some x' → (enc x i).set j v = enc x' i ∧ parts x' i = parts x i ∧ j < sz ∧ v.oneCell' = true) : Ty α where
  sz := sz
  z := z
  A := fun x c => exP (fun i => c = enc x i) (parts x)
  get := get
  set := set
  len := by rintro x c W F ⟨i, rfl, _⟩; exact hl x i
  one := by rintro x c W F ⟨i, rfl, _⟩; exact h1 x i
  get_ok := by rintro x c W F j v ⟨i, rfl, _⟩ h; exact hg x j v i h
  set_ok := by
    rintro x c W F j v x' ⟨i, rfl, hp⟩ h
    obtain ⟨e1, e2, e3, e4⟩ := hs x j v x' i h
    exact ⟨⟨i, e1, by rw [e2]; exact hp⟩, e3, e4⟩

def setI {α : Type} (f : Int → α) : Value → Option α
  | .int .i64 n => some (f n)
  | _ => none
def setB {α : Type} (f : Bool → α) : Value → Option α
  | .bool b => some (f b)
  | _ => none
def setS {α : Type} (f : ByteArray → α) : Value → Option α
  | .string s => some (f s)
  | _ => none
theorem setI_some {α : Type} {f : Int → α} {v : Value} {x : α} (h : setI f v = some x) : ∃ n, v = .int .i64 n ∧ x = f n := by
  unfold setI at h
  split at h
  · cases h; exact ⟨_, rfl, rfl⟩
  · cases h
theorem setB_some {α : Type} {f : Bool → α} {v : Value} {x : α} (h : setB f v = some x) : ∃ n, v = .bool n ∧ x = f n := by
  unfold setB at h
  split at h
  · cases h; exact ⟨_, rfl, rfl⟩
  · cases h
theorem setS_some {α : Type} {f : ByteArray → α} {v : Value} {x : α} (h : setS f v = some x) : ∃ n, v = .string n ∧ x = f n := by
  unfold setS at h
  split at h
  · cases h; exact ⟨_, rfl, rfl⟩
  · cases h

def tInt : Ty Int := nest (ι := Unit) 1 0 (fun n _ => [.int .i64 n]) (fun _ _ => []) (fun n j => match j with | 0 => some (.int .i64 n) | _ => none) (fun n j v => match j with | 0 => setI (fun n => n) v | _ => none)
  (fun _ _ => rfl) (fun _ _ u hu => by simp at hu; subst hu; rfl)
  (fun x j v i h => by match j with | 0 => simpa using h | j + 1 => simp at h)
  (fun x j v x' i h => by match j with
    | 0 => obtain ⟨n, rfl, rfl⟩ := setI_some h; exact ⟨rfl, rfl, by decide, rfl⟩
    | j + 1 => simp at h)
def tStr : Ty ByteArray := nest (ι := Unit) 1 ⟨#[]⟩ (fun n _ => [.string n]) (fun _ _ => []) (fun n j => match j with | 0 => some (.string n) | _ => none) (fun n j v => match j with | 0 => setS (fun n => n) v | _ => none)
  (fun _ _ => rfl) (fun _ _ u hu => by simp at hu; subst hu; rfl)
  (fun x j v i h => by match j with | 0 => simpa using h | j + 1 => simp at h)
  (fun x j v x' i h => by match j with
    | 0 => obtain ⟨n, rfl, rfl⟩ := setS_some h; exact ⟨rfl, rfl, by decide, rfl⟩
    | j + 1 => simp at h)
/-- Where a slice lies: its address, its capacity. -/
abbrev At := Option Addr × Nat
theorem mk_flat {α : Type} {D : Ty α} {x : α} {ws : List Value} {L : List Asn} (h : ∀ W, (D.A x ws).H W (fun _ => False)) : MkIn L D ws x L := ⟨fun W ok hs => ⟨fun _ => False, fun _ h => h.elim, h W, hs.mono (fun k hk => ⟨hk, fun h => h⟩)⟩⟩
instance {L : List Asn} {n : Int} : MkIn L tInt [.int .i64 n] n L := mk_flat fun _ => ⟨(), rfl, trivial⟩
instance : Flat tInt (fun n => [.int .i64 n]) := ⟨fun ⟨_, h, _⟩ => h⟩
instance {L : List Asn} {n : ByteArray} : MkIn L tStr [.string n] n L := mk_flat fun _ => ⟨(), rfl, trivial⟩
instance : Flat tStr (fun n => [.string n]) := ⟨fun ⟨_, h, _⟩ => h⟩
structure Slot where
  ballot : Int
  text : ByteArray
def encSlot (x : Slot) (i : Unit) : List Value := [.int .i64 x.ballot, .string x.text]
def partSlot  (x : Slot) (i : Unit) : List Asn := []
def getSlot (x : Slot) (j : Nat) : Option Value := match j with | 0 => some (.int .i64 x.ballot) | 1 => some (.string x.text) | _ => none
def setSlot (x : Slot) (j : Nat) (v : Value) : Option Slot := match j with | 0 => setI (fun n => { x with ballot := n }) v | 1 => setS (fun n => { x with text := n }) v | _ => none
def tSlot  : Ty Slot := nest (ι := Unit) 2 ⟨0, ⟨#[]⟩⟩ encSlot (partSlot) getSlot setSlot
  (fun _ _ => rfl) (fun _ _ u hu => by simp [encSlot] at hu; (repeat' (rcases hu with rfl | hu)) <;> first | rfl | (subst hu; rfl))
  (fun x j v i h => by
    match j with
    | 0 | 1 => simpa [encSlot, getSlot] using h
    | j + 2 => simp [getSlot] at h)
  (fun x j v x1 i h => by
    match j with
    | 0 => obtain ⟨n, rfl, rfl⟩ := setI_some h; exact ⟨rfl, rfl, by decide, rfl⟩
    | 1 => obtain ⟨n, rfl, rfl⟩ := setS_some h; exact ⟨rfl, rfl, by decide, rfl⟩
    | j + 2 => simp [setSlot] at h)
instance {L : List Asn} {ballot : Int} {text : ByteArray} : MkIn L tSlot [.int .i64 ballot, .string text] ⟨ballot, text⟩ L := mk_flat fun _ => ⟨(), rfl, trivial⟩
instance : Flat tSlot (fun x => encSlot x ()) := ⟨fun ⟨_, h, _⟩ => h⟩
structure Fix where
  index : Int
  text : ByteArray
def encFix (x : Fix) (i : Unit) : List Value := [.int .i64 x.index, .string x.text]
def partFix  (x : Fix) (i : Unit) : List Asn := []
def getFix (x : Fix) (j : Nat) : Option Value := match j with | 0 => some (.int .i64 x.index) | 1 => some (.string x.text) | _ => none
def setFix (x : Fix) (j : Nat) (v : Value) : Option Fix := match j with | 0 => setI (fun n => { x with index := n }) v | 1 => setS (fun n => { x with text := n }) v | _ => none
def tFix  : Ty Fix := nest (ι := Unit) 2 ⟨0, ⟨#[]⟩⟩ encFix (partFix) getFix setFix
  (fun _ _ => rfl) (fun _ _ u hu => by simp [encFix] at hu; (repeat' (rcases hu with rfl | hu)) <;> first | rfl | (subst hu; rfl))
  (fun x j v i h => by
    match j with
    | 0 | 1 => simpa [encFix, getFix] using h
    | j + 2 => simp [getFix] at h)
  (fun x j v x1 i h => by
    match j with
    | 0 => obtain ⟨n, rfl, rfl⟩ := setI_some h; exact ⟨rfl, rfl, by decide, rfl⟩
    | 1 => obtain ⟨n, rfl, rfl⟩ := setS_some h; exact ⟨rfl, rfl, by decide, rfl⟩
    | j + 2 => simp [setFix] at h)
instance {L : List Asn} {index : Int} {text : ByteArray} : MkIn L tFix [.int .i64 index, .string text] ⟨index, text⟩ L := mk_flat fun _ => ⟨(), rfl, trivial⟩
instance : Flat tFix (fun x => encFix x ()) := ⟨fun ⟨_, h, _⟩ => h⟩
structure Msg where
  kind : Int
  frm : Int
  to : Int
  ballot : Int
  index : Int
  known : Int
  text : ByteArray
  slots : List Slot
def encMsg (x : Msg) (i : At) : List Value := [.int .i64 x.kind, .int .i64 x.frm, .int .i64 x.to, .int .i64 x.ballot, .int .i64 x.index, .int .i64 x.known, .string x.text, .slice i.1 x.slots.length i.2]
def partMsg (eS : Nat) (x : Msg) (i : At) : List Asn := [own tSlot eS i.1 i.2 x.slots]
def getMsg (x : Msg) (j : Nat) : Option Value := match j with | 0 => some (.int .i64 x.kind) | 1 => some (.int .i64 x.frm) | 2 => some (.int .i64 x.to) | 3 => some (.int .i64 x.ballot) | 4 => some (.int .i64 x.index) | 5 => some (.int .i64 x.known) | 6 => some (.string x.text) | _ => none
def setMsg (x : Msg) (j : Nat) (v : Value) : Option Msg := match j with | 0 => setI (fun n => { x with kind := n }) v | 1 => setI (fun n => { x with frm := n }) v | 2 => setI (fun n => { x with to := n }) v | 3 => setI (fun n => { x with ballot := n }) v | 4 => setI (fun n => { x with index := n }) v | 5 => setI (fun n => { x with known := n }) v | 6 => setS (fun n => { x with text := n }) v | _ => none
def tMsg (eS : Nat) : Ty Msg := nest (ι := At) 8 ⟨0, 0, 0, 0, 0, 0, ⟨#[]⟩, []⟩ encMsg (partMsg eS) getMsg setMsg
  (fun _ _ => rfl) (fun _ _ u hu => by simp [encMsg] at hu; (repeat' (rcases hu with rfl | hu)) <;> first | rfl | (subst hu; rfl))
  (fun x j v i h => by
    match j with
    | 0 | 1 | 2 | 3 | 4 | 5 | 6 => simpa [encMsg, getMsg] using h
    | 7 => simp [getMsg] at h
    | j + 8 => simp [getMsg] at h)
  (fun x j v x1 i h => by
    match j with
    | 0 => obtain ⟨n, rfl, rfl⟩ := setI_some h; exact ⟨rfl, rfl, by decide, rfl⟩
    | 1 => obtain ⟨n, rfl, rfl⟩ := setI_some h; exact ⟨rfl, rfl, by decide, rfl⟩
    | 2 => obtain ⟨n, rfl, rfl⟩ := setI_some h; exact ⟨rfl, rfl, by decide, rfl⟩
    | 3 => obtain ⟨n, rfl, rfl⟩ := setI_some h; exact ⟨rfl, rfl, by decide, rfl⟩
    | 4 => obtain ⟨n, rfl, rfl⟩ := setI_some h; exact ⟨rfl, rfl, by decide, rfl⟩
    | 5 => obtain ⟨n, rfl, rfl⟩ := setI_some h; exact ⟨rfl, rfl, by decide, rfl⟩
    | 6 => obtain ⟨n, rfl, rfl⟩ := setS_some h; exact ⟨rfl, rfl, by decide, rfl⟩
    | 7 => simp [setMsg] at h
    | j + 8 => simp [setMsg] at h)
structure Ack where
  index : Int
  frm : List Int
def encAck (x : Ack) (i : At) : List Value := [.int .i64 x.index, .slice i.1 x.frm.length i.2]
def partAck (eI : Nat) (x : Ack) (i : At) : List Asn := [own tInt eI i.1 i.2 x.frm]
def getAck (x : Ack) (j : Nat) : Option Value := match j with | 0 => some (.int .i64 x.index) | _ => none
def setAck (x : Ack) (j : Nat) (v : Value) : Option Ack := match j with | 0 => setI (fun n => { x with index := n }) v | _ => none
def tAck (eI : Nat) : Ty Ack := nest (ι := At) 2 ⟨0, []⟩ encAck (partAck eI) getAck setAck
  (fun _ _ => rfl) (fun _ _ u hu => by simp [encAck] at hu; (repeat' (rcases hu with rfl | hu)) <;> first | rfl | (subst hu; rfl))
  (fun x j v i h => by
    match j with
    | 0 => simpa [encAck, getAck] using h
    | 1 => simp [getAck] at h
    | j + 2 => simp [getAck] at h)
  (fun x j v x1 i h => by
    match j with
    | 0 => obtain ⟨n, rfl, rfl⟩ := setI_some h; exact ⟨rfl, rfl, by decide, rfl⟩
    | 1 => simp [setAck] at h
    | j + 2 => simp [setAck] at h)
structure Rcd where
  number : Int
  of : Int
  up : Bool
  sp : Int
  sk : Int
  ss : List Slot
  dp : Int
  dk : Int
  ds : List Slot
  held : List Msg
  wishes : List ByteArray
  lead : Bool
  trying : Bool
  ballot : Int
  yes : List Int
  best : List Slot
  acks : List Ack
  heard : Int
structure AtRcd where
  a0 : At
  a1 : At
  a2 : At
  a3 : At
  a4 : At
  a5 : At
  a6 : At
def encRcd (x : Rcd) (i : AtRcd) : List Value := [.int .i64 x.number, .int .i64 x.of, .bool x.up, .int .i64 x.sp, .int .i64 x.sk, .slice i.a0.1 x.ss.length i.a0.2, .int .i64 x.dp, .int .i64 x.dk, .slice i.a1.1 x.ds.length i.a1.2, .slice i.a2.1 x.held.length i.a2.2, .slice i.a3.1 x.wishes.length i.a3.2, .bool x.lead, .bool x.trying, .int .i64 x.ballot, .slice i.a4.1 x.yes.length i.a4.2, .slice i.a5.1 x.best.length i.a5.2, .slice i.a6.1 x.acks.length i.a6.2, .int .i64 x.heard]
def partRcd (eS : Nat) (eM : Nat) (eT : Nat) (eI : Nat) (eA : Nat) (x : Rcd) (i : AtRcd) : List Asn := [own tSlot eS i.a0.1 i.a0.2 x.ss, own tSlot eS i.a1.1 i.a1.2 x.ds, own (tMsg eS) eM i.a2.1 i.a2.2 x.held, own tStr eT i.a3.1 i.a3.2 x.wishes, own tInt eI i.a4.1 i.a4.2 x.yes, own tSlot eS i.a5.1 i.a5.2 x.best, own (tAck eI) eA i.a6.1 i.a6.2 x.acks]
def getRcd (x : Rcd) (j : Nat) : Option Value := match j with | 0 => some (.int .i64 x.number) | 1 => some (.int .i64 x.of) | 2 => some (.bool x.up) | 3 => some (.int .i64 x.sp) | 4 => some (.int .i64 x.sk) | 6 => some (.int .i64 x.dp) | 7 => some (.int .i64 x.dk) | 11 => some (.bool x.lead) | 12 => some (.bool x.trying) | 13 => some (.int .i64 x.ballot) | 17 => some (.int .i64 x.heard) | _ => none
def setRcd (x : Rcd) (j : Nat) (v : Value) : Option Rcd := match j with | 0 => setI (fun n => { x with number := n }) v | 1 => setI (fun n => { x with of := n }) v | 2 => setB (fun n => { x with up := n }) v | 3 => setI (fun n => { x with sp := n }) v | 4 => setI (fun n => { x with sk := n }) v | 6 => setI (fun n => { x with dp := n }) v | 7 => setI (fun n => { x with dk := n }) v | 11 => setB (fun n => { x with lead := n }) v | 12 => setB (fun n => { x with trying := n }) v | 13 => setI (fun n => { x with ballot := n }) v | 17 => setI (fun n => { x with heard := n }) v | _ => none
def tRec (eS : Nat) (eM : Nat) (eT : Nat) (eI : Nat) (eA : Nat) : Ty Rcd := nest (ι := AtRcd) 18 ⟨0, 0, false, 0, 0, [], 0, 0, [], [], [], false, false, 0, [], [], [], 0⟩ encRcd (partRcd eS eM eT eI eA) getRcd setRcd
  (fun _ _ => rfl) (fun _ _ u hu => by simp [encRcd] at hu; (repeat' (rcases hu with rfl | hu)) <;> first | rfl | (subst hu; rfl))
  (fun x j v i h => by
    match j with
    | 0 | 1 | 2 | 3 | 4 | 6 | 7 | 11 | 12 | 13 | 17 => simpa [encRcd, getRcd] using h
    | 5 | 8 | 9 | 10 | 14 | 15 | 16 => simp [getRcd] at h
    | j + 18 => simp [getRcd] at h)
  (fun x j v x1 i h => by
    match j with
    | 0 => obtain ⟨n, rfl, rfl⟩ := setI_some h; exact ⟨rfl, rfl, by decide, rfl⟩
    | 1 => obtain ⟨n, rfl, rfl⟩ := setI_some h; exact ⟨rfl, rfl, by decide, rfl⟩
    | 2 => obtain ⟨n, rfl, rfl⟩ := setB_some h; exact ⟨rfl, rfl, by decide, rfl⟩
    | 3 => obtain ⟨n, rfl, rfl⟩ := setI_some h; exact ⟨rfl, rfl, by decide, rfl⟩
    | 4 => obtain ⟨n, rfl, rfl⟩ := setI_some h; exact ⟨rfl, rfl, by decide, rfl⟩
    | 6 => obtain ⟨n, rfl, rfl⟩ := setI_some h; exact ⟨rfl, rfl, by decide, rfl⟩
    | 7 => obtain ⟨n, rfl, rfl⟩ := setI_some h; exact ⟨rfl, rfl, by decide, rfl⟩
    | 11 => obtain ⟨n, rfl, rfl⟩ := setB_some h; exact ⟨rfl, rfl, by decide, rfl⟩
    | 12 => obtain ⟨n, rfl, rfl⟩ := setB_some h; exact ⟨rfl, rfl, by decide, rfl⟩
    | 13 => obtain ⟨n, rfl, rfl⟩ := setI_some h; exact ⟨rfl, rfl, by decide, rfl⟩
    | 17 => obtain ⟨n, rfl, rfl⟩ := setI_some h; exact ⟨rfl, rfl, by decide, rfl⟩
    | 5 | 8 | 9 | 10 | 14 | 15 | 16 => simp [setRcd] at h
    | j + 18 => simp [setRcd] at h)
end Go.Proofs.Ytjeijflpejhkhaa.Sp
