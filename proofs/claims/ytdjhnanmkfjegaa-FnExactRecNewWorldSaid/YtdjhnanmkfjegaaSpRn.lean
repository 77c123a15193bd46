/- Recorders that hold nothing: how they lie in cells. No condition. -/
import Derived.Test.YtdjhnanmkfjegaaSpData
namespace Go.Proofs.Ytdjhnanmkfjegaa.Sp
open Go Go.RowKit
set_option linter.unusedVariables false
set_option linter.unusedSimpArgs false
structure Rn where
  number : Int
  of : Int
  up : Bool
  sp : Int
  sk : Int
  dp : Int
  dk : Int
  lead : Bool
  trying : Bool
  ballot : Int
  heard : Int
abbrev Nil : Value := .slice none 0 0
def encRn (x : Rn) : List Value := [.int .i64 x.number, .int .i64 x.of, .bool x.up, .int .i64 x.sp, .int .i64 x.sk, .slice none 0 0, .int .i64 x.dp, .int .i64 x.dk, .slice none 0 0, .slice none 0 0, .slice none 0 0, .bool x.lead, .bool x.trying, .int .i64 x.ballot, .slice none 0 0, .slice none 0 0, .slice none 0 0, .int .i64 x.heard]
def tRn : Ty Rn := nest (ι := Unit) 18 ⟨0, 0, false, 0, 0, 0, 0, false, false, 0, 0⟩ (fun x _ => encRn x) (fun _ _ => [])
  (fun x j => match j with | 0 => some (.int .i64 x.number) | 1 => some (.int .i64 x.of) | 2 => some (.bool x.up) | 3 => some (.int .i64 x.sp) | 4 => some (.int .i64 x.sk) | 5 => some Nil | 6 => some (.int .i64 x.dp) | 7 => some (.int .i64 x.dk) | 8 => some Nil | 9 => some Nil | 10 => some Nil | 11 => some (.bool x.lead) | 12 => some (.bool x.trying) | 13 => some (.int .i64 x.ballot) | 14 => some Nil | 15 => some Nil | 16 => some Nil | 17 => some (.int .i64 x.heard) | _ => none)
  (fun x j v => match j with | 0 => setI (fun n => { x with number := n }) v | 1 => setI (fun n => { x with of := n }) v | 2 => setB (fun n => { x with up := n }) v | 3 => setI (fun n => { x with sp := n }) v | 4 => setI (fun n => { x with sk := n }) v | 6 => setI (fun n => { x with dp := n }) v | 7 => setI (fun n => { x with dk := n }) v | 11 => setB (fun n => { x with lead := n }) v | 12 => setB (fun n => { x with trying := n }) v | 13 => setI (fun n => { x with ballot := n }) v | 17 => setI (fun n => { x with heard := n }) v | _ => none)
  (fun _ _ => rfl) (fun _ _ u hu => by simp [encRn] at hu; (repeat' (rcases hu with rfl | hu)) <;> first | rfl | (subst hu; rfl))
  (fun x j v i h => by
    match j with
    | 0 | 1 | 2 | 3 | 4 | 5 | 6 | 7 | 8 | 9 | 10 | 11 | 12 | 13 | 14 | 15 | 16 | 17 => simpa [encRn] using h
    | j + 18 => simp at h)
  (fun x j v x' i h => by
    match j with
    | 0 => obtain ⟨n, rfl, rfl⟩ := setI_some h; exact ⟨rfl, rfl, by decide, rfl⟩
    | 1 => obtain ⟨n, rfl, rfl⟩ := setI_some h; exact ⟨rfl, rfl, by decide, rfl⟩
    | 2 => obtain ⟨n, rfl, rfl⟩ := setB_some h; exact ⟨rfl, rfl, by decide, rfl⟩
    | 3 => obtain ⟨n, rfl, rfl⟩ := setI_some h; exact ⟨rfl, rfl, by decide, rfl⟩
    | 4 => obtain ⟨n, rfl, rfl⟩ := setI_some h; exact ⟨rfl, rfl, by decide, rfl⟩
    | 6 => obtain ⟨n, rfl, rfl⟩ := setI_some h; exact ⟨rfl, rfl, by decide, rfl⟩
    | 7 => obtain ⟨n, rfl, rfl⟩ := setI_some h; exact ⟨rfl, rfl, by decide, rfl⟩
    | 11 => obtain ⟨n, rfl, rfl⟩ := setB_some h; exact ⟨rfl, rfl, by decide, rfl⟩
    | 12 => obtain ⟨n, rfl, rfl⟩ := setB_some h; exact ⟨rfl, rfl, by decide, rfl⟩
    | 13 => obtain ⟨n, rfl, rfl⟩ := setI_some h; exact ⟨rfl, rfl, by decide, rfl⟩
    | 17 => obtain ⟨n, rfl, rfl⟩ := setI_some h; exact ⟨rfl, rfl, by decide, rfl⟩
    | 5 | 8 | 9 | 10 | 14 | 15 | 16 => simp at h
    | j + 18 => simp at h)
instance : Flat tRn encRn := ⟨fun ⟨_, h, _⟩ => h⟩
theorem mk_flat {α : Type} {D : Ty α} {x : α} {ws : List Value} {L : List Asn} (h : ∀ W, (D.A x ws).H W (fun _ => False)) : MkIn L D ws x L := ⟨fun W ok hs => ⟨fun _ => False, fun _ h => h.elim, h W, hs.mono (fun k hk => ⟨hk, fun h => h⟩)⟩⟩
instance {L : List Asn} {x : Rn} : MkIn L tRn (encRn x) x L := mk_flat fun _ => ⟨(), rfl, trivial⟩
instance {x : Rn} : Cel (.agg (encRn x).toArray) (encRn x) := ⟨rfl⟩
instance {x : Rn} : Len (encRn x) 18 := ⟨rfl⟩
end Go.Proofs.Ytdjhnanmkfjegaa.Sp
