/- For the laws' walks: what a recorder's own rows tell a reader. No condition. -/
import Derived.Test.YtjeijflpejhkhaaSpMore
namespace Go.Proofs.Ytjeijflpejhkhaa.Sp
open Go Go.RowKit
set_option linter.unusedVariables false
theorem caps_parts {eS eM eT eI eA : Nat} {x : Rcd} {i : AtRcd} {w0 W : World} {L : List Asn} (h : Mem w0 W (partRcd eS eM eT eI eA x i ++ L)) : x.ds.length ≤ i.a1.2 ∧ x.wishes.length ≤ i.a3.2 := by
  obtain ⟨_, _, _, a0, _, _, a1, _, _, a2, _, _, a3, _, _, a4, _, _, a5, _, _, a6, _⟩ := h
  exact ⟨(own_max a1).2, (own_max a3).2⟩
/-- The seven rows of one recorder, read where they lie. -/
theorem ro_rec {eS eM eT eI eA : Nat} {x : Rcd} {i : AtRcd} {w0 W : World} (h : Mem w0 W [own tSlot eS i.a0.1 i.a0.2 x.ss, own tSlot eS i.a1.1 i.a1.2 x.ds, own (tMsg eS) eM i.a2.1 i.a2.2 x.held, own tStr eT i.a3.1 i.a3.2 x.wishes, own tInt eI i.a4.1 i.a4.2 x.yes, own tSlot eS i.a5.1 i.a5.2 x.best, own (tAck eI) eA i.a6.1 i.a6.2 x.acks]) :
    RoRcd false W x i ∧ x.ds.length ≤ i.a1.2 ∧ x.wishes.length ≤ i.a3.2 := ⟨ro_parts (eS := eS) (eM := eM) (eT := eT) (eI := eI) (eA := eA) (L := []) h, caps_parts (eS := eS) (eM := eM) (eT := eT) (eI := eI) (eA := eA) (L := []) h⟩
theorem perm_in {A : Asn} {L R M : List Asn} (h : L.Perm (A :: R)) (B : List Asn) (h2 : M.Perm (B ++ L)) : M.Perm ((B ++ [A]) ++ R) := h2.trans ((List.Perm.append_left B h).trans (by simp))
/-- The seven rows of one recorder taken to the head. -/
theorem pk_rec {eS eM eT eI eA : Nat} {x : Rcd} {i : AtRcd} {w0 W : World} {L R0 R1 R2 R3 R4 R5 R6 : List Asn} [h0 : Pk L (own tSlot eS i.a0.1 i.a0.2 x.ss) R0] [h1 : Pk R0 (own tSlot eS i.a1.1 i.a1.2 x.ds) R1] [h2 : Pk R1 (own (tMsg eS) eM i.a2.1 i.a2.2 x.held) R2] [h3 : Pk R2 (own tStr eT i.a3.1 i.a3.2 x.wishes) R3] [h4 : Pk R3 (own tInt eI i.a4.1 i.a4.2 x.yes) R4] [h5 : Pk R4 (own tSlot eS i.a5.1 i.a5.2 x.best) R5] [h6 : Pk R5 (own (tAck eI) eA i.a6.1 i.a6.2 x.acks) R6] (h : Mem w0 W L) : Mem w0 W (partRcd eS eM eT eI eA x i ++ R6) := by
  refine h.perm ?_
  have q0 := perm_in h0.out [] (List.Perm.refl L)
  have q1 := perm_in h1.out _ q0
  have q2 := perm_in h2.out _ q1
  have q3 := perm_in h3.out _ q2
  have q4 := perm_in h4.out _ q3
  have q5 := perm_in h5.out _ q4
  exact perm_in h6.out _ q5
theorem ro_rec1 {eS eM eT eI eA : Nat} {x : Rcd} {i : AtRcd} {w0 W : World} {L R0 R1 R2 R3 R4 R5 R6 : List Asn} [h0 : Pk L (own tSlot eS i.a0.1 i.a0.2 x.ss) R0] [h1 : Pk R0 (own tSlot eS i.a1.1 i.a1.2 x.ds) R1] [h2 : Pk R1 (own (tMsg eS) eM i.a2.1 i.a2.2 x.held) R2] [h3 : Pk R2 (own tStr eT i.a3.1 i.a3.2 x.wishes) R3] [h4 : Pk R3 (own tInt eI i.a4.1 i.a4.2 x.yes) R4] [h5 : Pk R4 (own tSlot eS i.a5.1 i.a5.2 x.best) R5] [h6 : Pk R5 (own (tAck eI) eA i.a6.1 i.a6.2 x.acks) R6] (h : Mem w0 W L) : RoRcd false W x i := ro_parts (eS := eS) (eM := eM) (eT := eT) (eI := eI) (eA := eA) (pk_rec (eS := eS) (eM := eM) (eT := eT) (eI := eI) (eA := eA) h)
theorem ro_cap1 {eS eM eT eI eA : Nat} {x : Rcd} {i : AtRcd} {w0 W : World} {L R0 R1 R2 R3 R4 R5 R6 : List Asn} [h0 : Pk L (own tSlot eS i.a0.1 i.a0.2 x.ss) R0] [h1 : Pk R0 (own tSlot eS i.a1.1 i.a1.2 x.ds) R1] [h2 : Pk R1 (own (tMsg eS) eM i.a2.1 i.a2.2 x.held) R2] [h3 : Pk R2 (own tStr eT i.a3.1 i.a3.2 x.wishes) R3] [h4 : Pk R3 (own tInt eI i.a4.1 i.a4.2 x.yes) R4] [h5 : Pk R4 (own tSlot eS i.a5.1 i.a5.2 x.best) R5] [h6 : Pk R5 (own (tAck eI) eA i.a6.1 i.a6.2 x.acks) R6] (h : Mem w0 W L) : x.ds.length ≤ i.a1.2 ∧ x.wishes.length ≤ i.a3.2 := caps_parts (eS := eS) (eM := eM) (eT := eT) (eI := eI) (eA := eA) (pk_rec (eS := eS) (eM := eM) (eT := eT) (eI := eI) (eA := eA) h)
/-- A recorder's box and its seven rows, as a list of parts. -/
def boxR (eS eM eT eI eA T g : Nat) (x : Rcd) (i : AtRcd) : List Asn := box g T [.int .i64 x.number, .int .i64 x.of, .bool x.up, .int .i64 x.sp, .int .i64 x.sk, .slice i.a0.1 x.ss.length i.a0.2, .int .i64 x.dp, .int .i64 x.dk, .slice i.a1.1 x.ds.length i.a1.2, .slice i.a2.1 x.held.length i.a2.2, .slice i.a3.1 x.wishes.length i.a3.2, .bool x.lead, .bool x.trying, .int .i64 x.ballot, .slice i.a4.1 x.yes.length i.a4.2, .slice i.a5.1 x.best.length i.a5.2, .slice i.a6.1 x.acks.length i.a6.2, .int .i64 x.heard] :: partRcd eS eM eT eI eA x i
theorem pk_boxr {eS eM eT eI eA T g : Nat} {x : Rcd} {i : AtRcd} {w0 W : World} {L R R0 R1 R2 R3 R4 R5 R6 : List Asn} [hb : Pk L (box g T [.int .i64 x.number, .int .i64 x.of, .bool x.up, .int .i64 x.sp, .int .i64 x.sk, .slice i.a0.1 x.ss.length i.a0.2, .int .i64 x.dp, .int .i64 x.dk, .slice i.a1.1 x.ds.length i.a1.2, .slice i.a2.1 x.held.length i.a2.2, .slice i.a3.1 x.wishes.length i.a3.2, .bool x.lead, .bool x.trying, .int .i64 x.ballot, .slice i.a4.1 x.yes.length i.a4.2, .slice i.a5.1 x.best.length i.a5.2, .slice i.a6.1 x.acks.length i.a6.2, .int .i64 x.heard]) R] [h0 : Pk R (own tSlot eS i.a0.1 i.a0.2 x.ss) R0] [h1 : Pk R0 (own tSlot eS i.a1.1 i.a1.2 x.ds) R1] [h2 : Pk R1 (own (tMsg eS) eM i.a2.1 i.a2.2 x.held) R2] [h3 : Pk R2 (own tStr eT i.a3.1 i.a3.2 x.wishes) R3] [h4 : Pk R3 (own tInt eI i.a4.1 i.a4.2 x.yes) R4] [h5 : Pk R4 (own tSlot eS i.a5.1 i.a5.2 x.best) R5] [h6 : Pk R5 (own (tAck eI) eA i.a6.1 i.a6.2 x.acks) R6] (h : Mem w0 W L) : Mem w0 W (boxR eS eM eT eI eA T g x i ++ R6) := by
  refine h.perm ?_
  have q0 := perm_in hb.out [] (List.Perm.refl L)
  have q1 := perm_in h0.out _ q0
  have q2 := perm_in h1.out _ q1
  have q3 := perm_in h2.out _ q2
  have q4 := perm_in h3.out _ q3
  have q5 := perm_in h4.out _ q4
  have q6 := perm_in h5.out _ q5
  exact perm_in h6.out _ q6
end Go.Proofs.Ytjeijflpejhkhaa.Sp
