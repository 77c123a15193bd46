/- Worlds of recorders: their data. No condition. -/
import Derived.Test.YtjeijflpejhkhaaSpAuto
import Derived.Test.Ytjeijflpejhkhaaval4
namespace Go.Proofs.Ytjeijflpejhkhaa.Sp
open Go Go.RowKit
set_option linter.unusedVariables false
set_option linter.unusedSimpArgs false
variable {eS eM eT eI eA : Nat}
instance : TyE Try.prog 58 Rcd (tRec 80 77 9 3 107) := ⟨trivial⟩
instance : ZD (tRec eS eM eT eI eA) [.int .i64 0, .int .i64 0, .bool false, .int .i64 0, .int .i64 0, .slice none 0 0, .int .i64 0, .int .i64 0, .slice none 0 0, .slice none 0 0, .slice none 0 0, .bool false, .bool false, .int .i64 0, .slice none 0 0, .slice none 0 0, .slice none 0 0, .int .i64 0] := ⟨fun W F => ⟨⟨(none, 0), (none, 0), (none, 0), (none, 0), (none, 0), (none, 0), (none, 0)⟩, rfl, by
  refine ⟨fun _ => False, fun _ h => h.elim, own_nil tSlot eS, fun _ => False, fun _ h => h.elim, own_nil tSlot eS, fun _ => False, fun _ h => h.elim, own_nil (tMsg eS) eM, fun _ => False, fun _ h => h.elim, own_nil tStr eT, fun _ => False, fun _ h => h.elim, own_nil tInt eI, fun _ => False, fun _ h => h.elim, own_nil tSlot eS, fun _ => False, fun _ h => h.elim, own_nil (tAck eI) eA, trivial⟩⟩⟩
instance {L R0 R1 R2 R3 R4 R5 R6 : List Asn} {number of : Int} {up : Bool} {sp sk : Int} {ss : List Slot} {dp dk : Int} {ds : List Slot} {held : List Msg} {wishes : List ByteArray} {lead trying : Bool} {ballot : Int} {yes : List Int} {best : List Slot} {acks : List Ack} {heard : Int} {A0 A1 A2 A3 A4 A5 A6 : Option Addr} {c0 c1 c2 c3 c4 c5 c6 : Nat} [h0 : Pk L (own tSlot eS A0 c0 ss) R0] [h1 : Pk R0 (own tSlot eS A1 c1 ds) R1] [h2 : Pk R1 (own (tMsg eS) eM A2 c2 held) R2] [h3 : Pk R2 (own tStr eT A3 c3 wishes) R3] [h4 : Pk R3 (own tInt eI A4 c4 yes) R4] [h5 : Pk R4 (own tSlot eS A5 c5 best) R5] [h6 : Pk R5 (own (tAck eI) eA A6 c6 acks) R6] :
    MkIn L (tRec eS eM eT eI eA) [.int .i64 number, .int .i64 of, .bool up, .int .i64 sp, .int .i64 sk, .slice A0 ss.length c0, .int .i64 dp, .int .i64 dk, .slice A1 ds.length c1, .slice A2 held.length c2, .slice A3 wishes.length c3, .bool lead, .bool trying, .int .i64 ballot, .slice A4 yes.length c4, .slice A5 best.length c5, .slice A6 acks.length c6, .int .i64 heard] ⟨number, of, up, sp, sk, ss, dp, dk, ds, held, wishes, lead, trying, ballot, yes, best, acks, heard⟩ R6 :=
  mk_nest (M := [own tSlot eS A0 c0 ss, own tSlot eS A1 c1 ds, own (tMsg eS) eM A2 c2 held, own tStr eT A3 c3 wishes, own tInt eI A4 c4 yes, own tSlot eS A5 c5 best, own (tAck eI) eA A6 c6 acks]) (fun W ok hs => hs.perm (by
    have q0 := perm_in h0.out [] (List.Perm.refl L)
    have q1 := perm_in h1.out _ q0
    have q2 := perm_in h2.out _ q1
    have q3 := perm_in h3.out _ q2
    have q4 := perm_in h4.out _ q3
    have q5 := perm_in h5.out _ q4
    exact perm_in h6.out _ q5)) (fun W F hs => ⟨⟨(A0, c0), (A1, c1), (A2, c2), (A3, c3), (A4, c4), (A5, c5), (A6, c6)⟩, rfl, hs⟩)
/-- A recorder that is read, with its rows' room. -/
structure RoRcw (b : Bool) (w : World) (x : Rcd) (i : AtRcd) : Prop where
  ro : RoRcd b w x i
  cap : b = false → x.ds.length ≤ i.a1.2 ∧ x.wishes.length ≤ i.a3.2
def rRcw (b : Bool) : TyR Rcd := nestR (ι := AtRcd) 18 ⟨0, 0, false, 0, 0, [], 0, 0, [], [], [], false, false, 0, [], [], [], 0⟩ encRcd (fun w x i => RoRcw b w x i) getRcd (fun _ _ => rfl)
  (fun x j v i h => by
    match j with
    | 0 | 1 | 2 | 3 | 4 | 6 | 7 | 11 | 12 | 13 | 17 => simpa [encRcd, getRcd] using h
    | 5 | 8 | 9 | 10 | 14 | 15 | 16 => simp [getRcd] at h
    | j + 18 => simp [getRcd] at h)
theorem ro_rcw {x : Rcd} {c : List Value} {W : World} {F : Nat → Prop} (h : ((tRec eS eM eT eI eA).A x c).H W F) : (rRcw false).R W x c := by
  obtain ⟨i, h, _, _, a0, _, _, a1, _, _, a2, _, _, a3, _, _, a4, _, _, a5, _, _, a6, _⟩ := h
  exact ⟨i, h, ⟨ro_slots a0, ro_slots a1, ro_msgs a2, ro_strs a3, ro_ints a4, ro_slots a5, ro_acks a6⟩, fun _ => ⟨(own_max a1).2, (own_max a3).2⟩⟩
theorem ro_fix {x : Fix} {c : List Value} {W : World} {F : Nat → Prop} (h : (tFix.A x c).H W F) : (rFix false).R W x c := by obtain ⟨i, h, _⟩ := h; exact ⟨i, h, fun h => by cases h⟩
theorem ro_rcws {e q : Nat} {A : Option Addr} {xs : List Rcd} {W : World} {F : Nat → Prop} (h : (own (tRec eS eM eT eI eA) e A q xs).H W F) : RoRow (rRcw false) W A xs := own_ro rfl ro_rcw h
theorem ro_fixs {e q : Nat} {A : Option Addr} {xs : List Fix} {W : World} {F : Nat → Prop} (h : (own tFix e A q xs).H W F) : RoRow (rFix false) W A xs := own_ro rfl ro_fix h
structure Wld where
  recs : List Rcd
  flight : List Msg
  fixed : List Fix
structure AtW where
  b0 : At
  b1 : At
  b2 : At
def encW (x : Wld) (i : AtW) : List Value := [.slice i.b0.1 x.recs.length i.b0.2, .slice i.b1.1 x.flight.length i.b1.2, .slice i.b2.1 x.fixed.length i.b2.2]
def partW (eS eM eT eI eA eR eF : Nat) (x : Wld) (i : AtW) : List Asn := [own (tRec eS eM eT eI eA) eR i.b0.1 i.b0.2 x.recs, own (tMsg eS) eM i.b1.1 i.b1.2 x.flight, own tFix eF i.b2.1 i.b2.2 x.fixed]
structure RoW (b : Bool) (w : World) (x : Wld) (i : AtW) : Prop where
  recs : RoRow (rRcw b) w i.b0.1 x.recs
  flight : RoRow (rMsg b) w i.b1.1 x.flight
  fixed : RoRow (rFix b) w i.b2.1 x.fixed
theorem ro_w {eR eF : Nat} {x : Wld} {i : AtW} {w0 W : World} {L : List Asn} (h : Mem w0 W (partW eS eM eT eI eA eR eF x i ++ L)) : RoW false W x i := by
  obtain ⟨_, _, _, a0, _, _, a1, _, _, a2, _⟩ := h
  exact ⟨ro_rcws a0, ro_msgs a1, ro_fixs a2⟩
structure SmallW (x : Wld) : Prop where
  recs : x.recs.length ≤ 1048576
  recss : ∀ y ∈ x.recs, SmallR y
  flight : x.flight.length ≤ 1048576
  flights : ∀ y ∈ x.flight, y.slots.length ≤ 1048576
  fixed : x.fixed.length ≤ 1048576
end Go.Proofs.Ytjeijflpejhkhaa.Sp
