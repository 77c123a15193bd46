/- What was read of an elder world is so still. No condition. -/
import Derived.Test.Ytjeijflpejhkhaawd
namespace Go.Proofs.Ytjeijflpejhkhaa.Sp
open Go Go.RowKit
set_option linter.unusedVariables false
section
variable {w0 W : World} {L : List Asn} {b : Bool}
theorem slotR_now {x : Slot} {c : List Value} (h : (rSlot b).R w0 x c) : (rSlot b).R W x c := h
theorem intR_now {x : Int} {c : List Value} (h : rInt.R w0 x c) : rInt.R W x c := h
theorem strR_now {x : ByteArray} {c : List Value} (h : (rStr b).R w0 x c) : (rStr b).R W x c := h
theorem fixR_now {x : Fix} {c : List Value} (h : (rFix b).R w0 x c) : (rFix b).R W x c := h
theorem slots_now (hm : Mem w0 W L) {A : Option Addr} {xs : List Slot} (h : RoRow (rSlot b) w0 A xs) : RoRow (rSlot b) W A xs := h.now hm (fun _ _ h => h)
theorem ints_now (hm : Mem w0 W L) {A : Option Addr} {xs : List Int} (h : RoRow rInt w0 A xs) : RoRow rInt W A xs := h.now hm (fun _ _ h => h)
theorem strs_now (hm : Mem w0 W L) {A : Option Addr} {xs : List ByteArray} (h : RoRow (rStr b) w0 A xs) : RoRow (rStr b) W A xs := h.now hm (fun _ _ h => h)
theorem fixs_now (hm : Mem w0 W L) {A : Option Addr} {xs : List Fix} (h : RoRow (rFix b) w0 A xs) : RoRow (rFix b) W A xs := h.now hm (fun _ _ h => h)
theorem msgs_now (hm : Mem w0 W L) {A : Option Addr} {xs : List Msg} (h : RoRow (rMsg b) w0 A xs) : RoRow (rMsg b) W A xs :=
  h.now hm (fun _ _ ⟨i, h1, h2, h3⟩ => ⟨i, h1, h2, slots_now hm h3⟩)
theorem acks_now (hm : Mem w0 W L) {A : Option Addr} {xs : List Ack} (h : RoRow rAck w0 A xs) : RoRow rAck W A xs :=
  h.now hm (fun _ _ ⟨i, h1, h3⟩ => ⟨i, h1, ints_now hm h3⟩)
theorem rcd_now (hm : Mem w0 W L) {x : Rcd} {i : AtRcd} (h : RoRcd b w0 x i) : RoRcd b W x i :=
  ⟨slots_now hm h.ss, slots_now hm h.ds, msgs_now hm h.held, strs_now hm h.wishes, ints_now hm h.yes, slots_now hm h.best, acks_now hm h.acks⟩
theorem rcws_now (hm : Mem w0 W L) {A : Option Addr} {xs : List Rcd} (h : RoRow (rRcw b) w0 A xs) : RoRow (rRcw b) W A xs :=
  h.now hm (fun _ _ ⟨i, h1, h2, h3⟩ => ⟨i, h1, rcd_now hm h2, h3⟩)
theorem roW_now (hm : Mem w0 W L) {x : Wld} {i : AtW} (h : RoW b w0 x i) : RoW b W x i := ⟨rcws_now hm h.recs, msgs_now hm h.flight, fixs_now hm h.fixed⟩
end
end Go.Proofs.Ytjeijflpejhkhaa.Sp
