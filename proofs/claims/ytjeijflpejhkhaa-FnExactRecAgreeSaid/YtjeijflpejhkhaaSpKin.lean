/- The program's data that came in or are only read. No condition. -/
import Derived.Test.YtjeijflpejhkhaaSpRo
import Derived.Test.YtjeijflpejhkhaaSpHol
namespace Go.Proofs.Ytjeijflpejhkhaa.Sp
open Go Go.RowKit
set_option linter.unusedVariables false
set_option linter.unusedSimpArgs false
def nestR {α ι : Type} (sz : Nat) (z : α) (enc : α → ι → List Value) (facts : World → α → ι → Prop) (get : α → Nat → Option Value) (hl : ∀ x i, (enc x i).length = sz)
    (hg : ∀ x j v i, get x j = some v → (enc x i)[j]? = some v) : TyR α where
  sz := sz
  z := z
  R := fun w x c => ∃ i, c = enc x i ∧ facts w x i
  get := get
  len := by rintro w x c ⟨i, rfl, _⟩; exact hl x i
  get_ok := by rintro w x c j v ⟨i, rfl, _⟩ h; exact hg x j v i h
def rInt : TyR Int := nestR (ι := Unit) 1 0 (fun n _ => [.int .i64 n]) (fun _ _ _ => True) (fun n j => match j with | 0 => some (.int .i64 n) | _ => none) (fun _ _ => rfl)
  (fun x j v i h => by match j with | 0 => simpa using h | j + 1 => simp at h)
def rStr (b : Bool) : TyR ByteArray := nestR (ι := Unit) 1 ⟨#[]⟩ (fun n _ => [.string n]) (fun _ n _ => b = true → n.size ≤ maxLen) (fun n j => match j with | 0 => some (.string n) | _ => none) (fun _ _ => rfl)
  (fun x j v i h => by match j with | 0 => simpa using h | j + 1 => simp at h)
def rSlot (b : Bool) : TyR Slot := nestR (ι := Unit) 2 ⟨0, ⟨#[]⟩⟩ encSlot (fun w x i => (b = true → x.text.size ≤ maxLen)) getSlot (fun _ _ => rfl)
  (fun x j v i h => by
    match j with
    | 0 | 1 => simpa [encSlot, getSlot] using h
    | j + 2 => simp [getSlot] at h)
def rFix (b : Bool) : TyR Fix := nestR (ι := Unit) 2 ⟨0, ⟨#[]⟩⟩ encFix (fun w x i => (b = true → x.text.size ≤ maxLen)) getFix (fun _ _ => rfl)
  (fun x j v i h => by
    match j with
    | 0 | 1 => simpa [encFix, getFix] using h
    | j + 2 => simp [getFix] at h)
def rMsg (b : Bool) : TyR Msg := nestR (ι := At) 8 ⟨0, 0, 0, 0, 0, 0, ⟨#[]⟩, []⟩ encMsg (fun w x i => (b = true → x.text.size ≤ maxLen) ∧ RoRow (rSlot b) w i.1 x.slots) getMsg (fun _ _ => rfl)
  (fun x j v i h => by
    match j with
    | 0 | 1 | 2 | 3 | 4 | 5 | 6 => simpa [encMsg, getMsg] using h
    | 7 => simp [getMsg] at h
    | j + 8 => simp [getMsg] at h)
def rAck : TyR Ack := nestR (ι := At) 2 ⟨0, []⟩ encAck (fun w x i => RoRow rInt w i.1 x.frm) getAck (fun _ _ => rfl)
  (fun x j v i h => by
    match j with
    | 0 => simpa [encAck, getAck] using h
    | 1 => simp [getAck] at h
    | j + 2 => simp [getAck] at h)
/-- What is known of the rows of a value that came in. -/
structure RoRcd (b : Bool) (w : World) (x : Rcd) (i : AtRcd) : Prop where
  ss : RoRow (rSlot b) w i.a0.1 x.ss
  ds : RoRow (rSlot b) w i.a1.1 x.ds
  held : RoRow (rMsg b) w i.a2.1 x.held
  wishes : RoRow (rStr b) w i.a3.1 x.wishes
  yes : RoRow rInt w i.a4.1 x.yes
  best : RoRow (rSlot b) w i.a5.1 x.best
  acks : RoRow rAck w i.a6.1 x.acks
def rRcd (b : Bool) : TyR Rcd := nestR (ι := AtRcd) 18 ⟨0, 0, false, 0, 0, [], 0, 0, [], [], [], false, false, 0, [], [], [], 0⟩ encRcd (fun w x i => RoRcd b w x i) getRcd (fun _ _ => rfl)
  (fun x j v i h => by
    match j with
    | 0 | 1 | 2 | 3 | 4 | 6 | 7 | 11 | 12 | 13 | 17 => simpa [encRcd, getRcd] using h
    | 5 | 8 | 9 | 10 | 14 | 15 | 16 => simp [getRcd] at h
    | j + 18 => simp [getRcd] at h)
/-! what of the call's own is only read -/
theorem own_ro {α : Type} {D : Ty α} {DR : TyR α} {e c : Nat} {A : Option Addr} {xs : List α} {W : World} {F : Nat → Prop} (hz : D.sz = DR.sz) (h : ∀ {x c F}, (D.A x c).H W F → DR.R W x c) (ho : (own D e A c xs).H W F) : RoRow DR W A xs := by
  refine ⟨(own_max ho).1, fun hl => (own_addr ho hl).1, fun i hi => ?_⟩
  obtain ⟨_, g, hg, _⟩ := own_addr ho (by omega)
  have hA := (own_addr ho (by omega)).1
  obtain ⟨css, hl, G, h2, ⟨hr, h4⟩, h3⟩ := ho
  obtain ⟨G2, h5⟩ := els_get i hi (by omega) h3
  refine ⟨css[i]'(by omega), h h5, fun j v hv => ?_⟩
  have hj : j < D.sz := by rw [← D.len h5]; exact (List.getElem?_eq_some_iff.1 hv).1
  rw [hg, ← hz]
  refine hr.cells (g := g) (by rw [hA, hg]; rfl) _ v ?_
  rw [flat_get i j (els_len hl h3) (by omega) hj]; exact hv
section
variable {W : World} {c : List Value} {F : Nat → Prop} {eS eM eT eI eA q : Nat} {A : Option Addr}
theorem ro_int {x : Int} (h : (tInt.A x c).H W F) : rInt.R W x c := by obtain ⟨_, h, _⟩ := h; exact ⟨(), h, trivial⟩
theorem ro_str {x : ByteArray} (h : (tStr.A x c).H W F) : (rStr false).R W x c := by obtain ⟨_, h, _⟩ := h; exact ⟨(), h, fun h => by cases h⟩
theorem ro_slot {x : Slot} (h : (tSlot.A x c).H W F) : (rSlot false).R W x c := by obtain ⟨i, h, _⟩ := h; exact ⟨i, h, fun h => by cases h⟩
theorem ro_ints {xs : List Int} (h : (own tInt eI A q xs).H W F) : RoRow rInt W A xs := own_ro rfl ro_int h
theorem ro_strs {xs : List ByteArray} (h : (own tStr eT A q xs).H W F) : RoRow (rStr false) W A xs := own_ro rfl ro_str h
theorem ro_slots {xs : List Slot} (h : (own tSlot eS A q xs).H W F) : RoRow (rSlot false) W A xs := own_ro rfl ro_slot h
theorem ro_msg {x : Msg} (h : ((tMsg eS).A x c).H W F) : (rMsg false).R W x c := by obtain ⟨i, h, F2, _, h2, _⟩ := h; exact ⟨i, h, ⟨(fun h => by cases h), ro_slots h2⟩⟩
theorem ro_ack {x : Ack} (h : ((tAck eI).A x c).H W F) : rAck.R W x c := by obtain ⟨i, h, F2, _, h2, _⟩ := h; exact ⟨i, h, ro_ints h2⟩
theorem ro_msgs {xs : List Msg} (h : (own (tMsg eS) eM A q xs).H W F) : RoRow (rMsg false) W A xs := own_ro rfl ro_msg h
theorem ro_acks {xs : List Ack} (h : (own (tAck eI) eA A q xs).H W F) : RoRow rAck W A xs := own_ro rfl ro_ack h
/-- Seven rows of a recorder, read. -/
theorem ro_parts {x : Rcd} {i : AtRcd} {w0 : World} {L : List Asn} (h : Mem w0 W (partRcd eS eM eT eI eA x i ++ L)) : RoRcd false W x i := by
  obtain ⟨_, _, _, a0, _, _, a1, _, _, a2, _, _, a3, _, _, a4, _, _, a5, _, _, a6, _⟩ := h
  exact ⟨ro_slots a0, ro_slots a1, ro_msgs a2, ro_strs a3, ro_ints a4, ro_slots a5, ro_acks a6⟩
end
/-- What a callee laid down, beside what is there. -/
theorem Mem.join {w0 W W1 : World} {L M : List Asn} (h : Mem w0 W L) (h2 : Mem W W1 M) : Mem w0 W1 (M ++ L) :=
  ⟨(h.step h2.below).below, SepIn.join (F := fun k => W.heap.size ≤ k) (fun k hk => Nat.le_trans h.below.size hk) h2.sep ((h.sep.bound.move (fun k hk _ => h2.below.block k hk.2)).mono (fun k hk => ⟨hk.1, fun hg => by have := hk.2; omega⟩))⟩
/-! all of the first n -/
def allN (p : Nat → Bool) (n : Nat) : Bool := (List.range n).all p
theorem allN_zero {p : Nat → Bool} : allN p 0 = true := rfl
theorem allN_succ {p : Nat → Bool} {i : Nat} (h : allN p i = true) (h1 : p i = true) : allN p (i + 1) = true := by simp [allN, List.range_succ] at h ⊢; exact ⟨h, h1⟩
theorem allN_fail {p : Nat → Bool} {i n : Nat} (hi : i < n) (h1 : p i = false) : allN p n = false := by
  simp only [allN, List.all_eq_false, List.mem_range]; exact ⟨i, hi, by simp [h1]⟩
/-! zeros; nested values made -/
instance : ZD tInt [.int .i64 0] := ⟨fun W F => ⟨(), rfl, trivial⟩⟩
instance : ZD tStr [.string ⟨#[]⟩] := ⟨fun W F => ⟨(), rfl, trivial⟩⟩
instance : ZD tSlot [.int .i64 0, .string ⟨#[]⟩] := ⟨fun W F => ⟨(), rfl, trivial⟩⟩
instance : ZD tFix [.int .i64 0, .string ⟨#[]⟩] := ⟨fun W F => ⟨(), rfl, trivial⟩⟩
instance {eS : Nat} : ZD (tMsg eS) [.int .i64 0, .int .i64 0, .int .i64 0, .int .i64 0, .int .i64 0, .int .i64 0, .string ⟨#[]⟩, .slice none 0 0] := ⟨fun W F => ⟨(none, 0), rfl, _, fun _ h => h, own_nil tSlot eS, trivial⟩⟩
instance {eI : Nat} : ZD (tAck eI) [.int .i64 0, .slice none 0 0] := ⟨fun W F => ⟨(none, 0), rfl, _, fun _ h => h, own_nil tInt eI, trivial⟩⟩
theorem mk_nest {α : Type} {D : Ty α} {x : α} {ws : List Value} {L R : List Asn} {M : List Asn} (hp : ∀ W ok, SepIn W ok L → SepIn W ok (M ++ R)) (h : ∀ W F, SepIn W F M → (D.A x ws).H W F) : MkIn L D ws x R := ⟨fun W ok hs => by
  obtain ⟨F, h1, h2, h3⟩ := SepIn.append (hp W ok hs)
  exact ⟨F, h1, h W F h2, h3⟩⟩
instance {L R : List Asn} {eS : Nat} {kind frm to ballot index known : Int} {text : ByteArray} {A : Option Addr} {c : Nat} {slots : List Slot} [h : Pk L (own tSlot eS A c slots) R] : MkIn L (tMsg eS) [.int .i64 kind, .int .i64 frm, .int .i64 to, .int .i64 ballot, .int .i64 index, .int .i64 known, .string text, .slice A slots.length c] ⟨kind, frm, to, ballot, index, known, text, slots⟩ R :=
  mk_nest (M := [own tSlot eS A c slots]) (fun W ok hs => hs.perm h.out) (fun W F hs => ⟨(A, c), rfl, hs⟩)
instance {L R : List Asn} {eI : Nat} {index : Int} {A : Option Addr} {c : Nat} {frm : List Int} [h : Pk L (own tInt eI A c frm) R] : MkIn L (tAck eI) [.int .i64 index, .slice A frm.length c] ⟨index, frm⟩ R :=
  mk_nest (M := [own tInt eI A c frm]) (fun W ok hs => hs.perm h.out) (fun W F hs => ⟨(A, c), rfl, hs⟩)
instance {L : List Asn} {x : Slot} {i : Unit} : MkIn L tSlot (encSlot x i) x L := mk_flat fun _ => ⟨(), rfl, trivial⟩
instance {L : List Asn} {x : Fix} {i : Unit} : MkIn L tFix (encFix x i) x L := mk_flat fun _ => ⟨(), rfl, trivial⟩
instance {L R : List Asn} {eS : Nat} {x : Msg} {i : At} [h : Pk L (own tSlot eS i.1 i.2 x.slots) R] : MkIn L (tMsg eS) (encMsg x i) x R := mk_nest (M := [own tSlot eS i.1 i.2 x.slots]) (fun W ok hs => hs.perm h.out) (fun W F hs => ⟨i, rfl, hs⟩)
instance {L R : List Asn} {eI : Nat} {x : Ack} {i : At} [h : Pk L (own tInt eI i.1 i.2 x.frm) R] : MkIn L (tAck eI) (encAck x i) x R := mk_nest (M := [own tInt eI i.1 i.2 x.frm]) (fun W ok hs => hs.perm h.out) (fun W F hs => ⟨i, rfl, hs⟩)
instance {x : Slot} {i : Unit} : Len (encSlot x i) 2 := ⟨rfl⟩
instance {x : Msg} {i : At} : Len (encMsg x i) 8 := ⟨rfl⟩
instance {x : Ack} {i : At} : Len (encAck x i) 2 := ⟨rfl⟩
/-! a row that is filled with another's elements -/
theorem fill_set {α : Type} {ys xs : List α} {i : Nat} (hl : ys.length = xs.length) (h : ∀ j, j < i → ys[j]? = xs[j]?) (hi : i < xs.length) {x : α} (hx : x = xs[i]) : ∀ j, j < i + 1 → (ys.set i x)[j]? = xs[j]? := by
  subst hx
  intro j hj
  by_cases e : i = j
  · subst e
    rw [List.getElem?_set_self (by omega), List.getElem?_eq_getElem hi]
  · rw [List.getElem?_set_ne e]
    exact h j (by omega)
theorem fill_end {α : Type} {ys xs : List α} (hl : ys.length = xs.length) (h : ∀ j, j < xs.length → ys[j]? = xs[j]?) : ys = xs := by
  refine List.ext_getElem? (fun j => ?_)
  by_cases hj : j < xs.length
  · exact h j hj
  · rw [List.getElem?_eq_none (by omega), List.getElem?_eq_none (by omega)]
end Go.Proofs.Ytjeijflpejhkhaa.Sp
