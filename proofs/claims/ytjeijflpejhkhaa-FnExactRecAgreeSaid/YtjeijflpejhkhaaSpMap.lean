/- A map that counts: looked up, counted on. Any program; no condition. -/
import Derived.Test.YtjeijflpejhkhaaSpMore
import Derived.WideKeyEntry
import Derived.DeepKeys4
import Derived.Carry
namespace Go.Proofs.Ytjeijflpejhkhaa.Sp
open Go Go.RowKit Go.ChangeMaps Go.MapKept
open Go.WideMaps (KeyLaw)
set_option linter.unusedVariables false
set_option linter.unusedSimpArgs false
/-- The map's entries tell f. -/
structure CntOk (P : Program) (k : TypeId) (es : Array MapEntry) (clock : Nat) (f : Value → Int) : Prop where
  lt : ∀ x ∈ es.toList, x.born < clock
  nd : (es.toList.map (·.born)).Nodup
  keys : ∀ x ∈ es.toList, ∃ l, keyOf P k x.key = some l
  kd : (es.toList.map (·.key)).Nodup
  val : ∀ x ∈ es.toList, x.val = .int .i64 (f x.key)
  none : ∀ key, (∀ x ∈ es.toList, x.key ≠ key) → f key = 0
noncomputable def upd (f : Value → Int) (key : Value) (n : Int) : Value → Int := fun v => @ite _ (v = key) (Classical.propDecidable _) n (f v)
theorem upd_same (f : Value → Int) (key : Value) (n : Int) : upd f key n key = n := by simp [upd]
theorem upd_ne {f : Value → Int} {key v : Value} {n : Int} (h : v ≠ key) : upd f key n v = f v := by simp [upd, h]
theorem cnt_push {P : Program} {k : TypeId} {es : Array MapEntry} {clock : Nat} {f : Value → Int} (h : CntOk P k es clock f) {key : Value} {kl : Lit} (hk : keyOf P k key = some kl) (hne : ∀ x ∈ es.toList, x.key ≠ key) (n : Int) : CntOk P k (es.push ⟨key, .int .i64 n, clock⟩) (clock + 1) (upd f key n) := by
  obtain ⟨h1, h2, h3, h4, h5, h6⟩ := h
  refine ⟨fun x hx => ?_, ?_, fun x hx => ?_, ?_, fun x hx => ?_, fun q hq => ?_⟩
  · simp only [Array.toList_push, List.mem_append, List.mem_singleton] at hx
    rcases hx with hx | rfl
    · have := h1 x hx; omega
    · exact Nat.lt_succ_self _
  · simp only [Array.toList_push, List.map_append, List.map_cons, List.map_nil]
    refine List.nodup_append.2 ⟨h2, by simp, fun a ha c hc e1 => ?_⟩
    simp only [List.mem_singleton] at hc
    obtain ⟨x, hx, rfl⟩ := List.mem_map.1 ha
    have := h1 x hx
    omega
  · simp only [Array.toList_push, List.mem_append, List.mem_singleton] at hx
    rcases hx with hx | rfl
    · exact h3 x hx
    · exact ⟨kl, hk⟩
  · simp only [Array.toList_push, List.map_append, List.map_cons, List.map_nil]
    refine List.nodup_append.2 ⟨h4, by simp, fun a ha c hc e1 => ?_⟩
    simp only [List.mem_singleton] at hc
    obtain ⟨x, hx, rfl⟩ := List.mem_map.1 ha
    exact hne x hx (e1.trans hc)
  · simp only [Array.toList_push, List.mem_append, List.mem_singleton] at hx
    rcases hx with hx | rfl
    · rw [upd_ne (hne x hx)]; exact h5 x hx
    · simp only [upd_same]
  · have hqk : q ≠ key := fun e => hq ⟨key, .int .i64 n, clock⟩ (by simp) e.symm
    rw [upd_ne hqk]
    exact h6 q (fun x hx => hq x (by simp only [Array.toList_push, List.mem_append]; exact .inl hx))
theorem cnt_set {P : Program} {k : TypeId} {es es' : Array MapEntry} {clock : Nat} {f : Value → Int} (h : CntOk P k es clock f) {key : Value} {kl : Lit} (hk : keyOf P k key = some kl) {j : Nat} {e0 : MapEntry} (hj : es.toList[j]? = some e0) (he : e0.key = key) (n : Int) (hs : es'.toList = es.toList.set j ⟨key, .int .i64 n, e0.born⟩) : CntOk P k es' clock (upd f key n) := by
  obtain ⟨h1, h2, h3, h4, h5, h6⟩ := h
  have hjl : j < es.toList.length := (List.getElem?_eq_some_iff.1 hj).1
  have hje : es.toList[j] = e0 := (List.getElem?_eq_some_iff.1 hj).2
  have hmem : ∀ x ∈ es'.toList, x = ⟨key, .int .i64 n, e0.born⟩ ∨ ∃ i, ∃ hi : i < es.toList.length, i ≠ j ∧ es.toList[i] = x := by
    intro x hx
    rw [hs] at hx
    obtain ⟨i, hi, rfl⟩ := List.getElem_of_mem hx
    by_cases e : i = j
    · subst e; left; simp
    · right
      exact ⟨i, by simpa using hi, e, by rw [List.getElem_set_ne (fun h => e h.symm)]⟩
  have hborn : es'.toList.map (·.born) = es.toList.map (·.born) := by
    rw [hs, List.map_set]
    refine Go.WideElems.set_self _ _ _ ?_
    simp [hj]
  have hkey : es'.toList.map (·.key) = es.toList.map (·.key) := by
    rw [hs, List.map_set]
    refine Go.WideElems.set_self _ _ _ ?_
    simp [hj, he]
  have hkne : ∀ i (hi : i < es.toList.length), i ≠ j → es.toList[i].key ≠ key := by
    intro i hi hne e
    have hp := List.pairwise_iff_getElem.1 h4
    rcases Nat.lt_or_gt_of_ne hne with h | h
    · exact hp i j (by simpa using hi) (by simpa using hjl) h (by simp only [List.getElem_map]; rw [e, hje, he])
    · exact hp j i (by simpa using hjl) (by simpa using hi) h (by simp only [List.getElem_map]; rw [e, hje, he])
  refine ⟨fun x hx => ?_, by rw [hborn]; exact h2, fun x hx => ?_, by rw [hkey]; exact h4, fun x hx => ?_, fun q hq => ?_⟩
  · rcases hmem x hx with rfl | ⟨i, hi, _, rfl⟩
    · exact h1 e0 (List.mem_of_getElem? hj)
    · exact h1 _ (List.getElem_mem hi)
  · rcases hmem x hx with rfl | ⟨i, hi, _, rfl⟩
    · exact ⟨kl, hk⟩
    · exact h3 _ (List.getElem_mem hi)
  · rcases hmem x hx with rfl | ⟨i, hi, hne, rfl⟩
    · simp only [upd_same]
    · rw [upd_ne (hkne i hi hne)]; exact h5 _ (List.getElem_mem hi)
  · have hkm : ∀ q, (∃ x ∈ es'.toList, x.key = q) ↔ ∃ x ∈ es.toList, x.key = q := by
      intro q
      have e1 : (∃ x ∈ es'.toList, x.key = q) ↔ q ∈ es'.toList.map (·.key) := by simp [List.mem_map]
      have e2 : (∃ x ∈ es.toList, x.key = q) ↔ q ∈ es.toList.map (·.key) := by simp [List.mem_map]
      rw [e1, e2, hkey]
    have hqk : q ≠ key := by
      rintro rfl
      obtain ⟨x, hx, e⟩ := (hkm q).2 ⟨e0, List.mem_of_getElem? hj, he⟩
      exact hq x hx e
    rw [upd_ne hqk]
    refine h6 q (fun x hx e => ?_)
    obtain ⟨y, hy, e2⟩ := (hkm q).2 ⟨x, hx, e⟩
    exact hq y hy e2
/-- A map that counts. -/
def cnt (P : Program) (k b : Nat) (f : Value → Int) : Asn where
  H := fun W F => F b ∧ ∃ es clock, W.heap[b]? = some (.map es clock) ∧ CntOk P k es clock f
  mono := fun h ⟨h1, h2⟩ => ⟨h _ h1, h2⟩
  move := fun h ⟨h1, es, clock, h2, h3⟩ => ⟨h1, es, clock, (h _ h1 (Array.getElem?_eq_some_iff.1 h2).1).trans h2, h3⟩
  bound := fun ⟨h1, es, clock, h2, h3⟩ => ⟨⟨h1, (Array.getElem?_eq_some_iff.1 h2).1⟩, es, clock, h2, h3⟩
/-- .. between an entry's finding and its writing. -/
def half (P : Program) (k t b : Nat) (f : Value → Int) (key : Value) (st : Nat) : Asn where
  H := fun W F => F b ∧ ∃ es clock, W.heap[b]? = some (.map es clock) ∧ (∀ w2 : World, w2.heap[b]? = some (.map es clock) → (Instr.lookup t (.map (some b)) key false).run P w2 = .ok (.int .i64 (f key)) w2) ∧ ∀ (w2 : World) (n : Int), w2.heap[b]? = some (.map es clock) → ∃ es' clock', (Instr.entryStore t (.map (some b)) (goInt st) (.int .i64 n)).run P w2 = .ok () (setBlock w2 b (.map es' clock')) ∧ CntOk P k es' clock' (upd f key n)
  mono := fun h ⟨h1, h2⟩ => ⟨h _ h1, h2⟩
  move := fun h ⟨h1, es, clock, h2, h3⟩ => ⟨h1, es, clock, (h _ h1 (Array.getElem?_eq_some_iff.1 h2).1).trans h2, h3⟩
  bound := fun ⟨h1, es, clock, h2, h3⟩ => ⟨⟨h1, (Array.getElem?_eq_some_iff.1 h2).1⟩, es, clock, h2, h3⟩
class CntAt (L : List Asn) (b : Nat) (P : outParam Program) (k : outParam Nat) (f : outParam (Value → Int)) : Prop where mem : ∃ R, L.Perm (cnt P k b f :: R)
instance CntAt.here {P : Program} {k b : Nat} {f : Value → Int} {L : List Asn} : CntAt (cnt P k b f :: L) b P k f := ⟨L, List.Perm.refl _⟩
instance (priority := low) CntAt.there {P : Program} {k b : Nat} {f : Value → Int} {L : List Asn} {B : Asn} [h : CntAt L b P k f] : CntAt (B :: L) b P k f := ⟨by
  obtain ⟨R, h⟩ := h.mem
  exact ⟨B :: R, (List.Perm.cons B h).trans (List.Perm.swap _ B R)⟩⟩
class HalfAt (L : List Asn) (b : Nat) (P : outParam Program) (k t : outParam Nat) (f : outParam (Value → Int)) (key : outParam Value) (st : outParam Nat) : Prop where mem : ∃ R, L.Perm (half P k t b f key st :: R)
instance HalfAt.here {P : Program} {k t b : Nat} {f : Value → Int} {key : Value} {st : Nat} {L : List Asn} : HalfAt (half P k t b f key st :: L) b P k t f key st := ⟨L, List.Perm.refl _⟩
instance (priority := low) HalfAt.there {P : Program} {k t b : Nat} {f : Value → Int} {key : Value} {st : Nat} {L : List Asn} {B : Asn} [h : HalfAt L b P k t f key st] : HalfAt (B :: L) b P k t f key st := ⟨by
  obtain ⟨R, h⟩ := h.mem
  exact ⟨B :: R, (List.Perm.cons B h).trans (List.Perm.swap _ B R)⟩⟩
section
variable {P : Program} {n : Nat} {ops : Array Oper} {Q : Exit → Act → World → Prop} {rest : List Oper} {E : Env} {w0 W : World} {L L' : List Asn}
variable {d b k e t st : Nat} {ty : TypeId} {pos : String} {after : Array Edge} {x y z : Operand} {f : Value → Int} {key : Value}
theorem setBlock_grown {w : World} {b : Nat} {o o' : Obj} (hb : w.heap[b]? = some o) : (setBlock w b o').heap[b]? = some o' ∧ (setBlock w b o').os = w.os ∧ (setBlock w b o').tape = w.tape ∧ (setBlock w b o').output = w.output ∧ (setBlock w b o').heap.size = w.heap.size ∧ ∀ j, j ≠ b → (setBlock w b o').heap[j]? = w.heap[j]? := by
  have h := heap_set (o' := o') hb
  exact ⟨h.1, rfl, rfl, rfl, by simp [setBlock], fun j hj => h.2 j hj⟩
/-- The part of a map is turned by what is done to its block. -/
theorem Mem.mapTurn {A B : Asn} {o' : Obj} (hm : Mem w0 W L) [hr : Rp L A B L'] (hA : ∀ F, A.H W F → F b ∧ ∃ o, W.heap[b]? = some o) (hB : ∀ F, A.H W F → ∀ F' : Nat → Prop, F' b → B.H (setBlock W b o') F') : Mem w0 (setBlock W b o') L' := by
  obtain ⟨R, p1, p2⟩ := hr.out
  refine Mem.perm (L := B :: R) ?_ p2.symm
  refine (hm.perm p1).turn1 (fun F hF hH => ?_)
  obtain ⟨hFb, o, hb⟩ := hA F hH
  obtain ⟨_, e1, e2, e3, e4, e5⟩ := setBlock_grown (o' := o') hb
  exact ⟨e1, e2, e3, by omega, fun j _ hn => e5 j (fun e => hn (e ▸ hFb)), hB F hH _ (.inl hFb)⟩
theorem Mem.cnt [hC : CntAt L b P k f] (hm : Mem w0 W L) : ∃ es clock, W.heap[b]? = some (.map es clock) ∧ CntOk P k es clock f := by
  obtain ⟨R, hp⟩ := hC.mem
  obtain ⟨F, _, ⟨_, h⟩, _⟩ := (hm.perm hp).sep
  exact h
theorem look_run [hU : Und P t (.map k e)] (hK : KeyLaw P k) (hz : ∀ u : World, (zeroValue e).run P u = .ok (.int .i64 0) u) {es : Array MapEntry} {clock : Nat} {kl : Lit} (hk : keyOf P k key = some kl) (hks : ∀ x ∈ es.toList, ∃ l, keyOf P k x.key = some l) (hv : ∀ x ∈ es.toList, x.key = key → x.val = .int .i64 (f key)) (hn : (∀ x ∈ es.toList, x.key ≠ key) → f key = 0) (w2 : World) (hb : w2.heap[b]? = some (.map es clock)) : (Instr.lookup t (.map (some b)) key false).run P w2 = .ok (.int .i64 (f key)) w2 := by
  rcases hK.find w2 hk es.toList hks with ⟨h1, h2⟩ | ⟨j, e0, h1, h2, h3⟩
  · have := hn h2
    rw [this]
    simp [Instr.lookup, run_underlying hU.out, Go.MapKept.run_getObj_map hb, hK.check w2 _ hk, h1, hz, Result.andThen]
  · have h4 := hv e0 (List.mem_of_getElem? h2) h3
    simp [Instr.lookup, run_underlying hU.out, Go.MapKept.run_getObj_map hb, hK.check w2 _ hk, h1, h4, Result.andThen]
theorem p_lookup [hU : Und P t (.map k e)] (hK : KeyLaw P k) (hz : ∀ u : World, (zeroValue e).run P u = .ok (.int .i64 0) u) [hC : CntAt L b P k f] (hx : ev E x = some (.map (some b))) (hy : ev E y = some key) (hk : ∃ kl, keyOf P k key = some kl) : LV P E w0 L (.lookup t x y false) (.int .i64 (f key)) :=
  ⟨fun W hm n a ha dst ty pos after gd => by
    obtain ⟨es, clock, hb, hc⟩ := hm.cnt (b := b)
    obtain ⟨kl, hk⟩ := hk
    have hl := look_run (t := t) (b := b) hK hz hk hc.keys (fun x hx e => e ▸ hc.val x hx) (hc.none key) W hb
    simp [execOp, ha.eval hx, ha.eval hy, hl]⟩
theorem p_lookup2 [hU : Und P t (.map k e)] (hK : KeyLaw P k) (hz : ∀ u : World, (zeroValue e).run P u = .ok (.int .i64 0) u) [hC : CntAt L b P k f] (hx : ev E x = some (.map (some b))) (hy : ev E y = some key) (hk : ∃ kl, keyOf P k key = some kl) {v : Int} (hv : f key = v) : LV P E w0 L (.lookup t x y false) (.int .i64 v) := hv ▸ p_lookup hK hz hx hy hk
theorem s_mapEntry [hU : Und P t (.map k e)] (hK : KeyLaw P k) (hz : ∀ u : World, (zeroValue e).run P u = .ok (.int .i64 0) u) [hC : CntAt L b P k f] (hm : Mem w0 W L) (hx : ev E x = some (.map (some b))) (hy : ev E y = some key) (hk : ∃ kl, keyOf P k key = some kl) {R : List Asn} [hp : Pk L (Sp.cnt P k b f) R] (hn : Nat.blt d n = true)
    (h : ∀ v0 st W1, Mem w0 W1 (half P k t b f key st :: R) → WL P n ops Q rest ((d, .tuple #[v0, .int .i64 (st : Nat)]) :: E) W1) : WL P n ops Q (⟨some d, .mapEntry t x y, ty, pos, after, none⟩ :: rest) E W := by
  obtain ⟨es, clock, hb, hc⟩ := hm.cnt (b := b)
  obtain ⟨kl, hk⟩ := hk
  have key1 : ∃ (v0 : Value) (st : Nat) (es1 : Array MapEntry) (clock1 : Nat), (Instr.mapEntry t (.map (some b)) key).run P W = .ok (.tuple #[v0, goInt st]) (setBlock W b (.map es1 clock1)) ∧ (∀ w2 : World, w2.heap[b]? = some (.map es1 clock1) → (Instr.lookup t (.map (some b)) key false).run P w2 = .ok (.int .i64 (f key)) w2) ∧
      ∀ (w2 : World) (n : Int), w2.heap[b]? = some (.map es1 clock1) → ∃ es' clock', (Instr.entryStore t (.map (some b)) (goInt st) (.int .i64 n)).run P w2 = .ok () (setBlock w2 b (.map es' clock')) ∧ CntOk P k es' clock' (upd f key n) := by
    rcases hK.find W hk es.toList hc.keys with ⟨h1, h2⟩ | ⟨j, e0, h1, h2, h3⟩
    · refine ⟨.int .i64 0, clock, es.push ⟨key, .int .i64 0, clock⟩, clock + 1, ?_, fun w2 hw2 => ?_, fun w2 val hw2 => ⟨es.push ⟨key, .int .i64 val, clock⟩, clock + 1, ?_, cnt_push hc hk h2 val⟩⟩
      · simp [Instr.mapEntry, run_underlying hU.out, Go.MapKept.run_getObj_map hb, hK.check W false hk, h1, hz, Go.MapKept.run_setObj_map _ hb, Result.andThen, setBlock]
      · have hc0 := cnt_push hc hk h2 0
        have hf0 := hc.none key h2
        have hu : upd f key 0 key = f key := by rw [upd_same, hf0]
        have := look_run (t := t) (b := b) (f := upd f key 0) hK hz hk hc0.keys (fun x hx e => e ▸ hc0.val x hx) (hc0.none key) w2 hw2
        rwa [hu] at this
      · have hidx : (es.push ⟨key, .int .i64 0, clock⟩).findIdx? (fun e => ((e.born : Nat) : Int) == ((clock : Nat) : Int)) = some es.size := by
          rw [Go.WideElems.findIdx_arr]
          have := Go.WideElems.findIdx_born (l := (es.push ⟨key, .int .i64 0, clock⟩).toList) (j := es.size) (e0 := ⟨key, .int .i64 0, clock⟩) (by
            simp only [Array.toList_push, List.map_append, List.map_cons, List.map_nil]
            refine List.nodup_append.2 ⟨hc.nd, by simp, fun a ha c hc2 e1 => ?_⟩
            simp only [List.mem_singleton] at hc2
            obtain ⟨x, hx, rfl⟩ := List.mem_map.1 ha
            have := hc.lt x hx
            omega) (by simp)
          exact this
        have hmod : (es.push ⟨key, .int .i64 0, clock⟩).modify es.size (fun e => { e with val := .int .i64 val }) = es.push ⟨key, .int .i64 val, clock⟩ := by
          apply Array.ext'
          rw [Array.toList_modify, Array.toList_push, Array.toList_push, ← Array.length_toList, Go.WideElems.modify_last]
        simp [Instr.entryStore, Go.MapKept.run_getObj_map hw2, asInt, asIntOf, goInt, hidx, hmod, Go.MapKept.run_setObj_map _ hw2, Result.andThen, setBlock]
    · have hj : es[j]? = some e0 := by simpa using h2
      have hsame : es.modify j (fun e => { e with key := key }) = es := by
        apply Array.ext'
        rw [Array.toList_modify, Go.ChangeMaps.modify_eq_set _ _ _ _ h2]
        have : ({ e0 with key := key } : MapEntry) = e0 := by rw [← h3]
        rw [this]
        exact Go.WideElems.set_self _ _ _ h2
      refine ⟨e0.val, e0.born, es, clock, ?_, fun w2 hw2 => look_run (t := t) (b := b) hK hz hk hc.keys (fun x hx e => e ▸ hc.val x hx) (hc.none key) w2 hw2, fun w2 val hw2 => ⟨es.modify j (fun e' => { e' with val := .int .i64 val }), clock, ?_, cnt_set hc hk h2 h3 val ?_⟩⟩
      · simp [Instr.mapEntry, run_underlying hU.out, Go.MapKept.run_getObj_map hb, hK.check W false hk, h1, hj, h3, hK.stays W hk, hsame, Go.MapKept.run_setObj_map _ hb, Result.andThen, setBlock]
      · have hidx : es.findIdx? (fun e => ((e.born : Nat) : Int) == ((e0.born : Nat) : Int)) = some j := by
          rw [Go.WideElems.findIdx_arr]
          exact Go.WideElems.findIdx_born hc.nd h2
        simp [Instr.entryStore, Go.MapKept.run_getObj_map hw2, asInt, asIntOf, goInt, hidx, Go.MapKept.run_setObj_map _ hw2, Result.andThen, setBlock]
      · rw [Array.toList_modify, Go.ChangeMaps.modify_eq_set _ _ _ _ h2, ← h3]
  obtain ⟨v0, st, es1, clock1, hrun, hst⟩ := key1
  refine s_run (W1 := setBlock W b (.map es1 clock1)) rfl rfl hn (fun a ha => by simp [execOp, ha.eval hx, ha.eval hy, hrun, goInt]) (h v0 st _ ?_)
  have hr : Rp L (Sp.cnt P k b f) (half P k t b f key st) (half P k t b f key st :: R) := ⟨R, hp.out, List.Perm.refl _⟩
  refine hm.mapTurn (b := b) (hr := hr) (fun F hF => ⟨hF.1, _, hb⟩) (fun F hF F' hF' => ⟨hF', es1, clock1, (setBlock_grown hb).1, hst⟩)
theorem s_entryStore {m : Int} [hC : HalfAt L b P k t f key st] (hm : Mem w0 W L) (hx : ev E x = some (.map (some b))) (hy : ev E y = some (.int .i64 (st : Nat))) (hz : ev E z = some (.int .i64 m)) [hr : Rp L (half P k t b f key st) (Sp.cnt P k b (upd f key m)) L'] (h : ∀ W1, Mem w0 W1 L' → WL P n ops Q rest E W1) :
    WL P n ops Q (⟨none, .entryStore t x y z, ty, pos, after, none⟩ :: rest) E W := by
  obtain ⟨R, hp⟩ := hC.mem
  obtain ⟨F0, _, ⟨_, es, clock, hb, _, hst⟩, _⟩ := (hm.perm hp).sep
  obtain ⟨es', clock', hrun, hok⟩ := hst W m hb
  refine s_act (W1 := setBlock W b (.map es' clock')) rfl rfl (fun a ha => ?_) (h _ ?_)
  · simp only [goInt] at hrun
    simp [execOp, ha.eval hx, ha.eval hy, ha.eval hz, hrun]
  · exact hm.mapTurn (A := half P k t b f key st) (B := Sp.cnt P k b (upd f key m)) (b := b) (fun F hF => ⟨hF.1, _, hb⟩) (fun F hF F' hF' => ⟨hF', es', clock', (setBlock_grown hb).1, hok⟩)
/-- What a key's look-up yields, whatever else becomes of the map. -/
def lookP (P : Program) (t b : Nat) (key : Value) (v : Int) : Asn where
  H := fun W F => F b ∧ ∃ es clock, W.heap[b]? = some (.map es clock) ∧ ∀ w2 : World, w2.heap[b]? = some (.map es clock) → (Instr.lookup t (.map (some b)) key false).run P w2 = .ok (.int .i64 v) w2
  mono := fun h ⟨h1, h2⟩ => ⟨h _ h1, h2⟩
  move := fun h ⟨h1, es, clock, h2, h3⟩ => ⟨h1, es, clock, (h _ h1 (Array.getElem?_eq_some_iff.1 h2).1).trans h2, h3⟩
  bound := fun ⟨h1, es, clock, h2, h3⟩ => ⟨⟨h1, (Array.getElem?_eq_some_iff.1 h2).1⟩, es, clock, h2, h3⟩
theorem p_lookupP {v : Int} {R : List Asn} (hx : ev E x = some (.map (some b))) (hy : ev E y = some key) : LV P E w0 (lookP P t b key v :: R) (.lookup t x y false) (.int .i64 v) :=
  ⟨fun W hm n a ha dst ty pos after gd => by
    obtain ⟨_, F, _, ⟨_, es, clock, hb, hl⟩, _⟩ := hm
    have := hl W hb
    simp [execOp, ha.eval hx, ha.eval hy, this]⟩
theorem Mem.lookC [hU : Und P t (.map k e)] (hK : KeyLaw P k) (hz : ∀ u : World, (zeroValue e).run P u = .ok (.int .i64 0) u) (hk : ∃ kl, keyOf P k key = some kl) {v : Int} (hv : f key = v) {R : List Asn} [hp : Pk L (Sp.cnt P k b f) R] (hm : Mem w0 W L) : Mem w0 W (lookP P t b key v :: R) := by
  obtain ⟨kl, hk⟩ := hk
  obtain ⟨hb, F, h1, ⟨h2, es, clock, h3, hc⟩, h4⟩ := hm.perm hp.out
  subst hv
  exact ⟨hb, F, h1, ⟨h2, es, clock, h3, fun w2 hw2 => look_run (t := t) (b := b) hK hz hk hc.keys (fun x hx e => e ▸ hc.val x hx) (hc.none key) w2 hw2⟩, h4⟩
theorem Mem.lookH {v : Int} (hv : f key = v) {R : List Asn} (hm : Mem w0 W (half P k t b f key st :: R)) : Mem w0 W (lookP P t b key v :: R) := by
  obtain ⟨hb, F, h1, ⟨h2, es, clock, h3, hl, _⟩, h4⟩ := hm
  subst hv
  exact ⟨hb, F, h1, ⟨h2, es, clock, h3, hl⟩, h4⟩
/-- A drawn region whose loads lean on less than what is known. -/
theorem d_start2 {id : Nat} {l : List Oper} {L2 : List Asn} (ds : List Nat) (plan : List (Nat × Nat)) (hm : Mem w0 W L) (hw : ∀ w, Mem w0 w L → Mem w0 w L2) (hmix : P.follows .mixedOrders = true) (hsel : Region.noSelect l.toArray = true) (hq : QP Q)
    (hp : planB l.toArray ds (Array.replicate l.toArray.size false) plan = true) (hlen : plan.length = l.toArray.size) (h : QP Q → Region.noSelect l.toArray = true → ∀ W1, Mem w0 W1 L → WD P n l.toArray Q (fun w => Mem w0 w L2) ds plan E W1) : WC P n (.region id l.toArray true) Q E W := by
  refine ⟨fun a ha => ?_⟩
  refine Go.Proofs.YtjeijflpejhkhaaW.PrintLast.start_ (S := fun w => Mem w0 w L2) (ds := ds) (n := plan.length) (Array.replicate l.toArray.size false) hmix hlen.symm (by rw [hlen]) (hw _ hm.drew) (fun hS => ?_)
  exact (h hq hsel _ hm.drew).out _ hp a ha hS
theorem cnt_new (P : Program) (k clock : Nat) : CntOk P k #[] clock (fun _ => 0) := ⟨by simp, by simp, by simp, by simp, by simp, fun _ _ => rfl⟩
theorem s_makeMap [hU : Und P t (.map k e)] (hm : Mem w0 W L) (hn : Nat.blt d n = true) (h : ∀ b W1, Mem w0 W1 (Sp.cnt P k b (fun _ => 0) :: L) → WL P n ops Q rest ((d, .map (some b)) :: E) W1) : WL P n ops Q (⟨some d, .makeMap t none, ty, pos, after, none⟩ :: rest) E W := by
  refine s_run (W1 := W.alloc (.map #[] 0)) rfl rfl hn (fun a ha => ?_) (h W.heap.size _ (hm.add ((Below.refl _ _).alloc (Nat.le_refl _) _) ⟨Nat.le_refl _, #[], 0, heap_alloc_new W _, cnt_new P k 0⟩))
  simp [execOp, run_makeMap]
end
end Go.Proofs.Ytjeijflpejhkhaa.Sp
