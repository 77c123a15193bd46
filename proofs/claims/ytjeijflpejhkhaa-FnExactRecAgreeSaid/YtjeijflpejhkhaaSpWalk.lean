/- A walk of Go functions by small rules: the frame is a list of what is known of the slots; each rule takes one operation. Any program; no condition. -/
import Derived.Calls
import Derived.Tactics
import Derived.Tactics2
import Derived.Deep.LoopGhost
import Derived.WalkKit
import Derived.KernelRfl
import Derived.Below
import Derived.Orders
namespace Go.Proofs.Ytjeijflpejhkhaa.Sp
set_option linter.unusedVariables false
set_option linter.unusedSimpArgs false
open Go

/-- What is known of a frame's slots, the last written first. -/
abbrev Env := List (Nat × Value)
def look : Env → Nat → Option Value
  | [], _ => none
  | (s, v) :: r, t => match Nat.beq s t with | true => some v | false => look r t
def ev (E : Env) : Operand → Option Value
  | .tmp t => look E t
  | .const v => some v
  | .global g => some (.pointer (some ⟨g, 0, none⟩))
  | .func f => some (.func (.func f) #[] #[])
def evs (E : Env) : List Operand → Option (List Value)
  | [] => some []
  | x :: r => match ev E x, evs E r with | some v, some vs => some (v :: vs) | _, _ => none
structure Fits (n : Nat) (E : Env) (a : Act) : Prop where
  size : a.tmps.size = n
  defers : a.defers = []
  slots : ∀ t v, look E t = some v → a.tmps.getD t undef = v
theorem look_cons (s : Nat) (v : Value) (r : Env) (t : Nat) : look ((s, v) :: r) t = if s = t then some v else look r t := by
  rw [look]
  by_cases h : s = t
  · subst h
    simp [Nat.beq_refl]
  · simp only [h, if_false]
    have : Nat.beq s t = false := by
      cases hb : Nat.beq s t with
      | false => rfl
      | true => exact absurd (Nat.eq_of_beq_eq_true hb) h
    rw [this]
theorem Fits.eval {n : Nat} {E : Env} {a : Act} (h : Fits n E a) {x : Operand} {v : Value} (hx : ev E x = some v) : a.eval x = v := by
  cases x with
  | tmp t => exact h.slots t v hx
  | const u => exact Option.some.inj hx
  | global g => exact Option.some.inj hx
  | func f => exact Option.some.inj hx
theorem Fits.evals {n : Nat} {E : Env} {a : Act} (h : Fits n E a) : ∀ {xs : List Operand} {vs : List Value}, evs E xs = some vs → xs.map a.eval = vs
  | [], vs, hx => by cases hx; rfl
  | x :: r, vs, hx => by
    unfold evs at hx
    cases hv : ev E x with
    | none => simp [hv] at hx
    | some v =>
      cases hvs : evs E r with
      | none => simp [hv, hvs] at hx
      | some us =>
        simp only [hv, hvs] at hx
        cases hx
        rw [List.map_cons, h.eval hv, h.evals hvs]
theorem Fits.put {n : Nat} {E : Env} {a : Act} (h : Fits n E a) {d : Nat} (hd : d < n) (v : Value) : Fits n ((d, v) :: E) (a.put (some d) v) := by
  refine ⟨by simp [Act.put, h.size], h.defers, fun t u ht => ?_⟩
  rw [look_cons] at ht
  by_cases e : d = t
  · subst e
    simp only [if_true] at ht
    cases ht
    simp [Act.put, h.size, hd]
  · simp only [e, if_false] at ht
    have := h.slots t u ht
    simpa [Act.put, Array.getElem?_setIfInBounds_ne e] using this
/-- Fewer things are known. -/
theorem Fits.sub {n : Nat} {E E' : Env} {a : Act} (h : Fits n E a) (hs : ∀ t v, look E' t = some v → look E t = some v) : Fits n E' a := ⟨h.size, h.defers, fun t v ht => h.slots t v (hs t v ht)⟩
/-- All that E' tells E tells too: what a loop's head asks; each line by rfl. -/
def subE (E : Env) : Env → Prop
  | [] => True
  | (t, v) :: r => look E t = some v ∧ subE E r
theorem subE_look {E : Env} : ∀ {E' : Env}, subE E E' → ∀ t v, look E' t = some v → look E t = some v
  | [], _, t, v, h => by cases h
  | (s, u) :: r, hs, t, v, h => by
    rw [look_cons] at h
    by_cases e : s = t
    · subst e
      simp only [if_true] at h
      cases h
      exact hs.1
    · simp only [e, if_false] at h
      exact subE_look hs.2 t v h

theorem look_int {E : Env} {t : Nat} {k : IntKind} {a b : Int} (h : look E t = some (.int k a)) (e : a = b) : look E t = some (.int k b) := e ▸ h
theorem wr {x : Int} (h0 : -9223372036854775808 ≤ x) (h1 : x ≤ 9223372036854775807) : IntKind.i64.wrap x = x := by rw [IntKind.wrap_i64]; omega

/-! ### the goals of the walk -/
section
variable {P : Program} {n : Nat}
/-- A region's rest. -/
structure WL (P : Program) (n : Nat) (ops : Array Oper) (Q : Exit → Act → World → Prop) (rest : List Oper) (E : Env) (W : World) : Prop where out : ∀ a, Fits n E a → wpList P ops Q rest a W
/-- A piece of code. -/
structure WC (P : Program) (n : Nat) (c : Code) (Q : Exit → Act → World → Prop) (E : Env) (W : World) : Prop where out : ∀ a, Fits n E a → c.wp P Q a W
/-- What is left behind a piece of code. -/
structure WN (n : Nat) (x : Exit) (Q : Exit → Act → World → Prop) (E : Env) (W : World) : Prop where out : ∀ a, Fits n E a → Q x a W

variable {ops : Array Oper} {Q Q' : Exit → Act → World → Prop} {rest : List Oper} {E : Env} {W : World}

/-- What the arguments tell of the slots. -/
def subA (args : List Value) : Env → Prop
  | [] => True
  | (t, v) :: r => args[t]? = some v ∧ subA args r
theorem subA_look {args : List Value} : ∀ {E : Env}, subA args E → ∀ t v, look E t = some v → args[t]? = some v
  | [], _, t, v, h => by cases h
  | (s, u) :: r, hs, t, v, h => by
    rw [look_cons] at h
    by_cases e : s = t
    · subst e
      simp only [if_true] at h
      cases h
      exact hs.1
    · simp only [e, if_false] at h
      exact subA_look hs.2 t v h
theorem enter {f : FuncId} {fn : Func} {c : Code} {n : Nat} {args : List Value} {W : World} {R : Ending → World → Prop} (hf : P.funcs[f]? = some fn) (hb : fn.body = some c) (hn : fn.ntmps = n)
    (E : Env) (hl : Nat.ble args.length n = true) (hE : subA args E) (h : WC P n c (bodyPost P fn R) E W) : Calls P f args.toArray W R := by
  have hl := Nat.le_of_ble_eq_true hl
  refine calls_of_wp hf hb (h.out _ ⟨?_, rfl, fun t v ht => ?_⟩)
  · simp [hn]; omega
  · have h2 := subA_look hE t v ht
    have hlt : t < args.length := (List.getElem?_eq_some_iff.1 h2).1
    have h4 : args[t] = v := by rw [List.getElem?_eq_getElem hlt] at h2; exact Option.some.inj h2
    simp [Array.getElem?_append, hlt, h4]

theorem c_seq {x y : Code} (h : WC P n x (Exit.then (y.wp P Q) Q) E W) : WC P n (.seq x y) Q E W := ⟨fun a ha => wp_seq (h.out a ha)⟩
theorem c_block {id : Nat} {c : Code} (h : WC P n c (Exit.inBlock id Q) E W) : WC P n (.block id c) Q E W := ⟨fun a ha => wp_block (h.out a ha)⟩
theorem c_skip (h : WN n .normal Q E W) : WC P n .skip Q E W := ⟨fun a ha => wp_skip (h.out a ha)⟩
theorem c_ret (h : WN n .ret Q E W) : WC P n .ret Q E W := ⟨fun a ha => wp_ret (h.out a ha)⟩
theorem c_exit {id : Nat} (h : WN n (.exit id) Q E W) : WC P n (.exit id) Q E W := ⟨fun a ha => wp_exit (h.out a ha)⟩
theorem c_region {id : Nat} {l : List Oper} (h : WL P n l.toArray Q l E W) : WC P n (.region id l.toArray false) Q E W := ⟨fun a ha => wp_region_lit (h.out a ha)⟩
theorem c_cond {c : Operand} {x y : Code} {b : Bool} (hc : ev E c = some (.bool b)) (ht : b = true → WC P n x Q E W) (hf : b = false → WC P n y Q E W) : WC P n (.cond c x y) Q E W :=
  ⟨fun a ha => wp_cond_split (ha.eval hc) (fun hb => (ht hb).out a ha) (fun hb => (hf hb).out a ha)⟩
theorem c_yes {c : Operand} {x y : Code} {b : Bool} (hc : ev E c = some (.bool b)) (hb : b = true) (ht : WC P n x Q E W) : WC P n (.cond c x y) Q E W := ⟨fun a ha => wp_cond_true (by rw [ha.eval hc, hb]) (ht.out a ha)⟩
theorem c_no {c : Operand} {x y : Code} {b : Bool} (hc : ev E c = some (.bool b)) (hb : b = false) (hf : WC P n y Q E W) : WC P n (.cond c x y) Q E W := ⟨fun a ha => wp_cond_false (by rw [ha.eval hc, hb]) (hf.out a ha)⟩
theorem c_loop {σ : Type} {c : Code} (J : σ → Env) (M : σ → World → Prop) (μ : σ → Nat) (s0 : σ) (h0 : subE E (J s0)) (hM : M s0 W)
    (round : ∀ s W, M s W → WC P n c (Exit.then (fun a w => ∃ s', Fits n (J s') a ∧ M s' w ∧ μ s' < μ s) Q) (J s) W) : WC P n (.loop c) Q E W := by
  refine ⟨fun a ha => ?_⟩
  refine wp_loop_ghost (fun k a w => ∃ s, μ s = k ∧ Fits n (J s) a ∧ M s w) (μ s0) ⟨s0, rfl, ha.sub (subE_look h0), hM⟩ ?_
  rintro k a w ⟨s, rfl, hf, hMs⟩
  refine wp_mono ((round s w hMs).out a hf) ?_
  intro e a' w' hq
  cases e with
  | normal =>
    obtain ⟨s', h1, h2, h3⟩ := hq
    exact ⟨_, h3, s', rfl, h1, h2⟩
  | _ => exact hq

/-- A loop that fills a row: its address and capacity turn too. -/
theorem c_loop2 {σ : Type} {c : Code} (J : σ → Option Addr → Nat → Env) (M : σ → Option Addr → Nat → World → Prop) (μ : σ → Nat) (s0 : σ) (A0 : Option Addr) (c0 : Nat) (h0 : subE E (J s0 A0 c0)) (hM : M s0 A0 c0 W)
    (round : ∀ s A cap W, M s A cap W → WC P n c (Exit.then (fun a w => ∃ s' A' cap', Fits n (J s' A' cap') a ∧ M s' A' cap' w ∧ μ s' < μ s) Q) (J s A cap) W) : WC P n (.loop c) Q E W := by
  refine ⟨fun a ha => ?_⟩
  refine wp_loop_ghost (fun k a w => ∃ s A cap, μ s = k ∧ Fits n (J s A cap) a ∧ M s A cap w) (μ s0) ⟨s0, A0, c0, rfl, ha.sub (subE_look h0), hM⟩ ?_
  rintro k a w ⟨s, A, cap, rfl, hf, hMs⟩
  refine wp_mono ((round s A cap w hMs).out a hf) ?_
  intro e a' w' hq
  cases e with
  | normal =>
    obtain ⟨s', A', cap', h1, h2, h3⟩ := hq
    exact ⟨_, h3, s', A', cap', rfl, h1, h2⟩
  | _ => exact hq
theorem n_round2 {σ : Type} {J : σ → Option Addr → Nat → Env} {M : σ → Option Addr → Nat → World → Prop} {μ : σ → Nat} {k : Nat} (s : σ) (A : Option Addr) (cap : Nat) (hJ : subE E (J s A cap)) (hM : M s A cap W) (hk : μ s < k) : WN n .normal (Exit.then (fun a w => ∃ s' A' cap', Fits n (J s' A' cap') a ∧ M s' A' cap' w ∧ μ s' < k) Q) E W :=
  ⟨fun _ ha => ⟨s, A, cap, ha.sub (subE_look hJ), hM, hk⟩⟩
/-- A loop that is left in its first round. -/
theorem c_once {c : Code} (h : WC P n c (Exit.then (fun _ _ => False) Q) E W) : WC P n (.loop c) Q E W := ⟨fun a ha => wp_loop_once (h.out a ha)⟩
/-! what is left behind a piece of code, by the form of the post -/
theorem n_then {y : Code} (h : WC P n y Q E W) : WN n .normal (Exit.then (y.wp P Q) Q') E W := ⟨h.out⟩
theorem n_block {id : Nat} (h : WN n .normal Q E W) : WN n .normal (Exit.inBlock id Q) E W := ⟨h.out⟩
theorem n_round {σ : Type} {J : σ → Env} {M : σ → World → Prop} {μ : σ → Nat} {k : Nat} (s : σ) (hJ : subE E (J s)) (hM : M s W) (hk : μ s < k) : WN n .normal (Exit.then (fun a w => ∃ s', Fits n (J s') a ∧ M s' w ∧ μ s' < k) Q) E W :=
  ⟨fun _ ha => ⟨s, ha.sub (subE_look hJ), hM, hk⟩⟩
theorem x_then {id : Nat} {N : Act → World → Prop} (h : WN n (.exit id) Q E W) : WN n (.exit id) (Exit.then N Q) E W := ⟨h.out⟩
theorem x_here {id : Nat} (h : WN n .normal Q E W) : WN n (.exit id) (Exit.inBlock id Q) E W := ⟨fun a ha => by
  show (if id = id then Q .normal a W else Q (.exit id) a W)
  rw [if_pos rfl]
  exact h.out a ha⟩
theorem x_on {id id' : Nat} (hne : (id == id') = false) (h : WN n (.exit id) Q E W) : WN n (.exit id) (Exit.inBlock id' Q) E W := ⟨fun a ha => by
  show (if id = id' then Q .normal a W else Q (.exit id) a W)
  rw [if_neg (by simpa using hne)]
  exact h.out a ha⟩
theorem r_then {N : Act → World → Prop} (h : WN n .ret Q E W) : WN n .ret (Exit.then N Q) E W := ⟨h.out⟩
theorem r_block {id : Nat} (h : WN n .ret Q E W) : WN n .ret (Exit.inBlock id Q) E W := ⟨h.out⟩
theorem ret_tmp {fn : Func} {R : Ending → World → Prop} {t : Nat} {v : Value} (hf : fn.results = #[.tmp t]) (hv : look E t = some v) (h : R (.returned v) W) : WN n .ret (bodyPost P fn R) E W := ⟨fun a ha =>
  ⟨ha.defers, v, by rw [results_tmp hf, ha.slots t v hv], h⟩⟩
theorem ret_two {fn : Func} {R : Ending → World → Prop} {t u : Nat} {v x : Value} (hf : fn.results = #[.tmp t, .tmp u]) (hv : look E t = some v) (hx : look E u = some x) (h : R (.returned (.tuple #[v, x])) W) : WN n .ret (bodyPost P fn R) E W := ⟨fun a ha =>
  ⟨ha.defers, _, by rw [results_tmp2 hf, ha.slots t v hv, ha.slots u x hx], h⟩⟩
theorem ret_none {fn : Func} {R : Ending → World → Prop} (hf : fn.results = #[]) (h : R (.returned (.tuple #[])) W) : WN n .ret (bodyPost P fn R) E W := ⟨fun a ha => ⟨ha.defers, _, results_none hf _ _ _, h⟩⟩
theorem end_none {fn : Func} {R : Ending → World → Prop} (hf : fn.results = #[]) (h : R (.returned (.tuple #[])) W) : WN n .normal (bodyPost P fn R) E W := ⟨fun a ha => ⟨ha.defers, _, results_none hf _ _ _, h⟩⟩

/-! ### one operation -/
theorem l_nil (h : WN n .normal Q E W) : WL P n ops Q [] E W := ⟨h.out⟩
variable {o : Oper} {W1 : World}
/-- An operation that yields a value. -/
theorem s_run {d : Nat} {v : Value} (hg : o.guard = none) (hd : o.dst = some d) (hn : Nat.blt d n = true) (hr : ∀ a, Fits n E a → (execOp a.eval o).run P W = .ok (.value v) W1)
    (h : WL P n ops Q rest ((d, v) :: E) W1) : WL P n ops Q (o :: rest) E W := ⟨fun a ha => by
  refine wpList_plain hg fun K hK => ?_
  unfold Oper.wp
  rw [hr a ha]
  refine hK _ _ ?_
  rw [hd]
  exact h.out _ (ha.put (by simpa [Nat.blt_eq] using hn) v)⟩
/-- An operation that yields nothing. -/
theorem s_act (hg : o.guard = none) (hd : o.dst = none) (hr : ∀ a, Fits n E a → (execOp a.eval o).run P W = .ok .skip W1)
    (h : WL P n ops Q rest E W1) : WL P n ops Q (o :: rest) E W := ⟨fun a ha => by
  refine wpList_plain hg fun K hK => ?_
  unfold Oper.wp
  rw [hr a ha]
  refine hK _ _ ?_
  rw [hd]
  exact h.out a ha⟩
/-- What an operation yields in every world. -/
structure PV (P : Program) (E : Env) (op : Op) (v : Value) : Prop where out : ∀ (n : Nat) (a : Act), Fits n E a → ∀ dst ty pos after gd W, (execOp a.eval ⟨dst, op, ty, pos, after, gd⟩).run P W = .ok (.value v) W
variable {d : Nat} {ty : TypeId} {pos : String} {after : Array Edge} {x y : Operand} {v : Value}
theorem p_move (hx : ev E x = some v) : PV P E (.move x) (v) := ⟨fun n a ha dst ty pos after gd W => by simp only [execOp, ha.eval hx, Sem.run_pure]⟩
theorem p_assign (hx : ev E x = some v) : PV P E (.assign x) (v) := ⟨fun n a ha dst ty pos after gd W => by simp only [execOp, ha.eval hx, Sem.run_pure]⟩
/-- An operation that yields in every world, in a plain region. -/
theorem s_pv {op : Op} (hp : PV P E op v) (hn : Nat.blt d n = true) (h : WL P n ops Q rest ((d, v) :: E) W) : WL P n ops Q (⟨some d, op, ty, pos, after, none⟩ :: rest) E W := s_run rfl rfl hn (fun a ha => hp.out n a ha _ _ _ _ _ _) h
/-- A call of a function. -/
theorem s_call {f : FuncId} {fn : Func} {as : List Operand} {ts : Array TypeId} {vs : List Value} (hf : P.funcs[f]? = some fn) (hname : (fn.name == "runtime.NumGoroutine") = false) (hb : fn.body.isSome = true) (hvs : evs E as = some vs)
    (hn : Nat.blt d n = true) (h : Calls P f vs.toArray W fun e w => ∃ v, e = .returned v ∧ WL P n ops Q rest ((d, v) :: E) w) :
    WL P n ops Q (⟨some d, .call { callee := .value (.func f), args := as.toArray, argTypes := ts }, ty, pos, after, none⟩ :: rest) E W := ⟨fun a ha => by
  refine wpList_plain rfl fun K hK => ?_
  have h1 : fn.name ≠ "runtime.NumGoroutine" := by simpa using hname
  obtain ⟨c, hc⟩ := Option.isSome_iff_exists.1 hb
  have hargs := ha.evals hvs
  have he : (callFunc f vs.toArray).run P W = .ok (.enter f vs.toArray) W := by simp [callFunc, hf, h1, hc]
  have hrun : (execOp a.eval ⟨some d, .call { callee := .value (.func f), args := as.toArray, argTypes := ts }, ty, pos, after, none⟩).run P W = .ok (.enter f vs.toArray) W := by
    unfold execOp
    simp [resolve, Deferred.ofValue, invoke, Act.eval, he]
    simpa [hargs] using he
  unfold Oper.wp
  rw [hrun, Oper.upon_enter]
  refine h.mono fun e w'' hh => ?_
  obtain ⟨v, rfl, hk⟩ := hh
  exact hK _ _ (hk.out _ (ha.put (by simpa [Nat.blt_eq] using hn) v))⟩

/-! guards -/
theorem s_guard_on {j : Nat} {u b : Bool} {oj : Oper} {t : Nat} (ho : o.guard = some (j, u)) (hj : ops[j]? = some oj) (hd : oj.dst = some t) (ht : look E t = some (.bool b)) (hb : b = u) (h : WL P n ops Q ({ o with guard := none } :: rest) E W) : WL P n ops Q (o :: rest) E W := ⟨fun a ha => by
  rw [hb] at ht
  have hw : Region.wanted o (yielded ops a.tmps) = true := by
    have h1 := ha.slots t _ ht
    have h2 : a.tmps[t]? = some (.bool u) := by
      cases hq : a.tmps[t]? with
      | none => simp [hq] at h1; cases h1
      | some q => simp [hq] at h1; rw [h1]
    simp [Region.wanted, ho, yielded, hj, hd, h2]
  have h3 := h.out a ha
  unfold wpList at h3 ⊢
  rw [if_pos hw]
  rw [if_pos (by simp [Region.wanted])] at h3
  exact h3⟩
theorem s_guard_off {j : Nat} {u u' : Bool} {oj : Oper} {t d : Nat} (ho : o.guard = some (j, u)) (hj : ops[j]? = some oj) (hd : oj.dst = some t) (ht : look E t = some (.bool u')) (hb : u' = !u) (hdd : o.dst = some d) (hn : Nat.blt d n = true) (h : WL P n ops Q rest ((d, undef) :: E) W) : WL P n ops Q (o :: rest) E W := ⟨fun a ha => by
  have hne : (u' == u) = false := by subst hb; cases u <;> rfl
  have hw : Region.wanted o (yielded ops a.tmps) = false := by
    have h1 := ha.slots t _ ht
    have h2 : a.tmps[t]? = some (.bool u') := by
      cases hq : a.tmps[t]? with
      | none => simp [hq] at h1; cases h1
      | some q => simp [hq] at h1; rw [h1]
    simpa [Region.wanted, ho, yielded, hj, hd, h2] using hne
  have h3 := h.out _ (ha.put (by simpa [Nat.blt_eq] using hn) undef)
  unfold wpList
  rw [if_neg (by simp [hw]), hdd]
  exact h3⟩
/-- A test that is not decided: both ways. -/
theorem s_guard {j : Nat} {u b : Bool} {oj : Oper} {t d : Nat} (ho : o.guard = some (j, u)) (hj : ops[j]? = some oj) (hd : oj.dst = some t) (ht : look E t = some (.bool b)) (hdd : o.dst = some d) (hn : Nat.blt d n = true)
    (h1 : b = u → WL P n ops Q ({ o with guard := none } :: rest) E W) (h0 : b = !u → WL P n ops Q rest ((d, undef) :: E) W) : WL P n ops Q (o :: rest) E W := by
  by_cases e : b = u
  · subst e
    exact s_guard_on ho hj hd ht rfl (h1 rfl)
  · exact s_guard_off ho hj hd ht (by cases b <;> cases u <;> simp_all) hdd hn (h0 (by cases b <;> cases u <;> simp_all))

/-! whole numbers, bools, strings -/
variable {k : IntKind} {m q r : Int} {b b' : Bool} {s s' : ByteArray} {xt yt : TypeId}
theorem beq_dec (m q : Int) : (m == q) = decide (m = q) := by by_cases h : m = q <;> simp [h]
theorem p_add (hx : ev E x = some (.int k m)) (hy : ev E y = some (.int k q)) (hr : k.wrap (m + q) = r) : PV P E (.binOp .add xt x y yt) (.int k r) := ⟨fun n a ha dst ty pos after gd W => by simp [execOp, ha.eval hx, ha.eval hy, eqGuard, binOp, Op.intArith, hr]⟩
theorem p_sub (hx : ev E x = some (.int k m)) (hy : ev E y = some (.int k q)) (hr : k.wrap (m - q) = r) : PV P E (.binOp .sub xt x y yt) (.int k r) := ⟨fun n a ha dst ty pos after gd W => by simp [execOp, ha.eval hx, ha.eval hy, eqGuard, binOp, Op.intArith, hr]⟩
theorem p_mul (hx : ev E x = some (.int k m)) (hy : ev E y = some (.int k q)) (hr : k.wrap (m * q) = r) : PV P E (.binOp .mul xt x y yt) (.int k r) := ⟨fun n a ha dst ty pos after gd W => by simp [execOp, ha.eval hx, ha.eval hy, eqGuard, binOp, Op.intArith, hr]⟩
theorem p_quo (hx : ev E x = some (.int k m)) (hy : ev E y = some (.int k q)) (h0 : q ≠ 0) (hr : k.wrap (m.tdiv q) = r) : PV P E (.binOp .quo xt x y yt) (.int k r) := ⟨fun n a ha dst ty pos after gd W => by simp [execOp, ha.eval hx, ha.eval hy, eqGuard, binOp, Op.intDiv, h0, hr]⟩
theorem p_rem (hx : ev E x = some (.int k m)) (hy : ev E y = some (.int k q)) (h0 : q ≠ 0) (hr : m.tmod q = r) : PV P E (.binOp .rem xt x y yt) (.int k r) := ⟨fun n a ha dst ty pos after gd W => by simp [execOp, ha.eval hx, ha.eval hy, eqGuard, binOp, Op.intDiv, h0, hr]⟩
theorem p_lss (hx : ev E x = some (.int k m)) (hy : ev E y = some (.int k q)) : PV P E (.binOp .lss xt x y yt) (.bool (decide (m < q))) := ⟨fun n a ha dst ty pos after gd W => by simp [execOp, ha.eval hx, ha.eval hy, eqGuard, binOp, Op.intCmp]⟩
theorem p_leq (hx : ev E x = some (.int k m)) (hy : ev E y = some (.int k q)) : PV P E (.binOp .leq xt x y yt) (.bool (decide (m ≤ q))) := ⟨fun n a ha dst ty pos after gd W => by simp [execOp, ha.eval hx, ha.eval hy, eqGuard, binOp, Op.intCmp]⟩
theorem p_gtr (hx : ev E x = some (.int k m)) (hy : ev E y = some (.int k q)) : PV P E (.binOp .gtr xt x y yt) (.bool (decide (q < m))) := ⟨fun n a ha dst ty pos after gd W => by simp [execOp, ha.eval hx, ha.eval hy, eqGuard, binOp, Op.intCmp]⟩
theorem p_geq (hx : ev E x = some (.int k m)) (hy : ev E y = some (.int k q)) : PV P E (.binOp .geq xt x y yt) (.bool (decide (q ≤ m))) := ⟨fun n a ha dst ty pos after gd W => by simp [execOp, ha.eval hx, ha.eval hy, eqGuard, binOp, Op.intCmp]⟩
theorem p_eql (hx : ev E x = some (.int k m)) (hy : ev E y = some (.int k q)) : PV P E (.binOp .eql xt x y yt) (.bool (decide (m = q))) := ⟨fun n a ha dst ty pos after gd W => by simp [execOp, ha.eval hx, ha.eval hy, eqGuard, binOp, Op.intCmp, beq_dec]⟩
theorem p_neq (hx : ev E x = some (.int k m)) (hy : ev E y = some (.int k q)) : PV P E (.binOp .neq xt x y yt) (.bool (!decide (m = q))) := ⟨fun n a ha dst ty pos after gd W => by simp [execOp, ha.eval hx, ha.eval hy, eqGuard, binOp, Op.intCmp, bne, beq_dec]⟩
theorem bytes_toList (s s' : ByteArray) : (s.toList == s'.toList) = decide (s = s') := by
  rw [ByteArray.toList_eq, ByteArray.toList_eq]
  by_cases h : s = s'
  · subst h; simp
  · have : s.data.toList ≠ s'.data.toList := fun e => h (by
      cases s; cases s'
      simp only at e
      rw [Array.toList_inj.1 e])
    simp only [h, decide_false]
    simpa using this
theorem p_seql (hx : ev E x = some (.string s)) (hy : ev E y = some (.string s')) : PV P E (.binOp .eql xt x y yt) (.bool (decide (s = s'))) := ⟨fun n a ha dst ty pos after gd W => by simp [execOp, ha.eval hx, ha.eval hy, eqGuard, binOp, Op.stringOp, bytes_toList]⟩
theorem p_sneq (hx : ev E x = some (.string s)) (hy : ev E y = some (.string s')) : PV P E (.binOp .neq xt x y yt) (.bool (!decide (s = s'))) := ⟨fun n a ha dst ty pos after gd W => by simp [execOp, ha.eval hx, ha.eval hy, eqGuard, binOp, Op.stringOp, bytes_toList]⟩
theorem p_not (hx : ev E x = some (.bool b)) : PV P E (.unOp .not xt x) (.bool (!b)) := ⟨fun n a ha dst ty pos after gd W => by simp [execOp, ha.eval hx, Op.unary]⟩

theorem p_pick1 {c : Operand} (hc : ev E c = some (.bool b)) (hb : b = true) (hx : ev E x = some v) : PV P E (.pick c x y) v := ⟨fun n a ha dst ty pos after gd W => by subst hb; simp [execOp, ha.eval hc, ha.eval hx, asBool]⟩
theorem p_pick0 {c : Operand} (hc : ev E c = some (.bool b)) (hb : b = false) (hy : ev E y = some v) : PV P E (.pick c x y) v := ⟨fun n a ha dst ty pos after gd W => by subst hb; simp [execOp, ha.eval hc, ha.eval hy, asBool]⟩
/-! types of the program, told by instances -/
class Und (P : Program) (t : TypeId) (d : outParam TypeDesc) : Prop where out : P.underlying t = some d
class Siz (P : Program) (t : TypeId) (k : outParam Nat) : Prop where out : (P.info? t).map (·.size) = some k
def fAtB (P : Program) (s f k : Nat) : Bool :=
  match P.underlying s with
  | some (.struct fs) => (match fs[f]? with
    | some fd => fd.offset == k && (match P.info? fd.type with | some i => i.size != 0 | none => false)
    | none => false)
  | _ => false
/-- Field f of struct s lies at cell k. -/
class FAt (P : Program) (s f : Nat) (k : outParam Nat) : Prop where out : fAtB P s f k = true
theorem FAt.spec {s f k : Nat} (h : FAt P s f k) : ∃ fs fd i, P.underlying s = some (.struct fs) ∧ fs[f]? = some fd ∧ fd.offset = k ∧ P.info? fd.type = some i ∧ i.size ≠ 0 := by
  have h := h.out
  unfold fAtB at h
  split at h
  · rename_i fs hu
    split at h
    · rename_i fd hf
      split at h
      · rename_i i hi
        simp at h
        exact ⟨fs, fd, i, hu, hf, h.1, hi, h.2⟩
      · simp at h
    · cases h
  · cases h
theorem addr_add_add (a : Addr) (m n : Nat) : (a.add m).add n = a.add (m + n) := by
  unfold Addr.add
  by_cases hm : m = 0
  · subst hm; simp
  · by_cases hn : n = 0
    · subst hn; simp [hm]
    · have : ¬ (m + n = 0) := by omega
      simp [hm, hn, Nat.add_assoc]
theorem add_plain (g j k : Nat) : (⟨g, j, none⟩ : Addr).add k = ⟨g, j + k, none⟩ := by unfold Addr.add; split <;> simp_all
theorem run_fieldAt {s f k : Nat} (h : FAt P s f k) (ad : Addr) (W : World) : (Instr.fieldAt s (.pointer (some ad)) f).run P W = .ok (.pointer (some (ad.add k))) W := by
  obtain ⟨fs, fd, i, hu, hf, hk, hi, h0⟩ := h.spec
  subst hk
  simp [Instr.fieldAt, underlying, sizeOf, typeInfo, hu, hf, Instr.sureAddr, fieldPlace, hi, h0]
variable {g j c : Nat} {A : Option Addr} {st f : Nat}
/-- A field's address in a variable's block .. -/
theorem p_field [hF : FAt P st f c] (hx : ev E x = some (.pointer (some ⟨g, j, none⟩))) {j' : Nat} (hj : j + c = j') : PV P E (.fieldAddr st x f) (.pointer (some ⟨g, j', none⟩)) := ⟨fun n a ha dst ty pos after gd W => by simp [execOp, ha.eval hx, run_fieldAt hF, add_plain, hj]⟩
/-- .. and in a row's element. -/
theorem p_fieldr [hF : FAt P st f c] {ad : Addr} (hx : ev E x = some (.pointer (some (ad.add j)))) {j' : Nat} (hj : j + c = j') : PV P E (.fieldAddr st x f) (.pointer (some (ad.add j'))) := ⟨fun n a ha dst ty pos after gd W => by simp [execOp, ha.eval hx, run_fieldAt hF, addr_add_add, hj]⟩
/-- The first cell of a slice's element. -/
theorem p_index {e sz : Nat} {ad : Addr} {l c : Nat} {i : Int} [hU : Und P st (.slice e)] [hS : Siz P e sz] (hx : ev E x = some (.slice A l c)) (hA : A = some ad) (hy : ev E y = some (.int k i)) (h0 : 0 ≤ i) (h1 : i < l) : PV P E (.indexAddr st x y) (.pointer (some (ad.add (i.toNat * sz)))) := ⟨fun n a ha dst ty pos after gd W => by
    obtain ⟨i0, hi, hs⟩ := Option.map_eq_some_iff.1 hS.out
    subst hs
    simp [execOp, ha.eval hx, ha.eval hy, Instr.indexAt, asIntOf, underlying, hU.out, hA, h0, h1, sizeOf, typeInfo, hi]⟩
theorem run_beq (W : World) [hU : Und P xt .bool] : (binOp .eql xt (.bool b) (.bool b')).run P W = .ok (.bool (decide (b = b'))) W ∧ (binOp .neq xt (.bool b) (.bool b')).run P W = .ok (.bool (!decide (b = b'))) W := by
  have h1 : (b == b') = decide (b = b') := by cases b <;> cases b' <;> rfl
  have h2 := run_equal_bool (P := P) W xt b b' hU.out
  constructor
  · show ((Op.equal xt (.bool b) (.bool b')) >>= fun r => pure (Value.bool r) : Sem Value).run P W = _
    rw [Sem.run_bind, h2, Result.andThen_ok, Sem.run_pure, h1]
  · show ((Op.equal xt (.bool b) (.bool b')) >>= fun r => pure (Value.bool (!r)) : Sem Value).run P W = _
    rw [Sem.run_bind, h2, Result.andThen_ok, Sem.run_pure, h1]
theorem p_beql [hU : Und P xt .bool] (hx : ev E x = some (.bool b)) (hy : ev E y = some (.bool b')) : PV P E (.binOp .eql xt x y yt) (.bool (decide (b = b'))) := ⟨fun n a ha dst ty pos after gd W => by
  simp [execOp, ha.eval hx, ha.eval hy, eqGuard, (run_beq (P := P) (xt := xt) (b := b) (b' := b') W).1]⟩
theorem p_bneq [hU : Und P xt .bool] (hx : ev E x = some (.bool b)) (hy : ev E y = some (.bool b')) : PV P E (.binOp .neq xt x y yt) (.bool (!decide (b = b'))) := ⟨fun n a ha dst ty pos after gd W => by
  simp [execOp, ha.eval hx, ha.eval hy, eqGuard, (run_beq (P := P) (xt := xt) (b := b) (b' := b') W).2]⟩
theorem p_len {e : TypeId} {l c : Nat} [hU : Und P st (.slice e)] (hx : ev E x = some (.slice A l c)) : PV P E (.call { callee := .builtin .len, args := #[x], argTypes := #[st] }) (.int .i64 l) := ⟨fun n a ha dst ty pos after gd W => by simp [execOp, ha.eval hx, resolve, invoke, builtin, Builtin.len_, underlying, hU.out, goInt]⟩
theorem p_slen [hU : Und P st .string] (hx : ev E x = some (.string s)) : PV P E (.call { callee := .builtin .len, args := #[x], argTypes := #[st] }) (.int .i64 s.size) := ⟨fun n a ha dst ty pos after gd W => by simp [execOp, ha.eval hx, resolve, invoke, builtin, Builtin.len_, underlying, hU.out, goInt]⟩
theorem p_extract {vs : List Value} {j : Nat} (hx : ev E x = some (.tuple vs.toArray)) (hj : vs[j]? = some v) : PV P E (.extract x j) (v) := ⟨fun n a ha dst ty pos after gd W => by simp [execOp, ha.eval hx, Instr.extract, hj]⟩

/-! gates: they fail at once at another form of goal -/
theorem gL {l : List Oper} (h : WL P n ops Q l E W) : WL P n ops Q l E W := h
theorem gC {c : Code} (h : WC P n c Q E W) : WC P n c Q E W := h
theorem gN {e : Exit} (h : WN n e Q E W) : WN n e Q E W := h
variable {od : Option Nat} {gd : Option (Nat × Bool)}
theorem gpBin {op : BinOp} {v : Value} (h : PV P E (.binOp op xt x y yt) v) : PV P E (.binOp op xt x y yt) v := h
theorem gpCall {cl : Call} {v : Value} (h : PV P E (.call cl) v) : PV P E (.call cl) v := h
theorem gBin {op : BinOp} (h : WL P n ops Q (⟨od, .binOp op xt x y yt, ty, pos, after, gd⟩ :: rest) E W) : WL P n ops Q (⟨od, .binOp op xt x y yt, ty, pos, after, gd⟩ :: rest) E W := h
theorem gLoad (h : WL P n ops Q (⟨od, .load xt x, ty, pos, after, gd⟩ :: rest) E W) : WL P n ops Q (⟨od, .load xt x, ty, pos, after, gd⟩ :: rest) E W := h
theorem gStore (h : WL P n ops Q (⟨od, .store xt x y, ty, pos, after, gd⟩ :: rest) E W) : WL P n ops Q (⟨od, .store xt x y, ty, pos, after, gd⟩ :: rest) E W := h
theorem gCall {cl : Call} (h : WL P n ops Q (⟨od, .call cl, ty, pos, after, gd⟩ :: rest) E W) : WL P n ops Q (⟨od, .call cl, ty, pos, after, gd⟩ :: rest) E W := h
theorem gField {f : Nat} (h : WL P n ops Q (⟨od, .fieldAddr xt x f, ty, pos, after, gd⟩ :: rest) E W) : WL P n ops Q (⟨od, .fieldAddr xt x f, ty, pos, after, gd⟩ :: rest) E W := h
theorem gIndex (h : WL P n ops Q (⟨od, .indexAddr xt x y, ty, pos, after, gd⟩ :: rest) E W) : WL P n ops Q (⟨od, .indexAddr xt x y, ty, pos, after, gd⟩ :: rest) E W := h
/-- A Bool that a guard asks for is told by cases. -/
theorem l_case {t : Nat} {b : Bool} {l : List Oper} (ht : look E t = some (.bool b)) (h1 : b = true → WL P n ops Q l ((t, .bool true) :: E) W) (h0 : b = false → WL P n ops Q l ((t, .bool false) :: E) W) : WL P n ops Q l E W := ⟨fun a ha => by
  cases b with
  | true => exact (h1 rfl).out a (ha.sub (fun s v hs => by
      rw [look_cons] at hs
      by_cases e : t = s
      · subst e; rw [if_pos rfl] at hs; cases hs; exact ht
      · rw [if_neg e] at hs; exact hs))
  | false => exact (h0 rfl).out a (ha.sub (fun s v hs => by
      rw [look_cons] at hs
      by_cases e : t = s
      · subst e; rw [if_pos rfl] at hs; cases hs; exact ht
      · rw [if_neg e] at hs; exact hs))⟩
/-- Operations that yield in every world, by sight. -/
def pureOp : Op → Bool
  | .move _ | .assign _ | .pick .. | .binOp .. | .unOp .. | .fieldAddr .. | .indexAddr .. | .extract .. | .build .. | .index .. | .field .. | .slice .. => true
  | .call { callee := .builtin b, .. } => match b with | .len | .min | .max => true | _ => false
  | _ => false
/-- The next operation yields a value; what then. -/
structure GP (P : Program) (E : Env) (op : Op) (K : Value → Prop) : Prop where out : ∃ v, PV P E op v ∧ K v
theorem gp {op : Op} {K : Value → Prop} (hp : PV P E op v) (h : K v) : GP P E op K := ⟨v, hp, h⟩
theorem s_gp {op : Op} (hpure : pureOp op = true) (hn : Nat.blt d n = true) (h : GP P E op fun v => WL P n ops Q rest ((d, v) :: E) W) : WL P n ops Q (⟨some d, op, ty, pos, after, none⟩ :: rest) E W := by
  obtain ⟨v, hp, h⟩ := h.out
  exact s_pv hp hn h
theorem gGP {op : Op} {K : Value → Prop} (h : GP P E op K) : GP P E op K := h
theorem gGB {op : BinOp} {K : Value → Prop} (h : GP P E (.binOp op xt x y yt) K) : GP P E (.binOp op xt x y yt) K := h
end
end Go.Proofs.Ytjeijflpejhkhaa.Sp
