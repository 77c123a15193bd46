/- A walk of Go functions by small rules: the frame is a list of what is known of the slots; each rule takes one operation. Any program; no condition. -/
import Derived.Calls
import Derived.Tactics
import Derived.Tactics2
import Derived.Deep.LoopGhost
import Derived.WalkKit
import Derived.KernelRfl
import Derived.Below
import Derived.Orders
import Derived.Maps.AppendAt
import Derived.Laws.OwnMore
import Derived.Laws.MakeOwn
import Derived.Laws.Rows
import Derived.Deep.MidRow
import Derived.OwnWalk
import Derived.Deep.AppendLies
import Derived.Test.YtampmicahnnebaaGreatProg
import Derived.ChangeArms
import Derived.Test.YtampmicahnnebaaGreatWLast
set_option linter.unusedVariables false
set_option linter.unusedSimpArgs false
namespace Go.Proofs.YtampmicahnnebaaGreat.Sp
open Go
abbrev Env:=List (Nat × Value)
def look : Env → Nat → Option Value
  | [],_=>none
  | (s,v) :: r,t=>match Nat.beq s t with|true=>some v|false=>look r t
def ev (E : Env) : Operand → Option Value
  | .tmp t=>look E t
  | .const v=>some v
  | .global g=>some (.pointer (some ⟨g,0,none⟩))
  | .func f=>some (.func (.func f) #[] #[])
def evs (E : Env) : List Operand → Option (List Value)
  | []=>some []
  | x :: r=>match ev E x,evs E r with|some v,some vs=>some (v :: vs)|_,_=>none
structure Fits (n : Nat) (E : Env) (a : Act) : Prop where
  size : a.tmps.size = n
  defers : a.defers = []
  slots : ∀ t v,look E t = some v → a.tmps.getD t undef = v
theorem look_cons (s : Nat) (v : Value) (r : Env) (t : Nat) : look ((s,v) :: r) t = if s = t then some v else look r t:=by
  rw [look]
  by_cases h : s = t
  · subst h
    simp [Nat.beq_refl]
  · simp only [h,if_false]
    have : Nat.beq s t = false:=by
      cases hb : Nat.beq s t with
      | false=>rfl
      | true=>exact absurd (Nat.eq_of_beq_eq_true hb) h
    rw [this]
theorem Fits.eval {n : Nat} {E : Env} {a : Act} (h : Fits n E a) {x : Operand} {v : Value} (hx : ev E x = some v) : a.eval x = v:=by
  cases x with
  | tmp t=>exact h.slots t v hx
  | const u=>exact Option.some.inj hx
  | global g=>exact Option.some.inj hx
  | func f=>exact Option.some.inj hx
theorem Fits.evals {n : Nat} {E : Env} {a : Act} (h : Fits n E a) : ∀ {xs : List Operand} {vs : List Value},evs E xs = some vs → xs.map a.eval = vs
  | [],vs,hx=>by cases hx;rfl
  | x :: r,vs,hx=>by
    unfold evs at hx
    cases hv : ev E x with
    | none=>simp [hv] at hx
    | some v =>
      cases hvs : evs E r with
      | none=>simp [hv,hvs] at hx
      | some us =>
        simp only [hv,hvs] at hx
        cases hx
        rw [List.map_cons,h.eval hv,h.evals hvs]
theorem Fits.put {n : Nat} {E : Env} {a : Act} (h : Fits n E a) {d : Nat} (hd : d < n) (v : Value) : Fits n ((d,v) :: E) (a.put (some d) v):=by
  refine ⟨by simp [Act.put,h.size],h.defers,fun t u ht=>?_⟩
  rw [look_cons] at ht
  by_cases e : d = t
  · subst e
    simp only [if_true] at ht
    cases ht
    simp [Act.put,h.size,hd]
  · simp only [e,if_false] at ht
    have:=h.slots t u ht
    simpa [Act.put,Array.getElem?_setIfInBounds_ne e] using this
theorem Fits.sub {n : Nat} {E E' : Env} {a : Act} (h : Fits n E a) (hs : ∀ t v,look E' t = some v → look E t = some v) : Fits n E' a:=⟨h.size,h.defers,fun t v ht=>h.slots t v (hs t v ht)⟩
def subE (E : Env) : Env → Prop
  | []=>True
  | (t,v) :: r=>look E t = some v ∧ subE E r
theorem subE_look {E : Env} : ∀ {E' : Env},subE E E' → ∀ t v,look E' t = some v → look E t = some v
  | [],_,t,v,h=>by cases h
  | (s,u) :: r,hs,t,v,h=>by
    rw [look_cons] at h
    by_cases e : s = t
    · subst e
      simp only [if_true] at h
      cases h
      exact hs.1
    · simp only [e,if_false] at h
      exact subE_look hs.2 t v h
theorem look_int {E : Env} {t : Nat} {k : IntKind} {a b : Int} (h : look E t = some (.int k a)) (e : a = b) : look E t = some (.int k b):=e ▸ h
theorem wr {x : Int} (h0 : -9223372036854775808 ≤ x) (h1 : x ≤ 9223372036854775807) : IntKind.i64.wrap x = x:=by rw [IntKind.wrap_i64];omega
section
variable {P : Program} {n : Nat}
structure WL (P : Program) (n : Nat) (ops : Array Oper) (Q : Exit → Act → World → Prop) (rest : List Oper) (E : Env) (W : World) : Prop where out : ∀ a,Fits n E a → wpList P ops Q rest a W
structure WC (P : Program) (n : Nat) (c : Code) (Q : Exit → Act → World → Prop) (E : Env) (W : World) : Prop where out : ∀ a,Fits n E a → c.wp P Q a W
structure WN (n : Nat) (x : Exit) (Q : Exit → Act → World → Prop) (E : Env) (W : World) : Prop where out : ∀ a,Fits n E a → Q x a W
variable {ops : Array Oper} {Q Q' : Exit → Act → World → Prop} {rest : List Oper} {E : Env} {W : World}
def subA (args : List Value) : Env → Prop
  | []=>True
  | (t,v) :: r=>args[t]? = some v ∧ subA args r
theorem subA_look {args : List Value} : ∀ {E : Env},subA args E → ∀ t v,look E t = some v → args[t]? = some v
  | [],_,t,v,h=>by cases h
  | (s,u) :: r,hs,t,v,h=>by
    rw [look_cons] at h
    by_cases e : s = t
    · subst e
      simp only [if_true] at h
      cases h
      exact hs.1
    · simp only [e,if_false] at h
      exact subA_look hs.2 t v h
theorem enter {f : FuncId} {fn : Func} {c : Code} {n : Nat} {args : List Value} {W : World} {R : Ending → World → Prop} (hf : P.funcs[f]? = some fn) (hb : fn.body = some c) (hn : fn.ntmps = n)
    (E : Env) (hl : Nat.ble args.length n = true) (hE : subA args E) (h : WC P n c (bodyPost P fn R) E W) : Calls P f args.toArray W R:=by
  have hl:=Nat.le_of_ble_eq_true hl
  refine calls_of_wp hf hb (h.out _ ⟨?_,rfl,fun t v ht=>?_⟩)
  · simp [hn];omega
  · have h2:=subA_look hE t v ht
    have hlt : t < args.length:=(List.getElem?_eq_some_iff.1 h2).1
    have h4 : args[t] = v:=by rw [List.getElem?_eq_getElem hlt] at h2;exact Option.some.inj h2
    simp [Array.getElem?_append,hlt,h4]
theorem c_seq {x y : Code} (h : WC P n x (Exit.then (y.wp P Q) Q) E W) : WC P n (.seq x y) Q E W:=⟨fun a ha=>wp_seq (h.out a ha)⟩
theorem c_block {id : Nat} {c : Code} (h : WC P n c (Exit.inBlock id Q) E W) : WC P n (.block id c) Q E W:=⟨fun a ha=>wp_block (h.out a ha)⟩
theorem c_skip (h : WN n .normal Q E W) : WC P n .skip Q E W:=⟨fun a ha=>wp_skip (h.out a ha)⟩
theorem c_ret (h : WN n .ret Q E W) : WC P n .ret Q E W:=⟨fun a ha=>wp_ret (h.out a ha)⟩
theorem c_exit {id : Nat} (h : WN n (.exit id) Q E W) : WC P n (.exit id) Q E W:=⟨fun a ha=>wp_exit (h.out a ha)⟩
theorem c_region {id : Nat} {l : List Oper} (h : WL P n l.toArray Q l E W) : WC P n (.region id l.toArray false) Q E W:=⟨fun a ha=>wp_region_lit (h.out a ha)⟩
theorem c_cond {c : Operand} {x y : Code} {b : Bool} (hc : ev E c = some (.bool b)) (ht : b = true → WC P n x Q E W) (hf : b = false → WC P n y Q E W) : WC P n (.cond c x y) Q E W :=
  ⟨fun a ha=>wp_cond_split (ha.eval hc) (fun hb=>(ht hb).out a ha) (fun hb=>(hf hb).out a ha)⟩
theorem c_yes {c : Operand} {x y : Code} {b : Bool} (hc : ev E c = some (.bool b)) (hb : b = true) (ht : WC P n x Q E W) : WC P n (.cond c x y) Q E W:=⟨fun a ha=>wp_cond_true (by rw [ha.eval hc,hb]) (ht.out a ha)⟩
theorem c_no {c : Operand} {x y : Code} {b : Bool} (hc : ev E c = some (.bool b)) (hb : b = false) (hf : WC P n y Q E W) : WC P n (.cond c x y) Q E W:=⟨fun a ha=>wp_cond_false (by rw [ha.eval hc,hb]) (hf.out a ha)⟩
theorem c_loop {σ : Type} {c : Code} (J : σ → Env) (M : σ → World → Prop) (μ : σ → Nat) (s0 : σ) (h0 : subE E (J s0)) (hM : M s0 W)
    (round : ∀ s W,M s W → WC P n c (Exit.then (fun a w=>∃ s',Fits n (J s') a ∧ M s' w ∧ μ s' < μ s) Q) (J s) W) : WC P n (.loop c) Q E W:=by
  refine ⟨fun a ha=>?_⟩
  refine wp_loop_ghost (fun k a w=>∃ s,μ s = k ∧ Fits n (J s) a ∧ M s w) (μ s0) ⟨s0,rfl,ha.sub (subE_look h0),hM⟩ ?_
  rintro k a w ⟨s,rfl,hf,hMs⟩
  refine wp_mono ((round s w hMs).out a hf) ?_
  intro e a' w' hq
  cases e with
  | normal =>
    obtain ⟨s',h1,h2,h3⟩:=hq
    exact ⟨_,h3,s',rfl,h1,h2⟩
  | _=>exact hq
theorem c_loop2 {σ : Type} {c : Code} (J : σ → Option Addr → Nat → Env) (M : σ → Option Addr → Nat → World → Prop) (μ : σ → Nat) (s0 : σ) (A0 : Option Addr) (c0 : Nat) (h0 : subE E (J s0 A0 c0)) (hM : M s0 A0 c0 W)
    (round : ∀ s A cap W,M s A cap W → WC P n c (Exit.then (fun a w=>∃ s' A' cap',Fits n (J s' A' cap') a ∧ M s' A' cap' w ∧ μ s' < μ s) Q) (J s A cap) W) : WC P n (.loop c) Q E W:=by
  refine ⟨fun a ha=>?_⟩
  refine wp_loop_ghost (fun k a w=>∃ s A cap,μ s = k ∧ Fits n (J s A cap) a ∧ M s A cap w) (μ s0) ⟨s0,A0,c0,rfl,ha.sub (subE_look h0),hM⟩ ?_
  rintro k a w ⟨s,A,cap,rfl,hf,hMs⟩
  refine wp_mono ((round s A cap w hMs).out a hf) ?_
  intro e a' w' hq
  cases e with
  | normal =>
    obtain ⟨s',A',cap',h1,h2,h3⟩:=hq
    exact ⟨_,h3,s',A',cap',rfl,h1,h2⟩
  | _=>exact hq
theorem n_round2 {σ : Type} {J : σ → Option Addr → Nat → Env} {M : σ → Option Addr → Nat → World → Prop} {μ : σ → Nat} {k : Nat} (s : σ) (A : Option Addr) (cap : Nat) (hJ : subE E (J s A cap)) (hM : M s A cap W) (hk : μ s < k) : WN n .normal (Exit.then (fun a w=>∃ s' A' cap',Fits n (J s' A' cap') a ∧ M s' A' cap' w ∧ μ s' < k) Q) E W :=
  ⟨fun _ ha=>⟨s,A,cap,ha.sub (subE_look hJ),hM,hk⟩⟩
theorem c_once {c : Code} (h : WC P n c (Exit.then (fun _ _=>False) Q) E W) : WC P n (.loop c) Q E W:=⟨fun a ha=>wp_loop_once (h.out a ha)⟩
theorem n_then {y : Code} (h : WC P n y Q E W) : WN n .normal (Exit.then (y.wp P Q) Q') E W:=⟨h.out⟩
theorem n_block {id : Nat} (h : WN n .normal Q E W) : WN n .normal (Exit.inBlock id Q) E W:=⟨h.out⟩
theorem n_round {σ : Type} {J : σ → Env} {M : σ → World → Prop} {μ : σ → Nat} {k : Nat} (s : σ) (hJ : subE E (J s)) (hM : M s W) (hk : μ s < k) : WN n .normal (Exit.then (fun a w=>∃ s',Fits n (J s') a ∧ M s' w ∧ μ s' < k) Q) E W :=
  ⟨fun _ ha=>⟨s,ha.sub (subE_look hJ),hM,hk⟩⟩
theorem x_then {id : Nat} {N : Act → World → Prop} (h : WN n (.exit id) Q E W) : WN n (.exit id) (Exit.then N Q) E W:=⟨h.out⟩
theorem x_here {id : Nat} (h : WN n .normal Q E W) : WN n (.exit id) (Exit.inBlock id Q) E W:=⟨fun a ha=>by
  show (if id = id then Q .normal a W else Q (.exit id) a W)
  rw [if_pos rfl]
  exact h.out a ha⟩
theorem r_then {N : Act → World → Prop} (h : WN n .ret Q E W) : WN n .ret (Exit.then N Q) E W:=⟨h.out⟩
theorem r_block {id : Nat} (h : WN n .ret Q E W) : WN n .ret (Exit.inBlock id Q) E W:=⟨h.out⟩
theorem ret_tmp {fn : Func} {R : Ending → World → Prop} {t : Nat} {v : Value} (hf : fn.results = #[.tmp t]) (hv : look E t = some v) (h : R (.returned v) W) : WN n .ret (bodyPost P fn R) E W:=⟨fun a ha =>
  ⟨ha.defers,v,by rw [results_tmp hf,ha.slots t v hv],h⟩⟩
theorem ret_two {fn : Func} {R : Ending → World → Prop} {t u : Nat} {v x : Value} (hf : fn.results = #[.tmp t,.tmp u]) (hv : look E t = some v) (hx : look E u = some x) (h : R (.returned (.tuple #[v,x])) W) : WN n .ret (bodyPost P fn R) E W:=⟨fun a ha =>
  ⟨ha.defers,_,by rw [results_tmp2 hf,ha.slots t v hv,ha.slots u x hx],h⟩⟩
theorem ret_none {fn : Func} {R : Ending → World → Prop} (hf : fn.results = #[]) (h : R (.returned (.tuple #[])) W) : WN n .ret (bodyPost P fn R) E W:=⟨fun a ha=>⟨ha.defers,_,results_none hf _ _ _,h⟩⟩
theorem end_none {fn : Func} {R : Ending → World → Prop} (hf : fn.results = #[]) (h : R (.returned (.tuple #[])) W) : WN n .normal (bodyPost P fn R) E W:=⟨fun a ha=>⟨ha.defers,_,results_none hf _ _ _,h⟩⟩
theorem l_nil (h : WN n .normal Q E W) : WL P n ops Q [] E W:=⟨h.out⟩
variable {o : Oper} {W1 : World}
theorem s_run {d : Nat} {v : Value} (hg : o.guard = none) (hd : o.dst = some d) (hn : Nat.blt d n = true) (hr : ∀ a,Fits n E a → (execOp a.eval o).run P W = .ok (.value v) W1)
    (h : WL P n ops Q rest ((d,v) :: E) W1) : WL P n ops Q (o :: rest) E W:=⟨fun a ha=>by
  refine wpList_plain hg fun K hK=>?_
  unfold Oper.wp
  rw [hr a ha]
  refine hK _ _ ?_
  rw [hd]
  exact h.out _ (ha.put (by simpa [Nat.blt_eq] using hn) v)⟩
theorem s_act (hg : o.guard = none) (hd : o.dst = none) (hr : ∀ a,Fits n E a → (execOp a.eval o).run P W = .ok .skip W1)
    (h : WL P n ops Q rest E W1) : WL P n ops Q (o :: rest) E W:=⟨fun a ha=>by
  refine wpList_plain hg fun K hK=>?_
  unfold Oper.wp
  rw [hr a ha]
  refine hK _ _ ?_
  rw [hd]
  exact h.out a ha⟩
structure PV (P : Program) (E : Env) (op : Op) (v : Value) : Prop where out : ∀ (n : Nat) (a : Act),Fits n E a → ∀ dst ty pos after gd W,(execOp a.eval ⟨dst,op,ty,pos,after,gd⟩).run P W = .ok (.value v) W
variable {d : Nat} {ty : TypeId} {pos : String} {after : Array Edge} {x y : Operand} {v : Value}
theorem p_move (hx : ev E x = some v) : PV P E (.move x) (v):=⟨fun n a ha dst ty pos after gd W=>by simp only [execOp,ha.eval hx,Sem.run_pure]⟩
theorem p_assign (hx : ev E x = some v) : PV P E (.assign x) (v):=⟨fun n a ha dst ty pos after gd W=>by simp only [execOp,ha.eval hx,Sem.run_pure]⟩
theorem s_pv {op : Op} (hp : PV P E op v) (hn : Nat.blt d n = true) (h : WL P n ops Q rest ((d,v) :: E) W) : WL P n ops Q (⟨some d,op,ty,pos,after,none⟩ :: rest) E W:=s_run rfl rfl hn (fun a ha=>hp.out n a ha _ _ _ _ _ _) h
theorem s_call {f : FuncId} {fn : Func} {as_ : List Operand} {ts : Array TypeId} {vs : List Value} (hf : P.funcs[f]? = some fn) (hname : (fn.name == "runtime.NumGoroutine") = false) (hb : fn.body.isSome = true) (hvs : evs E as_ = some vs)
    (hn : Nat.blt d n = true) (h : Calls P f vs.toArray W fun e w=>∃ v,e = .returned v ∧ WL P n ops Q rest ((d,v) :: E) w) :
    WL P n ops Q (⟨some d,.call { callee:=.value (.func f),args:=as_.toArray,argTypes:=ts },ty,pos,after,none⟩ :: rest) E W:=⟨fun a ha=>by
  refine wpList_plain rfl fun K hK=>?_
  have h1 : fn.name ≠ "runtime.NumGoroutine":=by simpa using hname
  obtain ⟨c,hc⟩:=Option.isSome_iff_exists.1 hb
  have hargs:=ha.evals hvs
  have he : (callFunc f vs.toArray).run P W = .ok (.enter f vs.toArray) W:=by simp [callFunc,hf,h1,hc]
  have hrun : (execOp a.eval ⟨some d,.call { callee:=.value (.func f),args:=as_.toArray,argTypes:=ts },ty,pos,after,none⟩).run P W = .ok (.enter f vs.toArray) W:=by
    unfold execOp
    simp [resolve,Deferred.ofValue,invoke,Act.eval,he]
    simpa [hargs] using he
  unfold Oper.wp
  rw [hrun,Oper.upon_enter]
  refine h.mono fun e w'' hh=>?_
  obtain ⟨v,rfl,hk⟩:=hh
  exact hK _ _ (hk.out _ (ha.put (by simpa [Nat.blt_eq] using hn) v))⟩
theorem s_guard_on {j : Nat} {u b : Bool} {oj : Oper} {t : Nat} (ho : o.guard = some (j,u)) (hj : ops[j]? = some oj) (hd : oj.dst = some t) (ht : look E t = some (.bool b)) (hb : b = u) (h : WL P n ops Q ({ o with guard:=none } :: rest) E W) : WL P n ops Q (o :: rest) E W:=⟨fun a ha=>by
  rw [hb] at ht
  have hw : Region.wanted o (yielded ops a.tmps) = true:=by
    have h1:=ha.slots t _ ht
    have h2 : a.tmps[t]? = some (.bool u):=by
      cases hq : a.tmps[t]? with
      | none=>simp [hq] at h1;cases h1
      | some q=>simp [hq] at h1;rw [h1]
    simp [Region.wanted,ho,yielded,hj,hd,h2]
  have h3:=h.out a ha
  unfold wpList at h3 ⊢
  rw [if_pos hw]
  rw [if_pos (by simp [Region.wanted])] at h3
  exact h3⟩
theorem s_guard_off {j : Nat} {u u' : Bool} {oj : Oper} {t d : Nat} (ho : o.guard = some (j,u)) (hj : ops[j]? = some oj) (hd : oj.dst = some t) (ht : look E t = some (.bool u')) (hb : u' = !u) (hdd : o.dst = some d) (hn : Nat.blt d n = true) (h : WL P n ops Q rest ((d,undef) :: E) W) : WL P n ops Q (o :: rest) E W:=⟨fun a ha=>by
  have hne : (u' == u) = false:=by subst hb;cases u <;> rfl
  have hw : Region.wanted o (yielded ops a.tmps) = false:=by
    have h1:=ha.slots t _ ht
    have h2 : a.tmps[t]? = some (.bool u'):=by
      cases hq : a.tmps[t]? with
      | none=>simp [hq] at h1;cases h1
      | some q=>simp [hq] at h1;rw [h1]
    simpa [Region.wanted,ho,yielded,hj,hd,h2] using hne
  have h3:=h.out _ (ha.put (by simpa [Nat.blt_eq] using hn) undef)
  unfold wpList
  rw [if_neg (by simp [hw]),hdd]
  exact h3⟩
variable {k : IntKind} {m q r : Int} {b b' : Bool} {s s' : ByteArray} {xt yt : TypeId}
theorem beq_dec (m q : Int) : (m == q) = decide (m = q):=by by_cases h : m = q <;> simp [h]
theorem p_add (hx : ev E x = some (.int k m)) (hy : ev E y = some (.int k q)) (hr : k.wrap (m + q) = r) : PV P E (.binOp .add xt x y yt) (.int k r):=⟨fun n a ha dst ty pos after gd W=>by simp [execOp,ha.eval hx,ha.eval hy,eqGuard,binOp,Op.intArith,hr]⟩
theorem p_sub (hx : ev E x = some (.int k m)) (hy : ev E y = some (.int k q)) (hr : k.wrap (m - q) = r) : PV P E (.binOp .sub xt x y yt) (.int k r):=⟨fun n a ha dst ty pos after gd W=>by simp [execOp,ha.eval hx,ha.eval hy,eqGuard,binOp,Op.intArith,hr]⟩
theorem p_mul (hx : ev E x = some (.int k m)) (hy : ev E y = some (.int k q)) (hr : k.wrap (m * q) = r) : PV P E (.binOp .mul xt x y yt) (.int k r):=⟨fun n a ha dst ty pos after gd W=>by simp [execOp,ha.eval hx,ha.eval hy,eqGuard,binOp,Op.intArith,hr]⟩
theorem p_quo (hx : ev E x = some (.int k m)) (hy : ev E y = some (.int k q)) (h0 : q ≠ 0) (hr : k.wrap (m.tdiv q) = r) : PV P E (.binOp .quo xt x y yt) (.int k r):=⟨fun n a ha dst ty pos after gd W=>by simp [execOp,ha.eval hx,ha.eval hy,eqGuard,binOp,Op.intDiv,h0,hr]⟩
theorem p_rem (hx : ev E x = some (.int k m)) (hy : ev E y = some (.int k q)) (h0 : q ≠ 0) (hr : m.tmod q = r) : PV P E (.binOp .rem xt x y yt) (.int k r):=⟨fun n a ha dst ty pos after gd W=>by simp [execOp,ha.eval hx,ha.eval hy,eqGuard,binOp,Op.intDiv,h0,hr]⟩
theorem p_lss (hx : ev E x = some (.int k m)) (hy : ev E y = some (.int k q)) : PV P E (.binOp .lss xt x y yt) (.bool (decide (m < q))):=⟨fun n a ha dst ty pos after gd W=>by simp [execOp,ha.eval hx,ha.eval hy,eqGuard,binOp,Op.intCmp]⟩
theorem p_leq (hx : ev E x = some (.int k m)) (hy : ev E y = some (.int k q)) : PV P E (.binOp .leq xt x y yt) (.bool (decide (m ≤ q))):=⟨fun n a ha dst ty pos after gd W=>by simp [execOp,ha.eval hx,ha.eval hy,eqGuard,binOp,Op.intCmp]⟩
theorem p_gtr (hx : ev E x = some (.int k m)) (hy : ev E y = some (.int k q)) : PV P E (.binOp .gtr xt x y yt) (.bool (decide (q < m))):=⟨fun n a ha dst ty pos after gd W=>by simp [execOp,ha.eval hx,ha.eval hy,eqGuard,binOp,Op.intCmp]⟩
theorem p_geq (hx : ev E x = some (.int k m)) (hy : ev E y = some (.int k q)) : PV P E (.binOp .geq xt x y yt) (.bool (decide (q ≤ m))):=⟨fun n a ha dst ty pos after gd W=>by simp [execOp,ha.eval hx,ha.eval hy,eqGuard,binOp,Op.intCmp]⟩
theorem p_eql (hx : ev E x = some (.int k m)) (hy : ev E y = some (.int k q)) : PV P E (.binOp .eql xt x y yt) (.bool (decide (m = q))):=⟨fun n a ha dst ty pos after gd W=>by simp [execOp,ha.eval hx,ha.eval hy,eqGuard,binOp,Op.intCmp,beq_dec]⟩
theorem p_neq (hx : ev E x = some (.int k m)) (hy : ev E y = some (.int k q)) : PV P E (.binOp .neq xt x y yt) (.bool (!decide (m = q))):=⟨fun n a ha dst ty pos after gd W=>by simp [execOp,ha.eval hx,ha.eval hy,eqGuard,binOp,Op.intCmp,bne,beq_dec]⟩
theorem bytes_toList (s s' : ByteArray) : (s.toList == s'.toList) = decide (s = s'):=by
  rw [ByteArray.toList_eq,ByteArray.toList_eq]
  by_cases h : s = s'
  · subst h;simp
  · have : s.data.toList ≠ s'.data.toList:=fun e=>h (by
      cases s;cases s'
      simp only at e
      rw [Array.toList_inj.1 e])
    simp only [h,decide_false]
    simpa using this
theorem p_seql (hx : ev E x = some (.string s)) (hy : ev E y = some (.string s')) : PV P E (.binOp .eql xt x y yt) (.bool (decide (s = s'))):=⟨fun n a ha dst ty pos after gd W=>by simp [execOp,ha.eval hx,ha.eval hy,eqGuard,binOp,Op.stringOp,bytes_toList]⟩
theorem p_sneq (hx : ev E x = some (.string s)) (hy : ev E y = some (.string s')) : PV P E (.binOp .neq xt x y yt) (.bool (!decide (s = s'))):=⟨fun n a ha dst ty pos after gd W=>by simp [execOp,ha.eval hx,ha.eval hy,eqGuard,binOp,Op.stringOp,bytes_toList]⟩
theorem p_not (hx : ev E x = some (.bool b)) : PV P E (.unOp .not xt x) (.bool (!b)):=⟨fun n a ha dst ty pos after gd W=>by simp [execOp,ha.eval hx,Op.unary]⟩
theorem p_pick1 {c : Operand} (hc : ev E c = some (.bool b)) (hb : b = true) (hx : ev E x = some v) : PV P E (.pick c x y) v:=⟨fun n a ha dst ty pos after gd W=>by subst hb;simp [execOp,ha.eval hc,ha.eval hx,asBool]⟩
theorem p_pick0 {c : Operand} (hc : ev E c = some (.bool b)) (hb : b = false) (hy : ev E y = some v) : PV P E (.pick c x y) v:=⟨fun n a ha dst ty pos after gd W=>by subst hb;simp [execOp,ha.eval hc,ha.eval hy,asBool]⟩
class Und (P : Program) (t : TypeId) (d : outParam TypeDesc) : Prop where out : P.underlying t = some d
class Siz (P : Program) (t : TypeId) (k : outParam Nat) : Prop where out : (P.info? t).map (·.size) = some k
def fAtB (P : Program) (s f k : Nat) : Bool :=
  match P.underlying s with
  | some (.struct fs)=>(match fs[f]? with
    | some fd=>fd.offset == k && (match P.info? fd.type with|some i=>i.size != 0|none=>false)
    | none=>false)
  | _=>false
class FAt (P : Program) (s f : Nat) (k : outParam Nat) : Prop where out : fAtB P s f k = true
theorem FAt.spec {s f k : Nat} (h : FAt P s f k) : ∃ fs fd i,P.underlying s = some (.struct fs) ∧ fs[f]? = some fd ∧ fd.offset = k ∧ P.info? fd.type = some i ∧ i.size ≠ 0:=by
  have h:=h.out
  unfold fAtB at h
  split at h
  · rename_i fs hu
    split at h
    · rename_i fd hf
      split at h
      · rename_i i hi
        simp at h
        exact ⟨fs,fd,i,hu,hf,h.1,hi,h.2⟩
      · simp at h
    · cases h
  · cases h
theorem addr_add_add (a : Addr) (m n : Nat) : (a.add m).add n = a.add (m + n):=by
  unfold Addr.add
  by_cases hm : m = 0
  · subst hm;simp
  · by_cases hn : n = 0
    · subst hn;simp [hm]
    · have : ¬ (m + n = 0):=by omega
      simp [hm,hn,Nat.add_assoc]
theorem add_plain (g j k : Nat) : (⟨g,j,none⟩ : Addr).add k = ⟨g,j + k,none⟩:=by unfold Addr.add;split <;> simp_all
theorem run_fieldAt {s f k : Nat} (h : FAt P s f k) (ad : Addr) (W : World) : (Instr.fieldAt s (.pointer (some ad)) f).run P W = .ok (.pointer (some (ad.add k))) W:=by
  obtain ⟨fs,fd,i,hu,hf,hk,hi,h0⟩:=h.spec
  subst hk
  simp [Instr.fieldAt,underlying,sizeOf,typeInfo,hu,hf,Instr.sureAddr,fieldPlace,hi,h0]
variable {g j c : Nat} {A : Option Addr} {st f : Nat}
theorem p_field [hF : FAt P st f c] (hx : ev E x = some (.pointer (some ⟨g,j,none⟩))) {j' : Nat} (hj : j + c = j') : PV P E (.fieldAddr st x f) (.pointer (some ⟨g,j',none⟩)):=⟨fun n a ha dst ty pos after gd W=>by simp [execOp,ha.eval hx,run_fieldAt hF,add_plain,hj]⟩
theorem p_fieldr [hF : FAt P st f c] {ad : Addr} (hx : ev E x = some (.pointer (some (ad.add j)))) {j' : Nat} (hj : j + c = j') : PV P E (.fieldAddr st x f) (.pointer (some (ad.add j'))):=⟨fun n a ha dst ty pos after gd W=>by simp [execOp,ha.eval hx,run_fieldAt hF,addr_add_add,hj]⟩
theorem p_index {e sz : Nat} {ad : Addr} {l c : Nat} {i : Int} [hU : Und P st (.slice e)] [hS : Siz P e sz] (hx : ev E x = some (.slice A l c)) (hA : A = some ad) (hy : ev E y = some (.int k i)) (h0 : 0 ≤ i) (h1 : i < l) : PV P E (.indexAddr st x y) (.pointer (some (ad.add (i.toNat * sz)))):=⟨fun n a ha dst ty pos after gd W=>by
    obtain ⟨i0,hi,hs⟩:=Option.map_eq_some_iff.1 hS.out
    subst hs
    simp [execOp,ha.eval hx,ha.eval hy,Instr.indexAt,asIntOf,underlying,hU.out,hA,h0,h1,sizeOf,typeInfo,hi]⟩
theorem run_beq (W : World) [hU : Und P xt .bool] : (binOp .eql xt (.bool b) (.bool b')).run P W = .ok (.bool (decide (b = b'))) W ∧ (binOp .neq xt (.bool b) (.bool b')).run P W = .ok (.bool (!decide (b = b'))) W:=by
  have h1 : (b == b') = decide (b = b'):=by cases b <;> cases b' <;> rfl
  have h2:=run_equal_bool (P:=P) W xt b b' hU.out
  constructor
  · show ((Op.equal xt (.bool b) (.bool b')) >>= fun r=>pure (Value.bool r) : Sem Value).run P W = _
    rw [Sem.run_bind,h2,Result.andThen_ok,Sem.run_pure,h1]
  · show ((Op.equal xt (.bool b) (.bool b')) >>= fun r=>pure (Value.bool (!r)) : Sem Value).run P W = _
    rw [Sem.run_bind,h2,Result.andThen_ok,Sem.run_pure,h1]
theorem p_bneq [hU : Und P xt .bool] (hx : ev E x = some (.bool b)) (hy : ev E y = some (.bool b')) : PV P E (.binOp .neq xt x y yt) (.bool (!decide (b = b'))):=⟨fun n a ha dst ty pos after gd W=>by
  simp [execOp,ha.eval hx,ha.eval hy,eqGuard,(run_beq (P:=P) (xt:=xt) (b:=b) (b':=b') W).2]⟩
theorem p_len {e : TypeId} {l c : Nat} [hU : Und P st (.slice e)] (hx : ev E x = some (.slice A l c)) : PV P E (.call { callee:=.builtin .len,args:=#[x],argTypes:=#[st] }) (.int .i64 l):=⟨fun n a ha dst ty pos after gd W=>by simp [execOp,ha.eval hx,resolve,invoke,builtin,Builtin.len_,underlying,hU.out,goInt]⟩
theorem p_slen [hU : Und P st .string] (hx : ev E x = some (.string s)) : PV P E (.call { callee:=.builtin .len,args:=#[x],argTypes:=#[st] }) (.int .i64 s.size):=⟨fun n a ha dst ty pos after gd W=>by simp [execOp,ha.eval hx,resolve,invoke,builtin,Builtin.len_,underlying,hU.out,goInt]⟩
theorem p_extract {vs : List Value} {j : Nat} (hx : ev E x = some (.tuple vs.toArray)) (hj : vs[j]? = some v) : PV P E (.extract x j) (v):=⟨fun n a ha dst ty pos after gd W=>by simp [execOp,ha.eval hx,Instr.extract,hj]⟩
theorem gL {l : List Oper} (h : WL P n ops Q l E W) : WL P n ops Q l E W:=h
theorem gC {c : Code} (h : WC P n c Q E W) : WC P n c Q E W:=h
theorem gN {e : Exit} (h : WN n e Q E W) : WN n e Q E W:=h
variable {od : Option Nat} {gd : Option (Nat × Bool)}
theorem gStore (h : WL P n ops Q (⟨od,.store xt x y,ty,pos,after,gd⟩ :: rest) E W) : WL P n ops Q (⟨od,.store xt x y,ty,pos,after,gd⟩ :: rest) E W:=h
theorem gCall {cl : Call} (h : WL P n ops Q (⟨od,.call cl,ty,pos,after,gd⟩ :: rest) E W) : WL P n ops Q (⟨od,.call cl,ty,pos,after,gd⟩ :: rest) E W:=h
def pureOp : Op → Bool
  | .move _|.assign _|.pick ..|.binOp ..|.unOp ..|.fieldAddr ..|.indexAddr ..|.extract ..|.build ..|.index ..|.field ..|.slice ..=>true
  | .call { callee:=.builtin b,.. }=>match b with|.len|.min|.max=>true|_=>false
  | _=>false
structure GP (P : Program) (E : Env) (op : Op) (K : Value → Prop) : Prop where out : ∃ v,PV P E op v ∧ K v
theorem gp {op : Op} {K : Value → Prop} (hp : PV P E op v) (h : K v) : GP P E op K:=⟨v,hp,h⟩
theorem s_gp {op : Op} (hpure : pureOp op = true) (hn : Nat.blt d n = true) (h : GP P E op fun v=>WL P n ops Q rest ((d,v) :: E) W) : WL P n ops Q (⟨some d,op,ty,pos,after,none⟩ :: rest) E W:=by
  obtain ⟨v,hp,h⟩:=h.out
  exact s_pv hp hn h
theorem gGP {op : Op} {K : Value → Prop} (h : GP P E op K) : GP P E op K:=h
theorem gGB {op : BinOp} {K : Value → Prop} (h : GP P E (.binOp op xt x y yt) K) : GP P E (.binOp op xt x y yt) K:=h
end
end Go.Proofs.YtampmicahnnebaaGreat.Sp
namespace Go.Proofs.YtampmicahnnebaaGreat.Sp
open Go Go.RowKit
structure Asn where
  H : World → (Nat → Prop) → Prop
  mono : ∀ {W : World} {F F' : Nat → Prop},(∀ k,F k → F' k) → H W F → H W F'
  move : ∀ {W W' : World} {F : Nat → Prop},(∀ k,F k → k < W.heap.size → W'.heap[k]? = W.heap[k]?) → H W F → H W' F
  bound : ∀ {W : World} {F : Nat → Prop},H W F → H W (fun k=>F k ∧ k < W.heap.size)
def SepIn (W : World) : (Nat → Prop) → List Asn → Prop
  | _,[]=>True
  | ok,A :: L=>∃ F : Nat → Prop,(∀ k,F k → ok k) ∧ A.H W F ∧ SepIn W (fun k=>ok k ∧ ¬ F k) L
theorem SepIn.mono {W : World} : ∀ {L : List Asn} {ok ok' : Nat → Prop},(∀ k,ok k → ok' k) → SepIn W ok L → SepIn W ok' L
  | [],_,_,_,_=>trivial
  | A :: L,ok,ok',h,⟨F,h1,h2,h3⟩=>⟨F,fun k hk=>h k (h1 k hk),h2,SepIn.mono (fun k hk=>⟨h k hk.1,hk.2⟩) h3⟩
theorem SepIn.move {W W' : World} : ∀ {L : List Asn} {ok : Nat → Prop},(∀ k,ok k → k < W.heap.size → W'.heap[k]? = W.heap[k]?) → SepIn W ok L → SepIn W' ok L
  | [],_,_,_=>trivial
  | A :: L,ok,h,⟨F,h1,h2,h3⟩=>⟨F,h1,A.move (fun k hk hl=>h k (h1 k hk) hl) h2,SepIn.move (fun k hk hl=>h k hk.1 hl) h3⟩
theorem SepIn.bound {W : World} : ∀ {L : List Asn} {ok : Nat → Prop},SepIn W ok L → SepIn W (fun k=>ok k ∧ k < W.heap.size) L
  | [],_,_=>trivial
  | A :: L,ok,⟨F,h1,h2,h3⟩=>by
    refine ⟨fun k=>F k ∧ k < W.heap.size,fun k hk=>⟨h1 k hk.1,hk.2⟩,A.bound h2,?_⟩
    exact SepIn.mono (fun k hk=>⟨⟨hk.1.1,hk.2⟩,fun hf=>hk.1.2 hf.1⟩) (SepIn.bound h3)
theorem SepIn.perm {W : World} {L L' : List Asn} (h : L.Perm L') : ∀ {ok : Nat → Prop},SepIn W ok L → SepIn W ok L':=by
  induction h with
  | nil=>exact fun h=>h
  | cons A _ ih=>rintro ok ⟨F,h1,h2,h3⟩;exact ⟨F,h1,h2,ih h3⟩
  | swap A B L =>
    rintro ok ⟨F,h1,h2,G,h3,h4,h5⟩
    exact ⟨G,fun k hk=>(h3 k hk).1,h4,F,fun k hk=>⟨h1 k hk,fun hg=>(h3 k hg).2 hk⟩,h2,h5.mono (fun k hk=>⟨⟨hk.1.1,hk.2⟩,hk.1.2⟩)⟩
  | trans _ _ ih1 ih2=>exact fun h=>ih2 (ih1 h)
theorem SepIn.append {W : World} : ∀ {L M : List Asn} {ok : Nat → Prop},SepIn W ok (L ++ M) → ∃ F : Nat → Prop,(∀ k,F k → ok k) ∧ SepIn W F L ∧ SepIn W (fun k=>ok k ∧ ¬ F k) M
  | [],M,ok,h=>⟨fun _=>False,fun _ h=>h.elim,trivial,h.mono (fun k hk=>⟨hk,fun h=>h⟩)⟩
  | A :: L,M,ok,⟨F,h1,h2,h3⟩=>by
    obtain ⟨G,g1,g2,g3⟩:=SepIn.append h3
    refine ⟨fun k=>F k ∨ G k,fun k hk=>hk.elim (h1 k) (fun h=>(g1 k h).1),⟨F,fun k hk=>.inl hk,h2,g2.mono (fun k hk=>⟨.inr hk,(g1 k hk).2⟩)⟩,g3.mono (fun k hk=>⟨hk.1.1,fun h=>h.elim hk.1.2 hk.2⟩)⟩
theorem SepIn.join {W : World} : ∀ {L M : List Asn} {ok F : Nat → Prop},(∀ k,F k → ok k) → SepIn W F L → SepIn W (fun k=>ok k ∧ ¬ F k) M → SepIn W ok (L ++ M)
  | [],M,ok,F,h,_,h2=>h2.mono (fun k hk=>hk.1)
  | A :: L,M,ok,F,h,⟨G,g1,g2,g3⟩,h2=>by
    refine ⟨G,fun k hk=>h k (g1 k hk),g2,SepIn.join (F:=fun k=>F k ∧ ¬ G k) (fun k hk=>⟨h k hk.1,hk.2⟩) g3 (h2.mono (fun k hk=>⟨⟨hk.1,fun hg=>hk.2 (g1 k hg)⟩,fun hf=>hk.2 hf.1⟩))⟩
structure Mem (w0 W : World) (L : List Asn) : Prop where
  below : Below w0.heap.size w0 W
  sep : SepIn W (fun k=>w0.heap.size ≤ k) L
section
variable {w0 W W1 : World} {L L' R : List Asn} {A B : Asn}
theorem Mem.start (w : World) : Mem w w []:=⟨Below.refl _ _,trivial⟩
theorem Mem.perm (h : Mem w0 W L) (hp : L.Perm L') : Mem w0 W L':=⟨h.below,h.sep.perm hp⟩
theorem Mem.drop (h : Mem w0 W (A :: L)) : Mem w0 W L:=⟨h.below,by obtain ⟨F,_,_,h3⟩:=h.sep;exact h3.mono (fun k hk=>hk.1)⟩
theorem Mem.step (h : Mem w0 W L) (hb : Below W.heap.size W W1) : Mem w0 W1 L :=
  ⟨h.below.trans ⟨hb.os,hb.tape,hb.output,hb.size,fun k hk=>hb.block k (Nat.lt_of_lt_of_le hk h.below.size)⟩,h.sep.move (fun k _ hl=>hb.block k hl)⟩
theorem Mem.drew (h : Mem w0 W L) : Mem w0 W.drew L:=h.step ⟨rfl,rfl,rfl,Nat.le_refl _,fun _ _=>rfl⟩
theorem Mem.add (h : Mem w0 W L) (hb : Below W.heap.size W W1) (hB : B.H W1 (fun k=>W.heap.size ≤ k)) : Mem w0 W1 (B :: L):=by
  refine ⟨(h.step hb).below,fun k=>W.heap.size ≤ k,fun k hk=>Nat.le_trans h.below.size hk,hB,?_⟩
  exact (h.sep.bound.move (fun k hk _=>hb.block k hk.2)).mono (fun k hk=>⟨hk.1,fun hg=>by have:=hk.2;omega⟩)
theorem Mem.split (h : Mem w0 W (A :: L)) : ∃ F : Nat → Prop,(∀ k,F k → w0.heap.size ≤ k) ∧ A.H W F ∧ ∀ (W1 : World) (R : List Asn),W1.os = W.os → W1.tape = W.tape → W1.output = W.output → W.heap.size ≤ W1.heap.size →
    (∀ k,k < W.heap.size → ¬ F k → W1.heap[k]? = W.heap[k]?) → SepIn W1 (fun k=>F k ∨ W.heap.size ≤ k) R → Mem w0 W1 (R ++ L):=by
  obtain ⟨hb,F,h1,h2,h3⟩:=h
  refine ⟨F,h1,h2,fun W1 R e1 e2 e3 e4 e5 e6=>?_⟩
  refine ⟨⟨e1.trans hb.os,e2.trans hb.tape,e3.trans hb.output,Nat.le_trans hb.size e4,fun k hk=>(e5 k (Nat.lt_of_lt_of_le hk hb.size) (fun hf=>by have:=h1 k hf;omega)).trans (hb.block k hk)⟩,?_⟩
  refine SepIn.join (F:=fun k=>F k ∨ W.heap.size ≤ k) (fun k hk=>hk.elim (h1 k) (fun h=>Nat.le_trans hb.size h)) e6 ?_
  refine (h3.bound.move (fun k hk _=>e5 k hk.2 hk.1.2)).mono (fun k hk=>⟨hk.1.1,fun hf=>hf.elim hk.1.2 (fun h=>by have:=hk.2;omega)⟩)
theorem Mem.turn (h : Mem w0 W (A :: L)) (hu : ∀ F : Nat → Prop,(∀ k,F k → w0.heap.size ≤ k) → A.H W F → W1.os = W.os ∧ W1.tape = W.tape ∧ W1.output = W.output ∧ W.heap.size ≤ W1.heap.size ∧
    (∀ k,k < W.heap.size → ¬ F k → W1.heap[k]? = W.heap[k]?) ∧ SepIn W1 (fun k=>F k ∨ W.heap.size ≤ k) R) : Mem w0 W1 (R ++ L):=by
  obtain ⟨hb,F,h1,h2,h3⟩:=h
  obtain ⟨e1,e2,e3,e4,e5,e6⟩:=hu F h1 h2
  refine ⟨⟨e1.trans hb.os,e2.trans hb.tape,e3.trans hb.output,Nat.le_trans hb.size e4,fun k hk=>(e5 k (Nat.lt_of_lt_of_le hk hb.size) (fun hf=>by have:=h1 k hf;omega)).trans (hb.block k hk)⟩,?_⟩
  refine SepIn.join (F:=fun k=>F k ∨ W.heap.size ≤ k) (fun k hk=>hk.elim (h1 k) (fun h=>Nat.le_trans hb.size h)) e6 ?_
  refine (h3.bound.move (fun k hk _=>e5 k hk.2 hk.1.2)).mono (fun k hk=>⟨hk.1.1,fun hf=>hf.elim hk.1.2 (fun h=>by have:=hk.2;omega)⟩)
theorem Mem.turn1 (h : Mem w0 W (A :: L)) (hu : ∀ F : Nat → Prop,(∀ k,F k → w0.heap.size ≤ k) → A.H W F → W1.os = W.os ∧ W1.tape = W.tape ∧ W1.output = W.output ∧ W.heap.size ≤ W1.heap.size ∧
    (∀ k,k < W.heap.size → ¬ F k → W1.heap[k]? = W.heap[k]?) ∧ B.H W1 (fun k=>F k ∨ W.heap.size ≤ k)) : Mem w0 W1 (B :: L) :=
  h.turn (R:=[B]) fun F hF hA=>by
    obtain ⟨e1,e2,e3,e4,e5,e6⟩:=hu F hF hA
    exact ⟨e1,e2,e3,e4,e5,_,fun _ h=>h,e6,trivial⟩
end
def exP {ι : Type} (p : ι → Prop) (L : ι → List Asn) : Asn where
  H:=fun W F=>∃ i,p i ∧ SepIn W F (L i)
  mono:=fun h ⟨i,h1,h2⟩=>⟨i,h1,h2.mono h⟩
  move:=fun h ⟨i,h1,h2⟩=>⟨i,h1,h2.move h⟩
  bound:=fun ⟨i,h1,h2⟩=>⟨i,h1,h2.bound⟩
section
variable {w0 W : World} {M : List Asn}
theorem Mem.ex {ι : Type} {p : ι → Prop} {L : ι → List Asn} (h : Mem w0 W (exP p L :: M)) : ∃ i,p i ∧ Mem w0 W (L i ++ M):=by
  obtain ⟨hb,F,h1,⟨i,hp,hs⟩,h3⟩:=h
  exact ⟨i,hp,hb,SepIn.join h1 hs h3⟩
theorem Mem.mkx {ι : Type} {p : ι → Prop} {L : ι → List Asn} (i : ι) (hp : p i) (h : Mem w0 W (L i ++ M)) : Mem w0 W (exP p L :: M):=by
  obtain ⟨F,h1,h2,h3⟩:=SepIn.append h.sep
  exact ⟨h.below,F,h1,⟨i,hp,h2⟩,h3⟩
end
def box (g t : Nat) (cs : List Value) : Asn where
  H:=fun W F=>F g ∧ W.heap[g]? = some (.cells cs.toArray t (0,0))
  mono:=fun h ⟨h1,h2⟩=>⟨h _ h1,h2⟩
  move:=fun h ⟨h1,h2⟩=>⟨h1,(h _ h1 (Array.getElem?_eq_some_iff.1 h2).1).trans h2⟩
  bound:=fun ⟨h1,h2⟩=>⟨⟨h1,(Array.getElem?_eq_some_iff.1 h2).1⟩,h2⟩
def row (e sz : Nat) (A : Option Addr) (n c : Nat) (cs : List Value) : Asn where
  H:=fun W F=>W.ownsRow 0 e sz (.slice A n c) n cs ∧ ∀ k,(Value.slice A n c).ownBlock = some k → F k
  mono:=fun h ⟨h1,h2⟩=>⟨h1,fun k hk=>h k (h2 k hk)⟩
  move:=by
    rintro W W' F h ⟨h1,h2⟩
    refine ⟨?_,h2⟩
    obtain ⟨hl,h3⟩:=h1
    refine ⟨hl,?_⟩
    rcases h3 with h3|⟨g,cap,cur,he,hb,hh,hr⟩
    · exact .inl h3
    · exact .inr ⟨g,cap,cur,he,hb,(h g (h2 g (by rw [he];rfl)) (Array.getElem?_eq_some_iff.1 hh).1).trans hh,hr⟩
  bound:=by
    rintro W F ⟨h1,h2⟩
    refine ⟨h1,fun k hk=>⟨h2 k hk,?_⟩⟩
    obtain ⟨hl,h3⟩:=h1
    rcases h3 with ⟨he,_⟩|⟨g,cap,cur,he,hb,hh,hr⟩
    · rw [he] at hk;cases hk
    · rw [he] at hk
      cases hk
      exact (Array.getElem?_eq_some_iff.1 hh).1
structure Ty (α : Type) where
  sz : Nat
  z : α
  A : α → List Value → Asn
  get : α → Nat → Option Value
  set : α → Nat → Value → Option α
  len : ∀ {x c W F},(A x c).H W F → c.length = sz
  one : ∀ {x c W F},(A x c).H W F → ∀ u ∈ c,u.oneCell' = true
  get_ok : ∀ {x c W F j v},(A x c).H W F → get x j = some v → c[j]? = some v
  set_ok : ∀ {x c W F j v x'},(A x c).H W F → set x j v = some x' → (A x' (c.set j v)).H W F ∧ j < sz ∧ v.oneCell' = true
def els {α : Type} (d : Ty α) : List α → List (List Value) → List Asn
  | x :: xs,c :: cs=>d.A x c :: els d xs cs
  | _,_=>[]
def own {α : Type} (d : Ty α) (e : Nat) (A : Option Addr) (c : Nat) (xs : List α) : Asn :=
  exP (fun css : List (List Value)=>css.length = xs.length) (fun css=>row e d.sz A xs.length c css.flatten :: els d xs css)
def rd {α : Type} (d : Ty α) (xs : List α) (i : Int) : α:=xs.getD i.toNat d.z
def adr (A : Option Addr) : Addr:=A.getD ⟨0,0,none⟩
class Pk (L : List Asn) (A : Asn) (R : outParam (List Asn)) : Prop where out : L.Perm (A :: R)
instance Pk.here {A : Asn} {L : List Asn} : Pk (A :: L) A L:=⟨List.Perm.refl _⟩
instance (priority:=low) Pk.there {A B : Asn} {L R : List Asn} [h : Pk L A R] : Pk (B :: L) A (B :: R):=⟨(List.Perm.cons B h.out).trans (List.Perm.swap A B R)⟩
class Rp (L : List Asn) (A B : Asn) (L' : outParam (List Asn)) : Prop where out : ∃ R,L.Perm (A :: R) ∧ L'.Perm (B :: R)
instance Rp.here {A B : Asn} {L : List Asn} : Rp (A :: L) A B (B :: L):=⟨L,List.Perm.refl _,List.Perm.refl _⟩
instance (priority:=low) Rp.there {A B C : Asn} {L L' : List Asn} [h : Rp L A B L'] : Rp (C :: L) A B (C :: L'):=⟨by
  obtain ⟨R,h1,h2⟩:=h.out
  exact ⟨C :: R,(List.Perm.cons C h1).trans (List.Perm.swap A C R),(List.Perm.cons C h2).trans (List.Perm.swap B C R)⟩⟩
class BoxAt (L : List Asn) (g : Nat) (t : outParam Nat) (cs : outParam (List Value)) : Prop where mem : ∃ R,L.Perm (box g t cs :: R)
instance BoxAt.here {g t : Nat} {cs : List Value} {L : List Asn} : BoxAt (box g t cs :: L) g t cs:=⟨L,List.Perm.refl _⟩
instance (priority:=low) BoxAt.there {B : Asn} {L : List Asn} {g t : Nat} {cs : List Value} [h : BoxAt L g t cs] : BoxAt (B :: L) g t cs:=⟨by
  obtain ⟨R,h⟩:=h.mem
  exact ⟨B :: R,(List.Perm.cons B h).trans (List.Perm.swap _ B R)⟩⟩
class OwnAt (L : List Asn) (A : Option Addr) (c : outParam Nat) (α : outParam Type) (d : outParam (Ty α)) (e : outParam Nat) (xs : outParam (List α)) : Prop where mem : ∃ R,L.Perm (own d e A c xs :: R)
instance OwnAt.here {α : Type} {d : Ty α} {e : Nat} {A : Option Addr} {c : Nat} {xs : List α} {L : List Asn} : OwnAt (own d e A c xs :: L) A c α d e xs:=⟨L,List.Perm.refl _⟩
instance (priority:=low) OwnAt.there {α : Type} {d : Ty α} {e : Nat} {A : Option Addr} {c : Nat} {xs : List α} {L : List Asn} {B : Asn} [h : OwnAt L A c α d e xs] : OwnAt (B :: L) A c α d e xs:=⟨by
  obtain ⟨R,h⟩:=h.mem
  exact ⟨B :: R,(List.Perm.cons B h).trans (List.Perm.swap _ B R)⟩⟩
class Nth (cs : List Value) (j : Nat) (v : outParam Value) : Prop where out : cs[j]? = some v
instance Nth.zero {v : Value} {cs : List Value} : Nth (v :: cs) 0 v:=⟨rfl⟩
instance Nth.succ {u v : Value} {cs : List Value} {j : Nat} [h : Nth cs j v] : Nth (u :: cs) (j + 1) v:=⟨by rw [List.getElem?_cons_succ];exact h.out⟩
class Stl (cs : List Value) (j : Nat) (v : Value) (cs' : outParam (List Value)) : Prop where out : cs.set j v = cs' ∧ j < cs.length
instance Stl.zero {u v : Value} {cs : List Value} : Stl (u :: cs) 0 v (v :: cs):=⟨rfl,by simp⟩
instance Stl.succ {u v : Value} {cs cs' : List Value} {j : Nat} [h : Stl cs j v cs'] : Stl (u :: cs) (j + 1) v (u :: cs'):=⟨by rw [List.set_cons_succ,h.out.1],by simpa using h.out.2⟩
class Sub (cs : List Value) (j m : Nat) (ws : outParam (List Value)) : Prop where out : (cs.drop j).take m = ws ∧ j + m ≤ cs.length
instance Sub.nil {cs : List Value} : Sub cs 0 0 []:=⟨by simp,by simp⟩
instance Sub.take {u : Value} {cs ws : List Value} {m : Nat} [h : Sub cs 0 m ws] : Sub (u :: cs) 0 (m + 1) (u :: ws):=⟨by have:=h.out.1;simp at this ⊢;exact this,by have:=h.out.2;simp at this ⊢;omega⟩
instance Sub.skip {u : Value} {cs ws : List Value} {j m : Nat} [h : Sub cs j m ws] : Sub (u :: cs) (j + 1) m ws:=⟨by have:=h.out.1;simpa using this,by have:=h.out.2;simp at this ⊢;omega⟩
def puts : List Value → Nat → List Value → List Value
  | cs,_,[]=>cs
  | cs,j,v :: r=>puts (cs.set j v) (j + 1) r
class Pts (cs : List Value) (j : Nat) (ws : List Value) (cs' : outParam (List Value)) : Prop where out : puts cs j ws = cs' ∧ j + ws.length ≤ cs.length
instance Pts.nil {cs : List Value} : Pts cs 0 [] cs:=⟨rfl,by simp⟩
theorem puts_cons (u : Value) : ∀ (ws cs : List Value) (j : Nat),puts (u :: cs) (j + 1) ws = u :: puts cs j ws
  | [],_,_=>rfl
  | v :: r,cs,j=>by simp only [puts,List.set_cons_succ];exact puts_cons u r _ _
instance Pts.cons {u v : Value} {cs ws cs' : List Value} [h : Pts cs 0 ws cs'] : Pts (u :: cs) 0 (v :: ws) (v :: cs'):=⟨by simp only [puts,List.set_cons_zero];rw [puts_cons,h.out.1],by have:=h.out.2;simp at this ⊢;omega⟩
instance Pts.skip {u w : Value} {cs ws cs' : List Value} {j : Nat} [h : Pts cs j (w :: ws) cs'] : Pts (u :: cs) (j + 1) (w :: ws) (u :: cs'):=⟨by rw [puts_cons,h.out.1],by have:=h.out.2;simp at this ⊢;omega⟩
section
variable {w0 W W1 : World} {L L' R : List Asn} {A B : Asn}
theorem Mem.pk [h : Pk L A R] (hm : Mem w0 W L) : Mem w0 W (A :: R):=hm.perm h.out
theorem Mem.heap {g t : Nat} {cs : List Value} [h : BoxAt L g t cs] (hm : Mem w0 W L) : W.heap[g]? = some (.cells cs.toArray t (0,0)):=by
  obtain ⟨R,hp⟩:=h.mem
  obtain ⟨F,_,⟨_,h2⟩,_⟩:=(hm.perm hp).sep
  exact h2
theorem Mem.put {g t : Nat} {cs cs' : List Value} [h : Rp L (box g t cs) (box g t cs') L'] (hm : Mem w0 W L) (hh : W1.heap[g]? = some (.cells cs'.toArray t (0,0))) (hg : W.grownBy W1 (some g)) : Mem w0 W1 L':=by
  obtain ⟨R,h1,h2⟩:=h.out
  refine Mem.perm (L:=box g t cs' :: R) ?_ h2.symm
  refine (hm.perm h1).turn1 (fun F hF hA=>?_)
  obtain ⟨hFg,_⟩:=hA
  exact ⟨hg.os,hg.tape,hg.output,hg.size,fun k hk hn=>hg.block k hk (fun e=>hn (Option.some.inj e ▸ hFg)),.inl hFg,hh⟩
end
class Cel (v : Value) (ws : outParam (List Value)) : Prop where out : v.cells.toList = ws
instance Cel.int {k : IntKind} {m : Int} : Cel (.int k m) [.int k m]:=⟨rfl⟩
instance Cel.bool {b : Bool} : Cel (.bool b) [.bool b]:=⟨rfl⟩
instance Cel.string {s : ByteArray} : Cel (.string s) [.string s]:=⟨rfl⟩
instance Cel.slice {A : Option Addr} {l c : Nat} : Cel (.slice A l c) [.slice A l c]:=⟨rfl⟩
instance Cel.pointer {A : Option Addr} : Cel (.pointer A) [.pointer A]:=⟨rfl⟩
instance Cel.agg {ws : List Value} : Cel (.agg ws.toArray) ws:=⟨rfl⟩
class Sb (L L' : List Asn) : Prop where out : ∀ (W : World) (ok : Nat → Prop),SepIn W ok L → SepIn W ok L'
instance (priority:=high) Sb.refl {L : List Asn} : Sb L L:=⟨fun _ _ h=>h⟩
instance Sb.cons {L R L' : List Asn} {A : Asn} [h1 : Pk L A R] [h2 : Sb R L'] : Sb L (A :: L'):=⟨fun W ok h=>by
  obtain ⟨F,f1,f2,f3⟩:=h.perm h1.out
  exact ⟨F,f1,f2,h2.out _ _ f3⟩⟩
instance (priority:=low) Sb.drop {L L' : List Asn} {B : Asn} [h : Sb L L'] : Sb (B :: L) L':=⟨fun W ok ⟨F,_,_,f3⟩=>h.out _ _ (f3.mono (fun k hk=>hk.1))⟩
theorem Mem.sb {w0 W : World} {L L' : List Asn} (hm : Mem w0 W L) [h : Sb L L'] : Mem w0 W L':=⟨hm.below,h.out _ _ hm.sep⟩
section
variable {P : Program} {n : Nat} {ops : Array Oper} {Q : Exit → Act → World → Prop} {rest : List Oper} {E : Env} {w0 W : World} {L L' R : List Asn}
variable {d : Nat} {ty pt : TypeId} {pos : String} {after : Array Edge} {x y : Operand} {v : Value} {g t j : Nat} {cs ws cs' : List Value}
class One (P : Program) (t : TypeId) : Prop where out : ∃ u,P.underlying t = some u ∧ (match u with|.struct _|.array _ _=>false|_=>true) = true
class Agg (P : Program) (t : TypeId) (m : outParam Nat) : Prop where out : ∃ u,P.underlying t = some u ∧ (match u with|.struct _|.array _ _=>true|_=>false) = true ∧ (P.info? t).map (·.size) = some m
class Zer (P : Program) (t : TypeId) (cs : outParam (List Value)) : Prop where out : ∃ i z,P.info? t = some i ∧ i.zero = some z ∧ z.cells.toList = cs
theorem run_new (W : World) (t : Nat) (v : Value) : (newVar t v).run P W = .ok ⟨W.heap.size,0,none⟩ (W.alloc (.cells v.cells t)):=by
  rfl
theorem Mem.alloc (hm : Mem w0 W L) (t : Nat) (cs : List Value) : Mem w0 (W.alloc (.cells cs.toArray t)) (box W.heap.size t cs :: L):=by
  refine hm.add ((Below.refl _ _).alloc (Nat.le_refl _) _) ⟨Nat.le_refl _,heap_alloc_new W _⟩
theorem s_box (hm : Mem w0 W L) (hx : ev E x = some v) [hcl : Cel v cs] (hn : Nat.blt d n = true) (h : ∀ g W1,Mem w0 W1 (box g t cs :: L) → WL P n ops Q rest ((d,.pointer (some ⟨g,0,none⟩)) :: E) W1) :
    WL P n ops Q (⟨some d,.box t x,ty,pos,after,none⟩ :: rest) E W :=
  have hc:=hcl.out
  s_run (W1:=W.alloc (.cells v.cells t)) rfl rfl hn (fun a ha=>by simp [execOp,ha.eval hx,Instr.box,run_new]) (h W.heap.size _ (by subst hc;simpa using hm.alloc t v.cells.toList))
theorem s_alloc [hz : Zer P t cs] (hm : Mem w0 W L) (hn : Nat.blt d n = true) (h : ∀ g W1,Mem w0 W1 (box g t cs :: L) → WL P n ops Q rest ((d,.pointer (some ⟨g,0,none⟩)) :: E) W1) :
    WL P n ops Q (⟨some d,.alloc t,ty,pos,after,none⟩ :: rest) E W:=by
  obtain ⟨i,z,hi,hzz,rfl⟩:=hz.out
  exact s_run (W1:=W.alloc (.cells z.cells t)) rfl rfl hn (fun a ha=>by simp [execOp,Instr.alloc,zeroValue,typeInfo,hi,hzz,run_new]) (h W.heap.size _ (by simpa using hm.alloc t z.cells.toList))
structure LV (P : Program) (E : Env) (w0 : World) (L : List Asn) (op : Op) (v : Value) : Prop where out : ∀ w,Mem w0 w L → ∀ (n : Nat) (a : Act),Fits n E a → ∀ dst ty pos after gd,(execOp a.eval ⟨dst,op,ty,pos,after,gd⟩).run P w = .ok (.value v) w
theorem PV.lv {op : Op} (h : PV P E op v) : LV P E w0 L op v:=⟨fun w _ n a ha _ _ _ _ _=>h.out n a ha _ _ _ _ _ _⟩
theorem s_lv {op : Op} (hm : Mem w0 W L) (hl : LV P E w0 L op v) (hn : Nat.blt d n = true) (h : WL P n ops Q rest ((d,v) :: E) W) : WL P n ops Q (⟨some d,op,ty,pos,after,none⟩ :: rest) E W:=s_run rfl rfl hn (fun a ha=>hl.out W hm n a ha _ _ _ _ _) h
structure GV (P : Program) (E : Env) (w0 : World) (L : List Asn) (op : Op) (K : Value → Prop) : Prop where out : ∃ v,LV P E w0 L op v ∧ K v
theorem gv {op : Op} {K : Value → Prop} (hp : LV P E w0 L op v) (h : K v) : GV P E w0 L op K:=⟨v,hp,h⟩
theorem s_gv {t : TypeId} (hm : Mem w0 W L) (hn : Nat.blt d n = true) (h : GV P E w0 L (.load t x) fun v=>WL P n ops Q rest ((d,v) :: E) W) : WL P n ops Q (⟨some d,.load t x,ty,pos,after,none⟩ :: rest) E W:=by
  obtain ⟨v,hp,h⟩:=h.out
  exact s_lv hm hp hn h
theorem gGV {op : Op} {K : Value → Prop} (h : GV P E w0 L op K) : GV P E w0 L op K:=h
theorem p_load [hB : BoxAt L g t cs] [hv : Nth cs j v] [hO : One P pt] (hx : ev E x = some (.pointer (some ⟨g,j,none⟩))) : LV P E w0 L (.load pt x) v :=
  ⟨fun W hm n a ha dst ty pos after gd=>by
    obtain ⟨u,hu,hu2⟩:=hO.out
    have hc : W.cell? ⟨g,j,none⟩ = some v:=by rw [cell_of_row W g j _ t (0,0) hm.heap];simpa using hv.out
    have hl : (loadVar pt ⟨g,j,none⟩).run P W = .ok v W:=by
      unfold loadVar isAgg
      cases u <;> simp_all [underlying,load,Sem.run]
    simp [execOp,ha.eval hx,Instr.loadAt,Instr.sureAddr,hl]⟩
theorem p_loads {m : Nat} [hB : BoxAt L g t cs] [hA : Agg P pt m] [hv : Sub cs j m ws] (hx : ev E x = some (.pointer (some ⟨g,j,none⟩))) : LV P E w0 L (.load pt x) (.agg ws.toArray) :=
  ⟨fun W hm n a ha dst ty pos after gd=>by
    obtain ⟨u,hu,hu2,hi⟩:=hA.out
    obtain ⟨h1,h2⟩:=hv.out
    have hr : W.rangeAt g j ws:=by
      intro i z hz
      rw [cell_of_row W g (j + i) _ t (0,0) hm.heap]
      rw [← h1] at hz
      rw [List.getElem?_take] at hz
      split at hz
      · simpa [List.getElem?_drop] using hz
      · cases hz
    have hl : ws.length = m:=by rw [← h1];simp;omega
    have:=run_loadVar_mid (P:=P) W g j pt ws u hr hu (by cases u <;> simp_all [TypeDesc.isRow]) (by rw [hi,hl])
    simp [execOp,ha.eval hx,Instr.loadAt,Instr.sureAddr,this]⟩
theorem grown_setCells (g : Nat) : ∀ (vs : List Value) (o : Nat) (w : World),w.grownBy (w.setCells g o vs) (some g)
  | [],_,w=>World.grownBy.refl w _
  | v :: r,o,w=>by
    have h1 : w.grownBy (w.setCell ⟨g,o,none⟩ v) (some g):=⟨rfl,rfl,rfl,by simp [World.setCell],fun k _ hk=>Below.heap_setCell _ _ _ k (fun e=>hk (by rw [e]))⟩
    have h2:=grown_setCells g r (o + 1) (w.setCell ⟨g,o,none⟩ v)
    exact ⟨h2.os.trans h1.os,h2.tape.trans h1.tape,h2.output.trans h1.output,Nat.le_trans h1.size h2.size,fun k hk hn=>(h2.block k (Nat.lt_of_lt_of_le hk h1.size) hn).trans (h1.block k hk hn)⟩
theorem setCell_heap (w : World) (g o : Nat) (v : Value) (old : List Value) (t : TypeId) (fr : Nat × Nat) (hg : w.heap[g]? = some (.cells old.toArray t fr)) : (w.setCell ⟨g,o,none⟩ v).heap[g]? = some (.cells (old.set o v).toArray t fr):=by
  simp [World.setCell,Array.getElem?_modify,hg]
theorem setCells_heap (g : Nat) (t : TypeId) (fr : Nat × Nat) : ∀ (vs : List Value) (o : Nat) (w : World) (old : List Value),w.heap[g]? = some (.cells old.toArray t fr) → (w.setCells g o vs).heap[g]? = some (.cells (puts old o vs).toArray t fr)
  | [],_,_,_,h=>h
  | v :: r,o,w,old,h=>setCells_heap g t fr r (o + 1) _ _ (setCell_heap w g o v old t fr h)
theorem there_box {w : World} {g o : Nat} {old : List Value} {t : TypeId} (hg : w.heap[g]? = some (.cells old.toArray t (0,0))) {n : Nat} (h : o + n ≤ old.length) : w.there g o n:=by
  intro j hj
  have hlt : o + j < old.length:=by omega
  exact ⟨by simp [World.cell?,hg,hlt],by simp [World.frozen?,hg]⟩
theorem run_store (W : World) (g o : Nat) (ty : TypeId) (v : Value) (cs : List Value) (hv : v.cells.toList = cs) (ht : W.there g o cs.length) (hi : (P.info? ty).map (·.size) = some cs.length) (h1 : ∀ u ∈ cs,u.oneCell' = true) :
    (storeVar ty ⟨g,o,none⟩ v).run P W = .ok () (W.setCells g o cs):=by
  have hm:=run_storeVar_mid (P:=P) W g o ty cs.toArray (by simpa using ht) (by simpa using hi) (by rw [← Array.all_toList];simpa [List.all_eq_true] using h1)
  have e : v.cells = cs.toArray:=by rw [← hv]
  unfold storeVar at hm ⊢
  rw [e]
  simpa [Value.cells] using hm
theorem s_store {m : Nat} [hB : BoxAt L g t cs] [hS : Siz P pt m] (hm : Mem w0 W L) (hx : ev E x = some (.pointer (some ⟨g,j,none⟩))) (hy : ev E y = some v) [hv : Cel v ws] (hl : ws.length = m) (h1 : ws.all (·.oneCell') = true)
    [hp : Pts cs j ws cs'] [hr : Rp L (box g t cs) (box g t cs') L'] (h : ∀ W1,Mem w0 W1 L' → WL P n ops Q rest E W1) :
    WL P n ops Q (⟨none,.store pt x y,ty,pos,after,none⟩ :: rest) E W:=by
  obtain ⟨e,hlen⟩:=hp.out
  have hh : (W.setCells g j ws).heap[g]? = some (.cells cs'.toArray t (0,0)):=by rw [← e];exact setCells_heap g t (0,0) ws j W cs hm.heap
  refine s_act (W1:=W.setCells g j ws) rfl rfl (fun a ha=>?_) (h _ (hm.put (cs:=cs) (cs':=cs') hh (grown_setCells g ws j W)))
  have:=run_store (P:=P) W g j pt v ws hv.out (there_box hm.heap hlen) (by rw [hS.out,hl]) (by simpa [List.all_eq_true] using h1)
  simp [execOp,ha.eval hx,ha.eval hy,Instr.storeAt,Instr.sureAddr,this]
theorem ret_cell {fn : Func} {R : Ending → World → Prop} {p m : Nat} [hB : BoxAt L g t cs] [hA : Agg P pt m] (hm : Mem w0 W L) (hf : fn.results = #[.cell p pt]) (hp : look E p = some (.pointer (some ⟨g,0,none⟩))) (hl : cs.length = m) (h : R (.returned (.agg cs.toArray)) W) : WN n .ret (bodyPost P fn R) E W:=⟨fun a ha=>by
  obtain ⟨u,hu,hu2,hi⟩:=hA.out
  exact ⟨ha.defers,_,results_cell_row hf _ _ g t cs.toArray (0,0) u (ha.slots p _ hp) hm.heap hu (by cases u <;> first|rfl|(simp at hu2)) (by rw [hi];simp [hl]),h⟩⟩
end
theorem zerB {P : Program} {t : TypeId} {cs : List Value} (h : ((P.info? t).bind fun i=>i.zero.map fun z=>z.cells.toList) = some cs) : Zer P t cs:=⟨by
  obtain ⟨i,hi,hz⟩:=Option.bind_eq_some_iff.1 h
  obtain ⟨z,hz,hc⟩:=Option.map_eq_some_iff.1 hz
  exact ⟨i,z,hi,hz,hc⟩⟩
def eltOk (P : Program) (e sz bytes : Nat) : Bool :=
  match P.info? e with
  | some i=>(match i.zero with|some z=>z.cells.size == sz|none=>false) && i.size == sz && i.bytes == bytes && Nat.blt 0 sz && Nat.blt 0 bytes
  | none=>false
class Elt (P : Program) (e : Nat) (sz bytes : outParam Nat) : Prop where out : eltOk P e sz bytes = true
theorem eltB {P : Program} {e sz bytes : Nat} (h : eltOk P e sz bytes = true) : Elt P e sz bytes:=⟨h⟩
theorem Elt.spec {P : Program} {e sz bytes : Nat} (h : Elt P e sz bytes) : ∃ i z,P.info? e = some i ∧ i.zero = some z ∧ z.cells.size = sz ∧ i.size = sz ∧ i.bytes = bytes ∧ 0 < sz ∧ 0 < bytes:=by
  have h:=h.out
  unfold eltOk at h
  split at h
  · rename_i i hi
    split at h
    · rename_i z hz
      simp [Nat.blt_eq] at h
      exact ⟨i,z,hi,hz,h.1.1.1.1,h.1.1.1.2,h.1.1.2,h.1.2,h.2⟩
    · simp at h
  · cases h
class Fun (P : Program) (f : Nat) (fn : outParam Func) : Prop where
  out : P.funcs[f]? = some fn
  name : (fn.name == "runtime.NumGoroutine") = false
  body : fn.body.isSome = true
section
variable {P : Program} {n : Nat} {ops : Array Oper} {Q : Exit → Act → World → Prop} {rest : List Oper} {E : Env} {W : World} {d : Nat} {ty : TypeId} {pos : String} {after : Array Edge}
theorem s_fn {f : FuncId} {fn : Func} {as_ : List Operand} {ts : Array TypeId} {vs : List Value} [hf : Fun P f fn] (hvs : evs E as_ = some vs) (hn : Nat.blt d n = true) (h : Calls P f vs.toArray W fun e w=>∃ v,e = .returned v ∧ WL P n ops Q rest ((d,v) :: E) w) :
    WL P n ops Q (⟨some d,.call { callee:=.value (.func f),args:=as_.toArray,argTypes:=ts },ty,pos,after,none⟩ :: rest) E W:=s_call hf.out hf.name hf.body hvs hn h
end
class Lay (P : Program) (t : TypeId) (pl : outParam (List (Nat × Nat))) : Prop where out : ∃ fs,P.underlying t = some (.struct fs) ∧ fs.toList.mapM (fun f=>(P.info? f.type).map fun i=>(f.offset,i.size)) = some pl
theorem layB {P : Program} {t : TypeId} {pl : List (Nat × Nat)} (h : (match P.underlying t with|some (.struct fs)=>fs.toList.mapM (fun f=>(P.info? f.type).map fun i=>(f.offset,i.size))|_=>none) = some pl) : Lay P t pl:=⟨by
  split at h
  · rename_i fs hu;exact ⟨fs,hu,h⟩
  · cases h⟩
class PlAt (pl : List (Nat × Nat)) (i : Nat) (off sz : outParam Nat) : Prop where out : pl[i]? = some (off,sz)
instance PlAt.zero {o s : Nat} {r : List (Nat × Nat)} : PlAt ((o,s) :: r) 0 o s:=⟨rfl⟩
instance PlAt.succ {p : Nat × Nat} {r : List (Nat × Nat)} {i o s : Nat} [h : PlAt r i o s] : PlAt (p :: r) (i + 1) o s:=⟨by rw [List.getElem?_cons_succ];exact h.out⟩
class Len (ws : List Value) (k : outParam Nat) : Prop where out : ws.length = k
instance Len.nil : Len [] 0:=⟨rfl⟩
instance Len.cons {w : Value} {ws : List Value} {k : Nat} [h : Len ws k] : Len (w :: ws) (k + 1):=⟨by rw [List.length_cons,h.out]⟩
class Bld (pl : List (Nat × Nat)) (cs : List Value) (vs : List (Nat × Value)) (cs' : outParam (List Value)) : Prop where out : Instr.fill (pl.toArray[·]?) cs.toArray vs = some cs'.toArray
instance Bld.nil {pl : List (Nat × Nat)} {cs : List Value} : Bld pl cs [] cs:=⟨rfl⟩
theorem fill_puts (ws : List Value) : ∀ (cs : List Value) (off k : Nat),(ws.toArray.zipIdx k).foldl (fun cs (c,j)=>cs.setIfInBounds (off + j) c) cs.toArray = (puts cs (off + k) ws).toArray:=by
  induction ws with
  | nil=>intro cs off k;rfl
  | cons w r ih =>
    intro cs off k
    have h:=ih (cs.set (off + k) w) off (k + 1)
    simp only [puts]
    rw [← Array.foldl_toList] at h ⊢
    simp only [Array.toList_zipIdx,List.zipIdx_cons,List.foldl_cons] at h ⊢
    rw [Nat.add_assoc,← h]
    simp
instance Bld.cons {pl : List (Nat × Nat)} {cs cs1 cs2 ws : List Value} {i off k : Nat} {v : Value} {r : List (Nat × Value)} [h1 : PlAt pl i off k] [h2 : Cel v ws] [h3 : Len ws k] [h4 : Pts cs off ws cs1] [h5 : Bld pl cs1 r cs2] : Bld pl cs ((i,v) :: r) cs2:=⟨by
  have hv : v.cells = ws.toArray:=by rw [← h2.out]
  obtain ⟨e1,e2⟩:=h4.out
  have h6 : pl.toArray[i]? = some (off,k):=by simpa using h1.out
  unfold Instr.fill
  simp only [h6,hv]
  have h7:=h3.out
  rw [if_neg (by simp [h3.out];omega)]
  have:=fill_puts ws cs off 0
  simp only [Nat.add_zero] at this
  rw [this,e1]
  exact h5.out⟩
def evp (E : Env) : List (Nat × Operand) → Option (List (Nat × Value))
  | []=>some []
  | (i,x) :: r=>match ev E x,evp E r with|some v,some vs=>some ((i,v) :: vs)|_,_=>none
theorem Fits.evp {n : Nat} {E : Env} {a : Act} (h : Fits n E a) : ∀ {xs : List (Nat × Operand)} {vs : List (Nat × Value)},Sp.evp E xs = some vs → xs.map (fun p=>(p.1,a.eval p.2)) = vs
  | [],vs,hx=>by cases hx;rfl
  | (i,x) :: r,vs,hx=>by
    unfold Sp.evp at hx
    cases hv : ev E x with
    | none=>simp [hv] at hx
    | some v =>
      cases hvs : Sp.evp E r with
      | none=>simp [hv,hvs] at hx
      | some us =>
        simp only [hv,hvs] at hx
        cases hx
        rw [List.map_cons,h.eval hv,h.evp hvs]
section
variable {P : Program} {n : Nat} {ops : Array Oper} {Q : Exit → Act → World → Prop} {rest : List Oper} {E : Env} {w0 W : World} {L : List Asn} {d : Nat} {ty : TypeId} {pos : String} {after : Array Edge} {t : TypeId}
theorem run_mapM_opt {α β : Type} (g : α → Sem β) (k : α → Option β) (hg : ∀ f b W,k f = some b → (g f).run P W = .ok b W) : ∀ (l : List α) (bs : List β) (W : World),l.mapM k = some bs → (l.mapM g).run P W = .ok bs W
  | [],bs,W,h=>by simp at h;subst h;rfl
  | f :: r,bs,W,h=>by
    rw [List.mapM_cons] at h
    obtain ⟨p,hp,h⟩:=Option.bind_eq_some_iff.1 h
    obtain ⟨q,hq,h⟩:=Option.bind_eq_some_iff.1 h
    have h : some (p :: q) = some bs:=h
    cases h
    rw [List.mapM_cons]
    simp only [Sem.run_bind,hg f p W hp,Result.andThen_ok,run_mapM_opt g k hg r q W hq,Sem.run_pure]
theorem p_build {parts : List (Nat × Operand)} {vs : List (Nat × Value)} {pl : List (Nat × Nat)} {zs cs : List Value} (hv : evp E parts = some vs) [hl : Lay P t pl] [hz : Zer P t zs] [hb : Bld pl zs vs cs] : PV P E (.build t parts.toArray) (.agg cs.toArray) :=
  ⟨fun n a ha dst ty pos after gd W=>by
    obtain ⟨i,z,hi,hzz,hzc⟩:=hz.out
    obtain ⟨fs,hu,hm⟩:=hl.out
    have hzc' : z.cells = zs.toArray:=by rw [← hzc]
    have hk : ∀ g : Field → Sem (Nat × Nat),(∀ f j W,P.info? f.type = some j → (g f).run P W = .ok (f.offset,j.size) W) → (fs.mapM g).run P W = .ok pl.toArray W:=fun g hg=>by
      rw [Array.mapM_eq_mapM_toList]
      simp [run_mapM_opt g (fun f=>(P.info? f.type).map fun i=>(f.offset,i.size)) (fun f b W hb=>by
        obtain ⟨j,hj,rfl⟩:=Option.map_eq_some_iff.1 hb
        exact hg f j W hj) _ _ W hm]
    have hk2:=hk (fun f=>do pure (f.offset,← sizeOf f.type)) (fun f j W hj=>by simp [sizeOf,typeInfo,hj])
    have hp : (parts.toArray.map fun (i,x)=>(i,a.eval x)).toList = vs:=by rw [← ha.evp hv];simp
    show ((Instr.build t (parts.toArray.map fun (i,x)=>(i,a.eval x)) >>= fun v=>pure (Next.value v)) : Sem Next).run P W = _
    have hb2 : (Instr.build t (parts.toArray.map fun (i,x)=>(i,a.eval x))).run P W = .ok (.agg cs.toArray) W:=by
      unfold Instr.build
      simp only [zeroValue,typeInfo,Sem.run_bind,run_program,Result.andThen_ok,hi,Sem.run_pure,hzz,underlying,hu]
      rw [hk2]
      simp only [Result.andThen_ok,hp,hzc',hb.out,Sem.run_pure]
    simp only [Sem.run_bind,hb2,Result.andThen_ok,Sem.run_pure]⟩
end
section
variable {P : Program} {n : Nat} {ops : Array Oper} {Q : Exit → Act → World → Prop} {rest : List Oper} {E : Env} {w0 W : World} {L : List Asn} {d : Nat} {ty : TypeId} {pos : String} {after : Array Edge} {t e sz bytes : Nat} {x : Operand} {v : Value} {ws : List Value}
theorem s_lit1 [hU : Und P t (.slice e)] [hE : Elt P e sz bytes] (hm : Mem w0 W L) (hx : ev E x = some v) (hn : Nat.blt d n = true) (h3 : Nat.ble sz 16777216 = true) [h2 : Cel v ws] [hL : Len ws sz] (h : ∀ g W1,Mem w0 W1 (box g e ws :: L) → WL P n ops Q rest ((d,.slice (some ⟨g,0,none⟩) 1 1) :: E) W1) :
    WL P n ops Q (⟨some d,.buildSlice t 1 #[(0,x)],ty,pos,after,none⟩ :: rest) E W:=by
  obtain ⟨i,z,hi,hz,hzs,hs,hb,hs0,hb0⟩:=hE.spec
  have h3:=Nat.le_of_ble_eq_true h3
  have hv : v.cells = ws.toArray:=by rw [← h2.out]
  refine s_run (W1:=W.alloc (.cells ws.toArray e)) rfl rfl hn (fun a ha=>?_) (h W.heap.size _ (hm.alloc e ws))
  have hfill : ∀ cs : Array Value,cs.size = sz → Instr.fill (fun i=>some (i * sz,sz)) cs [(0,v)] = some ws.toArray:=by
    intro cs hcs
    have hw:=hL.out
    unfold Instr.fill
    simp only [hv,Nat.zero_mul,Nat.zero_add]
    rw [if_neg (by simp [hw,hcs])]
    have h4:=fill_puts ws cs.toList 0 0
    simp only [Nat.zero_add] at h4
    have h5 : ∀ (ws cs : List Value),ws.length = cs.length → puts cs 0 ws = ws:=by
      intro ws
      induction ws with
      | nil=>intro cs h;cases cs with
        | nil=>rfl
        | cons _ _=>simp at h
      | cons w r ih=>intro cs h;cases cs with
        | nil=>simp at h
        | cons c cs=>simp only [puts,List.set_cons_zero];rw [puts_cons,ih cs (by simpa using h)]
    rw [h5 ws cs.toList (by simp [hw,hcs])] at h4
    unfold Instr.fill
    have h6 : cs = cs.toList.toArray:=by simp
    rw [h6]
    exact congrArg some h4
  have hrun : (Instr.buildSlice t 1 #[(0,v)]).run P W = .ok (.slice (some ⟨W.heap.size,0,none⟩) 1 1) (W.alloc (.cells ws.toArray e)):=by
    have hz2 : sz ≠ 0:=by omega
    have h7 : ¬ 16777216 < sz:=by omega
    simp [Instr.buildSlice,underlying,hU.out,sizeOf,typeInfo,hi,hs,zeroValue,hz,hz2,h7,newRow,World.alloc_eq]
    rw [hfill _ (by simp)]
    simp
  simp [execOp,ha.eval hx,hrun]
end
end Go.Proofs.YtampmicahnnebaaGreat.Sp
namespace Go.Proofs.YtampmicahnnebaaGreat.Sp
open Go Go.RowKit
theorem flat_length {sz : Nat} : ∀ {css : List (List Value)},(∀ c ∈ css,c.length = sz) → css.flatten.length = css.length * sz
  | [],_=>by simp
  | c :: r,h=>by
    rw [List.flatten_cons,List.length_append,h c (List.mem_cons_self ..),flat_length (fun x hx=>h x (List.mem_cons_of_mem _ hx)),List.length_cons,Nat.add_mul]
    omega
theorem flat_get {sz : Nat} : ∀ {css : List (List Value)} (i j : Nat),(∀ c ∈ css,c.length = sz) → (hi : i < css.length) → j < sz → css.flatten[i * sz + j]? = (css[i])[j]?
  | [],i,j,_,hi,_=>by simp at hi
  | c :: r,0,j,h,_,hj=>by
    have hc:=h c (List.mem_cons_self ..)
    rw [List.flatten_cons,Nat.zero_mul,Nat.zero_add,List.getElem?_append_left (by omega)]
    rfl
  | c :: r,i + 1,j,h,hi,hj=>by
    have hc:=h c (List.mem_cons_self ..)
    have e : (i + 1) * sz + j = sz + (i * sz + j):=by rw [Nat.add_mul];omega
    rw [List.flatten_cons,e,List.getElem?_append_right (by omega),hc,Nat.add_sub_cancel_left]
    simpa using flat_get i j (fun x hx=>h x (List.mem_cons_of_mem _ hx)) (by simpa using hi) hj
theorem flat_set {sz : Nat} : ∀ {css : List (List Value)} (i j : Nat) (v : Value),(∀ c ∈ css,c.length = sz) → (hi : i < css.length) → j < sz → css.flatten.set (i * sz + j) v = (css.set i ((css[i]).set j v)).flatten
  | [],i,j,v,_,hi,_=>by simp at hi
  | c :: r,0,j,v,h,_,hj=>by
    have hc:=h c (List.mem_cons_self ..)
    rw [List.flatten_cons,Nat.zero_mul,Nat.zero_add,List.set_append_left _ _ (by omega)]
    rfl
  | c :: r,i + 1,j,v,h,hi,hj=>by
    have hc:=h c (List.mem_cons_self ..)
    have e : (i + 1) * sz + j = sz + (i * sz + j):=by rw [Nat.add_mul];omega
    rw [List.flatten_cons,e,List.set_append_right _ _ (by omega),hc,Nat.add_sub_cancel_left,flat_set i j v (fun x hx=>h x (List.mem_cons_of_mem _ hx)) (by simpa using hi) hj]
    rfl
section
variable {α : Type} {d : Ty α} {W : World}
theorem els_get : ∀ {xs : List α} {css : List (List Value)} {ok : Nat → Prop} (i : Nat) (hi : i < xs.length) (hc : i < css.length),SepIn W ok (els d xs css) → ∃ F,(d.A xs[i] css[i]).H W F
  | x :: xs,c :: css,ok,0,_,_,⟨F,_,h,_⟩=>⟨F,h⟩
  | x :: xs,c :: css,ok,i + 1,hi,hc,⟨F,_,_,h⟩=>by simpa using els_get i (by simpa using hi) (by simpa using hc) h
theorem els_len {xs : List α} {css : List (List Value)} {ok : Nat → Prop} (hl : css.length = xs.length) (h : SepIn W ok (els d xs css)) : ∀ c ∈ css,c.length = d.sz:=by
  intro c hc
  obtain ⟨i,hi,rfl⟩:=List.getElem_of_mem hc
  obtain ⟨F,hF⟩:=els_get i (by omega) hi h
  exact d.len hF
theorem els_one {xs : List α} {css : List (List Value)} {ok : Nat → Prop} (hl : css.length = xs.length) (h : SepIn W ok (els d xs css)) : ∀ u ∈ css.flatten,u.oneCell' = true:=by
  intro u hu
  obtain ⟨c,hc,hu⟩:=List.mem_flatten.1 hu
  obtain ⟨i,hi,rfl⟩:=List.getElem_of_mem hc
  obtain ⟨F,hF⟩:=els_get i (by omega) hi h
  exact d.one hF u hu
theorem els_append : ∀ (xs ys : List α) (css dss : List (List Value)),css.length = xs.length → els d (xs ++ ys) (css ++ dss) = els d xs css ++ els d ys dss
  | [],ys,[],dss,_=>rfl
  | x :: xs,ys,c :: css,dss,h=>by
    simp only [List.cons_append,els]
    rw [els_append xs ys css dss (by simpa using h)]
theorem els_perm : ∀ (xs : List α) (css : List (List Value)) (i : Nat) (hi : i < xs.length) (hc : i < css.length),(els d xs css).Perm (d.A xs[i] css[i] :: els d (xs.eraseIdx i) (css.eraseIdx i))
  | x :: xs,c :: css,0,_,_=>List.Perm.refl _
  | x :: xs,c :: css,i + 1,hi,hc=>(List.Perm.cons _ (els_perm xs css i (by simpa using hi) (by simpa using hc))).trans (List.Perm.swap ..)
theorem erase_set {β : Type} (l : List β) (i : Nat) (b : β) : (l.set i b).eraseIdx i = l.eraseIdx i:=by
  induction l generalizing i with
  | nil=>rfl
  | cons a r ih=>cases i with
    | zero=>rfl
    | succ i=>simp [ih]
theorem els_put (xs : List α) (css : List (List Value)) (i : Nat) (hi : i < xs.length) (hc : i < css.length) (x : α) (c : List Value) : (d.A x c :: els d (xs.eraseIdx i) (css.eraseIdx i)).Perm (els d (xs.set i x) (css.set i c)):=by
  have:=els_perm (d:=d) (xs.set i x) (css.set i c) i (by simpa using hi) (by simpa using hc)
  rw [erase_set,erase_set] at this
  simpa using this.symm
end
section
variable {α : Type} {d : Ty α} {e c : Nat} {A : Option Addr} {xs : List α} {w0 W W1 : World} {L L' R : List Asn}
theorem Mem.own [h : OwnAt L A c α d e xs] (hm : Mem w0 W L) : ∃ F,(own d e A c xs).H W F:=by
  obtain ⟨R,hp⟩:=h.mem
  obtain ⟨F,_,h2,_⟩:=(hm.perm hp).sep
  exact ⟨F,h2⟩
theorem own_addr {F : Nat → Prop} (h : (own d e A c xs).H W F) (hl : 0 < xs.length) : A = some (adr A) ∧ ∃ g,adr A = ⟨g,0,none⟩ ∧ F g:=by
  obtain ⟨css,_,G,h1,⟨⟨_,h2⟩,h4⟩,h3⟩:=h
  rcases h2 with ⟨_,h0⟩|⟨g,cap,cur,he,_⟩
  · omega
  · injection he with he
    subst he
    exact ⟨rfl,g,rfl,h1 g (h4 g rfl)⟩
theorem own_max {F : Nat → Prop} (h : (own d e A c xs).H W F) : xs.length ≤ 9223372036854775807 ∧ xs.length ≤ c:=by
  obtain ⟨css,_,G,h1,⟨⟨_,h2⟩,h4⟩,h3⟩:=h
  rcases h2 with ⟨he,h0⟩|⟨g,cap,cur,he,_,_,h5,h6,_⟩
  · injection he with _ _ e;omega
  · injection he with _ _ e;subst e;unfold maxLen at h6;omega
theorem own_cell {F : Nat → Prop} (h : (own d e A c xs).H W F) (i : Int) (h0 : 0 ≤ i) (h1 : i < xs.length) {j : Nat} {v : Value} (hv : d.get (rd d xs i) j = some v) : W.cell? ((adr A).add (i.toNat * d.sz + j)) = some v:=by
  obtain ⟨_,g,hg,_⟩:=own_addr h (by omega)
  have hA:=(own_addr h (by omega)).1
  obtain ⟨css,hl,G,h2,⟨ho,h4⟩,h3⟩:=h
  have hi : i.toNat < xs.length:=by omega
  have hr : rd d xs i = xs[i.toNat]:=by unfold rd;rw [List.getD_eq_getElem?_getD,List.getElem?_eq_getElem hi];rfl
  obtain ⟨G2,h5⟩:=els_get i.toNat hi (by omega) h3
  rw [hr] at hv
  have h6:=d.get_ok h5 hv
  have hj : j < d.sz:=by rw [← d.len h5];exact (List.getElem?_eq_some_iff.1 h6).1
  have h7:=flat_get i.toNat j (els_len hl h3) (by omega) hj
  rw [hg]
  refine ho.cells (g:=g) (by rw [hA,hg];rfl) _ v ?_
  rw [h7];exact h6
theorem own_set {F : Nat → Prop} (h : (own d e A c xs).H W F) (i : Int) (h0 : 0 ≤ i) (h1 : i < xs.length) {j : Nat} {v : Value} {x' : α} (hv : d.set (rd d xs i) j v = some x') :
    ∃ g,adr A = ⟨g,0,none⟩ ∧ F g ∧ (∃ u,W.cell? ⟨g,i.toNat * d.sz + j,none⟩ = some u) ∧ W.frozen? ⟨g,i.toNat * d.sz + j,none⟩ = false ∧ v.oneCell' = true ∧ W.grownBy (W.setCell ⟨g,i.toNat * d.sz + j,none⟩ v) (some g) ∧ (own d e A c (xs.set i.toNat x')).H (W.setCell ⟨g,i.toNat * d.sz + j,none⟩ v) F:=by
  obtain ⟨hA,g,hg,hFg⟩:=own_addr h (by omega)
  obtain ⟨css,hl,G,h2,⟨ho,h4⟩,h3⟩:=h
  rw [hg] at hA
  subst hA
  have hi : i.toNat < xs.length:=by omega
  have hr : rd d xs i = xs[i.toNat]:=by unfold rd;rw [List.getD_eq_getElem?_getD,List.getElem?_eq_getElem hi];rfl
  rw [hr] at hv
  obtain ⟨K,k1,k2,k3⟩:=h3.perm (els_perm xs css i.toNat hi (by omega))
  obtain ⟨h5,hj,hone⟩:=d.set_ok k2 hv
  have hlen:=els_len hl h3
  have hlt : i.toNat * d.sz + j < xs.length * d.sz:=by
    have : (i.toNat + 1) * d.sz ≤ xs.length * d.sz:=Nat.mul_le_mul_right _ hi
    rw [Nat.add_mul] at this
    omega
  obtain ⟨ho1,hgr⟩:=ho.stored (i.toNat * d.sz + j) v
  have hcell:=ho.cellAt (i.toNat * d.sz + j) hlt
  refine ⟨g,hg,hFg,⟨_,by rw [hcell];exact List.getElem?_eq_getElem (by rw [flat_length hlen,hl];exact hlt)⟩,?_,hone,hgr,?_⟩
  · rcases ho.2 with ⟨hh,_⟩|⟨g',cap,cur,hh,_,hc,_⟩
    · cases hh
    · injection hh with hh;injection hh with hh;injection hh with hh
      subst hh
      simp [World.frozen?,hc]
  · refine ⟨css.set i.toNat ((css[i.toNat]'(by omega)).set j v),by simp [hl],G,h2,⟨?_,h4⟩,?_⟩
    · rw [List.length_set,← flat_set i.toNat j v hlen (by omega) hj]
      exact ho1
    · refine SepIn.perm (els_put xs css i.toNat hi (by omega) x' _) ?_
      have hGg : G g:=h4 g rfl
      refine ⟨K,k1,?_,?_⟩
      · exact (d.A x' _).move (fun k hk _=>Below.heap_setCell _ _ _ k (fun e=>(k1 k hk).2 (e ▸ hGg))) h5
      · exact k3.move (fun k hk _=>Below.heap_setCell _ _ _ k (fun e=>hk.1.2 (e ▸ hGg)))
end
theorem rd_at {α : Type} {d : Ty α} {xs : List α} {i : Nat} (h : i < xs.length) : rd d xs (i : Int) = xs[i]:=by
  simp [rd,List.getD_eq_getElem?_getD,h]
def rp (A : Option Addr) (i : Int) (sz j : Nat) : Addr:=(adr A).add (i.toNat * sz + j)
section
variable {P : Program} {n : Nat} {ops : Array Oper} {Q : Exit → Act → World → Prop} {rest : List Oper} {E : Env} {w0 W : World} {L L' R : List Asn}
variable {d : Nat} {ty pt st : TypeId} {pos : String} {after : Array Edge} {x y : Operand} {v : Value} {e sz j c l : Nat} {A : Option Addr} {i : Int} {k : IntKind} {α : Type} {D : Ty α} {xs : List α}
theorem p_indexo [hU : Und P st (.slice e)] [hS : Siz P e sz] [hO : OwnAt L A c α D e xs] (hm : Mem w0 W L) (hx : ev E x = some (.slice A l c)) (hl : l = xs.length) (hy : ev E y = some (.int k i)) (h0 : 0 ≤ i) (h1 : i < xs.length) : PV P E (.indexAddr st x y) (.pointer (some (rp A i sz 0))):=by
  obtain ⟨F,hF⟩:=hm.own (A:=A) (c:=c)
  exact p_index hx (own_addr hF (by omega)).1 hy h0 (by omega)
theorem p_fieldo {f q j' : Nat} [hF : FAt P st f q] (hx : ev E x = some (.pointer (some (rp A i sz j)))) (hj : j + q = j') : PV P E (.fieldAddr st x f) (.pointer (some (rp A i sz j'))) :=
  p_fieldr (j:=i.toNat * sz + j) (c:=q) (ad:=adr A) (j':=i.toNat * sz + j') hx (by omega)
theorem p_loado [hO : OwnAt L A c α D e xs] [h1c : One P pt] (hx : ev E x = some (.pointer (some (rp A i sz j)))) (hs : sz = D.sz) (h0 : 0 ≤ i) (h1 : i < xs.length) (hv : D.get (rd D xs i) j = some v) : LV P E w0 L (.load pt x) v :=
  ⟨fun W hm n a ha dst ty pos after gd=>by
    obtain ⟨F,hF⟩:=hm.own (A:=A) (c:=c)
    obtain ⟨u,hu,hu2⟩:=h1c.out
    subst hs
    have hc:=own_cell hF i h0 h1 hv
    have hl : (loadVar pt ((adr A).add (i.toNat * D.sz + j))).run P W = .ok v W:=by
      unfold loadVar isAgg
      cases u <;> simp_all [underlying,load,Sem.run]
    simp [execOp,ha.eval hx,Instr.loadAt,Instr.sureAddr,rp,hl]⟩
class Flat {α : Type} (D : Ty α) (enc : outParam (α → List Value)) : Prop where out : ∀ {x c W F},(D.A x c).H W F → c = enc x
theorem own_cells {enc : α → List Value} [hf : Flat D enc] {F : Nat → Prop} {W : World} (h : (own D e A c xs).H W F) (i : Int) (h0 : 0 ≤ i) (h1 : i < xs.length) : (enc (rd D xs i)).length = D.sz ∧ ∀ j v,(enc (rd D xs i))[j]? = some v → W.cell? ((adr A).add (i.toNat * D.sz + j)) = some v:=by
  obtain ⟨_,g,hg,_⟩:=own_addr h (by omega)
  have hA:=(own_addr h (by omega)).1
  obtain ⟨css,hl,G,h2,⟨ho,h4⟩,h3⟩:=h
  have hi : i.toNat < xs.length:=by omega
  have hr : rd D xs i = xs[i.toNat]:=by unfold rd;rw [List.getD_eq_getElem?_getD,List.getElem?_eq_getElem hi];rfl
  obtain ⟨G2,h5⟩:=els_get i.toNat hi (by omega) h3
  have h6:=hf.out h5
  have h7:=D.len h5
  rw [hr,← h6]
  refine ⟨h7,fun j v hv=>?_⟩
  have hj : j < D.sz:=by rw [← h7];exact (List.getElem?_eq_some_iff.1 hv).1
  rw [hg]
  refine ho.cells (g:=g) (by rw [hA,hg];rfl) _ v ?_
  rw [flat_get i.toNat j (els_len hl h3) (by omega) hj];exact hv
theorem own_addr0 {F : Nat → Prop} {W : World} (h : (own D e A c xs).H W F) (hl : 0 < xs.length) : ∃ g,adr A = ⟨g,0,none⟩:=by
  obtain ⟨_,g,hg,_⟩:=own_addr h hl
  exact ⟨g,hg⟩
theorem p_loadwo {m : Nat} {enc : α → List Value} [hO : OwnAt L A c α D e xs] [hA : Agg P pt m] [hf : Flat D enc] (hx : ev E x = some (.pointer (some (rp A i sz 0)))) (hs : sz = D.sz) (hm : m = D.sz) (h0 : 0 ≤ i) (h1 : i < xs.length) : LV P E w0 L (.load pt x) (.agg (enc (rd D xs i)).toArray) :=
  ⟨fun W hmem n a ha dst ty pos after gd=>by
    obtain ⟨F,hF⟩:=hmem.own (A:=A) (c:=c)
    obtain ⟨u,hu,hu2,hi⟩:=hA.out
    subst hs hm
    obtain ⟨hl,hc⟩:=own_cells hF i h0 h1
    obtain ⟨g,hg⟩:=own_addr0 hF (by omega)
    have hr : W.rangeAt g (i.toNat * D.sz) (enc (rd D xs i)):=by
      intro j z hz
      have:=hc j z hz
      rwa [hg,add_plain,Nat.zero_add] at this
    have h3:=run_loadVar_mid (P:=P) W g (i.toNat * D.sz) pt _ u hr hu (by cases u <;> simp_all [TypeDesc.isRow]) (by rw [hi,hl])
    simp [execOp,ha.eval hx,Instr.loadAt,Instr.sureAddr,rp,hg,add_plain,h3]⟩
theorem s_storeo {x' : α} [hO : OwnAt L A c α D e xs] [hS : Siz P pt 1] (hm : Mem w0 W L) (hx : ev E x = some (.pointer (some (rp A i sz j)))) (hy : ev E y = some v) (hs : sz = D.sz) (h0 : 0 ≤ i) (h1 : i < xs.length) (hv : D.set (rd D xs i) j v = some x')
    [hr : Rp L (own D e A c xs) (own D e A c (xs.set i.toNat x')) L'] (h : ∀ W1,Mem w0 W1 L' → WL P n ops Q rest E W1) :
    WL P n ops Q (⟨none,.store pt x y,ty,pos,after,none⟩ :: rest) E W:=by
  obtain ⟨F,hF⟩:=hm.own (A:=A) (c:=c)
  subst hs
  obtain ⟨g,hg,hFg,⟨u,hu⟩,hfz,hone,hgr,hown⟩:=own_set hF i h0 h1 hv
  have ht : W.there g (i.toNat * D.sz + j) 1:=fun m hm1=>by
    obtain rfl : m = 0:=by omega
    exact ⟨by simp [hu],hfz⟩
  have hvc : v.cells.toList = [v]:=by cases v <;> first|rfl|cases hone
  have hrun:=run_store (P:=P) W g (i.toNat * D.sz + j) pt v [v] hvc ht (by rw [hS.out];rfl) (by simpa using hone)
  obtain ⟨R,p1,p2⟩:=hr.out
  refine s_act (W1:=W.setCells g (i.toNat * D.sz + j) [v]) rfl rfl (fun a ha=>?_) (h _ (Mem.perm (L:=own D e A c (xs.set i.toNat x') :: R) ?_ p2.symm))
  · simp [execOp,ha.eval hx,ha.eval hy,Instr.storeAt,Instr.sureAddr,rp,hg,add_plain,hrun]
  · refine (hm.perm p1).turn1 (fun F2 hF2 hA=>?_)
    obtain ⟨g',hg',hFg',_,_,_,hgr',hown'⟩:=own_set hA i h0 h1 hv
    have : g' = g:=by rw [hg] at hg';injection hg' with h;exact h.symm
    subst this
    exact ⟨hgr'.os,hgr'.tape,hgr'.output,hgr'.size,fun k hk hn=>hgr'.block k hk (fun e=>hn (Option.some.inj e ▸ hFg')),(own D e A c _).mono (fun k hk=>.inl hk) hown'⟩
end
class MkIn {α : Type} (L : List Asn) (D : Ty α) (ws : List Value) (x : outParam α) (L' : outParam (List Asn)) : Prop where out : ∀ (W : World) (ok : Nat → Prop),SepIn W ok L → SepIn W ok (D.A x ws :: L')
class OwnE (L : List Asn) (A : Option Addr) (e : Nat) (c : outParam Nat) (α : outParam Type) (d : outParam (Ty α)) (xs : outParam (List α)) : Prop where tr : True
instance OwnE.here {α : Type} {d : Ty α} {e : Nat} {A : Option Addr} {c : Nat} {xs : List α} {L : List Asn} : OwnE (own d e A c xs :: L) A e c α d xs:=⟨trivial⟩
instance (priority:=low) OwnE.there {α : Type} {d : Ty α} {e : Nat} {A : Option Addr} {c : Nat} {xs : List α} {L : List Asn} {B : Asn} [h : OwnE L A e c α d xs] : OwnE (B :: L) A e c α d xs:=⟨trivial⟩
section
variable {w0 W : World} {L R : List Asn} {α : Type} {D : Ty α} {e c : Nat} {A : Option Addr} {xs : List α}
theorem Mem.two {A B : Asn} (h : Mem w0 W (A :: B :: L)) : Mem w0 W (exP (fun _ : Unit=>True) (fun _=>[A,B]) :: L):=Mem.mkx () trivial h
theorem own_nil {F : Nat → Prop} (D : Ty α) (e : Nat) : (own D e none 0 []).H W F:=⟨[],rfl,fun _=>False,fun _ h=>h.elim,⟨⟨by simp,.inl ⟨rfl,rfl⟩⟩,fun k hk=>by cases hk⟩,trivial⟩
theorem Mem.nil (h : Mem w0 W L) (D : Ty α) (e : Nat) : Mem w0 W (Sp.own D e none 0 [] :: L):=⟨h.below,fun _=>False,fun _ h=>h.elim,own_nil D e,h.sep.mono (fun k hk=>⟨hk,fun h=>h⟩)⟩
end
section
variable {P : Program} {n : Nat} {ops : Array Oper} {Q : Exit → Act → World → Prop} {rest : List Oper} {E : Env} {w0 W : World} {L L' R R1 R2 R3 : List Asn}
variable {d : Nat} {ty st : TypeId} {pos : String} {after : Array Edge} {x y : Operand} {e sz bytes c l g t : Nat} {A : Option Addr} {α : Type} {D : Ty α} {xs : List α} {x1 : α} {ws : List Value}
theorem run_append1 [hU : Und P st (.slice e)] [hE : Elt P e sz bytes] (hm : Mem w0 W (own D e A c xs :: D.A x1 ws :: R)) (hs : sz = D.sz) (g : Nat) (hg : W.heap[g]? = some (.cells ws.toArray e (0,0))) (hlim : (xs.length + 1) * bytes ≤ 140737488355328) (ty : TypeId) :
    ∃ A1 c1 W1,(Builtin.append_ #[st,st] ty #[.slice A xs.length c,.slice (some ⟨g,0,none⟩) 1 1]).run P W = .ok (.slice A1 (xs ++ [x1]).length c1) W1 ∧ Mem w0 W1 (own D e A1 c1 (xs ++ [x1]) :: R):=by
  obtain ⟨i0,z,hi,hz,hzs,hs1,hb1,hs0,hb0⟩:=hE.spec
  subst hs
  obtain ⟨F,hF,⟨_,_,F1,h1,⟨css,hl,G,h2,⟨ho,h4⟩,h3⟩,F2,h5,h6,_⟩,key⟩:=hm.two.split
  have hws:=D.len h6
  have hlen : xs.length + 1 ≤ 140737488355328:=Nat.le_trans (Nat.le_mul_of_pos_right _ hb0) hlim
  obtain ⟨v1,W1,hrun,hown,hgr,_,hat⟩:=run_append_own_at (P:=P) (w:=W) 0 st ty e i0 z D.sz bytes hU.out hi hz hs1 hb1 hzs (by omega) (.slice A xs.length c) xs.length css.flatten ho ⟨g,0,none⟩ 1 1 ws (by rw [hws];simp)
    (by simpa using World.news_of_block (cs:=ws.toArray) (t:=e) (fr:=(0,0)) hg) (D.one h6) (by simp only [maxLen];omega) hlim (Nat.zero_le _)
  obtain ⟨hl1,hh⟩:=hown
  rcases hh with ⟨_,h0⟩|⟨g1,cap,cur,rfl,hb,hc,h7,h8,h9,h10⟩
  · omega
  refine ⟨some ⟨g1,0,none⟩,cap,W1,by simpa using hrun,?_⟩
  have hgF : (Value.slice A xs.length c).ownBlock = some g1 ∨ g1 = W.heap.size:=by
    rcases hat with hat|hat
    · exact .inl hat.symm
    · right;simpa [Value.ownBlock] using hat
  refine key W1 [own D e (some ⟨g1,0,none⟩) cap (xs ++ [x1])] hgr.os hgr.tape hgr.output hgr.size (fun k hk hn=>hgr.block k hk (fun e=>hn (h1 k (h2 k (h4 k e.symm))))) ?_
  refine ⟨_,fun _ h=>h,⟨css ++ [ws],by simp [hl],fun k=>k = g1,fun k hk=>?_,⟨?_,fun k hk=>?_⟩,?_⟩,trivial⟩
  · subst hk
    rcases hgF with h|h
    · exact .inl (h1 _ (h2 _ (h4 _ h)))
    · exact .inr (by omega)
  · refine ⟨by simpa using hl1,.inr ⟨g1,cap,cur,by simp,Nat.zero_le _,hc,by simpa using h7,h8,h9,by simpa using h10⟩⟩
  · simpa [Value.ownBlock] using hk.symm
  · rw [els_append xs [x1] css [ws] hl]
    have hnew : ∀ k,k < W.heap.size → ¬ G k → k ≠ g1:=fun k hk hnG e=>by
      subst e
      rcases hgF with h|h
      · exact hnG (h4 _ h)
      · omega
    have hsame : ∀ k,k < W.heap.size → ¬ G k → W1.heap[k]? = W.heap[k]?:=fun k hk hnG=>hgr.block k hk (fun e=>hnG (h4 k e.symm))
    refine SepIn.join (F:=fun k=>(F1 k ∧ ¬ G k) ∧ k < W.heap.size) (fun k hk=>⟨.inl (h1 k hk.1.1),hnew k hk.2 hk.1.2⟩) (h3.bound.move (fun k hk _=>hsame k hk.2 hk.1.2)) ?_
    refine ⟨fun k=>F2 k ∧ k < W.heap.size,fun k hk=>⟨⟨.inl (h5 k hk.1).1,hnew k hk.2 (fun hg=>(h5 k hk.1).2 (h2 k hg))⟩,fun hf=>(h5 k hk.1).2 hf.1.1⟩,?_,trivial⟩
    exact (D.A x1 ws).move (fun k hk _=>hsame k hk.2 (fun hg=>(h5 k hk.1).2 (h2 k hg))) ((D.A x1 ws).bound h6)
theorem s_append1 [hU : Und P st (.slice e)] [hE : Elt P e sz bytes] {t2 : Nat} (hm : Mem w0 W L) (hx : ev E x = some (.slice A l c)) (hy : ev E y = some (.slice (some ⟨g,0,none⟩) 1 1)) [hO : OwnE L A e c α D xs] (hl : l = xs.length) (hs : sz = D.sz) [hB : BoxAt L g t2 ws] (ht : t2 = e) [hp : Pk L (own D e A c xs) R1] [hb : Pk R1 (box g t2 ws) R2] [hk : MkIn R2 D ws x1 R3]
    (hlim : (xs.length + 1) * bytes ≤ 140737488355328) (hn : Nat.blt d n = true) (h : ∀ A1 c1 W1,Mem w0 W1 (own D e A1 c1 (xs ++ [x1]) :: R3) → WL P n ops Q rest ((d,.slice A1 (xs ++ [x1]).length c1) :: E) W1) :
    WL P n ops Q (⟨some d,.call { callee:=.builtin .append,args:=#[x,y],argTypes:=#[st,st] },ty,pos,after,none⟩ :: rest) E W:=by
  subst ht hl
  have hg:=hm.heap (g:=g)
  have hm2 : Mem w0 W (own D t2 A c xs :: D.A x1 ws :: R3):=by
    have h1 : Mem w0 W (box g t2 ws :: own D t2 A c xs :: R2):=(hm.pk (A:=own D t2 A c xs)).perm ((List.Perm.cons _ hb.out).trans (List.Perm.swap _ _ _))
    have h2 : Mem w0 W (own D t2 A c xs :: R2):=h1.drop
    obtain ⟨hbel,F,f1,f2,f3⟩:=h2
    exact ⟨hbel,F,f1,f2,hk.out _ _ f3⟩
  obtain ⟨A1,c1,W1,hrun,hm3⟩:=run_append1 (P:=P) (st:=st) hm2 hs g hg hlim ty
  exact s_run (W1:=W1) rfl rfl hn (fun a ha=>by simp [execOp,ha.eval hx,ha.eval hy,resolve,invoke,builtin,hrun]) (h A1 c1 W1 hm3)
end
end Go.Proofs.YtampmicahnnebaaGreat.Sp
namespace Go.Proofs.YtampmicahnnebaaGreat.Sp
open Go Go.RowKit
instance : Und Tryz.prog 3 (.int .i64):=⟨by kernel_rfl⟩
instance : One Tryz.prog 3:=⟨_,Und.out,rfl⟩
instance : Siz Tryz.prog 3 1:=⟨by kernel_rfl⟩
instance : Zer Tryz.prog 3 [.int .i64 0]:=zerB (by kernel_rfl)
instance : Elt Tryz.prog 3 1 8:=eltB (by kernel_rfl)
instance : Und Tryz.prog 4 (.bool):=⟨by kernel_rfl⟩
instance : One Tryz.prog 4:=⟨_,Und.out,rfl⟩
instance : Siz Tryz.prog 4 1:=⟨by kernel_rfl⟩
instance : Zer Tryz.prog 4 [.bool false]:=zerB (by kernel_rfl)
instance : Elt Tryz.prog 4 1 1:=eltB (by kernel_rfl)
instance : Und Tryz.prog 5 (.int .u8):=⟨by kernel_rfl⟩
instance : One Tryz.prog 5:=⟨_,Und.out,rfl⟩
instance : Siz Tryz.prog 5 1:=⟨by kernel_rfl⟩
instance : Zer Tryz.prog 5 [.int .u8 0]:=zerB (by kernel_rfl)
instance : Elt Tryz.prog 5 1 1:=eltB (by kernel_rfl)
instance : Und Tryz.prog 9 (.string):=⟨by kernel_rfl⟩
instance : One Tryz.prog 9:=⟨_,Und.out,rfl⟩
instance : Siz Tryz.prog 9 1:=⟨by kernel_rfl⟩
instance : Zer Tryz.prog 9 [.string ⟨#[]⟩]:=zerB (by kernel_rfl)
instance : Elt Tryz.prog 9 1 16:=eltB (by kernel_rfl)
instance : Und Tryz.prog 22 (.slice 5):=⟨by kernel_rfl⟩
instance : One Tryz.prog 22:=⟨_,Und.out,rfl⟩
instance : Siz Tryz.prog 22 1:=⟨by kernel_rfl⟩
instance : Zer Tryz.prog 22 [.slice none 0 0]:=zerB (by kernel_rfl)
instance : Elt Tryz.prog 22 1 24:=eltB (by kernel_rfl)
instance : Und Tryz.prog 23 (.slice 91):=⟨by kernel_rfl⟩
instance : One Tryz.prog 23:=⟨_,Und.out,rfl⟩
instance : Siz Tryz.prog 23 1:=⟨by kernel_rfl⟩
instance : Zer Tryz.prog 23 [.slice none 0 0]:=zerB (by kernel_rfl)
instance : Elt Tryz.prog 23 1 24:=eltB (by kernel_rfl)
instance : Siz Tryz.prog 25 3:=⟨by kernel_rfl⟩
instance : Agg Tryz.prog 25 3:=⟨_,Tryz.underlying25,rfl,Siz.out⟩
instance : Lay Tryz.prog 25 [(0,1),(1,1),(2,1)]:=layB (by kernel_rfl)
instance : FAt Tryz.prog 25 0 0:=⟨by kernel_rfl⟩
instance : FAt Tryz.prog 25 1 1:=⟨by kernel_rfl⟩
instance : FAt Tryz.prog 25 2 2:=⟨by kernel_rfl⟩
instance : Zer Tryz.prog 25 [.int .i64 0,.int .i64 0,.slice none 0 0]:=zerB (by kernel_rfl)
instance : Elt Tryz.prog 25 3 40:=eltB (by kernel_rfl)
instance : Und Tryz.prog 26 (.slice 40):=⟨by kernel_rfl⟩
instance : One Tryz.prog 26:=⟨_,Und.out,rfl⟩
instance : Siz Tryz.prog 26 1:=⟨by kernel_rfl⟩
instance : Zer Tryz.prog 26 [.slice none 0 0]:=zerB (by kernel_rfl)
instance : Elt Tryz.prog 26 1 24:=eltB (by kernel_rfl)
instance : Und Tryz.prog 27 (.slice 9):=⟨by kernel_rfl⟩
instance : One Tryz.prog 27:=⟨_,Und.out,rfl⟩
instance : Siz Tryz.prog 27 1:=⟨by kernel_rfl⟩
instance : Zer Tryz.prog 27 [.slice none 0 0]:=zerB (by kernel_rfl)
instance : Elt Tryz.prog 27 1 24:=eltB (by kernel_rfl)
instance : Und Tryz.prog 28 (.slice 3):=⟨by kernel_rfl⟩
instance : One Tryz.prog 28:=⟨_,Und.out,rfl⟩
instance : Siz Tryz.prog 28 1:=⟨by kernel_rfl⟩
instance : Zer Tryz.prog 28 [.slice none 0 0]:=zerB (by kernel_rfl)
instance : Elt Tryz.prog 28 1 24:=eltB (by kernel_rfl)
instance : Und Tryz.prog 29 (.slice 66):=⟨by kernel_rfl⟩
instance : One Tryz.prog 29:=⟨_,Und.out,rfl⟩
instance : Siz Tryz.prog 29 1:=⟨by kernel_rfl⟩
instance : Zer Tryz.prog 29 [.slice none 0 0]:=zerB (by kernel_rfl)
instance : Elt Tryz.prog 29 1 24:=eltB (by kernel_rfl)
instance : Siz Tryz.prog 31 18:=⟨by kernel_rfl⟩
instance : Agg Tryz.prog 31 18:=⟨_,Tryz.underlying31,rfl,Siz.out⟩
instance : Lay Tryz.prog 31 [(0,1),(1,1),(2,1),(3,3),(6,3),(9,1),(10,1),(11,1),(12,1),(13,1),(14,1),(15,1),(16,1),(17,1)]:=layB (by kernel_rfl)
instance : FAt Tryz.prog 31 0 0:=⟨by kernel_rfl⟩
instance : FAt Tryz.prog 31 1 1:=⟨by kernel_rfl⟩
instance : FAt Tryz.prog 31 2 2:=⟨by kernel_rfl⟩
instance : FAt Tryz.prog 31 3 3:=⟨by kernel_rfl⟩
instance : FAt Tryz.prog 31 4 6:=⟨by kernel_rfl⟩
instance : FAt Tryz.prog 31 5 9:=⟨by kernel_rfl⟩
instance : FAt Tryz.prog 31 6 10:=⟨by kernel_rfl⟩
instance : FAt Tryz.prog 31 7 11:=⟨by kernel_rfl⟩
instance : FAt Tryz.prog 31 8 12:=⟨by kernel_rfl⟩
instance : FAt Tryz.prog 31 9 13:=⟨by kernel_rfl⟩
instance : FAt Tryz.prog 31 10 14:=⟨by kernel_rfl⟩
instance : FAt Tryz.prog 31 11 15:=⟨by kernel_rfl⟩
instance : FAt Tryz.prog 31 12 16:=⟨by kernel_rfl⟩
instance : FAt Tryz.prog 31 13 17:=⟨by kernel_rfl⟩
instance : Zer Tryz.prog 31 [.int .i64 0,.int .i64 0,.bool false,.int .i64 0,.int .i64 0,.slice none 0 0,.int .i64 0,.int .i64 0,.slice none 0 0,.slice none 0 0,.slice none 0 0,.bool false,.bool false,.int .i64 0,.slice none 0 0,.slice none 0 0,.slice none 0 0,.int .i64 0]:=zerB (by kernel_rfl)
instance : Elt Tryz.prog 31 18 248:=eltB (by kernel_rfl)
instance : Siz Tryz.prog 40 8:=⟨by kernel_rfl⟩
instance : Agg Tryz.prog 40 8:=⟨_,Tryz.underlying40,rfl,Siz.out⟩
instance : Lay Tryz.prog 40 [(0,1),(1,1),(2,1),(3,1),(4,1),(5,1),(6,1),(7,1)]:=layB (by kernel_rfl)
instance : FAt Tryz.prog 40 0 0:=⟨by kernel_rfl⟩
instance : FAt Tryz.prog 40 1 1:=⟨by kernel_rfl⟩
instance : FAt Tryz.prog 40 2 2:=⟨by kernel_rfl⟩
instance : FAt Tryz.prog 40 3 3:=⟨by kernel_rfl⟩
instance : FAt Tryz.prog 40 4 4:=⟨by kernel_rfl⟩
instance : FAt Tryz.prog 40 5 5:=⟨by kernel_rfl⟩
instance : FAt Tryz.prog 40 6 6:=⟨by kernel_rfl⟩
instance : FAt Tryz.prog 40 7 7:=⟨by kernel_rfl⟩
instance : Zer Tryz.prog 40 [.int .i64 0,.int .i64 0,.int .i64 0,.int .i64 0,.int .i64 0,.int .i64 0,.string ⟨#[]⟩,.slice none 0 0]:=zerB (by kernel_rfl)
instance : Elt Tryz.prog 40 8 88:=eltB (by kernel_rfl)
instance : Und Tryz.prog 48 (.pointer 88):=⟨by kernel_rfl⟩
instance : One Tryz.prog 48:=⟨_,Und.out,rfl⟩
instance : Siz Tryz.prog 48 1:=⟨by kernel_rfl⟩
instance : Zer Tryz.prog 48 [.pointer none]:=zerB (by kernel_rfl)
instance : Elt Tryz.prog 48 1 8:=eltB (by kernel_rfl)
instance : Siz Tryz.prog 66 2:=⟨by kernel_rfl⟩
instance : Agg Tryz.prog 66 2:=⟨_,Tryz.underlying66,rfl,Siz.out⟩
instance : Lay Tryz.prog 66 [(0,1),(1,1)]:=layB (by kernel_rfl)
instance : FAt Tryz.prog 66 0 0:=⟨by kernel_rfl⟩
instance : FAt Tryz.prog 66 1 1:=⟨by kernel_rfl⟩
instance : Zer Tryz.prog 66 [.int .i64 0,.slice none 0 0]:=zerB (by kernel_rfl)
instance : Elt Tryz.prog 66 2 32:=eltB (by kernel_rfl)
instance : Und Tryz.prog 75 (.slice 31):=⟨by kernel_rfl⟩
instance : One Tryz.prog 75:=⟨_,Und.out,rfl⟩
instance : Siz Tryz.prog 75 1:=⟨by kernel_rfl⟩
instance : Zer Tryz.prog 75 [.slice none 0 0]:=zerB (by kernel_rfl)
instance : Elt Tryz.prog 75 1 24:=eltB (by kernel_rfl)
instance : Und Tryz.prog 76 (.slice 134):=⟨by kernel_rfl⟩
instance : One Tryz.prog 76:=⟨_,Und.out,rfl⟩
instance : Siz Tryz.prog 76 1:=⟨by kernel_rfl⟩
instance : Zer Tryz.prog 76 [.slice none 0 0]:=zerB (by kernel_rfl)
instance : Elt Tryz.prog 76 1 24:=eltB (by kernel_rfl)
instance : Siz Tryz.prog 78 3:=⟨by kernel_rfl⟩
instance : Agg Tryz.prog 78 3:=⟨_,Tryz.underlying78,rfl,Siz.out⟩
instance : Lay Tryz.prog 78 [(0,1),(1,1),(2,1)]:=layB (by kernel_rfl)
instance : FAt Tryz.prog 78 0 0:=⟨by kernel_rfl⟩
instance : FAt Tryz.prog 78 1 1:=⟨by kernel_rfl⟩
instance : FAt Tryz.prog 78 2 2:=⟨by kernel_rfl⟩
instance : Zer Tryz.prog 78 [.slice none 0 0,.slice none 0 0,.slice none 0 0]:=zerB (by kernel_rfl)
instance : Elt Tryz.prog 78 3 72:=eltB (by kernel_rfl)
instance : Siz Tryz.prog 88 2:=⟨by kernel_rfl⟩
instance : Agg Tryz.prog 88 2:=⟨_,Tryz.underlying88,rfl,Siz.out⟩
instance : Lay Tryz.prog 88 [(0,1),(1,1)]:=layB (by kernel_rfl)
instance : FAt Tryz.prog 88 0 0:=⟨by kernel_rfl⟩
instance : FAt Tryz.prog 88 1 1:=⟨by kernel_rfl⟩
instance : Zer Tryz.prog 88 [.slice none 0 0,.int .i64 0]:=zerB (by kernel_rfl)
instance : Elt Tryz.prog 88 2 32:=eltB (by kernel_rfl)
instance : Siz Tryz.prog 91 2:=⟨by kernel_rfl⟩
instance : Agg Tryz.prog 91 2:=⟨_,Tryz.underlying91,rfl,Siz.out⟩
instance : Lay Tryz.prog 91 [(0,1),(1,1)]:=layB (by kernel_rfl)
instance : FAt Tryz.prog 91 0 0:=⟨by kernel_rfl⟩
instance : FAt Tryz.prog 91 1 1:=⟨by kernel_rfl⟩
instance : Zer Tryz.prog 91 [.int .i64 0,.string ⟨#[]⟩]:=zerB (by kernel_rfl)
instance : Elt Tryz.prog 91 2 24:=eltB (by kernel_rfl)
instance : Und Tryz.prog 93 (.pointer 31):=⟨by kernel_rfl⟩
instance : One Tryz.prog 93:=⟨_,Und.out,rfl⟩
instance : Siz Tryz.prog 93 1:=⟨by kernel_rfl⟩
instance : Zer Tryz.prog 93 [.pointer none]:=zerB (by kernel_rfl)
instance : Elt Tryz.prog 93 1 8:=eltB (by kernel_rfl)
instance : Siz Tryz.prog 110 3:=⟨by kernel_rfl⟩
instance : Agg Tryz.prog 110 3:=⟨_,Tryz.underlying110,rfl,Siz.out⟩
instance : Lay Tryz.prog 110 [(0,1),(1,1),(2,1)]:=layB (by kernel_rfl)
instance : FAt Tryz.prog 110 0 0:=⟨by kernel_rfl⟩
instance : FAt Tryz.prog 110 1 1:=⟨by kernel_rfl⟩
instance : FAt Tryz.prog 110 2 2:=⟨by kernel_rfl⟩
instance : Zer Tryz.prog 110 [.int .i64 0,.int .i64 0,.string ⟨#[]⟩]:=zerB (by kernel_rfl)
instance : Elt Tryz.prog 110 3 32:=eltB (by kernel_rfl)
instance : Und Tryz.prog 116 (.pointer 25):=⟨by kernel_rfl⟩
instance : One Tryz.prog 116:=⟨_,Und.out,rfl⟩
instance : Siz Tryz.prog 116 1:=⟨by kernel_rfl⟩
instance : Zer Tryz.prog 116 [.pointer none]:=zerB (by kernel_rfl)
instance : Elt Tryz.prog 116 1 8:=eltB (by kernel_rfl)
instance : Siz Tryz.prog 134 2:=⟨by kernel_rfl⟩
instance : Agg Tryz.prog 134 2:=⟨_,Tryz.underlying134,rfl,Siz.out⟩
instance : Lay Tryz.prog 134 [(0,1),(1,1)]:=layB (by kernel_rfl)
instance : FAt Tryz.prog 134 0 0:=⟨by kernel_rfl⟩
instance : FAt Tryz.prog 134 1 1:=⟨by kernel_rfl⟩
instance : Zer Tryz.prog 134 [.int .i64 0,.string ⟨#[]⟩]:=zerB (by kernel_rfl)
instance : Elt Tryz.prog 134 2 24:=eltB (by kernel_rfl)
instance : Fun Tryz.prog 3 Tryz.f3:=⟨Tryz.func3,rfl,rfl⟩
instance : Fun Tryz.prog 4 Tryz.f4:=⟨Tryz.func4,rfl,rfl⟩
instance : Fun Tryz.prog 5 Tryz.f5:=⟨Tryz.func5,rfl,rfl⟩
instance : Fun Tryz.prog 6 Tryz.f6:=⟨Tryz.func6,rfl,rfl⟩
instance : Fun Tryz.prog 7 Tryz.f7:=⟨Tryz.func7,rfl,rfl⟩
instance : Fun Tryz.prog 8 Tryz.f8:=⟨Tryz.func8,rfl,rfl⟩
instance : Fun Tryz.prog 9 Tryz.f9:=⟨Tryz.func9,rfl,rfl⟩
instance : Fun Tryz.prog 10 Tryz.f10:=⟨Tryz.func10,rfl,rfl⟩
instance : Fun Tryz.prog 11 Tryz.f11:=⟨Tryz.func11,rfl,rfl⟩
instance : Fun Tryz.prog 12 Tryz.f12:=⟨Tryz.func12,rfl,rfl⟩
instance : Fun Tryz.prog 13 Tryz.f13:=⟨Tryz.func13,rfl,rfl⟩
instance : Fun Tryz.prog 14 Tryz.f14:=⟨Tryz.func14,rfl,rfl⟩
instance : Fun Tryz.prog 15 Tryz.f15:=⟨Tryz.func15,rfl,rfl⟩
instance : Fun Tryz.prog 16 Tryz.f16:=⟨Tryz.func16,rfl,rfl⟩
instance : Fun Tryz.prog 17 Tryz.f17:=⟨Tryz.func17,rfl,rfl⟩
instance : Fun Tryz.prog 18 Tryz.f18:=⟨Tryz.func18,rfl,rfl⟩
instance : Fun Tryz.prog 19 Tryz.f19:=⟨Tryz.func19,rfl,rfl⟩
instance : Fun Tryz.prog 20 Tryz.f20:=⟨Tryz.func20,rfl,rfl⟩
instance : Fun Tryz.prog 21 Tryz.f21:=⟨Tryz.func21,rfl,rfl⟩
instance : Fun Tryz.prog 22 Tryz.f22:=⟨Tryz.func22,rfl,rfl⟩
instance : Fun Tryz.prog 23 Tryz.f23:=⟨Tryz.func23,rfl,rfl⟩
instance : Fun Tryz.prog 24 Tryz.f24:=⟨Tryz.func24,rfl,rfl⟩
instance : Fun Tryz.prog 25 Tryz.f25:=⟨Tryz.func25,rfl,rfl⟩
instance : Fun Tryz.prog 26 Tryz.f26:=⟨Tryz.func26,rfl,rfl⟩
instance : Fun Tryz.prog 27 Tryz.f27:=⟨Tryz.func27,rfl,rfl⟩
instance : Fun Tryz.prog 28 Tryz.f28:=⟨Tryz.func28,rfl,rfl⟩
instance : Fun Tryz.prog 29 Tryz.f29:=⟨Tryz.func29,rfl,rfl⟩
instance : Fun Tryz.prog 30 Tryz.f30:=⟨Tryz.func30,rfl,rfl⟩
instance : Fun Tryz.prog 31 Tryz.f31:=⟨Tryz.func31,rfl,rfl⟩
instance : Fun Tryz.prog 32 Tryz.f32:=⟨Tryz.func32,rfl,rfl⟩
instance : Fun Tryz.prog 33 Tryz.f33:=⟨Tryz.func33,rfl,rfl⟩
instance : Fun Tryz.prog 34 Tryz.f34:=⟨Tryz.func34,rfl,rfl⟩
instance : Fun Tryz.prog 35 Tryz.f35:=⟨Tryz.func35,rfl,rfl⟩
instance : Fun Tryz.prog 36 Tryz.f36:=⟨Tryz.func36,rfl,rfl⟩
instance : Fun Tryz.prog 37 Tryz.f37:=⟨Tryz.func37,rfl,rfl⟩
instance : Fun Tryz.prog 38 Tryz.f38:=⟨Tryz.func38,rfl,rfl⟩
instance : Fun Tryz.prog 39 Tryz.f39:=⟨Tryz.func39,rfl,rfl⟩
instance : Fun Tryz.prog 40 Tryz.f40:=⟨Tryz.func40,rfl,rfl⟩
instance : Fun Tryz.prog 41 Tryz.f41:=⟨Tryz.func41,rfl,rfl⟩
instance : Fun Tryz.prog 42 Tryz.f42:=⟨Tryz.func42,rfl,rfl⟩
instance : Fun Tryz.prog 43 Tryz.f43:=⟨Tryz.func43,rfl,rfl⟩
instance : Fun Tryz.prog 44 Tryz.f44:=⟨Tryz.func44,rfl,rfl⟩
instance : Fun Tryz.prog 45 Tryz.f45:=⟨Tryz.func45,rfl,rfl⟩
instance : Fun Tryz.prog 46 Tryz.f46:=⟨Tryz.func46,rfl,rfl⟩
instance : Fun Tryz.prog 47 Tryz.f47:=⟨Tryz.func47,rfl,rfl⟩
instance : Fun Tryz.prog 48 Tryz.f48:=⟨Tryz.func48,rfl,rfl⟩
instance : Fun Tryz.prog 49 Tryz.f49:=⟨Tryz.func49,rfl,rfl⟩
instance : Fun Tryz.prog 50 Tryz.f50:=⟨Tryz.func50,rfl,rfl⟩
instance : Fun Tryz.prog 51 Tryz.f51:=⟨Tryz.func51,rfl,rfl⟩
instance : Fun Tryz.prog 52 Tryz.f52:=⟨Tryz.func52,rfl,rfl⟩
instance : Fun Tryz.prog 53 Tryz.f53:=⟨Tryz.func53,rfl,rfl⟩
instance : Fun Tryz.prog 54 Tryz.f54:=⟨Tryz.func54,rfl,rfl⟩
instance : Fun Tryz.prog 55 Tryz.f55:=⟨Tryz.func55,rfl,rfl⟩
instance : Fun Tryz.prog 56 Tryz.f56:=⟨Tryz.func56,rfl,rfl⟩
instance : Fun Tryz.prog 57 Tryz.f57:=⟨Tryz.func57,rfl,rfl⟩
instance : Fun Tryz.prog 58 Tryz.f58:=⟨Tryz.func58,rfl,rfl⟩
instance : Fun Tryz.prog 59 Tryz.f59:=⟨Tryz.func59,rfl,rfl⟩
instance : Fun Tryz.prog 60 Tryz.f60:=⟨Tryz.func60,rfl,rfl⟩
instance : Fun Tryz.prog 61 Tryz.f61:=⟨Tryz.func61,rfl,rfl⟩
instance : Fun Tryz.prog 62 Tryz.f62:=⟨Tryz.func62,rfl,rfl⟩
instance : Fun Tryz.prog 63 Tryz.f63:=⟨Tryz.func63,rfl,rfl⟩
instance : Fun Tryz.prog 64 Tryz.f64:=⟨Tryz.func64,rfl,rfl⟩
instance : Fun Tryz.prog 65 Tryz.f65:=⟨Tryz.func65,rfl,rfl⟩
instance : Fun Tryz.prog 66 Tryz.f66:=⟨Tryz.func66,rfl,rfl⟩
instance : Fun Tryz.prog 67 Tryz.f67:=⟨Tryz.func67,rfl,rfl⟩
instance : Fun Tryz.prog 68 Tryz.f68:=⟨Tryz.func68,rfl,rfl⟩
instance : Fun Tryz.prog 69 Tryz.f69:=⟨Tryz.func69,rfl,rfl⟩
instance : Fun Tryz.prog 70 Tryz.f70:=⟨Tryz.func70,rfl,rfl⟩
instance : Fun Tryz.prog 71 Tryz.f71:=⟨Tryz.func71,rfl,rfl⟩
instance : Fun Tryz.prog 72 Tryz.f72:=⟨Tryz.func72,rfl,rfl⟩
instance : Fun Tryz.prog 73 Tryz.f73:=⟨Tryz.func73,rfl,rfl⟩
instance : Fun Tryz.prog 74 Tryz.f74:=⟨Tryz.func74,rfl,rfl⟩
instance : Fun Tryz.prog 75 Tryz.f75:=⟨Tryz.func75,rfl,rfl⟩
instance : Fun Tryz.prog 76 Tryz.f76:=⟨Tryz.func76,rfl,rfl⟩
instance : Fun Tryz.prog 77 Tryz.f77:=⟨Tryz.func77,rfl,rfl⟩
instance : Fun Tryz.prog 78 Tryz.f78:=⟨Tryz.func78,rfl,rfl⟩
instance : Fun Tryz.prog 79 Tryz.f79:=⟨Tryz.func79,rfl,rfl⟩
instance : Fun Tryz.prog 80 Tryz.f80:=⟨Tryz.func80,rfl,rfl⟩
instance : Fun Tryz.prog 81 Tryz.f81:=⟨Tryz.func81,rfl,rfl⟩
instance : Fun Tryz.prog 82 Tryz.f82:=⟨Tryz.func82,rfl,rfl⟩
instance : Fun Tryz.prog 83 Tryz.f83:=⟨Tryz.func83,rfl,rfl⟩
instance : Fun Tryz.prog 84 Tryz.f84:=⟨Tryz.func84,rfl,rfl⟩
instance : Fun Tryz.prog 85 Tryz.f85:=⟨Tryz.func85,rfl,rfl⟩
instance : Fun Tryz.prog 86 Tryz.f86:=⟨Tryz.func86,rfl,rfl⟩
instance : Fun Tryz.prog 87 Tryz.f87:=⟨Tryz.func87,rfl,rfl⟩
instance : Fun Tryz.prog 88 Tryz.f88:=⟨Tryz.func88,rfl,rfl⟩
instance : Fun Tryz.prog 89 Tryz.f89:=⟨Tryz.func89,rfl,rfl⟩
instance : Fun Tryz.prog 90 Tryz.f90:=⟨Tryz.func90,rfl,rfl⟩
instance : Fun Tryz.prog 91 Tryz.f91:=⟨Tryz.func91,rfl,rfl⟩
instance : Fun Tryz.prog 92 Tryz.f92:=⟨Tryz.func92,rfl,rfl⟩
instance : Fun Tryz.prog 93 Tryz.f93:=⟨Tryz.func93,rfl,rfl⟩
instance : Fun Tryz.prog 94 Tryz.f94:=⟨Tryz.func94,rfl,rfl⟩
instance : Fun Tryz.prog 95 Tryz.f95:=⟨Tryz.func95,rfl,rfl⟩
instance : Fun Tryz.prog 96 Tryz.f96:=⟨Tryz.func96,rfl,rfl⟩
instance : Fun Tryz.prog 97 Tryz.f97:=⟨Tryz.func97,rfl,rfl⟩
instance : Fun Tryz.prog 98 Tryz.f98:=⟨Tryz.func98,rfl,rfl⟩
instance : Fun Tryz.prog 99 Tryz.f99:=⟨Tryz.func99,rfl,rfl⟩
instance : Fun Tryz.prog 100 Tryz.f100:=⟨Tryz.func100,rfl,rfl⟩
instance : Fun Tryz.prog 101 Tryz.f101:=⟨Tryz.func101,rfl,rfl⟩
instance : Fun Tryz.prog 102 Tryz.f102:=⟨Tryz.func102,rfl,rfl⟩
instance : Fun Tryz.prog 103 Tryz.f103:=⟨Tryz.func103,rfl,rfl⟩
instance : Fun Tryz.prog 104 Tryz.f104:=⟨Tryz.func104,rfl,rfl⟩
instance : Fun Tryz.prog 105 Tryz.f105:=⟨Tryz.func105,rfl,rfl⟩
instance : Fun Tryz.prog 106 Tryz.f106:=⟨Tryz.func106,rfl,rfl⟩
instance : Fun Tryz.prog 107 Tryz.f107:=⟨Tryz.func107,rfl,rfl⟩
instance : Fun Tryz.prog 108 Tryz.f108:=⟨Tryz.func108,rfl,rfl⟩
instance : Fun Tryz.prog 109 Tryz.f109:=⟨Tryz.func109,rfl,rfl⟩
instance : Fun Tryz.prog 110 Tryz.f110:=⟨Tryz.func110,rfl,rfl⟩
instance : Fun Tryz.prog 111 Tryz.f111:=⟨Tryz.func111,rfl,rfl⟩
instance : Fun Tryz.prog 112 Tryz.f112:=⟨Tryz.func112,rfl,rfl⟩
instance : Fun Tryz.prog 113 Tryz.f113:=⟨Tryz.func113,rfl,rfl⟩
instance : Fun Tryz.prog 114 Tryz.f114:=⟨Tryz.func114,rfl,rfl⟩
instance : Fun Tryz.prog 116 Tryz.f116:=⟨Tryz.func116,rfl,rfl⟩
instance : Fun Tryz.prog 117 Tryz.f117:=⟨Tryz.func117,rfl,rfl⟩
instance : Fun Tryz.prog 118 Tryz.f118:=⟨Tryz.func118,rfl,rfl⟩
instance : Fun Tryz.prog 119 Tryz.f119:=⟨Tryz.func119,rfl,rfl⟩
instance : Fun Tryz.prog 121 Tryz.f121:=⟨Tryz.func121,rfl,rfl⟩
instance : Fun Tryz.prog 122 Tryz.f122:=⟨Tryz.func122,rfl,rfl⟩
instance : Fun Tryz.prog 123 Tryz.f123:=⟨Tryz.func123,rfl,rfl⟩
instance : Fun Tryz.prog 124 Tryz.f124:=⟨Tryz.func124,rfl,rfl⟩
instance : Fun Tryz.prog 125 Tryz.f125:=⟨Tryz.func125,rfl,rfl⟩
instance : Fun Tryz.prog 126 Tryz.f126:=⟨Tryz.func126,rfl,rfl⟩
instance : Fun Tryz.prog 127 Tryz.f127:=⟨Tryz.func127,rfl,rfl⟩
instance : Fun Tryz.prog 128 Tryz.f128:=⟨Tryz.func128,rfl,rfl⟩
end Go.Proofs.YtampmicahnnebaaGreat.Sp
namespace Go.Proofs.YtampmicahnnebaaGreat.Sp
open Go Go.RowKit
def nest {α ι : Type} (sz : Nat) (z : α) (enc : α → ι → List Value) (parts : α → ι → List Asn) (get : α → Nat → Option Value) (set : α → Nat → Value → Option α) (hl : ∀ x i,(enc x i).length = sz) (h1 : ∀ x i,∀ u ∈ enc x i,u.oneCell' = true)
    (hg : ∀ x j v i,get x j = some v → (enc x i)[j]? = some v) (hs : ∀ x j v x' i,set x j v = some x' → (enc x i).set j v = enc x' i ∧ parts x' i = parts x i ∧ j < sz ∧ v.oneCell' = true) : Ty α where
  sz:=sz
  z:=z
  A:=fun x c=>exP (fun i=>c = enc x i) (parts x)
  get:=get
  set:=set
  len:=by rintro x c W F ⟨i,rfl,_⟩;exact hl x i
  one:=by rintro x c W F ⟨i,rfl,_⟩;exact h1 x i
  get_ok:=by rintro x c W F j v ⟨i,rfl,_⟩ h;exact hg x j v i h
  set_ok:=by
    rintro x c W F j v x' ⟨i,rfl,hp⟩ h
    obtain ⟨e1,e2,e3,e4⟩:=hs x j v x' i h
    exact ⟨⟨i,e1,by rw [e2];exact hp⟩,e3,e4⟩
def setI {α : Type} (f : Int → α) : Value → Option α
  | .int .i64 n=>some (f n)
  | _=>none
def setB {α : Type} (f : Bool → α) : Value → Option α
  | .bool b=>some (f b)
  | _=>none
def setS {α : Type} (f : ByteArray → α) : Value → Option α
  | .string s=>some (f s)
  | _=>none
theorem setI_some {α : Type} {f : Int → α} {v : Value} {x : α} (h : setI f v = some x) : ∃ n,v = .int .i64 n ∧ x = f n:=by
  unfold setI at h
  split at h
  · cases h;exact ⟨_,rfl,rfl⟩
  · cases h
theorem setB_some {α : Type} {f : Bool → α} {v : Value} {x : α} (h : setB f v = some x) : ∃ n,v = .bool n ∧ x = f n:=by
  unfold setB at h
  split at h
  · cases h;exact ⟨_,rfl,rfl⟩
  · cases h
theorem setS_some {α : Type} {f : ByteArray → α} {v : Value} {x : α} (h : setS f v = some x) : ∃ n,v = .string n ∧ x = f n:=by
  unfold setS at h
  split at h
  · cases h;exact ⟨_,rfl,rfl⟩
  · cases h
def tInt : Ty Int:=nest (ι:=Unit) 1 0 (fun n _=>[.int .i64 n]) (fun _ _=>[]) (fun n j=>match j with|0=>some (.int .i64 n)|_=>none) (fun n j v=>match j with|0=>setI (fun n=>n) v|_=>none)
  (fun _ _=>rfl) (fun _ _ u hu=>by simp at hu;subst hu;rfl)
  (fun x j v i h=>by match j with|0=>simpa using h|j + 1=>simp at h)
  (fun x j v x' i h=>by match j with
    | 0=>obtain ⟨n,rfl,rfl⟩:=setI_some h;exact ⟨rfl,rfl,by decide,rfl⟩
    | j + 1=>simp at h)
def tStr : Ty ByteArray:=nest (ι:=Unit) 1 ⟨#[]⟩ (fun n _=>[.string n]) (fun _ _=>[]) (fun n j=>match j with|0=>some (.string n)|_=>none) (fun n j v=>match j with|0=>setS (fun n=>n) v|_=>none)
  (fun _ _=>rfl) (fun _ _ u hu=>by simp at hu;subst hu;rfl)
  (fun x j v i h=>by match j with|0=>simpa using h|j + 1=>simp at h)
  (fun x j v x' i h=>by match j with
    | 0=>obtain ⟨n,rfl,rfl⟩:=setS_some h;exact ⟨rfl,rfl,by decide,rfl⟩
    | j + 1=>simp at h)
abbrev At:=Option Addr × Nat
theorem mk_flat {α : Type} {D : Ty α} {x : α} {ws : List Value} {L : List Asn} (h : ∀ W,(D.A x ws).H W (fun _=>False)) : MkIn L D ws x L:=⟨fun W ok hs=>⟨fun _=>False,fun _ h=>h.elim,h W,hs.mono (fun k hk=>⟨hk,fun h=>h⟩)⟩⟩
instance {L : List Asn} {n : Int} : MkIn L tInt [.int .i64 n] n L:=mk_flat fun _=>⟨(),rfl,trivial⟩
instance : Flat tInt (fun n=>[.int .i64 n]):=⟨fun ⟨_,h,_⟩=>h⟩
instance {L : List Asn} {n : ByteArray} : MkIn L tStr [.string n] n L:=mk_flat fun _=>⟨(),rfl,trivial⟩
instance : Flat tStr (fun n=>[.string n]):=⟨fun ⟨_,h,_⟩=>h⟩
structure Slot where
  ballot : Int
  text : ByteArray
def encSlot (x : Slot) (i : Unit) : List Value:=[.int .i64 x.ballot,.string x.text]
def partSlot  (x : Slot) (i : Unit) : List Asn:=[]
def getSlot (x : Slot) (j : Nat) : Option Value:=match j with|0=>some (.int .i64 x.ballot)|1=>some (.string x.text)|_=>none
def setSlot (x : Slot) (j : Nat) (v : Value) : Option Slot:=match j with|0=>setI (fun n=>{ x with ballot:=n }) v|1=>setS (fun n=>{ x with text:=n }) v|_=>none
def tSlot  : Ty Slot:=nest (ι:=Unit) 2 ⟨0,⟨#[]⟩⟩ encSlot (partSlot) getSlot setSlot
  (fun _ _=>rfl) (fun _ _ u hu=>by simp [encSlot] at hu;(repeat' (rcases hu with rfl|hu)) <;> first|rfl|(subst hu;rfl))
  (fun x j v i h=>by
    match j with
    | 0|1=>simpa [encSlot,getSlot] using h
    | j + 2=>simp [getSlot] at h)
  (fun x j v x1 i h=>by
    match j with
    | 0=>obtain ⟨n,rfl,rfl⟩:=setI_some h;exact ⟨rfl,rfl,by decide,rfl⟩
    | 1=>obtain ⟨n,rfl,rfl⟩:=setS_some h;exact ⟨rfl,rfl,by decide,rfl⟩
    | j + 2=>simp [setSlot] at h)
instance {L : List Asn} {ballot : Int} {text : ByteArray} : MkIn L tSlot [.int .i64 ballot,.string text] ⟨ballot,text⟩ L:=mk_flat fun _=>⟨(),rfl,trivial⟩
instance : Flat tSlot (fun x=>encSlot x ()):=⟨fun ⟨_,h,_⟩=>h⟩
structure Fix where
  index : Int
  text : ByteArray
def encFix (x : Fix) (i : Unit) : List Value:=[.int .i64 x.index,.string x.text]
def partFix  (x : Fix) (i : Unit) : List Asn:=[]
def getFix (x : Fix) (j : Nat) : Option Value:=match j with|0=>some (.int .i64 x.index)|1=>some (.string x.text)|_=>none
def setFix (x : Fix) (j : Nat) (v : Value) : Option Fix:=match j with|0=>setI (fun n=>{ x with index:=n }) v|1=>setS (fun n=>{ x with text:=n }) v|_=>none
def tFix  : Ty Fix:=nest (ι:=Unit) 2 ⟨0,⟨#[]⟩⟩ encFix (partFix) getFix setFix
  (fun _ _=>rfl) (fun _ _ u hu=>by simp [encFix] at hu;(repeat' (rcases hu with rfl|hu)) <;> first|rfl|(subst hu;rfl))
  (fun x j v i h=>by
    match j with
    | 0|1=>simpa [encFix,getFix] using h
    | j + 2=>simp [getFix] at h)
  (fun x j v x1 i h=>by
    match j with
    | 0=>obtain ⟨n,rfl,rfl⟩:=setI_some h;exact ⟨rfl,rfl,by decide,rfl⟩
    | 1=>obtain ⟨n,rfl,rfl⟩:=setS_some h;exact ⟨rfl,rfl,by decide,rfl⟩
    | j + 2=>simp [setFix] at h)
instance {L : List Asn} {index : Int} {text : ByteArray} : MkIn L tFix [.int .i64 index,.string text] ⟨index,text⟩ L:=mk_flat fun _=>⟨(),rfl,trivial⟩
instance : Flat tFix (fun x=>encFix x ()):=⟨fun ⟨_,h,_⟩=>h⟩
structure Msg where
  kind : Int
  frm : Int
  to : Int
  ballot : Int
  index : Int
  known : Int
  text : ByteArray
  slots : List Slot
def encMsg (x : Msg) (i : At) : List Value:=[.int .i64 x.kind,.int .i64 x.frm,.int .i64 x.to,.int .i64 x.ballot,.int .i64 x.index,.int .i64 x.known,.string x.text,.slice i.1 x.slots.length i.2]
def partMsg (eS : Nat) (x : Msg) (i : At) : List Asn:=[own tSlot eS i.1 i.2 x.slots]
def getMsg (x : Msg) (j : Nat) : Option Value:=match j with|0=>some (.int .i64 x.kind)|1=>some (.int .i64 x.frm)|2=>some (.int .i64 x.to)|3=>some (.int .i64 x.ballot)|4=>some (.int .i64 x.index)|5=>some (.int .i64 x.known)|6=>some (.string x.text)|_=>none
def setMsg (x : Msg) (j : Nat) (v : Value) : Option Msg:=match j with|0=>setI (fun n=>{ x with kind:=n }) v|1=>setI (fun n=>{ x with frm:=n }) v|2=>setI (fun n=>{ x with to:=n }) v|3=>setI (fun n=>{ x with ballot:=n }) v|4=>setI (fun n=>{ x with index:=n }) v|5=>setI (fun n=>{ x with known:=n }) v|6=>setS (fun n=>{ x with text:=n }) v|_=>none
def tMsg (eS : Nat) : Ty Msg:=nest (ι:=At) 8 ⟨0,0,0,0,0,0,⟨#[]⟩,[]⟩ encMsg (partMsg eS) getMsg setMsg
  (fun _ _=>rfl) (fun _ _ u hu=>by simp [encMsg] at hu;(repeat' (rcases hu with rfl|hu)) <;> first|rfl|(subst hu;rfl))
  (fun x j v i h=>by
    match j with
    | 0|1|2|3|4|5|6=>simpa [encMsg,getMsg] using h
    | 7=>simp [getMsg] at h
    | j + 8=>simp [getMsg] at h)
  (fun x j v x1 i h=>by
    match j with
    | 0=>obtain ⟨n,rfl,rfl⟩:=setI_some h;exact ⟨rfl,rfl,by decide,rfl⟩
    | 1=>obtain ⟨n,rfl,rfl⟩:=setI_some h;exact ⟨rfl,rfl,by decide,rfl⟩
    | 2=>obtain ⟨n,rfl,rfl⟩:=setI_some h;exact ⟨rfl,rfl,by decide,rfl⟩
    | 3=>obtain ⟨n,rfl,rfl⟩:=setI_some h;exact ⟨rfl,rfl,by decide,rfl⟩
    | 4=>obtain ⟨n,rfl,rfl⟩:=setI_some h;exact ⟨rfl,rfl,by decide,rfl⟩
    | 5=>obtain ⟨n,rfl,rfl⟩:=setI_some h;exact ⟨rfl,rfl,by decide,rfl⟩
    | 6=>obtain ⟨n,rfl,rfl⟩:=setS_some h;exact ⟨rfl,rfl,by decide,rfl⟩
    | 7=>simp [setMsg] at h
    | j + 8=>simp [setMsg] at h)
structure Ack where
  index : Int
  frm : List Int
def encAck (x : Ack) (i : At) : List Value:=[.int .i64 x.index,.slice i.1 x.frm.length i.2]
def partAck (eI : Nat) (x : Ack) (i : At) : List Asn:=[own tInt eI i.1 i.2 x.frm]
def getAck (x : Ack) (j : Nat) : Option Value:=match j with|0=>some (.int .i64 x.index)|_=>none
def setAck (x : Ack) (j : Nat) (v : Value) : Option Ack:=match j with|0=>setI (fun n=>{ x with index:=n }) v|_=>none
def tAck (eI : Nat) : Ty Ack:=nest (ι:=At) 2 ⟨0,[]⟩ encAck (partAck eI) getAck setAck
  (fun _ _=>rfl) (fun _ _ u hu=>by simp [encAck] at hu;(repeat' (rcases hu with rfl|hu)) <;> first|rfl|(subst hu;rfl))
  (fun x j v i h=>by
    match j with
    | 0=>simpa [encAck,getAck] using h
    | 1=>simp [getAck] at h
    | j + 2=>simp [getAck] at h)
  (fun x j v x1 i h=>by
    match j with
    | 0=>obtain ⟨n,rfl,rfl⟩:=setI_some h;exact ⟨rfl,rfl,by decide,rfl⟩
    | 1=>simp [setAck] at h
    | j + 2=>simp [setAck] at h)
structure Rcd where
  number : Int
  of : Int
  up : Bool
  sp : Int
  sk : Int
  ss : List Slot
  dp : Int
  dk : Int
  ds : List Slot
  held : List Msg
  wishes : List ByteArray
  lead : Bool
  trying : Bool
  ballot : Int
  yes : List Int
  best : List Slot
  acks : List Ack
  heard : Int
structure AtRcd where
  a0 : At
  a1 : At
  a2 : At
  a3 : At
  a4 : At
  a5 : At
  a6 : At
def encRcd (x : Rcd) (i : AtRcd) : List Value:=[.int .i64 x.number,.int .i64 x.of,.bool x.up,.int .i64 x.sp,.int .i64 x.sk,.slice i.a0.1 x.ss.length i.a0.2,.int .i64 x.dp,.int .i64 x.dk,.slice i.a1.1 x.ds.length i.a1.2,.slice i.a2.1 x.held.length i.a2.2,.slice i.a3.1 x.wishes.length i.a3.2,.bool x.lead,.bool x.trying,.int .i64 x.ballot,.slice i.a4.1 x.yes.length i.a4.2,.slice i.a5.1 x.best.length i.a5.2,.slice i.a6.1 x.acks.length i.a6.2,.int .i64 x.heard]
def partRcd (eS : Nat) (eM : Nat) (eT : Nat) (eI : Nat) (eA : Nat) (x : Rcd) (i : AtRcd) : List Asn:=[own tSlot eS i.a0.1 i.a0.2 x.ss,own tSlot eS i.a1.1 i.a1.2 x.ds,own (tMsg eS) eM i.a2.1 i.a2.2 x.held,own tStr eT i.a3.1 i.a3.2 x.wishes,own tInt eI i.a4.1 i.a4.2 x.yes,own tSlot eS i.a5.1 i.a5.2 x.best,own (tAck eI) eA i.a6.1 i.a6.2 x.acks]
def getRcd (x : Rcd) (j : Nat) : Option Value:=match j with|0=>some (.int .i64 x.number)|1=>some (.int .i64 x.of)|2=>some (.bool x.up)|3=>some (.int .i64 x.sp)|4=>some (.int .i64 x.sk)|6=>some (.int .i64 x.dp)|7=>some (.int .i64 x.dk)|11=>some (.bool x.lead)|12=>some (.bool x.trying)|13=>some (.int .i64 x.ballot)|17=>some (.int .i64 x.heard)|_=>none
def setRcd (x : Rcd) (j : Nat) (v : Value) : Option Rcd:=match j with|0=>setI (fun n=>{ x with number:=n }) v|1=>setI (fun n=>{ x with of:=n }) v|2=>setB (fun n=>{ x with up:=n }) v|3=>setI (fun n=>{ x with sp:=n }) v|4=>setI (fun n=>{ x with sk:=n }) v|6=>setI (fun n=>{ x with dp:=n }) v|7=>setI (fun n=>{ x with dk:=n }) v|11=>setB (fun n=>{ x with lead:=n }) v|12=>setB (fun n=>{ x with trying:=n }) v|13=>setI (fun n=>{ x with ballot:=n }) v|17=>setI (fun n=>{ x with heard:=n }) v|_=>none
def tRec (eS : Nat) (eM : Nat) (eT : Nat) (eI : Nat) (eA : Nat) : Ty Rcd:=nest (ι:=AtRcd) 18 ⟨0,0,false,0,0,[],0,0,[],[],[],false,false,0,[],[],[],0⟩ encRcd (partRcd eS eM eT eI eA) getRcd setRcd
  (fun _ _=>rfl) (fun _ _ u hu=>by simp [encRcd] at hu;(repeat' (rcases hu with rfl|hu)) <;> first|rfl|(subst hu;rfl))
  (fun x j v i h=>by
    match j with
    | 0|1|2|3|4|6|7|11|12|13|17=>simpa [encRcd,getRcd] using h
    | 5|8|9|10|14|15|16=>simp [getRcd] at h
    | j + 18=>simp [getRcd] at h)
  (fun x j v x1 i h=>by
    match j with
    | 0=>obtain ⟨n,rfl,rfl⟩:=setI_some h;exact ⟨rfl,rfl,by decide,rfl⟩
    | 1=>obtain ⟨n,rfl,rfl⟩:=setI_some h;exact ⟨rfl,rfl,by decide,rfl⟩
    | 2=>obtain ⟨n,rfl,rfl⟩:=setB_some h;exact ⟨rfl,rfl,by decide,rfl⟩
    | 3=>obtain ⟨n,rfl,rfl⟩:=setI_some h;exact ⟨rfl,rfl,by decide,rfl⟩
    | 4=>obtain ⟨n,rfl,rfl⟩:=setI_some h;exact ⟨rfl,rfl,by decide,rfl⟩
    | 6=>obtain ⟨n,rfl,rfl⟩:=setI_some h;exact ⟨rfl,rfl,by decide,rfl⟩
    | 7=>obtain ⟨n,rfl,rfl⟩:=setI_some h;exact ⟨rfl,rfl,by decide,rfl⟩
    | 11=>obtain ⟨n,rfl,rfl⟩:=setB_some h;exact ⟨rfl,rfl,by decide,rfl⟩
    | 12=>obtain ⟨n,rfl,rfl⟩:=setB_some h;exact ⟨rfl,rfl,by decide,rfl⟩
    | 13=>obtain ⟨n,rfl,rfl⟩:=setI_some h;exact ⟨rfl,rfl,by decide,rfl⟩
    | 17=>obtain ⟨n,rfl,rfl⟩:=setI_some h;exact ⟨rfl,rfl,by decide,rfl⟩
    | 5|8|9|10|14|15|16=>simp [setRcd] at h
    | j + 18=>simp [setRcd] at h)
end Go.Proofs.YtampmicahnnebaaGreat.Sp
namespace Go.Proofs.YtampmicahnnebaaGreat.Sp
open Go Go.RowKit
structure TyR (α : Type) where
  sz : Nat
  z : α
  R : World → α → List Value → Prop
  get : α → Nat → Option Value
  len : ∀ {w x c},R w x c → c.length = sz
  get_ok : ∀ {w x c j v},R w x c → get x j = some v → c[j]? = some v
structure RoRow {α : Type} (D : TyR α) (w : World) (A : Option Addr) (xs : List α) : Prop where
  max : xs.length ≤ 9223372036854775807
  some_ : 0 < xs.length → A = some (adr A)
  cell : ∀ i (h : i < xs.length),∃ c,D.R w xs[i] c ∧ ∀ j v,c[j]? = some v → w.cell? ((adr A).add (i * D.sz + j)) = some v
def rdR {α : Type} (D : TyR α) (xs : List α) (i : Int) : α:=xs.getD i.toNat D.z
theorem rdR_at {α : Type} {D : TyR α} {xs : List α} {i : Nat} (h : i < xs.length) : rdR D xs (i : Int) = xs[i]:=by simp [rdR,List.getD_eq_getElem?_getD,h]
def pur (p : Prop) : Asn:=exP (fun _ : Unit=>p) (fun _=>[])
theorem Mem.pur {w0 W : World} {L : List Asn} (h : Mem w0 W L) {p : Prop} (hp : p) : Mem w0 W (pur p :: L):=Mem.mkx () hp h
def ro {α : Type} (D : TyR α) (w0 : World) (A : Option Addr) (xs : List α) : Asn:=pur (RoRow D w0 A xs)
def roC (w0 : World) (A : Option Addr) (i sz : Nat) (c : List Value) : Asn:=pur (A = some (adr A) ∧ c.length = sz ∧ ∀ j v,c[j]? = some v → w0.cell? ((adr A).add (i * sz + j)) = some v)
class RoAt (L : List Asn) (A : Option Addr) (α : outParam Type) (d : outParam (TyR α)) (w0 : outParam World) (xs : outParam (List α)) : Prop where mem : ∃ R,L.Perm (ro d w0 A xs :: R)
instance RoAt.here {α : Type} {d : TyR α} {A : Option Addr} {w0 : World} {xs : List α} {L : List Asn} : RoAt (ro d w0 A xs :: L) A α d w0 xs:=⟨L,List.Perm.refl _⟩
instance (priority:=low) RoAt.there {α : Type} {d : TyR α} {A : Option Addr} {w0 : World} {xs : List α} {L : List Asn} {B : Asn} [h : RoAt L A α d w0 xs] : RoAt (B :: L) A α d w0 xs:=⟨by
  obtain ⟨R,h⟩:=h.mem
  exact ⟨B :: R,(List.Perm.cons B h).trans (List.Perm.swap _ B R)⟩⟩
class RoCAt (L : List Asn) (A : Option Addr) (w0 : outParam World) (i sz : outParam Nat) (c : outParam (List Value)) : Prop where mem : ∃ R,L.Perm (roC w0 A i sz c :: R)
instance RoCAt.here {A : Option Addr} {w0 : World} {i sz : Nat} {c : List Value} {L : List Asn} : RoCAt (roC w0 A i sz c :: L) A w0 i sz c:=⟨L,List.Perm.refl _⟩
instance (priority:=low) RoCAt.there {A : Option Addr} {w0 : World} {i sz : Nat} {c : List Value} {L : List Asn} {B : Asn} [h : RoCAt L A w0 i sz c] : RoCAt (B :: L) A w0 i sz c:=⟨by
  obtain ⟨R,h⟩:=h.mem
  exact ⟨B :: R,(List.Perm.cons B h).trans (List.Perm.swap _ B R)⟩⟩
section
variable {w0 W : World} {L : List Asn} {A : Option Addr} {α : Type} {D : TyR α} {xs : List α}
theorem Mem.pure_ {p : Prop} {R : List Asn} (hp : L.Perm (Sp.pur p :: R)) (hm : Mem w0 W L) : p:=by
  obtain ⟨F,_,⟨_,h,_⟩,_⟩:=(hm.perm hp).sep
  exact h
theorem Mem.ro [h : RoAt L A α D w0 xs] (hm : Mem w0 W L) : RoRow D w0 A xs:=by
  obtain ⟨R,hp⟩:=h.mem
  exact Mem.pure_ hp hm
theorem Mem.roOpen [h : RoAt L A α D w0 xs] (hm : Mem w0 W L) (i : Nat) (hi : i < xs.length) : ∃ c,D.R w0 xs[i] c ∧ Mem w0 W (roC w0 A i D.sz c :: L):=by
  have hr:=hm.ro (A:=A) (D:=D)
  obtain ⟨c,h1,h2⟩:=hr.cell i hi
  exact ⟨c,h1,hm.pur ⟨hr.some_ (by omega),D.len h1,h2⟩⟩
theorem Mem.old (hm : Mem w0 W L) {a : Addr} {v : Value} (h : w0.cell? a = some v) : W.cell? a = some v:=(hm.below.cell (World.block_lt_of_cell? w0 a h)).trans h
end
section
variable {P : Program} {n : Nat} {E : Env} {w0 W : World} {L : List Asn} {pt st : TypeId} {x y : Operand} {v : Value} {e sz j l c : Nat} {A : Option Addr} {i : Int} {k : IntKind} {α : Type} {D : TyR α} {xs : List α} {ws : List Value} {q : Nat}
theorem p_indexr [hU : Und P st (.slice e)] [hS : Siz P e sz] [hO : RoAt L A α D w0 xs] (hm : Mem w0 W L) (hx : ev E x = some (.slice A l c)) (hl : l = xs.length) (hy : ev E y = some (.int k i)) (h0 : 0 ≤ i) (h1 : i < xs.length) : PV P E (.indexAddr st x y) (.pointer (some (rp A i sz 0))) :=
  p_index hx ((hm.ro (A:=A) (D:=D)).some_ (by omega)) hy h0 (by omega)
theorem p_loadr [hO : RoAt L A α D w0 xs] [h1c : One P pt] (hx : ev E x = some (.pointer (some (rp A i sz j)))) (hs : sz = D.sz) (h0 : 0 ≤ i) (h1 : i < xs.length) (hv : D.get (rdR D xs i) j = some v) : LV P E w0 L (.load pt x) v :=
  ⟨fun W hm n a ha dst ty pos after gd=>by
    obtain ⟨u,hu,hu2⟩:=h1c.out
    subst hs
    obtain ⟨i,rfl⟩:=Int.eq_ofNat_of_zero_le h0
    have h1 : i < xs.length:=by omega
    obtain ⟨c,hR,hc⟩:=(hm.ro (A:=A) (D:=D)).cell i h1
    rw [rdR_at h1] at hv
    have hcell:=hm.old (hc j v (D.get_ok hR hv))
    have hl : (loadVar pt ((adr A).add (i * D.sz + j))).run P W = .ok v W:=by
      unfold loadVar isAgg
      cases u <;> simp_all [underlying,load,Sem.run]
    simp [execOp,ha.eval hx,Instr.loadAt,Instr.sureAddr,rp,hl]⟩
theorem p_loadwr {m : Nat} [hO : RoCAt L A w0 q sz ws] [hA : Agg P pt m] (hx : ev E x = some (.pointer (some (rp A i sz 0)))) (hm : m = sz) (hi : i = q) : LV P E w0 L (.load pt x) (.agg ws.toArray) :=
  ⟨fun W hmem n a ha dst ty pos after gd=>by
    obtain ⟨R,hp⟩:=hO.mem
    obtain ⟨hA1,hl,hc⟩:=Mem.pure_ hp hmem
    obtain ⟨u,hu,hu2,hinf⟩:=hA.out
    subst hm hi
    have key : ∀ (vs : List Value) (acc : Array Value) (j : Nat) (a : Addr),(∀ q v,vs[q]? = some v → W.cell? (a.add (j + q)) = some v) → (loadCellsFrom a j vs.length acc).run P W = .ok (acc ++ vs.toArray) W:=by
      intro vs
      induction vs with
      | nil=>intro acc j a h;simp [loadCellsFrom]
      | cons v r ih =>
        intro acc j a h
        have h1:=h 0 v rfl
        rw [Nat.add_zero] at h1
        have h2:=ih (acc.push v) (j + 1) a (fun q u hq=>by have:=h (q + 1) u (by simpa using hq);rwa [Nat.add_assoc,Nat.add_comm 1 q])
        simp only [List.length_cons,loadCellsFrom,Sem.run_bind]
        have h3 : (load (a.add j)).run P W = .ok v W:=by simp [load,Sem.run,h1]
        rw [h3]
        simp only [Result.andThen_ok]
        rw [h2]
        simp
    have h4:=key ws #[] 0 ((adr A).add (q * m)) (fun q2 v hv=>by rw [addr_add_add,Nat.zero_add];exact hmem.old (hc q2 v hv))
    have h5 : (loadVar pt ((adr A).add (q * m))).run P W = .ok (.agg ws.toArray) W:=by
      rw [hl] at h4
      obtain ⟨inf,hi1,hi2⟩:=Option.map_eq_some_iff.1 hinf
      have hagg : (isAgg pt).run P W = .ok true W:=by
        unfold isAgg
        simp only [Sem.run_bind,run_underlying hu,Result.andThen_ok]
        cases u <;> first|rfl|(exfalso;simp at hu2)
      unfold loadVar
      simp only [Sem.run_bind,hagg,Result.andThen_ok,if_true]
      have h6 : (sizeOf pt).run P W = .ok m W:=by simp [sizeOf,typeInfo,hi1,hi2]
      rw [h6]
      simp only [Result.andThen_ok,loadCells]
      rw [h4]
      simp
    simp [execOp,ha.eval hx,Instr.loadAt,Instr.sureAddr,rp,h5]⟩
end
end Go.Proofs.YtampmicahnnebaaGreat.Sp
namespace Go.Proofs.YtampmicahnnebaaGreat.Sp
open Go Go.RowKit
theorem puts_app : ∀ (ws c r : List Value),ws.length = c.length → puts (c ++ r) 0 ws = ws ++ r
  | [],[],r,_=>rfl
  | w :: ws,a :: c,r,h=>by simp only [List.cons_append,puts,List.set_cons_zero];rw [puts_cons,puts_app ws c r (by simpa using h)]
theorem puts_skip : ∀ (c r ws : List Value) (o : Nat),puts (c ++ r) (c.length + o) ws = c ++ puts r o ws
  | [],r,ws,o=>by simp
  | a :: c,r,ws,o=>by
    have : (a :: c).length + o = (c.length + o) + 1:=by simp;omega
    rw [this,List.cons_append,puts_cons,puts_skip c r ws o];rfl
theorem put_part {cs : List Value} : ∀ (ws : List Value) (css1 css2 : List Value) (j : Nat),j + ws.length ≤ cs.length → puts (css1 ++ cs ++ css2) (css1.length + j) ws = css1 ++ puts cs j ws ++ css2:=by
  intro ws
  induction ws generalizing cs with
  | nil=>intros;rfl
  | cons w r ih =>
    intro c1 c2 j hj
    simp only [puts]
    have hj' : j < cs.length:=by simp at hj;omega
    have e : (c1 ++ cs ++ c2).set (c1.length + j) w = c1 ++ cs.set j w ++ c2:=by
      rw [List.append_assoc,List.set_append_right _ _ (by omega),Nat.add_sub_cancel_left,List.set_append_left _ _ hj',List.append_assoc]
    rw [e,Nat.add_assoc,ih c1 c2 (j + 1) (by simp at hj ⊢;omega)]
theorem flat_part {sz : Nat} : ∀ (css : List (List Value)) (i j : Nat) (ws : List Value),(∀ c ∈ css,c.length = sz) → (hi : i < css.length) → j + ws.length ≤ sz → puts css.flatten (i * sz + j) ws = (css.set i (puts css[i] j ws)).flatten
  | c :: r,0,j,ws,h,_,hw=>by
    have hc:=h c (List.mem_cons_self ..)
    have:=put_part (cs:=c) ws [] r.flatten j (by omega)
    simp only [List.nil_append,List.length_nil,Nat.zero_add] at this
    rw [Nat.zero_mul,Nat.zero_add,List.flatten_cons,this];rfl
  | c :: r,i + 1,j,ws,h,hi,hw=>by
    have hc:=h c (List.mem_cons_self ..)
    have : (i + 1) * sz + j = c.length + (i * sz + j):=by rw [Nat.add_mul,hc];omega
    rw [this,List.flatten_cons,puts_skip,flat_part r i j ws (fun x hx=>h x (List.mem_cons_of_mem _ hx)) (by simpa using hi) hw];rfl
theorem puts_len : ∀ (ws cs : List Value) (j : Nat),(puts cs j ws).length = cs.length
  | [],_,_=>rfl
  | w :: r,cs,j=>by simp only [puts];rw [puts_len];simp
theorem owns_puts {e sz n cap g : Nat} : ∀ (ws : List Value) (j : Nat) (W : World) (xs : List Value),W.ownsRow 0 e sz (.slice (some ⟨g,0,none⟩) n cap) n xs → (W.setCells g j ws).ownsRow 0 e sz (.slice (some ⟨g,0,none⟩) n cap) n (puts xs j ws)
  | [],_,_,_,h=>h
  | w :: r,j,W,xs,h=>owns_puts r (j + 1) _ _ (h.stored j w).1
theorem heap_setCells (g : Nat) : ∀ (ws : List Value) (j : Nat) (W : World) (k : Nat),k ≠ g → (W.setCells g j ws).heap[k]? = W.heap[k]?
  | [],_,_,_,_=>rfl
  | w :: r,j,W,k,h=>(heap_setCells g r (j + 1) _ k h).trans (Below.heap_setCell _ _ _ k (fun e=>h e))
section
variable {α : Type} {D : Ty α} {e c : Nat} {A : Option Addr} {xs : List α} {w0 W : World} {L L' R : List Asn}
def hol (D : Ty α) (e : Nat) (A : Option Addr) (c : Nat) (xs : List α) (i : Nat) (cs : List Value) : Asn :=
  exP (fun css : List (List Value)=>css.length = xs.length ∧ i < xs.length ∧ css[i]? = some cs ∧ (∀ c ∈ css,c.length = D.sz) ∧ ∀ u ∈ cs,u.oneCell' = true) (fun css=>row e D.sz A xs.length c css.flatten :: els D (xs.eraseIdx i) (css.eraseIdx i))
class HolAt (L : List Asn) (A : Option Addr) (c : outParam Nat) (α : outParam Type) (D : outParam (Ty α)) (e : outParam Nat) (xs : outParam (List α)) (i : outParam Nat) (cs : outParam (List Value)) : Prop where mem : ∃ R,L.Perm (hol D e A c xs i cs :: R)
instance HolAt.here {i : Nat} {cs : List Value} : HolAt (hol D e A c xs i cs :: L) A c α D e xs i cs:=⟨L,List.Perm.refl _⟩
instance (priority:=low) HolAt.there {i : Nat} {cs : List Value} {B : Asn} [h : HolAt L A c α D e xs i cs] : HolAt (B :: L) A c α D e xs i cs:=⟨by
  obtain ⟨R,h⟩:=h.mem
  exact ⟨B :: R,(List.Perm.cons B h).trans (List.Perm.swap _ B R)⟩⟩
theorem opn_ (h : Mem w0 W (own D e A c xs :: L)) (i : Nat) (hi : i < xs.length) : ∃ cs,Mem w0 W (hol D e A c xs i cs :: D.A xs[i] cs :: L):=by
  obtain ⟨css,hl,h⟩:=h.ex
  have hel : Mem w0 W (row e D.sz A xs.length c css.flatten :: D.A xs[i] (css[i]'(by omega)) :: (els D (xs.eraseIdx i) (css.eraseIdx i) ++ L)) :=
    h.perm (List.Perm.cons _ ((els_perm xs css i hi (by omega)).append_right L))
  have hs : ∀ c ∈ css,c.length = D.sz:=by
    obtain ⟨F,_,_,h3⟩:=h.sep
    obtain ⟨G,_,h4,_⟩:=SepIn.append h3
    exact els_len hl h4
  have hone : ∀ u ∈ css[i]'(by omega),u.oneCell' = true:=by
    obtain ⟨F,_,_,G,_,h3,_⟩:=hel.sep
    exact D.one h3
  refine ⟨css[i]'(by omega),Mem.mkx css ⟨hl,hi,List.getElem?_eq_getElem (by omega),hs,hone⟩ ?_⟩
  refine hel.perm (List.Perm.cons _ ?_)
  exact (List.perm_middle (a:=D.A xs[i] (css[i]'(by omega))) (l₁:=els D (xs.eraseIdx i) (css.eraseIdx i)) (l₂:=L)).symm
theorem els_put2 : ∀ (xs : List α) (css : List (List Value)) (i : Nat) (hi : i < xs.length) (hc : i < css.length) (x : α),(D.A x css[i] :: els D (xs.eraseIdx i) (css.eraseIdx i)).Perm (els D (xs.set i x) css):=by
  intro xs css i hi hc x
  have:=els_put (d:=D) xs css i hi hc x css[i]
  rwa [List.set_getElem_self] at this
theorem cls_ {i : Nat} {cs : List Value} {x : α} (h : Mem w0 W (hol D e A c xs i cs :: D.A x cs :: L)) : Mem w0 W (own D e A c (xs.set i x) :: L):=by
  obtain ⟨css,⟨hl,hi,hc,hs,hone⟩,h⟩:=h.ex
  have hci : css[i]'(by omega) = cs:=by rw [List.getElem?_eq_getElem (by omega)] at hc;exact Option.some.inj hc
  refine Mem.mkx css (by simpa using hl) ?_
  rw [List.length_set]
  refine h.perm (List.Perm.cons _ ?_)
  refine (List.perm_middle (a:=D.A x cs) (l₁:=els D (xs.eraseIdx i) (css.eraseIdx i)) (l₂:=L)).trans ?_
  have:=els_put2 (D:=D) xs css i hi (by omega) x
  rw [hci] at this
  exact this.append_right L
theorem hol_at {i : Nat} {cs : List Value} {F : Nat → Prop} (h : (hol D e A c xs i cs).H W F) : ∃ g,A = some ⟨g,0,none⟩ ∧ F g ∧ cs.length = D.sz ∧ (∀ j v,cs[j]? = some v → W.cell? ⟨g,i * D.sz + j,none⟩ = some v) ∧ (∀ j,W.frozen? ⟨g,j,none⟩ = false) ∧ i < xs.length:=by
  obtain ⟨css,⟨hl,hi,hc,hs,hone⟩,G,h1,⟨ho,h4⟩,h3⟩:=h
  have hci : css[i]'(by omega) = cs:=by rw [List.getElem?_eq_getElem (by omega)] at hc;exact Option.some.inj hc
  rcases ho.2 with ⟨_,h0⟩|⟨g,cap,cur,he,hb,hh,_⟩
  · omega
  injection he with he
  subst he
  have hcs : cs.length = D.sz:=by rw [← hci];exact hs _ (List.getElem_mem ..)
  refine ⟨g,rfl,h1 g (h4 g rfl),hcs,fun j v hv=>?_,fun j=>?_,hi⟩
  · have hj : j < D.sz:=by rw [← hcs];exact (List.getElem?_eq_some_iff.1 hv).1
    have:=ho.cells (g:=g) rfl (i * D.sz + j) v (by rw [flat_get i j hs (by omega) hj,hci];exact hv)
    rwa [add_plain,Nat.zero_add] at this
  · simp [World.frozen?,hh]
theorem hol_put {i j : Nat} {cs ws : List Value} {F : Nat → Prop} (h : (hol D e A c xs i cs).H W F) (hj : j + ws.length ≤ cs.length) (h1 : ∀ u ∈ ws,u.oneCell' = true) {g : Nat} (hA : A = some ⟨g,0,none⟩) : (hol D e A c xs i (puts cs j ws)).H (W.setCells g (i * D.sz + j) ws) F:=by
  subst hA
  obtain ⟨css,⟨hl,hi,hc,hs,hone⟩,G,g1,⟨ho,h4⟩,h3⟩:=h
  have hci : css[i]'(by omega) = cs:=by rw [List.getElem?_eq_getElem (by omega)] at hc;exact Option.some.inj hc
  have hcs : cs.length = D.sz:=by rw [← hci];exact hs _ (List.getElem_mem ..)
  have hone2 : ∀ (ws cs : List Value) (j : Nat),(∀ u ∈ cs,u.oneCell' = true) → (∀ u ∈ ws,u.oneCell' = true) → ∀ u ∈ puts cs j ws,u.oneCell' = true:=by
    intro ws
    induction ws with
    | nil=>intro cs j h _;exact h
    | cons w r ih =>
      intro cs j h h2
      refine ih _ _ (fun u hu=>?_) (fun u hu=>h2 u (List.mem_cons_of_mem _ hu))
      rcases List.mem_or_eq_of_mem_set hu with hu|hu
      · exact h u hu
      · subst hu;exact h2 _ (List.mem_cons_self ..)
  have hfl:=flat_part css i j ws hs (by omega) (by omega)
  rw [hci] at hfl
  refine ⟨css.set i (puts cs j ws),⟨by simpa using hl,hi,by simp [hl,hi],fun c hc=>?_,hone2 ws cs j hone h1⟩,G,g1,⟨?_,h4⟩,?_⟩
  · rcases List.mem_or_eq_of_mem_set hc with hc|hc
    · exact hs c hc
    · rw [hc,puts_len,hcs]
  · rw [← hfl]
    exact owns_puts ws _ W _ ho
  · rw [erase_set]
    exact h3.move (fun k hk _=>heap_setCells g ws _ W k (fun e=>hk.2 (by subst e;exact h4 _ rfl)))
theorem Mem.hol {i : Nat} {cs : List Value} [h : HolAt L A c α D e xs i cs] (hm : Mem w0 W L) : ∃ F,(Sp.hol D e A c xs i cs).H W F:=by
  obtain ⟨R,hp⟩:=h.mem
  obtain ⟨F,_,h2,_⟩:=(hm.perm hp).sep
  exact ⟨F,h2⟩
end
section
variable {P : Program} {n : Nat} {ops : Array Oper} {Q : Exit → Act → World → Prop} {rest : List Oper} {E : Env} {w0 W : World} {L L' R R1 R2 : List Asn}
variable {d : Nat} {ty pt st : TypeId} {pos : String} {after : Array Edge} {x y : Operand} {v : Value} {e sz j c l q m bytes : Nat} {A : Option Addr} {i : Int} {k k' : IntKind} {α : Type} {D : Ty α} {xs : List α} {cs cs' ws zs : List Value}
theorem p_indexh [hU : Und P st (.slice e)] [hS : Siz P e sz] [hO : HolAt L A c α D e xs q cs] (hm : Mem w0 W L) (hx : ev E x = some (.slice A l c)) (hl : l = xs.length) (hy : ev E y = some (.int k i)) (h0 : 0 ≤ i) (h1 : i < xs.length) : PV P E (.indexAddr st x y) (.pointer (some (rp A i sz 0))):=by
  obtain ⟨F,hF⟩:=hm.hol (A:=A)
  obtain ⟨g,hA,_⟩:=hol_at hF
  subst hA
  exact p_index (ad:=adr (some ⟨g,0,none⟩)) hx rfl hy h0 (by omega)
theorem p_loadh [hO : HolAt L A c α D e xs q cs] [h1c : One P pt] [hv : Nth cs j v] (hx : ev E x = some (.pointer (some (rp A i sz j)))) (hs : sz = D.sz) (hi : i = q) : LV P E w0 L (.load pt x) v :=
  ⟨fun W hm n a ha dst ty pos after gd=>by
    obtain ⟨F,hF⟩:=hm.hol (A:=A)
    obtain ⟨g,hA,_,hl,hc,_⟩:=hol_at hF
    obtain ⟨u,hu,hu2⟩:=h1c.out
    subst hs hA hi
    have hcell:=hc j v hv.out
    have hl : (loadVar pt (⟨g,q * D.sz + j,none⟩ : Addr)).run P W = .ok v W:=by
      unfold loadVar isAgg
      cases u <;> simp_all [underlying,load,Sem.run]
    simp [execOp,ha.eval hx,Instr.loadAt,Instr.sureAddr,rp,adr,add_plain,hl]⟩
theorem p_loadsh [hO : HolAt L A c α D e xs q cs] [hA : Agg P pt m] [hv : Sub cs j m ws] (hx : ev E x = some (.pointer (some (rp A i sz j)))) (hs : sz = D.sz) (hi : i = q) : LV P E w0 L (.load pt x) (.agg ws.toArray) :=
  ⟨fun W hm n a ha dst ty pos after gd=>by
    obtain ⟨F,hF⟩:=hm.hol (A:=A)
    obtain ⟨g,hAe,_,hl,hc,_⟩:=hol_at hF
    obtain ⟨u,hu,hu2,hinf⟩:=hA.out
    subst hs hAe hi
    obtain ⟨h1,h2⟩:=hv.out
    have hr : W.rangeAt g (q * D.sz + j) ws:=by
      intro i z hz
      rw [← h1,List.getElem?_take] at hz
      split at hz
      · rw [List.getElem?_drop] at hz
        rw [Nat.add_assoc]
        exact hc _ _ hz
      · cases hz
    have hl2 : ws.length = m:=by rw [← h1];simp;omega
    have:=run_loadVar_mid (P:=P) W g (q * D.sz + j) pt ws u hr hu (by cases u <;> simp_all [TypeDesc.isRow]) (by rw [hinf,hl2])
    simp [execOp,ha.eval hx,Instr.loadAt,Instr.sureAddr,rp,adr,add_plain,this]⟩
theorem s_storeh [hO : HolAt L A c α D e xs q cs] [hS : Siz P pt m] (hm : Mem w0 W L) (hx : ev E x = some (.pointer (some (rp A i sz j)))) (hy : ev E y = some v) (hs : sz = D.sz) (hi : i = q) [hv : Cel v ws] (hl : ws.length = m) (h1 : ws.all (·.oneCell') = true)
    [hp : Pts cs j ws cs'] [hr : Rp L (hol D e A c xs q cs) (hol D e A c xs q cs') L'] (h : ∀ W1,Mem w0 W1 L' → WL P n ops Q rest E W1) :
    WL P n ops Q (⟨none,.store pt x y,ty,pos,after,none⟩ :: rest) E W:=by
  obtain ⟨F,hF⟩:=hm.hol (A:=A)
  obtain ⟨g,hA,_,hlen,hc,hfz,_⟩:=hol_at hF
  subst hs hi
  obtain ⟨e1,e2⟩:=hp.out
  have hone : ∀ u ∈ ws,u.oneCell' = true:=by simpa [List.all_eq_true] using h1
  have ht : W.there g (q * D.sz + j) ws.length:=fun j2 hj2=>by
    have hlt : j + j2 < cs.length:=by omega
    refine ⟨?_,hfz _⟩
    rw [Nat.add_assoc,hc (j + j2) _ (List.getElem?_eq_getElem hlt)];simp
  have hrun:=run_store (P:=P) W g (q * D.sz + j) pt v ws hv.out ht (by rw [hS.out,hl]) hone
  obtain ⟨R,p1,p2⟩:=hr.out
  refine s_act (W1:=W.setCells g (q * D.sz + j) ws) rfl rfl (fun a ha=>?_) (h _ (Mem.perm (L:=hol D e A c xs q cs' :: R) ?_ p2.symm))
  · simp [execOp,ha.eval hx,ha.eval hy,Instr.storeAt,Instr.sureAddr,rp,hA,adr,add_plain,hrun]
  · refine (hm.perm p1).turn1 (fun F2 hF2 hH=>?_)
    have h3:=hol_put hH e2 hone hA
    rw [e1] at h3
    have hgr:=grown_setCells g ws (q * D.sz + j) W
    obtain ⟨g',hA',hFg',_⟩:=hol_at hH
    have : g' = g:=by rw [hA] at hA';injection hA' with h;injection h with h;exact h.symm
    subst this
    exact ⟨hgr.os,hgr.tape,hgr.output,hgr.size,fun k hk hn=>hgr.block k hk (fun e=>hn (Option.some.inj e ▸ hFg')),(hol D e A c xs q cs').mono (fun k hk=>.inl hk) h3⟩
theorem s_storew {x1 : α} [hO : OwnAt L A c α D e xs] [hS : Siz P pt m] (hm : Mem w0 W L) (hx : ev E x = some (.pointer (some (rp A i sz 0)))) (hy : ev E y = some v) (hs : sz = D.sz) (h0 : 0 ≤ i) (h1 : i < xs.length) [hv : Cel v ws] (hl : D.sz = m)
    [hp : Pk L (own D e A c xs) R1] [hk : MkIn R1 D ws x1 R2] (h : ∀ W1,Mem w0 W1 (own D e A c (xs.set i.toNat x1) :: R2) → WL P n ops Q rest E W1) :
    WL P n ops Q (⟨none,.store pt x y,ty,pos,after,none⟩ :: rest) E W:=by
  subst hs
  have hi : i.toNat < xs.length:=by omega
  obtain ⟨cs,hm2⟩:=opn_ (hm.pk (A:=own D e A c xs)) i.toNat hi
  have hm3 : Mem w0 W (hol D e A c xs i.toNat cs :: R1):=by
    have:=hm2.perm (List.Perm.swap _ _ _)
    exact this.drop
  have hm4 : Mem w0 W (hol D e A c xs i.toNat cs :: D.A x1 ws :: R2):=by
    obtain ⟨hb,F,f1,f2,f3⟩:=hm3
    exact ⟨hb,F,f1,f2,hk.out _ _ f3⟩
  have hwl : ws.length = D.sz ∧ ∀ u ∈ ws,u.oneCell' = true:=by
    obtain ⟨F,_,_,G,_,h3,_⟩:=hm4.sep
    exact ⟨D.len h3,D.one h3⟩
  obtain ⟨F,hF⟩ : ∃ F,(hol D e A c xs i.toNat cs).H W F:=⟨_,hm3.sep.choose_spec.2.1⟩
  obtain ⟨g,hA,_,hlen,hc,hfz,_⟩:=hol_at hF
  have ht : W.there g (i.toNat * D.sz + 0) ws.length:=fun j2 hj2=>by
    have hlt : 0 + j2 < cs.length:=by omega
    refine ⟨?_,hfz _⟩
    rw [Nat.add_assoc,hc (0 + j2) _ (List.getElem?_eq_getElem hlt)];simp
  have hrun:=run_store (P:=P) W g (i.toNat * D.sz + 0) pt v ws hv.out ht (by rw [hS.out,hwl.1,hl]) hwl.2
  have hpw : puts cs 0 ws = ws:=by
    have:=puts_app ws cs [] (by rw [hwl.1,hlen])
    simpa using this
  have hm5 : Mem w0 (W.setCells g (i.toNat * D.sz + 0) ws) (hol D e A c xs i.toNat ws :: D.A x1 ws :: R2):=by
    refine hm4.turn1 (fun F2 hF2 hH=>?_)
    have h3:=hol_put (j:=0) hH (by omega) hwl.2 hA
    rw [hpw] at h3
    have hgr:=grown_setCells g ws (i.toNat * D.sz + 0) W
    obtain ⟨g',hA',hFg',_⟩:=hol_at hH
    have : g' = g:=by rw [hA] at hA';injection hA' with h;injection h with h;exact h.symm
    subst this
    exact ⟨hgr.os,hgr.tape,hgr.output,hgr.size,fun k hk hn=>hgr.block k hk (fun e=>hn (Option.some.inj e ▸ hFg')),(hol D e A c xs i.toNat ws).mono (fun k hk=>.inl hk) h3⟩
  refine s_act (W1:=W.setCells g (i.toNat * D.sz + 0) ws) rfl rfl (fun a ha=>?_) (h _ (cls_ hm5))
  simp only [Nat.add_zero] at hrun ⊢
  simp [execOp,ha.eval hx,ha.eval hy,Instr.storeAt,Instr.sureAddr,rp,hA,adr,add_plain,hrun]
class ZD {α : Type} (D : Ty α) (zs : List Value) : Prop where out : ∀ W F,(D.A D.z zs).H W F
end
end Go.Proofs.YtampmicahnnebaaGreat.Sp
namespace Go.Proofs.YtampmicahnnebaaGreat.Sp
open Go Go.RowKit
def nestR {α ι : Type} (sz : Nat) (z : α) (enc : α → ι → List Value) (facts : World → α → ι → Prop) (get : α → Nat → Option Value) (hl : ∀ x i,(enc x i).length = sz)
    (hg : ∀ x j v i,get x j = some v → (enc x i)[j]? = some v) : TyR α where
  sz:=sz
  z:=z
  R:=fun w x c=>∃ i,c = enc x i ∧ facts w x i
  get:=get
  len:=by rintro w x c ⟨i,rfl,_⟩;exact hl x i
  get_ok:=by rintro w x c j v ⟨i,rfl,_⟩ h;exact hg x j v i h
def rInt : TyR Int:=nestR (ι:=Unit) 1 0 (fun n _=>[.int .i64 n]) (fun _ _ _=>True) (fun n j=>match j with|0=>some (.int .i64 n)|_=>none) (fun _ _=>rfl)
  (fun x j v i h=>by match j with|0=>simpa using h|j + 1=>simp at h)
def rStr (b : Bool) : TyR ByteArray:=nestR (ι:=Unit) 1 ⟨#[]⟩ (fun n _=>[.string n]) (fun _ n _=>b = true → n.size ≤ maxLen) (fun n j=>match j with|0=>some (.string n)|_=>none) (fun _ _=>rfl)
  (fun x j v i h=>by match j with|0=>simpa using h|j + 1=>simp at h)
def rSlot (b : Bool) : TyR Slot:=nestR (ι:=Unit) 2 ⟨0,⟨#[]⟩⟩ encSlot (fun w x i=>(b = true → x.text.size ≤ maxLen)) getSlot (fun _ _=>rfl)
  (fun x j v i h=>by
    match j with
    | 0|1=>simpa [encSlot,getSlot] using h
    | j + 2=>simp [getSlot] at h)
def rFix (b : Bool) : TyR Fix:=nestR (ι:=Unit) 2 ⟨0,⟨#[]⟩⟩ encFix (fun w x i=>(b = true → x.text.size ≤ maxLen)) getFix (fun _ _=>rfl)
  (fun x j v i h=>by
    match j with
    | 0|1=>simpa [encFix,getFix] using h
    | j + 2=>simp [getFix] at h)
def rMsg (b : Bool) : TyR Msg:=nestR (ι:=At) 8 ⟨0,0,0,0,0,0,⟨#[]⟩,[]⟩ encMsg (fun w x i=>(b = true → x.text.size ≤ maxLen) ∧ RoRow (rSlot b) w i.1 x.slots) getMsg (fun _ _=>rfl)
  (fun x j v i h=>by
    match j with
    | 0|1|2|3|4|5|6=>simpa [encMsg,getMsg] using h
    | 7=>simp [getMsg] at h
    | j + 8=>simp [getMsg] at h)
def rAck : TyR Ack:=nestR (ι:=At) 2 ⟨0,[]⟩ encAck (fun w x i=>RoRow rInt w i.1 x.frm) getAck (fun _ _=>rfl)
  (fun x j v i h=>by
    match j with
    | 0=>simpa [encAck,getAck] using h
    | 1=>simp [getAck] at h
    | j + 2=>simp [getAck] at h)
structure RoRcd (b : Bool) (w : World) (x : Rcd) (i : AtRcd) : Prop where
  ss : RoRow (rSlot b) w i.a0.1 x.ss
  ds : RoRow (rSlot b) w i.a1.1 x.ds
  held : RoRow (rMsg b) w i.a2.1 x.held
  wishes : RoRow (rStr b) w i.a3.1 x.wishes
  yes : RoRow rInt w i.a4.1 x.yes
  best : RoRow (rSlot b) w i.a5.1 x.best
  acks : RoRow rAck w i.a6.1 x.acks
def rRcd (b : Bool) : TyR Rcd:=nestR (ι:=AtRcd) 18 ⟨0,0,false,0,0,[],0,0,[],[],[],false,false,0,[],[],[],0⟩ encRcd (fun w x i=>RoRcd b w x i) getRcd (fun _ _=>rfl)
  (fun x j v i h=>by
    match j with
    | 0|1|2|3|4|6|7|11|12|13|17=>simpa [encRcd,getRcd] using h
    | 5|8|9|10|14|15|16=>simp [getRcd] at h
    | j + 18=>simp [getRcd] at h)
theorem own_ro {α : Type} {D : Ty α} {DR : TyR α} {e c : Nat} {A : Option Addr} {xs : List α} {W : World} {F : Nat → Prop} (hz : D.sz = DR.sz) (h : ∀ {x c F},(D.A x c).H W F → DR.R W x c) (ho : (own D e A c xs).H W F) : RoRow DR W A xs:=by
  refine ⟨(own_max ho).1,fun hl=>(own_addr ho hl).1,fun i hi=>?_⟩
  obtain ⟨_,g,hg,_⟩:=own_addr ho (by omega)
  have hA:=(own_addr ho (by omega)).1
  obtain ⟨css,hl,G,h2,⟨hr,h4⟩,h3⟩:=ho
  obtain ⟨G2,h5⟩:=els_get i hi (by omega) h3
  refine ⟨css[i]'(by omega),h h5,fun j v hv=>?_⟩
  have hj : j < D.sz:=by rw [← D.len h5];exact (List.getElem?_eq_some_iff.1 hv).1
  rw [hg,← hz]
  refine hr.cells (g:=g) (by rw [hA,hg];rfl) _ v ?_
  rw [flat_get i j (els_len hl h3) (by omega) hj];exact hv
section
variable {W : World} {c : List Value} {F : Nat → Prop} {eS eM eT eI eA q : Nat} {A : Option Addr}
theorem ro_int {x : Int} (h : (tInt.A x c).H W F) : rInt.R W x c:=by obtain ⟨_,h,_⟩:=h;exact ⟨(),h,trivial⟩
theorem ro_str {x : ByteArray} (h : (tStr.A x c).H W F) : (rStr false).R W x c:=by obtain ⟨_,h,_⟩:=h;exact ⟨(),h,fun h=>by cases h⟩
theorem ro_slot {x : Slot} (h : (tSlot.A x c).H W F) : (rSlot false).R W x c:=by obtain ⟨i,h,_⟩:=h;exact ⟨i,h,fun h=>by cases h⟩
theorem ro_ints {xs : List Int} (h : (own tInt eI A q xs).H W F) : RoRow rInt W A xs:=own_ro rfl ro_int h
theorem ro_strs {xs : List ByteArray} (h : (own tStr eT A q xs).H W F) : RoRow (rStr false) W A xs:=own_ro rfl ro_str h
theorem ro_slots {xs : List Slot} (h : (own tSlot eS A q xs).H W F) : RoRow (rSlot false) W A xs:=own_ro rfl ro_slot h
theorem ro_msg {x : Msg} (h : ((tMsg eS).A x c).H W F) : (rMsg false).R W x c:=by obtain ⟨i,h,F2,_,h2,_⟩:=h;exact ⟨i,h,⟨(fun h=>by cases h),ro_slots h2⟩⟩
theorem ro_ack {x : Ack} (h : ((tAck eI).A x c).H W F) : rAck.R W x c:=by obtain ⟨i,h,F2,_,h2,_⟩:=h;exact ⟨i,h,ro_ints h2⟩
theorem ro_msgs {xs : List Msg} (h : (own (tMsg eS) eM A q xs).H W F) : RoRow (rMsg false) W A xs:=own_ro rfl ro_msg h
theorem ro_acks {xs : List Ack} (h : (own (tAck eI) eA A q xs).H W F) : RoRow rAck W A xs:=own_ro rfl ro_ack h
theorem ro_parts {x : Rcd} {i : AtRcd} {w0 : World} {L : List Asn} (h : Mem w0 W (partRcd eS eM eT eI eA x i ++ L)) : RoRcd false W x i:=by
  obtain ⟨_,_,_,a0,_,_,a1,_,_,a2,_,_,a3,_,_,a4,_,_,a5,_,_,a6,_⟩:=h
  exact ⟨ro_slots a0,ro_slots a1,ro_msgs a2,ro_strs a3,ro_ints a4,ro_slots a5,ro_acks a6⟩
end
theorem Mem.join {w0 W W1 : World} {L M : List Asn} (h : Mem w0 W L) (h2 : Mem W W1 M) : Mem w0 W1 (M ++ L) :=
  ⟨(h.step h2.below).below,SepIn.join (F:=fun k=>W.heap.size ≤ k) (fun k hk=>Nat.le_trans h.below.size hk) h2.sep ((h.sep.bound.move (fun k hk _=>h2.below.block k hk.2)).mono (fun k hk=>⟨hk.1,fun hg=>by have:=hk.2;omega⟩))⟩
def allN (p : Nat → Bool) (n : Nat) : Bool:=(List.range n).all p
theorem allN_zero {p : Nat → Bool} : allN p 0 = true:=rfl
theorem allN_succ {p : Nat → Bool} {i : Nat} (h : allN p i = true) (h1 : p i = true) : allN p (i + 1) = true:=by simp [allN,List.range_succ] at h ⊢;exact ⟨h,h1⟩
theorem allN_fail {p : Nat → Bool} {i n : Nat} (hi : i < n) (h1 : p i = false) : allN p n = false:=by
  simp only [allN,List.all_eq_false,List.mem_range];exact ⟨i,hi,by simp [h1]⟩
instance : ZD tInt [.int .i64 0]:=⟨fun W F=>⟨(),rfl,trivial⟩⟩
instance : ZD tStr [.string ⟨#[]⟩]:=⟨fun W F=>⟨(),rfl,trivial⟩⟩
instance : ZD tSlot [.int .i64 0,.string ⟨#[]⟩]:=⟨fun W F=>⟨(),rfl,trivial⟩⟩
instance : ZD tFix [.int .i64 0,.string ⟨#[]⟩]:=⟨fun W F=>⟨(),rfl,trivial⟩⟩
instance {eS : Nat} : ZD (tMsg eS) [.int .i64 0,.int .i64 0,.int .i64 0,.int .i64 0,.int .i64 0,.int .i64 0,.string ⟨#[]⟩,.slice none 0 0]:=⟨fun W F=>⟨(none,0),rfl,_,fun _ h=>h,own_nil tSlot eS,trivial⟩⟩
instance {eI : Nat} : ZD (tAck eI) [.int .i64 0,.slice none 0 0]:=⟨fun W F=>⟨(none,0),rfl,_,fun _ h=>h,own_nil tInt eI,trivial⟩⟩
theorem mk_nest {α : Type} {D : Ty α} {x : α} {ws : List Value} {L R : List Asn} {M : List Asn} (hp : ∀ W ok,SepIn W ok L → SepIn W ok (M ++ R)) (h : ∀ W F,SepIn W F M → (D.A x ws).H W F) : MkIn L D ws x R:=⟨fun W ok hs=>by
  obtain ⟨F,h1,h2,h3⟩:=SepIn.append (hp W ok hs)
  exact ⟨F,h1,h W F h2,h3⟩⟩
instance {L R : List Asn} {eS : Nat} {kind frm to ballot index known : Int} {text : ByteArray} {A : Option Addr} {c : Nat} {slots : List Slot} [h : Pk L (own tSlot eS A c slots) R] : MkIn L (tMsg eS) [.int .i64 kind,.int .i64 frm,.int .i64 to,.int .i64 ballot,.int .i64 index,.int .i64 known,.string text,.slice A slots.length c] ⟨kind,frm,to,ballot,index,known,text,slots⟩ R :=
  mk_nest (M:=[own tSlot eS A c slots]) (fun W ok hs=>hs.perm h.out) (fun W F hs=>⟨(A,c),rfl,hs⟩)
instance {L R : List Asn} {eI : Nat} {index : Int} {A : Option Addr} {c : Nat} {frm : List Int} [h : Pk L (own tInt eI A c frm) R] : MkIn L (tAck eI) [.int .i64 index,.slice A frm.length c] ⟨index,frm⟩ R :=
  mk_nest (M:=[own tInt eI A c frm]) (fun W ok hs=>hs.perm h.out) (fun W F hs=>⟨(A,c),rfl,hs⟩)
instance {L : List Asn} {x : Slot} {i : Unit} : MkIn L tSlot (encSlot x i) x L:=mk_flat fun _=>⟨(),rfl,trivial⟩
instance {L : List Asn} {x : Fix} {i : Unit} : MkIn L tFix (encFix x i) x L:=mk_flat fun _=>⟨(),rfl,trivial⟩
instance {L R : List Asn} {eS : Nat} {x : Msg} {i : At} [h : Pk L (own tSlot eS i.1 i.2 x.slots) R] : MkIn L (tMsg eS) (encMsg x i) x R:=mk_nest (M:=[own tSlot eS i.1 i.2 x.slots]) (fun W ok hs=>hs.perm h.out) (fun W F hs=>⟨i,rfl,hs⟩)
instance {L R : List Asn} {eI : Nat} {x : Ack} {i : At} [h : Pk L (own tInt eI i.1 i.2 x.frm) R] : MkIn L (tAck eI) (encAck x i) x R:=mk_nest (M:=[own tInt eI i.1 i.2 x.frm]) (fun W ok hs=>hs.perm h.out) (fun W F hs=>⟨i,rfl,hs⟩)
instance {x : Slot} {i : Unit} : Len (encSlot x i) 2:=⟨rfl⟩
instance {x : Msg} {i : At} : Len (encMsg x i) 8:=⟨rfl⟩
instance {x : Ack} {i : At} : Len (encAck x i) 2:=⟨rfl⟩
end Go.Proofs.YtampmicahnnebaaGreat.Sp
namespace Go.Proofs.YtampmicahnnebaaGreat.Sp
open Go Go.RowKit Go.Proofs.YtampmicahnnebaaGreatW.PrintLast
structure QP (Q : Exit → Act → World → Prop) : Prop where out : ∀ c (a : Act) d v w,Q (.panic c) (a.put d v) w → Q (.panic c) a w
theorem qp_then {N : Act → World → Prop} {Q : Exit → Act → World → Prop} (h : QP Q) : QP (Exit.then N Q):=⟨fun c a d v w hq=>h.out c a d v w hq⟩
theorem qp_block {id : Nat} {Q : Exit → Act → World → Prop} (h : QP Q) : QP (Exit.inBlock id Q):=⟨fun c a d v w hq=>h.out c a d v w hq⟩
theorem qp_body {P : Program} {fn : Func} {R : Ending → World → Prop} : QP (bodyPost P fn R):=⟨fun c a d v w hq=>by cases d <;> exact hq⟩
def planB (ops : Array Oper) (ds : List Nat) : Array Bool → List (Nat × Nat) → Bool
  | l,[]=>Region.ready .any ops l == []
  | l,(0,i) :: r=>Region.free .any ops l i && (Region.ready .any ops l).contains i && planB ops ds (l.setIfInBounds i true) r
  | l,(1,i) :: r=>Region.free .any ops l i && (Region.ready .any ops l).contains i && Region.closedB .any ops l && Region.lastB .any ops l ds i && planB ops ds (l.setIfInBounds i true) r
  | l,(2,i) :: r=>Region.ready .any ops l == [i] && !ds.contains i && planB ops ds (l.setIfInBounds i true) r
  | l,(_,i) :: r=>Region.ready .any ops l == [i] && ds.contains i && planB ops ds (l.setIfInBounds i true) r
section
variable {P : Program} {n : Nat} {ops : Array Oper} {Q : Exit → Act → World → Prop} {S : World → Prop} {ds : List Nat} {plan : List (Nat × Nat)} {E : Env} {W : World} {i md : Nat} {o : Oper}
structure WD (P : Program) (n : Nat) (ops : Array Oper) (Q : Exit → Act → World → Prop) (S : World → Prop) (ds : List Nat) (plan : List (Nat × Nat)) (E : Env) (W : World) : Prop where
  out : ∀ l,planB ops ds l plan = true → ∀ a,Fits n E a → S W → wpAnyLast P .any ops Q S ds plan.length l a W
structure WT (P : Program) (n : Nat) (ops : Array Oper) (Q : Exit → Act → World → Prop) (S : World → Prop) (ds : List Nat) (plan : List (Nat × Nat)) (E : Env) (W : World) : Prop where
  out : ∀ l,planB ops ds l plan = true → ∀ a,Fits n E a → wpAnyLast P .any ops Q S ds plan.length l a W
structure WO (P : Program) (n : Nat) (ops : Array Oper) (Q : Exit → Act → World → Prop) (S : World → Prop) (ds : List Nat) (md i : Nat) (o : Oper) (plan : List (Nat × Nat)) (E : Env) (W : World) : Prop where
  out : ops[i]? = some o → WD P n ops Q S ds ((md,i) :: plan) E W
theorem d_start {id : Nat} {l : List Oper} {L : List Asn} {w0 : World} (ds : List Nat) (plan : List (Nat × Nat)) (hm : Mem w0 W L) (hmix : P.follows .mixedOrders = true) (hsel : Region.noSelect l.toArray = true) (hq : QP Q)
    (hp : planB l.toArray ds (Array.replicate l.toArray.size false) plan = true) (hlen : plan.length = l.toArray.size) (h : QP Q → Region.noSelect l.toArray = true → ∀ W1,Mem w0 W1 L → WD P n l.toArray Q (fun w=>Mem w0 w L) ds plan E W1) : WC P n (.region id l.toArray true) Q E W:=by
  refine ⟨fun a ha=>?_⟩
  refine start_ (S:=fun w=>Mem w0 w L) (ds:=ds) (n:=plan.length) (Array.replicate l.toArray.size false) hmix hlen.symm (by rw [hlen]) hm.drew (fun hS=>?_)
  exact (h hq hsel _ hS).out _ hp a ha hS
def nthO : List Oper → Nat → Option Oper
  | o :: _,0=>some o
  | _ :: r,i + 1=>nthO r i
  | [],_=>none
theorem nthO_eq : ∀ (l : List Oper) (i : Nat),nthO l i = l[i]?
  | [],i=>by cases i <;> rfl
  | o :: r,0=>rfl
  | o :: r,i + 1=>by rw [nthO,nthO_eq r i,List.getElem?_cons_succ]
theorem d_next {l : List Oper} (ho : nthO l i = some o) (h : WO P n l.toArray Q S ds md i o plan E W) : WD P n l.toArray Q S ds ((md,i) :: plan) E W:=h.out (by rw [nthO_eq] at ho;simpa using ho)
variable {dst : Option Tmp} {d : Nat} {op : Op} {ty : TypeId} {pos : String} {after : Array Edge} {v : Value}
theorem d_pv (hq : QP Q) (hsel : Region.noSelect ops = true) (hp : PV P E op v) (hn : Nat.blt d n = true) (h : WD P n ops Q S ds plan ((d,v) :: E) W) : WO P n ops Q S ds 0 i ⟨some d,op,ty,pos,after,none⟩ plan E W:=by
  refine ⟨fun ho=>⟨fun l hl a ha hS=>?_⟩⟩
  simp only [planB,Bool.and_eq_true] at hl
  obtain ⟨⟨h1,h2⟩,h3⟩:=hl
  refine wpAnyLast_any (v:=v) ho (Region.noSelect_spec hsel) (fun c a w=>hq.out c a _ _ w) _ l a W (Region.free_spec ho h1) (by simpa using h2) (.inl ⟨by simp [Region.wanted],fun w=>hp.out n a ha _ _ _ _ _ _⟩) ?_
  exact h.out _ h3 _ (ha.put (by simpa [Nat.blt_eq] using hn) v) hS
theorem d_ld {L : List Asn} {w0 : World} (hq : QP Q) (hsel : Region.noSelect ops = true) (hl : LV P E w0 L op v) (hn : Nat.blt d n = true)
    (h : WD P n ops Q (fun w=>Mem w0 w L) ds plan ((d,v) :: E) W) : WO P n ops Q (fun w=>Mem w0 w L) ds 1 i ⟨some d,op,ty,pos,after,none⟩ plan E W:=by
  refine ⟨fun ho=>⟨fun l hb a ha hS=>?_⟩⟩
  simp only [planB,Bool.and_eq_true] at hb
  obtain ⟨⟨⟨⟨h1,h2⟩,h4⟩,h5⟩,h3⟩:=hb
  refine wpAnyLast_take (v:=v) ho hsel h1 h2 h4 h5 (fun c a w=>hq.out c a _ _ w) ?_ hS ?_
  · exact .inl ⟨by simp [Region.wanted],fun w hw=>hl.out w hw n a ha _ _ _ _ _⟩
  · exact h.out _ h3 _ (ha.put (by simpa [Nat.blt_eq] using hn) v) hS
theorem d_gp (hq : QP Q) (hsel : Region.noSelect ops = true) (hn : Nat.blt d n = true) (h : GP P E op fun v=>WD P n ops Q S ds plan ((d,v) :: E) W) : WO P n ops Q S ds 0 i ⟨some d,op,ty,pos,after,none⟩ plan E W:=by
  obtain ⟨v,hp,h⟩:=h.out
  exact d_pv hq hsel hp hn h
theorem d_gv {L : List Asn} {w0 : World} (hq : QP Q) (hsel : Region.noSelect ops = true) (hn : Nat.blt d n = true) (h : GV P E w0 L op fun v=>WD P n ops Q (fun w=>Mem w0 w L) ds plan ((d,v) :: E) W) : WO P n ops Q (fun w=>Mem w0 w L) ds 1 i ⟨some d,op,ty,pos,after,none⟩ plan E W:=by
  obtain ⟨v,hp,h⟩:=h.out
  exact d_ld hq hsel hp hn h
theorem d_off {j : Nat} {u u' : Bool} {oj : Oper} {t : Nat} (hm : md = 0 ∨ md = 1) (hq : QP Q) (hsel : Region.noSelect ops = true) (ho2 : o.guard = some (j,u)) (hj : ops[j]? = some oj) (hd : oj.dst = some t) (ht : look E t = some (.bool u')) (hb : u' = !u) (hdd : o.dst = some d) (hn : Nat.blt d n = true)
    (h : WD P n ops Q S ds plan ((d,undef) :: E) W) : WO P n ops Q S ds md i o plan E W:=by
  refine ⟨fun ho=>⟨fun l hl a ha hS=>?_⟩⟩
  have hne : (u' == u) = false:=by subst hb;cases u <;> rfl
  have hw : Region.wanted o (yielded ops a.tmps) = false:=by
    have h1:=ha.slots t _ ht
    have h2 : a.tmps[t]? = some (.bool u'):=by
      cases hq : a.tmps[t]? with
      | none=>simp [hq] at h1;cases h1
      | some q=>simp [hq] at h1;rw [h1]
    simpa [Region.wanted,ho2,yielded,hj,hd,h2] using hne
  have key : Region.free .any ops l i = true ∧ (Region.ready .any ops l).contains i = true ∧ planB ops ds (l.setIfInBounds i true) plan = true:=by
    rcases hm with rfl|rfl
    · simp only [planB,Bool.and_eq_true] at hl;exact ⟨hl.1.1,hl.1.2,hl.2⟩
    · simp only [planB,Bool.and_eq_true] at hl;exact ⟨hl.1.1.1.1,hl.1.1.1.2,hl.2⟩
  obtain ⟨h1,h2,h3⟩:=key
  refine wpAnyLast_any (v:=undef) ho (Region.noSelect_spec hsel) (fun c a w=>hq.out c a _ _ w) _ l a W (Region.free_spec ho h1) (by simpa using h2) (.inr ⟨hw,rfl⟩) ?_
  rw [hdd]
  exact h.out _ h3 _ (ha.put (by simpa [Nat.blt_eq] using hn) undef) hS
theorem d_on {j : Nat} {u : Bool} {oj : Oper} {t : Nat} (hq : QP Q) (hsel : Region.noSelect ops = true) {L : List Asn} {w0 : World} (hmd : md = 0 ∨ md = 1) (hj : ops[j]? = some oj) (hd : oj.dst = some t) (ht : look E t = some (.bool u))
    (hl : LV P E w0 L op v) (hp : md = 0 → PV P E op v) (hn : Nat.blt d n = true)
    (h : WD P n ops Q (fun w=>Mem w0 w L) ds plan ((d,v) :: E) W) : WO P n ops Q (fun w=>Mem w0 w L) ds md i ⟨some d,op,ty,pos,after,some (j,u)⟩ plan E W:=by
  refine ⟨fun ho=>⟨fun l hb a ha hS=>?_⟩⟩
  have hw : Region.wanted (⟨some d,op,ty,pos,after,some (j,u)⟩ : Oper) (yielded ops a.tmps) = true:=by
    have h1:=ha.slots t _ ht
    have h2 : a.tmps[t]? = some (.bool u):=by
      cases hq : a.tmps[t]? with
      | none=>simp [hq] at h1;cases h1
      | some q=>simp [hq] at h1;rw [h1]
    simp [Region.wanted,yielded,hj,hd,h2]
  rcases hmd with rfl|rfl
  · simp only [planB,Bool.and_eq_true] at hb
    obtain ⟨⟨h1,h2⟩,h3⟩:=hb
    refine wpAnyLast_any (v:=v) ho (Region.noSelect_spec hsel) (fun c a w=>hq.out c a _ _ w) _ l a W (Region.free_spec ho h1) (by simpa using h2) (.inl ⟨hw,fun w=>(hp rfl).out n a ha _ _ _ _ _ _⟩) ?_
    exact h.out _ h3 _ (ha.put (by simpa [Nat.blt_eq] using hn) v) hS
  · simp only [planB,Bool.and_eq_true] at hb
    obtain ⟨⟨⟨⟨h1,h2⟩,h4⟩,h5⟩,h3⟩:=hb
    refine wpAnyLast_take (v:=v) ho hsel h1 h2 h4 h5 (fun c a w=>hq.out c a _ _ w) ?_ hS ?_
    · exact .inl ⟨hw,fun w hw=>hl.out w hw n a ha _ _ _ _ _⟩
    · exact h.out _ h3 _ (ha.put (by simpa [Nat.blt_eq] using hn) v) hS
theorem d_onp {j : Nat} {u : Bool} {oj : Oper} {t : Nat} {L : List Asn} {w0 : World} (hq : QP Q) (hsel : Region.noSelect ops = true) (hj : ops[j]? = some oj) (hd : oj.dst = some t) (ht : look E t = some (.bool u)) (hp : PV P E op v) (hn : Nat.blt d n = true)
    (h : WD P n ops Q (fun w=>Mem w0 w L) ds plan ((d,v) :: E) W) : WO P n ops Q (fun w=>Mem w0 w L) ds 0 i ⟨some d,op,ty,pos,after,some (j,u)⟩ plan E W:=d_on hq hsel (.inl rfl) hj hd ht hp.lv (fun _=>hp) hn h
theorem d_onl {j : Nat} {u : Bool} {oj : Oper} {t : Nat} {L : List Asn} {w0 : World} (hq : QP Q) (hsel : Region.noSelect ops = true) (hj : ops[j]? = some oj) (hd : oj.dst = some t) (ht : look E t = some (.bool u)) (hl : LV P E w0 L op v) (hn : Nat.blt d n = true)
    (h : WD P n ops Q (fun w=>Mem w0 w L) ds plan ((d,v) :: E) W) : WO P n ops Q (fun w=>Mem w0 w L) ds 1 i ⟨some d,op,ty,pos,after,some (j,u)⟩ plan E W:=d_on hq hsel (.inr rfl) hj hd ht hl (fun h=>by cases h) hn h
theorem d_gpg {j : Nat} {u b : Bool} {oj : Oper} {t : Nat} {L : List Asn} {w0 : World} (hq : QP Q) (hsel : Region.noSelect ops = true) (hj : ops[j]? = some oj) (hd : oj.dst = some t) (ht : look E t = some (.bool b)) (hb : b = u) (hn : Nat.blt d n = true)
    (h : GP P E op fun v=>WD P n ops Q (fun w=>Mem w0 w L) ds plan ((d,v) :: E) W) : WO P n ops Q (fun w=>Mem w0 w L) ds 0 i ⟨some d,op,ty,pos,after,some (j,u)⟩ plan E W:=by
  rw [hb] at ht
  obtain ⟨v,hp,h⟩:=h.out
  exact d_onp hq hsel hj hd ht hp hn h
theorem d_gvg {j : Nat} {u b : Bool} {oj : Oper} {t : Nat} {L : List Asn} {w0 : World} (hq : QP Q) (hsel : Region.noSelect ops = true) (hj : ops[j]? = some oj) (hd : oj.dst = some t) (ht : look E t = some (.bool b)) (hb : b = u) (hn : Nat.blt d n = true)
    (h : GV P E w0 L op fun v=>WD P n ops Q (fun w=>Mem w0 w L) ds plan ((d,v) :: E) W) : WO P n ops Q (fun w=>Mem w0 w L) ds 1 i ⟨some d,op,ty,pos,after,some (j,u)⟩ plan E W:=by
  rw [hb] at ht
  obtain ⟨v,hp,h⟩:=h.out
  exact d_onl hq hsel hj hd ht hp hn h
theorem list_wpOp {K : Act → World → Prop} {a : Act} {w : World} (ho : ops[i]? = some o) (h : wpList P ops (Exit.then K Q) [o] a w) : wpOp P ops Q i K a w:=by
  unfold wpOp
  simp only [ho]
  unfold wpList at h
  split at h
  · rename_i hw
    rw [if_pos hw]
    rcases h with h|⟨h1,h2⟩
    · refine .inl ?_
      unfold Oper.wp at h ⊢
      generalize (execOp a.eval o).run P w = r at h ⊢
      cases r with
      | ok q w'=>cases q <;> simp only [Oper.upon,wpList] at h ⊢ <;> exact h
      | halt q w'=>cases q <;> simp only [Oper.upon,wpList] at h ⊢ <;> exact h
    · exact .inr ⟨h1,by obtain ⟨a0,w1,hh⟩:=h2;exact ⟨a0,w1,hh⟩⟩
  · rename_i hw
    rw [if_neg hw]
    exact h
theorem d_one0 (h : WL P n ops (Exit.then (fun a w=>S w ∧ ∀ l,planB ops ds l plan = true → wpAnyLast P .any ops Q S ds plan.length l a w) Q) [o] E W) : WO P n ops Q S ds 2 i o plan E W:=by
  refine ⟨fun ho=>⟨fun l hl a ha hS=>?_⟩⟩
  simp only [planB,Bool.and_eq_true,beq_iff_eq] at hl
  obtain ⟨⟨h1,h2⟩,h3⟩:=hl
  refine wpAnyLast_all h1 (by simp) (fun j hj=>?_)
  obtain rfl : j = i:=by simpa using hj
  refine wpOp_mono (fun a' w' hk=>⟨fun _ _=>hk.1,hk.2 _ h3⟩) (list_wpOp ho (h.out a ha))
theorem d_one {L : List Asn} {w0 : World} (h : WL P n ops (Exit.then (fun a w=>Mem w0 w L ∧ ∀ l,planB ops ds l plan = true → wpAnyLast P .any ops Q (fun w=>Mem w0 w L) ds plan.length l a w) Q) [o] E W) : WO P n ops Q (fun w=>Mem w0 w L) ds 2 i o plan E W:=d_one0 h
theorem d_last (h : WL P n ops (Exit.then (fun a w=>∀ l,planB ops ds l plan = true → wpAnyLast P .any ops Q S ds plan.length l a w) Q) [o] E W) : WO P n ops Q S ds 3 i o plan E W:=by
  refine ⟨fun ho=>⟨fun l hl a ha hS=>?_⟩⟩
  simp only [planB,Bool.and_eq_true,beq_iff_eq] at hl
  obtain ⟨⟨h1,h2⟩,h3⟩:=hl
  refine wpAnyLast_all h1 (by simp) (fun j hj=>?_)
  obtain rfl : j = i:=by simpa using hj
  refine wpOp_mono (fun a' w' hk=>⟨fun hn=>absurd (by simpa using h2) hn,hk _ h3⟩) (list_wpOp ho (h.out a ha))
theorem d_back (hS : S W) (h : WD P n ops Q S ds plan E W) : WN n .normal (Exit.then (fun a w=>S w ∧ ∀ l,planB ops ds l plan = true → wpAnyLast P .any ops Q S ds plan.length l a w) Q) E W:=⟨fun a ha=>⟨hS,fun l hl=>h.out l hl a ha hS⟩⟩
theorem d_backT (h : WT P n ops Q S ds plan E W) : WN n .normal (Exit.then (fun a w=>∀ l,planB ops ds l plan = true → wpAnyLast P .any ops Q S ds plan.length l a w) Q) E W:=⟨fun a ha=>fun l hl=>h.out l hl a ha⟩
theorem gR {id : Nat} {ops : Array Oper} (h : WC P n (.region id ops true) Q E W) : WC P n (.region id ops true) Q E W:=h
theorem gD {l : List (Nat × Nat)} (h : WD P n ops Q S ds l E W) : WD P n ops Q S ds l E W:=h
theorem gT {l : List (Nat × Nat)} (h : WT P n ops Q S ds l E W) : WT P n ops Q S ds l E W:=h
theorem d_done (h : WN n .normal Q E W) : WD P n ops Q S ds [] E W:=⟨fun l hl a ha hS=>wpAnyLast_done (by simpa [planB] using hl) (h.out a ha) _⟩
theorem d_doneT (h : WN n .normal Q E W) : WT P n ops Q S ds [] E W:=⟨fun l hl a ha=>wpAnyLast_done (by simpa [planB] using hl) (h.out a ha) _⟩
theorem d_pvT (hq : QP Q) (hsel : Region.noSelect ops = true) (ho : ops[i]? = some ⟨some d,op,ty,pos,after,none⟩) (hp : PV P E op v) (hn : Nat.blt d n = true) (h : WT P n ops Q S ds plan ((d,v) :: E) W) : WT P n ops Q S ds ((0,i) :: plan) E W:=by
  refine ⟨fun l hl a ha=>?_⟩
  simp only [planB,Bool.and_eq_true] at hl
  obtain ⟨⟨h1,h2⟩,h3⟩:=hl
  refine wpAnyLast_any (v:=v) ho (Region.noSelect_spec hsel) (fun c a w=>hq.out c a _ _ w) _ l a W (Region.free_spec ho h1) (by simpa using h2) (.inl ⟨by simp [Region.wanted],fun w=>hp.out n a ha _ _ _ _ _ _⟩) ?_
  exact h.out _ h3 _ (ha.put (by simpa [Nat.blt_eq] using hn) v)
theorem d_gpT {ll : List Oper} (hq : QP Q) (hsel : Region.noSelect ll.toArray = true) (ho : nthO ll i = some ⟨some d,op,ty,pos,after,none⟩) (hn : Nat.blt d n = true) (h : GP P E op fun v=>WT P n ll.toArray Q S ds plan ((d,v) :: E) W) : WT P n ll.toArray Q S ds ((0,i) :: plan) E W:=by
  have ho : ll.toArray[i]? = some (⟨some d,op,ty,pos,after,none⟩ : Oper):=by rw [nthO_eq] at ho;simpa using ho
  obtain ⟨v,hp,h⟩:=h.out
  exact d_pvT hq hsel ho hp hn h
theorem d_nextT {ll : List Oper} (ho : nthO ll i = some o) (h : WL P n ll.toArray (Exit.then (fun a w=>∀ l,planB ll.toArray ds l plan = true → wpAnyLast P .any ll.toArray Q S ds plan.length l a w) Q) [o] E W) : WT P n ll.toArray Q S ds ((3,i) :: plan) E W:=by
  have ho : ll.toArray[i]? = some o:=by rw [nthO_eq] at ho;simpa using ho
  refine ⟨fun l hl a ha=>?_⟩
  simp only [planB,Bool.and_eq_true,beq_iff_eq] at hl
  obtain ⟨⟨h1,h2⟩,h3⟩:=hl
  refine wpAnyLast_all h1 (by simp) (fun j hj=>?_)
  obtain rfl : j = i:=by simpa using hj
  refine wpOp_mono (fun a' w' hk=>⟨fun hn=>absurd (by simpa using h2) hn,hk _ h3⟩) (list_wpOp ho (h.out a ha))
end
end Go.Proofs.YtampmicahnnebaaGreat.Sp
namespace Go.Proofs.YtampmicahnnebaaGreat.Sp
open Go Go.RowKit Go.Proofs.YtampmicahnnebaaGreatW.PrintLast
section
variable {P : Program} {n : Nat} {ops : Array Oper} {Q : Exit → Act → World → Prop} {rest : List Oper} {E : Env} {W : World} {o oj : Oper} {j t : Nat} {u b : Bool}
theorem s_split (ho : o.guard = some (j,u)) (hj : ops[j]? = some oj) (hd : oj.dst = some t) (ht : look E t = some (.bool b)) (h1 : b = true → WL P n ops Q (o :: rest) E W) (h0 : b = false → WL P n ops Q (o :: rest) E W) : WL P n ops Q (o :: rest) E W:=by
  cases b with
  | true=>exact h1 rfl
  | false=>exact h0 rfl
theorem d_split {S : World → Prop} {ds : List Nat} {md i : Nat} {plan : List (Nat × Nat)} (ho : o.guard = some (j,u)) (hj : ops[j]? = some oj) (hd : oj.dst = some t) (ht : look E t = some (.bool b)) (h1 : b = true → WO P n ops Q S ds md i o plan E W) (h0 : b = false → WO P n ops Q S ds md i o plan E W) : WO P n ops Q S ds md i o plan E W:=by
  cases b with
  | true=>exact h1 rfl
  | false=>exact h0 rfl
theorem addr_zero (a : Addr) : a.add 0 = a:=by unfold Addr.add;simp
theorem p_sliceto {st e sz : Nat} {x y : Operand} {A : Option Addr} {l c : Nat} {k : IntKind} {m : Int} [hU : Und P st (.slice e)] [hS : Siz P e sz] (hx : ev E x = some (.slice A l c)) (hy : ev E y = some (.int k m)) (h0 : 0 ≤ m) (h1 : m ≤ c) : PV P E (.slice st x none (some y) none) (.slice A m.toNat c):=⟨fun n a ha dst ty pos after gd W=>by
  obtain ⟨i0,hi,hs⟩:=Option.map_eq_some_iff.1 hS.out
  have hA : A.map (·.add 0) = A:=by cases A <;> simp [addr_zero]
  have hu:=hU.out
  simp [execOp,ha.eval hx,ha.eval hy,Instr.sliceAt,Instr.slice,Instr.sliceBounds,Instr.sliceBound,asIntOf,underlying,hu,h0,h1,sizeOf,typeInfo,hi,hA]⟩
theorem ro_take {α : Type} {D : TyR α} {w : World} {A : Option Addr} {xs : List α} (h : RoRow D w A xs) (k : Nat) : RoRow D w A (xs.take k):=by
  have hl : (xs.take k).length ≤ xs.length:=by simp;omega
  refine ⟨Nat.le_trans hl h.max,fun hp=>h.some_ (by omega),fun i hi=>?_⟩
  obtain ⟨c,h1,h2⟩:=h.cell i (by omega)
  exact ⟨c,by rw [List.getElem_take];exact h1,h2⟩
theorem p_loadrc {E : Env} {w0 : World} {L : List Asn} {pt : TypeId} {x : Operand} {A : Option Addr} {i : Int} {sz q j : Nat} {ws : List Value} {v : Value} [hO : RoCAt L A w0 q sz ws] [h1c : One P pt] [hv : Nth ws j v] (hx : ev E x = some (.pointer (some (rp A i sz j)))) (hi : i = q) : LV P E w0 L (.load pt x) v :=
  ⟨fun W hmem n a ha dst ty pos after gd=>by
    obtain ⟨R,hp⟩:=hO.mem
    obtain ⟨hA1,hl,hc⟩:=Mem.pure_ hp hmem
    obtain ⟨u,hu,hu2⟩:=h1c.out
    subst hi
    have hcell:=hmem.old (hc j v hv.out)
    clear hA1
    have hl : (loadVar pt ((adr A).add (q * sz + j))).run P W = .ok v W:=by
      unfold loadVar isAgg
      cases u <;> simp_all [underlying,load,Sem.run]
    simp [execOp,ha.eval hx,Instr.loadAt,Instr.sureAddr,rp,hl]⟩
theorem allN_congr {p q : Nat → Bool} {n : Nat} (h : ∀ j,j < n → p j = q j) : allN p n = allN q n:=by
  unfold allN
  rw [Bool.eq_iff_iff,List.all_eq_true,List.all_eq_true]
  constructor
  · intro hp j hj;rw [← h j (by simpa using hj)];exact hp j hj
  · intro hp j hj;rw [h j (by simpa using hj)];exact hp j hj
theorem rdR_take {α : Type} {D : TyR α} {xs : List α} {k j : Nat} (h : j < k) : rdR D (xs.take k) (j : Int) = rdR D xs (j : Int):=by
  simp [rdR,List.getD_eq_getElem?_getD,List.getElem?_take,h]
theorem un_off {a : Act} (ha : Fits n E a) (ho : o.guard = some (j,u)) (hj : ops[j]? = some oj) (hd : oj.dst = some t) (ht : look E t = some undef) : Region.wanted o (yielded ops a.tmps) = false:=by
  have h1:=ha.slots t _ ht
  have h2 : a.tmps[t]? = some undef ∨ a.tmps[t]? = none:=by
    cases hq : a.tmps[t]? with
    | none=>exact .inr rfl
    | some q=>simp [hq] at h1;exact .inl (by rw [h1])
  rcases h2 with h2|h2 <;> simp [Region.wanted,ho,yielded,hj,hd,h2,undef]
theorem s_guard_un {d : Nat} (ho : o.guard = some (j,u)) (hj : ops[j]? = some oj) (hd : oj.dst = some t) (ht : look E t = some undef) (hdd : o.dst = some d) (hn : Nat.blt d n = true) (h : WL P n ops Q rest ((d,undef) :: E) W) : WL P n ops Q (o :: rest) E W:=⟨fun a ha=>by
  have hw:=un_off ha ho hj hd ht
  have h3:=h.out _ (ha.put (by simpa [Nat.blt_eq] using hn) undef)
  unfold wpList
  rw [if_neg (by simp [hw]),hdd]
  exact h3⟩
theorem d_off_un {S : World → Prop} {ds : List Nat} {md i d : Nat} {plan : List (Nat × Nat)} (hm : md = 0 ∨ md = 1) (hq : QP Q) (hsel : Region.noSelect ops = true) (ho2 : o.guard = some (j,u)) (hj : ops[j]? = some oj) (hd : oj.dst = some t) (ht : look E t = some undef) (hdd : o.dst = some d) (hn : Nat.blt d n = true)
    (h : WD P n ops Q S ds plan ((d,undef) :: E) W) : WO P n ops Q S ds md i o plan E W:=by
  refine ⟨fun ho=>⟨fun l hl a ha hS=>?_⟩⟩
  have hw:=un_off ha ho2 hj hd ht
  have key : Region.free .any ops l i = true ∧ (Region.ready .any ops l).contains i = true ∧ planB ops ds (l.setIfInBounds i true) plan = true:=by
    rcases hm with rfl|rfl
    · simp only [planB,Bool.and_eq_true] at hl;exact ⟨hl.1.1,hl.1.2,hl.2⟩
    · simp only [planB,Bool.and_eq_true] at hl;exact ⟨hl.1.1.1.1,hl.1.1.1.2,hl.2⟩
  obtain ⟨h1,h2,h3⟩:=key
  refine wpAnyLast_any (v:=undef) ho (Region.noSelect_spec hsel) (fun c a w=>hq.out c a _ _ w) _ l a W (Region.free_spec ho h1) (by simpa using h2) (.inr ⟨hw,rfl⟩) ?_
  rw [hdd]
  exact h.out _ h3 _ (ha.put (by simpa [Nat.blt_eq] using hn) undef) hS
theorem gO {S : World → Prop} {ds : List Nat} {md i : Nat} {plan : List (Nat × Nat)} (h : WO P n ops Q S ds md i o plan E W) : WO P n ops Q S ds md i o plan E W:=h
end
end Go.Proofs.YtampmicahnnebaaGreat.Sp
namespace Go.Proofs.YtampmicahnnebaaGreat.Sp
open Go Go.RowKit
structure Rdc (w : World) (sz : Nat) (A : Option Addr) (n : Nat) (cs : List Value) : Prop where
  len : cs.length = n * sz
  some_ : 0 < n → A = some (adr A)
  cell : ∀ j v,cs[j]? = some v → w.cell? ((adr A).add j) = some v
def lels {α : Type} (D : Ty α) (ys : List α) (css : List (List Value)) : Asn:=exP (fun _ : Unit=>css.length = ys.length) (fun _=>els D ys css)
section
variable {P : Program} {w0 W : World} {L R : List Asn} {α : Type} {D : Ty α} {e sz bytes c c2 st : Nat} {A A2 : Option Addr} {xs ys : List α} {css : List (List Value)}
theorem run_append_none [hU : Und P st (.slice e)] [hE : Elt P e sz bytes] (v : Value) (n : Nat) (cs : List Value) (hown : W.ownsRow 0 e sz v n cs) (ty : TypeId) (c2 : Nat) : (Builtin.append_ #[st,st] ty #[v,.slice none 0 c2]).run P W = .ok v W:=by
  obtain ⟨i,z,hi,hz,hzs,hs1,hb1,hs0,hb0⟩:=hE.spec
  rcases hown.2 with ⟨rfl,rfl⟩|⟨g,cap,cur,rfl,_,_,hnc,_⟩
  · simp [Builtin.append_,run_underlying hU.out,sizeOf,typeInfo,hi,Builtin.lenOf,Builtin.firstCells]
  · simp [Builtin.append_,run_underlying hU.out,sizeOf,typeInfo,hi,Builtin.lenOf,Builtin.firstCells,hnc,storeCells]
theorem lels_take (css : List (List Value)) (xs : List α) (k : Nat) (hl : css.length = xs.length) : els D xs css = els D (xs.take k) (css.take k) ++ els D (xs.drop k) (css.drop k):=by
  rw [← els_append _ _ _ _ (by simp;omega),List.take_append_drop,List.take_append_drop]
theorem run_appendn [hU : Und P st (.slice e)] [hE : Elt P e sz bytes] (hm : Mem w0 W (own D e A c xs :: lels D ys css :: R)) (hs : sz = D.sz) (hr : Rdc W sz A2 ys.length css.flatten) (hlim : (xs.length + ys.length) * bytes ≤ 140737488355328) (ty : TypeId) :
    ∃ A1 c1 W1,(Builtin.append_ #[st,st] ty #[.slice A xs.length c,.slice A2 ys.length c2]).run P W = .ok (.slice A1 (xs ++ ys).length c1) W1 ∧ Mem w0 W1 (own D e A1 c1 (xs ++ ys) :: R):=by
  obtain ⟨i0,z,hi,hz,hzs,hs1,hb1,hs0,hb0⟩:=hE.spec
  subst hs
  obtain ⟨F,hF,⟨_,_,F1,h1,⟨css0,hl,G,h2,⟨ho,h4⟩,h3⟩,F2,h5,⟨_,hcl,h6⟩,_⟩,key⟩:=hm.two.split
  by_cases hy0 : ys.length = 0
  · have hys : ys = []:=List.eq_nil_of_length_eq_zero hy0
    subst hys
    have hrun : ∃ W1,(Builtin.append_ #[st,st] ty #[.slice A xs.length c,.slice A2 0 c2]).run P W = .ok (.slice A xs.length c) W1 ∧ W1 = W:=by
      cases A2 with
      | none=>exact ⟨W,run_append_none _ _ _ ho ty c2,rfl⟩
      | some a2 =>
        rcases ho.2 with ⟨he,h0⟩|⟨g,cap,cur,he,_,hh,hnc,_,hcs,_⟩
        · injection he with he1 he2 he3
          subst he1 he3
          exact ⟨W,by simp [Builtin.append_,run_underlying hU.out,sizeOf,typeInfo,hi,Builtin.lenOf,Builtin.firstCells,h0,loadCells,loadCellsFrom],rfl⟩
        · injection he with he1 he2 he3
          subst he1 he3
          exact ⟨W,by simp [Builtin.append_,run_underlying hU.out,sizeOf,typeInfo,hi,Builtin.lenOf,Builtin.firstCells,hnc,storeCells,loadCells,loadCellsFrom],rfl⟩
    obtain ⟨W1,hrun,rfl⟩:=hrun
    refine ⟨A,c,W1,by simpa using hrun,?_⟩
    have hm2:=hm.perm (List.Perm.swap ..)
    simpa using hm2.drop
  have hsep6 : SepIn W F2 (els D ys css):=h6
  have hnl : css.flatten.length = ys.length * D.sz:=hr.len
  have hlen : xs.length + ys.length ≤ 140737488355328:=Nat.le_trans (Nat.le_mul_of_pos_right _ hb0) hlim
  obtain ⟨v1,W1,hrun,hown,hgr,_,hat⟩:=run_append_own_at (P:=P) (w:=W) 0 st ty e i0 z D.sz bytes hU.out hi hz hs1 hb1 hzs (by omega) (.slice A xs.length c) xs.length css0.flatten ho (adr A2) ys.length c2 css.flatten hnl
    hr.cell (els_one hcl hsep6) (by simp only [maxLen];omega) hlim (Nat.zero_le _)
  obtain ⟨hl1,hh⟩:=hown
  rcases hh with ⟨_,h0⟩|⟨g1,cap,cur,rfl,hb,hc,h7,h8,h9,h10⟩
  · omega
  have hA2:=hr.some_ (by omega)
  refine ⟨some ⟨g1,0,none⟩,cap,W1,by rw [hA2];simpa using hrun,?_⟩
  have hgF : (Value.slice A xs.length c).ownBlock = some g1 ∨ g1 = W.heap.size:=by
    rcases hat with hat|hat
    · exact .inl hat.symm
    · right;simpa [Value.ownBlock] using hat
  refine key W1 [own D e (some ⟨g1,0,none⟩) cap (xs ++ ys)] hgr.os hgr.tape hgr.output hgr.size (fun k hk hn=>hgr.block k hk (fun e=>hn (h1 k (h2 k (h4 k e.symm))))) ?_
  refine ⟨_,fun _ h=>h,⟨css0 ++ css,by simp [hl,hcl],fun k=>k = g1,fun k hk=>?_,⟨?_,fun k hk=>?_⟩,?_⟩,trivial⟩
  · subst hk
    rcases hgF with h|h
    · exact .inl (h1 _ (h2 _ (h4 _ h)))
    · exact .inr (by omega)
  · refine ⟨by simpa using hl1,.inr ⟨g1,cap,cur,by simp,Nat.zero_le _,hc,by simpa using h7,h8,h9,by simpa using h10⟩⟩
  · simpa [Value.ownBlock] using hk.symm
  · rw [els_append xs ys css0 css hl]
    have hnew : ∀ k,k < W.heap.size → ¬ G k → k ≠ g1:=fun k hk hnG e=>by
      subst e
      rcases hgF with h|h
      · exact hnG (h4 _ h)
      · omega
    have hsame : ∀ k,k < W.heap.size → ¬ G k → W1.heap[k]? = W.heap[k]?:=fun k hk hnG=>hgr.block k hk (fun e=>hnG (h4 k e.symm))
    refine SepIn.join (F:=fun k=>(F1 k ∧ ¬ G k) ∧ k < W.heap.size) (fun k hk=>⟨.inl (h1 k hk.1.1),hnew k hk.2 hk.1.2⟩) (h3.bound.move (fun k hk _=>hsame k hk.2 hk.1.2)) ?_
    have h11:=(h6.bound.move (fun k hk _=>hsame k hk.2 (fun hg=>(h5 k hk.1).2 (h2 k hg))))
    exact h11.mono (fun k hk=>⟨⟨.inl (h5 k hk.1).1,hnew k hk.2 (fun hg=>(h5 k hk.1).2 (h2 k hg))⟩,fun hf=>(h5 k hk.1).2 hf.1.1⟩)
end
class FlatO {α : Type} (D : Ty α) (enc : outParam (α → List Value)) : Prop where
  out : ∀ x W F,(D.A x (enc x)).H W F
instance : FlatO tInt (fun n=>[.int .i64 n]):=⟨fun x W F=>⟨(),rfl,trivial⟩⟩
instance : FlatO tStr (fun n=>[.string n]):=⟨fun x W F=>⟨(),rfl,trivial⟩⟩
instance : FlatO tSlot (fun x=>encSlot x ()):=⟨fun x W F=>⟨(),rfl,trivial⟩⟩
instance : FlatO tFix (fun x=>encFix x ()):=⟨fun x W F=>⟨(),rfl,trivial⟩⟩
class FlatR {α : Type} (D : TyR α) (enc : outParam (α → List Value)) : Prop where
  out : ∀ {w x c},D.R w x c → c = enc x
instance : FlatR rInt (fun n=>[.int .i64 n]):=⟨by rintro w x c ⟨_,h,_⟩;exact h⟩
instance {b : Bool} : FlatR (rStr b) (fun n=>[.string n]):=⟨by rintro w x c ⟨_,h,_⟩;exact h⟩
instance {b : Bool} : FlatR (rSlot b) (fun x=>encSlot x ()):=⟨by rintro w x c ⟨_,h,_⟩;exact h⟩
instance {b : Bool} : FlatR (rFix b) (fun x=>encFix x ()):=⟨by rintro w x c ⟨_,h,_⟩;exact h⟩
section
variable {w0 W : World} {L R : List Asn} {α : Type} {D : Ty α} {DR : TyR α} {enc : α → List Value} {e sz c : Nat} {A A2 : Option Addr} {xs ys : List α}
theorem els_flat [h : FlatO D enc] (W : World) : ∀ (ys : List α) (ok : Nat → Prop),SepIn W ok (els D ys (ys.map enc))
  | [],_=>trivial
  | y :: ys,ok=>⟨fun _=>False,fun _ h=>h.elim,h.out y W _,(els_flat W ys ok).mono (fun k hk=>⟨hk,fun h=>h⟩)⟩
theorem Mem.flat [h : FlatO D enc] (ys : List α) (hm : Mem w0 W L) : Mem w0 W (lels D ys (ys.map enc) :: L) :=
  ⟨hm.below,fun _=>False,fun _ h=>h.elim,⟨(),by simp,els_flat W ys _⟩,hm.sep.mono (fun k hk=>⟨hk,fun h=>h⟩)⟩
theorem ro_rdc [h : FlatR DR enc] (hr : RoRow DR W A ys) : Rdc W DR.sz A ys.length (ys.map enc).flatten:=by
  have hlen : ∀ c ∈ ys.map enc,c.length = DR.sz:=by
    intro c hc
    obtain ⟨y,hy,rfl⟩:=List.mem_map.1 hc
    obtain ⟨i,hi,rfl⟩:=List.getElem_of_mem hy
    obtain ⟨c,h1,_⟩:=hr.cell i hi
    rw [← h.out h1];exact DR.len h1
  have hl:=flat_length hlen
  rw [List.length_map] at hl
  refine ⟨hl,hr.some_,fun j v hv=>?_⟩
  have hj : j < ys.length * DR.sz:=by rw [← hl];exact (List.getElem?_eq_some_iff.1 hv).1
  have hz : 0 < DR.sz:=by
    rcases Nat.eq_zero_or_pos DR.sz with e|e
    · rw [e] at hj;omega
    · exact e
  have hq : j / DR.sz < ys.length:=(Nat.div_lt_iff_lt_mul hz).2 hj
  have hm:=Nat.mod_lt j hz
  obtain ⟨c,h1,h2⟩:=hr.cell (j / DR.sz) hq
  have h3:=flat_get (css:=ys.map enc) (j / DR.sz) (j % DR.sz) hlen (by simpa using hq) hm
  have e1 : j / DR.sz * DR.sz + j % DR.sz = j:=by rw [Nat.mul_comm];exact Nat.div_add_mod ..
  rw [e1] at h3
  rw [h3] at hv
  have:=h2 (j % DR.sz) v (by rw [h.out h1];simpa using hv)
  rwa [e1] at this
theorem RoRow.now (hm : Mem w0 W L) (h : RoRow DR w0 A ys) (hmv : ∀ x c,DR.R w0 x c → DR.R W x c) : RoRow DR W A ys :=
  ⟨h.max,h.some_,fun i hi=>by obtain ⟨c,h1,h2⟩:=h.cell i hi;exact ⟨c,hmv _ _ h1,fun j v hv=>hm.old (h2 j v hv)⟩⟩
theorem rdc_now {n : Nat} {cs : List Value} (hm : Mem w0 W L) (h : Rdc w0 sz A n cs) : Rdc W sz A n cs:=⟨h.len,h.some_,fun j v hv=>hm.old (h.cell j v hv)⟩
end
section
variable {P : Program} {n : Nat} {ops : Array Oper} {Q : Exit → Act → World → Prop} {rest : List Oper} {E : Env} {w0 W : World} {L L' R R1 R2 : List Asn}
variable {d : Nat} {ty st : TypeId} {pos : String} {after : Array Edge} {x y : Operand} {e sz bytes c c2 l m : Nat} {A A2 : Option Addr} {α : Type} {D : Ty α} {DR : TyR α} {enc : α → List Value} {xs ys : List α} {css : List (List Value)}
theorem s_appn [hU : Und P st (.slice e)] [hE : Elt P e sz bytes] (hm : Mem w0 W L) (hx : ev E x = some (.slice A l c)) (hy : ev E y = some (.slice A2 m c2)) [hO : OwnE L A e c α D xs] (hl : l = xs.length) (hs : sz = D.sz) [hp : Pk L (own D e A c xs) R1] [hq : Pk R1 (lels D ys css) R2] (hr : Rdc W sz A2 ys.length css.flatten) (hml : m = ys.length)
    (hlim : (xs.length + ys.length) * bytes ≤ 140737488355328) (hn : Nat.blt d n = true) (h : ∀ A1 c1 W1,Mem w0 W1 (own D e A1 c1 (xs ++ ys) :: R2) → WL P n ops Q rest ((d,.slice A1 (xs ++ ys).length c1) :: E) W1) :
    WL P n ops Q (⟨some d,.call { callee:=.builtin .append,args:=#[x,y],argTypes:=#[st,st] },ty,pos,after,none⟩ :: rest) E W:=by
  subst hl hml
  have hm2 : Mem w0 W (own D e A c xs :: lels D ys css :: R2):=(hm.pk (A:=own D e A c xs)).perm (List.Perm.cons _ hq.out)
  obtain ⟨A1,c1,W1,hrun,hm3⟩:=run_appendn (P:=P) (st:=st) (c2:=c2) hm2 hs hr hlim ty
  exact s_run (W1:=W1) rfl rfl hn (fun a ha=>by simp [execOp,ha.eval hx,ha.eval hy,resolve,invoke,builtin,hrun]) (h A1 c1 W1 hm3)
theorem mem_with (hm : Mem w0 W L) [hp : Pk L (own D e A c xs) R1] [hF : FlatO D enc] (ys : List α) : Mem w0 W (own D e A c xs :: lels D ys (ys.map enc) :: R1):=((hm.pk (A:=own D e A c xs)).flat (D:=D) ys).perm (List.Perm.swap ..)
theorem s_appw [hU : Und P st (.slice e)] [hE : Elt P e sz bytes] (hm : Mem w0 W L) (hx : ev E x = some (.slice A l c)) (hy : ev E y = some (.slice A2 m c2)) [hO : OwnE L A e c α D xs] (hl : l = xs.length) (hs : sz = D.sz) [hp : Pk L (own D e A c xs) R1] [hF : FlatO D enc] (hr : Rdc W sz A2 ys.length (ys.map enc).flatten) (hml : m = ys.length)
    (hlim : (xs.length + ys.length) * bytes ≤ 140737488355328) (hn : Nat.blt d n = true) (h : ∀ A1 c1 W1,Mem w0 W1 (own D e A1 c1 (xs ++ ys) :: R1) → WL P n ops Q rest ((d,.slice A1 (xs ++ ys).length c1) :: E) W1) :
    WL P n ops Q (⟨some d,.call { callee:=.builtin .append,args:=#[x,y],argTypes:=#[st,st] },ty,pos,after,none⟩ :: rest) E W:=by
  subst hl hml
  obtain ⟨A1,c1,W1,hrun,hm3⟩:=run_appendn (P:=P) (st:=st) (c2:=c2) (mem_with (A:=A) (D:=D) (e:=e) (c:=c) (xs:=xs) hm ys) hs hr hlim ty
  exact s_run (W1:=W1) rfl rfl hn (fun a ha=>by simp [execOp,ha.eval hx,ha.eval hy,resolve,invoke,builtin,hrun]) (h A1 c1 W1 hm3)
theorem s_appr [hU : Und P st (.slice e)] [hE : Elt P e sz bytes] (hm : Mem w0 W L) (hx : ev E x = some (.slice A l c)) (hy : ev E y = some (.slice A2 m c2)) [hO : OwnE L A e c α D xs] (hl : l = xs.length) [hR : RoAt L A2 α DR w0 ys] (hs : sz = D.sz) (hs2 : sz = DR.sz) [hp : Pk L (own D e A c xs) R1] [hF : FlatO D enc] [hG : FlatR DR enc] (hml : m = ys.length)
    (hlim : (xs.length + ys.length) * bytes ≤ 140737488355328) (hn : Nat.blt d n = true) (h : ∀ A1 c1 W1,Mem w0 W1 (own D e A1 c1 (xs ++ ys) :: R1) → WL P n ops Q rest ((d,.slice A1 (xs ++ ys).length c1) :: E) W1) :
    WL P n ops Q (⟨some d,.call { callee:=.builtin .append,args:=#[x,y],argTypes:=#[st,st] },ty,pos,after,none⟩ :: rest) E W:=by
  have hr:=hm.ro (A:=A2) (D:=DR)
  have h1:=rdc_now hm (ro_rdc hr)
  rw [← hs2] at h1
  exact s_appw hm hx hy hl hs h1 hml hlim hn h
theorem s_app0 (D : Ty α) [hU : Und P st (.slice e)] [hE : Elt P e sz bytes] (hm : Mem w0 W L) (hx : ev E x = some (.slice none 0 0)) (hy : ev E y = some (.slice A2 m c2)) (hs : sz = D.sz) [hF : FlatO D enc] (hr : Rdc W sz A2 ys.length (ys.map enc).flatten) (hml : m = ys.length)
    (hlim : ys.length * bytes ≤ 140737488355328) (hn : Nat.blt d n = true) (h : ∀ A1 c1 W1,Mem w0 W1 (own D e A1 c1 ys :: L) → WL P n ops Q rest ((d,.slice A1 ys.length c1) :: E) W1) :
    WL P n ops Q (⟨some d,.call { callee:=.builtin .append,args:=#[x,y],argTypes:=#[st,st] },ty,pos,after,none⟩ :: rest) E W :=
  s_appw (xs:=[]) (D:=D) (A:=none) (c:=0) (e:=e) (hp:=⟨List.Perm.refl _⟩) (hO:=⟨trivial⟩) (hm.nil D e) hx hy rfl hs hr hml (by simpa using hlim) hn (fun A1 c1 W1 h1=>h A1 c1 W1 h1)
theorem s_app0r (D : Ty α) [hU : Und P st (.slice e)] [hE : Elt P e sz bytes] (hm : Mem w0 W L) (hx : ev E x = some (.slice none 0 0)) (hy : ev E y = some (.slice A2 m c2)) [hR : RoAt L A2 α DR w0 ys] (hs : sz = D.sz) (hs2 : sz = DR.sz) [hF : FlatO D enc] [hG : FlatR DR enc] (hml : m = ys.length)
    (hlim : ys.length * bytes ≤ 140737488355328) (hn : Nat.blt d n = true) (h : ∀ A1 c1 W1,Mem w0 W1 (own D e A1 c1 ys :: L) → WL P n ops Q rest ((d,.slice A1 ys.length c1) :: E) W1) :
    WL P n ops Q (⟨some d,.call { callee:=.builtin .append,args:=#[x,y],argTypes:=#[st,st] },ty,pos,after,none⟩ :: rest) E W:=by
  have hr:=hm.ro (A:=A2) (D:=DR)
  have h1:=rdc_now hm (ro_rdc hr)
  rw [← hs2] at h1
  exact s_app0 D hm hx hy hs h1 hml hlim hn h
end
end Go.Proofs.YtampmicahnnebaaGreat.Sp
namespace Go.Proofs.YtampmicahnnebaaGreat.Sp
open Go Go.RowKit
section
variable {P : Program} {n : Nat} {ops : Array Oper} {Q : Exit → Act → World → Prop} {rest : List Oper} {E : Env} {w0 W : World} {L : List Asn} {d t e sz bytes : Nat} {ty : TypeId} {pos : String} {after : Array Edge}
theorem s_lit0 {α : Type} (D : Ty α) [hU : Und P t (.slice e)] [hE : Elt P e sz bytes] (hm : Mem w0 W L) (hs : sz = D.sz) (hn : Nat.blt d n = true) (h : ∀ A1 W1,Mem w0 W1 (own D e A1 0 [] :: L) → WL P n ops Q rest ((d,.slice A1 0 0) :: E) W1) :
    WL P n ops Q (⟨some d,.buildSlice t 0 #[],ty,pos,after,none⟩ :: rest) E W:=by
  obtain ⟨i,z,hi,hz,hzs,hs1,hb,hs0,hb0⟩:=hE.spec
  subst hs
  have hown:=World.ownsRow_lit (size:=D.sz) (e:=e) (base:=0) W #[] 0 (Nat.zero_le _) (by simp [maxLen]) (by simp)
  have hrun : (Instr.buildSlice t 0 #[]).run P W = .ok (.slice (some ⟨W.heap.size,0,none⟩) 0 0) (W.alloc (.cells #[] e)):=by
    simp [Instr.buildSlice,underlying,hU.out,sizeOf,typeInfo,hi,hs1,zeroValue,hz,newRow,World.alloc_eq,Instr.fill,Array.range_zero']
  refine s_run (W1:=W.alloc (.cells #[] e)) rfl rfl hn (fun a ha=>by simp [execOp,hrun]) (h (some ⟨W.heap.size,0,none⟩) _ ?_)
  refine hm.add ((Below.refl _ _).alloc (Nat.le_refl _) _) ?_
  exact ⟨[],rfl,fun k=>k = W.heap.size,fun k hk=>by omega,⟨hown,fun k hk=>by simpa [Value.ownBlock] using hk.symm⟩,trivial⟩
end
end Go.Proofs.YtampmicahnnebaaGreat.Sp
namespace Go.Proofs.YtampmicahnnebaaGreat.Sp
open Go Go.RowKit
theorem caps_parts {eS eM eT eI eA : Nat} {x : Rcd} {i : AtRcd} {w0 W : World} {L : List Asn} (h : Mem w0 W (partRcd eS eM eT eI eA x i ++ L)) : x.ds.length ≤ i.a1.2 ∧ x.wishes.length ≤ i.a3.2:=by
  obtain ⟨_,_,_,a0,_,_,a1,_,_,a2,_,_,a3,_,_,a4,_,_,a5,_,_,a6,_⟩:=h
  exact ⟨(own_max a1).2,(own_max a3).2⟩
theorem perm_in {A : Asn} {L R M : List Asn} (h : L.Perm (A :: R)) (B : List Asn) (h2 : M.Perm (B ++ L)) : M.Perm ((B ++ [A]) ++ R):=h2.trans ((List.Perm.append_left B h).trans (by simp))
theorem pk_rec {eS eM eT eI eA : Nat} {x : Rcd} {i : AtRcd} {w0 W : World} {L R0 R1 R2 R3 R4 R5 R6 : List Asn} [h0 : Pk L (own tSlot eS i.a0.1 i.a0.2 x.ss) R0] [h1 : Pk R0 (own tSlot eS i.a1.1 i.a1.2 x.ds) R1] [h2 : Pk R1 (own (tMsg eS) eM i.a2.1 i.a2.2 x.held) R2] [h3 : Pk R2 (own tStr eT i.a3.1 i.a3.2 x.wishes) R3] [h4 : Pk R3 (own tInt eI i.a4.1 i.a4.2 x.yes) R4] [h5 : Pk R4 (own tSlot eS i.a5.1 i.a5.2 x.best) R5] [h6 : Pk R5 (own (tAck eI) eA i.a6.1 i.a6.2 x.acks) R6] (h : Mem w0 W L) : Mem w0 W (partRcd eS eM eT eI eA x i ++ R6):=by
  refine h.perm ?_
  have q0:=perm_in h0.out [] (List.Perm.refl L)
  have q1:=perm_in h1.out _ q0
  have q2:=perm_in h2.out _ q1
  have q3:=perm_in h3.out _ q2
  have q4:=perm_in h4.out _ q3
  have q5:=perm_in h5.out _ q4
  exact perm_in h6.out _ q5
theorem ro_rec1 {eS eM eT eI eA : Nat} {x : Rcd} {i : AtRcd} {w0 W : World} {L R0 R1 R2 R3 R4 R5 R6 : List Asn} [h0 : Pk L (own tSlot eS i.a0.1 i.a0.2 x.ss) R0] [h1 : Pk R0 (own tSlot eS i.a1.1 i.a1.2 x.ds) R1] [h2 : Pk R1 (own (tMsg eS) eM i.a2.1 i.a2.2 x.held) R2] [h3 : Pk R2 (own tStr eT i.a3.1 i.a3.2 x.wishes) R3] [h4 : Pk R3 (own tInt eI i.a4.1 i.a4.2 x.yes) R4] [h5 : Pk R4 (own tSlot eS i.a5.1 i.a5.2 x.best) R5] [h6 : Pk R5 (own (tAck eI) eA i.a6.1 i.a6.2 x.acks) R6] (h : Mem w0 W L) : RoRcd false W x i:=ro_parts (eS:=eS) (eM:=eM) (eT:=eT) (eI:=eI) (eA:=eA) (pk_rec (eS:=eS) (eM:=eM) (eT:=eT) (eI:=eI) (eA:=eA) h)
theorem ro_cap1 {eS eM eT eI eA : Nat} {x : Rcd} {i : AtRcd} {w0 W : World} {L R0 R1 R2 R3 R4 R5 R6 : List Asn} [h0 : Pk L (own tSlot eS i.a0.1 i.a0.2 x.ss) R0] [h1 : Pk R0 (own tSlot eS i.a1.1 i.a1.2 x.ds) R1] [h2 : Pk R1 (own (tMsg eS) eM i.a2.1 i.a2.2 x.held) R2] [h3 : Pk R2 (own tStr eT i.a3.1 i.a3.2 x.wishes) R3] [h4 : Pk R3 (own tInt eI i.a4.1 i.a4.2 x.yes) R4] [h5 : Pk R4 (own tSlot eS i.a5.1 i.a5.2 x.best) R5] [h6 : Pk R5 (own (tAck eI) eA i.a6.1 i.a6.2 x.acks) R6] (h : Mem w0 W L) : x.ds.length ≤ i.a1.2 ∧ x.wishes.length ≤ i.a3.2:=caps_parts (eS:=eS) (eM:=eM) (eT:=eT) (eI:=eI) (eA:=eA) (pk_rec (eS:=eS) (eM:=eM) (eT:=eT) (eI:=eI) (eA:=eA) h)
def boxR (eS eM eT eI eA T g : Nat) (x : Rcd) (i : AtRcd) : List Asn:=box g T [.int .i64 x.number,.int .i64 x.of,.bool x.up,.int .i64 x.sp,.int .i64 x.sk,.slice i.a0.1 x.ss.length i.a0.2,.int .i64 x.dp,.int .i64 x.dk,.slice i.a1.1 x.ds.length i.a1.2,.slice i.a2.1 x.held.length i.a2.2,.slice i.a3.1 x.wishes.length i.a3.2,.bool x.lead,.bool x.trying,.int .i64 x.ballot,.slice i.a4.1 x.yes.length i.a4.2,.slice i.a5.1 x.best.length i.a5.2,.slice i.a6.1 x.acks.length i.a6.2,.int .i64 x.heard] :: partRcd eS eM eT eI eA x i
theorem pk_boxr {eS eM eT eI eA T g : Nat} {x : Rcd} {i : AtRcd} {w0 W : World} {L R R0 R1 R2 R3 R4 R5 R6 : List Asn} [hb : Pk L (box g T [.int .i64 x.number,.int .i64 x.of,.bool x.up,.int .i64 x.sp,.int .i64 x.sk,.slice i.a0.1 x.ss.length i.a0.2,.int .i64 x.dp,.int .i64 x.dk,.slice i.a1.1 x.ds.length i.a1.2,.slice i.a2.1 x.held.length i.a2.2,.slice i.a3.1 x.wishes.length i.a3.2,.bool x.lead,.bool x.trying,.int .i64 x.ballot,.slice i.a4.1 x.yes.length i.a4.2,.slice i.a5.1 x.best.length i.a5.2,.slice i.a6.1 x.acks.length i.a6.2,.int .i64 x.heard]) R] [h0 : Pk R (own tSlot eS i.a0.1 i.a0.2 x.ss) R0] [h1 : Pk R0 (own tSlot eS i.a1.1 i.a1.2 x.ds) R1] [h2 : Pk R1 (own (tMsg eS) eM i.a2.1 i.a2.2 x.held) R2] [h3 : Pk R2 (own tStr eT i.a3.1 i.a3.2 x.wishes) R3] [h4 : Pk R3 (own tInt eI i.a4.1 i.a4.2 x.yes) R4] [h5 : Pk R4 (own tSlot eS i.a5.1 i.a5.2 x.best) R5] [h6 : Pk R5 (own (tAck eI) eA i.a6.1 i.a6.2 x.acks) R6] (h : Mem w0 W L) : Mem w0 W (boxR eS eM eT eI eA T g x i ++ R6):=by
  refine h.perm ?_
  have q0:=perm_in hb.out [] (List.Perm.refl L)
  have q1:=perm_in h0.out _ q0
  have q2:=perm_in h1.out _ q1
  have q3:=perm_in h2.out _ q2
  have q4:=perm_in h3.out _ q3
  have q5:=perm_in h4.out _ q4
  have q6:=perm_in h5.out _ q5
  exact perm_in h6.out _ q6
end Go.Proofs.YtampmicahnnebaaGreat.Sp
namespace Go.Proofs.YtampmicahnnebaaGreat.Sp
open Go Go.RowKit
class TyE (P : Program) (e : Nat) (α : outParam Type) (D : outParam (Ty α)) : Prop where tr : True
instance : TyE Tryz.prog 3 Int tInt:=⟨trivial⟩
instance : TyE Tryz.prog 9 ByteArray tStr:=⟨trivial⟩
instance : TyE Tryz.prog 91 Slot tSlot:=⟨trivial⟩
instance : TyE Tryz.prog 134 Fix tFix:=⟨trivial⟩
instance : TyE Tryz.prog 40 Msg (tMsg 91):=⟨trivial⟩
instance : TyE Tryz.prog 66 Ack (tAck 3):=⟨trivial⟩
section
variable {P : Program} {n : Nat} {ops : Array Oper} {Q : Exit → Act → World → Prop} {rest : List Oper} {E : Env} {w0 W : World} {L : List Asn}
variable {d : Nat} {ty st : TypeId} {pos : String} {after : Array Edge} {x y : Operand} {e sz bytes c2 m l : Nat} {A2 : Option Addr} {α : Type} {D : Ty α} {DR : TyR α} {enc : α → List Value} {ys : List α} {k k' : IntKind} {zs : List Value}
theorem s_lit0a [hU : Und P st (.slice e)] [hT : TyE P e α D] [hE : Elt P e sz bytes] (hm : Mem w0 W L) (hs : sz = D.sz) (hn : Nat.blt d n = true) (h : ∀ A1 W1,Mem w0 W1 (own D e A1 0 [] :: L) → WL P n ops Q rest ((d,.slice A1 0 0) :: E) W1) :
    WL P n ops Q (⟨some d,.buildSlice st 0 #[],ty,pos,after,none⟩ :: rest) E W:=s_lit0 D hm hs hn h
theorem s_app0a [hU : Und P st (.slice e)] [hT : TyE P e α D] [hE : Elt P e sz bytes] (hm : Mem w0 W L) (hx : ev E x = some (.slice none 0 0)) (hy : ev E y = some (.slice A2 m c2)) (hs : sz = D.sz) [hR : RoAt L A2 α DR w0 ys] (hs2 : sz = DR.sz) [hF : FlatO D enc] [hG : FlatR DR enc] (hml : m = ys.length)
    (hlim : ys.length * bytes ≤ 140737488355328) (hn : Nat.blt d n = true) (h : ∀ A1 c1 W1,Mem w0 W1 (own D e A1 c1 ys :: L) → WL P n ops Q rest ((d,.slice A1 ys.length c1) :: E) W1) :
    WL P n ops Q (⟨some d,.call { callee:=.builtin .append,args:=#[x,y],argTypes:=#[st,st] },ty,pos,after,none⟩ :: rest) E W :=
  s_app0r D hm hx hy hs hs2 hml hlim hn h
theorem s_appr0 {R1 : List Asn} {c l : Nat} {A : Option Addr} [hU : Und P st (.slice e)] [hE : Elt P e sz bytes] (hm : Mem w0 W L) (hx : ev E x = some (.slice A l c)) (hy : ev E y = some (.slice A2 m c2)) (hl : l = 0) [hR : RoAt L A2 α DR w0 ys] [hp : Pk L (own D e A c []) R1] [hT : TyE P e α D] (hs : sz = D.sz) (hs2 : sz = DR.sz) [hF : FlatO D enc] [hG : FlatR DR enc] (hml : m = ys.length)
    (hlim : ys.length * bytes ≤ 140737488355328) (hn : Nat.blt d n = true) (h : ∀ A1 c1 W1,Mem w0 W1 (own D e A1 c1 ys :: R1) → WL P n ops Q rest ((d,.slice A1 ys.length c1) :: E) W1) :
    WL P n ops Q (⟨some d,.call { callee:=.builtin .append,args:=#[x,y],argTypes:=#[st,st] },ty,pos,after,none⟩ :: rest) E W :=
  s_appr (xs:=[]) (D:=D) (A:=A) (c:=c) (e:=e) (hO:=⟨trivial⟩) hm hx hy hl hs hs2 hml (by simpa using hlim) hn h
theorem p_nil {a : Addr} (hx : ev E x = some (.pointer (some a))) : PV P E (.nilCheck x) (.pointer (some a)):=⟨fun n act ha dst ty pos after gd W=>by simp [execOp,ha.eval hx,asAddr]⟩
end
theorem Mem.rod {w0 W : World} {L : List Asn} {α : Type} {D : TyR α} {A : Option Addr} {xs : List α} (hm : Mem w0 W L) (h : RoRow D w0 A xs) : Mem w0 W (Sp.ro D w0 A xs :: L):=hm.pur h
def roB (w0 : World) (g t : Nat) (cs : List Value) : Asn:=pur (w0.heap[g]? = some (.cells cs.toArray t (0,0)))
class RoBAt (L : List Asn) (g : Nat) (w0 : outParam World) (t : outParam Nat) (cs : outParam (List Value)) : Prop where mem : ∃ R,L.Perm (roB w0 g t cs :: R)
instance RoBAt.here {w0 : World} {g t : Nat} {cs : List Value} {L : List Asn} : RoBAt (roB w0 g t cs :: L) g w0 t cs:=⟨L,List.Perm.refl _⟩
instance (priority:=low) RoBAt.there {B : Asn} {L : List Asn} {w0 : World} {g t : Nat} {cs : List Value} [h : RoBAt L g w0 t cs] : RoBAt (B :: L) g w0 t cs:=⟨by
  obtain ⟨R,h⟩:=h.mem
  exact ⟨B :: R,(List.Perm.cons B h).trans (List.Perm.swap _ B R)⟩⟩
theorem Mem.robox {w0 W : World} {L : List Asn} {g t : Nat} {cs : List Value} (hm : Mem w0 W L) (h : w0.heap[g]? = some (.cells cs.toArray t (0,0))) : Mem w0 W (Sp.roB w0 g t cs :: L):=hm.pur h
theorem Mem.rob {w0 W : World} {L : List Asn} {g t : Nat} {cs : List Value} [h : RoBAt L g w0 t cs] (hm : Mem w0 W L) : W.heap[g]? = some (.cells cs.toArray t (0,0)):=by
  obtain ⟨R,hp⟩:=h.mem
  have h1:=Mem.pure_ hp hm
  exact (hm.below.block g (Array.getElem?_eq_some_iff.1 h1).1).trans h1
section
variable {P : Program} {E : Env} {w0 : World} {L : List Asn} {pt : TypeId} {x : Operand} {v : Value} {g t j m : Nat} {cs ws : List Value}
theorem p_loadrb [hB : RoBAt L g w0 t cs] [hv : Nth cs j v] [hO : One P pt] (hx : ev E x = some (.pointer (some ⟨g,j,none⟩))) : LV P E w0 L (.load pt x) v :=
  ⟨fun W hm n a ha dst ty pos after gd=>by
    obtain ⟨u,hu,hu2⟩:=hO.out
    have hc : W.cell? ⟨g,j,none⟩ = some v:=by rw [cell_of_row W g j _ t (0,0) hm.rob];simpa using hv.out
    have hl : (loadVar pt ⟨g,j,none⟩).run P W = .ok v W:=by
      unfold loadVar isAgg
      cases u <;> simp_all [underlying,load,Sem.run]
    simp [execOp,ha.eval hx,Instr.loadAt,Instr.sureAddr,hl]⟩
end
theorem p_loadsrc {P : Program} {E : Env} {w0 : World} {L : List Asn} {pt : TypeId} {x : Operand} {A : Option Addr} {i : Int} {sz q j m : Nat} {ws vs : List Value} [hO : RoCAt L A w0 q sz ws] [hA : Agg P pt m] [hv : Sub ws j m vs] (hx : ev E x = some (.pointer (some (rp A i sz j)))) (hi : i = q) : LV P E w0 L (.load pt x) (.agg vs.toArray) :=
  ⟨fun W hmem n a ha dst ty pos after gd=>by
    obtain ⟨R,hp⟩:=hO.mem
    obtain ⟨hA1,hl,hc⟩:=Mem.pure_ hp hmem
    obtain ⟨u,hu,hu2,hinf⟩:=hA.out
    obtain ⟨hv1,hv2⟩:=hv.out
    subst hi
    have hvl : vs.length = m:=by rw [← hv1];simp;omega
    have key : ∀ (vs : List Value) (acc : Array Value) (j : Nat) (a : Addr),(∀ q v,vs[q]? = some v → W.cell? (a.add (j + q)) = some v) → (loadCellsFrom a j vs.length acc).run P W = .ok (acc ++ vs.toArray) W:=by
      intro vs
      induction vs with
      | nil=>intro acc j a h;simp [loadCellsFrom]
      | cons v r ih =>
        intro acc j a h
        have h1:=h 0 v rfl
        rw [Nat.add_zero] at h1
        have h2:=ih (acc.push v) (j + 1) a (fun q u hq=>by have:=h (q + 1) u (by simpa using hq);rwa [Nat.add_assoc,Nat.add_comm 1 q])
        simp only [List.length_cons,loadCellsFrom,Sem.run_bind]
        have h3 : (load (a.add j)).run P W = .ok v W:=by simp [load,Sem.run,h1]
        rw [h3]
        simp only [Result.andThen_ok]
        rw [h2]
        simp
    have h4:=key vs #[] 0 ((adr A).add (q * sz + j)) (fun q2 v hv=>by
      rw [addr_add_add,Nat.zero_add,Nat.add_assoc]
      refine hmem.old (hc (j + q2) v ?_)
      rw [← hv1,List.getElem?_take] at hv
      split at hv
      · rw [List.getElem?_drop] at hv;exact hv
      · cases hv)
    have h5 : (loadVar pt ((adr A).add (q * sz + j))).run P W = .ok (.agg vs.toArray) W:=by
      rw [hvl] at h4
      obtain ⟨inf,hi1,hi2⟩:=Option.map_eq_some_iff.1 hinf
      have hagg : (isAgg pt).run P W = .ok true W:=by
        unfold isAgg
        simp only [Sem.run_bind,run_underlying hu,Result.andThen_ok]
        cases u <;> first|rfl|(exfalso;simp at hu2)
      unfold loadVar
      simp only [Sem.run_bind,hagg,Result.andThen_ok,if_true]
      have h6 : (sizeOf pt).run P W = .ok m W:=by simp [sizeOf,typeInfo,hi1,hi2]
      rw [h6]
      simp only [Result.andThen_ok,loadCells]
      rw [h4]
      simp
    simp [execOp,ha.eval hx,Instr.loadAt,Instr.sureAddr,rp,h5]⟩
theorem p_loadwf {P : Program} {E : Env} {w0 : World} {L : List Asn} {pt : TypeId} {x : Operand} {A : Option Addr} {i : Int} {sz m : Nat} {α : Type} {D : TyR α} {enc : α → List Value} {xs : List α} [hO : RoAt L A α D w0 xs] [hA : Agg P pt m] [hF : FlatR D enc] (hx : ev E x = some (.pointer (some (rp A i sz 0)))) (hs : sz = D.sz) (hm : m = sz) (h0 : 0 ≤ i) (h1 : i < xs.length) : LV P E w0 L (.load pt x) (.agg (enc (rdR D xs i)).toArray) :=
  ⟨fun W hmem n a ha dst ty pos after gd=>by
    obtain ⟨q,rfl⟩:=Int.eq_ofNat_of_zero_le h0
    have hq : q < xs.length:=by omega
    obtain ⟨c,hc,hm2⟩:=hmem.roOpen (A:=A) q hq
    have e:=hF.out hc
    rw [rdR_at hq,← e]
    subst hs
    exact (p_loadwr (P:=P) (L:=roC w0 A q D.sz c :: L) hx hm rfl).out W hm2 n a ha dst ty pos after gd⟩
theorem rdR_int {α : Type} {D : TyR α} {xs : List α} {i : Int} (h0 : 0 ≤ i) (h1 : i < xs.length) : rdR D xs i = xs[i.toNat]'(by omega):=by
  have : i.toNat < xs.length:=by omega
  simp [rdR,List.getD_eq_getElem?_getD,this]
def zeroR : Rcd:=⟨0,0,false,0,0,[],0,0,[],[],[],false,false,0,[],[],[],0⟩
def atZ : AtRcd:=⟨(none,0),(none,0),(none,0),(none,0),(none,0),(none,0),(none,0)⟩
theorem Mem.zeroR {w0 W : World} {L : List Asn} (eS eM eT eI eA : Nat) (h : Mem w0 W L) : Mem w0 W (partRcd eS eM eT eI eA Sp.zeroR atZ ++ L) :=
  ((((((h.nil (tAck eI) eA).nil tSlot eS).nil tInt eI).nil tStr eT).nil (tMsg eS) eM).nil tSlot eS).nil tSlot eS
end Go.Proofs.YtampmicahnnebaaGreat.Sp
namespace Go.Proofs.YtampmicahnnebaaGreat.Sp
open Go Go.RowKit Go.Proofs.YtampmicahnnebaaGreatW.PrintLast
theorem Y1 {P E op Q} {G : Prop} (h : G → GP P E op Q) : G → GP P E op Q := h
theorem Y2 {P E x Q} {G : Prop} (h : G → GP P E (.move x) Q) : G → GP P E (.move x) Q := h
theorem Y3 {P E x Q} {G : Prop} (h : G → GP P E (.assign x) Q) : G → GP P E (.assign x) Q := h
theorem Y4 {P E b xt x y yt Q} {G : Prop} (h : G → GP P E (.binOp b xt x y yt) Q) : G → GP P E (.binOp b xt x y yt) Q := h
theorem Y5 {P E xt x y yt Q} {G : Prop} (h : G → GP P E (.binOp .lss xt x y yt) Q) : G → GP P E (.binOp .lss xt x y yt) Q := h
theorem Y6 {P E xt x y yt Q} {G : Prop} (h : G → GP P E (.binOp .eql xt x y yt) Q) : G → GP P E (.binOp .eql xt x y yt) Q := h
theorem Y7 {P E xt x y yt Q} {G : Prop} (h : G → GP P E (.binOp .neq xt x y yt) Q) : G → GP P E (.binOp .neq xt x y yt) Q := h
theorem Y8 {P E xt x y yt Q} {G : Prop} (h : G → GP P E (.binOp .leq xt x y yt) Q) : G → GP P E (.binOp .leq xt x y yt) Q := h
theorem Y9 {P E xt x y yt Q} {G : Prop} (h : G → GP P E (.binOp .gtr xt x y yt) Q) : G → GP P E (.binOp .gtr xt x y yt) Q := h
theorem Y10 {P E xt x y yt Q} {G : Prop} (h : G → GP P E (.binOp .geq xt x y yt) Q) : G → GP P E (.binOp .geq xt x y yt) Q := h
theorem Y11 {P E xt x y yt Q} {G : Prop} (h : G → GP P E (.binOp .add xt x y yt) Q) : G → GP P E (.binOp .add xt x y yt) Q := h
theorem Y12 {P E xt x y yt Q} {G : Prop} (h : G → GP P E (.binOp .sub xt x y yt) Q) : G → GP P E (.binOp .sub xt x y yt) Q := h
theorem Y13 {P E xt x y yt Q} {G : Prop} (h : G → GP P E (.binOp .mul xt x y yt) Q) : G → GP P E (.binOp .mul xt x y yt) Q := h
theorem Y14 {P E xt x y yt Q} {G : Prop} (h : G → GP P E (.binOp .rem xt x y yt) Q) : G → GP P E (.binOp .rem xt x y yt) Q := h
theorem Y15 {P E xt x y yt Q} {G : Prop} (h : G → GP P E (.binOp .quo xt x y yt) Q) : G → GP P E (.binOp .quo xt x y yt) Q := h
theorem Y16 {P E st x f Q} {G : Prop} (h : G → GP P E (.fieldAddr st x f) Q) : G → GP P E (.fieldAddr st x f) Q := h
theorem Y17 {P E st x y Q} {G : Prop} (h : G → GP P E (.indexAddr st x y) Q) : G → GP P E (.indexAddr st x y) Q := h
theorem Y18 {P E cl Q} {G : Prop} (h : G → GP P E (.call cl) Q) : G → GP P E (.call cl) Q := h
theorem Y19 {P E o xt x Q} {G : Prop} (h : G → GP P E (.unOp o xt x) Q) : G → GP P E (.unOp o xt x) Q := h
theorem Y20 {P E c x y Q} {G : Prop} (h : G → GP P E (.pick c x y) Q) : G → GP P E (.pick c x y) Q := h
theorem Y21 {P E st x a b c Q} {G : Prop} (h : G → GP P E (.slice st x a b c) Q) : G → GP P E (.slice st x a b c) Q := h
theorem Y22 {P E x j Q} {G : Prop} (h : G → GP P E (.extract x j) Q) : G → GP P E (.extract x j) Q := h
theorem Y23 {P E t a Q} {G : Prop} (h : G → GP P E (.build t a) Q) : G → GP P E (.build t a) Q := h
theorem Y24 {P E x Q} {G : Prop} (h : G → GP P E (.nilCheck x) Q) : G → GP P E (.nilCheck x) Q := h
theorem Y25 {P E w0 L op Q} {G : Prop} (h : G → GV P E w0 L op Q) : G → GV P E w0 L op Q := h
theorem Y26 {P n ops Q rest E W} {G : Prop} (h : G → WL P n ops Q (rest) E W) : G → WL P n ops Q (rest) E W := h
theorem Y27 {P n ops Q od op ty pos after rest E W} {G : Prop} (h : G → WL P n ops Q (⟨od, op, ty, pos, after, none⟩ :: rest) E W) : G → WL P n ops Q (⟨od, op, ty, pos, after, none⟩ :: rest) E W := h
theorem Y28 {P n ops Q od t x ty pos after rest E W} {G : Prop} (h : G → WL P n ops Q (⟨od, .load t x, ty, pos, after, none⟩ :: rest) E W) : G → WL P n ops Q (⟨od, .load t x, ty, pos, after, none⟩ :: rest) E W := h
theorem Y29 {P n ops Q od x ty pos after rest E W} {G : Prop} (h : G → WL P n ops Q (⟨od, .nilCheck x, ty, pos, after, none⟩ :: rest) E W) : G → WL P n ops Q (⟨od, .nilCheck x, ty, pos, after, none⟩ :: rest) E W := h
theorem Y30 {P n ops Q od op ty pos after j rest E W} {G : Prop} (h : G → WL P n ops Q (⟨od, op, ty, pos, after, some j⟩ :: rest) E W) : G → WL P n ops Q (⟨od, op, ty, pos, after, some j⟩ :: rest) E W := h
theorem Y31 {P n c Q E W} {G : Prop} (h : G → WC P n c Q E W) : G → WC P n c Q E W := h
theorem Y32 {P n c x y Q E W} {G : Prop} (h : G → WC P n (.cond c x y) Q E W) : G → WC P n (.cond c x y) Q E W := h
theorem Y33 {n x Q E W} {G : Prop} (h : G → WN n x Q E W) : G → WN n x Q E W := h
theorem Y34 {n P ops ds plan Q E W} {S : World → Prop} {G : Prop} (h : G → WN n .normal (Exit.then (fun a w => S w ∧ ∀ l, planB ops ds l plan = true → wpAnyLast P .any ops Q S ds plan.length l a w) Q) E W) : G → WN n .normal (Exit.then (fun a w => S w ∧ ∀ l, planB ops ds l plan = true → wpAnyLast P .any ops Q S ds plan.length l a w) Q) E W := h
theorem Y35 {n P ops ds fuel l Q E W} {S : World → Prop} {G : Prop} (h : G → WN n .normal (Exit.then (fun a w => S w ∧ wpAnyLast P .any ops Q S ds fuel l a w) Q) E W) : G → WN n .normal (Exit.then (fun a w => S w ∧ wpAnyLast P .any ops Q S ds fuel l a w) Q) E W := h
theorem Y36 {P n ops Q S ds l E W} {G : Prop} (h : G → WD P n ops Q S ds l E W) : G → WD P n ops Q S ds l E W := h
theorem Y37 {P n ops Q S ds md i o l E W} {G : Prop} (h : G → WO P n ops Q S ds md i o l E W) : G → WO P n ops Q S ds md i o l E W := h
theorem Y38 {P n ops Q S ds md i od op ty pos after l E W} {G : Prop} (h : G → WO P n ops Q S ds md i ⟨od, op, ty, pos, after, none⟩ l E W) : G → WO P n ops Q S ds md i ⟨od, op, ty, pos, after, none⟩ l E W := h
theorem Y39 {P n ops Q S ds l E W} {G : Prop} (h : G → WT P n ops Q S ds l E W) : G → WT P n ops Q S ds l E W := h
theorem Y {G' G : Prop} (k : G') (h : G' → G := by first|(apply Y1;first|(apply Y2;exact gp (p_move rfl))|(apply Y3;exact gp (p_assign rfl))|(apply Y4;first|(apply Y5;exact gp (p_lss rfl rfl))|(apply Y6;first|exact gp (p_eql rfl rfl)|exact gp (p_seql rfl rfl)|exact gp (p_beql rfl rfl))|(apply Y7;first|exact gp (p_neq rfl rfl)|exact gp (p_sneq rfl rfl)|exact gp (p_bneq rfl rfl))|(apply Y8;exact gp (p_leq rfl rfl))|(apply Y9;exact gp (p_gtr rfl rfl))|(apply Y10;exact gp (p_geq rfl rfl))|(apply Y11;first|exact gp (p_add rfl rfl (by first|exact wr (by omega) (by omega)|rfl))|exact gp (p_concat2 rfl rfl (by first|omega|(simp only [nums1];omega))))|(apply Y12;exact gp (p_sub rfl rfl (by first|exact wr (by omega) (by omega)|rfl)))|(apply Y13;exact gp (p_mul rfl rfl (by first|exact wr (by omega) (by omega)|rfl)))|(apply Y14;first|exact gp (p_rem rfl rfl (by decide) rfl)|exact gp (p_rem rfl rfl (by omega) rfl))|(apply Y15;exact gp (p_quo rfl rfl (by omega) (by first|exact wr (by omega) (by omega)|rfl))))|(apply Y16;first|exact gp (p_field rfl (by simp only [Nat.reduceAdd];rfl))|exact gp (p_fieldo rfl (by simp only [Nat.reduceAdd];rfl)))|(apply Y17;first|exact gp (p_indexo HM rfl (by first|with_reducible rfl|(simp only [List.length_set,List.length_append,List.length_cons,List.length_nil];done)|(simp only [List.length_set,List.length_append,List.length_cons,List.length_nil];omega)|omega) rfl (by omega) (by first|(simp only [List.length_set,List.length_append,List.length_cons,List.length_nil];done)|(simp only [List.length_set,List.length_append,List.length_cons,List.length_nil];omega)|omega))|exact gp (p_indexr HM rfl (by first|with_reducible rfl|(simp only [List.length_set,List.length_append,List.length_cons,List.length_nil];done)|(simp only [List.length_set,List.length_append,List.length_cons,List.length_nil];omega)|omega) rfl (by omega) (by first|(simp only [List.length_set,List.length_append,List.length_cons,List.length_nil];done)|(simp only [List.length_set,List.length_append,List.length_cons,List.length_nil];omega)|omega))|exact gp (p_indexh HM rfl (by first|with_reducible rfl|(simp only [List.length_set,List.length_append,List.length_cons,List.length_nil];done)|(simp only [List.length_set,List.length_append,List.length_cons,List.length_nil];omega)|omega) rfl (by omega) (by first|(simp only [List.length_set,List.length_append,List.length_cons,List.length_nil];done)|(simp only [List.length_set,List.length_append,List.length_cons,List.length_nil];omega)|omega)))|(apply Y18;first|exact gp (p_len rfl)|exact gp (p_slen rfl))|(apply Y19;exact gp (p_not rfl))|(apply Y20;first|exact gp (p_pick1 rfl (by first|rfl|assumption|(show _=true;assumption)|(show _=false;assumption)|(simp;done)|(simp;omega)|(simp;assumption)) rfl)|exact gp (p_pick0 rfl (by first|rfl|assumption|(show _=true;assumption)|(show _=false;assumption)|(simp;done)|(simp;omega)|(simp;assumption)) rfl))|(apply Y21;first|exact gp (p_sliceto rfl rfl (by omega) (by omega))|exact gp (p_slicefrom rfl rfl (by omega) (by omega)))|(apply Y22;exact gp (p_extract rfl rfl))|(apply Y23;exact gp (p_build rfl))|(apply Y24;exact gp (p_nil rfl)))|(apply Y25;first|exact gv (p_load rfl)|exact gv (p_loado2 rfl rfl rfl (by omega) (by first|(simp only [List.length_set,List.length_append,List.length_cons,List.length_nil];done)|(simp only [List.length_set,List.length_append,List.length_cons,List.length_nil];omega)|omega) rfl)|exact gv (p_loado rfl rfl (by omega) (by first|(simp only [List.length_set,List.length_append,List.length_cons,List.length_nil];done)|(simp only [List.length_set,List.length_append,List.length_cons,List.length_nil];omega)|omega) rfl)|exact gv (p_loads rfl)|exact gv (p_loadwo rfl rfl rfl (by omega) (by first|(simp only [List.length_set,List.length_append,List.length_cons,List.length_nil];done)|(simp only [List.length_set,List.length_append,List.length_cons,List.length_nil];omega)|omega))|exact gv (p_loadr rfl rfl (by omega) (by first|(simp only [List.length_set,List.length_append,List.length_cons,List.length_nil];done)|(simp only [List.length_set,List.length_append,List.length_cons,List.length_nil];omega)|omega) rfl)|exact gv (p_loadrc rfl rfl)|exact gv (p_loadwr rfl rfl rfl)|exact gv (p_loadh rfl rfl rfl)|exact gv (p_loadsh rfl rfl rfl)|exact gv (p_loadrb rfl)|exact gv (p_loadsrb rfl)|exact gv (p_loadsrc rfl rfl)|exact gv (p_loadwf rfl rfl rfl (by omega) (by first|(simp only [List.length_set,List.length_append,List.length_cons,List.length_nil];done)|(simp only [List.length_set,List.length_append,List.length_cons,List.length_nil];omega)|omega)))|(apply Y26;first|exact l_nil|(apply Y27;first|(apply Y28;exact s_gv HM rfl)|(apply Y29;exact s_pv (p_nil rfl) rfl)|exact s_gp rfl rfl)|(apply Y30;first|exact s_guard_on rfl rfl rfl rfl (by first|rfl|assumption|(show _=true;assumption)|(show _=false;assumption)|(simp;done)|(simp;omega)|(simp;assumption))|exact s_guard_off rfl rfl rfl rfl (by first|rfl|assumption|(show _=true;assumption)|(show _=false;assumption)|(simp;done)|(simp;omega)|(simp;assumption)) rfl rfl|exact s_guard_un rfl rfl rfl rfl rfl rfl))|(apply Y31;first|exact c_seq|exact c_region|exact c_block|exact c_skip|exact c_exit|exact c_ret|(apply Y32;first|exact c_yes rfl (by first|rfl|assumption|(show _=true;assumption)|(show _=false;assumption)|(simp;done)|(simp;omega)|(simp;assumption))|exact c_no rfl (by first|rfl|assumption|(show _=true;assumption)|(show _=false;assumption)|(simp;done)|(simp;omega)|(simp;assumption))))|(apply Y33;first|exact n_then|exact n_block|exact x_then|exact x_here|exact x_on rfl|exact r_then|exact r_block|(apply Y34;exact d_back (by first|exact HM|exact HM.drop|exact HM.drop.drop|(show Mem _ _ _;exact HM.sb)))|exact d_backT|(apply Y35;exact x_back (by first|exact HM|exact HM.drop|exact HM.drop.drop|(show Mem _ _ _;exact HM.sb)|trivial)))|(apply Y36;first|exact d_next rfl|exact d_done)|(apply Y37;first|(apply Y38;first|exact d_gp HQ HS rfl|exact d_gv HQ HS rfl|exact d_one|exact d_last)|exact d_one|exact d_last|exact d_gpg HQ HS rfl rfl rfl (by first|rfl|assumption|(show _=true;assumption)|(show _=false;assumption)|(simp;done)|(simp;omega)|(simp;assumption)) rfl|exact d_gvg HQ HS rfl rfl rfl (by first|rfl|assumption|(show _=true;assumption)|(show _=false;assumption)|(simp;done)|(simp;omega)|(simp;assumption)) rfl|exact d_off (.inl rfl) HQ HS rfl rfl rfl rfl (by first|rfl|assumption|(show _=true;assumption)|(show _=false;assumption)|(simp;done)|(simp;omega)|(simp;assumption)) rfl rfl|exact d_off (.inr rfl) HQ HS rfl rfl rfl rfl (by first|rfl|assumption|(show _=true;assumption)|(show _=false;assumption)|(simp;done)|(simp;omega)|(simp;assumption)) rfl rfl|exact d_off_un (.inl rfl) HQ HS rfl rfl rfl rfl rfl rfl|exact d_off_un (.inr rfl) HQ HS rfl rfl rfl rfl rfl rfl)|(apply Y39;first|exact d_gpT HQ HS rfl rfl|exact d_nextT rfl|exact d_doneT)) : G := h k
theorem qs {P n ops Q od xt x y ty pos after gd rest E W} {G : Prop} (k : G) (h : G → WL P n ops Q (⟨od, .store xt x y, ty, pos, after, gd⟩ :: rest) E W := by first|exact s_store HM rfl rfl rfl rfl) : WL P n ops Q (⟨od, .store xt x y, ty, pos, after, gd⟩ :: rest) E W := h k
theorem qg {P n ops Q rest E W} {G : Prop} (k : G) (h : G → WL P n ops Q rest E W := by first|exact s_box HM rfl rfl|exact s_alloc HM rfl|exact s_lit1 HM rfl rfl rfl) : WL P n ops Q rest E W := h k
theorem qa {P n ops Q od cl ty pos after gd rest E W} {G : Prop} (k : G) (h : G → WL P n ops Q (⟨od, .call cl, ty, pos, after, gd⟩ :: rest) E W := by first|exact s_append1 HM rfl rfl (by first|with_reducible rfl|(simp only [List.length_set,List.length_append,List.length_cons,List.length_nil];done)|(simp only [List.length_set,List.length_append,List.length_cons,List.length_nil];omega)|omega) rfl rfl (by first|(simp only [List.length_set,List.length_append,List.length_cons,List.length_nil];done)|(simp only [List.length_set,List.length_append,List.length_cons,List.length_nil];omega)|omega) rfl|exact s_app0a HM rfl rfl rfl rfl rfl (by first|(simp only [List.length_set,List.length_append,List.length_cons,List.length_nil];done)|(simp only [List.length_set,List.length_append,List.length_cons,List.length_nil];omega)|omega) rfl|exact s_appr0 HM rfl rfl rfl rfl rfl (by first|with_reducible rfl|(simp only [List.length_set,List.length_append,List.length_cons,List.length_nil];done)|(simp only [List.length_set,List.length_append,List.length_cons,List.length_nil];omega)|omega) (by first|(simp only [List.length_set,List.length_append,List.length_cons,List.length_nil];done)|(simp only [List.length_set,List.length_append,List.length_cons,List.length_nil];omega)|omega) rfl|exact s_appr HM rfl rfl (by first|with_reducible rfl|(simp only [List.length_set,List.length_append,List.length_cons,List.length_nil];done)|(simp only [List.length_set,List.length_append,List.length_cons,List.length_nil];omega)|omega) rfl rfl (by first|with_reducible rfl|(simp only [List.length_set,List.length_append,List.length_cons,List.length_nil];done)|(simp only [List.length_set,List.length_append,List.length_cons,List.length_nil];omega)|omega) (by first|(simp only [List.length_set,List.length_append,List.length_cons,List.length_nil];done)|(simp only [List.length_set,List.length_append,List.length_cons,List.length_nil];omega)|omega) rfl) : WL P n ops Q (⟨od, .call cl, ty, pos, after, gd⟩ :: rest) E W := h k
theorem qz {P n ops Q rest E W} {G : Prop} (k : G) (h : G → WL P n ops Q rest E W := by first|exact s_lit0a HM rfl rfl|exact s_makea HM rfl rfl rfl (by omega) rfl) : WL P n ops Q rest E W := h k
theorem qf {P n ops Q od cl ty pos after gd rest E W} {G : Prop} (k : G) (h : G → WL P n ops Q (⟨od, .call cl, ty, pos, after, gd⟩ :: rest) E W := by exact s_fn rfl rfl) : WL P n ops Q (⟨od, .call cl, ty, pos, after, gd⟩ :: rest) E W := h k
theorem U {p : Prop} (h : p := by repeat (first|exact trivial|refine And.intro (by first|rfl|exact look_int rfl (by omega)) ?_)) : p := h
theorem qq {Q} (h : QP Q := by repeat (first|exact qp_body|refine qp_then ?_|refine qp_block ?_)) : QP Q := h
end Go.Proofs.YtampmicahnnebaaGreat.Sp
namespace Go.Proofs.YtampmicahnnebaaGreat.Sp
open Go Go.RowKit
set_option maxRecDepth 10000
set_option maxHeartbeats 4000000
variable {w0 W : World} {L : List Asn} {A : Option Addr} {c : Nat}
structure SmallR (x : Rcd) : Prop where
  ss : x.ss.length ≤ 1048576
  ds : x.ds.length ≤ 1048576
  held : x.held.length ≤ 1048576
  helds : ∀ y ∈ x.held,y.slots.length ≤ 1048576
  wishes : x.wishes.length ≤ 1048576
  yes : x.yes.length ≤ 1048576
  best : x.best.length ≤ 1048576
  acks : x.acks.length ≤ 1048576
  ackss : ∀ y ∈ x.acks,y.frm.length ≤ 1048576
end Go.Proofs.YtampmicahnnebaaGreat.Sp
namespace Go.Proofs.YtampmicahnnebaaGreat.Sp
open Go Go.RowKit
set_option maxRecDepth 10000
set_option maxHeartbeats 1000000
variable {w0 W : World} {L : List Asn} {A : Option Addr} {c : Nat} {b : Bool}
theorem l1Slots_c {xs : List Slot} (h : RoRow (rSlot b) w0 A xs) (hn : xs.length ≤ 1048576) (HM : Mem w0 W L) : Calls Tryz.prog 79 #[.slice A xs.length c] W fun e W'=>∃ A' c',e = .returned (.slice A' xs.length c') ∧ Mem w0 W' (own tSlot 91 A' c' xs :: L):=by
  refine enter Tryz.func79 rfl Tryz.ntmps79 [(0,_)] rfl ⟨rfl,trivial⟩ ?_
  replace HM:=HM.rod h
  repeat (first|refine Y ?_|(refine qa ?_;clear HM;intro A1 c1 W1 HM)|(refine qz ?_;clear HM;intro A1 W1 HM))
  exact ret_tmp rfl rfl ⟨A1,c1,rfl,HM.sb⟩
theorem l1Disk_c (p q : Int) {xs : List Slot} (h : RoRow (rSlot b) w0 A xs) (hn : xs.length ≤ 1048576) (HM : Mem w0 W L) : Calls Tryz.prog 25 #[.agg #[.int .i64 p,.int .i64 q,.slice A xs.length c]] W fun e W'=>∃ A' c',e = .returned (.agg #[.int .i64 p,.int .i64 q,.slice A' xs.length c']) ∧ Mem w0 W' (own tSlot 91 A' c' xs :: L):=by
  refine enter Tryz.func25 rfl Tryz.ntmps25 [(0,.agg #[.int .i64 p,.int .i64 q,.slice A xs.length c])] rfl ⟨rfl,trivial⟩ ?_
  repeat (first|refine Y ?_|(refine qs ?_;clear HM;intro W1 HM)|(refine qf ?_;go_at_call 79;refine (l1Slots_c h hn HM).mono ?_;rintro e W1 ⟨A1,c1,rfl,HM1⟩;refine ⟨_,rfl,?_⟩;replace HM:=HM1;clear HM1)|(refine qg ?_;clear HM;intro g W1 HM))
  exact ret_cell HM rfl rfl rfl ⟨A1,c1,rfl,HM.sb⟩
theorem l2Message_c (x : Msg) (i : At) (h : RoRow (rSlot b) w0 i.1 x.slots) (hn : x.slots.length ≤ 1048576) (HM : Mem w0 W L) : Calls Tryz.prog 53 #[.agg (encMsg x i).toArray] W fun e W'=>∃ A' c',e = .returned (.agg #[.int .i64 x.kind,.int .i64 x.frm,.int .i64 x.to,.int .i64 x.ballot,.int .i64 x.index,.int .i64 x.known,.string x.text,.slice A' x.slots.length c']) ∧ Mem w0 W' (own tSlot 91 A' c' x.slots :: L):=by
  refine enter Tryz.func53 rfl Tryz.ntmps53 [(0,.agg (encMsg x i).toArray)] rfl ⟨rfl,trivial⟩ ?_
  unfold encMsg
  repeat (first|refine Y ?_|(refine qs ?_;clear HM;intro W1 HM)|(refine qf ?_;go_at_call 79;refine (l1Slots_c h hn HM).mono ?_;rintro e W1 ⟨A1,c1,rfl,HM1⟩;refine ⟨_,rfl,?_⟩;replace HM:=HM1;clear HM1)|(refine qg ?_;clear HM;intro g W1 HM))
  exact ret_cell HM rfl rfl rfl ⟨A1,c1,rfl,HM.sb⟩
theorem l2Messages_c {xs : List Msg} (h : RoRow (rMsg b) w0 A xs) (hn : xs.length ≤ 1048576) (hm : ∀ x ∈ xs,x.slots.length ≤ 1048576) (HM : Mem w0 W L) : Calls Tryz.prog 29 #[.slice A xs.length c] W fun e W'=>∃ A' c',e = .returned (.slice A' xs.length c') ∧ Mem w0 W' (own (tMsg 91) 40 A' c' xs :: L):=by
  refine enter Tryz.func29 rfl Tryz.ntmps29 [(0,_)] rfl ⟨rfl,trivial⟩ ?_
  replace HM:=HM.rod h
  repeat (first|refine Y ?_|(refine qz ?_;clear HM;intro A1 W1 HM))
  refine c_loop2 (σ:=Nat) (fun k A1 c1=>[(0,.slice A xs.length c),(3,.slice A1 k c1),(4,.int .i64 k)]) (fun k A1 c1 W=>k ≤ xs.length ∧ ∃ ys : List Msg,ys.length = k ∧ ys = xs.take k ∧ Mem w0 W (own (tMsg 91) 40 A1 c1 ys :: ro (rMsg b) w0 A xs :: L)) (fun k=>xs.length - k) 0 A1 0 U ⟨Nat.zero_le _,[],rfl,rfl,HM.sb⟩ ?_
  clear HM
  rintro k A1 c1 W ⟨hk,ys,hl,hy,HM⟩
  by_cases hlt : k < xs.length
  · have e0:=rdR_at (D:=rMsg b) hlt
    have hs1:=hm _ (List.getElem_mem hlt)
    obtain ⟨cc,⟨j,rfl,hb,hs⟩,HM⟩:=HM.roOpen (A:=A) k hlt
    unfold encMsg at HM
    repeat (first|refine Y ?_|(refine qf ?_;go_at_call 53;refine (l2Message_c _ j hs hs1 HM).mono ?_;rintro e W1 ⟨A1,c1,rfl,HM1⟩;refine ⟨_,rfl,?_⟩;replace HM:=HM1;clear HM1)|(refine qa ?_;clear HM;intro A1 c1 W1 HM)|(refine qg ?_;clear HM;intro g W1 HM))
    have e1 : (ys ++ [xs[k]]).length = k + 1:=by simp [hl]
    have e2 : (⟨xs[k].kind,xs[k].frm,xs[k].to,xs[k].ballot,xs[k].index,xs[k].known,xs[k].text,xs[k].slots⟩ : Msg) = xs[k]:=rfl
    rw [e2] at HM ⊢
    rw [e1]
    exact n_round2 (k + 1) A1 c1 U ⟨by omega,_,e1,by rw [hy,List.take_succ_eq_append_getElem (by omega)],HM.sb⟩ (by omega)
  · repeat refine Y ?_
    obtain rfl : k = xs.length:=by omega
    rw [List.take_length] at hy
    subst hy
    exact ret_tmp rfl rfl ⟨A1,c1,rfl,HM.sb⟩
theorem l2Copy_c (x : Rcd) (i : AtRcd) (h : RoRcd b w0 x i) (hn : SmallR x) (HM : Mem w0 W L) : Calls Tryz.prog 24 #[.agg (encRcd x i).toArray] W fun e W'=>∃ j,e = .returned (.agg (encRcd x j).toArray) ∧ Mem w0 W' (partRcd 91 40 9 3 66 x j ++ L):=by
  refine enter Tryz.func24 rfl Tryz.ntmps24 [(0,.agg (encRcd x i).toArray)] rfl ⟨rfl,trivial⟩ ?_
  have h0:=h
  have s1:=hn.ss
  have s2:=hn.ds
  have s3:=hn.held
  have s4:=hn.wishes
  have s5:=hn.yes
  have s6:=hn.best
  have s7:=hn.acks
  unfold encRcd
  replace HM:=(((HM.rod h.wishes).rod h.yes).rod h.acks)
  repeat (first|refine Y ?_|(refine qs ?_;clear HM;intro W1 HM)|(refine qf ?_;first|(go_at_call 25;refine (l1Disk_c _ _ (by first|with_reducible exact h0.ss|with_reducible exact h0.ds) (by first|with_reducible exact s1|with_reducible exact s2) HM).mono ?_;rintro e W1 ⟨Ad,cd,rfl,HM1⟩;refine ⟨_,rfl,?_⟩;replace HM:=HM1;clear HM1)|(go_at_call 29;refine (l2Messages_c h0.held s3 hn.helds HM).mono ?_;rintro e W1 ⟨Ah,ch,rfl,HM1⟩;refine ⟨_,rfl,?_⟩;replace HM:=HM1;clear HM1)|(go_at_call 79;refine (l1Slots_c h0.best s6 HM).mono ?_;rintro e W1 ⟨Ab,cb,rfl,HM1⟩;refine ⟨_,rfl,?_⟩;replace HM:=HM1;clear HM1))|(refine qa ?_;clear HM;intro A1 c1 W1 HM)|(refine qg ?_;clear HM;intro g W1 HM)|(refine qz ?_;clear HM;intro A1 W1 HM))
  refine c_loop2 (σ:=Nat) (fun k A1 c1=>[(1,.pointer (some ⟨_,0,none⟩)),(2,.pointer (some ⟨g,0,none⟩)),(3,.slice A1 k c1),(4,.int .i64 k)]) (fun k A1 c1 W=>k ≤ x.acks.length ∧ ∃ ys : List Ack,ys.length = k ∧ ys = x.acks.take k ∧ Mem w0 W (own (tAck 3) 66 A1 c1 ys :: _)) (fun k=>x.acks.length - k) 0 A1 0 U ⟨Nat.zero_le _,[],rfl,rfl,HM⟩ ?_
  clear HM
  rintro k A1 c1 W ⟨hk,ys,hl,hy,HM⟩
  by_cases hlt : k < x.acks.length
  · have e0:=rdR_at (D:=rAck) hlt
    have hs1:=hn.ackss _ (List.getElem_mem hlt)
    obtain ⟨cc,⟨j,rfl,hs⟩,HM⟩:=HM.roOpen (A:=i.a6.1) k hlt
    unfold encAck at HM
    replace HM:=HM.rod hs
    repeat (first|(refine gR ?_;refine d_start [17] [(0,0),(0,1),(0,3),(0,8),(0,10),(1,2),(0,4),(0,5),(1,6),(1,9),(0,11),(0,12),(1,13),(2,7),(2,14),(2,15),(2,16),(3,17),(0,18)] HM (by kernel_rfl) (by kernel_rfl) qq (by kernel_rfl) rfl ?_;intro HQ HS W1 HM1;replace HM:=HM1;clear HM1)|refine Y ?_|(refine qa ?_;clear HM;intro A1 c1 W1 HM)|(refine qg ?_;clear HM;intro g W1 HM)|(refine qz ?_;clear HM;intro A1 W1 HM))
    have e1 : (ys ++ [x.acks[k]]).length = k + 1:=by simp [hl]
    have e2 : (⟨x.acks[k].index,x.acks[k].frm⟩ : Ack) = x.acks[k]:=rfl
    (try simp only [e0] at HM ⊢)
    rw [e2] at HM ⊢
    rw [e1]
    exact n_round2 (k + 1) A1 c1 U ⟨by omega,_,e1,by rw [hy,List.take_succ_eq_append_getElem (by omega)],HM.sb⟩ (by omega)
  · repeat (first|refine Y ?_|(refine qs ?_;clear HM;intro W1 HM))
    obtain rfl : k = x.acks.length:=by omega
    rw [List.take_length] at hy
    subst hy
    exact ret_cell HM rfl rfl rfl ⟨⟨(_,_),(_,_),(_,_),(_,_),(_,_),(_,_),(_,_)⟩,rfl,by simp only [partRcd,List.cons_append,List.nil_append];exact HM.sb⟩
theorem l2Copy_l (x : Rcd) (i : AtRcd) (h : RoRcd b w0 x i) (hn : SmallR x) (HM : Mem w0 W L) : Calls Tryz.prog 24 #[.agg ([.int .i64 x.number,.int .i64 x.of,.bool x.up,.int .i64 x.sp,.int .i64 x.sk,.slice i.a0.1 x.ss.length i.a0.2,.int .i64 x.dp,.int .i64 x.dk,.slice i.a1.1 x.ds.length i.a1.2,.slice i.a2.1 x.held.length i.a2.2,.slice i.a3.1 x.wishes.length i.a3.2,.bool x.lead,.bool x.trying,.int .i64 x.ballot,.slice i.a4.1 x.yes.length i.a4.2,.slice i.a5.1 x.best.length i.a5.2,.slice i.a6.1 x.acks.length i.a6.2,.int .i64 x.heard]).toArray] W fun e W'=>∃ j,e = .returned (.agg (encRcd x j).toArray) ∧ Mem w0 W' (partRcd 91 40 9 3 66 x j ++ L):=l2Copy_c x i h hn HM
end Go.Proofs.YtampmicahnnebaaGreat.Sp
namespace Go.Proofs.YtampmicahnnebaaGreat.Sp
open Go Go.RowKit
set_option maxRecDepth 10000
set_option maxHeartbeats 4000000
def slotB (x : Slot) : Bool:=decide (0 ≤ x.ballot ∧ x.ballot ≤ 1000000) && !decide ((100 : Int) < x.text.size) && !(decide (x.ballot = 0) && !decide (x.text = ⟨#[]⟩))
def slotsB (xs : List Slot) : Bool:=decide ((xs.length : Int) ≤ 60) && allN (fun j=>slotB (rdR (rSlot false) xs j)) xs.length
def numB (xs : List Int) (o : Int) (j : Nat) : Bool:=decide (1 ≤ rdR rInt xs j ∧ rdR rInt xs j ≤ o) && !(decide (0 < j) && decide (rdR rInt xs j ≤ rdR rInt xs ((j : Int) - 1)))
def numbersB (xs : List Int) (o : Int) : Bool:=allN (numB xs o) xs.length
def diskB (p k : Int) (xs : List Slot) : Bool:=decide (0 ≤ p ∧ p ≤ 1000000) && slotsB xs && decide (0 ≤ k ∧ k ≤ xs.length) && allN (fun j=>!decide (p < (rdR (rSlot false) xs j).ballot) && !(decide ((j : Int) < k) && decide ((rdR (rSlot false) xs j).ballot = 0))) xs.length
def msgB (x : Msg) (o : Int) : Bool:=decide (1 ≤ x.kind ∧ x.kind ≤ 9) && decide (1 ≤ x.frm ∧ x.frm ≤ o) && decide (1 ≤ x.to ∧ x.to ≤ o) && decide (0 ≤ x.ballot ∧ x.ballot ≤ 1000000) && decide (0 ≤ x.index ∧ x.index ≤ 60) && decide (0 ≤ x.known ∧ x.known ≤ 60) && decide ((x.text.size : Int) ≤ 100) && slotsB x.slots
def newB (xs : List ByteArray) (n : Nat) (s : ByteArray) : Bool:=allN (fun k=>!decide (rdR (rStr false) xs k = s)) n
def wishB (xs : List ByteArray) (j : Nat) : Bool:=decide (1 ≤ ((rdR (rStr false) xs j).size : Int) ∧ ((rdR (rStr false) xs j).size : Int) ≤ 100) && newB xs j (rdR (rStr false) xs j)
def wishesB (xs : List ByteArray) : Bool:=decide ((xs.length : Int) ≤ 20) && allN (wishB xs) xs.length
def ackB (xs : List Ack) (o : Int) (j : Nat) : Bool:=decide (1 ≤ (rdR rAck xs j).index ∧ (rdR rAck xs j).index ≤ 60) && numbersB (rdR rAck xs j).frm o && !(decide (0 < j) && decide ((rdR rAck xs j).index ≤ (rdR rAck xs ((j : Int) - 1)).index))
def acksB (xs : List Ack) (o : Int) : Bool:=allN (ackB xs o) xs.length
variable {w0 W : World} {L : List Asn} {A : Option Addr} {c : Nat}
theorem l1In_c (a lo hi : Int) (W : World) : Calls Tryz.prog 39 #[.int .i64 a,.int .i64 lo,.int .i64 hi] W fun e W'=>e = .returned (.bool (decide (lo ≤ a ∧ a ≤ hi))) ∧ W' = W:=by
  refine enter Tryz.func39 rfl Tryz.ntmps39 [(0,_),(1,_),(2,_)] rfl ⟨rfl,rfl,rfl,trivial⟩ ?_
  have HM:=Mem.start W
  by_cases h : lo ≤ a
  all_goals
    repeat refine Y ?_
    refine ret_tmp rfl rfl ⟨?_,rfl⟩
    simp [h]
theorem within_c (a lo hi : Int) (W : World) : Calls Tryz.prog 47 #[.int .i64 a,.int .i64 lo,.int .i64 hi] W fun e W'=>e = .returned (.bool (decide (lo ≤ a ∧ a ≤ hi))) ∧ W' = W:=by
  refine enter Tryz.func47 rfl Tryz.ntmps47 [(0,_),(1,_),(2,_)] rfl ⟨rfl,rfl,rfl,trivial⟩ ?_
  have HM:=Mem.start W
  by_cases h : lo ≤ a
  all_goals
    repeat refine Y ?_
    refine ret_tmp rfl rfl ⟨?_,rfl⟩
    simp [h]
theorem specSlots {xs : List Slot} (h : RoRow (rSlot false) w0 A xs) (HM : Mem w0 W L) : Calls Tryz.prog 44 #[.slice A xs.length c] W fun e W'=>e = .returned (.bool (slotsB xs)) ∧ Mem w0 W' L:=by
  refine enter Tryz.func44 rfl Tryz.ntmps44 [(0,_)] rfl ⟨rfl,trivial⟩ ?_
  have hmax:=h.max
  replace HM:=HM.pur h
  by_cases hn : (60 : Int) < xs.length
  · repeat refine Y ?_
    exact ret_tmp rfl rfl ⟨by rw [slotsB,show decide ((xs.length : Int) ≤ 60) = false by simp;omega];rfl,HM.sb⟩
  · repeat refine Y ?_
    refine c_loop (σ:=Nat) (fun i=>[(0,.slice A xs.length c),(3,.int .i64 i)]) (fun i W1=>i ≤ xs.length ∧ allN (fun j=>slotB (rdR (rSlot false) xs j)) i = true ∧ Mem w0 W1 (ro (rSlot false) w0 A xs :: L)) (fun i=>xs.length - i) 0 U ⟨Nat.zero_le _,allN_zero,HM⟩ ?_
    clear HM
    rintro i W1 ⟨hi,hp,HM⟩
    by_cases hlt : i < xs.length
    · have e0:=rdR_at (D:=rSlot false) hlt
      repeat' (first|refine Y ?_|(refine qf ?_;go_at_call 39;refine (l1In_c _ _ _ _).mono ?_;rintro e W1 ⟨rfl,rfl⟩;refine ⟨_,rfl,?_⟩)|(refine gL ?_;refine s_split rfl rfl rfl rfl (fun h=>?_) (fun h=>?_))|refine c_cond rfl (fun h=>?_) (fun h=>?_))
      all_goals first
        | exact n_round (i + 1) U ⟨by omega,allN_succ hp (by first|(simp_all [slotB];done)|(simp_all [slotB];intros;omega)),HM.sb⟩ (by omega)
        | exact ret_tmp rfl rfl ⟨by rw [slotsB,allN_fail hlt (by first|(simp_all [slotB];done)|(simp_all [slotB];intros;omega))];simp,HM.sb⟩
    · repeat refine Y ?_
      obtain rfl : i = xs.length:=by omega
      exact ret_tmp rfl rfl ⟨by rw [slotsB,hp];simp;omega,HM.sb⟩
theorem implSlots {xs : List Slot} (h : RoRow (rSlot false) w0 A xs) (HM : Mem w0 W L) : Calls Tryz.prog 50 #[.slice A xs.length c] W fun e W'=>e = .returned (.bool (slotsB xs)) ∧ Mem w0 W' L:=by
  refine enter Tryz.func50 rfl Tryz.ntmps50 [(0,_)] rfl ⟨rfl,trivial⟩ ?_
  have hmax:=h.max
  replace HM:=HM.pur h
  by_cases hn : (60 : Int) < xs.length
  · repeat refine Y ?_
    exact ret_tmp rfl rfl ⟨by rw [slotsB,show decide ((xs.length : Int) ≤ 60) = false by simp;omega];rfl,HM.sb⟩
  · repeat refine Y ?_
    refine c_loop (σ:=Nat) (fun i=>[(0,.slice A xs.length c),(8,.slice A xs.length c),(9,.int .i64 xs.length),(10,.int .i64 i)]) (fun i W1=>i ≤ xs.length ∧ allN (fun j=>slotB (rdR (rSlot false) xs j)) i = true ∧ Mem w0 W1 (ro (rSlot false) w0 A xs :: L)) (fun i=>xs.length - i) 0 U ⟨Nat.zero_le _,allN_zero,HM⟩ ?_
    clear HM
    rintro i W1 ⟨hi,hp,HM⟩
    by_cases hlt : i < xs.length
    · have e0:=rdR_at (D:=rSlot false) hlt
      obtain ⟨cc,⟨j,rfl,hs⟩,HM⟩:=HM.roOpen (A:=A) i hlt
      unfold encSlot at HM
      repeat' (first|refine Y ?_|(refine qs ?_;clear HM;intro W1 HM)|(refine qf ?_;go_at_call 47;refine (within_c _ _ _ _).mono ?_;rintro e W1 ⟨rfl,rfl⟩;refine ⟨_,rfl,?_⟩)|(refine qg ?_;clear HM;intro g W1 HM)|(refine gL ?_;refine s_split rfl rfl rfl rfl (fun h=>?_) (fun h=>?_))|refine c_cond rfl (fun h=>?_) (fun h=>?_))
      all_goals first
        | exact n_round (i + 1) U ⟨by omega,allN_succ hp (by first|(simp_all [slotB];done)|(simp_all [slotB];intros;omega)),HM.sb⟩ (by omega)
        | exact ret_tmp rfl rfl ⟨by rw [slotsB,allN_fail hlt (by first|(simp_all [slotB];done)|(simp_all [slotB];intros;omega))];simp,HM.sb⟩
    · repeat refine Y ?_
      obtain rfl : i = xs.length:=by omega
      exact ret_tmp rfl rfl ⟨by rw [slotsB,hp];simp;omega,HM.sb⟩
theorem specNumbers {xs : List Int} (o : Int) (h : RoRow rInt w0 A xs) (HM : Mem w0 W L) : Calls Tryz.prog 43 #[.slice A xs.length c,.int .i64 o] W fun e W'=>e = .returned (.bool (numbersB xs o)) ∧ Mem w0 W' L:=by
  refine enter Tryz.func43 rfl Tryz.ntmps43 [(0,_),(1,_)] rfl ⟨rfl,rfl,trivial⟩ ?_
  have hmax:=h.max
  replace HM:=HM.pur h
  repeat refine Y ?_
  refine c_loop (σ:=Nat) (fun i=>[(0,.slice A xs.length c),(1,.int .i64 o),(5,.int .i64 i)]) (fun i W1=>i ≤ xs.length ∧ allN (numB xs o) i = true ∧ Mem w0 W1 (ro rInt w0 A xs :: L)) (fun i=>xs.length - i) 0 U ⟨Nat.zero_le _,allN_zero,HM⟩ ?_
  clear HM
  rintro i W1 ⟨hi,hp,HM⟩
  by_cases hlt : i < xs.length
  · by_cases h0 : 0 < i
    all_goals
      repeat' (first|(refine gR ?_;refine d_start [] [(0,0),(0,1),(0,2),(0,4),(1,3),(2,5),(0,6),(0,7),(0,8),(0,9),(0,10),(0,11),(0,12),(0,13),(0,14),(0,16),(0,17),(0,18),(1,15),(1,19),(0,20),(0,21),(0,22)] HM (by kernel_rfl) (by kernel_rfl) qq (by kernel_rfl) rfl ?_;intro HQ HS W1 HM1;replace HM:=HM1;clear HM1)|refine Y ?_|(refine qf ?_;go_at_call 39;refine (l1In_c _ _ _ _).mono ?_;rintro e W1 ⟨rfl,rfl⟩;refine ⟨_,rfl,?_⟩)|(refine gO ?_;refine d_split rfl rfl rfl rfl (fun h=>?_) (fun h=>?_))|refine c_cond rfl (fun h=>?_) (fun h=>?_))
    all_goals first
      | exact n_round (i + 1) U ⟨by omega,allN_succ hp (by first|(simp_all [numB];done)|(simp_all [numB];intros;omega)),HM.sb⟩ (by omega)
      | exact ret_tmp rfl rfl ⟨by rw [numbersB,allN_fail hlt (by first|(simp_all [numB];done)|(simp_all [numB];intros;omega))],HM.sb⟩
  · repeat refine Y ?_
    obtain rfl : i = xs.length:=by omega
    exact ret_tmp rfl rfl ⟨by rw [numbersB,hp],HM.sb⟩
theorem implNumbers {xs : List Int} (o : Int) (h : RoRow rInt w0 A xs) (HM : Mem w0 W L) : Calls Tryz.prog 49 #[.slice A xs.length c,.int .i64 o] W fun e W'=>e = .returned (.bool (numbersB xs o)) ∧ Mem w0 W' L:=by
  refine enter Tryz.func49 rfl Tryz.ntmps49 [(0,_),(1,_)] rfl ⟨rfl,rfl,trivial⟩ ?_
  have hmax:=h.max
  replace HM:=HM.pur h
  repeat refine Y ?_
  refine c_loop (σ:=Nat) (fun i=>[(0,.slice A xs.length c),(1,.int .i64 o),(7,.slice A xs.length c),(8,.int .i64 xs.length),(9,.int .i64 i)]) (fun i W1=>i ≤ xs.length ∧ allN (numB xs o) i = true ∧ Mem w0 W1 (ro rInt w0 A xs :: L)) (fun i=>xs.length - i) 0 U ⟨Nat.zero_le _,allN_zero,HM⟩ ?_
  clear HM
  rintro i W1 ⟨hi,hp,HM⟩
  by_cases hlt : i < xs.length
  · by_cases h0 : 0 < i
    all_goals
      repeat' (first|refine Y ?_|(refine qf ?_;go_at_call 47;refine (within_c _ _ _ _).mono ?_;rintro e W1 ⟨rfl,rfl⟩;refine ⟨_,rfl,?_⟩)|(refine gL ?_;refine s_split rfl rfl rfl rfl (fun h=>?_) (fun h=>?_))|refine c_cond rfl (fun h=>?_) (fun h=>?_))
    all_goals first
      | exact n_round (i + 1) U ⟨by omega,allN_succ hp (by first|(simp_all [numB];done)|(simp_all [numB];intros;omega)),HM.sb⟩ (by omega)
      | exact ret_tmp rfl rfl ⟨by rw [numbersB,allN_fail hlt (by first|(simp_all [numB];done)|(simp_all [numB];intros;omega))],HM.sb⟩
  · repeat refine Y ?_
    obtain rfl : i = xs.length:=by omega
    exact ret_tmp rfl rfl ⟨by rw [numbersB,hp],HM.sb⟩
theorem specDisk (p k : Int) {xs : List Slot} (h : RoRow (rSlot false) w0 A xs) (HM : Mem w0 W L) : Calls Tryz.prog 40 #[.agg #[.int .i64 p,.int .i64 k,.slice A xs.length c]] W fun e W'=>e = .returned (.bool (diskB p k xs)) ∧ Mem w0 W' L:=by
  refine enter Tryz.func40 rfl Tryz.ntmps40 [(0,.agg #[.int .i64 p,.int .i64 k,.slice A xs.length c])] rfl ⟨rfl,trivial⟩ ?_
  have h0:=h
  have hmax:=h.max
  replace HM:=HM.pur h
  by_cases h1 : 0 ≤ p ∧ p ≤ 1000000
  rotate_left
  · repeat (first|refine Y ?_|(refine qf ?_;go_at_call 39;refine (l1In_c _ _ _ _).mono ?_;rintro e W1 ⟨rfl,rfl⟩;refine ⟨_,rfl,?_⟩)|(refine qg ?_;clear HM;intro g W1 HM))
    exact ret_tmp rfl rfl ⟨by rw [diskB,decide_eq_false h1];simp,HM.sb⟩
  by_cases hs : slotsB xs = true
  rotate_left
  · simp only [Bool.not_eq_true] at hs
    repeat (first|refine Y ?_|(refine qf ?_;first|(go_at_call 39;refine (l1In_c _ _ _ _).mono ?_;rintro e W1 ⟨rfl,rfl⟩;refine ⟨_,rfl,?_⟩)|(go_at_call 44;refine (specSlots h0 HM).mono ?_;rintro e W1 ⟨rfl,HM1⟩;refine ⟨_,rfl,?_⟩;replace HM:=HM1;clear HM1))|(refine qg ?_;clear HM;intro g W1 HM))
    exact ret_tmp rfl rfl ⟨by rw [diskB,hs];simp,HM.sb⟩
  by_cases h2 : 0 ≤ k ∧ k ≤ xs.length
  rotate_left
  · repeat (first|refine Y ?_|(refine qf ?_;first|(go_at_call 39;refine (l1In_c _ _ _ _).mono ?_;rintro e W1 ⟨rfl,rfl⟩;refine ⟨_,rfl,?_⟩)|(go_at_call 44;refine (specSlots h0 HM).mono ?_;rintro e W1 ⟨rfl,HM1⟩;refine ⟨_,rfl,?_⟩;replace HM:=HM1;clear HM1))|(refine qg ?_;clear HM;intro g W1 HM))
    exact ret_tmp rfl rfl ⟨by rw [diskB,decide_eq_false h2];simp,HM.sb⟩
  · repeat (first|refine Y ?_|(refine qf ?_;first|(go_at_call 39;refine (l1In_c _ _ _ _).mono ?_;rintro e W1 ⟨rfl,rfl⟩;refine ⟨_,rfl,?_⟩)|(go_at_call 44;refine (specSlots h0 HM).mono ?_;rintro e W1 ⟨rfl,HM1⟩;refine ⟨_,rfl,?_⟩;replace HM:=HM1;clear HM1))|(refine qg ?_;clear HM;intro g W1 HM))
    refine c_loop (σ:=Nat) (fun i=>[(1,.pointer (some ⟨g,0,none⟩)),(3,.int .i64 i)]) (fun i W1=>i ≤ xs.length ∧ allN (fun j=>!decide (p < (rdR (rSlot false) xs j).ballot) && !(decide ((j : Int) < k) && decide ((rdR (rSlot false) xs j).ballot = 0))) i = true ∧ Mem w0 W1 (box g 25 [.int .i64 p,.int .i64 k,.slice A xs.length c] :: ro (rSlot false) w0 A xs :: L)) (fun i=>xs.length - i) 0 U ⟨Nat.zero_le _,allN_zero,HM⟩ ?_
    clear HM
    rintro i W1 ⟨hi,hp,HM⟩
    by_cases hlt : i < xs.length
    · have e0:=rdR_at (D:=rSlot false) hlt
      repeat' (first|(refine gR ?_;refine d_start [] [(0,0),(0,2),(0,6),(1,1),(0,3),(0,4),(1,5),(1,7),(0,8),(0,9),(0,10),(0,11),(1,12),(0,13),(0,14),(0,15),(0,17),(1,16),(0,18),(0,19),(1,20),(0,21),(0,22),(0,23)] HM (by kernel_rfl) (by kernel_rfl) qq (by kernel_rfl) rfl ?_;intro HQ HS W1 HM1;replace HM:=HM1;clear HM1)|refine Y ?_|(refine gO ?_;refine d_split rfl rfl rfl rfl (fun h=>?_) (fun h=>?_))|refine c_cond rfl (fun h=>?_) (fun h=>?_))
      all_goals first
        | exact n_round (i + 1) U ⟨by omega,allN_succ hp (by first|(simp_all [diskB];done)|(simp_all [diskB];intros;omega)),HM.sb⟩ (by omega)
        | exact ret_tmp rfl rfl ⟨by rw [diskB,allN_fail hlt (by first|(simp_all [diskB];done)|(simp_all [diskB];intros;omega))];simp,HM.sb⟩
    · repeat refine Y ?_
      obtain rfl : i = xs.length:=by omega
      exact ret_tmp rfl rfl ⟨by rw [diskB,hp,hs];simp;omega,HM.sb⟩
theorem implDisk (p k : Int) {xs : List Slot} (h : RoRow (rSlot false) w0 A xs) (HM : Mem w0 W L) : Calls Tryz.prog 48 #[.agg #[.int .i64 p,.int .i64 k,.slice A xs.length c]] W fun e W'=>e = .returned (.bool (diskB p k xs)) ∧ Mem w0 W' L:=by
  refine enter Tryz.func48 rfl Tryz.ntmps48 [(0,.agg #[.int .i64 p,.int .i64 k,.slice A xs.length c])] rfl ⟨rfl,trivial⟩ ?_
  have h0:=h
  have hmax:=h.max
  replace HM:=HM.pur h
  by_cases h1 : 0 ≤ p ∧ p ≤ 1000000
  rotate_left
  · repeat (first|refine Y ?_|(refine qf ?_;go_at_call 47;refine (within_c _ _ _ _).mono ?_;rintro e W1 ⟨rfl,rfl⟩;refine ⟨_,rfl,?_⟩)|(refine qg ?_;clear HM;intro g W1 HM))
    exact ret_tmp rfl rfl ⟨by rw [diskB,decide_eq_false h1];simp,HM.sb⟩
  by_cases hs : slotsB xs = true
  rotate_left
  · simp only [Bool.not_eq_true] at hs
    repeat (first|refine Y ?_|(refine qf ?_;first|(go_at_call 47;refine (within_c _ _ _ _).mono ?_;rintro e W1 ⟨rfl,rfl⟩;refine ⟨_,rfl,?_⟩)|(go_at_call 50;refine (implSlots h0 HM).mono ?_;rintro e W1 ⟨rfl,HM1⟩;refine ⟨_,rfl,?_⟩;replace HM:=HM1;clear HM1))|(refine qg ?_;clear HM;intro g W1 HM))
    exact ret_tmp rfl rfl ⟨by rw [diskB,hs];simp,HM.sb⟩
  by_cases h2 : 0 ≤ k ∧ k ≤ xs.length
  rotate_left
  · repeat (first|refine Y ?_|(refine qf ?_;first|(go_at_call 47;refine (within_c _ _ _ _).mono ?_;rintro e W1 ⟨rfl,rfl⟩;refine ⟨_,rfl,?_⟩)|(go_at_call 50;refine (implSlots h0 HM).mono ?_;rintro e W1 ⟨rfl,HM1⟩;refine ⟨_,rfl,?_⟩;replace HM:=HM1;clear HM1))|(refine qg ?_;clear HM;intro g W1 HM))
    exact ret_tmp rfl rfl ⟨by rw [diskB,decide_eq_false h2];simp,HM.sb⟩
  · repeat (first|refine Y ?_|(refine qf ?_;first|(go_at_call 47;refine (within_c _ _ _ _).mono ?_;rintro e W1 ⟨rfl,rfl⟩;refine ⟨_,rfl,?_⟩)|(go_at_call 50;refine (implSlots h0 HM).mono ?_;rintro e W1 ⟨rfl,HM1⟩;refine ⟨_,rfl,?_⟩;replace HM:=HM1;clear HM1))|(refine qg ?_;clear HM;intro g W1 HM))
    refine c_loop (σ:=Nat) (fun i=>[(1,.pointer (some ⟨g,0,none⟩)),(25,.slice A xs.length c),(26,.int .i64 xs.length),(27,.int .i64 i)]) (fun i W1=>i ≤ xs.length ∧ allN (fun j=>!decide (p < (rdR (rSlot false) xs j).ballot) && !(decide ((j : Int) < k) && decide ((rdR (rSlot false) xs j).ballot = 0))) i = true ∧ Mem w0 W1 (box g 25 [.int .i64 p,.int .i64 k,.slice A xs.length c] :: ro (rSlot false) w0 A xs :: L)) (fun i=>xs.length - i) 0 U ⟨Nat.zero_le _,allN_zero,HM⟩ ?_
    clear HM
    rintro i W1 ⟨hi,hp,HM⟩
    by_cases hlt : i < xs.length
    · have e0:=rdR_at (D:=rSlot false) hlt
      obtain ⟨cc,⟨j,rfl,hs⟩,HM⟩:=HM.roOpen (A:=A) i hlt
      unfold encSlot at HM
      repeat' (first|refine Y ?_|(refine qs ?_;clear HM;intro W1 HM)|(refine qg ?_;clear HM;intro g W1 HM)|(refine gL ?_;refine s_split rfl rfl rfl rfl (fun h=>?_) (fun h=>?_))|refine c_cond rfl (fun h=>?_) (fun h=>?_))
      all_goals first
        | exact n_round (i + 1) U ⟨by omega,allN_succ hp (by first|(simp_all [diskB];done)|(simp_all [diskB];intros;omega)),HM.sb⟩ (by omega)
        | exact ret_tmp rfl rfl ⟨by rw [diskB,allN_fail hlt (by first|(simp_all [diskB];done)|(simp_all [diskB];intros;omega))];simp,HM.sb⟩
    · repeat refine Y ?_
      obtain rfl : i = xs.length:=by omega
      exact ret_tmp rfl rfl ⟨by rw [diskB,hp,hs];simp;omega,HM.sb⟩
theorem specMsg (x : Msg) (i : At) (o : Int) (h : RoRow (rSlot false) w0 i.1 x.slots) (HM : Mem w0 W L) : Calls Tryz.prog 42 #[.agg (encMsg x i).toArray,.int .i64 o] W fun e W'=>e = .returned (.bool (msgB x o)) ∧ Mem w0 W' L:=by
  refine enter Tryz.func42 rfl Tryz.ntmps42 [(0,.agg (encMsg x i).toArray),(1,_)] rfl ⟨rfl,rfl,trivial⟩ ?_
  have h0:=h
  unfold encMsg
  repeat' (first|refine Y ?_|(refine qf ?_;first|(go_at_call 39;refine (l1In_c _ _ _ _).mono ?_;rintro e W1 ⟨rfl,rfl⟩;refine ⟨_,rfl,?_⟩)|(go_at_call 44;refine (specSlots h0 HM).mono ?_;rintro e W1 ⟨rfl,HM1⟩;refine ⟨_,rfl,?_⟩;replace HM:=HM1;clear HM1))|(refine qg ?_;clear HM;intro g W1 HM)|(refine gL ?_;refine s_split rfl rfl rfl rfl (fun h=>?_) (fun h=>?_)))
  all_goals exact ret_tmp rfl rfl ⟨(by first|(simp_all [msgB];done)|(simp_all [msgB];intros;omega)),HM.sb⟩
theorem implMsg (x : Msg) (i : At) (o : Int) (h : RoRow (rSlot false) w0 i.1 x.slots) (HM : Mem w0 W L) : Calls Tryz.prog 11 #[.agg (encMsg x i).toArray,.int .i64 o] W fun e W'=>e = .returned (.bool (msgB x o)) ∧ Mem w0 W' L:=by
  refine enter Tryz.func11 rfl Tryz.ntmps11 [(0,.agg (encMsg x i).toArray),(1,_)] rfl ⟨rfl,rfl,trivial⟩ ?_
  have h0:=h
  unfold encMsg
  repeat' (first|refine Y ?_|(refine qf ?_;first|(go_at_call 47;refine (within_c _ _ _ _).mono ?_;rintro e W1 ⟨rfl,rfl⟩;refine ⟨_,rfl,?_⟩)|(go_at_call 50;refine (implSlots h0 HM).mono ?_;rintro e W1 ⟨rfl,HM1⟩;refine ⟨_,rfl,?_⟩;replace HM:=HM1;clear HM1))|(refine qg ?_;clear HM;intro g W1 HM)|(refine gL ?_;refine s_split rfl rfl rfl rfl (fun h=>?_) (fun h=>?_)))
  all_goals exact ret_tmp rfl rfl ⟨(by first|(simp_all [msgB];done)|(simp_all [msgB];intros;omega)),HM.sb⟩
end Go.Proofs.YtampmicahnnebaaGreat.Sp
namespace Go.Proofs.YtampmicahnnebaaGreat.Sp
open Go Go.RowKit
set_option maxRecDepth 10000
set_option maxHeartbeats 4000000
variable {w0 W : World} {L : List Asn} {A : Option Addr} {c : Nat}
theorem idx_c {xs : List ByteArray} {l : Nat} (hl : l = xs.length) (s : ByteArray) (h : RoRow (rStr false) w0 A xs) (HM : Mem w0 W L) : Calls Tryz.prog 84 #[.slice A l c,.string s] W fun e W'=>∃ r,e = .returned (.int .i64 r) ∧ decide (0 ≤ r) = !newB xs xs.length s ∧ Mem w0 W' L:=by
  subst hl
  refine enter Tryz.func84 rfl Tryz.ntmps84 [(0,_),(1,_)] rfl ⟨rfl,rfl,trivial⟩ ?_
  have hmax:=h.max
  replace HM:=HM.pur h
  repeat refine Y ?_
  refine c_loop (σ:=Nat) (fun i=>[(0,.slice A xs.length c),(1,.string s),(6,.slice A xs.length c),(7,.int .i64 xs.length),(8,.int .i64 i)]) (fun i W1=>i ≤ xs.length ∧ newB xs i s = true ∧ Mem w0 W1 (ro (rStr false) w0 A xs :: L)) (fun i=>xs.length - i) 0 U ⟨Nat.zero_le _,allN_zero,HM⟩ ?_
  clear HM
  rintro i W1 ⟨hi,hp,HM⟩
  by_cases hlt : i < xs.length
  · by_cases he : s = rdR (rStr false) xs i
    · repeat refine Y ?_
      exact ret_tmp rfl rfl ⟨_,rfl,by rw [newB,allN_fail hlt (by simp [← he])];simp,HM.sb⟩
    · repeat refine Y ?_
      exact n_round (i + 1) U ⟨by omega,allN_succ hp (by simp only [Bool.not_eq_true',decide_eq_false_iff_not];exact fun e=>he e.symm),HM.sb⟩ (by omega)
  · repeat refine Y ?_
    obtain rfl : i = xs.length:=by omega
    exact ret_tmp rfl rfl ⟨_,rfl,by rw [hp];rfl,HM.sb⟩
theorem has_c {xs : List ByteArray} {l : Nat} (hl : l = xs.length) (s : ByteArray) (h : RoRow (rStr false) w0 A xs) (HM : Mem w0 W L) : Calls Tryz.prog 51 #[.slice A l c,.string s] W fun e W'=>e = .returned (.bool (!newB xs xs.length s)) ∧ Mem w0 W' L:=by
  refine enter Tryz.func51 rfl Tryz.ntmps51 [(0,_),(1,_)] rfl ⟨rfl,rfl,trivial⟩ ?_
  repeat (first|refine Y ?_|(refine qf ?_;go_at_call 84;refine (idx_c hl s h HM).mono ?_;rintro e W1 ⟨r,rfl,hr,HM1⟩;refine ⟨_,rfl,?_⟩;replace HM:=HM1;clear HM1))
  exact ret_tmp rfl rfl ⟨by rw [hr],HM.sb⟩
theorem specWishes {xs : List ByteArray} (h : RoRow (rStr false) w0 A xs) (HM : Mem w0 W L) : Calls Tryz.prog 41 #[.slice A xs.length c] W fun e W'=>e = .returned (.bool (wishesB xs)) ∧ Mem w0 W' L:=by
  refine enter Tryz.func41 rfl Tryz.ntmps41 [(0,_)] rfl ⟨rfl,trivial⟩ ?_
  have hmax:=h.max
  replace HM:=HM.pur h
  by_cases hn : (20 : Int) < xs.length
  · repeat refine Y ?_
    exact ret_tmp rfl rfl ⟨by rw [wishesB,show decide ((xs.length : Int) ≤ 20) = false by simp;omega];rfl,HM.sb⟩
  · repeat refine Y ?_
    refine c_loop (σ:=Nat) (fun i=>[(0,.slice A xs.length c),(3,.int .i64 i)]) (fun i W1=>i ≤ xs.length ∧ allN (wishB xs) i = true ∧ Mem w0 W1 (ro (rStr false) w0 A xs :: L)) (fun i=>xs.length - i) 0 U ⟨Nat.zero_le _,allN_zero,HM⟩ ?_
    clear HM
    rintro i W1 ⟨hi,hp,HM⟩
    by_cases hlt : i < xs.length
    · by_cases hs : 1 ≤ ((rdR (rStr false) xs i).size : Int) ∧ ((rdR (rStr false) xs i).size : Int) ≤ 100
      · repeat refine Y ?_
        refine c_loop (σ:=Nat) (fun k=>[(0,.slice A xs.length c),(3,.int .i64 i),(4,.int .i64 k)]) (fun k W1=>k ≤ i ∧ newB xs k (rdR (rStr false) xs i) = true ∧ Mem w0 W1 (ro (rStr false) w0 A xs :: L)) (fun k=>i - k) 0 U ⟨Nat.zero_le _,allN_zero,HM⟩ ?_
        clear HM
        rintro k W2 ⟨hk,hq,HM⟩
        by_cases hlk : k < i
        · by_cases he : rdR (rStr false) xs k = rdR (rStr false) xs i
          · repeat (first|(refine gR ?_;refine d_start [] [(0,0),(0,1),(0,2),(0,4),(0,5),(0,6),(1,3),(1,7),(0,8)] HM (by kernel_rfl) (by kernel_rfl) qq (by kernel_rfl) rfl ?_;intro HQ HS W1 HM1;replace HM:=HM1;clear HM1)|refine Y ?_)
            exact ret_tmp rfl rfl ⟨by rw [wishesB,allN_fail hlt (by rw [wishB,newB,allN_fail hlk (by simp [he])];simp)];simp,HM.sb⟩
          · repeat (first|(refine gR ?_;refine d_start [] [(0,0),(0,1),(0,2),(0,4),(0,5),(0,6),(1,3),(1,7),(0,8)] HM (by kernel_rfl) (by kernel_rfl) qq (by kernel_rfl) rfl ?_;intro HQ HS W1 HM1;replace HM:=HM1;clear HM1)|refine Y ?_)
            exact n_round (k + 1) U ⟨by omega,allN_succ hq (by simp [he]),HM.sb⟩ (by omega)
        · repeat refine Y ?_
          obtain rfl : k = i:=by omega
          exact n_round (k + 1) U ⟨by omega,allN_succ hp (by rw [wishB,hq,decide_eq_true hs];rfl),HM.sb⟩ (by omega)
      · by_cases h1 : ((rdR (rStr false) xs i).size : Int) < 1
        all_goals
          repeat refine Y ?_
          exact ret_tmp rfl rfl ⟨by rw [wishesB,allN_fail hlt (by rw [wishB,decide_eq_false hs];rfl)];simp,HM.sb⟩
    · repeat refine Y ?_
      obtain rfl : i = xs.length:=by omega
      exact ret_tmp rfl rfl ⟨by rw [wishesB,hp];simp;omega,HM.sb⟩
theorem specAcks {xs : List Ack} (o : Int) (h : RoRow rAck w0 A xs) (HM : Mem w0 W L) : Calls Tryz.prog 45 #[.slice A xs.length c,.int .i64 o] W fun e W'=>e = .returned (.bool (acksB xs o)) ∧ Mem w0 W' L:=by
  refine enter Tryz.func45 rfl Tryz.ntmps45 [(0,_),(1,_)] rfl ⟨rfl,rfl,trivial⟩ ?_
  have hmax:=h.max
  replace HM:=HM.pur h
  repeat refine Y ?_
  refine c_loop (σ:=Nat) (fun i=>[(0,.slice A xs.length c),(1,.int .i64 o),(5,.int .i64 i)]) (fun i W1=>i ≤ xs.length ∧ allN (ackB xs o) i = true ∧ Mem w0 W1 (ro rAck w0 A xs :: L)) (fun i=>xs.length - i) 0 U ⟨Nat.zero_le _,allN_zero,HM⟩ ?_
  clear HM
  rintro i W1 ⟨hi,hp,HM⟩
  by_cases hlt : i < xs.length
  · have e0:=rdR_at (D:=rAck) hlt
    obtain ⟨cc,⟨j,rfl,hs⟩,HM⟩:=HM.roOpen (A:=A) i hlt
    unfold encAck at HM
    by_cases h0 : 0 < i
    all_goals
      repeat' (first|(refine gR ?_;refine d_start [] [(0,0),(0,1),(0,2),(0,3),(1,4),(2,5),(0,6),(0,7),(0,8),(0,9),(0,10),(0,11),(0,13),(1,12),(2,14),(0,15),(0,16),(0,17),(0,18),(0,19),(0,20),(0,21),(0,22),(0,23),(0,24),(0,25),(0,27),(0,28),(0,29),(0,30),(1,26),(1,31),(0,32),(0,33),(0,34)] HM (by kernel_rfl) (by kernel_rfl) qq (by kernel_rfl) rfl ?_;intro HQ HS W1 HM1;replace HM:=HM1;clear HM1)|refine Y ?_|(refine qf ?_;first|(go_at_call 39;refine (l1In_c _ _ _ _).mono ?_;rintro e W1 ⟨rfl,rfl⟩;refine ⟨_,rfl,?_⟩)|(go_at_call 43;refine (specNumbers _ hs HM).mono ?_;rintro e W1 ⟨rfl,HM1⟩;refine ⟨_,rfl,?_⟩;replace HM:=HM1;clear HM1))|(refine gO ?_;refine d_split rfl rfl rfl rfl (fun h=>?_) (fun h=>?_))|refine c_cond rfl (fun h=>?_) (fun h=>?_))
    all_goals first
      | exact n_round (i + 1) U ⟨by omega,allN_succ hp (by first|(simp_all [ackB];done)|(simp_all [ackB];intros;omega)),HM.sb⟩ (by omega)
      | exact ret_tmp rfl rfl ⟨by rw [acksB,allN_fail hlt (by first|(simp_all [ackB];done)|(simp_all [ackB];intros;omega))],HM.sb⟩
  · repeat refine Y ?_
    obtain rfl : i = xs.length:=by omega
    exact ret_tmp rfl rfl ⟨by rw [acksB,hp],HM.sb⟩
end Go.Proofs.YtampmicahnnebaaGreat.Sp
