/- A walk of Go functions by small rules: the frame is a list of what is known of the slots; each rule takes one operation. Any program; no condition. -/
import Derived.Calls
import Derived.Tactics
import Derived.Tactics2
import Derived.Deep.LoopGhost
import Derived.WalkKit
import Derived.KernelRfl
import Derived.Below
import Derived.Orders
import Derived.Maps.AppendAt
import Derived.Laws.OwnMore
import Derived.Laws.MakeOwn
import Derived.Laws.Rows
import Derived.Deep.MidRow
import Derived.OwnWalk
import Derived.Deep.AppendLies
import Derived.Test.YtampmicahnnebaaGreatProg
import Derived.ChangeArms
set_option linter.unusedVariables false
set_option linter.unusedSimpArgs false
namespace Go.Proofs.YtampmicahnnebaaGreat.Sp
open Go
abbrev Env:=List (Nat × Value)
def look : Env → Nat → Option Value
  | [],_=>none
  | (s,v) :: r,t=>match Nat.beq s t with|true=>some v|false=>look r t
def ev (E : Env) : Operand → Option Value
  | .tmp t=>look E t
  | .const v=>some v
  | .global g=>some (.pointer (some ⟨g,0,none⟩))
  | .func f=>some (.func (.func f) #[] #[])
def evs (E : Env) : List Operand → Option (List Value)
  | []=>some []
  | x :: r=>match ev E x,evs E r with|some v,some vs=>some (v :: vs)|_,_=>none
structure Fits (n : Nat) (E : Env) (a : Act) : Prop where
  size : a.tmps.size = n
  defers : a.defers = []
  slots : ∀ t v,look E t = some v → a.tmps.getD t undef = v
theorem look_cons (s : Nat) (v : Value) (r : Env) (t : Nat) : look ((s,v) :: r) t = if s = t then some v else look r t:=by
  rw [look]
  by_cases h : s = t
  · subst h
    simp [Nat.beq_refl]
  · simp only [h,if_false]
    have : Nat.beq s t = false:=by
      cases hb : Nat.beq s t with
      | false=>rfl
      | true=>exact absurd (Nat.eq_of_beq_eq_true hb) h
    rw [this]
theorem Fits.eval {n : Nat} {E : Env} {a : Act} (h : Fits n E a) {x : Operand} {v : Value} (hx : ev E x = some v) : a.eval x = v:=by
  cases x with
  | tmp t=>exact h.slots t v hx
  | const u=>exact Option.some.inj hx
  | global g=>exact Option.some.inj hx
  | func f=>exact Option.some.inj hx
theorem Fits.evals {n : Nat} {E : Env} {a : Act} (h : Fits n E a) : ∀ {xs : List Operand} {vs : List Value},evs E xs = some vs → xs.map a.eval = vs
  | [],vs,hx=>by cases hx;rfl
  | x :: r,vs,hx=>by
    unfold evs at hx
    cases hv : ev E x with
    | none=>simp [hv] at hx
    | some v =>
      cases hvs : evs E r with
      | none=>simp [hv,hvs] at hx
      | some us =>
        simp only [hv,hvs] at hx
        cases hx
        rw [List.map_cons,h.eval hv,h.evals hvs]
theorem Fits.put {n : Nat} {E : Env} {a : Act} (h : Fits n E a) {d : Nat} (hd : d < n) (v : Value) : Fits n ((d,v) :: E) (a.put (some d) v):=by
  refine ⟨by simp [Act.put,h.size],h.defers,fun t u ht=>?_⟩
  rw [look_cons] at ht
  by_cases e : d = t
  · subst e
    simp only [if_true] at ht
    cases ht
    simp [Act.put,h.size,hd]
  · simp only [e,if_false] at ht
    have:=h.slots t u ht
    simpa [Act.put,Array.getElem?_setIfInBounds_ne e] using this
theorem Fits.sub {n : Nat} {E E' : Env} {a : Act} (h : Fits n E a) (hs : ∀ t v,look E' t = some v → look E t = some v) : Fits n E' a:=⟨h.size,h.defers,fun t v ht=>h.slots t v (hs t v ht)⟩
def subE (E : Env) : Env → Prop
  | []=>True
  | (t,v) :: r=>look E t = some v ∧ subE E r
theorem subE_look {E : Env} : ∀ {E' : Env},subE E E' → ∀ t v,look E' t = some v → look E t = some v
  | [],_,t,v,h=>by cases h
  | (s,u) :: r,hs,t,v,h=>by
    rw [look_cons] at h
    by_cases e : s = t
    · subst e
      simp only [if_true] at h
      cases h
      exact hs.1
    · simp only [e,if_false] at h
      exact subE_look hs.2 t v h
theorem look_int {E : Env} {t : Nat} {k : IntKind} {a b : Int} (h : look E t = some (.int k a)) (e : a = b) : look E t = some (.int k b):=e ▸ h
theorem wr {x : Int} (h0 : -9223372036854775808 ≤ x) (h1 : x ≤ 9223372036854775807) : IntKind.i64.wrap x = x:=by rw [IntKind.wrap_i64];omega
section
variable {P : Program} {n : Nat}
structure WL (P : Program) (n : Nat) (ops : Array Oper) (Q : Exit → Act → World → Prop) (rest : List Oper) (E : Env) (W : World) : Prop where out : ∀ a,Fits n E a → wpList P ops Q rest a W
structure WC (P : Program) (n : Nat) (c : Code) (Q : Exit → Act → World → Prop) (E : Env) (W : World) : Prop where out : ∀ a,Fits n E a → c.wp P Q a W
structure WN (n : Nat) (x : Exit) (Q : Exit → Act → World → Prop) (E : Env) (W : World) : Prop where out : ∀ a,Fits n E a → Q x a W
variable {ops : Array Oper} {Q Q' : Exit → Act → World → Prop} {rest : List Oper} {E : Env} {W : World}
def subA (args : List Value) : Env → Prop
  | []=>True
  | (t,v) :: r=>args[t]? = some v ∧ subA args r
theorem subA_look {args : List Value} : ∀ {E : Env},subA args E → ∀ t v,look E t = some v → args[t]? = some v
  | [],_,t,v,h=>by cases h
  | (s,u) :: r,hs,t,v,h=>by
    rw [look_cons] at h
    by_cases e : s = t
    · subst e
      simp only [if_true] at h
      cases h
      exact hs.1
    · simp only [e,if_false] at h
      exact subA_look hs.2 t v h
theorem enter {f : FuncId} {fn : Func} {c : Code} {n : Nat} {args : List Value} {W : World} {R : Ending → World → Prop} (hf : P.funcs[f]? = some fn) (hb : fn.body = some c) (hn : fn.ntmps = n)
    (E : Env) (hl : Nat.ble args.length n = true) (hE : subA args E) (h : WC P n c (bodyPost P fn R) E W) : Calls P f args.toArray W R:=by
  have hl:=Nat.le_of_ble_eq_true hl
  refine calls_of_wp hf hb (h.out _ ⟨?_,rfl,fun t v ht=>?_⟩)
  · simp [hn];omega
  · have h2:=subA_look hE t v ht
    have hlt : t < args.length:=(List.getElem?_eq_some_iff.1 h2).1
    have h4 : args[t] = v:=by rw [List.getElem?_eq_getElem hlt] at h2;exact Option.some.inj h2
    simp [Array.getElem?_append,hlt,h4]
theorem c_seq {x y : Code} (h : WC P n x (Exit.then (y.wp P Q) Q) E W) : WC P n (.seq x y) Q E W:=⟨fun a ha=>wp_seq (h.out a ha)⟩
theorem c_block {id : Nat} {c : Code} (h : WC P n c (Exit.inBlock id Q) E W) : WC P n (.block id c) Q E W:=⟨fun a ha=>wp_block (h.out a ha)⟩
theorem c_skip (h : WN n .normal Q E W) : WC P n .skip Q E W:=⟨fun a ha=>wp_skip (h.out a ha)⟩
theorem c_ret (h : WN n .ret Q E W) : WC P n .ret Q E W:=⟨fun a ha=>wp_ret (h.out a ha)⟩
theorem c_exit {id : Nat} (h : WN n (.exit id) Q E W) : WC P n (.exit id) Q E W:=⟨fun a ha=>wp_exit (h.out a ha)⟩
theorem c_region {id : Nat} {l : List Oper} (h : WL P n l.toArray Q l E W) : WC P n (.region id l.toArray false) Q E W:=⟨fun a ha=>wp_region_lit (h.out a ha)⟩
theorem c_cond {c : Operand} {x y : Code} {b : Bool} (hc : ev E c = some (.bool b)) (ht : b = true → WC P n x Q E W) (hf : b = false → WC P n y Q E W) : WC P n (.cond c x y) Q E W :=
  ⟨fun a ha=>wp_cond_split (ha.eval hc) (fun hb=>(ht hb).out a ha) (fun hb=>(hf hb).out a ha)⟩
theorem c_yes {c : Operand} {x y : Code} {b : Bool} (hc : ev E c = some (.bool b)) (hb : b = true) (ht : WC P n x Q E W) : WC P n (.cond c x y) Q E W:=⟨fun a ha=>wp_cond_true (by rw [ha.eval hc,hb]) (ht.out a ha)⟩
theorem c_no {c : Operand} {x y : Code} {b : Bool} (hc : ev E c = some (.bool b)) (hb : b = false) (hf : WC P n y Q E W) : WC P n (.cond c x y) Q E W:=⟨fun a ha=>wp_cond_false (by rw [ha.eval hc,hb]) (hf.out a ha)⟩
theorem c_loop {σ : Type} {c : Code} (J : σ → Env) (M : σ → World → Prop) (μ : σ → Nat) (s0 : σ) (h0 : subE E (J s0)) (hM : M s0 W)
    (round : ∀ s W,M s W → WC P n c (Exit.then (fun a w=>∃ s',Fits n (J s') a ∧ M s' w ∧ μ s' < μ s) Q) (J s) W) : WC P n (.loop c) Q E W:=by
  refine ⟨fun a ha=>?_⟩
  refine wp_loop_ghost (fun k a w=>∃ s,μ s = k ∧ Fits n (J s) a ∧ M s w) (μ s0) ⟨s0,rfl,ha.sub (subE_look h0),hM⟩ ?_
  rintro k a w ⟨s,rfl,hf,hMs⟩
  refine wp_mono ((round s w hMs).out a hf) ?_
  intro e a' w' hq
  cases e with
  | normal =>
    obtain ⟨s',h1,h2,h3⟩:=hq
    exact ⟨_,h3,s',rfl,h1,h2⟩
  | _=>exact hq
theorem c_loop2 {σ : Type} {c : Code} (J : σ → Option Addr → Nat → Env) (M : σ → Option Addr → Nat → World → Prop) (μ : σ → Nat) (s0 : σ) (A0 : Option Addr) (c0 : Nat) (h0 : subE E (J s0 A0 c0)) (hM : M s0 A0 c0 W)
    (round : ∀ s A cap W,M s A cap W → WC P n c (Exit.then (fun a w=>∃ s' A' cap',Fits n (J s' A' cap') a ∧ M s' A' cap' w ∧ μ s' < μ s) Q) (J s A cap) W) : WC P n (.loop c) Q E W:=by
  refine ⟨fun a ha=>?_⟩
  refine wp_loop_ghost (fun k a w=>∃ s A cap,μ s = k ∧ Fits n (J s A cap) a ∧ M s A cap w) (μ s0) ⟨s0,A0,c0,rfl,ha.sub (subE_look h0),hM⟩ ?_
  rintro k a w ⟨s,A,cap,rfl,hf,hMs⟩
  refine wp_mono ((round s A cap w hMs).out a hf) ?_
  intro e a' w' hq
  cases e with
  | normal =>
    obtain ⟨s',A',cap',h1,h2,h3⟩:=hq
    exact ⟨_,h3,s',A',cap',rfl,h1,h2⟩
  | _=>exact hq
theorem n_round2 {σ : Type} {J : σ → Option Addr → Nat → Env} {M : σ → Option Addr → Nat → World → Prop} {μ : σ → Nat} {k : Nat} (s : σ) (A : Option Addr) (cap : Nat) (hJ : subE E (J s A cap)) (hM : M s A cap W) (hk : μ s < k) : WN n .normal (Exit.then (fun a w=>∃ s' A' cap',Fits n (J s' A' cap') a ∧ M s' A' cap' w ∧ μ s' < k) Q) E W :=
  ⟨fun _ ha=>⟨s,A,cap,ha.sub (subE_look hJ),hM,hk⟩⟩
theorem c_once {c : Code} (h : WC P n c (Exit.then (fun _ _=>False) Q) E W) : WC P n (.loop c) Q E W:=⟨fun a ha=>wp_loop_once (h.out a ha)⟩
theorem n_then {y : Code} (h : WC P n y Q E W) : WN n .normal (Exit.then (y.wp P Q) Q') E W:=⟨h.out⟩
theorem n_block {id : Nat} (h : WN n .normal Q E W) : WN n .normal (Exit.inBlock id Q) E W:=⟨h.out⟩
theorem n_round {σ : Type} {J : σ → Env} {M : σ → World → Prop} {μ : σ → Nat} {k : Nat} (s : σ) (hJ : subE E (J s)) (hM : M s W) (hk : μ s < k) : WN n .normal (Exit.then (fun a w=>∃ s',Fits n (J s') a ∧ M s' w ∧ μ s' < k) Q) E W :=
  ⟨fun _ ha=>⟨s,ha.sub (subE_look hJ),hM,hk⟩⟩
theorem x_then {id : Nat} {N : Act → World → Prop} (h : WN n (.exit id) Q E W) : WN n (.exit id) (Exit.then N Q) E W:=⟨h.out⟩
theorem x_here {id : Nat} (h : WN n .normal Q E W) : WN n (.exit id) (Exit.inBlock id Q) E W:=⟨fun a ha=>by
  show (if id = id then Q .normal a W else Q (.exit id) a W)
  rw [if_pos rfl]
  exact h.out a ha⟩
theorem r_then {N : Act → World → Prop} (h : WN n .ret Q E W) : WN n .ret (Exit.then N Q) E W:=⟨h.out⟩
theorem r_block {id : Nat} (h : WN n .ret Q E W) : WN n .ret (Exit.inBlock id Q) E W:=⟨h.out⟩
theorem ret_tmp {fn : Func} {R : Ending → World → Prop} {t : Nat} {v : Value} (hf : fn.results = #[.tmp t]) (hv : look E t = some v) (h : R (.returned v) W) : WN n .ret (bodyPost P fn R) E W:=⟨fun a ha =>
  ⟨ha.defers,v,by rw [results_tmp hf,ha.slots t v hv],h⟩⟩
theorem ret_two {fn : Func} {R : Ending → World → Prop} {t u : Nat} {v x : Value} (hf : fn.results = #[.tmp t,.tmp u]) (hv : look E t = some v) (hx : look E u = some x) (h : R (.returned (.tuple #[v,x])) W) : WN n .ret (bodyPost P fn R) E W:=⟨fun a ha =>
  ⟨ha.defers,_,by rw [results_tmp2 hf,ha.slots t v hv,ha.slots u x hx],h⟩⟩
theorem ret_none {fn : Func} {R : Ending → World → Prop} (hf : fn.results = #[]) (h : R (.returned (.tuple #[])) W) : WN n .ret (bodyPost P fn R) E W:=⟨fun a ha=>⟨ha.defers,_,results_none hf _ _ _,h⟩⟩
theorem end_none {fn : Func} {R : Ending → World → Prop} (hf : fn.results = #[]) (h : R (.returned (.tuple #[])) W) : WN n .normal (bodyPost P fn R) E W:=⟨fun a ha=>⟨ha.defers,_,results_none hf _ _ _,h⟩⟩
theorem l_nil (h : WN n .normal Q E W) : WL P n ops Q [] E W:=⟨h.out⟩
variable {o : Oper} {W1 : World}
theorem s_run {d : Nat} {v : Value} (hg : o.guard = none) (hd : o.dst = some d) (hn : Nat.blt d n = true) (hr : ∀ a,Fits n E a → (execOp a.eval o).run P W = .ok (.value v) W1)
    (h : WL P n ops Q rest ((d,v) :: E) W1) : WL P n ops Q (o :: rest) E W:=⟨fun a ha=>by
  refine wpList_plain hg fun K hK=>?_
  unfold Oper.wp
  rw [hr a ha]
  refine hK _ _ ?_
  rw [hd]
  exact h.out _ (ha.put (by simpa [Nat.blt_eq] using hn) v)⟩
theorem s_act (hg : o.guard = none) (hd : o.dst = none) (hr : ∀ a,Fits n E a → (execOp a.eval o).run P W = .ok .skip W1)
    (h : WL P n ops Q rest E W1) : WL P n ops Q (o :: rest) E W:=⟨fun a ha=>by
  refine wpList_plain hg fun K hK=>?_
  unfold Oper.wp
  rw [hr a ha]
  refine hK _ _ ?_
  rw [hd]
  exact h.out a ha⟩
structure PV (P : Program) (E : Env) (op : Op) (v : Value) : Prop where out : ∀ (n : Nat) (a : Act),Fits n E a → ∀ dst ty pos after gd W,(execOp a.eval ⟨dst,op,ty,pos,after,gd⟩).run P W = .ok (.value v) W
variable {d : Nat} {ty : TypeId} {pos : String} {after : Array Edge} {x y : Operand} {v : Value}
theorem p_move (hx : ev E x = some v) : PV P E (.move x) (v):=⟨fun n a ha dst ty pos after gd W=>by simp only [execOp,ha.eval hx,Sem.run_pure]⟩
theorem p_assign (hx : ev E x = some v) : PV P E (.assign x) (v):=⟨fun n a ha dst ty pos after gd W=>by simp only [execOp,ha.eval hx,Sem.run_pure]⟩
theorem s_pv {op : Op} (hp : PV P E op v) (hn : Nat.blt d n = true) (h : WL P n ops Q rest ((d,v) :: E) W) : WL P n ops Q (⟨some d,op,ty,pos,after,none⟩ :: rest) E W:=s_run rfl rfl hn (fun a ha=>hp.out n a ha _ _ _ _ _ _) h
theorem s_call {f : FuncId} {fn : Func} {as_ : List Operand} {ts : Array TypeId} {vs : List Value} (hf : P.funcs[f]? = some fn) (hname : (fn.name == "runtime.NumGoroutine") = false) (hb : fn.body.isSome = true) (hvs : evs E as_ = some vs)
    (hn : Nat.blt d n = true) (h : Calls P f vs.toArray W fun e w=>∃ v,e = .returned v ∧ WL P n ops Q rest ((d,v) :: E) w) :
    WL P n ops Q (⟨some d,.call { callee:=.value (.func f),args:=as_.toArray,argTypes:=ts },ty,pos,after,none⟩ :: rest) E W:=⟨fun a ha=>by
  refine wpList_plain rfl fun K hK=>?_
  have h1 : fn.name ≠ "runtime.NumGoroutine":=by simpa using hname
  obtain ⟨c,hc⟩:=Option.isSome_iff_exists.1 hb
  have hargs:=ha.evals hvs
  have he : (callFunc f vs.toArray).run P W = .ok (.enter f vs.toArray) W:=by simp [callFunc,hf,h1,hc]
  have hrun : (execOp a.eval ⟨some d,.call { callee:=.value (.func f),args:=as_.toArray,argTypes:=ts },ty,pos,after,none⟩).run P W = .ok (.enter f vs.toArray) W:=by
    unfold execOp
    simp [resolve,Deferred.ofValue,invoke,Act.eval,he]
    simpa [hargs] using he
  unfold Oper.wp
  rw [hrun,Oper.upon_enter]
  refine h.mono fun e w'' hh=>?_
  obtain ⟨v,rfl,hk⟩:=hh
  exact hK _ _ (hk.out _ (ha.put (by simpa [Nat.blt_eq] using hn) v))⟩
theorem s_guard_on {j : Nat} {u b : Bool} {oj : Oper} {t : Nat} (ho : o.guard = some (j,u)) (hj : ops[j]? = some oj) (hd : oj.dst = some t) (ht : look E t = some (.bool b)) (hb : b = u) (h : WL P n ops Q ({ o with guard:=none } :: rest) E W) : WL P n ops Q (o :: rest) E W:=⟨fun a ha=>by
  rw [hb] at ht
  have hw : Region.wanted o (yielded ops a.tmps) = true:=by
    have h1:=ha.slots t _ ht
    have h2 : a.tmps[t]? = some (.bool u):=by
      cases hq : a.tmps[t]? with
      | none=>simp [hq] at h1;cases h1
      | some q=>simp [hq] at h1;rw [h1]
    simp [Region.wanted,ho,yielded,hj,hd,h2]
  have h3:=h.out a ha
  unfold wpList at h3 ⊢
  rw [if_pos hw]
  rw [if_pos (by simp [Region.wanted])] at h3
  exact h3⟩
theorem s_guard_off {j : Nat} {u u' : Bool} {oj : Oper} {t d : Nat} (ho : o.guard = some (j,u)) (hj : ops[j]? = some oj) (hd : oj.dst = some t) (ht : look E t = some (.bool u')) (hb : u' = !u) (hdd : o.dst = some d) (hn : Nat.blt d n = true) (h : WL P n ops Q rest ((d,undef) :: E) W) : WL P n ops Q (o :: rest) E W:=⟨fun a ha=>by
  have hne : (u' == u) = false:=by subst hb;cases u <;> rfl
  have hw : Region.wanted o (yielded ops a.tmps) = false:=by
    have h1:=ha.slots t _ ht
    have h2 : a.tmps[t]? = some (.bool u'):=by
      cases hq : a.tmps[t]? with
      | none=>simp [hq] at h1;cases h1
      | some q=>simp [hq] at h1;rw [h1]
    simpa [Region.wanted,ho,yielded,hj,hd,h2] using hne
  have h3:=h.out _ (ha.put (by simpa [Nat.blt_eq] using hn) undef)
  unfold wpList
  rw [if_neg (by simp [hw]),hdd]
  exact h3⟩
variable {k : IntKind} {m q r : Int} {b b' : Bool} {s s' : ByteArray} {xt yt : TypeId}
theorem beq_dec (m q : Int) : (m == q) = decide (m = q):=by by_cases h : m = q <;> simp [h]
theorem p_add (hx : ev E x = some (.int k m)) (hy : ev E y = some (.int k q)) (hr : k.wrap (m + q) = r) : PV P E (.binOp .add xt x y yt) (.int k r):=⟨fun n a ha dst ty pos after gd W=>by simp [execOp,ha.eval hx,ha.eval hy,eqGuard,binOp,Op.intArith,hr]⟩
theorem p_sub (hx : ev E x = some (.int k m)) (hy : ev E y = some (.int k q)) (hr : k.wrap (m - q) = r) : PV P E (.binOp .sub xt x y yt) (.int k r):=⟨fun n a ha dst ty pos after gd W=>by simp [execOp,ha.eval hx,ha.eval hy,eqGuard,binOp,Op.intArith,hr]⟩
theorem p_mul (hx : ev E x = some (.int k m)) (hy : ev E y = some (.int k q)) (hr : k.wrap (m * q) = r) : PV P E (.binOp .mul xt x y yt) (.int k r):=⟨fun n a ha dst ty pos after gd W=>by simp [execOp,ha.eval hx,ha.eval hy,eqGuard,binOp,Op.intArith,hr]⟩
theorem p_quo (hx : ev E x = some (.int k m)) (hy : ev E y = some (.int k q)) (h0 : q ≠ 0) (hr : k.wrap (m.tdiv q) = r) : PV P E (.binOp .quo xt x y yt) (.int k r):=⟨fun n a ha dst ty pos after gd W=>by simp [execOp,ha.eval hx,ha.eval hy,eqGuard,binOp,Op.intDiv,h0,hr]⟩
theorem p_rem (hx : ev E x = some (.int k m)) (hy : ev E y = some (.int k q)) (h0 : q ≠ 0) (hr : m.tmod q = r) : PV P E (.binOp .rem xt x y yt) (.int k r):=⟨fun n a ha dst ty pos after gd W=>by simp [execOp,ha.eval hx,ha.eval hy,eqGuard,binOp,Op.intDiv,h0,hr]⟩
theorem p_lss (hx : ev E x = some (.int k m)) (hy : ev E y = some (.int k q)) : PV P E (.binOp .lss xt x y yt) (.bool (decide (m < q))):=⟨fun n a ha dst ty pos after gd W=>by simp [execOp,ha.eval hx,ha.eval hy,eqGuard,binOp,Op.intCmp]⟩
theorem p_leq (hx : ev E x = some (.int k m)) (hy : ev E y = some (.int k q)) : PV P E (.binOp .leq xt x y yt) (.bool (decide (m ≤ q))):=⟨fun n a ha dst ty pos after gd W=>by simp [execOp,ha.eval hx,ha.eval hy,eqGuard,binOp,Op.intCmp]⟩
theorem p_gtr (hx : ev E x = some (.int k m)) (hy : ev E y = some (.int k q)) : PV P E (.binOp .gtr xt x y yt) (.bool (decide (q < m))):=⟨fun n a ha dst ty pos after gd W=>by simp [execOp,ha.eval hx,ha.eval hy,eqGuard,binOp,Op.intCmp]⟩
theorem p_geq (hx : ev E x = some (.int k m)) (hy : ev E y = some (.int k q)) : PV P E (.binOp .geq xt x y yt) (.bool (decide (q ≤ m))):=⟨fun n a ha dst ty pos after gd W=>by simp [execOp,ha.eval hx,ha.eval hy,eqGuard,binOp,Op.intCmp]⟩
theorem p_eql (hx : ev E x = some (.int k m)) (hy : ev E y = some (.int k q)) : PV P E (.binOp .eql xt x y yt) (.bool (decide (m = q))):=⟨fun n a ha dst ty pos after gd W=>by simp [execOp,ha.eval hx,ha.eval hy,eqGuard,binOp,Op.intCmp,beq_dec]⟩
theorem p_neq (hx : ev E x = some (.int k m)) (hy : ev E y = some (.int k q)) : PV P E (.binOp .neq xt x y yt) (.bool (!decide (m = q))):=⟨fun n a ha dst ty pos after gd W=>by simp [execOp,ha.eval hx,ha.eval hy,eqGuard,binOp,Op.intCmp,bne,beq_dec]⟩
theorem bytes_toList (s s' : ByteArray) : (s.toList == s'.toList) = decide (s = s'):=by
  rw [ByteArray.toList_eq,ByteArray.toList_eq]
  by_cases h : s = s'
  · subst h;simp
  · have : s.data.toList ≠ s'.data.toList:=fun e=>h (by
      cases s;cases s'
      simp only at e
      rw [Array.toList_inj.1 e])
    simp only [h,decide_false]
    simpa using this
theorem p_seql (hx : ev E x = some (.string s)) (hy : ev E y = some (.string s')) : PV P E (.binOp .eql xt x y yt) (.bool (decide (s = s'))):=⟨fun n a ha dst ty pos after gd W=>by simp [execOp,ha.eval hx,ha.eval hy,eqGuard,binOp,Op.stringOp,bytes_toList]⟩
theorem p_sneq (hx : ev E x = some (.string s)) (hy : ev E y = some (.string s')) : PV P E (.binOp .neq xt x y yt) (.bool (!decide (s = s'))):=⟨fun n a ha dst ty pos after gd W=>by simp [execOp,ha.eval hx,ha.eval hy,eqGuard,binOp,Op.stringOp,bytes_toList]⟩
theorem p_not (hx : ev E x = some (.bool b)) : PV P E (.unOp .not xt x) (.bool (!b)):=⟨fun n a ha dst ty pos after gd W=>by simp [execOp,ha.eval hx,Op.unary]⟩
theorem p_pick1 {c : Operand} (hc : ev E c = some (.bool b)) (hb : b = true) (hx : ev E x = some v) : PV P E (.pick c x y) v:=⟨fun n a ha dst ty pos after gd W=>by subst hb;simp [execOp,ha.eval hc,ha.eval hx,asBool]⟩
theorem p_pick0 {c : Operand} (hc : ev E c = some (.bool b)) (hb : b = false) (hy : ev E y = some v) : PV P E (.pick c x y) v:=⟨fun n a ha dst ty pos after gd W=>by subst hb;simp [execOp,ha.eval hc,ha.eval hy,asBool]⟩
class Und (P : Program) (t : TypeId) (d : outParam TypeDesc) : Prop where out : P.underlying t = some d
class Siz (P : Program) (t : TypeId) (k : outParam Nat) : Prop where out : (P.info? t).map (·.size) = some k
def fAtB (P : Program) (s f k : Nat) : Bool :=
  match P.underlying s with
  | some (.struct fs)=>(match fs[f]? with
    | some fd=>fd.offset == k && (match P.info? fd.type with|some i=>i.size != 0|none=>false)
    | none=>false)
  | _=>false
class FAt (P : Program) (s f : Nat) (k : outParam Nat) : Prop where out : fAtB P s f k = true
theorem FAt.spec {s f k : Nat} (h : FAt P s f k) : ∃ fs fd i,P.underlying s = some (.struct fs) ∧ fs[f]? = some fd ∧ fd.offset = k ∧ P.info? fd.type = some i ∧ i.size ≠ 0:=by
  have h:=h.out
  unfold fAtB at h
  split at h
  · rename_i fs hu
    split at h
    · rename_i fd hf
      split at h
      · rename_i i hi
        simp at h
        exact ⟨fs,fd,i,hu,hf,h.1,hi,h.2⟩
      · simp at h
    · cases h
  · cases h
theorem addr_add_add (a : Addr) (m n : Nat) : (a.add m).add n = a.add (m + n):=by
  unfold Addr.add
  by_cases hm : m = 0
  · subst hm;simp
  · by_cases hn : n = 0
    · subst hn;simp [hm]
    · have : ¬ (m + n = 0):=by omega
      simp [hm,hn,Nat.add_assoc]
theorem add_plain (g j k : Nat) : (⟨g,j,none⟩ : Addr).add k = ⟨g,j + k,none⟩:=by unfold Addr.add;split <;> simp_all
theorem run_fieldAt {s f k : Nat} (h : FAt P s f k) (ad : Addr) (W : World) : (Instr.fieldAt s (.pointer (some ad)) f).run P W = .ok (.pointer (some (ad.add k))) W:=by
  obtain ⟨fs,fd,i,hu,hf,hk,hi,h0⟩:=h.spec
  subst hk
  simp [Instr.fieldAt,underlying,sizeOf,typeInfo,hu,hf,Instr.sureAddr,fieldPlace,hi,h0]
variable {g j c : Nat} {A : Option Addr} {st f : Nat}
theorem p_field [hF : FAt P st f c] (hx : ev E x = some (.pointer (some ⟨g,j,none⟩))) {j' : Nat} (hj : j + c = j') : PV P E (.fieldAddr st x f) (.pointer (some ⟨g,j',none⟩)):=⟨fun n a ha dst ty pos after gd W=>by simp [execOp,ha.eval hx,run_fieldAt hF,add_plain,hj]⟩
theorem p_fieldr [hF : FAt P st f c] {ad : Addr} (hx : ev E x = some (.pointer (some (ad.add j)))) {j' : Nat} (hj : j + c = j') : PV P E (.fieldAddr st x f) (.pointer (some (ad.add j'))):=⟨fun n a ha dst ty pos after gd W=>by simp [execOp,ha.eval hx,run_fieldAt hF,addr_add_add,hj]⟩
theorem p_index {e sz : Nat} {ad : Addr} {l c : Nat} {i : Int} [hU : Und P st (.slice e)] [hS : Siz P e sz] (hx : ev E x = some (.slice A l c)) (hA : A = some ad) (hy : ev E y = some (.int k i)) (h0 : 0 ≤ i) (h1 : i < l) : PV P E (.indexAddr st x y) (.pointer (some (ad.add (i.toNat * sz)))):=⟨fun n a ha dst ty pos after gd W=>by
    obtain ⟨i0,hi,hs⟩:=Option.map_eq_some_iff.1 hS.out
    subst hs
    simp [execOp,ha.eval hx,ha.eval hy,Instr.indexAt,asIntOf,underlying,hU.out,hA,h0,h1,sizeOf,typeInfo,hi]⟩
theorem run_beq (W : World) [hU : Und P xt .bool] : (binOp .eql xt (.bool b) (.bool b')).run P W = .ok (.bool (decide (b = b'))) W ∧ (binOp .neq xt (.bool b) (.bool b')).run P W = .ok (.bool (!decide (b = b'))) W:=by
  have h1 : (b == b') = decide (b = b'):=by cases b <;> cases b' <;> rfl
  have h2:=run_equal_bool (P:=P) W xt b b' hU.out
  constructor
  · show ((Op.equal xt (.bool b) (.bool b')) >>= fun r=>pure (Value.bool r) : Sem Value).run P W = _
    rw [Sem.run_bind,h2,Result.andThen_ok,Sem.run_pure,h1]
  · show ((Op.equal xt (.bool b) (.bool b')) >>= fun r=>pure (Value.bool (!r)) : Sem Value).run P W = _
    rw [Sem.run_bind,h2,Result.andThen_ok,Sem.run_pure,h1]
theorem p_bneq [hU : Und P xt .bool] (hx : ev E x = some (.bool b)) (hy : ev E y = some (.bool b')) : PV P E (.binOp .neq xt x y yt) (.bool (!decide (b = b'))):=⟨fun n a ha dst ty pos after gd W=>by
  simp [execOp,ha.eval hx,ha.eval hy,eqGuard,(run_beq (P:=P) (xt:=xt) (b:=b) (b':=b') W).2]⟩
theorem p_len {e : TypeId} {l c : Nat} [hU : Und P st (.slice e)] (hx : ev E x = some (.slice A l c)) : PV P E (.call { callee:=.builtin .len,args:=#[x],argTypes:=#[st] }) (.int .i64 l):=⟨fun n a ha dst ty pos after gd W=>by simp [execOp,ha.eval hx,resolve,invoke,builtin,Builtin.len_,underlying,hU.out,goInt]⟩
theorem p_slen [hU : Und P st .string] (hx : ev E x = some (.string s)) : PV P E (.call { callee:=.builtin .len,args:=#[x],argTypes:=#[st] }) (.int .i64 s.size):=⟨fun n a ha dst ty pos after gd W=>by simp [execOp,ha.eval hx,resolve,invoke,builtin,Builtin.len_,underlying,hU.out,goInt]⟩
theorem p_extract {vs : List Value} {j : Nat} (hx : ev E x = some (.tuple vs.toArray)) (hj : vs[j]? = some v) : PV P E (.extract x j) (v):=⟨fun n a ha dst ty pos after gd W=>by simp [execOp,ha.eval hx,Instr.extract,hj]⟩
theorem gL {l : List Oper} (h : WL P n ops Q l E W) : WL P n ops Q l E W:=h
theorem gC {c : Code} (h : WC P n c Q E W) : WC P n c Q E W:=h
theorem gN {e : Exit} (h : WN n e Q E W) : WN n e Q E W:=h
variable {od : Option Nat} {gd : Option (Nat × Bool)}
theorem gStore (h : WL P n ops Q (⟨od,.store xt x y,ty,pos,after,gd⟩ :: rest) E W) : WL P n ops Q (⟨od,.store xt x y,ty,pos,after,gd⟩ :: rest) E W:=h
theorem gCall {cl : Call} (h : WL P n ops Q (⟨od,.call cl,ty,pos,after,gd⟩ :: rest) E W) : WL P n ops Q (⟨od,.call cl,ty,pos,after,gd⟩ :: rest) E W:=h
def pureOp : Op → Bool
  | .move _|.assign _|.pick ..|.binOp ..|.unOp ..|.fieldAddr ..|.indexAddr ..|.extract ..|.build ..|.index ..|.field ..|.slice ..=>true
  | .call { callee:=.builtin b,.. }=>match b with|.len|.min|.max=>true|_=>false
  | _=>false
structure GP (P : Program) (E : Env) (op : Op) (K : Value → Prop) : Prop where out : ∃ v,PV P E op v ∧ K v
theorem gp {op : Op} {K : Value → Prop} (hp : PV P E op v) (h : K v) : GP P E op K:=⟨v,hp,h⟩
theorem s_gp {op : Op} (hpure : pureOp op = true) (hn : Nat.blt d n = true) (h : GP P E op fun v=>WL P n ops Q rest ((d,v) :: E) W) : WL P n ops Q (⟨some d,op,ty,pos,after,none⟩ :: rest) E W:=by
  obtain ⟨v,hp,h⟩:=h.out
  exact s_pv hp hn h
theorem gGP {op : Op} {K : Value → Prop} (h : GP P E op K) : GP P E op K:=h
theorem gGB {op : BinOp} {K : Value → Prop} (h : GP P E (.binOp op xt x y yt) K) : GP P E (.binOp op xt x y yt) K:=h
end
end Go.Proofs.YtampmicahnnebaaGreat.Sp
namespace Go.Proofs.YtampmicahnnebaaGreat.Sp
open Go Go.RowKit
structure Asn where
  H : World → (Nat → Prop) → Prop
  mono : ∀ {W : World} {F F' : Nat → Prop},(∀ k,F k → F' k) → H W F → H W F'
  move : ∀ {W W' : World} {F : Nat → Prop},(∀ k,F k → k < W.heap.size → W'.heap[k]? = W.heap[k]?) → H W F → H W' F
  bound : ∀ {W : World} {F : Nat → Prop},H W F → H W (fun k=>F k ∧ k < W.heap.size)
def SepIn (W : World) : (Nat → Prop) → List Asn → Prop
  | _,[]=>True
  | ok,A :: L=>∃ F : Nat → Prop,(∀ k,F k → ok k) ∧ A.H W F ∧ SepIn W (fun k=>ok k ∧ ¬ F k) L
theorem SepIn.mono {W : World} : ∀ {L : List Asn} {ok ok' : Nat → Prop},(∀ k,ok k → ok' k) → SepIn W ok L → SepIn W ok' L
  | [],_,_,_,_=>trivial
  | A :: L,ok,ok',h,⟨F,h1,h2,h3⟩=>⟨F,fun k hk=>h k (h1 k hk),h2,SepIn.mono (fun k hk=>⟨h k hk.1,hk.2⟩) h3⟩
theorem SepIn.move {W W' : World} : ∀ {L : List Asn} {ok : Nat → Prop},(∀ k,ok k → k < W.heap.size → W'.heap[k]? = W.heap[k]?) → SepIn W ok L → SepIn W' ok L
  | [],_,_,_=>trivial
  | A :: L,ok,h,⟨F,h1,h2,h3⟩=>⟨F,h1,A.move (fun k hk hl=>h k (h1 k hk) hl) h2,SepIn.move (fun k hk hl=>h k hk.1 hl) h3⟩
theorem SepIn.bound {W : World} : ∀ {L : List Asn} {ok : Nat → Prop},SepIn W ok L → SepIn W (fun k=>ok k ∧ k < W.heap.size) L
  | [],_,_=>trivial
  | A :: L,ok,⟨F,h1,h2,h3⟩=>by
    refine ⟨fun k=>F k ∧ k < W.heap.size,fun k hk=>⟨h1 k hk.1,hk.2⟩,A.bound h2,?_⟩
    exact SepIn.mono (fun k hk=>⟨⟨hk.1.1,hk.2⟩,fun hf=>hk.1.2 hf.1⟩) (SepIn.bound h3)
theorem SepIn.perm {W : World} {L L' : List Asn} (h : L.Perm L') : ∀ {ok : Nat → Prop},SepIn W ok L → SepIn W ok L':=by
  induction h with
  | nil=>exact fun h=>h
  | cons A _ ih=>rintro ok ⟨F,h1,h2,h3⟩;exact ⟨F,h1,h2,ih h3⟩
  | swap A B L =>
    rintro ok ⟨F,h1,h2,G,h3,h4,h5⟩
    exact ⟨G,fun k hk=>(h3 k hk).1,h4,F,fun k hk=>⟨h1 k hk,fun hg=>(h3 k hg).2 hk⟩,h2,h5.mono (fun k hk=>⟨⟨hk.1.1,hk.2⟩,hk.1.2⟩)⟩
  | trans _ _ ih1 ih2=>exact fun h=>ih2 (ih1 h)
theorem SepIn.append {W : World} : ∀ {L M : List Asn} {ok : Nat → Prop},SepIn W ok (L ++ M) → ∃ F : Nat → Prop,(∀ k,F k → ok k) ∧ SepIn W F L ∧ SepIn W (fun k=>ok k ∧ ¬ F k) M
  | [],M,ok,h=>⟨fun _=>False,fun _ h=>h.elim,trivial,h.mono (fun k hk=>⟨hk,fun h=>h⟩)⟩
  | A :: L,M,ok,⟨F,h1,h2,h3⟩=>by
    obtain ⟨G,g1,g2,g3⟩:=SepIn.append h3
    refine ⟨fun k=>F k ∨ G k,fun k hk=>hk.elim (h1 k) (fun h=>(g1 k h).1),⟨F,fun k hk=>.inl hk,h2,g2.mono (fun k hk=>⟨.inr hk,(g1 k hk).2⟩)⟩,g3.mono (fun k hk=>⟨hk.1.1,fun h=>h.elim hk.1.2 hk.2⟩)⟩
theorem SepIn.join {W : World} : ∀ {L M : List Asn} {ok F : Nat → Prop},(∀ k,F k → ok k) → SepIn W F L → SepIn W (fun k=>ok k ∧ ¬ F k) M → SepIn W ok (L ++ M)
  | [],M,ok,F,h,_,h2=>h2.mono (fun k hk=>hk.1)
  | A :: L,M,ok,F,h,⟨G,g1,g2,g3⟩,h2=>by
    refine ⟨G,fun k hk=>h k (g1 k hk),g2,SepIn.join (F:=fun k=>F k ∧ ¬ G k) (fun k hk=>⟨h k hk.1,hk.2⟩) g3 (h2.mono (fun k hk=>⟨⟨hk.1,fun hg=>hk.2 (g1 k hg)⟩,fun hf=>hk.2 hf.1⟩))⟩
structure Mem (w0 W : World) (L : List Asn) : Prop where
  below : Below w0.heap.size w0 W
  sep : SepIn W (fun k=>w0.heap.size ≤ k) L
section
variable {w0 W W1 : World} {L L' R : List Asn} {A B : Asn}
theorem Mem.start (w : World) : Mem w w []:=⟨Below.refl _ _,trivial⟩
theorem Mem.perm (h : Mem w0 W L) (hp : L.Perm L') : Mem w0 W L':=⟨h.below,h.sep.perm hp⟩
theorem Mem.drop (h : Mem w0 W (A :: L)) : Mem w0 W L:=⟨h.below,by obtain ⟨F,_,_,h3⟩:=h.sep;exact h3.mono (fun k hk=>hk.1)⟩
theorem Mem.step (h : Mem w0 W L) (hb : Below W.heap.size W W1) : Mem w0 W1 L :=
  ⟨h.below.trans ⟨hb.os,hb.tape,hb.output,hb.size,fun k hk=>hb.block k (Nat.lt_of_lt_of_le hk h.below.size)⟩,h.sep.move (fun k _ hl=>hb.block k hl)⟩
theorem Mem.drew (h : Mem w0 W L) : Mem w0 W.drew L:=h.step ⟨rfl,rfl,rfl,Nat.le_refl _,fun _ _=>rfl⟩
theorem Mem.add (h : Mem w0 W L) (hb : Below W.heap.size W W1) (hB : B.H W1 (fun k=>W.heap.size ≤ k)) : Mem w0 W1 (B :: L):=by
  refine ⟨(h.step hb).below,fun k=>W.heap.size ≤ k,fun k hk=>Nat.le_trans h.below.size hk,hB,?_⟩
  exact (h.sep.bound.move (fun k hk _=>hb.block k hk.2)).mono (fun k hk=>⟨hk.1,fun hg=>by have:=hk.2;omega⟩)
theorem Mem.split (h : Mem w0 W (A :: L)) : ∃ F : Nat → Prop,(∀ k,F k → w0.heap.size ≤ k) ∧ A.H W F ∧ ∀ (W1 : World) (R : List Asn),W1.os = W.os → W1.tape = W.tape → W1.output = W.output → W.heap.size ≤ W1.heap.size →
    (∀ k,k < W.heap.size → ¬ F k → W1.heap[k]? = W.heap[k]?) → SepIn W1 (fun k=>F k ∨ W.heap.size ≤ k) R → Mem w0 W1 (R ++ L):=by
  obtain ⟨hb,F,h1,h2,h3⟩:=h
  refine ⟨F,h1,h2,fun W1 R e1 e2 e3 e4 e5 e6=>?_⟩
  refine ⟨⟨e1.trans hb.os,e2.trans hb.tape,e3.trans hb.output,Nat.le_trans hb.size e4,fun k hk=>(e5 k (Nat.lt_of_lt_of_le hk hb.size) (fun hf=>by have:=h1 k hf;omega)).trans (hb.block k hk)⟩,?_⟩
  refine SepIn.join (F:=fun k=>F k ∨ W.heap.size ≤ k) (fun k hk=>hk.elim (h1 k) (fun h=>Nat.le_trans hb.size h)) e6 ?_
  refine (h3.bound.move (fun k hk _=>e5 k hk.2 hk.1.2)).mono (fun k hk=>⟨hk.1.1,fun hf=>hf.elim hk.1.2 (fun h=>by have:=hk.2;omega)⟩)
theorem Mem.turn (h : Mem w0 W (A :: L)) (hu : ∀ F : Nat → Prop,(∀ k,F k → w0.heap.size ≤ k) → A.H W F → W1.os = W.os ∧ W1.tape = W.tape ∧ W1.output = W.output ∧ W.heap.size ≤ W1.heap.size ∧
    (∀ k,k < W.heap.size → ¬ F k → W1.heap[k]? = W.heap[k]?) ∧ SepIn W1 (fun k=>F k ∨ W.heap.size ≤ k) R) : Mem w0 W1 (R ++ L):=by
  obtain ⟨hb,F,h1,h2,h3⟩:=h
  obtain ⟨e1,e2,e3,e4,e5,e6⟩:=hu F h1 h2
  refine ⟨⟨e1.trans hb.os,e2.trans hb.tape,e3.trans hb.output,Nat.le_trans hb.size e4,fun k hk=>(e5 k (Nat.lt_of_lt_of_le hk hb.size) (fun hf=>by have:=h1 k hf;omega)).trans (hb.block k hk)⟩,?_⟩
  refine SepIn.join (F:=fun k=>F k ∨ W.heap.size ≤ k) (fun k hk=>hk.elim (h1 k) (fun h=>Nat.le_trans hb.size h)) e6 ?_
  refine (h3.bound.move (fun k hk _=>e5 k hk.2 hk.1.2)).mono (fun k hk=>⟨hk.1.1,fun hf=>hf.elim hk.1.2 (fun h=>by have:=hk.2;omega)⟩)
theorem Mem.turn1 (h : Mem w0 W (A :: L)) (hu : ∀ F : Nat → Prop,(∀ k,F k → w0.heap.size ≤ k) → A.H W F → W1.os = W.os ∧ W1.tape = W.tape ∧ W1.output = W.output ∧ W.heap.size ≤ W1.heap.size ∧
    (∀ k,k < W.heap.size → ¬ F k → W1.heap[k]? = W.heap[k]?) ∧ B.H W1 (fun k=>F k ∨ W.heap.size ≤ k)) : Mem w0 W1 (B :: L) :=
  h.turn (R:=[B]) fun F hF hA=>by
    obtain ⟨e1,e2,e3,e4,e5,e6⟩:=hu F hF hA
    exact ⟨e1,e2,e3,e4,e5,_,fun _ h=>h,e6,trivial⟩
end
def exP {ι : Type} (p : ι → Prop) (L : ι → List Asn) : Asn where
  H:=fun W F=>∃ i,p i ∧ SepIn W F (L i)
  mono:=fun h ⟨i,h1,h2⟩=>⟨i,h1,h2.mono h⟩
  move:=fun h ⟨i,h1,h2⟩=>⟨i,h1,h2.move h⟩
  bound:=fun ⟨i,h1,h2⟩=>⟨i,h1,h2.bound⟩
section
variable {w0 W : World} {M : List Asn}
theorem Mem.ex {ι : Type} {p : ι → Prop} {L : ι → List Asn} (h : Mem w0 W (exP p L :: M)) : ∃ i,p i ∧ Mem w0 W (L i ++ M):=by
  obtain ⟨hb,F,h1,⟨i,hp,hs⟩,h3⟩:=h
  exact ⟨i,hp,hb,SepIn.join h1 hs h3⟩
theorem Mem.mkx {ι : Type} {p : ι → Prop} {L : ι → List Asn} (i : ι) (hp : p i) (h : Mem w0 W (L i ++ M)) : Mem w0 W (exP p L :: M):=by
  obtain ⟨F,h1,h2,h3⟩:=SepIn.append h.sep
  exact ⟨h.below,F,h1,⟨i,hp,h2⟩,h3⟩
end
def box (g t : Nat) (cs : List Value) : Asn where
  H:=fun W F=>F g ∧ W.heap[g]? = some (.cells cs.toArray t (0,0))
  mono:=fun h ⟨h1,h2⟩=>⟨h _ h1,h2⟩
  move:=fun h ⟨h1,h2⟩=>⟨h1,(h _ h1 (Array.getElem?_eq_some_iff.1 h2).1).trans h2⟩
  bound:=fun ⟨h1,h2⟩=>⟨⟨h1,(Array.getElem?_eq_some_iff.1 h2).1⟩,h2⟩
def row (e sz : Nat) (A : Option Addr) (n c : Nat) (cs : List Value) : Asn where
  H:=fun W F=>W.ownsRow 0 e sz (.slice A n c) n cs ∧ ∀ k,(Value.slice A n c).ownBlock = some k → F k
  mono:=fun h ⟨h1,h2⟩=>⟨h1,fun k hk=>h k (h2 k hk)⟩
  move:=by
    rintro W W' F h ⟨h1,h2⟩
    refine ⟨?_,h2⟩
    obtain ⟨hl,h3⟩:=h1
    refine ⟨hl,?_⟩
    rcases h3 with h3|⟨g,cap,cur,he,hb,hh,hr⟩
    · exact .inl h3
    · exact .inr ⟨g,cap,cur,he,hb,(h g (h2 g (by rw [he];rfl)) (Array.getElem?_eq_some_iff.1 hh).1).trans hh,hr⟩
  bound:=by
    rintro W F ⟨h1,h2⟩
    refine ⟨h1,fun k hk=>⟨h2 k hk,?_⟩⟩
    obtain ⟨hl,h3⟩:=h1
    rcases h3 with ⟨he,_⟩|⟨g,cap,cur,he,hb,hh,hr⟩
    · rw [he] at hk;cases hk
    · rw [he] at hk
      cases hk
      exact (Array.getElem?_eq_some_iff.1 hh).1
structure Ty (α : Type) where
  sz : Nat
  z : α
  A : α → List Value → Asn
  get : α → Nat → Option Value
  set : α → Nat → Value → Option α
  len : ∀ {x c W F},(A x c).H W F → c.length = sz
  one : ∀ {x c W F},(A x c).H W F → ∀ u ∈ c,u.oneCell' = true
  get_ok : ∀ {x c W F j v},(A x c).H W F → get x j = some v → c[j]? = some v
  set_ok : ∀ {x c W F j v x'},(A x c).H W F → set x j v = some x' → (A x' (c.set j v)).H W F ∧ j < sz ∧ v.oneCell' = true
def els {α : Type} (d : Ty α) : List α → List (List Value) → List Asn
  | x :: xs,c :: cs=>d.A x c :: els d xs cs
  | _,_=>[]
def own {α : Type} (d : Ty α) (e : Nat) (A : Option Addr) (c : Nat) (xs : List α) : Asn :=
  exP (fun css : List (List Value)=>css.length = xs.length) (fun css=>row e d.sz A xs.length c css.flatten :: els d xs css)
def rd {α : Type} (d : Ty α) (xs : List α) (i : Int) : α:=xs.getD i.toNat d.z
def adr (A : Option Addr) : Addr:=A.getD ⟨0,0,none⟩
class Pk (L : List Asn) (A : Asn) (R : outParam (List Asn)) : Prop where out : L.Perm (A :: R)
instance Pk.here {A : Asn} {L : List Asn} : Pk (A :: L) A L:=⟨List.Perm.refl _⟩
instance (priority:=low) Pk.there {A B : Asn} {L R : List Asn} [h : Pk L A R] : Pk (B :: L) A (B :: R):=⟨(List.Perm.cons B h.out).trans (List.Perm.swap A B R)⟩
class Rp (L : List Asn) (A B : Asn) (L' : outParam (List Asn)) : Prop where out : ∃ R,L.Perm (A :: R) ∧ L'.Perm (B :: R)
instance Rp.here {A B : Asn} {L : List Asn} : Rp (A :: L) A B (B :: L):=⟨L,List.Perm.refl _,List.Perm.refl _⟩
instance (priority:=low) Rp.there {A B C : Asn} {L L' : List Asn} [h : Rp L A B L'] : Rp (C :: L) A B (C :: L'):=⟨by
  obtain ⟨R,h1,h2⟩:=h.out
  exact ⟨C :: R,(List.Perm.cons C h1).trans (List.Perm.swap A C R),(List.Perm.cons C h2).trans (List.Perm.swap B C R)⟩⟩
class BoxAt (L : List Asn) (g : Nat) (t : outParam Nat) (cs : outParam (List Value)) : Prop where mem : ∃ R,L.Perm (box g t cs :: R)
instance BoxAt.here {g t : Nat} {cs : List Value} {L : List Asn} : BoxAt (box g t cs :: L) g t cs:=⟨L,List.Perm.refl _⟩
instance (priority:=low) BoxAt.there {B : Asn} {L : List Asn} {g t : Nat} {cs : List Value} [h : BoxAt L g t cs] : BoxAt (B :: L) g t cs:=⟨by
  obtain ⟨R,h⟩:=h.mem
  exact ⟨B :: R,(List.Perm.cons B h).trans (List.Perm.swap _ B R)⟩⟩
class OwnAt (L : List Asn) (A : Option Addr) (c : outParam Nat) (α : outParam Type) (d : outParam (Ty α)) (e : outParam Nat) (xs : outParam (List α)) : Prop where mem : ∃ R,L.Perm (own d e A c xs :: R)
instance OwnAt.here {α : Type} {d : Ty α} {e : Nat} {A : Option Addr} {c : Nat} {xs : List α} {L : List Asn} : OwnAt (own d e A c xs :: L) A c α d e xs:=⟨L,List.Perm.refl _⟩
instance (priority:=low) OwnAt.there {α : Type} {d : Ty α} {e : Nat} {A : Option Addr} {c : Nat} {xs : List α} {L : List Asn} {B : Asn} [h : OwnAt L A c α d e xs] : OwnAt (B :: L) A c α d e xs:=⟨by
  obtain ⟨R,h⟩:=h.mem
  exact ⟨B :: R,(List.Perm.cons B h).trans (List.Perm.swap _ B R)⟩⟩
class Nth (cs : List Value) (j : Nat) (v : outParam Value) : Prop where out : cs[j]? = some v
instance Nth.zero {v : Value} {cs : List Value} : Nth (v :: cs) 0 v:=⟨rfl⟩
instance Nth.succ {u v : Value} {cs : List Value} {j : Nat} [h : Nth cs j v] : Nth (u :: cs) (j + 1) v:=⟨by rw [List.getElem?_cons_succ];exact h.out⟩
class Stl (cs : List Value) (j : Nat) (v : Value) (cs' : outParam (List Value)) : Prop where out : cs.set j v = cs' ∧ j < cs.length
instance Stl.zero {u v : Value} {cs : List Value} : Stl (u :: cs) 0 v (v :: cs):=⟨rfl,by simp⟩
instance Stl.succ {u v : Value} {cs cs' : List Value} {j : Nat} [h : Stl cs j v cs'] : Stl (u :: cs) (j + 1) v (u :: cs'):=⟨by rw [List.set_cons_succ,h.out.1],by simpa using h.out.2⟩
class Sub (cs : List Value) (j m : Nat) (ws : outParam (List Value)) : Prop where out : (cs.drop j).take m = ws ∧ j + m ≤ cs.length
instance Sub.nil {cs : List Value} : Sub cs 0 0 []:=⟨by simp,by simp⟩
instance Sub.take {u : Value} {cs ws : List Value} {m : Nat} [h : Sub cs 0 m ws] : Sub (u :: cs) 0 (m + 1) (u :: ws):=⟨by have:=h.out.1;simp at this ⊢;exact this,by have:=h.out.2;simp at this ⊢;omega⟩
instance Sub.skip {u : Value} {cs ws : List Value} {j m : Nat} [h : Sub cs j m ws] : Sub (u :: cs) (j + 1) m ws:=⟨by have:=h.out.1;simpa using this,by have:=h.out.2;simp at this ⊢;omega⟩
def puts : List Value → Nat → List Value → List Value
  | cs,_,[]=>cs
  | cs,j,v :: r=>puts (cs.set j v) (j + 1) r
class Pts (cs : List Value) (j : Nat) (ws : List Value) (cs' : outParam (List Value)) : Prop where out : puts cs j ws = cs' ∧ j + ws.length ≤ cs.length
instance Pts.nil {cs : List Value} : Pts cs 0 [] cs:=⟨rfl,by simp⟩
theorem puts_cons (u : Value) : ∀ (ws cs : List Value) (j : Nat),puts (u :: cs) (j + 1) ws = u :: puts cs j ws
  | [],_,_=>rfl
  | v :: r,cs,j=>by simp only [puts,List.set_cons_succ];exact puts_cons u r _ _
instance Pts.cons {u v : Value} {cs ws cs' : List Value} [h : Pts cs 0 ws cs'] : Pts (u :: cs) 0 (v :: ws) (v :: cs'):=⟨by simp only [puts,List.set_cons_zero];rw [puts_cons,h.out.1],by have:=h.out.2;simp at this ⊢;omega⟩
instance Pts.skip {u w : Value} {cs ws cs' : List Value} {j : Nat} [h : Pts cs j (w :: ws) cs'] : Pts (u :: cs) (j + 1) (w :: ws) (u :: cs'):=⟨by rw [puts_cons,h.out.1],by have:=h.out.2;simp at this ⊢;omega⟩
section
variable {w0 W W1 : World} {L L' R : List Asn} {A B : Asn}
theorem Mem.pk [h : Pk L A R] (hm : Mem w0 W L) : Mem w0 W (A :: R):=hm.perm h.out
theorem Mem.heap {g t : Nat} {cs : List Value} [h : BoxAt L g t cs] (hm : Mem w0 W L) : W.heap[g]? = some (.cells cs.toArray t (0,0)):=by
  obtain ⟨R,hp⟩:=h.mem
  obtain ⟨F,_,⟨_,h2⟩,_⟩:=(hm.perm hp).sep
  exact h2
theorem Mem.put {g t : Nat} {cs cs' : List Value} [h : Rp L (box g t cs) (box g t cs') L'] (hm : Mem w0 W L) (hh : W1.heap[g]? = some (.cells cs'.toArray t (0,0))) (hg : W.grownBy W1 (some g)) : Mem w0 W1 L':=by
  obtain ⟨R,h1,h2⟩:=h.out
  refine Mem.perm (L:=box g t cs' :: R) ?_ h2.symm
  refine (hm.perm h1).turn1 (fun F hF hA=>?_)
  obtain ⟨hFg,_⟩:=hA
  exact ⟨hg.os,hg.tape,hg.output,hg.size,fun k hk hn=>hg.block k hk (fun e=>hn (Option.some.inj e ▸ hFg)),.inl hFg,hh⟩
end
class Cel (v : Value) (ws : outParam (List Value)) : Prop where out : v.cells.toList = ws
instance Cel.int {k : IntKind} {m : Int} : Cel (.int k m) [.int k m]:=⟨rfl⟩
instance Cel.bool {b : Bool} : Cel (.bool b) [.bool b]:=⟨rfl⟩
instance Cel.string {s : ByteArray} : Cel (.string s) [.string s]:=⟨rfl⟩
instance Cel.slice {A : Option Addr} {l c : Nat} : Cel (.slice A l c) [.slice A l c]:=⟨rfl⟩
instance Cel.pointer {A : Option Addr} : Cel (.pointer A) [.pointer A]:=⟨rfl⟩
instance Cel.agg {ws : List Value} : Cel (.agg ws.toArray) ws:=⟨rfl⟩
class Sb (L L' : List Asn) : Prop where out : ∀ (W : World) (ok : Nat → Prop),SepIn W ok L → SepIn W ok L'
instance (priority:=high) Sb.refl {L : List Asn} : Sb L L:=⟨fun _ _ h=>h⟩
instance Sb.cons {L R L' : List Asn} {A : Asn} [h1 : Pk L A R] [h2 : Sb R L'] : Sb L (A :: L'):=⟨fun W ok h=>by
  obtain ⟨F,f1,f2,f3⟩:=h.perm h1.out
  exact ⟨F,f1,f2,h2.out _ _ f3⟩⟩
instance (priority:=low) Sb.drop {L L' : List Asn} {B : Asn} [h : Sb L L'] : Sb (B :: L) L':=⟨fun W ok ⟨F,_,_,f3⟩=>h.out _ _ (f3.mono (fun k hk=>hk.1))⟩
theorem Mem.sb {w0 W : World} {L L' : List Asn} (hm : Mem w0 W L) [h : Sb L L'] : Mem w0 W L':=⟨hm.below,h.out _ _ hm.sep⟩
section
variable {P : Program} {n : Nat} {ops : Array Oper} {Q : Exit → Act → World → Prop} {rest : List Oper} {E : Env} {w0 W : World} {L L' R : List Asn}
variable {d : Nat} {ty pt : TypeId} {pos : String} {after : Array Edge} {x y : Operand} {v : Value} {g t j : Nat} {cs ws cs' : List Value}
class One (P : Program) (t : TypeId) : Prop where out : ∃ u,P.underlying t = some u ∧ (match u with|.struct _|.array _ _=>false|_=>true) = true
class Agg (P : Program) (t : TypeId) (m : outParam Nat) : Prop where out : ∃ u,P.underlying t = some u ∧ (match u with|.struct _|.array _ _=>true|_=>false) = true ∧ (P.info? t).map (·.size) = some m
class Zer (P : Program) (t : TypeId) (cs : outParam (List Value)) : Prop where out : ∃ i z,P.info? t = some i ∧ i.zero = some z ∧ z.cells.toList = cs
theorem run_new (W : World) (t : Nat) (v : Value) : (newVar t v).run P W = .ok ⟨W.heap.size,0,none⟩ (W.alloc (.cells v.cells t)):=by
  rfl
theorem Mem.alloc (hm : Mem w0 W L) (t : Nat) (cs : List Value) : Mem w0 (W.alloc (.cells cs.toArray t)) (box W.heap.size t cs :: L):=by
  refine hm.add ((Below.refl _ _).alloc (Nat.le_refl _) _) ⟨Nat.le_refl _,heap_alloc_new W _⟩
theorem s_box (hm : Mem w0 W L) (hx : ev E x = some v) [hcl : Cel v cs] (hn : Nat.blt d n = true) (h : ∀ g W1,Mem w0 W1 (box g t cs :: L) → WL P n ops Q rest ((d,.pointer (some ⟨g,0,none⟩)) :: E) W1) :
    WL P n ops Q (⟨some d,.box t x,ty,pos,after,none⟩ :: rest) E W :=
  have hc:=hcl.out
  s_run (W1:=W.alloc (.cells v.cells t)) rfl rfl hn (fun a ha=>by simp [execOp,ha.eval hx,Instr.box,run_new]) (h W.heap.size _ (by subst hc;simpa using hm.alloc t v.cells.toList))
theorem s_alloc [hz : Zer P t cs] (hm : Mem w0 W L) (hn : Nat.blt d n = true) (h : ∀ g W1,Mem w0 W1 (box g t cs :: L) → WL P n ops Q rest ((d,.pointer (some ⟨g,0,none⟩)) :: E) W1) :
    WL P n ops Q (⟨some d,.alloc t,ty,pos,after,none⟩ :: rest) E W:=by
  obtain ⟨i,z,hi,hzz,rfl⟩:=hz.out
  exact s_run (W1:=W.alloc (.cells z.cells t)) rfl rfl hn (fun a ha=>by simp [execOp,Instr.alloc,zeroValue,typeInfo,hi,hzz,run_new]) (h W.heap.size _ (by simpa using hm.alloc t z.cells.toList))
structure LV (P : Program) (E : Env) (w0 : World) (L : List Asn) (op : Op) (v : Value) : Prop where out : ∀ w,Mem w0 w L → ∀ (n : Nat) (a : Act),Fits n E a → ∀ dst ty pos after gd,(execOp a.eval ⟨dst,op,ty,pos,after,gd⟩).run P w = .ok (.value v) w
theorem PV.lv {op : Op} (h : PV P E op v) : LV P E w0 L op v:=⟨fun w _ n a ha _ _ _ _ _=>h.out n a ha _ _ _ _ _ _⟩
theorem s_lv {op : Op} (hm : Mem w0 W L) (hl : LV P E w0 L op v) (hn : Nat.blt d n = true) (h : WL P n ops Q rest ((d,v) :: E) W) : WL P n ops Q (⟨some d,op,ty,pos,after,none⟩ :: rest) E W:=s_run rfl rfl hn (fun a ha=>hl.out W hm n a ha _ _ _ _ _) h
structure GV (P : Program) (E : Env) (w0 : World) (L : List Asn) (op : Op) (K : Value → Prop) : Prop where out : ∃ v,LV P E w0 L op v ∧ K v
theorem gv {op : Op} {K : Value → Prop} (hp : LV P E w0 L op v) (h : K v) : GV P E w0 L op K:=⟨v,hp,h⟩
theorem s_gv {t : TypeId} (hm : Mem w0 W L) (hn : Nat.blt d n = true) (h : GV P E w0 L (.load t x) fun v=>WL P n ops Q rest ((d,v) :: E) W) : WL P n ops Q (⟨some d,.load t x,ty,pos,after,none⟩ :: rest) E W:=by
  obtain ⟨v,hp,h⟩:=h.out
  exact s_lv hm hp hn h
theorem gGV {op : Op} {K : Value → Prop} (h : GV P E w0 L op K) : GV P E w0 L op K:=h
theorem p_load [hB : BoxAt L g t cs] [hv : Nth cs j v] [hO : One P pt] (hx : ev E x = some (.pointer (some ⟨g,j,none⟩))) : LV P E w0 L (.load pt x) v :=
  ⟨fun W hm n a ha dst ty pos after gd=>by
    obtain ⟨u,hu,hu2⟩:=hO.out
    have hc : W.cell? ⟨g,j,none⟩ = some v:=by rw [cell_of_row W g j _ t (0,0) hm.heap];simpa using hv.out
    have hl : (loadVar pt ⟨g,j,none⟩).run P W = .ok v W:=by
      unfold loadVar isAgg
      cases u <;> simp_all [underlying,load,Sem.run]
    simp [execOp,ha.eval hx,Instr.loadAt,Instr.sureAddr,hl]⟩
theorem p_loads {m : Nat} [hB : BoxAt L g t cs] [hA : Agg P pt m] [hv : Sub cs j m ws] (hx : ev E x = some (.pointer (some ⟨g,j,none⟩))) : LV P E w0 L (.load pt x) (.agg ws.toArray) :=
  ⟨fun W hm n a ha dst ty pos after gd=>by
    obtain ⟨u,hu,hu2,hi⟩:=hA.out
    obtain ⟨h1,h2⟩:=hv.out
    have hr : W.rangeAt g j ws:=by
      intro i z hz
      rw [cell_of_row W g (j + i) _ t (0,0) hm.heap]
      rw [← h1] at hz
      rw [List.getElem?_take] at hz
      split at hz
      · simpa [List.getElem?_drop] using hz
      · cases hz
    have hl : ws.length = m:=by rw [← h1];simp;omega
    have:=run_loadVar_mid (P:=P) W g j pt ws u hr hu (by cases u <;> simp_all [TypeDesc.isRow]) (by rw [hi,hl])
    simp [execOp,ha.eval hx,Instr.loadAt,Instr.sureAddr,this]⟩
theorem grown_setCells (g : Nat) : ∀ (vs : List Value) (o : Nat) (w : World),w.grownBy (w.setCells g o vs) (some g)
  | [],_,w=>World.grownBy.refl w _
  | v :: r,o,w=>by
    have h1 : w.grownBy (w.setCell ⟨g,o,none⟩ v) (some g):=⟨rfl,rfl,rfl,by simp [World.setCell],fun k _ hk=>Below.heap_setCell _ _ _ k (fun e=>hk (by rw [e]))⟩
    have h2:=grown_setCells g r (o + 1) (w.setCell ⟨g,o,none⟩ v)
    exact ⟨h2.os.trans h1.os,h2.tape.trans h1.tape,h2.output.trans h1.output,Nat.le_trans h1.size h2.size,fun k hk hn=>(h2.block k (Nat.lt_of_lt_of_le hk h1.size) hn).trans (h1.block k hk hn)⟩
theorem setCell_heap (w : World) (g o : Nat) (v : Value) (old : List Value) (t : TypeId) (fr : Nat × Nat) (hg : w.heap[g]? = some (.cells old.toArray t fr)) : (w.setCell ⟨g,o,none⟩ v).heap[g]? = some (.cells (old.set o v).toArray t fr):=by
  simp [World.setCell,Array.getElem?_modify,hg]
theorem setCells_heap (g : Nat) (t : TypeId) (fr : Nat × Nat) : ∀ (vs : List Value) (o : Nat) (w : World) (old : List Value),w.heap[g]? = some (.cells old.toArray t fr) → (w.setCells g o vs).heap[g]? = some (.cells (puts old o vs).toArray t fr)
  | [],_,_,_,h=>h
  | v :: r,o,w,old,h=>setCells_heap g t fr r (o + 1) _ _ (setCell_heap w g o v old t fr h)
theorem there_box {w : World} {g o : Nat} {old : List Value} {t : TypeId} (hg : w.heap[g]? = some (.cells old.toArray t (0,0))) {n : Nat} (h : o + n ≤ old.length) : w.there g o n:=by
  intro j hj
  have hlt : o + j < old.length:=by omega
  exact ⟨by simp [World.cell?,hg,hlt],by simp [World.frozen?,hg]⟩
theorem run_store (W : World) (g o : Nat) (ty : TypeId) (v : Value) (cs : List Value) (hv : v.cells.toList = cs) (ht : W.there g o cs.length) (hi : (P.info? ty).map (·.size) = some cs.length) (h1 : ∀ u ∈ cs,u.oneCell' = true) :
    (storeVar ty ⟨g,o,none⟩ v).run P W = .ok () (W.setCells g o cs):=by
  have hm:=run_storeVar_mid (P:=P) W g o ty cs.toArray (by simpa using ht) (by simpa using hi) (by rw [← Array.all_toList];simpa [List.all_eq_true] using h1)
  have e : v.cells = cs.toArray:=by rw [← hv]
  unfold storeVar at hm ⊢
  rw [e]
  simpa [Value.cells] using hm
theorem s_store {m : Nat} [hB : BoxAt L g t cs] [hS : Siz P pt m] (hm : Mem w0 W L) (hx : ev E x = some (.pointer (some ⟨g,j,none⟩))) (hy : ev E y = some v) [hv : Cel v ws] (hl : ws.length = m) (h1 : ws.all (·.oneCell') = true)
    [hp : Pts cs j ws cs'] [hr : Rp L (box g t cs) (box g t cs') L'] (h : ∀ W1,Mem w0 W1 L' → WL P n ops Q rest E W1) :
    WL P n ops Q (⟨none,.store pt x y,ty,pos,after,none⟩ :: rest) E W:=by
  obtain ⟨e,hlen⟩:=hp.out
  have hh : (W.setCells g j ws).heap[g]? = some (.cells cs'.toArray t (0,0)):=by rw [← e];exact setCells_heap g t (0,0) ws j W cs hm.heap
  refine s_act (W1:=W.setCells g j ws) rfl rfl (fun a ha=>?_) (h _ (hm.put (cs:=cs) (cs':=cs') hh (grown_setCells g ws j W)))
  have:=run_store (P:=P) W g j pt v ws hv.out (there_box hm.heap hlen) (by rw [hS.out,hl]) (by simpa [List.all_eq_true] using h1)
  simp [execOp,ha.eval hx,ha.eval hy,Instr.storeAt,Instr.sureAddr,this]
theorem ret_cell {fn : Func} {R : Ending → World → Prop} {p m : Nat} [hB : BoxAt L g t cs] [hA : Agg P pt m] (hm : Mem w0 W L) (hf : fn.results = #[.cell p pt]) (hp : look E p = some (.pointer (some ⟨g,0,none⟩))) (hl : cs.length = m) (h : R (.returned (.agg cs.toArray)) W) : WN n .ret (bodyPost P fn R) E W:=⟨fun a ha=>by
  obtain ⟨u,hu,hu2,hi⟩:=hA.out
  exact ⟨ha.defers,_,results_cell_row hf _ _ g t cs.toArray (0,0) u (ha.slots p _ hp) hm.heap hu (by cases u <;> first|rfl|(simp at hu2)) (by rw [hi];simp [hl]),h⟩⟩
end
theorem zerB {P : Program} {t : TypeId} {cs : List Value} (h : ((P.info? t).bind fun i=>i.zero.map fun z=>z.cells.toList) = some cs) : Zer P t cs:=⟨by
  obtain ⟨i,hi,hz⟩:=Option.bind_eq_some_iff.1 h
  obtain ⟨z,hz,hc⟩:=Option.map_eq_some_iff.1 hz
  exact ⟨i,z,hi,hz,hc⟩⟩
def eltOk (P : Program) (e sz bytes : Nat) : Bool :=
  match P.info? e with
  | some i=>(match i.zero with|some z=>z.cells.size == sz|none=>false) && i.size == sz && i.bytes == bytes && Nat.blt 0 sz && Nat.blt 0 bytes
  | none=>false
class Elt (P : Program) (e : Nat) (sz bytes : outParam Nat) : Prop where out : eltOk P e sz bytes = true
theorem eltB {P : Program} {e sz bytes : Nat} (h : eltOk P e sz bytes = true) : Elt P e sz bytes:=⟨h⟩
theorem Elt.spec {P : Program} {e sz bytes : Nat} (h : Elt P e sz bytes) : ∃ i z,P.info? e = some i ∧ i.zero = some z ∧ z.cells.size = sz ∧ i.size = sz ∧ i.bytes = bytes ∧ 0 < sz ∧ 0 < bytes:=by
  have h:=h.out
  unfold eltOk at h
  split at h
  · rename_i i hi
    split at h
    · rename_i z hz
      simp [Nat.blt_eq] at h
      exact ⟨i,z,hi,hz,h.1.1.1.1,h.1.1.1.2,h.1.1.2,h.1.2,h.2⟩
    · simp at h
  · cases h
class Fun (P : Program) (f : Nat) (fn : outParam Func) : Prop where
  out : P.funcs[f]? = some fn
  name : (fn.name == "runtime.NumGoroutine") = false
  body : fn.body.isSome = true
section
variable {P : Program} {n : Nat} {ops : Array Oper} {Q : Exit → Act → World → Prop} {rest : List Oper} {E : Env} {W : World} {d : Nat} {ty : TypeId} {pos : String} {after : Array Edge}
theorem s_fn {f : FuncId} {fn : Func} {as_ : List Operand} {ts : Array TypeId} {vs : List Value} [hf : Fun P f fn] (hvs : evs E as_ = some vs) (hn : Nat.blt d n = true) (h : Calls P f vs.toArray W fun e w=>∃ v,e = .returned v ∧ WL P n ops Q rest ((d,v) :: E) w) :
    WL P n ops Q (⟨some d,.call { callee:=.value (.func f),args:=as_.toArray,argTypes:=ts },ty,pos,after,none⟩ :: rest) E W:=s_call hf.out hf.name hf.body hvs hn h
end
class Lay (P : Program) (t : TypeId) (pl : outParam (List (Nat × Nat))) : Prop where out : ∃ fs,P.underlying t = some (.struct fs) ∧ fs.toList.mapM (fun f=>(P.info? f.type).map fun i=>(f.offset,i.size)) = some pl
theorem layB {P : Program} {t : TypeId} {pl : List (Nat × Nat)} (h : (match P.underlying t with|some (.struct fs)=>fs.toList.mapM (fun f=>(P.info? f.type).map fun i=>(f.offset,i.size))|_=>none) = some pl) : Lay P t pl:=⟨by
  split at h
  · rename_i fs hu;exact ⟨fs,hu,h⟩
  · cases h⟩
class PlAt (pl : List (Nat × Nat)) (i : Nat) (off sz : outParam Nat) : Prop where out : pl[i]? = some (off,sz)
instance PlAt.zero {o s : Nat} {r : List (Nat × Nat)} : PlAt ((o,s) :: r) 0 o s:=⟨rfl⟩
instance PlAt.succ {p : Nat × Nat} {r : List (Nat × Nat)} {i o s : Nat} [h : PlAt r i o s] : PlAt (p :: r) (i + 1) o s:=⟨by rw [List.getElem?_cons_succ];exact h.out⟩
class Len (ws : List Value) (k : outParam Nat) : Prop where out : ws.length = k
instance Len.nil : Len [] 0:=⟨rfl⟩
instance Len.cons {w : Value} {ws : List Value} {k : Nat} [h : Len ws k] : Len (w :: ws) (k + 1):=⟨by rw [List.length_cons,h.out]⟩
class Bld (pl : List (Nat × Nat)) (cs : List Value) (vs : List (Nat × Value)) (cs' : outParam (List Value)) : Prop where out : Instr.fill (pl.toArray[·]?) cs.toArray vs = some cs'.toArray
instance Bld.nil {pl : List (Nat × Nat)} {cs : List Value} : Bld pl cs [] cs:=⟨rfl⟩
theorem fill_puts (ws : List Value) : ∀ (cs : List Value) (off k : Nat),(ws.toArray.zipIdx k).foldl (fun cs (c,j)=>cs.setIfInBounds (off + j) c) cs.toArray = (puts cs (off + k) ws).toArray:=by
  induction ws with
  | nil=>intro cs off k;rfl
  | cons w r ih =>
    intro cs off k
    have h:=ih (cs.set (off + k) w) off (k + 1)
    simp only [puts]
    rw [← Array.foldl_toList] at h ⊢
    simp only [Array.toList_zipIdx,List.zipIdx_cons,List.foldl_cons] at h ⊢
    rw [Nat.add_assoc,← h]
    simp
instance Bld.cons {pl : List (Nat × Nat)} {cs cs1 cs2 ws : List Value} {i off k : Nat} {v : Value} {r : List (Nat × Value)} [h1 : PlAt pl i off k] [h2 : Cel v ws] [h3 : Len ws k] [h4 : Pts cs off ws cs1] [h5 : Bld pl cs1 r cs2] : Bld pl cs ((i,v) :: r) cs2:=⟨by
  have hv : v.cells = ws.toArray:=by rw [← h2.out]
  obtain ⟨e1,e2⟩:=h4.out
  have h6 : pl.toArray[i]? = some (off,k):=by simpa using h1.out
  unfold Instr.fill
  simp only [h6,hv]
  have h7:=h3.out
  rw [if_neg (by simp [h3.out];omega)]
  have:=fill_puts ws cs off 0
  simp only [Nat.add_zero] at this
  rw [this,e1]
  exact h5.out⟩
def evp (E : Env) : List (Nat × Operand) → Option (List (Nat × Value))
  | []=>some []
  | (i,x) :: r=>match ev E x,evp E r with|some v,some vs=>some ((i,v) :: vs)|_,_=>none
theorem Fits.evp {n : Nat} {E : Env} {a : Act} (h : Fits n E a) : ∀ {xs : List (Nat × Operand)} {vs : List (Nat × Value)},Sp.evp E xs = some vs → xs.map (fun p=>(p.1,a.eval p.2)) = vs
  | [],vs,hx=>by cases hx;rfl
  | (i,x) :: r,vs,hx=>by
    unfold Sp.evp at hx
    cases hv : ev E x with
    | none=>simp [hv] at hx
    | some v =>
      cases hvs : Sp.evp E r with
      | none=>simp [hv,hvs] at hx
      | some us =>
        simp only [hv,hvs] at hx
        cases hx
        rw [List.map_cons,h.eval hv,h.evp hvs]
section
variable {P : Program} {n : Nat} {ops : Array Oper} {Q : Exit → Act → World → Prop} {rest : List Oper} {E : Env} {w0 W : World} {L : List Asn} {d : Nat} {ty : TypeId} {pos : String} {after : Array Edge} {t : TypeId}
theorem run_mapM_opt {α β : Type} (g : α → Sem β) (k : α → Option β) (hg : ∀ f b W,k f = some b → (g f).run P W = .ok b W) : ∀ (l : List α) (bs : List β) (W : World),l.mapM k = some bs → (l.mapM g).run P W = .ok bs W
  | [],bs,W,h=>by simp at h;subst h;rfl
  | f :: r,bs,W,h=>by
    rw [List.mapM_cons] at h
    obtain ⟨p,hp,h⟩:=Option.bind_eq_some_iff.1 h
    obtain ⟨q,hq,h⟩:=Option.bind_eq_some_iff.1 h
    have h : some (p :: q) = some bs:=h
    cases h
    rw [List.mapM_cons]
    simp only [Sem.run_bind,hg f p W hp,Result.andThen_ok,run_mapM_opt g k hg r q W hq,Sem.run_pure]
theorem p_build {parts : List (Nat × Operand)} {vs : List (Nat × Value)} {pl : List (Nat × Nat)} {zs cs : List Value} (hv : evp E parts = some vs) [hl : Lay P t pl] [hz : Zer P t zs] [hb : Bld pl zs vs cs] : PV P E (.build t parts.toArray) (.agg cs.toArray) :=
  ⟨fun n a ha dst ty pos after gd W=>by
    obtain ⟨i,z,hi,hzz,hzc⟩:=hz.out
    obtain ⟨fs,hu,hm⟩:=hl.out
    have hzc' : z.cells = zs.toArray:=by rw [← hzc]
    have hk : ∀ g : Field → Sem (Nat × Nat),(∀ f j W,P.info? f.type = some j → (g f).run P W = .ok (f.offset,j.size) W) → (fs.mapM g).run P W = .ok pl.toArray W:=fun g hg=>by
      rw [Array.mapM_eq_mapM_toList]
      simp [run_mapM_opt g (fun f=>(P.info? f.type).map fun i=>(f.offset,i.size)) (fun f b W hb=>by
        obtain ⟨j,hj,rfl⟩:=Option.map_eq_some_iff.1 hb
        exact hg f j W hj) _ _ W hm]
    have hk2:=hk (fun f=>do pure (f.offset,← sizeOf f.type)) (fun f j W hj=>by simp [sizeOf,typeInfo,hj])
    have hp : (parts.toArray.map fun (i,x)=>(i,a.eval x)).toList = vs:=by rw [← ha.evp hv];simp
    show ((Instr.build t (parts.toArray.map fun (i,x)=>(i,a.eval x)) >>= fun v=>pure (Next.value v)) : Sem Next).run P W = _
    have hb2 : (Instr.build t (parts.toArray.map fun (i,x)=>(i,a.eval x))).run P W = .ok (.agg cs.toArray) W:=by
      unfold Instr.build
      simp only [zeroValue,typeInfo,Sem.run_bind,run_program,Result.andThen_ok,hi,Sem.run_pure,hzz,underlying,hu]
      rw [hk2]
      simp only [Result.andThen_ok,hp,hzc',hb.out,Sem.run_pure]
    simp only [Sem.run_bind,hb2,Result.andThen_ok,Sem.run_pure]⟩
end
section
variable {P : Program} {n : Nat} {ops : Array Oper} {Q : Exit → Act → World → Prop} {rest : List Oper} {E : Env} {w0 W : World} {L : List Asn} {d : Nat} {ty : TypeId} {pos : String} {after : Array Edge} {t e sz bytes : Nat} {x : Operand} {v : Value} {ws : List Value}
theorem s_lit1 [hU : Und P t (.slice e)] [hE : Elt P e sz bytes] (hm : Mem w0 W L) (hx : ev E x = some v) (hn : Nat.blt d n = true) (h3 : Nat.ble sz 16777216 = true) [h2 : Cel v ws] [hL : Len ws sz] (h : ∀ g W1,Mem w0 W1 (box g e ws :: L) → WL P n ops Q rest ((d,.slice (some ⟨g,0,none⟩) 1 1) :: E) W1) :
    WL P n ops Q (⟨some d,.buildSlice t 1 #[(0,x)],ty,pos,after,none⟩ :: rest) E W:=by
  obtain ⟨i,z,hi,hz,hzs,hs,hb,hs0,hb0⟩:=hE.spec
  have h3:=Nat.le_of_ble_eq_true h3
  have hv : v.cells = ws.toArray:=by rw [← h2.out]
  refine s_run (W1:=W.alloc (.cells ws.toArray e)) rfl rfl hn (fun a ha=>?_) (h W.heap.size _ (hm.alloc e ws))
  have hfill : ∀ cs : Array Value,cs.size = sz → Instr.fill (fun i=>some (i * sz,sz)) cs [(0,v)] = some ws.toArray:=by
    intro cs hcs
    have hw:=hL.out
    unfold Instr.fill
    simp only [hv,Nat.zero_mul,Nat.zero_add]
    rw [if_neg (by simp [hw,hcs])]
    have h4:=fill_puts ws cs.toList 0 0
    simp only [Nat.zero_add] at h4
    have h5 : ∀ (ws cs : List Value),ws.length = cs.length → puts cs 0 ws = ws:=by
      intro ws
      induction ws with
      | nil=>intro cs h;cases cs with
        | nil=>rfl
        | cons _ _=>simp at h
      | cons w r ih=>intro cs h;cases cs with
        | nil=>simp at h
        | cons c cs=>simp only [puts,List.set_cons_zero];rw [puts_cons,ih cs (by simpa using h)]
    rw [h5 ws cs.toList (by simp [hw,hcs])] at h4
    unfold Instr.fill
    have h6 : cs = cs.toList.toArray:=by simp
    rw [h6]
    exact congrArg some h4
  have hrun : (Instr.buildSlice t 1 #[(0,v)]).run P W = .ok (.slice (some ⟨W.heap.size,0,none⟩) 1 1) (W.alloc (.cells ws.toArray e)):=by
    have hz2 : sz ≠ 0:=by omega
    have h7 : ¬ 16777216 < sz:=by omega
    simp [Instr.buildSlice,underlying,hU.out,sizeOf,typeInfo,hi,hs,zeroValue,hz,hz2,h7,newRow,World.alloc_eq]
    rw [hfill _ (by simp)]
    simp
  simp [execOp,ha.eval hx,hrun]
end
end Go.Proofs.YtampmicahnnebaaGreat.Sp
namespace Go.Proofs.YtampmicahnnebaaGreat.Sp
open Go Go.RowKit
theorem flat_length {sz : Nat} : ∀ {css : List (List Value)},(∀ c ∈ css,c.length = sz) → css.flatten.length = css.length * sz
  | [],_=>by simp
  | c :: r,h=>by
    rw [List.flatten_cons,List.length_append,h c (List.mem_cons_self ..),flat_length (fun x hx=>h x (List.mem_cons_of_mem _ hx)),List.length_cons,Nat.add_mul]
    omega
theorem flat_get {sz : Nat} : ∀ {css : List (List Value)} (i j : Nat),(∀ c ∈ css,c.length = sz) → (hi : i < css.length) → j < sz → css.flatten[i * sz + j]? = (css[i])[j]?
  | [],i,j,_,hi,_=>by simp at hi
  | c :: r,0,j,h,_,hj=>by
    have hc:=h c (List.mem_cons_self ..)
    rw [List.flatten_cons,Nat.zero_mul,Nat.zero_add,List.getElem?_append_left (by omega)]
    rfl
  | c :: r,i + 1,j,h,hi,hj=>by
    have hc:=h c (List.mem_cons_self ..)
    have e : (i + 1) * sz + j = sz + (i * sz + j):=by rw [Nat.add_mul];omega
    rw [List.flatten_cons,e,List.getElem?_append_right (by omega),hc,Nat.add_sub_cancel_left]
    simpa using flat_get i j (fun x hx=>h x (List.mem_cons_of_mem _ hx)) (by simpa using hi) hj
theorem flat_set {sz : Nat} : ∀ {css : List (List Value)} (i j : Nat) (v : Value),(∀ c ∈ css,c.length = sz) → (hi : i < css.length) → j < sz → css.flatten.set (i * sz + j) v = (css.set i ((css[i]).set j v)).flatten
  | [],i,j,v,_,hi,_=>by simp at hi
  | c :: r,0,j,v,h,_,hj=>by
    have hc:=h c (List.mem_cons_self ..)
    rw [List.flatten_cons,Nat.zero_mul,Nat.zero_add,List.set_append_left _ _ (by omega)]
    rfl
  | c :: r,i + 1,j,v,h,hi,hj=>by
    have hc:=h c (List.mem_cons_self ..)
    have e : (i + 1) * sz + j = sz + (i * sz + j):=by rw [Nat.add_mul];omega
    rw [List.flatten_cons,e,List.set_append_right _ _ (by omega),hc,Nat.add_sub_cancel_left,flat_set i j v (fun x hx=>h x (List.mem_cons_of_mem _ hx)) (by simpa using hi) hj]
    rfl
section
variable {α : Type} {d : Ty α} {W : World}
theorem els_get : ∀ {xs : List α} {css : List (List Value)} {ok : Nat → Prop} (i : Nat) (hi : i < xs.length) (hc : i < css.length),SepIn W ok (els d xs css) → ∃ F,(d.A xs[i] css[i]).H W F
  | x :: xs,c :: css,ok,0,_,_,⟨F,_,h,_⟩=>⟨F,h⟩
  | x :: xs,c :: css,ok,i + 1,hi,hc,⟨F,_,_,h⟩=>by simpa using els_get i (by simpa using hi) (by simpa using hc) h
theorem els_len {xs : List α} {css : List (List Value)} {ok : Nat → Prop} (hl : css.length = xs.length) (h : SepIn W ok (els d xs css)) : ∀ c ∈ css,c.length = d.sz:=by
  intro c hc
  obtain ⟨i,hi,rfl⟩:=List.getElem_of_mem hc
  obtain ⟨F,hF⟩:=els_get i (by omega) hi h
  exact d.len hF
theorem els_one {xs : List α} {css : List (List Value)} {ok : Nat → Prop} (hl : css.length = xs.length) (h : SepIn W ok (els d xs css)) : ∀ u ∈ css.flatten,u.oneCell' = true:=by
  intro u hu
  obtain ⟨c,hc,hu⟩:=List.mem_flatten.1 hu
  obtain ⟨i,hi,rfl⟩:=List.getElem_of_mem hc
  obtain ⟨F,hF⟩:=els_get i (by omega) hi h
  exact d.one hF u hu
theorem els_append : ∀ (xs ys : List α) (css dss : List (List Value)),css.length = xs.length → els d (xs ++ ys) (css ++ dss) = els d xs css ++ els d ys dss
  | [],ys,[],dss,_=>rfl
  | x :: xs,ys,c :: css,dss,h=>by
    simp only [List.cons_append,els]
    rw [els_append xs ys css dss (by simpa using h)]
theorem els_perm : ∀ (xs : List α) (css : List (List Value)) (i : Nat) (hi : i < xs.length) (hc : i < css.length),(els d xs css).Perm (d.A xs[i] css[i] :: els d (xs.eraseIdx i) (css.eraseIdx i))
  | x :: xs,c :: css,0,_,_=>List.Perm.refl _
  | x :: xs,c :: css,i + 1,hi,hc=>(List.Perm.cons _ (els_perm xs css i (by simpa using hi) (by simpa using hc))).trans (List.Perm.swap ..)
theorem erase_set {β : Type} (l : List β) (i : Nat) (b : β) : (l.set i b).eraseIdx i = l.eraseIdx i:=by
  induction l generalizing i with
  | nil=>rfl
  | cons a r ih=>cases i with
    | zero=>rfl
    | succ i=>simp [ih]
theorem els_put (xs : List α) (css : List (List Value)) (i : Nat) (hi : i < xs.length) (hc : i < css.length) (x : α) (c : List Value) : (d.A x c :: els d (xs.eraseIdx i) (css.eraseIdx i)).Perm (els d (xs.set i x) (css.set i c)):=by
  have:=els_perm (d:=d) (xs.set i x) (css.set i c) i (by simpa using hi) (by simpa using hc)
  rw [erase_set,erase_set] at this
  simpa using this.symm
end
section
variable {α : Type} {d : Ty α} {e c : Nat} {A : Option Addr} {xs : List α} {w0 W W1 : World} {L L' R : List Asn}
theorem Mem.own [h : OwnAt L A c α d e xs] (hm : Mem w0 W L) : ∃ F,(own d e A c xs).H W F:=by
  obtain ⟨R,hp⟩:=h.mem
  obtain ⟨F,_,h2,_⟩:=(hm.perm hp).sep
  exact ⟨F,h2⟩
theorem own_addr {F : Nat → Prop} (h : (own d e A c xs).H W F) (hl : 0 < xs.length) : A = some (adr A) ∧ ∃ g,adr A = ⟨g,0,none⟩ ∧ F g:=by
  obtain ⟨css,_,G,h1,⟨⟨_,h2⟩,h4⟩,h3⟩:=h
  rcases h2 with ⟨_,h0⟩|⟨g,cap,cur,he,_⟩
  · omega
  · injection he with he
    subst he
    exact ⟨rfl,g,rfl,h1 g (h4 g rfl)⟩
theorem own_max {F : Nat → Prop} (h : (own d e A c xs).H W F) : xs.length ≤ 9223372036854775807 ∧ xs.length ≤ c:=by
  obtain ⟨css,_,G,h1,⟨⟨_,h2⟩,h4⟩,h3⟩:=h
  rcases h2 with ⟨he,h0⟩|⟨g,cap,cur,he,_,_,h5,h6,_⟩
  · injection he with _ _ e;omega
  · injection he with _ _ e;subst e;unfold maxLen at h6;omega
theorem own_cell {F : Nat → Prop} (h : (own d e A c xs).H W F) (i : Int) (h0 : 0 ≤ i) (h1 : i < xs.length) {j : Nat} {v : Value} (hv : d.get (rd d xs i) j = some v) : W.cell? ((adr A).add (i.toNat * d.sz + j)) = some v:=by
  obtain ⟨_,g,hg,_⟩:=own_addr h (by omega)
  have hA:=(own_addr h (by omega)).1
  obtain ⟨css,hl,G,h2,⟨ho,h4⟩,h3⟩:=h
  have hi : i.toNat < xs.length:=by omega
  have hr : rd d xs i = xs[i.toNat]:=by unfold rd;rw [List.getD_eq_getElem?_getD,List.getElem?_eq_getElem hi];rfl
  obtain ⟨G2,h5⟩:=els_get i.toNat hi (by omega) h3
  rw [hr] at hv
  have h6:=d.get_ok h5 hv
  have hj : j < d.sz:=by rw [← d.len h5];exact (List.getElem?_eq_some_iff.1 h6).1
  have h7:=flat_get i.toNat j (els_len hl h3) (by omega) hj
  rw [hg]
  refine ho.cells (g:=g) (by rw [hA,hg];rfl) _ v ?_
  rw [h7];exact h6
theorem own_set {F : Nat → Prop} (h : (own d e A c xs).H W F) (i : Int) (h0 : 0 ≤ i) (h1 : i < xs.length) {j : Nat} {v : Value} {x' : α} (hv : d.set (rd d xs i) j v = some x') :
    ∃ g,adr A = ⟨g,0,none⟩ ∧ F g ∧ (∃ u,W.cell? ⟨g,i.toNat * d.sz + j,none⟩ = some u) ∧ W.frozen? ⟨g,i.toNat * d.sz + j,none⟩ = false ∧ v.oneCell' = true ∧ W.grownBy (W.setCell ⟨g,i.toNat * d.sz + j,none⟩ v) (some g) ∧ (own d e A c (xs.set i.toNat x')).H (W.setCell ⟨g,i.toNat * d.sz + j,none⟩ v) F:=by
  obtain ⟨hA,g,hg,hFg⟩:=own_addr h (by omega)
  obtain ⟨css,hl,G,h2,⟨ho,h4⟩,h3⟩:=h
  rw [hg] at hA
  subst hA
  have hi : i.toNat < xs.length:=by omega
  have hr : rd d xs i = xs[i.toNat]:=by unfold rd;rw [List.getD_eq_getElem?_getD,List.getElem?_eq_getElem hi];rfl
  rw [hr] at hv
  obtain ⟨K,k1,k2,k3⟩:=h3.perm (els_perm xs css i.toNat hi (by omega))
  obtain ⟨h5,hj,hone⟩:=d.set_ok k2 hv
  have hlen:=els_len hl h3
  have hlt : i.toNat * d.sz + j < xs.length * d.sz:=by
    have : (i.toNat + 1) * d.sz ≤ xs.length * d.sz:=Nat.mul_le_mul_right _ hi
    rw [Nat.add_mul] at this
    omega
  obtain ⟨ho1,hgr⟩:=ho.stored (i.toNat * d.sz + j) v
  have hcell:=ho.cellAt (i.toNat * d.sz + j) hlt
  refine ⟨g,hg,hFg,⟨_,by rw [hcell];exact List.getElem?_eq_getElem (by rw [flat_length hlen,hl];exact hlt)⟩,?_,hone,hgr,?_⟩
  · rcases ho.2 with ⟨hh,_⟩|⟨g',cap,cur,hh,_,hc,_⟩
    · cases hh
    · injection hh with hh;injection hh with hh;injection hh with hh
      subst hh
      simp [World.frozen?,hc]
  · refine ⟨css.set i.toNat ((css[i.toNat]'(by omega)).set j v),by simp [hl],G,h2,⟨?_,h4⟩,?_⟩
    · rw [List.length_set,← flat_set i.toNat j v hlen (by omega) hj]
      exact ho1
    · refine SepIn.perm (els_put xs css i.toNat hi (by omega) x' _) ?_
      have hGg : G g:=h4 g rfl
      refine ⟨K,k1,?_,?_⟩
      · exact (d.A x' _).move (fun k hk _=>Below.heap_setCell _ _ _ k (fun e=>(k1 k hk).2 (e ▸ hGg))) h5
      · exact k3.move (fun k hk _=>Below.heap_setCell _ _ _ k (fun e=>hk.1.2 (e ▸ hGg)))
end
theorem rd_at {α : Type} {d : Ty α} {xs : List α} {i : Nat} (h : i < xs.length) : rd d xs (i : Int) = xs[i]:=by
  simp [rd,List.getD_eq_getElem?_getD,h]
def rp (A : Option Addr) (i : Int) (sz j : Nat) : Addr:=(adr A).add (i.toNat * sz + j)
section
variable {P : Program} {n : Nat} {ops : Array Oper} {Q : Exit → Act → World → Prop} {rest : List Oper} {E : Env} {w0 W : World} {L L' R : List Asn}
variable {d : Nat} {ty pt st : TypeId} {pos : String} {after : Array Edge} {x y : Operand} {v : Value} {e sz j c l : Nat} {A : Option Addr} {i : Int} {k : IntKind} {α : Type} {D : Ty α} {xs : List α}
theorem p_indexo [hU : Und P st (.slice e)] [hS : Siz P e sz] [hO : OwnAt L A c α D e xs] (hm : Mem w0 W L) (hx : ev E x = some (.slice A l c)) (hl : l = xs.length) (hy : ev E y = some (.int k i)) (h0 : 0 ≤ i) (h1 : i < xs.length) : PV P E (.indexAddr st x y) (.pointer (some (rp A i sz 0))):=by
  obtain ⟨F,hF⟩:=hm.own (A:=A) (c:=c)
  exact p_index hx (own_addr hF (by omega)).1 hy h0 (by omega)
theorem p_fieldo {f q j' : Nat} [hF : FAt P st f q] (hx : ev E x = some (.pointer (some (rp A i sz j)))) (hj : j + q = j') : PV P E (.fieldAddr st x f) (.pointer (some (rp A i sz j'))) :=
  p_fieldr (j:=i.toNat * sz + j) (c:=q) (ad:=adr A) (j':=i.toNat * sz + j') hx (by omega)
theorem p_loado [hO : OwnAt L A c α D e xs] [h1c : One P pt] (hx : ev E x = some (.pointer (some (rp A i sz j)))) (hs : sz = D.sz) (h0 : 0 ≤ i) (h1 : i < xs.length) (hv : D.get (rd D xs i) j = some v) : LV P E w0 L (.load pt x) v :=
  ⟨fun W hm n a ha dst ty pos after gd=>by
    obtain ⟨F,hF⟩:=hm.own (A:=A) (c:=c)
    obtain ⟨u,hu,hu2⟩:=h1c.out
    subst hs
    have hc:=own_cell hF i h0 h1 hv
    have hl : (loadVar pt ((adr A).add (i.toNat * D.sz + j))).run P W = .ok v W:=by
      unfold loadVar isAgg
      cases u <;> simp_all [underlying,load,Sem.run]
    simp [execOp,ha.eval hx,Instr.loadAt,Instr.sureAddr,rp,hl]⟩
class Flat {α : Type} (D : Ty α) (enc : outParam (α → List Value)) : Prop where out : ∀ {x c W F},(D.A x c).H W F → c = enc x
theorem own_cells {enc : α → List Value} [hf : Flat D enc] {F : Nat → Prop} {W : World} (h : (own D e A c xs).H W F) (i : Int) (h0 : 0 ≤ i) (h1 : i < xs.length) : (enc (rd D xs i)).length = D.sz ∧ ∀ j v,(enc (rd D xs i))[j]? = some v → W.cell? ((adr A).add (i.toNat * D.sz + j)) = some v:=by
  obtain ⟨_,g,hg,_⟩:=own_addr h (by omega)
  have hA:=(own_addr h (by omega)).1
  obtain ⟨css,hl,G,h2,⟨ho,h4⟩,h3⟩:=h
  have hi : i.toNat < xs.length:=by omega
  have hr : rd D xs i = xs[i.toNat]:=by unfold rd;rw [List.getD_eq_getElem?_getD,List.getElem?_eq_getElem hi];rfl
  obtain ⟨G2,h5⟩:=els_get i.toNat hi (by omega) h3
  have h6:=hf.out h5
  have h7:=D.len h5
  rw [hr,← h6]
  refine ⟨h7,fun j v hv=>?_⟩
  have hj : j < D.sz:=by rw [← h7];exact (List.getElem?_eq_some_iff.1 hv).1
  rw [hg]
  refine ho.cells (g:=g) (by rw [hA,hg];rfl) _ v ?_
  rw [flat_get i.toNat j (els_len hl h3) (by omega) hj];exact hv
theorem own_addr0 {F : Nat → Prop} {W : World} (h : (own D e A c xs).H W F) (hl : 0 < xs.length) : ∃ g,adr A = ⟨g,0,none⟩:=by
  obtain ⟨_,g,hg,_⟩:=own_addr h hl
  exact ⟨g,hg⟩
theorem p_loadwo {m : Nat} {enc : α → List Value} [hO : OwnAt L A c α D e xs] [hA : Agg P pt m] [hf : Flat D enc] (hx : ev E x = some (.pointer (some (rp A i sz 0)))) (hs : sz = D.sz) (hm : m = D.sz) (h0 : 0 ≤ i) (h1 : i < xs.length) : LV P E w0 L (.load pt x) (.agg (enc (rd D xs i)).toArray) :=
  ⟨fun W hmem n a ha dst ty pos after gd=>by
    obtain ⟨F,hF⟩:=hmem.own (A:=A) (c:=c)
    obtain ⟨u,hu,hu2,hi⟩:=hA.out
    subst hs hm
    obtain ⟨hl,hc⟩:=own_cells hF i h0 h1
    obtain ⟨g,hg⟩:=own_addr0 hF (by omega)
    have hr : W.rangeAt g (i.toNat * D.sz) (enc (rd D xs i)):=by
      intro j z hz
      have:=hc j z hz
      rwa [hg,add_plain,Nat.zero_add] at this
    have h3:=run_loadVar_mid (P:=P) W g (i.toNat * D.sz) pt _ u hr hu (by cases u <;> simp_all [TypeDesc.isRow]) (by rw [hi,hl])
    simp [execOp,ha.eval hx,Instr.loadAt,Instr.sureAddr,rp,hg,add_plain,h3]⟩
theorem s_storeo {x' : α} [hO : OwnAt L A c α D e xs] [hS : Siz P pt 1] (hm : Mem w0 W L) (hx : ev E x = some (.pointer (some (rp A i sz j)))) (hy : ev E y = some v) (hs : sz = D.sz) (h0 : 0 ≤ i) (h1 : i < xs.length) (hv : D.set (rd D xs i) j v = some x')
    [hr : Rp L (own D e A c xs) (own D e A c (xs.set i.toNat x')) L'] (h : ∀ W1,Mem w0 W1 L' → WL P n ops Q rest E W1) :
    WL P n ops Q (⟨none,.store pt x y,ty,pos,after,none⟩ :: rest) E W:=by
  obtain ⟨F,hF⟩:=hm.own (A:=A) (c:=c)
  subst hs
  obtain ⟨g,hg,hFg,⟨u,hu⟩,hfz,hone,hgr,hown⟩:=own_set hF i h0 h1 hv
  have ht : W.there g (i.toNat * D.sz + j) 1:=fun m hm1=>by
    obtain rfl : m = 0:=by omega
    exact ⟨by simp [hu],hfz⟩
  have hvc : v.cells.toList = [v]:=by cases v <;> first|rfl|cases hone
  have hrun:=run_store (P:=P) W g (i.toNat * D.sz + j) pt v [v] hvc ht (by rw [hS.out];rfl) (by simpa using hone)
  obtain ⟨R,p1,p2⟩:=hr.out
  refine s_act (W1:=W.setCells g (i.toNat * D.sz + j) [v]) rfl rfl (fun a ha=>?_) (h _ (Mem.perm (L:=own D e A c (xs.set i.toNat x') :: R) ?_ p2.symm))
  · simp [execOp,ha.eval hx,ha.eval hy,Instr.storeAt,Instr.sureAddr,rp,hg,add_plain,hrun]
  · refine (hm.perm p1).turn1 (fun F2 hF2 hA=>?_)
    obtain ⟨g',hg',hFg',_,_,_,hgr',hown'⟩:=own_set hA i h0 h1 hv
    have : g' = g:=by rw [hg] at hg';injection hg' with h;exact h.symm
    subst this
    exact ⟨hgr'.os,hgr'.tape,hgr'.output,hgr'.size,fun k hk hn=>hgr'.block k hk (fun e=>hn (Option.some.inj e ▸ hFg')),(own D e A c _).mono (fun k hk=>.inl hk) hown'⟩
end
class MkIn {α : Type} (L : List Asn) (D : Ty α) (ws : List Value) (x : outParam α) (L' : outParam (List Asn)) : Prop where out : ∀ (W : World) (ok : Nat → Prop),SepIn W ok L → SepIn W ok (D.A x ws :: L')
class OwnE (L : List Asn) (A : Option Addr) (e : Nat) (c : outParam Nat) (α : outParam Type) (d : outParam (Ty α)) (xs : outParam (List α)) : Prop where tr : True
instance OwnE.here {α : Type} {d : Ty α} {e : Nat} {A : Option Addr} {c : Nat} {xs : List α} {L : List Asn} : OwnE (own d e A c xs :: L) A e c α d xs:=⟨trivial⟩
instance (priority:=low) OwnE.there {α : Type} {d : Ty α} {e : Nat} {A : Option Addr} {c : Nat} {xs : List α} {L : List Asn} {B : Asn} [h : OwnE L A e c α d xs] : OwnE (B :: L) A e c α d xs:=⟨trivial⟩
section
variable {w0 W : World} {L R : List Asn} {α : Type} {D : Ty α} {e c : Nat} {A : Option Addr} {xs : List α}
theorem Mem.two {A B : Asn} (h : Mem w0 W (A :: B :: L)) : Mem w0 W (exP (fun _ : Unit=>True) (fun _=>[A,B]) :: L):=Mem.mkx () trivial h
theorem own_nil {F : Nat → Prop} (D : Ty α) (e : Nat) : (own D e none 0 []).H W F:=⟨[],rfl,fun _=>False,fun _ h=>h.elim,⟨⟨by simp,.inl ⟨rfl,rfl⟩⟩,fun k hk=>by cases hk⟩,trivial⟩
theorem Mem.nil (h : Mem w0 W L) (D : Ty α) (e : Nat) : Mem w0 W (Sp.own D e none 0 [] :: L):=⟨h.below,fun _=>False,fun _ h=>h.elim,own_nil D e,h.sep.mono (fun k hk=>⟨hk,fun h=>h⟩)⟩
end
section
variable {P : Program} {n : Nat} {ops : Array Oper} {Q : Exit → Act → World → Prop} {rest : List Oper} {E : Env} {w0 W : World} {L L' R R1 R2 R3 : List Asn}
variable {d : Nat} {ty st : TypeId} {pos : String} {after : Array Edge} {x y : Operand} {e sz bytes c l g t : Nat} {A : Option Addr} {α : Type} {D : Ty α} {xs : List α} {x1 : α} {ws : List Value}
theorem run_append1 [hU : Und P st (.slice e)] [hE : Elt P e sz bytes] (hm : Mem w0 W (own D e A c xs :: D.A x1 ws :: R)) (hs : sz = D.sz) (g : Nat) (hg : W.heap[g]? = some (.cells ws.toArray e (0,0))) (hlim : (xs.length + 1) * bytes ≤ 140737488355328) (ty : TypeId) :
    ∃ A1 c1 W1,(Builtin.append_ #[st,st] ty #[.slice A xs.length c,.slice (some ⟨g,0,none⟩) 1 1]).run P W = .ok (.slice A1 (xs ++ [x1]).length c1) W1 ∧ Mem w0 W1 (own D e A1 c1 (xs ++ [x1]) :: R):=by
  obtain ⟨i0,z,hi,hz,hzs,hs1,hb1,hs0,hb0⟩:=hE.spec
  subst hs
  obtain ⟨F,hF,⟨_,_,F1,h1,⟨css,hl,G,h2,⟨ho,h4⟩,h3⟩,F2,h5,h6,_⟩,key⟩:=hm.two.split
  have hws:=D.len h6
  have hlen : xs.length + 1 ≤ 140737488355328:=Nat.le_trans (Nat.le_mul_of_pos_right _ hb0) hlim
  obtain ⟨v1,W1,hrun,hown,hgr,_,hat⟩:=run_append_own_at (P:=P) (w:=W) 0 st ty e i0 z D.sz bytes hU.out hi hz hs1 hb1 hzs (by omega) (.slice A xs.length c) xs.length css.flatten ho ⟨g,0,none⟩ 1 1 ws (by rw [hws];simp)
    (by simpa using World.news_of_block (cs:=ws.toArray) (t:=e) (fr:=(0,0)) hg) (D.one h6) (by simp only [maxLen];omega) hlim (Nat.zero_le _)
  obtain ⟨hl1,hh⟩:=hown
  rcases hh with ⟨_,h0⟩|⟨g1,cap,cur,rfl,hb,hc,h7,h8,h9,h10⟩
  · omega
  refine ⟨some ⟨g1,0,none⟩,cap,W1,by simpa using hrun,?_⟩
  have hgF : (Value.slice A xs.length c).ownBlock = some g1 ∨ g1 = W.heap.size:=by
    rcases hat with hat|hat
    · exact .inl hat.symm
    · right;simpa [Value.ownBlock] using hat
  refine key W1 [own D e (some ⟨g1,0,none⟩) cap (xs ++ [x1])] hgr.os hgr.tape hgr.output hgr.size (fun k hk hn=>hgr.block k hk (fun e=>hn (h1 k (h2 k (h4 k e.symm))))) ?_
  refine ⟨_,fun _ h=>h,⟨css ++ [ws],by simp [hl],fun k=>k = g1,fun k hk=>?_,⟨?_,fun k hk=>?_⟩,?_⟩,trivial⟩
  · subst hk
    rcases hgF with h|h
    · exact .inl (h1 _ (h2 _ (h4 _ h)))
    · exact .inr (by omega)
  · refine ⟨by simpa using hl1,.inr ⟨g1,cap,cur,by simp,Nat.zero_le _,hc,by simpa using h7,h8,h9,by simpa using h10⟩⟩
  · simpa [Value.ownBlock] using hk.symm
  · rw [els_append xs [x1] css [ws] hl]
    have hnew : ∀ k,k < W.heap.size → ¬ G k → k ≠ g1:=fun k hk hnG e=>by
      subst e
      rcases hgF with h|h
      · exact hnG (h4 _ h)
      · omega
    have hsame : ∀ k,k < W.heap.size → ¬ G k → W1.heap[k]? = W.heap[k]?:=fun k hk hnG=>hgr.block k hk (fun e=>hnG (h4 k e.symm))
    refine SepIn.join (F:=fun k=>(F1 k ∧ ¬ G k) ∧ k < W.heap.size) (fun k hk=>⟨.inl (h1 k hk.1.1),hnew k hk.2 hk.1.2⟩) (h3.bound.move (fun k hk _=>hsame k hk.2 hk.1.2)) ?_
    refine ⟨fun k=>F2 k ∧ k < W.heap.size,fun k hk=>⟨⟨.inl (h5 k hk.1).1,hnew k hk.2 (fun hg=>(h5 k hk.1).2 (h2 k hg))⟩,fun hf=>(h5 k hk.1).2 hf.1.1⟩,?_,trivial⟩
    exact (D.A x1 ws).move (fun k hk _=>hsame k hk.2 (fun hg=>(h5 k hk.1).2 (h2 k hg))) ((D.A x1 ws).bound h6)
theorem s_append1 [hU : Und P st (.slice e)] [hE : Elt P e sz bytes] {t2 : Nat} (hm : Mem w0 W L) (hx : ev E x = some (.slice A l c)) (hy : ev E y = some (.slice (some ⟨g,0,none⟩) 1 1)) [hO : OwnE L A e c α D xs] (hl : l = xs.length) (hs : sz = D.sz) [hB : BoxAt L g t2 ws] (ht : t2 = e) [hp : Pk L (own D e A c xs) R1] [hb : Pk R1 (box g t2 ws) R2] [hk : MkIn R2 D ws x1 R3]
    (hlim : (xs.length + 1) * bytes ≤ 140737488355328) (hn : Nat.blt d n = true) (h : ∀ A1 c1 W1,Mem w0 W1 (own D e A1 c1 (xs ++ [x1]) :: R3) → WL P n ops Q rest ((d,.slice A1 (xs ++ [x1]).length c1) :: E) W1) :
    WL P n ops Q (⟨some d,.call { callee:=.builtin .append,args:=#[x,y],argTypes:=#[st,st] },ty,pos,after,none⟩ :: rest) E W:=by
  subst ht hl
  have hg:=hm.heap (g:=g)
  have hm2 : Mem w0 W (own D t2 A c xs :: D.A x1 ws :: R3):=by
    have h1 : Mem w0 W (box g t2 ws :: own D t2 A c xs :: R2):=(hm.pk (A:=own D t2 A c xs)).perm ((List.Perm.cons _ hb.out).trans (List.Perm.swap _ _ _))
    have h2 : Mem w0 W (own D t2 A c xs :: R2):=h1.drop
    obtain ⟨hbel,F,f1,f2,f3⟩:=h2
    exact ⟨hbel,F,f1,f2,hk.out _ _ f3⟩
  obtain ⟨A1,c1,W1,hrun,hm3⟩:=run_append1 (P:=P) (st:=st) hm2 hs g hg hlim ty
  exact s_run (W1:=W1) rfl rfl hn (fun a ha=>by simp [execOp,ha.eval hx,ha.eval hy,resolve,invoke,builtin,hrun]) (h A1 c1 W1 hm3)
end
end Go.Proofs.YtampmicahnnebaaGreat.Sp
namespace Go.Proofs.YtampmicahnnebaaGreat.Sp
open Go Go.RowKit
instance : Und Tryz.prog 3 (.int .i64):=⟨by kernel_rfl⟩
instance : One Tryz.prog 3:=⟨_,Und.out,rfl⟩
instance : Siz Tryz.prog 3 1:=⟨by kernel_rfl⟩
instance : Zer Tryz.prog 3 [.int .i64 0]:=zerB (by kernel_rfl)
instance : Elt Tryz.prog 3 1 8:=eltB (by kernel_rfl)
instance : Und Tryz.prog 4 (.bool):=⟨by kernel_rfl⟩
instance : One Tryz.prog 4:=⟨_,Und.out,rfl⟩
instance : Siz Tryz.prog 4 1:=⟨by kernel_rfl⟩
instance : Zer Tryz.prog 4 [.bool false]:=zerB (by kernel_rfl)
instance : Elt Tryz.prog 4 1 1:=eltB (by kernel_rfl)
instance : Und Tryz.prog 5 (.int .u8):=⟨by kernel_rfl⟩
instance : One Tryz.prog 5:=⟨_,Und.out,rfl⟩
instance : Siz Tryz.prog 5 1:=⟨by kernel_rfl⟩
instance : Zer Tryz.prog 5 [.int .u8 0]:=zerB (by kernel_rfl)
instance : Elt Tryz.prog 5 1 1:=eltB (by kernel_rfl)
instance : Und Tryz.prog 9 (.string):=⟨by kernel_rfl⟩
instance : One Tryz.prog 9:=⟨_,Und.out,rfl⟩
instance : Siz Tryz.prog 9 1:=⟨by kernel_rfl⟩
instance : Zer Tryz.prog 9 [.string ⟨#[]⟩]:=zerB (by kernel_rfl)
instance : Elt Tryz.prog 9 1 16:=eltB (by kernel_rfl)
instance : Und Tryz.prog 22 (.slice 5):=⟨by kernel_rfl⟩
instance : One Tryz.prog 22:=⟨_,Und.out,rfl⟩
instance : Siz Tryz.prog 22 1:=⟨by kernel_rfl⟩
instance : Zer Tryz.prog 22 [.slice none 0 0]:=zerB (by kernel_rfl)
instance : Elt Tryz.prog 22 1 24:=eltB (by kernel_rfl)
instance : Und Tryz.prog 23 (.slice 91):=⟨by kernel_rfl⟩
instance : One Tryz.prog 23:=⟨_,Und.out,rfl⟩
instance : Siz Tryz.prog 23 1:=⟨by kernel_rfl⟩
instance : Zer Tryz.prog 23 [.slice none 0 0]:=zerB (by kernel_rfl)
instance : Elt Tryz.prog 23 1 24:=eltB (by kernel_rfl)
instance : Siz Tryz.prog 25 3:=⟨by kernel_rfl⟩
instance : Agg Tryz.prog 25 3:=⟨_,Tryz.underlying25,rfl,Siz.out⟩
instance : Lay Tryz.prog 25 [(0,1),(1,1),(2,1)]:=layB (by kernel_rfl)
instance : FAt Tryz.prog 25 0 0:=⟨by kernel_rfl⟩
instance : FAt Tryz.prog 25 1 1:=⟨by kernel_rfl⟩
instance : FAt Tryz.prog 25 2 2:=⟨by kernel_rfl⟩
instance : Zer Tryz.prog 25 [.int .i64 0,.int .i64 0,.slice none 0 0]:=zerB (by kernel_rfl)
instance : Elt Tryz.prog 25 3 40:=eltB (by kernel_rfl)
instance : Und Tryz.prog 26 (.slice 40):=⟨by kernel_rfl⟩
instance : One Tryz.prog 26:=⟨_,Und.out,rfl⟩
instance : Siz Tryz.prog 26 1:=⟨by kernel_rfl⟩
instance : Zer Tryz.prog 26 [.slice none 0 0]:=zerB (by kernel_rfl)
instance : Elt Tryz.prog 26 1 24:=eltB (by kernel_rfl)
instance : Und Tryz.prog 27 (.slice 9):=⟨by kernel_rfl⟩
instance : One Tryz.prog 27:=⟨_,Und.out,rfl⟩
instance : Siz Tryz.prog 27 1:=⟨by kernel_rfl⟩
instance : Zer Tryz.prog 27 [.slice none 0 0]:=zerB (by kernel_rfl)
instance : Elt Tryz.prog 27 1 24:=eltB (by kernel_rfl)
instance : Und Tryz.prog 28 (.slice 3):=⟨by kernel_rfl⟩
instance : One Tryz.prog 28:=⟨_,Und.out,rfl⟩
instance : Siz Tryz.prog 28 1:=⟨by kernel_rfl⟩
instance : Zer Tryz.prog 28 [.slice none 0 0]:=zerB (by kernel_rfl)
instance : Elt Tryz.prog 28 1 24:=eltB (by kernel_rfl)
instance : Und Tryz.prog 29 (.slice 66):=⟨by kernel_rfl⟩
instance : One Tryz.prog 29:=⟨_,Und.out,rfl⟩
instance : Siz Tryz.prog 29 1:=⟨by kernel_rfl⟩
instance : Zer Tryz.prog 29 [.slice none 0 0]:=zerB (by kernel_rfl)
instance : Elt Tryz.prog 29 1 24:=eltB (by kernel_rfl)
instance : Siz Tryz.prog 31 18:=⟨by kernel_rfl⟩
instance : Agg Tryz.prog 31 18:=⟨_,Tryz.underlying31,rfl,Siz.out⟩
instance : Lay Tryz.prog 31 [(0,1),(1,1),(2,1),(3,3),(6,3),(9,1),(10,1),(11,1),(12,1),(13,1),(14,1),(15,1),(16,1),(17,1)]:=layB (by kernel_rfl)
instance : FAt Tryz.prog 31 0 0:=⟨by kernel_rfl⟩
instance : FAt Tryz.prog 31 1 1:=⟨by kernel_rfl⟩
instance : FAt Tryz.prog 31 2 2:=⟨by kernel_rfl⟩
instance : FAt Tryz.prog 31 3 3:=⟨by kernel_rfl⟩
instance : FAt Tryz.prog 31 4 6:=⟨by kernel_rfl⟩
instance : FAt Tryz.prog 31 5 9:=⟨by kernel_rfl⟩
instance : FAt Tryz.prog 31 6 10:=⟨by kernel_rfl⟩
instance : FAt Tryz.prog 31 7 11:=⟨by kernel_rfl⟩
instance : FAt Tryz.prog 31 8 12:=⟨by kernel_rfl⟩
instance : FAt Tryz.prog 31 9 13:=⟨by kernel_rfl⟩
instance : FAt Tryz.prog 31 10 14:=⟨by kernel_rfl⟩
instance : FAt Tryz.prog 31 11 15:=⟨by kernel_rfl⟩
instance : FAt Tryz.prog 31 12 16:=⟨by kernel_rfl⟩
instance : FAt Tryz.prog 31 13 17:=⟨by kernel_rfl⟩
instance : Zer Tryz.prog 31 [.int .i64 0,.int .i64 0,.bool false,.int .i64 0,.int .i64 0,.slice none 0 0,.int .i64 0,.int .i64 0,.slice none 0 0,.slice none 0 0,.slice none 0 0,.bool false,.bool false,.int .i64 0,.slice none 0 0,.slice none 0 0,.slice none 0 0,.int .i64 0]:=zerB (by kernel_rfl)
instance : Elt Tryz.prog 31 18 248:=eltB (by kernel_rfl)
instance : Siz Tryz.prog 40 8:=⟨by kernel_rfl⟩
instance : Agg Tryz.prog 40 8:=⟨_,Tryz.underlying40,rfl,Siz.out⟩
instance : Lay Tryz.prog 40 [(0,1),(1,1),(2,1),(3,1),(4,1),(5,1),(6,1),(7,1)]:=layB (by kernel_rfl)
instance : FAt Tryz.prog 40 0 0:=⟨by kernel_rfl⟩
instance : FAt Tryz.prog 40 1 1:=⟨by kernel_rfl⟩
instance : FAt Tryz.prog 40 2 2:=⟨by kernel_rfl⟩
instance : FAt Tryz.prog 40 3 3:=⟨by kernel_rfl⟩
instance : FAt Tryz.prog 40 4 4:=⟨by kernel_rfl⟩
instance : FAt Tryz.prog 40 5 5:=⟨by kernel_rfl⟩
instance : FAt Tryz.prog 40 6 6:=⟨by kernel_rfl⟩
instance : FAt Tryz.prog 40 7 7:=⟨by kernel_rfl⟩
instance : Zer Tryz.prog 40 [.int .i64 0,.int .i64 0,.int .i64 0,.int .i64 0,.int .i64 0,.int .i64 0,.string ⟨#[]⟩,.slice none 0 0]:=zerB (by kernel_rfl)
instance : Elt Tryz.prog 40 8 88:=eltB (by kernel_rfl)
instance : Und Tryz.prog 48 (.pointer 88):=⟨by kernel_rfl⟩
instance : One Tryz.prog 48:=⟨_,Und.out,rfl⟩
instance : Siz Tryz.prog 48 1:=⟨by kernel_rfl⟩
instance : Zer Tryz.prog 48 [.pointer none]:=zerB (by kernel_rfl)
instance : Elt Tryz.prog 48 1 8:=eltB (by kernel_rfl)
instance : Siz Tryz.prog 66 2:=⟨by kernel_rfl⟩
instance : Agg Tryz.prog 66 2:=⟨_,Tryz.underlying66,rfl,Siz.out⟩
instance : Lay Tryz.prog 66 [(0,1),(1,1)]:=layB (by kernel_rfl)
instance : FAt Tryz.prog 66 0 0:=⟨by kernel_rfl⟩
instance : FAt Tryz.prog 66 1 1:=⟨by kernel_rfl⟩
instance : Zer Tryz.prog 66 [.int .i64 0,.slice none 0 0]:=zerB (by kernel_rfl)
instance : Elt Tryz.prog 66 2 32:=eltB (by kernel_rfl)
instance : Und Tryz.prog 75 (.slice 31):=⟨by kernel_rfl⟩
instance : One Tryz.prog 75:=⟨_,Und.out,rfl⟩
instance : Siz Tryz.prog 75 1:=⟨by kernel_rfl⟩
instance : Zer Tryz.prog 75 [.slice none 0 0]:=zerB (by kernel_rfl)
instance : Elt Tryz.prog 75 1 24:=eltB (by kernel_rfl)
instance : Und Tryz.prog 76 (.slice 134):=⟨by kernel_rfl⟩
instance : One Tryz.prog 76:=⟨_,Und.out,rfl⟩
instance : Siz Tryz.prog 76 1:=⟨by kernel_rfl⟩
instance : Zer Tryz.prog 76 [.slice none 0 0]:=zerB (by kernel_rfl)
instance : Elt Tryz.prog 76 1 24:=eltB (by kernel_rfl)
instance : Siz Tryz.prog 78 3:=⟨by kernel_rfl⟩
instance : Agg Tryz.prog 78 3:=⟨_,Tryz.underlying78,rfl,Siz.out⟩
instance : Lay Tryz.prog 78 [(0,1),(1,1),(2,1)]:=layB (by kernel_rfl)
instance : FAt Tryz.prog 78 0 0:=⟨by kernel_rfl⟩
instance : FAt Tryz.prog 78 1 1:=⟨by kernel_rfl⟩
instance : FAt Tryz.prog 78 2 2:=⟨by kernel_rfl⟩
instance : Zer Tryz.prog 78 [.slice none 0 0,.slice none 0 0,.slice none 0 0]:=zerB (by kernel_rfl)
instance : Elt Tryz.prog 78 3 72:=eltB (by kernel_rfl)
instance : Siz Tryz.prog 88 2:=⟨by kernel_rfl⟩
instance : Agg Tryz.prog 88 2:=⟨_,Tryz.underlying88,rfl,Siz.out⟩
instance : Lay Tryz.prog 88 [(0,1),(1,1)]:=layB (by kernel_rfl)
instance : FAt Tryz.prog 88 0 0:=⟨by kernel_rfl⟩
instance : FAt Tryz.prog 88 1 1:=⟨by kernel_rfl⟩
instance : Zer Tryz.prog 88 [.slice none 0 0,.int .i64 0]:=zerB (by kernel_rfl)
instance : Elt Tryz.prog 88 2 32:=eltB (by kernel_rfl)
instance : Siz Tryz.prog 91 2:=⟨by kernel_rfl⟩
instance : Agg Tryz.prog 91 2:=⟨_,Tryz.underlying91,rfl,Siz.out⟩
instance : Lay Tryz.prog 91 [(0,1),(1,1)]:=layB (by kernel_rfl)
instance : FAt Tryz.prog 91 0 0:=⟨by kernel_rfl⟩
instance : FAt Tryz.prog 91 1 1:=⟨by kernel_rfl⟩
instance : Zer Tryz.prog 91 [.int .i64 0,.string ⟨#[]⟩]:=zerB (by kernel_rfl)
instance : Elt Tryz.prog 91 2 24:=eltB (by kernel_rfl)
instance : Und Tryz.prog 93 (.pointer 31):=⟨by kernel_rfl⟩
instance : One Tryz.prog 93:=⟨_,Und.out,rfl⟩
instance : Siz Tryz.prog 93 1:=⟨by kernel_rfl⟩
instance : Zer Tryz.prog 93 [.pointer none]:=zerB (by kernel_rfl)
instance : Elt Tryz.prog 93 1 8:=eltB (by kernel_rfl)
instance : Siz Tryz.prog 110 3:=⟨by kernel_rfl⟩
instance : Agg Tryz.prog 110 3:=⟨_,Tryz.underlying110,rfl,Siz.out⟩
instance : Lay Tryz.prog 110 [(0,1),(1,1),(2,1)]:=layB (by kernel_rfl)
instance : FAt Tryz.prog 110 0 0:=⟨by kernel_rfl⟩
instance : FAt Tryz.prog 110 1 1:=⟨by kernel_rfl⟩
instance : FAt Tryz.prog 110 2 2:=⟨by kernel_rfl⟩
instance : Zer Tryz.prog 110 [.int .i64 0,.int .i64 0,.string ⟨#[]⟩]:=zerB (by kernel_rfl)
instance : Elt Tryz.prog 110 3 32:=eltB (by kernel_rfl)
instance : Und Tryz.prog 116 (.pointer 25):=⟨by kernel_rfl⟩
instance : One Tryz.prog 116:=⟨_,Und.out,rfl⟩
instance : Siz Tryz.prog 116 1:=⟨by kernel_rfl⟩
instance : Zer Tryz.prog 116 [.pointer none]:=zerB (by kernel_rfl)
instance : Elt Tryz.prog 116 1 8:=eltB (by kernel_rfl)
instance : Siz Tryz.prog 134 2:=⟨by kernel_rfl⟩
instance : Agg Tryz.prog 134 2:=⟨_,Tryz.underlying134,rfl,Siz.out⟩
instance : Lay Tryz.prog 134 [(0,1),(1,1)]:=layB (by kernel_rfl)
instance : FAt Tryz.prog 134 0 0:=⟨by kernel_rfl⟩
instance : FAt Tryz.prog 134 1 1:=⟨by kernel_rfl⟩
instance : Zer Tryz.prog 134 [.int .i64 0,.string ⟨#[]⟩]:=zerB (by kernel_rfl)
instance : Elt Tryz.prog 134 2 24:=eltB (by kernel_rfl)
instance : Fun Tryz.prog 3 Tryz.f3:=⟨Tryz.func3,rfl,rfl⟩
instance : Fun Tryz.prog 4 Tryz.f4:=⟨Tryz.func4,rfl,rfl⟩
instance : Fun Tryz.prog 5 Tryz.f5:=⟨Tryz.func5,rfl,rfl⟩
instance : Fun Tryz.prog 6 Tryz.f6:=⟨Tryz.func6,rfl,rfl⟩
instance : Fun Tryz.prog 7 Tryz.f7:=⟨Tryz.func7,rfl,rfl⟩
instance : Fun Tryz.prog 8 Tryz.f8:=⟨Tryz.func8,rfl,rfl⟩
instance : Fun Tryz.prog 9 Tryz.f9:=⟨Tryz.func9,rfl,rfl⟩
instance : Fun Tryz.prog 10 Tryz.f10:=⟨Tryz.func10,rfl,rfl⟩
instance : Fun Tryz.prog 11 Tryz.f11:=⟨Tryz.func11,rfl,rfl⟩
instance : Fun Tryz.prog 12 Tryz.f12:=⟨Tryz.func12,rfl,rfl⟩
instance : Fun Tryz.prog 13 Tryz.f13:=⟨Tryz.func13,rfl,rfl⟩
instance : Fun Tryz.prog 14 Tryz.f14:=⟨Tryz.func14,rfl,rfl⟩
instance : Fun Tryz.prog 15 Tryz.f15:=⟨Tryz.func15,rfl,rfl⟩
instance : Fun Tryz.prog 16 Tryz.f16:=⟨Tryz.func16,rfl,rfl⟩
instance : Fun Tryz.prog 17 Tryz.f17:=⟨Tryz.func17,rfl,rfl⟩
instance : Fun Tryz.prog 18 Tryz.f18:=⟨Tryz.func18,rfl,rfl⟩
instance : Fun Tryz.prog 19 Tryz.f19:=⟨Tryz.func19,rfl,rfl⟩
instance : Fun Tryz.prog 20 Tryz.f20:=⟨Tryz.func20,rfl,rfl⟩
instance : Fun Tryz.prog 21 Tryz.f21:=⟨Tryz.func21,rfl,rfl⟩
instance : Fun Tryz.prog 22 Tryz.f22:=⟨Tryz.func22,rfl,rfl⟩
instance : Fun Tryz.prog 23 Tryz.f23:=⟨Tryz.func23,rfl,rfl⟩
instance : Fun Tryz.prog 24 Tryz.f24:=⟨Tryz.func24,rfl,rfl⟩
instance : Fun Tryz.prog 25 Tryz.f25:=⟨Tryz.func25,rfl,rfl⟩
instance : Fun Tryz.prog 26 Tryz.f26:=⟨Tryz.func26,rfl,rfl⟩
instance : Fun Tryz.prog 27 Tryz.f27:=⟨Tryz.func27,rfl,rfl⟩
instance : Fun Tryz.prog 28 Tryz.f28:=⟨Tryz.func28,rfl,rfl⟩
instance : Fun Tryz.prog 29 Tryz.f29:=⟨Tryz.func29,rfl,rfl⟩
instance : Fun Tryz.prog 30 Tryz.f30:=⟨Tryz.func30,rfl,rfl⟩
instance : Fun Tryz.prog 31 Tryz.f31:=⟨Tryz.func31,rfl,rfl⟩
instance : Fun Tryz.prog 32 Tryz.f32:=⟨Tryz.func32,rfl,rfl⟩
instance : Fun Tryz.prog 33 Tryz.f33:=⟨Tryz.func33,rfl,rfl⟩
instance : Fun Tryz.prog 34 Tryz.f34:=⟨Tryz.func34,rfl,rfl⟩
instance : Fun Tryz.prog 35 Tryz.f35:=⟨Tryz.func35,rfl,rfl⟩
instance : Fun Tryz.prog 36 Tryz.f36:=⟨Tryz.func36,rfl,rfl⟩
instance : Fun Tryz.prog 37 Tryz.f37:=⟨Tryz.func37,rfl,rfl⟩
instance : Fun Tryz.prog 38 Tryz.f38:=⟨Tryz.func38,rfl,rfl⟩
instance : Fun Tryz.prog 39 Tryz.f39:=⟨Tryz.func39,rfl,rfl⟩
instance : Fun Tryz.prog 40 Tryz.f40:=⟨Tryz.func40,rfl,rfl⟩
instance : Fun Tryz.prog 41 Tryz.f41:=⟨Tryz.func41,rfl,rfl⟩
instance : Fun Tryz.prog 42 Tryz.f42:=⟨Tryz.func42,rfl,rfl⟩
instance : Fun Tryz.prog 43 Tryz.f43:=⟨Tryz.func43,rfl,rfl⟩
instance : Fun Tryz.prog 44 Tryz.f44:=⟨Tryz.func44,rfl,rfl⟩
instance : Fun Tryz.prog 45 Tryz.f45:=⟨Tryz.func45,rfl,rfl⟩
instance : Fun Tryz.prog 46 Tryz.f46:=⟨Tryz.func46,rfl,rfl⟩
instance : Fun Tryz.prog 47 Tryz.f47:=⟨Tryz.func47,rfl,rfl⟩
instance : Fun Tryz.prog 48 Tryz.f48:=⟨Tryz.func48,rfl,rfl⟩
instance : Fun Tryz.prog 49 Tryz.f49:=⟨Tryz.func49,rfl,rfl⟩
instance : Fun Tryz.prog 50 Tryz.f50:=⟨Tryz.func50,rfl,rfl⟩
instance : Fun Tryz.prog 51 Tryz.f51:=⟨Tryz.func51,rfl,rfl⟩
instance : Fun Tryz.prog 52 Tryz.f52:=⟨Tryz.func52,rfl,rfl⟩
instance : Fun Tryz.prog 53 Tryz.f53:=⟨Tryz.func53,rfl,rfl⟩
instance : Fun Tryz.prog 54 Tryz.f54:=⟨Tryz.func54,rfl,rfl⟩
instance : Fun Tryz.prog 55 Tryz.f55:=⟨Tryz.func55,rfl,rfl⟩
instance : Fun Tryz.prog 56 Tryz.f56:=⟨Tryz.func56,rfl,rfl⟩
instance : Fun Tryz.prog 57 Tryz.f57:=⟨Tryz.func57,rfl,rfl⟩
instance : Fun Tryz.prog 58 Tryz.f58:=⟨Tryz.func58,rfl,rfl⟩
instance : Fun Tryz.prog 59 Tryz.f59:=⟨Tryz.func59,rfl,rfl⟩
instance : Fun Tryz.prog 60 Tryz.f60:=⟨Tryz.func60,rfl,rfl⟩
instance : Fun Tryz.prog 61 Tryz.f61:=⟨Tryz.func61,rfl,rfl⟩
instance : Fun Tryz.prog 62 Tryz.f62:=⟨Tryz.func62,rfl,rfl⟩
instance : Fun Tryz.prog 63 Tryz.f63:=⟨Tryz.func63,rfl,rfl⟩
instance : Fun Tryz.prog 64 Tryz.f64:=⟨Tryz.func64,rfl,rfl⟩
instance : Fun Tryz.prog 65 Tryz.f65:=⟨Tryz.func65,rfl,rfl⟩
instance : Fun Tryz.prog 66 Tryz.f66:=⟨Tryz.func66,rfl,rfl⟩
instance : Fun Tryz.prog 67 Tryz.f67:=⟨Tryz.func67,rfl,rfl⟩
instance : Fun Tryz.prog 68 Tryz.f68:=⟨Tryz.func68,rfl,rfl⟩
instance : Fun Tryz.prog 69 Tryz.f69:=⟨Tryz.func69,rfl,rfl⟩
instance : Fun Tryz.prog 70 Tryz.f70:=⟨Tryz.func70,rfl,rfl⟩
instance : Fun Tryz.prog 71 Tryz.f71:=⟨Tryz.func71,rfl,rfl⟩
instance : Fun Tryz.prog 72 Tryz.f72:=⟨Tryz.func72,rfl,rfl⟩
instance : Fun Tryz.prog 73 Tryz.f73:=⟨Tryz.func73,rfl,rfl⟩
instance : Fun Tryz.prog 74 Tryz.f74:=⟨Tryz.func74,rfl,rfl⟩
instance : Fun Tryz.prog 75 Tryz.f75:=⟨Tryz.func75,rfl,rfl⟩
instance : Fun Tryz.prog 76 Tryz.f76:=⟨Tryz.func76,rfl,rfl⟩
instance : Fun Tryz.prog 77 Tryz.f77:=⟨Tryz.func77,rfl,rfl⟩
instance : Fun Tryz.prog 78 Tryz.f78:=⟨Tryz.func78,rfl,rfl⟩
instance : Fun Tryz.prog 79 Tryz.f79:=⟨Tryz.func79,rfl,rfl⟩
instance : Fun Tryz.prog 80 Tryz.f80:=⟨Tryz.func80,rfl,rfl⟩
instance : Fun Tryz.prog 81 Tryz.f81:=⟨Tryz.func81,rfl,rfl⟩
instance : Fun Tryz.prog 82 Tryz.f82:=⟨Tryz.func82,rfl,rfl⟩
instance : Fun Tryz.prog 83 Tryz.f83:=⟨Tryz.func83,rfl,rfl⟩
instance : Fun Tryz.prog 84 Tryz.f84:=⟨Tryz.func84,rfl,rfl⟩
instance : Fun Tryz.prog 85 Tryz.f85:=⟨Tryz.func85,rfl,rfl⟩
instance : Fun Tryz.prog 86 Tryz.f86:=⟨Tryz.func86,rfl,rfl⟩
instance : Fun Tryz.prog 87 Tryz.f87:=⟨Tryz.func87,rfl,rfl⟩
instance : Fun Tryz.prog 88 Tryz.f88:=⟨Tryz.func88,rfl,rfl⟩
instance : Fun Tryz.prog 89 Tryz.f89:=⟨Tryz.func89,rfl,rfl⟩
instance : Fun Tryz.prog 90 Tryz.f90:=⟨Tryz.func90,rfl,rfl⟩
instance : Fun Tryz.prog 91 Tryz.f91:=⟨Tryz.func91,rfl,rfl⟩
instance : Fun Tryz.prog 92 Tryz.f92:=⟨Tryz.func92,rfl,rfl⟩
instance : Fun Tryz.prog 93 Tryz.f93:=⟨Tryz.func93,rfl,rfl⟩
instance : Fun Tryz.prog 94 Tryz.f94:=⟨Tryz.func94,rfl,rfl⟩
instance : Fun Tryz.prog 95 Tryz.f95:=⟨Tryz.func95,rfl,rfl⟩
instance : Fun Tryz.prog 96 Tryz.f96:=⟨Tryz.func96,rfl,rfl⟩
instance : Fun Tryz.prog 97 Tryz.f97:=⟨Tryz.func97,rfl,rfl⟩
instance : Fun Tryz.prog 98 Tryz.f98:=⟨Tryz.func98,rfl,rfl⟩
instance : Fun Tryz.prog 99 Tryz.f99:=⟨Tryz.func99,rfl,rfl⟩
instance : Fun Tryz.prog 100 Tryz.f100:=⟨Tryz.func100,rfl,rfl⟩
instance : Fun Tryz.prog 101 Tryz.f101:=⟨Tryz.func101,rfl,rfl⟩
instance : Fun Tryz.prog 102 Tryz.f102:=⟨Tryz.func102,rfl,rfl⟩
instance : Fun Tryz.prog 103 Tryz.f103:=⟨Tryz.func103,rfl,rfl⟩
instance : Fun Tryz.prog 104 Tryz.f104:=⟨Tryz.func104,rfl,rfl⟩
instance : Fun Tryz.prog 105 Tryz.f105:=⟨Tryz.func105,rfl,rfl⟩
instance : Fun Tryz.prog 106 Tryz.f106:=⟨Tryz.func106,rfl,rfl⟩
instance : Fun Tryz.prog 107 Tryz.f107:=⟨Tryz.func107,rfl,rfl⟩
instance : Fun Tryz.prog 108 Tryz.f108:=⟨Tryz.func108,rfl,rfl⟩
instance : Fun Tryz.prog 109 Tryz.f109:=⟨Tryz.func109,rfl,rfl⟩
instance : Fun Tryz.prog 110 Tryz.f110:=⟨Tryz.func110,rfl,rfl⟩
instance : Fun Tryz.prog 111 Tryz.f111:=⟨Tryz.func111,rfl,rfl⟩
instance : Fun Tryz.prog 112 Tryz.f112:=⟨Tryz.func112,rfl,rfl⟩
instance : Fun Tryz.prog 113 Tryz.f113:=⟨Tryz.func113,rfl,rfl⟩
instance : Fun Tryz.prog 114 Tryz.f114:=⟨Tryz.func114,rfl,rfl⟩
instance : Fun Tryz.prog 116 Tryz.f116:=⟨Tryz.func116,rfl,rfl⟩
instance : Fun Tryz.prog 117 Tryz.f117:=⟨Tryz.func117,rfl,rfl⟩
instance : Fun Tryz.prog 118 Tryz.f118:=⟨Tryz.func118,rfl,rfl⟩
instance : Fun Tryz.prog 119 Tryz.f119:=⟨Tryz.func119,rfl,rfl⟩
instance : Fun Tryz.prog 121 Tryz.f121:=⟨Tryz.func121,rfl,rfl⟩
instance : Fun Tryz.prog 122 Tryz.f122:=⟨Tryz.func122,rfl,rfl⟩
instance : Fun Tryz.prog 123 Tryz.f123:=⟨Tryz.func123,rfl,rfl⟩
instance : Fun Tryz.prog 124 Tryz.f124:=⟨Tryz.func124,rfl,rfl⟩
instance : Fun Tryz.prog 125 Tryz.f125:=⟨Tryz.func125,rfl,rfl⟩
instance : Fun Tryz.prog 126 Tryz.f126:=⟨Tryz.func126,rfl,rfl⟩
instance : Fun Tryz.prog 127 Tryz.f127:=⟨Tryz.func127,rfl,rfl⟩
instance : Fun Tryz.prog 128 Tryz.f128:=⟨Tryz.func128,rfl,rfl⟩
end Go.Proofs.YtampmicahnnebaaGreat.Sp
namespace Go.Proofs.YtampmicahnnebaaGreat.Sp
open Go Go.RowKit
def nest {α ι : Type} (sz : Nat) (z : α) (enc : α → ι → List Value) (parts : α → ι → List Asn) (get : α → Nat → Option Value) (set : α → Nat → Value → Option α) (hl : ∀ x i,(enc x i).length = sz) (h1 : ∀ x i,∀ u ∈ enc x i,u.oneCell' = true)
    (hg : ∀ x j v i,get x j = some v → (enc x i)[j]? = some v) (hs : ∀ x j v x' i,set x j v = some x' → (enc x i).set j v = enc x' i ∧ parts x' i = parts x i ∧ j < sz ∧ v.oneCell' = true) : Ty α where
  sz:=sz
  z:=z
  A:=fun x c=>exP (fun i=>c = enc x i) (parts x)
  get:=get
  set:=set
  len:=by rintro x c W F ⟨i,rfl,_⟩;exact hl x i
  one:=by rintro x c W F ⟨i,rfl,_⟩;exact h1 x i
  get_ok:=by rintro x c W F j v ⟨i,rfl,_⟩ h;exact hg x j v i h
  set_ok:=by
    rintro x c W F j v x' ⟨i,rfl,hp⟩ h
    obtain ⟨e1,e2,e3,e4⟩:=hs x j v x' i h
    exact ⟨⟨i,e1,by rw [e2];exact hp⟩,e3,e4⟩
def setI {α : Type} (f : Int → α) : Value → Option α
  | .int .i64 n=>some (f n)
  | _=>none
def setB {α : Type} (f : Bool → α) : Value → Option α
  | .bool b=>some (f b)
  | _=>none
def setS {α : Type} (f : ByteArray → α) : Value → Option α
  | .string s=>some (f s)
  | _=>none
theorem setI_some {α : Type} {f : Int → α} {v : Value} {x : α} (h : setI f v = some x) : ∃ n,v = .int .i64 n ∧ x = f n:=by
  unfold setI at h
  split at h
  · cases h;exact ⟨_,rfl,rfl⟩
  · cases h
theorem setB_some {α : Type} {f : Bool → α} {v : Value} {x : α} (h : setB f v = some x) : ∃ n,v = .bool n ∧ x = f n:=by
  unfold setB at h
  split at h
  · cases h;exact ⟨_,rfl,rfl⟩
  · cases h
theorem setS_some {α : Type} {f : ByteArray → α} {v : Value} {x : α} (h : setS f v = some x) : ∃ n,v = .string n ∧ x = f n:=by
  unfold setS at h
  split at h
  · cases h;exact ⟨_,rfl,rfl⟩
  · cases h
def tInt : Ty Int:=nest (ι:=Unit) 1 0 (fun n _=>[.int .i64 n]) (fun _ _=>[]) (fun n j=>match j with|0=>some (.int .i64 n)|_=>none) (fun n j v=>match j with|0=>setI (fun n=>n) v|_=>none)
  (fun _ _=>rfl) (fun _ _ u hu=>by simp at hu;subst hu;rfl)
  (fun x j v i h=>by match j with|0=>simpa using h|j + 1=>simp at h)
  (fun x j v x' i h=>by match j with
    | 0=>obtain ⟨n,rfl,rfl⟩:=setI_some h;exact ⟨rfl,rfl,by decide,rfl⟩
    | j + 1=>simp at h)
def tStr : Ty ByteArray:=nest (ι:=Unit) 1 ⟨#[]⟩ (fun n _=>[.string n]) (fun _ _=>[]) (fun n j=>match j with|0=>some (.string n)|_=>none) (fun n j v=>match j with|0=>setS (fun n=>n) v|_=>none)
  (fun _ _=>rfl) (fun _ _ u hu=>by simp at hu;subst hu;rfl)
  (fun x j v i h=>by match j with|0=>simpa using h|j + 1=>simp at h)
  (fun x j v x' i h=>by match j with
    | 0=>obtain ⟨n,rfl,rfl⟩:=setS_some h;exact ⟨rfl,rfl,by decide,rfl⟩
    | j + 1=>simp at h)
abbrev At:=Option Addr × Nat
theorem mk_flat {α : Type} {D : Ty α} {x : α} {ws : List Value} {L : List Asn} (h : ∀ W,(D.A x ws).H W (fun _=>False)) : MkIn L D ws x L:=⟨fun W ok hs=>⟨fun _=>False,fun _ h=>h.elim,h W,hs.mono (fun k hk=>⟨hk,fun h=>h⟩)⟩⟩
instance {L : List Asn} {n : Int} : MkIn L tInt [.int .i64 n] n L:=mk_flat fun _=>⟨(),rfl,trivial⟩
instance : Flat tInt (fun n=>[.int .i64 n]):=⟨fun ⟨_,h,_⟩=>h⟩
instance {L : List Asn} {n : ByteArray} : MkIn L tStr [.string n] n L:=mk_flat fun _=>⟨(),rfl,trivial⟩
instance : Flat tStr (fun n=>[.string n]):=⟨fun ⟨_,h,_⟩=>h⟩
structure Slot where
  ballot : Int
  text : ByteArray
def encSlot (x : Slot) (i : Unit) : List Value:=[.int .i64 x.ballot,.string x.text]
def partSlot  (x : Slot) (i : Unit) : List Asn:=[]
def getSlot (x : Slot) (j : Nat) : Option Value:=match j with|0=>some (.int .i64 x.ballot)|1=>some (.string x.text)|_=>none
def setSlot (x : Slot) (j : Nat) (v : Value) : Option Slot:=match j with|0=>setI (fun n=>{ x with ballot:=n }) v|1=>setS (fun n=>{ x with text:=n }) v|_=>none
def tSlot  : Ty Slot:=nest (ι:=Unit) 2 ⟨0,⟨#[]⟩⟩ encSlot (partSlot) getSlot setSlot
  (fun _ _=>rfl) (fun _ _ u hu=>by simp [encSlot] at hu;(repeat' (rcases hu with rfl|hu)) <;> first|rfl|(subst hu;rfl))
  (fun x j v i h=>by
    match j with
    | 0|1=>simpa [encSlot,getSlot] using h
    | j + 2=>simp [getSlot] at h)
  (fun x j v x1 i h=>by
    match j with
    | 0=>obtain ⟨n,rfl,rfl⟩:=setI_some h;exact ⟨rfl,rfl,by decide,rfl⟩
    | 1=>obtain ⟨n,rfl,rfl⟩:=setS_some h;exact ⟨rfl,rfl,by decide,rfl⟩
    | j + 2=>simp [setSlot] at h)
instance {L : List Asn} {ballot : Int} {text : ByteArray} : MkIn L tSlot [.int .i64 ballot,.string text] ⟨ballot,text⟩ L:=mk_flat fun _=>⟨(),rfl,trivial⟩
instance : Flat tSlot (fun x=>encSlot x ()):=⟨fun ⟨_,h,_⟩=>h⟩
structure Fix where
  index : Int
  text : ByteArray
def encFix (x : Fix) (i : Unit) : List Value:=[.int .i64 x.index,.string x.text]
def partFix  (x : Fix) (i : Unit) : List Asn:=[]
def getFix (x : Fix) (j : Nat) : Option Value:=match j with|0=>some (.int .i64 x.index)|1=>some (.string x.text)|_=>none
def setFix (x : Fix) (j : Nat) (v : Value) : Option Fix:=match j with|0=>setI (fun n=>{ x with index:=n }) v|1=>setS (fun n=>{ x with text:=n }) v|_=>none
def tFix  : Ty Fix:=nest (ι:=Unit) 2 ⟨0,⟨#[]⟩⟩ encFix (partFix) getFix setFix
  (fun _ _=>rfl) (fun _ _ u hu=>by simp [encFix] at hu;(repeat' (rcases hu with rfl|hu)) <;> first|rfl|(subst hu;rfl))
  (fun x j v i h=>by
    match j with
    | 0|1=>simpa [encFix,getFix] using h
    | j + 2=>simp [getFix] at h)
  (fun x j v x1 i h=>by
    match j with
    | 0=>obtain ⟨n,rfl,rfl⟩:=setI_some h;exact ⟨rfl,rfl,by decide,rfl⟩
    | 1=>obtain ⟨n,rfl,rfl⟩:=setS_some h;exact ⟨rfl,rfl,by decide,rfl⟩
    | j + 2=>simp [setFix] at h)
instance {L : List Asn} {index : Int} {text : ByteArray} : MkIn L tFix [.int .i64 index,.string text] ⟨index,text⟩ L:=mk_flat fun _=>⟨(),rfl,trivial⟩
instance : Flat tFix (fun x=>encFix x ()):=⟨fun ⟨_,h,_⟩=>h⟩
structure Msg where
  kind : Int
  frm : Int
  to : Int
  ballot : Int
  index : Int
  known : Int
  text : ByteArray
  slots : List Slot
def encMsg (x : Msg) (i : At) : List Value:=[.int .i64 x.kind,.int .i64 x.frm,.int .i64 x.to,.int .i64 x.ballot,.int .i64 x.index,.int .i64 x.known,.string x.text,.slice i.1 x.slots.length i.2]
def partMsg (eS : Nat) (x : Msg) (i : At) : List Asn:=[own tSlot eS i.1 i.2 x.slots]
def getMsg (x : Msg) (j : Nat) : Option Value:=match j with|0=>some (.int .i64 x.kind)|1=>some (.int .i64 x.frm)|2=>some (.int .i64 x.to)|3=>some (.int .i64 x.ballot)|4=>some (.int .i64 x.index)|5=>some (.int .i64 x.known)|6=>some (.string x.text)|_=>none
def setMsg (x : Msg) (j : Nat) (v : Value) : Option Msg:=match j with|0=>setI (fun n=>{ x with kind:=n }) v|1=>setI (fun n=>{ x with frm:=n }) v|2=>setI (fun n=>{ x with to:=n }) v|3=>setI (fun n=>{ x with ballot:=n }) v|4=>setI (fun n=>{ x with index:=n }) v|5=>setI (fun n=>{ x with known:=n }) v|6=>setS (fun n=>{ x with text:=n }) v|_=>none
def tMsg (eS : Nat) : Ty Msg:=nest (ι:=At) 8 ⟨0,0,0,0,0,0,⟨#[]⟩,[]⟩ encMsg (partMsg eS) getMsg setMsg
  (fun _ _=>rfl) (fun _ _ u hu=>by simp [encMsg] at hu;(repeat' (rcases hu with rfl|hu)) <;> first|rfl|(subst hu;rfl))
  (fun x j v i h=>by
    match j with
    | 0|1|2|3|4|5|6=>simpa [encMsg,getMsg] using h
    | 7=>simp [getMsg] at h
    | j + 8=>simp [getMsg] at h)
  (fun x j v x1 i h=>by
    match j with
    | 0=>obtain ⟨n,rfl,rfl⟩:=setI_some h;exact ⟨rfl,rfl,by decide,rfl⟩
    | 1=>obtain ⟨n,rfl,rfl⟩:=setI_some h;exact ⟨rfl,rfl,by decide,rfl⟩
    | 2=>obtain ⟨n,rfl,rfl⟩:=setI_some h;exact ⟨rfl,rfl,by decide,rfl⟩
    | 3=>obtain ⟨n,rfl,rfl⟩:=setI_some h;exact ⟨rfl,rfl,by decide,rfl⟩
    | 4=>obtain ⟨n,rfl,rfl⟩:=setI_some h;exact ⟨rfl,rfl,by decide,rfl⟩
    | 5=>obtain ⟨n,rfl,rfl⟩:=setI_some h;exact ⟨rfl,rfl,by decide,rfl⟩
    | 6=>obtain ⟨n,rfl,rfl⟩:=setS_some h;exact ⟨rfl,rfl,by decide,rfl⟩
    | 7=>simp [setMsg] at h
    | j + 8=>simp [setMsg] at h)
structure Ack where
  index : Int
  frm : List Int
def encAck (x : Ack) (i : At) : List Value:=[.int .i64 x.index,.slice i.1 x.frm.length i.2]
def partAck (eI : Nat) (x : Ack) (i : At) : List Asn:=[own tInt eI i.1 i.2 x.frm]
def getAck (x : Ack) (j : Nat) : Option Value:=match j with|0=>some (.int .i64 x.index)|_=>none
def setAck (x : Ack) (j : Nat) (v : Value) : Option Ack:=match j with|0=>setI (fun n=>{ x with index:=n }) v|_=>none
def tAck (eI : Nat) : Ty Ack:=nest (ι:=At) 2 ⟨0,[]⟩ encAck (partAck eI) getAck setAck
  (fun _ _=>rfl) (fun _ _ u hu=>by simp [encAck] at hu;(repeat' (rcases hu with rfl|hu)) <;> first|rfl|(subst hu;rfl))
  (fun x j v i h=>by
    match j with
    | 0=>simpa [encAck,getAck] using h
    | 1=>simp [getAck] at h
    | j + 2=>simp [getAck] at h)
  (fun x j v x1 i h=>by
    match j with
    | 0=>obtain ⟨n,rfl,rfl⟩:=setI_some h;exact ⟨rfl,rfl,by decide,rfl⟩
    | 1=>simp [setAck] at h
    | j + 2=>simp [setAck] at h)
structure Rcd where
  number : Int
  of : Int
  up : Bool
  sp : Int
  sk : Int
  ss : List Slot
  dp : Int
  dk : Int
  ds : List Slot
  held : List Msg
  wishes : List ByteArray
  lead : Bool
  trying : Bool
  ballot : Int
  yes : List Int
  best : List Slot
  acks : List Ack
  heard : Int
structure AtRcd where
  a0 : At
  a1 : At
  a2 : At
  a3 : At
  a4 : At
  a5 : At
  a6 : At
def encRcd (x : Rcd) (i : AtRcd) : List Value:=[.int .i64 x.number,.int .i64 x.of,.bool x.up,.int .i64 x.sp,.int .i64 x.sk,.slice i.a0.1 x.ss.length i.a0.2,.int .i64 x.dp,.int .i64 x.dk,.slice i.a1.1 x.ds.length i.a1.2,.slice i.a2.1 x.held.length i.a2.2,.slice i.a3.1 x.wishes.length i.a3.2,.bool x.lead,.bool x.trying,.int .i64 x.ballot,.slice i.a4.1 x.yes.length i.a4.2,.slice i.a5.1 x.best.length i.a5.2,.slice i.a6.1 x.acks.length i.a6.2,.int .i64 x.heard]
def partRcd (eS : Nat) (eM : Nat) (eT : Nat) (eI : Nat) (eA : Nat) (x : Rcd) (i : AtRcd) : List Asn:=[own tSlot eS i.a0.1 i.a0.2 x.ss,own tSlot eS i.a1.1 i.a1.2 x.ds,own (tMsg eS) eM i.a2.1 i.a2.2 x.held,own tStr eT i.a3.1 i.a3.2 x.wishes,own tInt eI i.a4.1 i.a4.2 x.yes,own tSlot eS i.a5.1 i.a5.2 x.best,own (tAck eI) eA i.a6.1 i.a6.2 x.acks]
def getRcd (x : Rcd) (j : Nat) : Option Value:=match j with|0=>some (.int .i64 x.number)|1=>some (.int .i64 x.of)|2=>some (.bool x.up)|3=>some (.int .i64 x.sp)|4=>some (.int .i64 x.sk)|6=>some (.int .i64 x.dp)|7=>some (.int .i64 x.dk)|11=>some (.bool x.lead)|12=>some (.bool x.trying)|13=>some (.int .i64 x.ballot)|17=>some (.int .i64 x.heard)|_=>none
def setRcd (x : Rcd) (j : Nat) (v : Value) : Option Rcd:=match j with|0=>setI (fun n=>{ x with number:=n }) v|1=>setI (fun n=>{ x with of:=n }) v|2=>setB (fun n=>{ x with up:=n }) v|3=>setI (fun n=>{ x with sp:=n }) v|4=>setI (fun n=>{ x with sk:=n }) v|6=>setI (fun n=>{ x with dp:=n }) v|7=>setI (fun n=>{ x with dk:=n }) v|11=>setB (fun n=>{ x with lead:=n }) v|12=>setB (fun n=>{ x with trying:=n }) v|13=>setI (fun n=>{ x with ballot:=n }) v|17=>setI (fun n=>{ x with heard:=n }) v|_=>none
def tRec (eS : Nat) (eM : Nat) (eT : Nat) (eI : Nat) (eA : Nat) : Ty Rcd:=nest (ι:=AtRcd) 18 ⟨0,0,false,0,0,[],0,0,[],[],[],false,false,0,[],[],[],0⟩ encRcd (partRcd eS eM eT eI eA) getRcd setRcd
  (fun _ _=>rfl) (fun _ _ u hu=>by simp [encRcd] at hu;(repeat' (rcases hu with rfl|hu)) <;> first|rfl|(subst hu;rfl))
  (fun x j v i h=>by
    match j with
    | 0|1|2|3|4|6|7|11|12|13|17=>simpa [encRcd,getRcd] using h
    | 5|8|9|10|14|15|16=>simp [getRcd] at h
    | j + 18=>simp [getRcd] at h)
  (fun x j v x1 i h=>by
    match j with
    | 0=>obtain ⟨n,rfl,rfl⟩:=setI_some h;exact ⟨rfl,rfl,by decide,rfl⟩
    | 1=>obtain ⟨n,rfl,rfl⟩:=setI_some h;exact ⟨rfl,rfl,by decide,rfl⟩
    | 2=>obtain ⟨n,rfl,rfl⟩:=setB_some h;exact ⟨rfl,rfl,by decide,rfl⟩
    | 3=>obtain ⟨n,rfl,rfl⟩:=setI_some h;exact ⟨rfl,rfl,by decide,rfl⟩
    | 4=>obtain ⟨n,rfl,rfl⟩:=setI_some h;exact ⟨rfl,rfl,by decide,rfl⟩
    | 6=>obtain ⟨n,rfl,rfl⟩:=setI_some h;exact ⟨rfl,rfl,by decide,rfl⟩
    | 7=>obtain ⟨n,rfl,rfl⟩:=setI_some h;exact ⟨rfl,rfl,by decide,rfl⟩
    | 11=>obtain ⟨n,rfl,rfl⟩:=setB_some h;exact ⟨rfl,rfl,by decide,rfl⟩
    | 12=>obtain ⟨n,rfl,rfl⟩:=setB_some h;exact ⟨rfl,rfl,by decide,rfl⟩
    | 13=>obtain ⟨n,rfl,rfl⟩:=setI_some h;exact ⟨rfl,rfl,by decide,rfl⟩
    | 17=>obtain ⟨n,rfl,rfl⟩:=setI_some h;exact ⟨rfl,rfl,by decide,rfl⟩
    | 5|8|9|10|14|15|16=>simp [setRcd] at h
    | j + 18=>simp [setRcd] at h)
end Go.Proofs.YtampmicahnnebaaGreat.Sp
namespace Go.Proofs.YtampmicahnnebaaGreat.Sp
open Go Go.RowKit
structure TyR (α : Type) where
  sz : Nat
  z : α
  R : World → α → List Value → Prop
  get : α → Nat → Option Value
  len : ∀ {w x c},R w x c → c.length = sz
  get_ok : ∀ {w x c j v},R w x c → get x j = some v → c[j]? = some v
structure RoRow {α : Type} (D : TyR α) (w : World) (A : Option Addr) (xs : List α) : Prop where
  max : xs.length ≤ 9223372036854775807
  some_ : 0 < xs.length → A = some (adr A)
  cell : ∀ i (h : i < xs.length),∃ c,D.R w xs[i] c ∧ ∀ j v,c[j]? = some v → w.cell? ((adr A).add (i * D.sz + j)) = some v
def rdR {α : Type} (D : TyR α) (xs : List α) (i : Int) : α:=xs.getD i.toNat D.z
theorem rdR_at {α : Type} {D : TyR α} {xs : List α} {i : Nat} (h : i < xs.length) : rdR D xs (i : Int) = xs[i]:=by simp [rdR,List.getD_eq_getElem?_getD,h]
def pur (p : Prop) : Asn:=exP (fun _ : Unit=>p) (fun _=>[])
theorem Mem.pur {w0 W : World} {L : List Asn} (h : Mem w0 W L) {p : Prop} (hp : p) : Mem w0 W (pur p :: L):=Mem.mkx () hp h
def ro {α : Type} (D : TyR α) (w0 : World) (A : Option Addr) (xs : List α) : Asn:=pur (RoRow D w0 A xs)
def roC (w0 : World) (A : Option Addr) (i sz : Nat) (c : List Value) : Asn:=pur (A = some (adr A) ∧ c.length = sz ∧ ∀ j v,c[j]? = some v → w0.cell? ((adr A).add (i * sz + j)) = some v)
class RoAt (L : List Asn) (A : Option Addr) (α : outParam Type) (d : outParam (TyR α)) (w0 : outParam World) (xs : outParam (List α)) : Prop where mem : ∃ R,L.Perm (ro d w0 A xs :: R)
instance RoAt.here {α : Type} {d : TyR α} {A : Option Addr} {w0 : World} {xs : List α} {L : List Asn} : RoAt (ro d w0 A xs :: L) A α d w0 xs:=⟨L,List.Perm.refl _⟩
instance (priority:=low) RoAt.there {α : Type} {d : TyR α} {A : Option Addr} {w0 : World} {xs : List α} {L : List Asn} {B : Asn} [h : RoAt L A α d w0 xs] : RoAt (B :: L) A α d w0 xs:=⟨by
  obtain ⟨R,h⟩:=h.mem
  exact ⟨B :: R,(List.Perm.cons B h).trans (List.Perm.swap _ B R)⟩⟩
class RoCAt (L : List Asn) (A : Option Addr) (w0 : outParam World) (i sz : outParam Nat) (c : outParam (List Value)) : Prop where mem : ∃ R,L.Perm (roC w0 A i sz c :: R)
instance RoCAt.here {A : Option Addr} {w0 : World} {i sz : Nat} {c : List Value} {L : List Asn} : RoCAt (roC w0 A i sz c :: L) A w0 i sz c:=⟨L,List.Perm.refl _⟩
instance (priority:=low) RoCAt.there {A : Option Addr} {w0 : World} {i sz : Nat} {c : List Value} {L : List Asn} {B : Asn} [h : RoCAt L A w0 i sz c] : RoCAt (B :: L) A w0 i sz c:=⟨by
  obtain ⟨R,h⟩:=h.mem
  exact ⟨B :: R,(List.Perm.cons B h).trans (List.Perm.swap _ B R)⟩⟩
section
variable {w0 W : World} {L : List Asn} {A : Option Addr} {α : Type} {D : TyR α} {xs : List α}
theorem Mem.pure_ {p : Prop} {R : List Asn} (hp : L.Perm (Sp.pur p :: R)) (hm : Mem w0 W L) : p:=by
  obtain ⟨F,_,⟨_,h,_⟩,_⟩:=(hm.perm hp).sep
  exact h
theorem Mem.ro [h : RoAt L A α D w0 xs] (hm : Mem w0 W L) : RoRow D w0 A xs:=by
  obtain ⟨R,hp⟩:=h.mem
  exact Mem.pure_ hp hm
theorem Mem.roOpen [h : RoAt L A α D w0 xs] (hm : Mem w0 W L) (i : Nat) (hi : i < xs.length) : ∃ c,D.R w0 xs[i] c ∧ Mem w0 W (roC w0 A i D.sz c :: L):=by
  have hr:=hm.ro (A:=A) (D:=D)
  obtain ⟨c,h1,h2⟩:=hr.cell i hi
  exact ⟨c,h1,hm.pur ⟨hr.some_ (by omega),D.len h1,h2⟩⟩
theorem Mem.old (hm : Mem w0 W L) {a : Addr} {v : Value} (h : w0.cell? a = some v) : W.cell? a = some v:=(hm.below.cell (World.block_lt_of_cell? w0 a h)).trans h
end
section
variable {P : Program} {n : Nat} {E : Env} {w0 W : World} {L : List Asn} {pt st : TypeId} {x y : Operand} {v : Value} {e sz j l c : Nat} {A : Option Addr} {i : Int} {k : IntKind} {α : Type} {D : TyR α} {xs : List α} {ws : List Value} {q : Nat}
theorem p_indexr [hU : Und P st (.slice e)] [hS : Siz P e sz] [hO : RoAt L A α D w0 xs] (hm : Mem w0 W L) (hx : ev E x = some (.slice A l c)) (hl : l = xs.length) (hy : ev E y = some (.int k i)) (h0 : 0 ≤ i) (h1 : i < xs.length) : PV P E (.indexAddr st x y) (.pointer (some (rp A i sz 0))) :=
  p_index hx ((hm.ro (A:=A) (D:=D)).some_ (by omega)) hy h0 (by omega)
theorem p_loadr [hO : RoAt L A α D w0 xs] [h1c : One P pt] (hx : ev E x = some (.pointer (some (rp A i sz j)))) (hs : sz = D.sz) (h0 : 0 ≤ i) (h1 : i < xs.length) (hv : D.get (rdR D xs i) j = some v) : LV P E w0 L (.load pt x) v :=
  ⟨fun W hm n a ha dst ty pos after gd=>by
    obtain ⟨u,hu,hu2⟩:=h1c.out
    subst hs
    obtain ⟨i,rfl⟩:=Int.eq_ofNat_of_zero_le h0
    have h1 : i < xs.length:=by omega
    obtain ⟨c,hR,hc⟩:=(hm.ro (A:=A) (D:=D)).cell i h1
    rw [rdR_at h1] at hv
    have hcell:=hm.old (hc j v (D.get_ok hR hv))
    have hl : (loadVar pt ((adr A).add (i * D.sz + j))).run P W = .ok v W:=by
      unfold loadVar isAgg
      cases u <;> simp_all [underlying,load,Sem.run]
    simp [execOp,ha.eval hx,Instr.loadAt,Instr.sureAddr,rp,hl]⟩
theorem p_loadwr {m : Nat} [hO : RoCAt L A w0 q sz ws] [hA : Agg P pt m] (hx : ev E x = some (.pointer (some (rp A i sz 0)))) (hm : m = sz) (hi : i = q) : LV P E w0 L (.load pt x) (.agg ws.toArray) :=
  ⟨fun W hmem n a ha dst ty pos after gd=>by
    obtain ⟨R,hp⟩:=hO.mem
    obtain ⟨hA1,hl,hc⟩:=Mem.pure_ hp hmem
    obtain ⟨u,hu,hu2,hinf⟩:=hA.out
    subst hm hi
    have key : ∀ (vs : List Value) (acc : Array Value) (j : Nat) (a : Addr),(∀ q v,vs[q]? = some v → W.cell? (a.add (j + q)) = some v) → (loadCellsFrom a j vs.length acc).run P W = .ok (acc ++ vs.toArray) W:=by
      intro vs
      induction vs with
      | nil=>intro acc j a h;simp [loadCellsFrom]
      | cons v r ih =>
        intro acc j a h
        have h1:=h 0 v rfl
        rw [Nat.add_zero] at h1
        have h2:=ih (acc.push v) (j + 1) a (fun q u hq=>by have:=h (q + 1) u (by simpa using hq);rwa [Nat.add_assoc,Nat.add_comm 1 q])
        simp only [List.length_cons,loadCellsFrom,Sem.run_bind]
        have h3 : (load (a.add j)).run P W = .ok v W:=by simp [load,Sem.run,h1]
        rw [h3]
        simp only [Result.andThen_ok]
        rw [h2]
        simp
    have h4:=key ws #[] 0 ((adr A).add (q * m)) (fun q2 v hv=>by rw [addr_add_add,Nat.zero_add];exact hmem.old (hc q2 v hv))
    have h5 : (loadVar pt ((adr A).add (q * m))).run P W = .ok (.agg ws.toArray) W:=by
      rw [hl] at h4
      obtain ⟨inf,hi1,hi2⟩:=Option.map_eq_some_iff.1 hinf
      have hagg : (isAgg pt).run P W = .ok true W:=by
        unfold isAgg
        simp only [Sem.run_bind,run_underlying hu,Result.andThen_ok]
        cases u <;> first|rfl|(exfalso;simp at hu2)
      unfold loadVar
      simp only [Sem.run_bind,hagg,Result.andThen_ok,if_true]
      have h6 : (sizeOf pt).run P W = .ok m W:=by simp [sizeOf,typeInfo,hi1,hi2]
      rw [h6]
      simp only [Result.andThen_ok,loadCells]
      rw [h4]
      simp
    simp [execOp,ha.eval hx,Instr.loadAt,Instr.sureAddr,rp,h5]⟩
end
end Go.Proofs.YtampmicahnnebaaGreat.Sp
