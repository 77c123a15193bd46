/- RecRise of both sides. No condition. -/
import Derived.Test.YtampmicahnnebaaGreatRecClaim3
import Derived.Test.YtampmicahnnebaaGreatRecClaim2
import Derived.Test.YtampmicahnnebaaGreatRecClaim8
import Derived.Test.YtampmicahnnebaaGreatRecClaim7
import Derived.Test.YtampmicahnnebaaGreatRecClaim6
import Derived.WideKeyEntry
import Derived.DeepKeys4
import Derived.Carry
import Derived.Test.YtampmicahnnebaaGreatRecClaim1
import Derived.KernelRfl
set_option linter.unusedVariables false
set_option linter.unusedSimpArgs false
namespace Go.Proofs.YtampmicahnnebaaGreat.Sp
open Go Go.RowKit
set_option maxRecDepth 10000
set_option maxHeartbeats 1000000
variable {w0 W : World} {L : List Asn}
def riseL (x : Rcd) : Rcd:=if validB x = true then { x with up:=true } else zeroR
theorem specRecRise (x : Rcd) (i : AtRcd) (h : RoRcd false w0 x i) (hn : SmallR x) (HM : Mem w0 W L) : Calls Tryz.prog 111 #[.agg (encRcd x i).toArray] W fun e W'=>∃ j,e = .returned (.agg (encRcd (riseL x) j).toArray) ∧ Mem w0 W' (partRcd 91 40 9 3 66 (riseL x) j ++ L):=by
  refine enter Tryz.func111 rfl Tryz.ntmps111 [(0,.agg (encRcd x i).toArray)] rfl ⟨rfl,trivial⟩ ?_
  have h0:=h
  unfold encRcd
  by_cases hv : validB x = true
  rotate_left
  · simp only [Bool.not_eq_true] at hv
    repeat (first|refine Y ?_|(refine qs ?_;clear HM;intro W1 HM)|(refine qf ?_;go_at_call 9;refine (specValid x i h0 hn HM).mono ?_;rintro e W1 ⟨rfl,HM1⟩;refine ⟨_,rfl,?_⟩;replace HM:=HM1;clear HM1)|(refine qg ?_;clear HM;intro g W1 HM))
    have HM2:=HM.zeroR 91 40 9 3 66
    simp only [partRcd,zeroR,atZ,List.cons_append,List.nil_append] at HM2
    have e : riseL x = zeroR:=by simp [riseL,hv]
    rw [e]
    exact ret_cell HM2 rfl rfl rfl ⟨atZ,rfl,by simp only [partRcd,zeroR,atZ,List.cons_append,List.nil_append];exact HM2.sb⟩
  repeat (first|refine Y ?_|(refine qs ?_;clear HM;intro W1 HM)|(refine qf ?_;first|(go_at_call 9;refine (specValid x i h0 hn HM).mono ?_;rintro e W1 ⟨rfl,HM1⟩;refine ⟨_,rfl,?_⟩;replace HM:=HM1;clear HM1)|(go_at_call 24;refine (l2Copy_c x _ h0 hn HM).mono ?_;rintro e W1 ⟨j,rfl,HM1⟩;refine ⟨_,rfl,?_⟩;replace HM:=HM1;clear HM1;simp only [partRcd,List.cons_append,List.nil_append] at HM;simp only [encRcd]))|(refine qg ?_;clear HM;intro g W1 HM))
  have e : riseL x = _:=if_pos hv
  rw [e]
  exact ret_cell HM rfl rfl rfl ⟨⟨(_,_),(_,_),(_,_),(_,_),(_,_),(_,_),(_,_)⟩,rfl,by simp only [partRcd,List.cons_append,List.nil_append];exact HM.sb⟩
end Go.Proofs.YtampmicahnnebaaGreat.Sp
namespace Go.Proofs.YtampmicahnnebaaGreat.Sp
open Go Go.RowKit
set_option maxRecDepth 10000
structure FixP (xs : List Fix) : Prop where
  all : ∀ f ∈ xs,(1 ≤ f.index ∧ f.index ≤ 60) ∧ f.text.size ≤ 100
  sorted : xs.Pairwise (fun a b=>a.index < b.index)
structure WP (x : Wld) : Prop where
  n1 : 1 ≤ x.recs.length
  n5 : x.recs.length ≤ 5
  fl : x.flight.length ≤ 600
  recs : ∀ k (h : k < x.recs.length),VR x.recs[k] ∧ x.recs[k].number = (k : Int) + 1 ∧ x.recs[k].of = x.recs.length
  msg : ∀ m ∈ x.flight,MsgP m x.recs.length
  fix : FixP x.fixed
theorem worldB_iff {x : Wld} : worldB x = true ↔ WP x:=by
  have hr : allN (recB x) x.recs.length = true ↔ ∀ k (h : k < x.recs.length),VR x.recs[k] ∧ x.recs[k].number = (k : Int) + 1 ∧ x.recs[k].of = x.recs.length:=by
    rw [allN_iff]
    constructor
    · intro h k hk
      have h2:=h k hk
      rw [recB_at hk,Bool.and_eq_true,Bool.and_eq_true,decide_eq_true_eq,decide_eq_true_eq] at h2
      exact ⟨validB_iff.1 h2.1.1,h2.1.2,h2.2⟩
    · intro h k hk
      obtain ⟨h1,h2,h3⟩:=h k hk
      rw [recB_at hk,Bool.and_eq_true,Bool.and_eq_true,decide_eq_true_eq,decide_eq_true_eq]
      exact ⟨⟨validB_iff.2 h1,h2⟩,h3⟩
  have hm : allN (fun j=>msgB (rdR (rMsg false) x.flight j) x.recs.length) x.flight.length = true ↔ ∀ m ∈ x.flight,MsgP m x.recs.length:=by
    rw [allN_iff]
    constructor
    · intro h m hm
      obtain ⟨i,hi,rfl⟩:=List.getElem_of_mem hm
      have h2:=h i hi
      rw [rdR_at hi] at h2
      exact msgB_iff.1 h2
    · intro h j hj
      rw [rdR_at hj]
      exact msgB_iff.2 (h _ (List.getElem_mem hj))
  have hf : allN (fixB x.fixed) x.fixed.length = true ↔ FixP x.fixed:=by
    have ha:=adj_b (D:=rFix false) (f:=fun n=>n.index) (xs:=x.fixed)
    simp only [allN_iff,fixB,Bool.and_eq_true,decide_eq_true_eq,Bool.not_eq_true',decide_eq_false_iff_not]
    constructor
    · intro h
      refine ⟨fun n hn=>?_,ha.1 (fun j hj=>(h j hj).2)⟩
      obtain ⟨i,hi,rfl⟩:=List.getElem_of_mem hn
      have:=(h i hi).1
      rw [rdR_at hi] at this
      exact ⟨this.1,by omega⟩
    · rintro ⟨h1,h2⟩ j hj
      refine ⟨?_,ha.2 h2 j hj⟩
      rw [rdR_at hj]
      have:=h1 _ (List.getElem_mem hj)
      exact ⟨this.1,by omega⟩
  simp only [worldB,Bool.and_eq_true,decide_eq_true_eq,Bool.not_eq_true',decide_eq_false_iff_not,hr,hm,hf]
  constructor
  · rintro ⟨⟨⟨⟨⟨h1,h2⟩,h3⟩,h4⟩,h5⟩,h6⟩
    exact ⟨by omega,by omega,by omega,h4,h5,h6⟩
  · rintro ⟨h1,h2,h3,h4,h5,h6⟩
    exact ⟨⟨⟨⟨by omega,by omega⟩,h4⟩,h5⟩,h6⟩
theorem wp_set {x : Wld} {k : Nat} {r : Rcd} (h : WP x) (hk : k < x.recs.length) (hr : VR r) (hn : r.number = (k : Int) + 1) (ho : r.of = x.recs.length) : WP { x with recs:=x.recs.set k r }:=by
  refine ⟨by simpa using h.n1,by simpa using h.n5,h.fl,fun j hj=>?_,fun m hm=>by simpa using h.msg m hm,h.fix⟩
  simp only [List.length_set] at hj ⊢
  rw [List.getElem_set]
  split
  · rename_i e;subst e;exact ⟨hr,hn,ho⟩
  · exact h.recs j hj
theorem wp_setK {x : Wld} {k : Nat} {r : Rcd} (h : WP x) (hk : k < x.recs.length) (hr : VR r ∧ Kp x.recs[k] r) : WP { x with recs:=x.recs.set k r } :=
  wp_set h hk hr.1 (hr.2.number.trans (h.recs k hk).2.1) (hr.2.of.trans (h.recs k hk).2.2)
theorem fixp_ins {xs : List Fix} {k : Nat} {f : Fix} (h : FixP xs) (hf : (1 ≤ f.index ∧ f.index ≤ 60) ∧ f.text.size ≤ 100) (hlo : ∀ j (hj : j < xs.length),j < k → xs[j].index < f.index) (hhi : ∀ j (hj : j < xs.length),k ≤ j → f.index < xs[j].index) : FixP (xs.take k ++ [f] ++ xs.drop k):=by
  refine ⟨fun g hg=>?_,?_⟩
  · simp only [List.mem_append,List.mem_singleton] at hg
    rcases hg with (hg|rfl)|hg
    · exact h.all g (List.mem_of_mem_take hg)
    · exact hf
    · exact h.all g (List.mem_of_mem_drop hg)
  · rw [List.append_assoc,List.pairwise_append]
    refine ⟨h.sorted.take,?_,?_⟩
    · rw [List.singleton_append,List.pairwise_cons]
      refine ⟨fun g hg=>?_,h.sorted.drop⟩
      obtain ⟨j,hj,rfl⟩:=List.getElem_of_mem hg
      rw [List.length_drop] at hj
      rw [List.getElem_drop]
      exact hhi _ (by omega) (by omega)
    · intro a ha b hb
      obtain ⟨j,hj,rfl⟩:=List.getElem_of_mem ha
      rw [List.length_take] at hj
      rw [List.getElem_take]
      have hlt:=hlo j (by omega) (by omega)
      simp only [List.singleton_append,List.mem_cons] at hb
      rcases hb with rfl|hb
      · exact hlt
      · obtain ⟨q,hq,rfl⟩:=List.getElem_of_mem hb
        rw [List.length_drop] at hq
        rw [List.getElem_drop]
        have:=hhi (k + q) (by omega) (by omega)
        omega
theorem fix_hi {xs : List Fix} {k : Nat} {ix : Int} (h : FixP xs) (hk : ∀ hk : k < xs.length,ix < xs[k].index) : ∀ j (hj : j < xs.length),k ≤ j → ix < xs[j].index:=by
  intro j hj hkj
  have h1:=hk (by omega)
  rcases Nat.lt_or_ge k j with hlt|hge
  · have:=List.pairwise_iff_getElem.1 h.sorted k j (by omega) hj hlt;omega
  · obtain rfl : k = j:=by omega
    exact h1
theorem fix_len {xs : List Fix} (h : FixP xs) : xs.length ≤ 60:=by
  have key : ∀ k (hk : k < xs.length),(k : Int) + 1 ≤ xs[k].index:=by
    intro k
    induction k with
    | zero=>intro hk;have:=(h.all _ (List.getElem_mem hk)).1;omega
    | succ k ih =>
      intro hk
      have h1:=ih (by omega)
      have h2:=List.pairwise_iff_getElem.1 h.sorted k (k + 1) (by omega) hk (by omega)
      omega
  rcases Nat.lt_or_ge 60 xs.length with h1|h1
  · have h2:=key 60 h1
    have h3:=(h.all _ (List.getElem_mem h1)).1
    omega
  · exact h1
theorem wp_fixed {x : Wld} {fx : List Fix} (h : WP x) (hf : FixP fx) : WP { x with fixed:=fx }:=⟨h.n1,h.n5,h.fl,h.recs,h.msg,hf⟩
theorem VR.small {x : Rcd} (h : VR x) : SmallR x:=by
  have h1:=h.safe.slots.1
  have h2:=h.disk.slots.1
  have h3:=h.heldLen
  have h4:=h.wishes.len
  have h5:=nums_len h.yes h.of5
  have h6:=h.best.1
  have h7:=acks_len h.acks
  exact ⟨by omega,by omega,by omega,fun y hy=>by have:=((h.held y hy).1).slots.1;omega,by omega,by omega,by omega,by omega,fun y hy=>by have:=nums_len (h.acks.all y hy).2 h.of5;omega⟩
theorem WP.small {x : Wld} (h : WP x) : SmallW x:=by
  have h1:=h.n5
  have h2:=h.fl
  have h3:=fix_len h.fix
  refine ⟨by omega,fun y hy=>?_,by omega,fun y hy=>by have:=(h.msg y hy).slots.1;omega,by omega⟩
  obtain ⟨k,hk,rfl⟩:=List.getElem_of_mem hy
  exact (h.recs k hk).1.small
theorem vr_fall {x : Rcd} (h : VR x) : VR (fallL x) ∧ (fallL x).number = x.number ∧ (fallL x).of = x.of:=by
  rw [fallL,if_pos (validB_iff.2 h)]
  refine ⟨⟨h.of1,h.of5,h.n1,h.no,h.safe,h.safe,by simp,⟨by simp,by simp,by simp⟩,by simp,by simp,by simp,nums_nil _,slots_nil,acks_nil _,by simp,by simp,by simp,by simp,fun _ _=>⟨rfl,rfl,rfl,rfl,rfl,rfl⟩,fun _=>⟨⟨rfl,rfl,rfl,rfl,rfl,rfl⟩,rfl,rfl,rfl⟩⟩,rfl,rfl⟩
theorem vr_rise {x : Rcd} (h : VR x) : VR (riseL x) ∧ (riseL x).number = x.number ∧ (riseL x).of = x.of:=by
  rw [riseL,if_pos (validB_iff.2 h)]
  exact ⟨⟨h.of1,h.of5,h.n1,h.no,h.safe,h.disk,h.heldLen,h.wishes,h.h0,h.h1,h.held,h.yes,h.best,h.acks,h.one,h.lead,h.tryA,h.leadY,fun a b=>by obtain ⟨q1,q2,q3,q4,q5,q6⟩:=h.quiet a b;exact ⟨q1,q2,q3,q4,q5,q6⟩,by simp⟩,rfl,rfl⟩
theorem vr_wishL {x : Rcd} {t : ByteArray} (h : VR x) : VR (wishL x t) ∧ Kp x (wishL x t):=by
  rw [wishL,if_pos (validB_iff.2 h)]
  split
  · rename_i hu;exact ⟨vr_wish h hu,kp_wish x t⟩
  · exact ⟨h,Kp.refl x⟩
end Go.Proofs.YtampmicahnnebaaGreat.Sp
namespace Go.Proofs.YtampmicahnnebaaGreat.Sp
open Go Go.RowKit Go.ChangeMaps Go.MapKept
open Go.WideMaps (KeyLaw)
structure CntOk (P : Program) (k : TypeId) (es : Array MapEntry) (clock : Nat) (f : Value → Int) : Prop where
  lt : ∀ x ∈ es.toList,x.born < clock
  nd : (es.toList.map (·.born)).Nodup
  keys : ∀ x ∈ es.toList,∃ l,keyOf P k x.key = some l
  kd : (es.toList.map (·.key)).Nodup
  val : ∀ x ∈ es.toList,x.val = .int .i64 (f x.key)
  none : ∀ key,(∀ x ∈ es.toList,x.key ≠ key) → f key = 0
noncomputable def upd (f : Value → Int) (key : Value) (n : Int) : Value → Int:=fun v=>@ite _ (v = key) (Classical.propDecidable _) n (f v)
def cnt (P : Program) (k b : Nat) (f : Value → Int) : Asn where
  H:=fun W F=>F b ∧ ∃ es clock,W.heap[b]? = some (.map es clock) ∧ CntOk P k es clock f
  mono:=fun h ⟨h1,h2⟩=>⟨h _ h1,h2⟩
  move:=fun h ⟨h1,es,clock,h2,h3⟩=>⟨h1,es,clock,(h _ h1 (Array.getElem?_eq_some_iff.1 h2).1).trans h2,h3⟩
  bound:=fun ⟨h1,es,clock,h2,h3⟩=>⟨⟨h1,(Array.getElem?_eq_some_iff.1 h2).1⟩,es,clock,h2,h3⟩
def half (P : Program) (k t b : Nat) (f : Value → Int) (key : Value) (st : Nat) : Asn where
  H:=fun W F=>F b ∧ ∃ es clock,W.heap[b]? = some (.map es clock) ∧ (∀ w2 : World,w2.heap[b]? = some (.map es clock) → (Instr.lookup t (.map (some b)) key false).run P w2 = .ok (.int .i64 (f key)) w2) ∧ ∀ (w2 : World) (n : Int),w2.heap[b]? = some (.map es clock) → ∃ es' clock',(Instr.entryStore t (.map (some b)) (goInt st) (.int .i64 n)).run P w2 = .ok () (setBlock w2 b (.map es' clock')) ∧ CntOk P k es' clock' (upd f key n)
  mono:=fun h ⟨h1,h2⟩=>⟨h _ h1,h2⟩
  move:=fun h ⟨h1,es,clock,h2,h3⟩=>⟨h1,es,clock,(h _ h1 (Array.getElem?_eq_some_iff.1 h2).1).trans h2,h3⟩
  bound:=fun ⟨h1,es,clock,h2,h3⟩=>⟨⟨h1,(Array.getElem?_eq_some_iff.1 h2).1⟩,es,clock,h2,h3⟩
class CntAt (L : List Asn) (b : Nat) (P : outParam Program) (k : outParam Nat) (f : outParam (Value → Int)) : Prop where mem : ∃ R,L.Perm (cnt P k b f :: R)
instance CntAt.here {P : Program} {k b : Nat} {f : Value → Int} {L : List Asn} : CntAt (cnt P k b f :: L) b P k f:=⟨L,List.Perm.refl _⟩
instance (priority:=low) CntAt.there {P : Program} {k b : Nat} {f : Value → Int} {L : List Asn} {B : Asn} [h : CntAt L b P k f] : CntAt (B :: L) b P k f:=⟨by
  obtain ⟨R,h⟩:=h.mem
  exact ⟨B :: R,(List.Perm.cons B h).trans (List.Perm.swap _ B R)⟩⟩
class HalfAt (L : List Asn) (b : Nat) (P : outParam Program) (k t : outParam Nat) (f : outParam (Value → Int)) (key : outParam Value) (st : outParam Nat) : Prop where mem : ∃ R,L.Perm (half P k t b f key st :: R)
instance HalfAt.here {P : Program} {k t b : Nat} {f : Value → Int} {key : Value} {st : Nat} {L : List Asn} : HalfAt (half P k t b f key st :: L) b P k t f key st:=⟨L,List.Perm.refl _⟩
instance (priority:=low) HalfAt.there {P : Program} {k t b : Nat} {f : Value → Int} {key : Value} {st : Nat} {L : List Asn} {B : Asn} [h : HalfAt L b P k t f key st] : HalfAt (B :: L) b P k t f key st:=⟨by
  obtain ⟨R,h⟩:=h.mem
  exact ⟨B :: R,(List.Perm.cons B h).trans (List.Perm.swap _ B R)⟩⟩
section
variable {P : Program} {n : Nat} {ops : Array Oper} {Q : Exit → Act → World → Prop} {rest : List Oper} {E : Env} {w0 W : World} {L L' : List Asn}
variable {d b k e t st : Nat} {ty : TypeId} {pos : String} {after : Array Edge} {x y z : Operand} {f : Value → Int} {key : Value}
theorem Mem.cnt [hC : CntAt L b P k f] (hm : Mem w0 W L) : ∃ es clock,W.heap[b]? = some (.map es clock) ∧ CntOk P k es clock f:=by
  obtain ⟨R,hp⟩:=hC.mem
  obtain ⟨F,_,⟨_,h⟩,_⟩:=(hm.perm hp).sep
  exact h
def lookP (P : Program) (t b : Nat) (key : Value) (v : Int) : Asn where
  H:=fun W F=>F b ∧ ∃ es clock,W.heap[b]? = some (.map es clock) ∧ ∀ w2 : World,w2.heap[b]? = some (.map es clock) → (Instr.lookup t (.map (some b)) key false).run P w2 = .ok (.int .i64 v) w2
  mono:=fun h ⟨h1,h2⟩=>⟨h _ h1,h2⟩
  move:=fun h ⟨h1,es,clock,h2,h3⟩=>⟨h1,es,clock,(h _ h1 (Array.getElem?_eq_some_iff.1 h2).1).trans h2,h3⟩
  bound:=fun ⟨h1,es,clock,h2,h3⟩=>⟨⟨h1,(Array.getElem?_eq_some_iff.1 h2).1⟩,es,clock,h2,h3⟩
end
end Go.Proofs.YtampmicahnnebaaGreat.Sp
namespace Go.Proofs.YtampmicahnnebaaGreat.Sp
open Go Go.RowKit
set_option maxRecDepth 100000
instance : DecidableEq Slot:=fun a b=>if h : a.ballot = b.ballot ∧ a.text = b.text then isTrue (by cases a;cases b;simp_all) else isFalse (by rintro rfl;exact h ⟨rfl,rfl⟩)
theorem sk_laid : laidOutB Tryz.prog = true:=by kernel_rfl
theorem sk_type : Tryz.prog.keyTypeAt 2 91 = true:=by kernel_rfl
theorem sk_type2 : Tryz.prog.keyType 91 = true:=by kernel_rfl
theorem sk_wide : (match Tryz.prog.underlying 91 with|some (.array _ _)|some (.struct _)=>true|_=>false) = true:=by kernel_rfl
theorem sk_row : Nat.blt 91 Tryz.prog.types.size = true:=by kernel_rfl
theorem sk_cells : Tryz.prog.cellsOf 91 = 2:=by kernel_rfl
theorem sk_cellsI : Tryz.prog.cellsOf 3 = 1:=by kernel_rfl
theorem sk_cellsS : Tryz.prog.cellsOf 9 = 1:=by kernel_rfl
theorem slotLaw : WideMaps.KeyLaw Tryz.prog 91:=deep_law_laid sk_laid (m:=2) (Nat.le_of_ble_eq_true rfl) (Nat.lt_of_lt_of_le (Nat.lt_succ_self _) (Nat.le_of_ble_eq_true sk_row)) sk_type sk_wide
structure SlotK (s : Slot) : Prop where
  lo : -9223372036854775808 ≤ s.ballot
  hi : s.ballot ≤ 9223372036854775807
  txt : s.text.size ≤ maxLen
theorem slotLits (s : Slot) (h : SlotK s) (d : Nat) : Tryz.prog.keyLits (d + 2) 91 (encSlot s ()) = some [.int .i64 s.ballot,.string s.text.data.toList]:=by
  obtain ⟨h1,h2,h3⟩:=h
  have hw : (Lit.int .i64 s.ballot).wf = true:=WalkArith.wf_i64 ⟨h1,h2⟩
  unfold Program.keyLits
  simp only [Tryz.underlying91]
  simp [encSlot,sk_cells,Program.keyLits,sk_cellsI,sk_cellsS,Tryz.underlying3,Tryz.underlying9,hw,h3]
theorem slotKey (s : Slot) (h : SlotK s) : ∃ l,keyOf Tryz.prog 91 (.agg (encSlot s ()).toArray) = some l:=by
  have hrow : 91 < Tryz.prog.types.size:=Nat.lt_of_lt_of_le (Nat.lt_succ_self _) (Nat.le_of_ble_eq_true sk_row)
  obtain ⟨d,hd⟩ : ∃ d,Tryz.prog.types.size + 1 = d + 2:=⟨Tryz.prog.types.size - 1,by omega⟩
  unfold keyOf
  simp only [Tryz.underlying91,sk_type2,hd]
  simp [Value.formed,Tryz.underlying91,sk_cells,Value.cells,slotLits s h d,encSlot]
  exact ⟨_,_,slotLits s h d,rfl⟩
theorem run_slotEq (s u : Slot) (hs : SlotK s) (hu : SlotK u) (W : World) : (Op.equal 91 (.agg (encSlot s ()).toArray) (.agg (encSlot u ()).toArray)).run Tryz.prog W = .ok (decide (s = u)) W:=by
  obtain ⟨ls,h1⟩:=slotKey s hs
  obtain ⟨lu,h2⟩:=slotKey u hu
  obtain ⟨r,hr,hiff⟩:=run_equal_deep W (m:=2) (Nat.le_of_ble_eq_true rfl) sk_type sk_wide h1 h2
  rw [hr]
  have : r = decide (s = u):=by
    rw [Bool.eq_iff_iff,hiff,decide_eq_true_eq]
    constructor
    · intro e
      subst e
      have:=slotLaw.inj h1 h2
      simp only [encSlot,Value.agg.injEq] at this
      cases s;cases u;simp_all
    · rintro rfl
      rw [h1] at h2
      exact Option.some.inj h2
  rw [this]
theorem p_slotEq {E : Env} {x y : Operand} {yt : TypeId} {s u : Slot} (hs : SlotK s) (hu : SlotK u) (hx : ev E x = some (.agg (encSlot s ()).toArray)) (hy : ev E y = some (.agg (encSlot u ()).toArray)) : PV Tryz.prog E (.binOp .eql 91 x y yt) (.bool (decide (s = u))):=⟨fun n a ha dst ty pos after gd W=>by
  have h:=run_slotEq s u hs hu W
  have h2 : (binOp .eql 91 (.agg (encSlot s ()).toArray) (.agg (encSlot u ()).toArray)).run Tryz.prog W = .ok (.bool (decide (s = u))) W:=by
    show ((Op.equal 91 _ _) >>= fun r=>pure (Value.bool r) : Sem Value).run Tryz.prog W = _
    rw [Sem.run_bind,h,Result.andThen_ok,Sem.run_pure]
  simp [execOp,ha.eval hx,ha.eval hy,eqGuard,h2]⟩
end Go.Proofs.YtampmicahnnebaaGreat.Sp
namespace Go.Proofs.YtampmicahnnebaaGreat.Sp
open Go Go.RowKit
set_option maxRecDepth 10000
set_option maxHeartbeats 1000000
variable {w0 W : World} {L : List Asn}
def slA (x : Wld) (ix : Int) (j : Nat) : Option Slot:=if 1 ≤ ix ∧ ix ≤ (rdR (rRcw false) x.recs j).ss.length then some (rdR (rSlot false) (rdR (rRcw false) x.recs j).ss (ix - 1)) else none
theorem slA_in {x : Wld} {ix : Int} {j : Nat} (hj : j < x.recs.length) (h1 : 1 ≤ ix) (h2 : ix ≤ x.recs[j].ss.length) : slA x ix j = some (rdR (rSlot false) x.recs[j].ss (ix - 1)):=by rw [slA,rdR_at hj,if_pos ⟨h1,h2⟩]
theorem slA_out {x : Wld} {ix : Int} {j : Nat} (hj : j < x.recs.length) (h : ¬ (1 ≤ ix ∧ ix ≤ x.recs[j].ss.length)) : slA x ix j = none:=by rw [slA,rdR_at hj,if_neg h]
def cntA (x : Wld) (ix : Int) (s : Slot) : Nat → Nat
  | 0=>0
  | k + 1=>cntA x ix s k + if slA x ix k = some s then 1 else 0
theorem cntA_le (x : Wld) (ix : Int) (s : Slot) : ∀ k,cntA x ix s k ≤ k
  | 0=>Nat.le_refl _
  | k + 1=>by have:=cntA_le x ix s k;rw [cntA];split <;> omega
theorem cntA_two {x : Wld} {ix : Int} {s u : Slot} (h : s ≠ u) : ∀ k,cntA x ix s k + cntA x ix u k ≤ k
  | 0=>Nat.le_refl _
  | k + 1=>by
    have:=cntA_two (x:=x) (ix:=ix) h k
    rw [cntA,cntA]
    by_cases h1 : slA x ix k = some s
    · have h2 : ¬ slA x ix k = some u:=fun e=>h (Option.some.inj (h1.symm.trans e))
      rw [if_pos h1,if_neg h2];omega
    · rw [if_neg h1];split <;> omega
theorem cntA_pos {x : Wld} {ix : Int} {s : Slot} : ∀ {k},0 < cntA x ix s k → ∃ j,j < k ∧ slA x ix j = some s
  | k + 1,h=>by
    rw [cntA] at h
    by_cases h1 : slA x ix k = some s
    · exact ⟨k,by omega,h1⟩
    · rw [if_neg h1] at h
      obtain ⟨j,hj,e⟩:=cntA_pos (k:=k) (by omega)
      exact ⟨j,by omega,e⟩
def MajS (x : Wld) (ix : Int) (s : Slot) : Prop:=0 < s.ballot ∧ x.recs.length < 2 * cntA x ix s x.recs.length
structure IsMaj (x : Wld) (ix : Int) (t : ByteArray) (b : Bool) : Prop where
  yes : b = true → ∃ s,MajS x ix s ∧ t = s.text
  no : b = false → t = ⟨#[]⟩ ∧ ∀ s,¬ MajS x ix s
theorem MajS_one {x : Wld} {ix : Int} {s u : Slot} (hs : MajS x ix s) (hu : MajS x ix u) : s = u:=by
  by_cases h : s = u
  · exact h
  · have:=cntA_two (x:=x) (ix:=ix) h x.recs.length
    have:=hs.2
    have:=hu.2
    omega
theorem IsMaj.one {x : Wld} {ix : Int} {t t' : ByteArray} {b b' : Bool} (h : IsMaj x ix t b) (h' : IsMaj x ix t' b') : t = t' ∧ b = b':=by
  cases b <;> cases b'
  · exact ⟨(h.no rfl).1.trans (h'.no rfl).1.symm,rfl⟩
  · obtain ⟨s,hs,_⟩:=h'.yes rfl;exact absurd hs ((h.no rfl).2 s)
  · obtain ⟨s,hs,_⟩:=h.yes rfl;exact absurd hs ((h'.no rfl).2 s)
  · obtain ⟨s,hs,e⟩:=h.yes rfl
    obtain ⟨u,hu,e'⟩:=h'.yes rfl
    rw [e,e',MajS_one hs hu];exact ⟨rfl,rfl⟩
def SafeP (x : Wld) : Prop:=∀ r ∈ x.recs,∀ s ∈ r.ss,SlotP s
theorem safe_at {x : Wld} (h : SafeP x) {j : Nat} (hj : j < x.recs.length) {ix : Int} (h1 : 1 ≤ ix) (h2 : ix ≤ x.recs[j].ss.length) : SlotP (rdR (rSlot false) x.recs[j].ss (ix - 1)):=by
  rw [rdR_int (by omega) (by omega)]
  exact h _ (List.getElem_mem hj) _ (List.getElem_mem _)
theorem slotK_of {s : Slot} (h : SlotP s) : SlotK s:=⟨by have:=h.lo;omega,by have:=h.hi;omega,by have:=h.txt;unfold maxLen;omega⟩
theorem specMaj (x : Wld) (i : AtW) (ix : Int) (h : RoW false w0 x i) (hn : x.recs.length ≤ 1048576) (hs : SafeP x) (HM : Mem w0 W L) : Calls Tryz.prog 123 #[.agg (encW x i).toArray,.int .i64 ix] W fun e W'=>∃ t b,e = .returned (.tuple #[.string t,.bool b]) ∧ IsMaj x ix t b ∧ Mem w0 W' L:=by
  refine enter Tryz.func123 rfl Tryz.ntmps123 [(0,.agg (encW x i).toArray),(1,_)] rfl ⟨rfl,rfl,trivial⟩ ?_
  have hr:=h.recs
  unfold encW
  replace HM:=HM.rod hr
  repeat (first|refine Y ?_|(refine qg ?_;clear HM;intro g W1 HM))
  refine c_loop (σ:=Nat) (fun k=>[(1,.int .i64 ix),(2,.pointer (some ⟨g,0,none⟩)),(6,.int .i64 k)]) (fun k W1=>k ≤ x.recs.length ∧ (∀ j s,j < k → slA x ix j = some s → s.ballot ≠ 0 → ¬ x.recs.length < 2 * cntA x ix s x.recs.length) ∧ Mem w0 W1 _) (fun k=>x.recs.length - k) 0 U ⟨Nat.zero_le _,fun j s hj=>by omega,HM⟩ ?_
  clear HM
  rintro k W1 ⟨hk,hp,HM⟩
  by_cases hlt : k < x.recs.length
  rotate_left
  · repeat refine Y ?_
    obtain rfl : k = x.recs.length:=by omega
    refine ret_two rfl rfl rfl ⟨_,_,rfl,⟨(fun h=>by cases h),fun _=>⟨rfl,fun s hm=>?_⟩⟩,HM.sb⟩
    obtain ⟨j,hj,e⟩:=cntA_pos (x:=x) (ix:=ix) (s:=s) (k:=x.recs.length) (by have:=hm.2;omega)
    exact hp j s hj e (by have:=hm.1;omega) hm.2
  obtain ⟨cc,⟨j,rfl,hh⟩,HM⟩:=HM.roOpen (A:=i.b0.1) k hlt
  have hss:=hh.ro.ss
  unfold encRcd at HM
  by_cases c1 : ix < 1
  · have hso:=slA_out (ix:=ix) hlt (by omega)
    repeat (first|refine Y ?_|(refine qs ?_;clear HM;intro W1 HM)|(refine qg ?_;clear HM;intro g W1 HM))
    exact n_round (k + 1) U ⟨by omega,fun q s hq e=>by
      by_cases hqk : q = k
      · subst hqk;rw [hso] at e;cases e
      · exact hp q s (by omega) e,HM.sb⟩ (by omega)
  by_cases c2 : (x.recs[k].ss.length : Int) < ix
  · have hso:=slA_out (ix:=ix) hlt (by omega)
    repeat (first|refine Y ?_|(refine qs ?_;clear HM;intro W1 HM)|(refine qg ?_;clear HM;intro g W1 HM))
    exact n_round (k + 1) U ⟨by omega,fun q s hq e=>by
      by_cases hqk : q = k
      · subst hqk;rw [hso] at e;cases e
      · exact hp q s (by omega) e,HM.sb⟩ (by omega)
  have hsi:=slA_in (ix:=ix) hlt (by omega) (by omega)
  have hsp:=safe_at hs hlt (ix:=ix) (by omega) (by omega)
  have hss0:=hss.max
  replace HM:=HM.rod hss
  by_cases c3 : (rdR (rSlot false) x.recs[k].ss (ix - 1)).ballot = 0
  · repeat (first|refine Y ?_|(refine qs ?_;clear HM;intro W1 HM)|(refine qg ?_;clear HM;intro g W1 HM))
    exact n_round (k + 1) U ⟨by omega,fun q s hq e=>by
      by_cases hqk : q = k
      · subst hqk;rw [hsi] at e;cases e;exact fun h=>absurd c3 h
      · exact hp q s (by omega) e,HM.sb⟩ (by omega)
  repeat (first|refine Y ?_|(refine qs ?_;clear HM;intro W1 HM)|(refine qg ?_;clear HM;intro g W1 HM))
  have hcz : cntA x ix (rdR (rSlot false) x.recs[k].ss (ix - 1)) 0 = 0:=rfl
  refine c_loop (σ:=Nat) (fun m=>[(1,.int .i64 ix),(2,.pointer (some ⟨_,0,none⟩)),(6,.int .i64 k),(7,.pointer (some ⟨g,0,none⟩)),(8,.int .i64 (cntA x ix (rdR (rSlot false) x.recs[k].ss (ix - 1)) m)),(9,.int .i64 m)]) (fun m W1=>m ≤ x.recs.length ∧ Mem w0 W1 _) (fun m=>x.recs.length - m) 0 U ⟨Nat.zero_le _,HM⟩ ?_
  clear HM
  rintro m W1 ⟨hm,HM⟩
  have hcl:=cntA_le x ix (rdR (rSlot false) x.recs[k].ss (ix - 1)) m
  by_cases hml : m < x.recs.length
  · have hcs : cntA x ix (rdR (rSlot false) x.recs[k].ss (ix - 1)) (m + 1) = cntA x ix (rdR (rSlot false) x.recs[k].ss (ix - 1)) m + if slA x ix m = some (rdR (rSlot false) x.recs[k].ss (ix - 1)) then 1 else 0:=rfl
    obtain ⟨cc,⟨j2,rfl,hh2⟩,HM⟩:=HM.roOpen (A:=i.b0.1) m hml
    have hss2:=hh2.ro.ss
    have hss20:=hss2.max
    unfold encRcd at HM
    replace HM:=HM.rod hss2
    by_cases d1 : ix ≤ x.recs[m].ss.length
    rotate_left
    · have hso:=slA_out (ix:=ix) hml (by omega)
      rw [hso] at hcs
      simp only [reduceCtorEq,if_false] at hcs
      repeat (first|(refine gR ?_;refine d_start [] [(0,0),(0,1),(1,2),(0,3),(0,4),(0,5),(0,6),(0,8),(0,9),(0,12),(0,14),(0,15),(1,7),(0,10),(1,11),(1,13),(0,16),(1,17),(0,18),(0,19)] HM (by kernel_rfl) (by kernel_rfl) qq (by kernel_rfl) rfl ?_;intro HQ HS W1 HM1;replace HM:=HM1;clear HM1)|refine Y ?_|(refine qs ?_;clear HM;intro W1 HM)|(refine qg ?_;clear HM;intro g W1 HM))
      exact n_round (m + 1) U ⟨by omega,HM.sb⟩ (by omega)
    have hsp2:=safe_at hs hml (ix:=ix) (by omega) d1
    rw [slA_in hml (by omega) d1] at hcs
    have hk1:=slotK_of hsp
    have hk2:=slotK_of hsp2
    by_cases d2 : rdR (rSlot false) x.recs[m].ss (ix - 1) = rdR (rSlot false) x.recs[k].ss (ix - 1)
    · rw [d2,if_pos rfl] at hcs
      repeat (first|(refine gGP ?_;refine gGB ?_;refine gp (p_slotEq hk2 hk1 rfl rfl) ?_)|(refine gR ?_;refine d_start [] [(0,0),(0,1),(1,2),(0,3),(0,4),(0,5),(0,6),(0,8),(0,9),(0,12),(0,14),(0,15),(1,7),(0,10),(1,11),(1,13),(0,16),(1,17),(0,18),(0,19)] HM (by kernel_rfl) (by kernel_rfl) qq (by kernel_rfl) rfl ?_;intro HQ HS W1 HM1;replace HM:=HM1;clear HM1)|refine Y ?_|(refine qs ?_;clear HM;intro W1 HM)|(refine qg ?_;clear HM;intro g W1 HM))
      exact n_round (m + 1) U ⟨by omega,HM.sb⟩ (by omega)
    · rw [if_neg (fun e=>d2 (Option.some.inj e))] at hcs
      repeat (first|(refine gGP ?_;refine gGB ?_;refine gp (p_slotEq hk2 hk1 rfl rfl) ?_)|(refine gR ?_;refine d_start [] [(0,0),(0,1),(1,2),(0,3),(0,4),(0,5),(0,6),(0,8),(0,9),(0,12),(0,14),(0,15),(1,7),(0,10),(1,11),(1,13),(0,16),(1,17),(0,18),(0,19)] HM (by kernel_rfl) (by kernel_rfl) qq (by kernel_rfl) rfl ?_;intro HQ HS W1 HM1;replace HM:=HM1;clear HM1)|refine Y ?_|(refine qs ?_;clear HM;intro W1 HM)|(refine qg ?_;clear HM;intro g W1 HM))
      exact n_round (m + 1) U ⟨by omega,HM.sb⟩ (by omega)
  obtain rfl : m = x.recs.length:=by omega
  by_cases f1 : (x.recs.length : Int) < 2 * (cntA x ix (rdR (rSlot false) x.recs[k].ss (ix - 1)) x.recs.length : Int)
  · repeat refine Y ?_
    refine ret_two rfl rfl rfl ⟨_,_,rfl,⟨fun _=>⟨_,⟨by have:=hsp.lo;omega,by omega⟩,rfl⟩,fun h=>by cases h⟩,HM.sb⟩
  · repeat refine Y ?_
    exact n_round (k + 1) U ⟨by omega,fun q s hq e=>by
      by_cases hqk : q = k
      · subst hqk;rw [hsi] at e;cases e;exact fun _=>by omega
      · exact hp q s (by omega) e,HM.sb⟩ (by omega)
end Go.Proofs.YtampmicahnnebaaGreat.Sp
namespace Go.Proofs.YtampmicahnnebaaGreat.Sp
open Go Go.RowKit
set_option maxRecDepth 10000
set_option maxHeartbeats 2000000
variable {w0 W : World} {L : List Asn}
theorem tickOut_len {x : Rcd} (h : VR x) (hu : x.up = true) : (tickOut x).length ≤ 1000:=by
  obtain ⟨a1,k1⟩:=vr_tick1 h hu
  obtain ⟨a2,k2⟩:=vr_tick2 a1
  have hh:=h.heldLen
  unfold tickOut
  split
  · rename_i c
    obtain ⟨hv3,hl3⟩:=vr_lead1 a2 c
    have b1:=accOut_len (lead1 (tick2 (tick1 x))) ((lead1 (tick2 (tick1 x))).ds.length - (lead1 (tick2 (tick1 x))).dk.toNat) (lead1 (tick2 (tick1 x))).dk.toNat (othL (lead1 (tick2 (tick1 x))) x.held ⟨5,0,0,(lead1 (tick2 (tick1 x))).ballot,0,(lead1 (tick2 (tick1 x))).dk,⟨#[]⟩,[]⟩)
    have b2:=othersL_len (lead1 (tick2 (tick1 x))).number ⟨5,0,0,(lead1 (tick2 (tick1 x))).ballot,0,(lead1 (tick2 (tick1 x))).dk,⟨#[]⟩,[]⟩ (lead1 (tick2 (tick1 x))).of.toNat 1 x.held
    have b3:=hv3.of5
    have b4:=hv3.disk.slots.1
    have b5 : ((lead1 (tick2 (tick1 x))).ds.length - (lead1 (tick2 (tick1 x))).dk.toNat) * (lead1 (tick2 (tick1 x))).of.toNat ≤ 60 * 5:=Nat.mul_le_mul (by omega) (by omega)
    unfold leadOut
    unfold othL at b1 ⊢
    omega
  · omega
theorem recTickO_len {x : Rcd} (h : validB x = true) : (recTickO x).length ≤ 1048576:=by
  unfold recTickO
  rw [if_pos h]
  split
  · rename_i hu;have:=tickOut_len (validB_iff.1 h) hu;omega
  · simp
theorem specRecTick (x : Rcd) (i : AtRcd) (h : RoRcd false w0 x i) (hn : SmallR x) (HM : Mem w0 W L) : Calls Tryz.prog 6 #[.agg (encRcd x i).toArray] W fun e W'=>∃ j A c,e = .returned (.tuple #[.agg (encRcd (recTickL x) j).toArray,.slice A (recTickO x).length c]) ∧ Mem w0 W' (own (tMsg 91) 40 A c (recTickO x) :: (partRcd 91 40 9 3 66 (recTickL x) j ++ L)):=by
  unfold recTickL recTickO
  by_cases hv : validB x = true
  · rw [if_pos hv,if_pos hv]
    by_cases hu : x.up = true
    · rw [if_pos hu,if_pos hu];exact tickS x i h hn hv hu HM
    · rw [if_neg hu,if_neg hu];exact tick_down x i h hn hv (by simpa using hu) HM
  · rw [if_neg hv,if_neg hv];exact tick_off x i h hn (by simpa using hv) HM
theorem specRecTake (x : Rcd) (i : AtRcd) (m : Msg) (am : At) (h : RoRcd false w0 x i) (hn : SmallR x) (hr : RoRow (rSlot false) w0 am.1 m.slots) (hmn : m.slots.length ≤ 1048576) (HM : Mem w0 W L) : Calls Tryz.prog 14 #[.agg (encRcd x i).toArray,.agg (encMsg m am).toArray] W fun e W'=>∃ j,e = .returned (.agg (encRcd (recTakeL x m) j).toArray) ∧ Mem w0 W' (partRcd 91 40 9 3 66 (recTakeL x m) j ++ L):=by
  refine enter Tryz.func14 rfl Tryz.ntmps14 [(0,.agg (encRcd x i).toArray),(1,.agg (encMsg m am).toArray)] rfl ⟨rfl,rfl,trivial⟩ ?_
  have h0:=h
  unfold encRcd encMsg
  by_cases hv : validB x = true
  rotate_left
  · simp only [Bool.not_eq_true] at hv
    repeat (first|refine Y ?_|(refine qs ?_;clear HM;intro W1 HM)|(refine qf ?_;go_at_call 9;refine (specValid x i h0 hn HM).mono ?_;rintro e W1 ⟨rfl,HM1⟩;refine ⟨_,rfl,?_⟩;replace HM:=HM1;clear HM1)|(refine qg ?_;clear HM;intro g W1 HM))
    have HM2:=HM.zeroR 91 40 9 3 66
    simp only [partRcd,zeroR,atZ,List.cons_append,List.nil_append] at HM2
    have e : recTakeL x m = zeroR:=by simp [recTakeL,hv]
    rw [e]
    exact ret_cell HM2 rfl rfl rfl ⟨atZ,rfl,by simp only [partRcd,zeroR,atZ,List.cons_append,List.nil_append];exact HM2.sb⟩
  by_cases hu : x.up = true
  rotate_left
  · simp only [Bool.not_eq_true] at hu
    have e : recTakeL x m = x:=by simp [recTakeL,hv,hu]
    repeat (first|refine Y ?_|(refine qs ?_;clear HM;intro W1 HM)|(refine qf ?_;first|(go_at_call 9;refine (specValid x i h0 hn HM).mono ?_;rintro e W1 ⟨rfl,HM1⟩;refine ⟨_,rfl,?_⟩;replace HM:=HM1;clear HM1)|(go_at_call 24;refine (l2Copy_c x _ h0 hn HM).mono ?_;rintro e W1 ⟨j2,rfl,HM1⟩;refine ⟨_,rfl,?_⟩;replace HM:=HM1;clear HM1;simp only [partRcd,List.cons_append,List.nil_append] at HM;simp only [encRcd]))|(refine qg ?_;clear HM;intro g W1 HM))
    rw [e]
    exact ret_cell HM rfl rfl rfl ⟨j2,rfl,by simp only [boxR,partRcd,List.cons_append,List.nil_append];exact HM.sb⟩
  by_cases hm : msgB m x.of = true
  rotate_left
  · simp only [Bool.not_eq_true] at hm
    have e : recTakeL x m = x:=by simp [recTakeL,hv,hm]
    repeat (first|refine Y ?_|(refine qs ?_;clear HM;intro W1 HM)|(refine qf ?_;first|(go_at_call 9;refine (specValid x i h0 hn HM).mono ?_;rintro e W1 ⟨rfl,HM1⟩;refine ⟨_,rfl,?_⟩;replace HM:=HM1;clear HM1)|(go_at_call 24;refine (l2Copy_c x _ h0 hn HM).mono ?_;rintro e W1 ⟨j2,rfl,HM1⟩;refine ⟨_,rfl,?_⟩;replace HM:=HM1;clear HM1;simp only [partRcd,List.cons_append,List.nil_append] at HM;simp only [encRcd])|(go_at_call 42;refine (specMsg m am x.of hr HM).mono ?_;rintro e W1 ⟨rfl,HM1⟩;refine ⟨_,rfl,?_⟩;replace HM:=HM1;clear HM1))|(refine qg ?_;clear HM;intro g W1 HM))
    rw [e]
    exact ret_cell HM rfl rfl rfl ⟨j2,rfl,by simp only [boxR,partRcd,List.cons_append,List.nil_append];exact HM.sb⟩
  by_cases ht : m.to = x.number
  rotate_left
  · have e : recTakeL x m = x:=by simp [recTakeL,hv,ht]
    repeat (first|refine Y ?_|(refine qs ?_;clear HM;intro W1 HM)|(refine qf ?_;first|(go_at_call 9;refine (specValid x i h0 hn HM).mono ?_;rintro e W1 ⟨rfl,HM1⟩;refine ⟨_,rfl,?_⟩;replace HM:=HM1;clear HM1)|(go_at_call 24;refine (l2Copy_c x _ h0 hn HM).mono ?_;rintro e W1 ⟨j2,rfl,HM1⟩;refine ⟨_,rfl,?_⟩;replace HM:=HM1;clear HM1;simp only [partRcd,List.cons_append,List.nil_append] at HM;simp only [encRcd])|(go_at_call 42;refine (specMsg m am x.of hr HM).mono ?_;rintro e W1 ⟨rfl,HM1⟩;refine ⟨_,rfl,?_⟩;replace HM:=HM1;clear HM1))|(refine qg ?_;clear HM;intro g W1 HM))
    rw [e]
    exact ret_cell HM rfl rfl rfl ⟨j2,rfl,by simp only [boxR,partRcd,List.cons_append,List.nil_append];exact HM.sb⟩
  have e : recTakeL x m = takeL x m:=by simp [recTakeL,hv,hu,hm,ht]
  have hV:=validB_iff.1 hv
  have hmP:=msgB_iff.1 hm
  have hT:=vr_take hV hu hmP
  rw [e]
  repeat (first|(refine gR ?_;refine d_start [3,4,5] [(1,0),(1,1),(2,2),(3,3),(3,4),(3,5)] HM (by kernel_rfl) (by kernel_rfl) qq (by kernel_rfl) rfl ?_;intro HQ HS W1 HM1;replace HM:=HM1;clear HM1)|refine Y ?_|(refine qs ?_;clear HM;intro W1 HM)|(refine qf ?_;first|(go_at_call 9;refine (specValid x i h0 hn HM).mono ?_;rintro e W1 ⟨rfl,HM1⟩;refine ⟨_,rfl,?_⟩;replace HM:=HM1;clear HM1)|(go_at_call 42;refine (specMsg m am x.of hr HM).mono ?_;rintro e W1 ⟨rfl,HM1⟩;refine ⟨_,rfl,?_⟩;replace HM:=HM1;clear HM1)|(go_at_call 53;refine (l2Message_c m am hr hmn HM).mono ?_;rintro e W1 ⟨A3,c3,rfl,HM1⟩;refine ⟨_,rfl,?_⟩;replace HM:=HM1;clear HM1)|(go_at_call 56;have HMp:=(show Mem w0 _ (partRcd 91 40 9 3 66 x j2 ++ _) from pk_rec HM);refine (takeS x j2 m (A3,c3) hV hu hmP (b:=false) (fun W' h=>by obtain ⟨F1,hF1⟩:=h.own (A:=A3);exact ro_slots hF1) HMp).mono ?_;clear HMp;rintro e W1 ⟨j3,rfl,HM1⟩;refine ⟨_,rfl,?_⟩;replace HM:=HM1;clear HM1)|(go_at_call 24;first|((with_reducible refine (l2Copy_l x _ h0 hn HM).mono ?_);rintro e W1 ⟨j2,rfl,HM1⟩;refine ⟨_,rfl,?_⟩;replace HM:=HM1;clear HM1;simp only [partRcd,List.cons_append,List.nil_append] at HM;simp only [encRcd])|(have hro:=ro_parts HM;refine (l2Copy_c (takeL x m) _ hro (vr_small hT.1) (Mem.start _)).mono ?_;clear hro;rintro e W1 ⟨j4,rfl,HM1⟩;refine ⟨_,rfl,?_⟩;replace HM:=HM.join HM1;clear HM1;simp only [partRcd,List.cons_append,List.nil_append] at HM;simp only [encRcd])))|(refine qg ?_;clear HM;intro g W1 HM))
  exact ret_cell HM rfl rfl rfl ⟨j4,rfl,by simp only [boxR,partRcd,List.cons_append,List.nil_append];exact HM.sb⟩
end Go.Proofs.YtampmicahnnebaaGreat.Sp
