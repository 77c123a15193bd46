/- hold, quiet, follow, slot, of both sides. No condition. -/
import Derived.Test.YtampmicahnnebaaGreatRecClaim3
import Derived.Test.YtampmicahnnebaaGreatRecClaim2
import Derived.Test.YtampmicahnnebaaGreatRecClaim1
import Derived.Laws.BytesArg
set_option linter.unusedVariables false
set_option linter.unusedSimpArgs false
namespace Go.Proofs.YtampmicahnnebaaGreat.Sp
open Go Go.RowKit
set_option maxRecDepth 10000
set_option maxHeartbeats 1000000
variable {w0 W : World} {L : List Asn}
theorem pk_hold {eS eM eT eI eA T g : Nat} {x : Rcd} {i : AtRcd} {m : Msg} {am : At} {L Rm R R0 R1 R2 R3 R4 R5 R6 : List Asn} [hm : Pk L (own tSlot eS am.1 am.2 m.slots) Rm] [hb : Pk Rm (box g T [.int .i64 x.number,.int .i64 x.of,.bool x.up,.int .i64 x.sp,.int .i64 x.sk,.slice i.a0.1 x.ss.length i.a0.2,.int .i64 x.dp,.int .i64 x.dk,.slice i.a1.1 x.ds.length i.a1.2,.slice i.a2.1 x.held.length i.a2.2,.slice i.a3.1 x.wishes.length i.a3.2,.bool x.lead,.bool x.trying,.int .i64 x.ballot,.slice i.a4.1 x.yes.length i.a4.2,.slice i.a5.1 x.best.length i.a5.2,.slice i.a6.1 x.acks.length i.a6.2,.int .i64 x.heard]) R] [h0 : Pk R (own tSlot eS i.a0.1 i.a0.2 x.ss) R0] [h1 : Pk R0 (own tSlot eS i.a1.1 i.a1.2 x.ds) R1] [h2 : Pk R1 (own (tMsg eS) eM i.a2.1 i.a2.2 x.held) R2] [h3 : Pk R2 (own tStr eT i.a3.1 i.a3.2 x.wishes) R3] [h4 : Pk R3 (own tInt eI i.a4.1 i.a4.2 x.yes) R4] [h5 : Pk R4 (own tSlot eS i.a5.1 i.a5.2 x.best) R5] [h6 : Pk R5 (own (tAck eI) eA i.a6.1 i.a6.2 x.acks) R6] (h : Mem w0 W L) : Mem w0 W (boxR eS eM eT eI eA T g x i ++ own tSlot eS am.1 am.2 m.slots :: R6):=by
  refine h.perm (hm.out.trans ?_)
  have q0:=perm_in hb.out [] (List.Perm.refl Rm)
  have q1:=perm_in h0.out _ q0
  have q2:=perm_in h1.out _ q1
  have q3:=perm_in h2.out _ q2
  have q4:=perm_in h3.out _ q3
  have q5:=perm_in h4.out _ q4
  have q6:=perm_in h5.out _ q5
  exact (List.Perm.cons _ (perm_in h6.out _ q6)).trans (List.perm_middle (a:=own tSlot eS am.1 am.2 m.slots)).symm
theorem pk_holds {eS eM eT eI eA : Nat} {x : Rcd} {i : AtRcd} {m : Msg} {am : At} {L R R0 R1 R2 R3 R4 R5 R6 : List Asn} [hm : Pk L (own tSlot eS am.1 am.2 m.slots) R] [h0 : Pk R (own tSlot eS i.a0.1 i.a0.2 x.ss) R0] [h1 : Pk R0 (own tSlot eS i.a1.1 i.a1.2 x.ds) R1] [h2 : Pk R1 (own (tMsg eS) eM i.a2.1 i.a2.2 x.held) R2] [h3 : Pk R2 (own tStr eT i.a3.1 i.a3.2 x.wishes) R3] [h4 : Pk R3 (own tInt eI i.a4.1 i.a4.2 x.yes) R4] [h5 : Pk R4 (own tSlot eS i.a5.1 i.a5.2 x.best) R5] [h6 : Pk R5 (own (tAck eI) eA i.a6.1 i.a6.2 x.acks) R6] (h : Mem w0 W L) : Mem w0 W (partRcd eS eM eT eI eA x i ++ own tSlot eS am.1 am.2 m.slots :: R6):=by
  refine h.perm (hm.out.trans ?_)
  have q1:=perm_in h0.out [] (List.Perm.refl R)
  have q2:=perm_in h1.out _ q1
  have q3:=perm_in h2.out _ q2
  have q4:=perm_in h3.out _ q3
  have q5:=perm_in h4.out _ q4
  have q6:=perm_in h5.out _ q5
  exact (List.Perm.cons _ (perm_in h6.out _ q6)).trans (List.perm_middle (a:=own tSlot eS am.1 am.2 m.slots)).symm
theorem holdM (x : Rcd) (i : AtRcd) (g : Nat) (m : Msg) (am : At) (HM : Mem w0 W (boxR 91 40 9 3 66 31 g x i ++ own tSlot 91 am.1 am.2 m.slots :: L)) : Calls Tryz.prog 78 #[.pointer (some ⟨g,0,none⟩),.agg (encMsg m am).toArray] W fun e W'=>∃ j,e = .returned (.tuple #[]) ∧ Mem w0 W' (boxR 91 40 9 3 66 31 g (holdL x m) j ++ L):=by
  refine enter Tryz.func78 rfl Tryz.ntmps78 [(0,_),(1,.agg (encMsg m am).toArray)] rfl ⟨rfl,rfl,trivial⟩ ?_
  unfold encMsg
  simp only [boxR,partRcd,List.cons_append,List.nil_append] at HM
  by_cases c1 : (x.held.length : Int) < 400
  · have e : holdL x m = { x with held:=x.held ++ [{ m with frm:=x.number }] }:=if_pos c1
    repeat (first|(refine gR ?_;refine d_start [7,10] [(0,0),(0,1),(0,2),(0,3),(1,4),(1,5),(2,6),(3,7),(0,8),(0,9),(3,10)] HM (by kernel_rfl) (by kernel_rfl) qq (by kernel_rfl) rfl ?_;intro HQ HS W1 HM1;replace HM:=HM1;clear HM1)|refine Y ?_|(refine qs ?_;clear HM;intro W1 HM)|(refine qa ?_;clear HM;intro A1 c1 W1 HM)|(refine qg ?_;clear HM;intro g W1 HM))
    rw [e]
    exact end_none rfl ⟨⟨i.a0,i.a1,(A1,c1),i.a3,i.a4,i.a5,i.a6⟩,rfl,by simp only [boxR,partRcd,List.cons_append,List.nil_append];exact HM.sb⟩
  · have e : holdL x m = x:=if_neg c1
    repeat (first|refine Y ?_|(refine qs ?_;clear HM;intro W1 HM)|(refine qg ?_;clear HM;intro g W1 HM))
    rw [e]
    exact end_none rfl ⟨i,rfl,by simp only [boxR,partRcd,List.cons_append,List.nil_append];exact HM.sb⟩
theorem holdS (x : Rcd) (i : AtRcd) (m : Msg) (am : At) (HM : Mem w0 W (partRcd 91 40 9 3 66 x i ++ own tSlot 91 am.1 am.2 m.slots :: L)) : Calls Tryz.prog 33 #[.agg (encRcd x i).toArray,.agg (encMsg m am).toArray] W fun e W'=>∃ j,e = .returned (.agg (encRcd (holdL x m) j).toArray) ∧ Mem w0 W' (partRcd 91 40 9 3 66 (holdL x m) j ++ L):=by
  refine enter Tryz.func33 rfl Tryz.ntmps33 [(0,.agg (encRcd x i).toArray),(1,.agg (encMsg m am).toArray)] rfl ⟨rfl,rfl,trivial⟩ ?_
  unfold encMsg encRcd
  simp only [partRcd,List.cons_append,List.nil_append] at HM
  by_cases c1 : (x.held.length : Int) < 400
  · have e : holdL x m = { x with held:=x.held ++ [{ m with frm:=x.number }] }:=if_pos c1
    repeat (first|refine Y ?_|(refine qs ?_;clear HM;intro W1 HM)|(refine qa ?_;clear HM;intro A1 c1 W1 HM)|(refine qg ?_;clear HM;intro g W1 HM))
    rw [e]
    exact ret_cell HM rfl rfl rfl ⟨⟨i.a0,i.a1,(A1,c1),i.a3,i.a4,i.a5,i.a6⟩,rfl,by simp only [partRcd,List.cons_append,List.nil_append];exact HM.sb⟩
  · have e : holdL x m = x:=if_neg c1
    repeat (first|refine Y ?_|(refine qs ?_;clear HM;intro W1 HM)|(refine qg ?_;clear HM;intro g W1 HM))
    rw [e]
    exact ret_cell HM rfl rfl rfl ⟨i,rfl,by simp only [partRcd,List.cons_append,List.nil_append];exact HM.sb⟩
theorem quietM (x : Rcd) (i : AtRcd) (g : Nat) (HM : Mem w0 W (boxR 91 40 9 3 66 31 g x i ++ L)) : Calls Tryz.prog 75 #[.pointer (some ⟨g,0,none⟩)] W fun e W'=>∃ j,e = .returned (.tuple #[]) ∧ Mem w0 W' (boxR 91 40 9 3 66 31 g (calmL x) j ++ L):=by
  refine enter Tryz.func75 rfl Tryz.ntmps75 [(0,_)] rfl ⟨rfl,trivial⟩ ?_
  simp only [boxR,partRcd,List.cons_append,List.nil_append] at HM
  repeat (first|refine Y ?_|(refine qs ?_;clear HM;intro W1 HM))
  have HM2:=((HM.nil tInt 3).nil tSlot 91).nil (tAck 3) 66
  exact end_none rfl ⟨⟨i.a0,i.a1,i.a2,i.a3,(none,0),(none,0),(none,0)⟩,rfl,by simp only [calmL,boxR,partRcd,List.cons_append,List.nil_append];exact HM2.sb⟩
theorem calmS (x : Rcd) (i : AtRcd) (HM : Mem w0 W (partRcd 91 40 9 3 66 x i ++ L)) : Calls Tryz.prog 31 #[.agg (encRcd x i).toArray] W fun e W'=>∃ j,e = .returned (.agg (encRcd (calmL x) j).toArray) ∧ Mem w0 W' (partRcd 91 40 9 3 66 (calmL x) j ++ L):=by
  refine enter Tryz.func31 rfl Tryz.ntmps31 [(0,.agg (encRcd x i).toArray)] rfl ⟨rfl,trivial⟩ ?_
  unfold encRcd
  simp only [partRcd,List.cons_append,List.nil_append] at HM
  repeat (first|refine Y ?_|(refine qs ?_;clear HM;intro W1 HM)|(refine qg ?_;clear HM;intro g W1 HM)|(refine qz ?_;clear HM;intro A1 W1 HM))
  have e : calmL x = { x with lead:=false,trying:=false,ballot:=0,yes:=[],best:=[],acks:=[] }:=rfl
  rw [e]
  rename_i Ay _ _ Ab _ _ _ _
  exact ret_cell HM rfl rfl rfl ⟨⟨i.a0,i.a1,i.a2,i.a3,(Ay,0),(Ab,0),(A1,0)⟩,rfl,by simp only [partRcd,List.cons_append,List.nil_append];exact HM.sb⟩
end Go.Proofs.YtampmicahnnebaaGreat.Sp
namespace Go.Proofs.YtampmicahnnebaaGreat.Sp
open Go Go.RowKit Go.Proofs.YtampmicahnnebaaGreatW.PrintLast
section
variable {P : Program} {n : Nat} {ops : Array Oper} {ll : List Oper} {Q : Exit → Act → World → Prop} {S : World → Prop} {ds : List Nat} {E : Env} {W : World} {i j k d fuel : Nat} {l l' l'' l3 : Array Bool} {o o' o3 : Oper} {op : Op} {ty : TypeId} {pos : String} {after : Array Edge} {v : Value}
structure WX (P : Program) (n : Nat) (ops : Array Oper) (Q : Exit → Act → World → Prop) (S : World → Prop) (ds : List Nat) (l : Array Bool) (fuel : Nat) (E : Env) (W : World) : Prop where
  out : ∀ a,Fits n E a → S W → wpAnyLast P .any ops Q S ds fuel l a W
theorem x_start {id : Nat} {w0 : World} {L : List Asn} (hm : Mem w0 W L) (hw : ∀ w,Mem w0 w L → S w) (hmix : P.follows .mixedOrders = true) (hsel : Region.noSelect ll.toArray = true) (hq : QP Q) (h : QP Q → Region.noSelect ll.toArray = true → ∀ W1,Mem w0 W1 L → WX P n ll.toArray Q S ds (Array.replicate ll.toArray.size false) ll.toArray.size E W1) : WC P n (.region id ll.toArray true) Q E W:=by
  refine ⟨fun a ha=>?_⟩
  refine start_ (S:=S) (ds:=ds) (n:=ll.toArray.size) (Array.replicate ll.toArray.size false) hmix rfl (by simp) (hw _ hm.drew) (fun hS=>?_)
  exact (h hq hsel _ hm.drew).out a ha hS
theorem x_pv (hq : QP Q) (hsel : Region.noSelect ll.toArray = true) (i : Nat) (ho : nthO ll i = some ⟨some d,op,ty,pos,after,none⟩) (h1 : Region.free .any ll.toArray l i = true) (h2 : (Region.ready .any ll.toArray l).contains i = true) (hl : l.setIfInBounds i true = l') (hn : Nat.blt d n = true) (h : GP P E op fun v=>WX P n ll.toArray Q S ds l' fuel ((d,v) :: E) W) : WX P n ll.toArray Q S ds l (fuel + 1) E W:=by
  obtain ⟨v,hp,h⟩:=h.out
  refine ⟨fun a ha hS=>?_⟩
  have ho' : ll.toArray[i]? = some (⟨some d,op,ty,pos,after,none⟩ : Oper):=by rw [nthO_eq] at ho;simpa using ho
  refine wpAnyLast_any (v:=v) ho' (Region.noSelect_spec hsel) (fun c a w=>hq.out c a _ _ w) _ l a W (Region.free_spec ho' h1) (by simpa using h2) (.inl ⟨by simp [Region.wanted],fun w=>hp.out n a ha _ _ _ _ _ _⟩) ?_
  rw [hl]
  exact h.out _ (ha.put (by simpa [Nat.blt_eq] using hn) v) hS
theorem x_ld {L : List Asn} {w0 : World} (hq : QP Q) (hsel : Region.noSelect ll.toArray = true) (i : Nat) (ho : nthO ll i = some ⟨some d,op,ty,pos,after,none⟩) (h1 : Region.free .any ll.toArray l i = true) (h2 : (Region.ready .any ll.toArray l).contains i = true) (h4 : Region.closedB .any ll.toArray l = true) (h5 : Region.lastB .any ll.toArray l ds i = true) (hl : l.setIfInBounds i true = l') (hn : Nat.blt d n = true) (h : GV P E w0 L op fun v=>WX P n ll.toArray Q (fun w=>Mem w0 w L) ds l' fuel ((d,v) :: E) W) : WX P n ll.toArray Q (fun w=>Mem w0 w L) ds l (fuel + 1) E W:=by
  obtain ⟨v,hp,h⟩:=h.out
  refine ⟨fun a ha hS=>?_⟩
  have ho' : ll.toArray[i]? = some (⟨some d,op,ty,pos,after,none⟩ : Oper):=by rw [nthO_eq] at ho;simpa using ho
  refine wpAnyLast_take (v:=v) ho' hsel h1 h2 h4 h5 (fun c a w=>hq.out c a _ _ w) ?_ hS ?_
  · exact .inl ⟨by simp [Region.wanted],fun w hw=>hp.out w hw n a ha _ _ _ _ _⟩
  · rw [hl]
    exact h.out _ (ha.put (by simpa [Nat.blt_eq] using hn) v) hS
structure XO (P : Program) (n : Nat) (ops : Array Oper) (Q : Exit → Act → World → Prop) (S : World → Prop) (ds : List Nat) (l : Array Bool) (fuel : Nat) (o : Oper) (E : Env) (W : World) : Prop where
  out : WL P n ops (Exit.then (fun a w=>S w ∧ wpAnyLast P .any ops Q S ds fuel l a w) Q) [o] E W
theorem x_go (h : WL P n ops (Exit.then (fun a w=>S w ∧ wpAnyLast P .any ops Q S ds fuel l a w) Q) [o] E W) : XO P n ops Q S ds l fuel o E W:=⟨h⟩
theorem x_back (hS : S W) (h : WX P n ops Q S ds l fuel E W) : WN n .normal (Exit.then (fun a w=>S w ∧ wpAnyLast P .any ops Q S ds fuel l a w) Q) E W:=⟨fun a ha=>⟨hS,h.out a ha hS⟩⟩
theorem x_one (i : Nat) (hr : Region.ready .any ll.toArray l = [i]) (ho : nthO ll i = some o) (hl : l.setIfInBounds i true = l') (h : XO P n ll.toArray Q S ds l' fuel o E W) : WX P n ll.toArray Q S ds l (fuel + 1) E W:=by
  have ho' : ll.toArray[i]? = some o:=by rw [nthO_eq] at ho;simpa using ho
  refine ⟨fun a ha hS=>?_⟩
  refine wpAnyLast_all hr (by simp) (fun q hq=>?_)
  obtain rfl : q = i:=by simpa using hq
  have h3:=h.out.out a ha
  rw [← hl] at h3
  exact wpOp_mono (fun a' w' hk=>⟨fun _ _=>hk.1,hk.2⟩) (list_wpOp ho' h3)
theorem x_two (i j : Nat) (hr : Region.ready .any ll.toArray l = [i,j]) (ho : nthO ll i = some o) (ho2 : nthO ll j = some o') (hl : l.setIfInBounds i true = l') (hl2 : l.setIfInBounds j true = l'') (h : XO P n ll.toArray Q S ds l' fuel o E W) (h2 : XO P n ll.toArray Q S ds l'' fuel o' E W) : WX P n ll.toArray Q S ds l (fuel + 1) E W:=by
  have ho' : ll.toArray[i]? = some o:=by rw [nthO_eq] at ho;simpa using ho
  have ho2' : ll.toArray[j]? = some o':=by rw [nthO_eq] at ho2;simpa using ho2
  refine ⟨fun a ha hS=>?_⟩
  refine wpAnyLast_all hr (by simp) (fun q hq=>?_)
  simp only [List.mem_cons,List.not_mem_nil,or_false] at hq
  rcases hq with rfl|rfl
  · have h3:=h.out.out a ha
    rw [← hl] at h3
    exact wpOp_mono (fun a' w' hk=>⟨fun _ _=>hk.1,hk.2⟩) (list_wpOp ho' h3)
  · have h3:=h2.out.out a ha
    rw [← hl2] at h3
    exact wpOp_mono (fun a' w' hk=>⟨fun _ _=>hk.1,hk.2⟩) (list_wpOp ho2' h3)
theorem x_done (hr : Region.ready .any ops l = []) (h : WN n .normal Q E W) : WX P n ops Q S ds l fuel E W:=⟨fun a ha hS=>wpAnyLast_done hr (h.out a ha) _⟩
end
end Go.Proofs.YtampmicahnnebaaGreat.Sp
namespace Go.Proofs.YtampmicahnnebaaGreat.Sp
open Go Go.RowKit
set_option maxRecDepth 10000
set_option maxHeartbeats 1000000
variable {w0 W : World} {L : List Asn} {A : Option Addr} {c : Nat}
def addL : List Int → Int → List Int
  | [],n=>[n]
  | a :: r,n=>if a < n then a :: addL r n else if a = n then a :: r else n :: a :: r
theorem addL_in : ∀ {l : List Int} {n : Int} {k : Nat} (hk : k < l.length),(∀ j (h : j < l.length),j < k → l[j] < n) → l[k] = n → addL l n = l
  | a :: r,n,0,_,_,e=>by simp at e;simp [addL,e]
  | a :: r,n,k + 1,hk,h,e=>by
    have h0 : a < n:=h 0 (by simp) (by omega)
    rw [addL,if_pos h0,addL_in (k:=k) (by simpa using hk) (fun j hj hjk=>h (j + 1) (by simpa using hj) (by omega)) (by simpa using e)]
theorem addL_new : ∀ {l : List Int} {n : Int} {k : Nat},k ≤ l.length → (∀ j (h : j < l.length),j < k → l[j] < n) → (∀ h : k < l.length,n < l[k]) → addL l n = l.take k ++ [n] ++ l.drop k
  | [],n,k,_,_,_=>by simp [addL]
  | a :: r,n,0,_,_,e=>by
    have:=e (by simp)
    simp at this
    simp [addL,show ¬ a < n by omega,show a ≠ n by omega]
  | a :: r,n,k + 1,hk,h,e=>by
    have h0 : a < n:=h 0 (by simp) (by omega)
    rw [addL,if_pos h0,addL_new (k:=k) (by simpa using hk) (fun j hj hjk=>h (j + 1) (by simpa using hj) (by omega)) (fun hk=>by have h2:=e (Nat.succ_lt_succ hk);rwa [List.getElem_cons_succ] at h2)]
    simp
theorem addL_len (l : List Int) (n : Int) : (addL l n).length ≤ l.length + 1:=by
  induction l with
  | nil=>simp [addL]
  | cons a r ih=>rw [addL];split <;> (try split) <;> simp <;> omega
def fromA (A : Option Addr) (sz c m : Nat) : Option Addr:=if c = m then A else A.map (·.add (m * sz))
theorem p_slicefrom {P : Program} {E : Env} {st e sz : Nat} {x y : Operand} {A : Option Addr} {l c : Nat} {k : IntKind} {m : Int} [hU : Und P st (.slice e)] [hS : Siz P e sz] (hx : ev E x = some (.slice A l c)) (hy : ev E y = some (.int k m)) (h0 : 0 ≤ m) (h1 : m ≤ l) : PV P E (.slice st x (some y) none none) (.slice (fromA A sz c m.toNat) (l - m.toNat) (c - m.toNat)):=⟨fun n a ha dst ty pos after gd W=>by
  obtain ⟨i0,hi,hs⟩:=Option.map_eq_some_iff.1 hS.out
  have hu:=hU.out
  simp [execOp,ha.eval hx,ha.eval hy,Instr.sliceAt,Instr.slice,Instr.sliceBounds,Instr.sliceBound,asIntOf,underlying,hu,h0,h1,sizeOf,typeInfo,hi,hs,fromA]⟩
theorem ro_drop {α : Type} {D : TyR α} {w : World} {A : Option Addr} {xs : List α} (h : RoRow D w A xs) {k c : Nat} (hk : k ≤ xs.length) (hc : xs.length ≤ c) : RoRow D w (fromA A D.sz c k) (xs.drop k):=by
  have hmx:=h.max
  by_cases e : c = k
  · have : (xs.drop k).length = 0:=by simp;omega
    exact ⟨by omega,fun h0=>by omega,fun i hi=>by omega⟩
  · refine ⟨by simp;omega,fun h0=>?_,fun i hi=>?_⟩
    · rw [fromA,if_neg e,h.some_ (by simp at h0;omega)];rfl
    · have hi2 : k + i < xs.length:=by simp at hi;omega
      obtain ⟨cc,h1,h2⟩:=h.cell (k + i) hi2
      refine ⟨cc,by rw [List.getElem_drop];exact h1,fun j v hv=>?_⟩
      have h3:=h2 j v hv
      rw [fromA,if_neg e,h.some_ (by omega)]
      rw [h.some_ (by omega)] at h3
      simp only [adr,Option.map_some,Option.getD_some] at h3 ⊢
      rw [addr_add_add,show k * D.sz + (i * D.sz + j) = (k + i) * D.sz + j by rw [Nat.add_mul];omega]
      exact h3
theorem addS {xs : List Int} (n : Int) (hn : xs.length ≤ 1048576) (HM : Mem w0 W (own tInt 3 A c xs :: L)) : Calls Tryz.prog 80 #[.slice A xs.length c,.int .i64 n] W fun e W'=>∃ A' c',e = .returned (.slice A' (addL xs n).length c') ∧ Mem w0 W' (own tInt 3 A' c' (addL xs n) :: L):=by
  refine enter Tryz.func80 rfl Tryz.ntmps80 [(0,_),(1,_)] rfl ⟨rfl,rfl,trivial⟩ ?_
  have hcap : xs.length ≤ c:=by obtain ⟨F1,hF1⟩:=HM.own (A:=A);exact (own_max hF1).2
  repeat refine Y ?_
  refine c_loop (σ:=Nat) (fun k=>[(0,.slice A xs.length c),(1,.int .i64 n),(5,.int .i64 k)]) (fun k W1=>k ≤ xs.length ∧ (∀ j (h : j < xs.length),j < k → xs[j] < n) ∧ Mem w0 W1 (own tInt 3 A c xs :: L)) (fun k=>xs.length - k) 0 U ⟨Nat.zero_le _,fun j h hj=>by omega,HM⟩ ?_
  clear HM
  rintro k W1 ⟨hk,hp,HM⟩
  by_cases hlt : k < xs.length
  · have e0:=rd_at (d:=tInt) hlt
    by_cases c1 : rd tInt xs k < n
    · repeat refine Y ?_
      exact n_round (k + 1) U ⟨by omega,fun j h hj=>by
        by_cases e : j = k
        · subst e;rw [← e0];exact c1
        · exact hp j h (by omega),HM⟩ (by omega)
    by_cases c2 : rd tInt xs k = n
    · have e : addL xs n = xs:=addL_in hlt hp (by rw [← e0];exact c2)
      repeat refine Y ?_
      rw [e]
      exact ret_tmp rfl rfl ⟨A,c,rfl,HM⟩
    have e : addL xs n = xs.take k ++ [n] ++ xs.drop k:=addL_new hk hp (fun h=>by rw [← e0];omega)
    have htk : (xs.take k).length ≤ 1048576:=by simp only [List.length_take];omega
    repeat refine Y ?_
    refine gR ?_
    refine x_start (ds:=[]) HM (fun w hw=>hw) (by kernel_rfl) (by kernel_rfl) qq ?_
    intro HQ HS W1 HM1;replace HM:=HM1;clear HM1
    refine x_pv HQ HS 1 rfl (by kernel_rfl) (by kernel_rfl) (l':=#[false,true,false,false,false,false,false,false,false,false,false,false,false]) (by kernel_rfl) rfl ?_
    refine Y ?_
    refine x_pv HQ HS 2 rfl (by kernel_rfl) (by kernel_rfl) (l':=#[false,true,true,false,false,false,false,false,false,false,false,false,false]) (by kernel_rfl) rfl ?_
    refine Y ?_
    refine x_pv HQ HS 3 rfl (by kernel_rfl) (by kernel_rfl) (l':=#[false,true,true,true,false,false,false,false,false,false,false,false,false]) (by kernel_rfl) rfl ?_
    refine Y ?_
    refine x_pv HQ HS 5 rfl (by kernel_rfl) (by kernel_rfl) (l':=#[false,true,true,true,false,true,false,false,false,false,false,false,false]) (by kernel_rfl) rfl ?_
    refine Y ?_
    refine x_pv HQ HS 8 rfl (by kernel_rfl) (by kernel_rfl) (l':=#[false,true,true,true,false,true,false,false,true,false,false,false,false]) (by kernel_rfl) rfl ?_
    refine Y ?_
    refine x_pv HQ HS 9 rfl (by kernel_rfl) (by kernel_rfl) (l':=#[false,true,true,true,false,true,false,false,true,true,false,false,false]) (by kernel_rfl) rfl ?_
    refine Y ?_
    refine x_pv HQ HS 10 rfl (by kernel_rfl) (by kernel_rfl) (l':=#[false,true,true,true,false,true,false,false,true,true,true,false,false]) (by kernel_rfl) rfl ?_
    refine Y ?_
    refine x_two 0 6 (by kernel_rfl) rfl rfl (l':=#[true,true,true,true,false,true,false,false,true,true,true,false,false]) (l'':=#[false,true,true,true,false,true,true,false,true,true,true,false,false]) (by kernel_rfl) (by kernel_rfl) (x_go ?_) (x_go ?_)
    · repeat (first|(refine qz ?_;clear HM;intro A1 W1 HM)|refine Y ?_)
      refine x_two 4 6 (by kernel_rfl) rfl rfl (l':=#[true,true,true,true,true,true,false,false,true,true,true,false,false]) (l'':=#[true,true,true,true,false,true,true,false,true,true,true,false,false]) (by kernel_rfl) (by kernel_rfl) (x_go ?_) (x_go ?_)
      · repeat (first|(refine gCall ?_;obtain ⟨F1,hF1⟩:=HM.own (A:=A);(first|(refine s_appw (ys:=xs.take k) HM rfl rfl rfl rfl (ro_rdc (ro_take (ro_ints hF1) k)) (by simp only [List.length_take];omega) (by simp only [List.length_take,List.length_drop,List.length_append,List.length_cons,List.length_nil];omega) rfl ?_)|(refine s_appw (ys:=xs.drop k) HM rfl rfl (by first|with_reducible rfl|(simp only [List.length_append,List.length_take,List.length_cons,List.length_nil];omega)) rfl (ro_rdc (ro_drop (ro_ints hF1) hk hcap)) (by simp only [List.length_drop];omega) (by simp only [List.length_take,List.length_drop,List.length_append,List.length_cons,List.length_nil];omega) rfl ?_));clear hF1;intro A1 c1 W1 HM1;replace HM:=HM1;clear HM1)|refine Y ?_)
        refine x_one 6 (by kernel_rfl) rfl (l':=#[true,true,true,true,true,true,true,false,true,true,true,false,false]) (by kernel_rfl) (x_go ?_)
        repeat (first|(refine qg ?_;clear HM;intro g W1 HM)|refine Y ?_)
        refine x_one 7 (by kernel_rfl) rfl (l':=#[true,true,true,true,true,true,true,true,true,true,true,false,false]) (by kernel_rfl) (x_go ?_)
        repeat (first|(refine qa ?_;clear HM;intro A1 c1 W1 HM)|refine Y ?_)
        refine x_one 11 (by kernel_rfl) rfl (l':=#[true,true,true,true,true,true,true,true,true,true,true,true,false]) (by kernel_rfl) (x_go ?_)
        repeat (first|(refine gCall ?_;obtain ⟨F1,hF1⟩:=HM.own (A:=A);(first|(refine s_appw (ys:=xs.take k) HM rfl rfl rfl rfl (ro_rdc (ro_take (ro_ints hF1) k)) (by simp only [List.length_take];omega) (by simp only [List.length_take,List.length_drop,List.length_append,List.length_cons,List.length_nil];omega) rfl ?_)|(refine s_appw (ys:=xs.drop k) HM rfl rfl (by first|with_reducible rfl|(simp only [List.length_append,List.length_take,List.length_cons,List.length_nil];omega)) rfl (ro_rdc (ro_drop (ro_ints hF1) hk hcap)) (by simp only [List.length_drop];omega) (by simp only [List.length_take,List.length_drop,List.length_append,List.length_cons,List.length_nil];omega) rfl ?_));clear hF1;intro A1 c1 W1 HM1;replace HM:=HM1;clear HM1)|refine Y ?_)
        refine x_pv HQ HS 12 rfl (by kernel_rfl) (by kernel_rfl) (l':=#[true,true,true,true,true,true,true,true,true,true,true,true,true]) (by kernel_rfl) rfl ?_
        refine Y ?_
        refine x_done (by kernel_rfl) ?_
        repeat refine Y ?_
        rw [show addL xs n = [] ++ xs.take k ++ [n] ++ xs.drop k from e]
        exact ret_tmp rfl rfl ⟨A1,c1,rfl,HM.sb⟩
      · repeat (first|(refine qg ?_;clear HM;intro g W1 HM)|refine Y ?_)
        refine x_one 4 (by kernel_rfl) rfl (l':=#[true,true,true,true,true,true,true,false,true,true,true,false,false]) (by kernel_rfl) (x_go ?_)
        repeat (first|(refine gCall ?_;obtain ⟨F1,hF1⟩:=HM.own (A:=A);(first|(refine s_appw (ys:=xs.take k) HM rfl rfl rfl rfl (ro_rdc (ro_take (ro_ints hF1) k)) (by simp only [List.length_take];omega) (by simp only [List.length_take,List.length_drop,List.length_append,List.length_cons,List.length_nil];omega) rfl ?_)|(refine s_appw (ys:=xs.drop k) HM rfl rfl (by first|with_reducible rfl|(simp only [List.length_append,List.length_take,List.length_cons,List.length_nil];omega)) rfl (ro_rdc (ro_drop (ro_ints hF1) hk hcap)) (by simp only [List.length_drop];omega) (by simp only [List.length_take,List.length_drop,List.length_append,List.length_cons,List.length_nil];omega) rfl ?_));clear hF1;intro A1 c1 W1 HM1;replace HM:=HM1;clear HM1)|refine Y ?_)
        refine x_one 7 (by kernel_rfl) rfl (l':=#[true,true,true,true,true,true,true,true,true,true,true,false,false]) (by kernel_rfl) (x_go ?_)
        repeat (first|(refine qa ?_;clear HM;intro A1 c1 W1 HM)|refine Y ?_)
        refine x_one 11 (by kernel_rfl) rfl (l':=#[true,true,true,true,true,true,true,true,true,true,true,true,false]) (by kernel_rfl) (x_go ?_)
        repeat (first|(refine gCall ?_;obtain ⟨F1,hF1⟩:=HM.own (A:=A);(first|(refine s_appw (ys:=xs.take k) HM rfl rfl rfl rfl (ro_rdc (ro_take (ro_ints hF1) k)) (by simp only [List.length_take];omega) (by simp only [List.length_take,List.length_drop,List.length_append,List.length_cons,List.length_nil];omega) rfl ?_)|(refine s_appw (ys:=xs.drop k) HM rfl rfl (by first|with_reducible rfl|(simp only [List.length_append,List.length_take,List.length_cons,List.length_nil];omega)) rfl (ro_rdc (ro_drop (ro_ints hF1) hk hcap)) (by simp only [List.length_drop];omega) (by simp only [List.length_take,List.length_drop,List.length_append,List.length_cons,List.length_nil];omega) rfl ?_));clear hF1;intro A1 c1 W1 HM1;replace HM:=HM1;clear HM1)|refine Y ?_)
        refine x_pv HQ HS 12 rfl (by kernel_rfl) (by kernel_rfl) (l':=#[true,true,true,true,true,true,true,true,true,true,true,true,true]) (by kernel_rfl) rfl ?_
        refine Y ?_
        refine x_done (by kernel_rfl) ?_
        repeat refine Y ?_
        rw [show addL xs n = [] ++ xs.take k ++ [n] ++ xs.drop k from e]
        exact ret_tmp rfl rfl ⟨A1,c1,rfl,HM.sb⟩
    · repeat (first|(refine qg ?_;clear HM;intro g W1 HM)|refine Y ?_)
      refine x_one 0 (by kernel_rfl) rfl (l':=#[true,true,true,true,false,true,true,false,true,true,true,false,false]) (by kernel_rfl) (x_go ?_)
      repeat (first|(refine qz ?_;clear HM;intro A1 W1 HM)|refine Y ?_)
      refine x_one 4 (by kernel_rfl) rfl (l':=#[true,true,true,true,true,true,true,false,true,true,true,false,false]) (by kernel_rfl) (x_go ?_)
      repeat (first|(refine gCall ?_;obtain ⟨F1,hF1⟩:=HM.own (A:=A);(first|(refine s_appw (ys:=xs.take k) HM rfl rfl rfl rfl (ro_rdc (ro_take (ro_ints hF1) k)) (by simp only [List.length_take];omega) (by simp only [List.length_take,List.length_drop,List.length_append,List.length_cons,List.length_nil];omega) rfl ?_)|(refine s_appw (ys:=xs.drop k) HM rfl rfl (by first|with_reducible rfl|(simp only [List.length_append,List.length_take,List.length_cons,List.length_nil];omega)) rfl (ro_rdc (ro_drop (ro_ints hF1) hk hcap)) (by simp only [List.length_drop];omega) (by simp only [List.length_take,List.length_drop,List.length_append,List.length_cons,List.length_nil];omega) rfl ?_));clear hF1;intro A1 c1 W1 HM1;replace HM:=HM1;clear HM1)|refine Y ?_)
      refine x_one 7 (by kernel_rfl) rfl (l':=#[true,true,true,true,true,true,true,true,true,true,true,false,false]) (by kernel_rfl) (x_go ?_)
      repeat (first|(refine qa ?_;clear HM;intro A1 c1 W1 HM)|refine Y ?_)
      refine x_one 11 (by kernel_rfl) rfl (l':=#[true,true,true,true,true,true,true,true,true,true,true,true,false]) (by kernel_rfl) (x_go ?_)
      repeat (first|(refine gCall ?_;obtain ⟨F1,hF1⟩:=HM.own (A:=A);(first|(refine s_appw (ys:=xs.take k) HM rfl rfl rfl rfl (ro_rdc (ro_take (ro_ints hF1) k)) (by simp only [List.length_take];omega) (by simp only [List.length_take,List.length_drop,List.length_append,List.length_cons,List.length_nil];omega) rfl ?_)|(refine s_appw (ys:=xs.drop k) HM rfl rfl (by first|with_reducible rfl|(simp only [List.length_append,List.length_take,List.length_cons,List.length_nil];omega)) rfl (ro_rdc (ro_drop (ro_ints hF1) hk hcap)) (by simp only [List.length_drop];omega) (by simp only [List.length_take,List.length_drop,List.length_append,List.length_cons,List.length_nil];omega) rfl ?_));clear hF1;intro A1 c1 W1 HM1;replace HM:=HM1;clear HM1)|refine Y ?_)
      refine x_pv HQ HS 12 rfl (by kernel_rfl) (by kernel_rfl) (l':=#[true,true,true,true,true,true,true,true,true,true,true,true,true]) (by kernel_rfl) rfl ?_
      refine Y ?_
      refine x_done (by kernel_rfl) ?_
      repeat refine Y ?_
      rw [show addL xs n = [] ++ xs.take k ++ [n] ++ xs.drop k from e]
      exact ret_tmp rfl rfl ⟨A1,c1,rfl,HM.sb⟩
  · obtain rfl : k = xs.length:=by omega
    have e : addL xs n = xs.take xs.length ++ [n] ++ xs.drop xs.length:=addL_new (Nat.le_refl _) hp (fun h=>by omega)
    have hk:=Nat.le_refl xs.length
    have htk : (xs.take xs.length).length ≤ 1048576:=by simp only [List.length_take];omega
    repeat refine Y ?_
    refine gR ?_
    refine x_start (ds:=[]) HM (fun w hw=>hw) (by kernel_rfl) (by kernel_rfl) qq ?_
    intro HQ HS W1 HM1;replace HM:=HM1;clear HM1
    refine x_pv HQ HS 1 rfl (by kernel_rfl) (by kernel_rfl) (l':=#[false,true,false,false,false,false,false,false,false,false,false,false,false]) (by kernel_rfl) rfl ?_
    refine Y ?_
    refine x_pv HQ HS 2 rfl (by kernel_rfl) (by kernel_rfl) (l':=#[false,true,true,false,false,false,false,false,false,false,false,false,false]) (by kernel_rfl) rfl ?_
    refine Y ?_
    refine x_pv HQ HS 3 rfl (by kernel_rfl) (by kernel_rfl) (l':=#[false,true,true,true,false,false,false,false,false,false,false,false,false]) (by kernel_rfl) rfl ?_
    refine Y ?_
    refine x_pv HQ HS 5 rfl (by kernel_rfl) (by kernel_rfl) (l':=#[false,true,true,true,false,true,false,false,false,false,false,false,false]) (by kernel_rfl) rfl ?_
    refine Y ?_
    refine x_pv HQ HS 8 rfl (by kernel_rfl) (by kernel_rfl) (l':=#[false,true,true,true,false,true,false,false,true,false,false,false,false]) (by kernel_rfl) rfl ?_
    refine Y ?_
    refine x_pv HQ HS 9 rfl (by kernel_rfl) (by kernel_rfl) (l':=#[false,true,true,true,false,true,false,false,true,true,false,false,false]) (by kernel_rfl) rfl ?_
    refine Y ?_
    refine x_pv HQ HS 10 rfl (by kernel_rfl) (by kernel_rfl) (l':=#[false,true,true,true,false,true,false,false,true,true,true,false,false]) (by kernel_rfl) rfl ?_
    refine Y ?_
    refine x_two 0 6 (by kernel_rfl) rfl rfl (l':=#[true,true,true,true,false,true,false,false,true,true,true,false,false]) (l'':=#[false,true,true,true,false,true,true,false,true,true,true,false,false]) (by kernel_rfl) (by kernel_rfl) (x_go ?_) (x_go ?_)
    · repeat (first|(refine qz ?_;clear HM;intro A1 W1 HM)|refine Y ?_)
      refine x_two 4 6 (by kernel_rfl) rfl rfl (l':=#[true,true,true,true,true,true,false,false,true,true,true,false,false]) (l'':=#[true,true,true,true,false,true,true,false,true,true,true,false,false]) (by kernel_rfl) (by kernel_rfl) (x_go ?_) (x_go ?_)
      · repeat (first|(refine gCall ?_;obtain ⟨F1,hF1⟩:=HM.own (A:=A);(first|(refine s_appw (ys:=xs.take xs.length) HM rfl rfl rfl rfl (ro_rdc (ro_take (ro_ints hF1) xs.length)) (by simp only [List.length_take];omega) (by simp only [List.length_take,List.length_drop,List.length_append,List.length_cons,List.length_nil];omega) rfl ?_)|(refine s_appw (ys:=xs.drop xs.length) HM rfl rfl (by first|with_reducible rfl|(simp only [List.length_append,List.length_take,List.length_cons,List.length_nil];omega)) rfl (ro_rdc (ro_drop (ro_ints hF1) hk hcap)) (by simp only [List.length_drop];omega) (by simp only [List.length_take,List.length_drop,List.length_append,List.length_cons,List.length_nil];omega) rfl ?_));clear hF1;intro A1 c1 W1 HM1;replace HM:=HM1;clear HM1)|refine Y ?_)
        refine x_one 6 (by kernel_rfl) rfl (l':=#[true,true,true,true,true,true,true,false,true,true,true,false,false]) (by kernel_rfl) (x_go ?_)
        repeat (first|(refine qg ?_;clear HM;intro g W1 HM)|refine Y ?_)
        refine x_one 7 (by kernel_rfl) rfl (l':=#[true,true,true,true,true,true,true,true,true,true,true,false,false]) (by kernel_rfl) (x_go ?_)
        repeat (first|(refine qa ?_;clear HM;intro A1 c1 W1 HM)|refine Y ?_)
        refine x_one 11 (by kernel_rfl) rfl (l':=#[true,true,true,true,true,true,true,true,true,true,true,true,false]) (by kernel_rfl) (x_go ?_)
        repeat (first|(refine gCall ?_;obtain ⟨F1,hF1⟩:=HM.own (A:=A);(first|(refine s_appw (ys:=xs.take xs.length) HM rfl rfl rfl rfl (ro_rdc (ro_take (ro_ints hF1) xs.length)) (by simp only [List.length_take];omega) (by simp only [List.length_take,List.length_drop,List.length_append,List.length_cons,List.length_nil];omega) rfl ?_)|(refine s_appw (ys:=xs.drop xs.length) HM rfl rfl (by first|with_reducible rfl|(simp only [List.length_append,List.length_take,List.length_cons,List.length_nil];omega)) rfl (ro_rdc (ro_drop (ro_ints hF1) hk hcap)) (by simp only [List.length_drop];omega) (by simp only [List.length_take,List.length_drop,List.length_append,List.length_cons,List.length_nil];omega) rfl ?_));clear hF1;intro A1 c1 W1 HM1;replace HM:=HM1;clear HM1)|refine Y ?_)
        refine x_pv HQ HS 12 rfl (by kernel_rfl) (by kernel_rfl) (l':=#[true,true,true,true,true,true,true,true,true,true,true,true,true]) (by kernel_rfl) rfl ?_
        refine Y ?_
        refine x_done (by kernel_rfl) ?_
        repeat refine Y ?_
        rw [show addL xs n = [] ++ xs.take xs.length ++ [n] ++ xs.drop xs.length from e]
        exact ret_tmp rfl rfl ⟨A1,c1,rfl,HM.sb⟩
      · repeat (first|(refine qg ?_;clear HM;intro g W1 HM)|refine Y ?_)
        refine x_one 4 (by kernel_rfl) rfl (l':=#[true,true,true,true,true,true,true,false,true,true,true,false,false]) (by kernel_rfl) (x_go ?_)
        repeat (first|(refine gCall ?_;obtain ⟨F1,hF1⟩:=HM.own (A:=A);(first|(refine s_appw (ys:=xs.take xs.length) HM rfl rfl rfl rfl (ro_rdc (ro_take (ro_ints hF1) xs.length)) (by simp only [List.length_take];omega) (by simp only [List.length_take,List.length_drop,List.length_append,List.length_cons,List.length_nil];omega) rfl ?_)|(refine s_appw (ys:=xs.drop xs.length) HM rfl rfl (by first|with_reducible rfl|(simp only [List.length_append,List.length_take,List.length_cons,List.length_nil];omega)) rfl (ro_rdc (ro_drop (ro_ints hF1) hk hcap)) (by simp only [List.length_drop];omega) (by simp only [List.length_take,List.length_drop,List.length_append,List.length_cons,List.length_nil];omega) rfl ?_));clear hF1;intro A1 c1 W1 HM1;replace HM:=HM1;clear HM1)|refine Y ?_)
        refine x_one 7 (by kernel_rfl) rfl (l':=#[true,true,true,true,true,true,true,true,true,true,true,false,false]) (by kernel_rfl) (x_go ?_)
        repeat (first|(refine qa ?_;clear HM;intro A1 c1 W1 HM)|refine Y ?_)
        refine x_one 11 (by kernel_rfl) rfl (l':=#[true,true,true,true,true,true,true,true,true,true,true,true,false]) (by kernel_rfl) (x_go ?_)
        repeat (first|(refine gCall ?_;obtain ⟨F1,hF1⟩:=HM.own (A:=A);(first|(refine s_appw (ys:=xs.take xs.length) HM rfl rfl rfl rfl (ro_rdc (ro_take (ro_ints hF1) xs.length)) (by simp only [List.length_take];omega) (by simp only [List.length_take,List.length_drop,List.length_append,List.length_cons,List.length_nil];omega) rfl ?_)|(refine s_appw (ys:=xs.drop xs.length) HM rfl rfl (by first|with_reducible rfl|(simp only [List.length_append,List.length_take,List.length_cons,List.length_nil];omega)) rfl (ro_rdc (ro_drop (ro_ints hF1) hk hcap)) (by simp only [List.length_drop];omega) (by simp only [List.length_take,List.length_drop,List.length_append,List.length_cons,List.length_nil];omega) rfl ?_));clear hF1;intro A1 c1 W1 HM1;replace HM:=HM1;clear HM1)|refine Y ?_)
        refine x_pv HQ HS 12 rfl (by kernel_rfl) (by kernel_rfl) (l':=#[true,true,true,true,true,true,true,true,true,true,true,true,true]) (by kernel_rfl) rfl ?_
        refine Y ?_
        refine x_done (by kernel_rfl) ?_
        repeat refine Y ?_
        rw [show addL xs n = [] ++ xs.take xs.length ++ [n] ++ xs.drop xs.length from e]
        exact ret_tmp rfl rfl ⟨A1,c1,rfl,HM.sb⟩
    · repeat (first|(refine qg ?_;clear HM;intro g W1 HM)|refine Y ?_)
      refine x_one 0 (by kernel_rfl) rfl (l':=#[true,true,true,true,false,true,true,false,true,true,true,false,false]) (by kernel_rfl) (x_go ?_)
      repeat (first|(refine qz ?_;clear HM;intro A1 W1 HM)|refine Y ?_)
      refine x_one 4 (by kernel_rfl) rfl (l':=#[true,true,true,true,true,true,true,false,true,true,true,false,false]) (by kernel_rfl) (x_go ?_)
      repeat (first|(refine gCall ?_;obtain ⟨F1,hF1⟩:=HM.own (A:=A);(first|(refine s_appw (ys:=xs.take xs.length) HM rfl rfl rfl rfl (ro_rdc (ro_take (ro_ints hF1) xs.length)) (by simp only [List.length_take];omega) (by simp only [List.length_take,List.length_drop,List.length_append,List.length_cons,List.length_nil];omega) rfl ?_)|(refine s_appw (ys:=xs.drop xs.length) HM rfl rfl (by first|with_reducible rfl|(simp only [List.length_append,List.length_take,List.length_cons,List.length_nil];omega)) rfl (ro_rdc (ro_drop (ro_ints hF1) hk hcap)) (by simp only [List.length_drop];omega) (by simp only [List.length_take,List.length_drop,List.length_append,List.length_cons,List.length_nil];omega) rfl ?_));clear hF1;intro A1 c1 W1 HM1;replace HM:=HM1;clear HM1)|refine Y ?_)
      refine x_one 7 (by kernel_rfl) rfl (l':=#[true,true,true,true,true,true,true,true,true,true,true,false,false]) (by kernel_rfl) (x_go ?_)
      repeat (first|(refine qa ?_;clear HM;intro A1 c1 W1 HM)|refine Y ?_)
      refine x_one 11 (by kernel_rfl) rfl (l':=#[true,true,true,true,true,true,true,true,true,true,true,true,false]) (by kernel_rfl) (x_go ?_)
      repeat (first|(refine gCall ?_;obtain ⟨F1,hF1⟩:=HM.own (A:=A);(first|(refine s_appw (ys:=xs.take xs.length) HM rfl rfl rfl rfl (ro_rdc (ro_take (ro_ints hF1) xs.length)) (by simp only [List.length_take];omega) (by simp only [List.length_take,List.length_drop,List.length_append,List.length_cons,List.length_nil];omega) rfl ?_)|(refine s_appw (ys:=xs.drop xs.length) HM rfl rfl (by first|with_reducible rfl|(simp only [List.length_append,List.length_take,List.length_cons,List.length_nil];omega)) rfl (ro_rdc (ro_drop (ro_ints hF1) hk hcap)) (by simp only [List.length_drop];omega) (by simp only [List.length_take,List.length_drop,List.length_append,List.length_cons,List.length_nil];omega) rfl ?_));clear hF1;intro A1 c1 W1 HM1;replace HM:=HM1;clear HM1)|refine Y ?_)
      refine x_pv HQ HS 12 rfl (by kernel_rfl) (by kernel_rfl) (l':=#[true,true,true,true,true,true,true,true,true,true,true,true,true]) (by kernel_rfl) rfl ?_
      refine Y ?_
      refine x_done (by kernel_rfl) ?_
      repeat refine Y ?_
      rw [show addL xs n = [] ++ xs.take xs.length ++ [n] ++ xs.drop xs.length from e]
      exact ret_tmp rfl rfl ⟨A1,c1,rfl,HM.sb⟩
end Go.Proofs.YtampmicahnnebaaGreat.Sp
namespace Go.Proofs.YtampmicahnnebaaGreat.Sp
open Go Go.RowKit
set_option maxRecDepth 10000
set_option maxHeartbeats 1000000
variable {w0 W : World} {L : List Asn} {A B : Option Addr} {c d : Nat} {b b2 : Bool}
def mgS (s t : Slot) : Slot:=if s.ballot < t.ballot then t else s
def mergeL : List Slot → List Slot → List Slot
  | [],r=>r
  | s :: l,[]=>s :: l
  | s :: l,t :: r=>mgS s t :: mergeL l r
theorem mergeL_nil : ∀ l : List Slot,mergeL l [] = l
  | []=>rfl
  | _ :: _=>rfl
theorem mergeL_len : ∀ l r : List Slot,(mergeL l r).length = max l.length r.length
  | [],r=>by simp [mergeL]
  | s :: l,[]=>by simp [mergeL]
  | s :: l,t :: r=>by simp only [mergeL,List.length_cons,mergeL_len l r];omega
theorem mergeL_app : ∀ (l r : List Slot) (k : Nat) (hk : k < r.length),l.length ≤ k → mergeL l (r.take (k + 1)) = mergeL l (r.take k) ++ [r[k]]
  | [],r,k,hk,_=>by simp only [mergeL,List.take_succ_eq_append_getElem hk]
  | s :: l,[],k,hk,_=>by simp at hk
  | s :: l,t :: r,0,hk,h=>by simp at h
  | s :: l,t :: r,k + 1,hk,h=>by
    simp only [List.take_succ_cons,mergeL,List.getElem_cons_succ,List.cons_append]
    rw [mergeL_app l r k (by simpa using hk) (by simpa using h)]
theorem mergeL_at : ∀ (l r : List Slot) (k : Nat) (hk : k < l.length) (h2 : k < (mergeL l (r.take k)).length),(mergeL l (r.take k))[k] = l[k]
  | s :: l,r,0,hk,h2=>by simp [mergeL]
  | s :: l,[],k + 1,hk,h2=>by simp [mergeL]
  | s :: l,t :: r,k + 1,hk,h2=>by
    have h3 : k < (mergeL l (r.take k)).length:=by rw [mergeL_len];simp at hk;omega
    have:=mergeL_at l r k (by simpa using hk) h3
    simp only [List.take_succ_cons,mergeL,List.getElem_cons_succ]
    exact this
theorem mergeL_set : ∀ (l r : List Slot) (k : Nat) (hk : k < r.length) (hl : k < l.length),mergeL l (r.take (k + 1)) = (mergeL l (r.take k)).set k (mgS l[k] r[k])
  | s :: l,[],k,hk,_=>by simp at hk
  | s :: l,t :: r,0,hk,h=>by simp [mergeL,mergeL_nil]
  | s :: l,t :: r,k + 1,hk,h=>by
    simp only [List.take_succ_cons,mergeL,List.getElem_cons_succ,List.set_cons_succ]
    rw [mergeL_set l r k (by simpa using hk) (by simpa using h)]
theorem recMergeS {xs ys : List Slot} (ha : RoRow (rSlot b) w0 A xs) (hb : RoRow (rSlot b2) w0 B ys) (hn : xs.length ≤ 1048576) (hm : ys.length ≤ 1048576) (HM : Mem w0 W L) : Calls Tryz.prog 81 #[.slice A xs.length c,.slice B ys.length d] W fun e W'=>∃ A' c',e = .returned (.slice A' (mergeL xs ys).length c') ∧ Mem w0 W' (own tSlot 91 A' c' (mergeL xs ys) :: L):=by
  refine enter Tryz.func81 rfl Tryz.ntmps81 [(0,_),(1,_)] rfl ⟨rfl,rfl,trivial⟩ ?_
  repeat (first|refine Y ?_|(refine qf ?_;go_at_call 79;refine (l1Slots_c ha hn HM).mono ?_;rintro e W1 ⟨A1,c1,rfl,HM1⟩;refine ⟨_,rfl,?_⟩;replace HM:=HM1;clear HM1))
  replace HM:=HM.rod hb
  refine c_loop2 (σ:=Nat × List Slot) (fun s A1 c1=>[(1,.slice B ys.length d),(5,.slice A1 s.2.length c1),(6,.int .i64 s.1)]) (fun s A1 c1 W1=>s.1 ≤ ys.length ∧ s.2 = mergeL xs (ys.take s.1) ∧ Mem w0 W1 (own tSlot 91 A1 c1 s.2 :: ro (rSlot b2) w0 B ys :: L)) (fun s=>ys.length - s.1) (0,xs) A1 c1 U ⟨Nat.zero_le _,by simp [mergeL_nil],HM.sb⟩ ?_
  clear HM
  rintro ⟨k,zs⟩ A1 c1 W1 ⟨hk,hz,HM⟩
  dsimp only at hk hz HM ⊢
  have hzl : zs.length = max xs.length (min k ys.length):=by rw [hz,mergeL_len];simp
  by_cases hlt : k < ys.length
  · by_cases h1 : k = zs.length
    · have e1:=mergeL_app xs ys k hlt (by omega)
      rw [← hz,← rdR_at (D:=rSlot b2) hlt] at e1
      subst h1
      repeat (first|refine Y ?_|(refine qa ?_;clear HM;intro A1 c1 W1 HM)|(refine qg ?_;clear HM;intro g W1 HM))
      exact n_round2 (zs.length + 1,zs ++ [_]) A1 c1 U ⟨by dsimp only;omega,e1.symm,HM.sb⟩ (by dsimp only;omega)
    · have hkx : k < xs.length:=by omega
      have hkz : k < zs.length:=by omega
      have e0 : rd tSlot zs k = xs[k]:=by rw [rd_at (d:=tSlot) hkz];subst hz;exact mergeL_at xs ys k hkx hkz
      have e1:=mergeL_set xs ys k hlt hkx
      rw [← hz,← rdR_at (D:=rSlot b2) hlt,← e0] at e1
      by_cases h2 : (rd tSlot zs k).ballot < (rdR (rSlot b2) ys k).ballot
      · rw [mgS,if_pos h2] at e1
        repeat (first|(refine gR ?_;refine d_start [] [(0,0),(0,1),(0,2),(0,3),(0,5),(0,6),(0,7),(0,8),(1,4),(1,9),(0,10)] HM (by kernel_rfl) (by kernel_rfl) qq (by kernel_rfl) rfl ?_;intro HQ HS W1 HM1;replace HM:=HM1;clear HM1)|refine Y ?_|(refine gStore ?_;refine s_storew HM rfl rfl rfl (by omega) (by omega) rfl ?_;clear HM;intro W1 HM))
        simp only [Int.toNat_natCast] at HM
        exact n_round2 (k + 1,zs.set k _) A1 c1 (by simp only [List.length_set];exact U) ⟨by dsimp only;omega,e1.symm,HM.sb⟩ (by dsimp only;omega)
      · rw [mgS,if_neg h2,rd_at (d:=tSlot) hkz,List.set_getElem_self] at e1
        repeat (first|(refine gR ?_;refine d_start [] [(0,0),(0,1),(0,2),(0,3),(0,5),(0,6),(0,7),(0,8),(1,4),(1,9),(0,10)] HM (by kernel_rfl) (by kernel_rfl) qq (by kernel_rfl) rfl ?_;intro HQ HS W1 HM1;replace HM:=HM1;clear HM1)|refine Y ?_)
        exact n_round2 (k + 1,zs) A1 c1 U ⟨by dsimp only;omega,e1.symm,HM.sb⟩ (by dsimp only;omega)
  · obtain rfl : k = ys.length:=by omega
    rw [List.take_length] at hz
    subst hz
    repeat refine Y ?_
    exact ret_tmp rfl rfl ⟨A1,c1,rfl,HM.sb⟩
end Go.Proofs.YtampmicahnnebaaGreat.Sp
namespace Go.Proofs.YtampmicahnnebaaGreat.Sp
open Go Go.RowKit
set_option maxRecDepth 10000
set_option maxHeartbeats 1000000
variable {w0 W : World} {L : List Asn}
def advK (x : Rcd) (d : Int) (a : Ack) : Int:=if a.index = d + 1 ∧ x.of < 2 * (a.frm.length : Int) ∧ a.index ≤ x.ds.length ∧ (rdR (rSlot false) x.ds (a.index - 1)).ballot = x.ballot then a.index else d
def advL (x : Rcd) : Rcd:={ x with dk:=x.acks.foldl (advK x) x.dk }
theorem advK_in {x : Rcd} {d : Int} {a : Ack} (h0 : 0 ≤ d) (h1 : d ≤ x.ds.length) : 0 ≤ advK x d a ∧ advK x d a ≤ x.ds.length:=by
  unfold advK;split
  · rename_i h;exact ⟨by omega,h.2.2.1⟩
  · exact ⟨h0,h1⟩
theorem advS (x : Rcd) (i : AtRcd) (h0 : 0 ≤ x.dk) (h1 : x.dk ≤ x.ds.length) (hn : x.ds.length ≤ 1048576) (ha : x.acks.length ≤ 1048576) (has : ∀ a ∈ x.acks,a.frm.length ≤ 1048576) (HM : Mem w0 W (partRcd 91 40 9 3 66 x i ++ L)) : Calls Tryz.prog 105 #[.agg (encRcd x i).toArray] W fun e W'=>∃ j,e = .returned (.agg (encRcd (advL x) j).toArray) ∧ Mem w0 W' (partRcd 91 40 9 3 66 (advL x) j ++ L):=by
  refine enter Tryz.func105 rfl Tryz.ntmps105 [(0,.agg (encRcd x i).toArray)] rfl ⟨rfl,trivial⟩ ?_
  simp only [partRcd,List.cons_append,List.nil_append] at HM
  have HB:=HM
  obtain ⟨F1,hF1⟩:=HM.own (A:=i.a6.1)
  have ra:=ro_acks hF1
  obtain ⟨F2,hF2⟩:=HM.own (A:=i.a1.1)
  have rd:=ro_slots hF2
  clear hF1 hF2
  replace HM:=((Mem.start W).rod ra).rod rd
  unfold encRcd
  repeat (first|refine Y ?_|(refine qg ?_;clear HM;intro g W1 HM))
  rename_i gr _
  refine c_loop (σ:=Nat × Int) (fun s=>[(1,.pointer (some ⟨gr,0,none⟩)),(2,.pointer (some ⟨g,0,none⟩)),(3,.int .i64 s.1)]) (fun s W1=>s.1 ≤ x.acks.length ∧ s.2 = (x.acks.take s.1).foldl (advK x) x.dk ∧ 0 ≤ s.2 ∧ s.2 ≤ x.ds.length ∧ Mem W W1 (box gr 31 [.int .i64 x.number,.int .i64 x.of,.bool x.up,.int .i64 x.sp,.int .i64 x.sk,.slice i.a0.1 x.ss.length i.a0.2,.int .i64 x.dp,.int .i64 s.2,.slice i.a1.1 x.ds.length i.a1.2,.slice i.a2.1 x.held.length i.a2.2,.slice i.a3.1 x.wishes.length i.a3.2,.bool x.lead,.bool x.trying,.int .i64 x.ballot,.slice i.a4.1 x.yes.length i.a4.2,.slice i.a5.1 x.best.length i.a5.2,.slice i.a6.1 x.acks.length i.a6.2,.int .i64 x.heard] :: ro rAck W i.a6.1 x.acks :: ro (rSlot false) W i.a1.1 x.ds :: _)) (fun s=>x.acks.length - s.1) (0,x.dk) U ⟨Nat.zero_le _,rfl,h0,h1,((HM.pk (A:=ro (rSlot false) W i.a1.1 x.ds)).pk (A:=ro rAck W i.a6.1 x.acks)).pk (A:=box gr 31 [.int .i64 x.number,.int .i64 x.of,.bool x.up,.int .i64 x.sp,.int .i64 x.sk,.slice i.a0.1 x.ss.length i.a0.2,.int .i64 x.dp,.int .i64 x.dk,.slice i.a1.1 x.ds.length i.a1.2,.slice i.a2.1 x.held.length i.a2.2,.slice i.a3.1 x.wishes.length i.a3.2,.bool x.lead,.bool x.trying,.int .i64 x.ballot,.slice i.a4.1 x.yes.length i.a4.2,.slice i.a5.1 x.best.length i.a5.2,.slice i.a6.1 x.acks.length i.a6.2,.int .i64 x.heard])⟩ ?_
  clear HM
  rintro ⟨k,d⟩ W1 ⟨hk,hd,hd0,hd1,HM⟩
  dsimp only at hk hd hd0 hd1 HM ⊢
  by_cases hlt : k < x.acks.length
  · have e0:=rdR_at (D:=rAck) hlt
    have hs1:=has _ (List.getElem_mem hlt)
    have hstep : (x.acks.take (k + 1)).foldl (advK x) x.dk = advK x d x.acks[k]:=by rw [List.take_succ_eq_append_getElem hlt,List.foldl_append,← hd];rfl
    obtain ⟨cc,⟨j,rfl,hs⟩,HM⟩:=HM.roOpen (A:=i.a6.1) k hlt
    unfold encAck at HM
    generalize x.acks[k] = a at *
    have hx:=advK_in (x:=x) (a:=a) hd0 hd1
    by_cases t1 : a.index = d + 1
    rotate_left
    · rw [advK,if_neg (fun h=>t1 h.1)] at hstep hx
      repeat (first|(refine gR ?_;refine d_start [] [(0,0),(0,2),(0,3),(1,1),(1,4),(0,5),(0,6),(0,7),(0,8),(0,12),(1,9),(0,10),(0,11),(1,13),(0,14),(0,15),(0,16),(0,17),(0,19),(0,20),(1,18),(1,21),(0,22),(0,23),(0,24),(0,25),(0,26),(0,27),(0,29),(0,35),(1,28),(1,30),(0,31),(0,32),(0,33),(1,34),(1,36),(0,37),(0,38)] HM (by kernel_rfl) (by kernel_rfl) qq (by kernel_rfl) rfl ?_;intro HQ HS W1 HM1;replace HM:=HM1;clear HM1)|refine Y ?_|(refine qs ?_;clear HM;intro W1 HM)|(refine qg ?_;clear HM;intro g W1 HM))
      exact n_round (k + 1,d) U ⟨by dsimp only;omega,hstep.symm,hd0,hd1,HM.sb⟩ (by dsimp only;omega)
    by_cases t2 : x.of < 2 * (a.frm.length : Int)
    rotate_left
    · rw [advK,if_neg (fun h=>t2 h.2.1)] at hstep hx
      repeat (first|(refine gR ?_;refine d_start [] [(0,0),(0,2),(0,3),(1,1),(1,4),(0,5),(0,6),(0,7),(0,8),(0,12),(1,9),(0,10),(0,11),(1,13),(0,14),(0,15),(0,16),(0,17),(0,19),(0,20),(1,18),(1,21),(0,22),(0,23),(0,24),(0,25),(0,26),(0,27),(0,29),(0,35),(1,28),(1,30),(0,31),(0,32),(0,33),(1,34),(1,36),(0,37),(0,38)] HM (by kernel_rfl) (by kernel_rfl) qq (by kernel_rfl) rfl ?_;intro HQ HS W1 HM1;replace HM:=HM1;clear HM1)|refine Y ?_|(refine qs ?_;clear HM;intro W1 HM)|(refine qg ?_;clear HM;intro g W1 HM))
      exact n_round (k + 1,d) U ⟨by dsimp only;omega,hstep.symm,hd0,hd1,HM.sb⟩ (by dsimp only;omega)
    by_cases t3 : a.index ≤ x.ds.length
    rotate_left
    · rw [advK,if_neg (fun h=>t3 h.2.2.1)] at hstep hx
      repeat (first|(refine gR ?_;refine d_start [] [(0,0),(0,2),(0,3),(1,1),(1,4),(0,5),(0,6),(0,7),(0,8),(0,12),(1,9),(0,10),(0,11),(1,13),(0,14),(0,15),(0,16),(0,17),(0,19),(0,20),(1,18),(1,21),(0,22),(0,23),(0,24),(0,25),(0,26),(0,27),(0,29),(0,35),(1,28),(1,30),(0,31),(0,32),(0,33),(1,34),(1,36),(0,37),(0,38)] HM (by kernel_rfl) (by kernel_rfl) qq (by kernel_rfl) rfl ?_;intro HQ HS W1 HM1;replace HM:=HM1;clear HM1)|refine Y ?_|(refine qs ?_;clear HM;intro W1 HM)|(refine qg ?_;clear HM;intro g W1 HM))
      exact n_round (k + 1,d) U ⟨by dsimp only;omega,hstep.symm,hd0,hd1,HM.sb⟩ (by dsimp only;omega)
    by_cases t4 : (rdR (rSlot false) x.ds (a.index - 1)).ballot = x.ballot
    rotate_left
    · rw [advK,if_neg (fun h=>t4 h.2.2.2)] at hstep hx
      repeat (first|(refine gR ?_;refine d_start [] [(0,0),(0,2),(0,3),(1,1),(1,4),(0,5),(0,6),(0,7),(0,8),(0,12),(1,9),(0,10),(0,11),(1,13),(0,14),(0,15),(0,16),(0,17),(0,19),(0,20),(1,18),(1,21),(0,22),(0,23),(0,24),(0,25),(0,26),(0,27),(0,29),(0,35),(1,28),(1,30),(0,31),(0,32),(0,33),(1,34),(1,36),(0,37),(0,38)] HM (by kernel_rfl) (by kernel_rfl) qq (by kernel_rfl) rfl ?_;intro HQ HS W1 HM1;replace HM:=HM1;clear HM1)|refine Y ?_|(refine qs ?_;clear HM;intro W1 HM)|(refine qg ?_;clear HM;intro g W1 HM))
      exact n_round (k + 1,d) U ⟨by dsimp only;omega,hstep.symm,hd0,hd1,HM.sb⟩ (by dsimp only;omega)
    · rw [advK,if_pos ⟨t1,t2,t3,t4⟩] at hstep hx
      repeat (first|(refine gR ?_;refine d_start [] [(0,0),(0,2),(0,3),(1,1),(1,4),(0,5),(0,6),(0,7),(0,8),(0,12),(1,9),(0,10),(0,11),(1,13),(0,14),(0,15),(0,16),(0,17),(0,19),(0,20),(1,18),(1,21),(0,22),(0,23),(0,24),(0,25),(0,26),(0,27),(0,29),(0,35),(1,28),(1,30),(0,31),(0,32),(0,33),(1,34),(1,36),(0,37),(0,38)] HM (by kernel_rfl) (by kernel_rfl) qq (by kernel_rfl) rfl ?_;intro HQ HS W1 HM1;replace HM:=HM1;clear HM1)|refine Y ?_|(refine qs ?_;clear HM;intro W1 HM)|(refine qg ?_;clear HM;intro g W1 HM))
      exact n_round (k + 1,a.index) U ⟨by dsimp only;omega,hstep.symm,hx.1,hx.2,HM.sb⟩ (by dsimp only;omega)
  · obtain rfl : k = x.acks.length:=by omega
    rw [List.take_length] at hd
    repeat (first|refine Y ?_|(refine qs ?_;clear HM;intro W1 HM))
    replace HM:=HB.join HM
    simp only [List.cons_append,List.nil_append] at HM
    exact ret_cell HM rfl rfl rfl ⟨i,by rw [advL,← hd],by simp only [advL,partRcd,List.cons_append,List.nil_append];exact HM.sb⟩
end Go.Proofs.YtampmicahnnebaaGreat.Sp
namespace Go.Proofs.YtampmicahnnebaaGreat.Sp
open Go Go.RowKit
variable {w0 W : World} {L : List Asn} {α : Type} {D : Ty α} {e c : Nat} {A : Option Addr} {xs : List α} {css : List (List Value)}
def tRaw (n : Nat) : Ty (List Value) where
  sz:=n
  z:=[]
  A:=fun x c=>exP (fun _ : Unit=>c = x ∧ c.length = n ∧ ∀ u ∈ c,u.oneCell' = true) (fun _=>[])
  get:=fun _ _=>none
  set:=fun _ _ _=>none
  len:=fun ⟨_,h,_⟩=>h.2.1
  one:=fun ⟨_,h,_⟩=>h.2.2
  get_ok:=fun _ h=>by cases h
  set_ok:=fun _ h=>by cases h
def rRaw (n : Nat) : TyR (List Value) where
  sz:=n
  z:=[]
  R:=fun _ x c=>c = x ∧ c.length = n
  get:=fun _ _=>none
  len:=fun h=>h.2
  get_ok:=fun _ h=>by cases h
instance {n : Nat} : FlatR (rRaw n) id:=⟨fun h=>h.1⟩
theorem ro_raws {n : Nat} {F : Nat → Prop} (h : (own (tRaw n) e A c css).H W F) : RoRow (rRaw n) W A css:=own_ro (D:=tRaw n) (DR:=rRaw n) rfl (fun ⟨_,h,_⟩=>⟨h.1,h.2.1⟩) h
theorem els_raw {n : Nat} (W : World) : ∀ (css : List (List Value)) (ok : Nat → Prop),(∀ c ∈ css,c.length = n) → (∀ u ∈ css.flatten,u.oneCell' = true) → SepIn W ok (els (tRaw n) css css)
  | [],_,_,_=>trivial
  | y :: ys,ok,h1,h2=>⟨fun _=>False,fun _ h=>h.elim,⟨(),⟨rfl,h1 y (by simp),fun u hu=>h2 u (by simp [hu])⟩,trivial⟩,(els_raw W ys ok (fun c hc=>h1 c (by simp [hc])) (fun u hu=>h2 u (by simp only [List.flatten_cons,List.mem_append];exact .inr hu))).mono (fun k hk=>⟨hk,fun h=>h⟩)⟩
theorem opn_raw (h : Mem w0 W (own D e A c xs :: L)) : ∃ css : List (List Value),css.length = xs.length ∧ Mem w0 W (own (tRaw D.sz) e A c css :: lels D xs css :: L):=by
  obtain ⟨css,hl,h⟩:=h.ex
  obtain ⟨h1,h2⟩ : (∀ c ∈ css,c.length = D.sz) ∧ (∀ u ∈ css.flatten,u.oneCell' = true):=by
    obtain ⟨F,_,_,h3⟩:=h.sep
    obtain ⟨G,_,h4,_⟩:=SepIn.append h3
    exact ⟨els_len hl h4,els_one hl h4⟩
  refine ⟨css,hl,?_⟩
  have h3 : Mem w0 W (els D xs css ++ (row e D.sz A xs.length c css.flatten :: L)):=h.perm (List.perm_middle (a:=row e D.sz A xs.length c css.flatten) (l₁:=els D xs css) (l₂:=L)).symm
  have h4 : Mem w0 W (lels D xs css :: row e D.sz A xs.length c css.flatten :: L):=Mem.mkx () hl h3
  have h5 : Mem w0 W (lels (tRaw D.sz) css css :: lels D xs css :: row e D.sz A xs.length c css.flatten :: L):=⟨h4.below,fun _=>False,fun _ h=>h.elim,⟨(),rfl,els_raw W css _ h1 h2⟩,h4.sep.mono (fun k hk=>⟨hk,fun h=>h⟩)⟩
  obtain ⟨_,_,h6⟩:=h5.ex
  refine Mem.mkx css rfl ?_
  rw [hl]
  refine h6.perm ?_
  refine (List.Perm.append_left _ (List.Perm.swap (row e D.sz A xs.length c css.flatten) (lels D xs css) L)).trans ?_
  exact List.perm_middle (a:=row e D.sz A xs.length c css.flatten) (l₁:=els (tRaw D.sz) css css) (l₂:=lels D xs css :: L)
theorem lels_split (k : Nat) (h : Mem w0 W (lels D xs css :: L)) : Mem w0 W (lels D (xs.take k) (css.take k) :: lels D (xs.drop k) (css.drop k) :: L):=by
  obtain ⟨_,hl,h⟩:=h.ex
  rw [lels_take css xs k hl,List.append_assoc] at h
  have h1 : Mem w0 W (lels D (xs.take k) (css.take k) :: (els D (xs.drop k) (css.drop k) ++ L)):=Mem.mkx () (by simp;omega) h
  have h2 : Mem w0 W (lels D (xs.drop k) (css.drop k) :: lels D (xs.take k) (css.take k) :: L):=Mem.mkx () (by simp;omega) (h1.perm (List.perm_middle (a:=lels D (xs.take k) (css.take k)) (l₁:=els D (xs.drop k) (css.drop k)) (l₂:=L)).symm)
  exact h2.perm (List.Perm.swap ..)
theorem opn_at (k : Nat) (h : Mem w0 W (own D e A c xs :: L)) : ∃ css : List (List Value),css.length = xs.length ∧ Mem w0 W (lels D (xs.take k) (css.take k) :: lels D (xs.drop k) (css.drop k) :: own (tRaw D.sz) e A c css :: L):=by
  obtain ⟨css,hl,h⟩:=opn_raw h
  exact ⟨css,hl,lels_split k (h.perm (List.Perm.swap ..))⟩
theorem rdc_take {n : Nat} {F : Nat → Prop} (h : (own (tRaw n) e A c css).H W F) (k : Nat) : Rdc W n A (css.take k).length (css.take k).flatten:=by
  have:=ro_rdc (ro_take (ro_raws h) k)
  rwa [List.map_id] at this
theorem rdc_drop {n : Nat} {F : Nat → Prop} (h : (own (tRaw n) e A c css).H W F) {k : Nat} (hk : k ≤ css.length) (hc : css.length ≤ c) : Rdc W n (fromA A n c k) (css.drop k).length (css.drop k).flatten:=by
  have:=ro_rdc (ro_drop (ro_raws h) hk hc)
  rwa [List.map_id] at this
section
variable {P : Program} {n : Nat} {Q : Exit → Act → World → Prop} {E : Env}
theorem x_last {ll : List Oper} {S : World → Prop} {ds : List Nat} {fuel : Nat} {l l' : Array Bool} {o : Oper} (i : Nat) (hr : Region.ready .any ll.toArray l = [i]) (ho : nthO ll i = some o) (hl : l.setIfInBounds i true = l') (hd : Region.ready .any ll.toArray l' = []) (hds : ds.contains i = true) (h : WL P n ll.toArray (Exit.then (fun a w=>Q .normal a w) Q) [o] E W) : WX P n ll.toArray Q S ds l (fuel + 1) E W:=by
  have ho' : ll.toArray[i]? = some o:=by rw [nthO_eq] at ho;simpa using ho
  refine ⟨fun a ha hS=>?_⟩
  refine Go.Proofs.YtampmicahnnebaaGreatW.PrintLast.wpAnyLast_all hr (by simp) (fun q hq=>?_)
  obtain rfl : q = i:=by simpa using hq
  rw [hl]
  refine wpOp_mono (fun a' w' hk=>⟨fun hn=>absurd (by simpa using hds) hn,Go.Proofs.YtampmicahnnebaaGreatW.PrintLast.wpAnyLast_done hd hk _⟩) (list_wpOp ho' (h.out a ha))
theorem x_backl (h : WN n .normal Q E W) : WN n .normal (Exit.then (fun a w=>Q .normal a w) Q) E W:=⟨fun a ha=>h.out a ha⟩
theorem d_startd {id : Nat} {l : List Oper} {B : Asn} (ds : List Nat) (plan : List (Nat × Nat)) (hm : Mem w0 W (B :: L)) (hmix : P.follows .mixedOrders = true) (hsel : Region.noSelect l.toArray = true) (hq : QP Q)
    (hp : planB l.toArray ds (Array.replicate l.toArray.size false) plan = true) (hlen : plan.length = l.toArray.size) (h : QP Q → Region.noSelect l.toArray = true → ∀ W1,Mem w0 W1 (B :: L) → WD P n l.toArray Q (fun w=>Mem w0 w L) ds plan E W1) : WC P n (.region id l.toArray true) Q E W:=by
  refine ⟨fun a ha=>?_⟩
  refine Go.Proofs.YtampmicahnnebaaGreatW.PrintLast.start_ (S:=fun w=>Mem w0 w L) (ds:=ds) (n:=plan.length) (Array.replicate l.toArray.size false) hmix hlen.symm (by rw [hlen]) (hm.drew.drop) (fun hS=>?_)
  exact (h hq hsel _ hm.drew).out _ hp a ha hS
end
end Go.Proofs.YtampmicahnnebaaGreat.Sp
namespace Go.Proofs.YtampmicahnnebaaGreat.Sp
open Go Go.RowKit
set_option maxRecDepth 10000
set_option maxHeartbeats 4000000
section
variable {P : Program} {n : Nat} {ops : Array Oper} {Q : Exit → Act → World → Prop} {rest : List Oper} {E : Env} {w0 W : World} {L : List Asn} {d src dst e g t : Nat} {ty : TypeId} {pos : String} {after : Array Edge} {x y : Operand} {s s' : ByteArray} {xt yt : TypeId} {k k' : IntKind} {m : Int} {us : TypeDesc}
end
def mtGo : Nat → Nat → ByteArray → ByteArray
  | 0,_,o=>o
  | f + 1,k,o=>if k = 0 then o else mtGo f (k / 10) (strOfNums [IntKind.u8.wrap (48 + ((k % 10 : Nat) : Int))] ++ o)
def mt (k : Nat) : ByteArray:=⟨#[109]⟩ ++ mtGo k k ⟨#[]⟩
end Go.Proofs.YtampmicahnnebaaGreat.Sp
namespace Go.Proofs.YtampmicahnnebaaGreat.Sp
open Go Go.RowKit
set_option maxRecDepth 10000
set_option maxHeartbeats 4000000
variable {w0 W : World} {L : List Asn} {A : Option Addr} {c : Nat}
section
variable {α ι : Type} {e : Nat} {xs : List α}
theorem opn_nest {sz : Nat} {z : α} {enc : α → ι → List Value} {parts : α → ι → List Asn} {get : α → Nat → Option Value} {set : α → Nat → Value → Option α} {hl h1 hg hs} (h : Mem w0 W (own (nest sz z enc parts get set hl h1 hg hs) e A c xs :: L)) (i : Nat) (hi : i < xs.length) :
    ∃ j,Mem w0 W (hol (nest sz z enc parts get set hl h1 hg hs) e A c xs i (enc xs[i] j) :: (parts xs[i] j ++ L)):=by
  obtain ⟨cs,h2⟩:=opn_ h i hi
  have h3 : Mem w0 W (exP (fun j=>cs = enc xs[i] j) (parts xs[i]) :: hol (nest sz z enc parts get set hl h1 hg hs) e A c xs i cs :: L):=h2.perm (List.Perm.swap ..)
  obtain ⟨j,rfl,h4⟩:=h3.ex
  exact ⟨j,h4.perm List.perm_middle⟩
theorem cls_nest {sz : Nat} {z : α} {enc : α → ι → List Value} {parts : α → ι → List Asn} {get : α → Nat → Option Value} {set : α → Nat → Value → Option α} {hl h1 hg hs} {i : Nat} {x : α} {j : ι} (h : Mem w0 W (hol (nest sz z enc parts get set hl h1 hg hs) e A c xs i (enc x j) :: (parts x j ++ L))) :
    Mem w0 W (own (nest sz z enc parts get set hl h1 hg hs) e A c (xs.set i x) :: L):=by
  have h4:=h.perm (List.perm_middle (a:=hol (nest sz z enc parts get set hl h1 hg hs) e A c xs i (enc x j)) (l₁:=parts x j) (l₂:=L)).symm
  have h3 : Mem w0 W (exP (fun k=>enc x j = enc x k) (parts x) :: hol (nest sz z enc parts get set hl h1 hg hs) e A c xs i (enc x j) :: L):=Mem.mkx j rfl h4
  exact cls_ (h3.perm (List.Perm.swap ..))
end
end Go.Proofs.YtampmicahnnebaaGreat.Sp
