/- RecValid of both sides. No condition. -/
import Derived.Test.YtampmicahnnebaaGreatRecClaim1
import Derived.Laws.BytesArg
set_option linter.unusedVariables false
set_option linter.unusedSimpArgs false
namespace Go.Proofs.YtampmicahnnebaaGreat.Sp
open Go Go.RowKit
set_option maxRecDepth 10000
set_option maxHeartbeats 8000000
variable {w0 W : World} {L : List Asn} {A : Option Addr} {c : Nat}
def quietB (x : Rcd) : Bool:=!x.lead && !x.trying && decide (x.ballot = 0) && decide ((x.yes.length : Int) + x.best.length + x.acks.length = 0)
def headB (x : Rcd) : Bool:=decide (1 ≤ x.of ∧ x.of ≤ 5) && decide (1 ≤ x.number ∧ x.number ≤ x.of) && diskB x.sp x.sk x.ss && diskB x.dp x.dk x.ds && !decide ((400 : Int) < x.held.length) && wishesB x.wishes && decide (0 ≤ x.heard ∧ x.heard ≤ 1000000)
def heldB (x : Rcd) (n : Nat) : Bool:=allN (fun j=>msgB (rdR (rMsg false) x.held j) x.of && decide ((rdR (rMsg false) x.held j).frm = x.number)) n
def midB (x : Rcd) : Bool:=numbersB x.yes x.of && slotsB x.best && acksB x.acks x.of && !(x.lead && x.trying)
def leadB (x : Rcd) : Bool:=if x.lead || x.trying then decide (1 ≤ x.ballot ∧ x.ballot ≤ x.dp) && !(x.trying && decide ((0 : Int) < x.acks.length)) && !(x.lead && decide ((0 : Int) < (x.yes.length : Int) + x.best.length)) else quietB x
def upB (x : Rcd) : Bool:=x.up || (quietB x && decide ((x.held.length : Int) + x.wishes.length + x.heard = 0))
def validB (x : Rcd) : Bool:=headB x && heldB x x.held.length && midB x && leadB x && upB x
theorem specQuiet (x : Rcd) (i : AtRcd) (hn : SmallR x) (HM : Mem w0 W L) : Calls Tryz.prog 46 #[.agg (encRcd x i).toArray] W fun e W'=>e = .returned (.bool (quietB x)) ∧ Mem w0 W' L:=by
  refine enter Tryz.func46 rfl Tryz.ntmps46 [(0,.agg (encRcd x i).toArray)] rfl ⟨rfl,trivial⟩ ?_
  have s1:=hn.yes
  have s2:=hn.best
  have s3:=hn.acks
  unfold encRcd
  repeat' (first|refine Y ?_|(refine qg ?_;clear HM;intro g W1 HM)|(refine gL ?_;refine s_split rfl rfl rfl rfl (fun h=>?_) (fun h=>?_)))
  all_goals exact ret_tmp rfl rfl ⟨by first|(simp_all [quietB];done)|(simp_all [quietB];intros;omega),HM.sb⟩
theorem specValid (x : Rcd) (i : AtRcd) (h : RoRcd false w0 x i) (hn : SmallR x) (HM : Mem w0 W L) : Calls Tryz.prog 9 #[.agg (encRcd x i).toArray] W fun e W'=>e = .returned (.bool (validB x)) ∧ Mem w0 W' L:=by
  refine enter Tryz.func9 rfl Tryz.ntmps9 [(0,.agg (encRcd x i).toArray)] rfl ⟨rfl,trivial⟩ ?_
  have s1:=hn.yes
  have s2:=hn.best
  have s3:=hn.acks
  have s4:=hn.held
  have s5:=hn.wishes
  have h0:=h
  unfold encRcd
  replace HM:=HM.pur h.held
  repeat' (first|refine Y ?_|(refine qf ?_;first|(go_at_call 39;refine (l1In_c _ _ _ _).mono ?_;rintro e W1 ⟨rfl,rfl⟩;refine ⟨_,rfl,?_⟩)|(go_at_call 40;refine (specDisk _ _ (by first|with_reducible exact h0.ss|with_reducible exact h0.ds) HM).mono ?_;rintro e W1 ⟨rfl,HM1⟩;refine ⟨_,rfl,?_⟩;replace HM:=HM1;clear HM1)|(go_at_call 41;refine (specWishes h0.wishes HM).mono ?_;rintro e W1 ⟨rfl,HM1⟩;refine ⟨_,rfl,?_⟩;replace HM:=HM1;clear HM1))|(refine qg ?_;clear HM;intro g W1 HM)|(refine gL ?_;refine s_split rfl rfl rfl rfl (fun h=>?_) (fun h=>?_))|refine c_cond rfl (fun h=>?_) (fun h=>?_))
  all_goals try exact ret_tmp rfl rfl ⟨by rw [validB,show headB x = false by first|(simp_all [headB];done)|(simp_all [headB];intros;omega)];rfl,HM.sb⟩
  have hh : headB x = true:=by first|(simp_all [headB];done)|(simp_all [headB];intros;omega)
  have hb : 0 ≤ x.heard ∧ x.heard ≤ 1000000:=by first|(simp_all [headB];done)|(simp_all [headB];intros;omega)
  refine c_loop (σ:=Nat) (fun k=>[(1,.pointer (some ⟨g,0,none⟩)),(3,.int .i64 k)]) (fun k W1=>k ≤ x.held.length ∧ heldB x k = true ∧ Mem w0 W1 (box g 31 [.int .i64 x.number,.int .i64 x.of,.bool x.up,.int .i64 x.sp,.int .i64 x.sk,.slice i.a0.1 x.ss.length i.a0.2,.int .i64 x.dp,.int .i64 x.dk,.slice i.a1.1 x.ds.length i.a1.2,.slice i.a2.1 x.held.length i.a2.2,.slice i.a3.1 x.wishes.length i.a3.2,.bool x.lead,.bool x.trying,.int .i64 x.ballot,.slice i.a4.1 x.yes.length i.a4.2,.slice i.a5.1 x.best.length i.a5.2,.slice i.a6.1 x.acks.length i.a6.2,.int .i64 x.heard] :: ro (rMsg false) w0 i.a2.1 x.held :: L)) (fun k=>x.held.length - k) 0 U ⟨Nat.zero_le _,allN_zero,HM⟩ ?_
  clear HM
  rintro k W1 ⟨hk,hp,HM⟩
  by_cases hlt : k < x.held.length
  · have e0:=rdR_at (D:=rMsg false) hlt
    obtain ⟨cc,⟨j,rfl,_,hs⟩,HM⟩:=HM.roOpen (A:=i.a2.1) k hlt
    repeat' (first|(refine gR ?_;refine d_start [] [(0,0),(0,2),(0,5),(1,1),(0,3),(1,4),(1,6),(2,7),(0,8),(0,9),(0,10),(0,12),(0,16),(1,11),(0,13),(0,14),(1,15),(1,17),(0,18),(0,19)] HM (by kernel_rfl) (by kernel_rfl) qq (by kernel_rfl) rfl ?_;intro HQ HS W1 HM1;replace HM:=HM1;clear HM1)|refine Y ?_|(refine qf ?_;go_at_call 42;refine (specMsg _ _ _ hs HM).mono ?_;rintro e W1 ⟨rfl,HM1⟩;refine ⟨_,rfl,?_⟩;replace HM:=HM1;clear HM1)|(refine gO ?_;refine d_split rfl rfl rfl rfl (fun h=>?_) (fun h=>?_))|refine c_cond rfl (fun h=>?_) (fun h=>?_))
    all_goals first
      | exact ret_tmp rfl rfl ⟨by rw [validB,show heldB x x.held.length = false from allN_fail hlt (by first|(simp_all;done)|(simp_all;intros;omega))];simp,HM.sb⟩
      | exact n_round (k + 1) U ⟨by omega,allN_succ hp (by first|(simp_all;done)|(simp_all;intros;omega)),HM.sb⟩ (by omega)
  · obtain rfl : k = x.held.length:=by omega
    repeat' (first|refine Y ?_|(refine qf ?_;first|(go_at_call 39;refine (l1In_c _ _ _ _).mono ?_;rintro e W1 ⟨rfl,rfl⟩;refine ⟨_,rfl,?_⟩)|(go_at_call 43;refine (specNumbers _ h0.yes HM).mono ?_;rintro e W1 ⟨rfl,HM1⟩;refine ⟨_,rfl,?_⟩;replace HM:=HM1;clear HM1)|(go_at_call 44;refine (specSlots h0.best HM).mono ?_;rintro e W1 ⟨rfl,HM1⟩;refine ⟨_,rfl,?_⟩;replace HM:=HM1;clear HM1)|(go_at_call 45;refine (specAcks _ h0.acks HM).mono ?_;rintro e W1 ⟨rfl,HM1⟩;refine ⟨_,rfl,?_⟩;replace HM:=HM1;clear HM1)|(go_at_call 46;refine (specQuiet x i hn HM).mono ?_;rintro e W1 ⟨rfl,HM1⟩;refine ⟨_,rfl,?_⟩;replace HM:=HM1;clear HM1))|(refine gL ?_;refine s_split rfl rfl rfl rfl (fun h=>?_) (fun h=>?_))|refine c_cond rfl (fun h=>?_) (fun h=>?_))
    all_goals first
      | exact ret_tmp rfl rfl ⟨by rw [validB,show midB x = false by first|(simp_all [midB];done)|(simp_all [midB];intros;omega)];simp,HM.sb⟩
      | exact ret_tmp rfl rfl ⟨by rw [validB,show leadB x = false by first|(simp_all [leadB];done)|(simp_all [leadB];intros;omega)];simp,HM.sb⟩
      | exact ret_tmp rfl rfl ⟨by rw [validB,hh,hp,show midB x = true by first|(simp_all [midB];done)|(simp_all [midB];intros;omega),show leadB x = true by first|(simp_all [leadB];done)|(simp_all [leadB];intros;omega)];first|(simp_all [upB];done)|(simp_all [upB];intros;omega),HM.sb⟩
end Go.Proofs.YtampmicahnnebaaGreat.Sp
namespace Go.Proofs.YtampmicahnnebaaGreat.Sp
open Go Go.RowKit
set_option maxRecDepth 10000
set_option maxHeartbeats 8000000
variable {w0 W : World} {L : List Asn} {A : Option Addr} {c : Nat}
theorem hasTake {xs : List ByteArray} (k : Nat) (hk : k ≤ xs.length) (s : ByteArray) (h : RoRow (rStr false) w0 A xs) (HM : Mem w0 W L) : Calls Tryz.prog 51 #[.slice A (k : Int).toNat c,.string s] W fun e W'=>e = .returned (.bool (!newB xs k s)) ∧ Mem w0 W' L:=by
  have hl : (xs.take k).length = k:=by simp;omega
  refine Calls.mono (has_c (xs:=xs.take k) (by simp;omega) s (ro_take h k) HM) ?_
  rintro e W1 ⟨rfl,HM⟩
  refine ⟨?_,HM⟩
  rw [hl]
  have : newB (xs.take k) k s = newB xs k s:=allN_congr (fun j hj=>by rw [rdR_take hj])
  rw [this]
theorem implValid (x : Rcd) (i : AtRcd) (h : RoRcd false w0 x i) (hc : x.wishes.length ≤ i.a3.2) (hn : SmallR x) (HM : Mem w0 W L) : Calls Tryz.prog 10 #[.agg (encRcd x i).toArray] W fun e W'=>e = .returned (.bool (validB x)) ∧ Mem w0 W' L:=by
  refine enter Tryz.func10 rfl Tryz.ntmps10 [(0,.agg (encRcd x i).toArray)] rfl ⟨rfl,trivial⟩ ?_
  have s1:=hn.yes
  have s2:=hn.best
  have s3:=hn.acks
  have s4:=hn.held
  have s5:=hn.wishes
  have h0:=h
  unfold encRcd
  replace HM:=((HM.pur h.held).pur h.wishes).pur h.acks
  by_cases n20 : (20 : Int) < x.wishes.length
  · repeat' (first|refine Y ?_|(refine qf ?_;first|(go_at_call 47;refine (within_c _ _ _ _).mono ?_;rintro e W1 ⟨rfl,rfl⟩;refine ⟨_,rfl,?_⟩)|(go_at_call 48;refine (implDisk _ _ (by first|with_reducible exact h0.ss|with_reducible exact h0.ds) HM).mono ?_;rintro e W1 ⟨rfl,HM1⟩;refine ⟨_,rfl,?_⟩;replace HM:=HM1;clear HM1))|(refine qg ?_;clear HM;intro g W1 HM)|(refine gL ?_;refine s_split rfl rfl rfl rfl (fun h=>?_) (fun h=>?_)))
    all_goals
      have hw : wishesB x.wishes = false:=by rw [wishesB,show decide ((x.wishes.length : Int) ≤ 20) = false by simp;omega];rfl
      exact ret_tmp rfl rfl ⟨by rw [validB,show headB x = false by rw [headB,hw];simp];rfl,HM.sb⟩
  repeat' (first|refine Y ?_|(refine qf ?_;first|(go_at_call 47;refine (within_c _ _ _ _).mono ?_;rintro e W1 ⟨rfl,rfl⟩;refine ⟨_,rfl,?_⟩)|(go_at_call 48;refine (implDisk _ _ (by first|with_reducible exact h0.ss|with_reducible exact h0.ds) HM).mono ?_;rintro e W1 ⟨rfl,HM1⟩;refine ⟨_,rfl,?_⟩;replace HM:=HM1;clear HM1)|(go_at_call 49;refine (implNumbers _ h0.yes HM).mono ?_;rintro e W1 ⟨rfl,HM1⟩;refine ⟨_,rfl,?_⟩;replace HM:=HM1;clear HM1)|(go_at_call 50;refine (implSlots h0.best HM).mono ?_;rintro e W1 ⟨rfl,HM1⟩;refine ⟨_,rfl,?_⟩;replace HM:=HM1;clear HM1))|(refine qg ?_;clear HM;intro g W1 HM)|(refine gL ?_;refine s_split rfl rfl rfl rfl (fun h=>?_) (fun h=>?_))|refine c_cond rfl (fun h=>?_) (fun h=>?_))
  all_goals try exact ret_tmp rfl rfl ⟨by rw [validB,show headB x = false by first|(simp_all [headB];done)|(simp_all [headB];intros;omega)];rfl,HM.sb⟩
  all_goals try exact ret_tmp rfl rfl ⟨by rw [validB,show midB x = false by first|(simp_all [midB];done)|(simp_all [midB];intros;omega)];simp,HM.sb⟩
  have hh : wishesB x.wishes = true → headB x = true:=by intro hw;first|(simp_all [headB];done)|(simp_all [headB];intros;omega)
  have hb : 0 ≤ x.heard ∧ x.heard ≤ 1000000:=by first|(simp_all [headB];done)|(simp_all [headB];intros;omega)
  have hy : numbersB x.yes x.of = true:=by simp_all
  have ht : slotsB x.best = true:=by simp_all
  rename_i q1 v1 q2 v2 q3 q4 q5 v3 q6 v4 q7
  clear q1 q2 q3 q4 q5 q6 q7 h
  refine c_loop (σ:=Nat) (fun k=>[(1,.pointer (some ⟨g,0,none⟩)),(66,.slice i.a2.1 x.held.length i.a2.2),(67,.int .i64 x.held.length),(68,.int .i64 k)]) (fun k W1=>k ≤ x.held.length ∧ heldB x k = true ∧ Mem w0 W1 (box g 31 [.int .i64 x.number,.int .i64 x.of,.bool x.up,.int .i64 x.sp,.int .i64 x.sk,.slice i.a0.1 x.ss.length i.a0.2,.int .i64 x.dp,.int .i64 x.dk,.slice i.a1.1 x.ds.length i.a1.2,.slice i.a2.1 x.held.length i.a2.2,.slice i.a3.1 x.wishes.length i.a3.2,.bool x.lead,.bool x.trying,.int .i64 x.ballot,.slice i.a4.1 x.yes.length i.a4.2,.slice i.a5.1 x.best.length i.a5.2,.slice i.a6.1 x.acks.length i.a6.2,.int .i64 x.heard] :: ro rAck w0 i.a6.1 x.acks :: ro (rStr false) w0 i.a3.1 x.wishes :: ro (rMsg false) w0 i.a2.1 x.held :: L)) (fun k=>x.held.length - k) 0 U ⟨Nat.zero_le _,allN_zero,HM⟩ ?_
  clear HM
  rintro k W1 ⟨hk,hp,HM⟩
  by_cases hlt : k < x.held.length
  · have e0:=rdR_at (D:=rMsg false) hlt
    obtain ⟨cc,⟨j,rfl,_,hs⟩,HM⟩:=HM.roOpen (A:=i.a2.1) k hlt
    unfold encMsg at HM
    repeat' (first|refine Y ?_|(refine qs ?_;clear HM;intro W1 HM)|(refine qf ?_;go_at_call 11;refine (implMsg (x.held[k]) j _ hs HM).mono ?_;rintro e W1 ⟨rfl,HM1⟩;refine ⟨_,rfl,?_⟩;replace HM:=HM1;clear HM1)|(refine qg ?_;clear HM;intro g W1 HM)|(refine gL ?_;refine s_split rfl rfl rfl rfl (fun h=>?_) (fun h=>?_))|refine c_cond rfl (fun h=>?_) (fun h=>?_))
    all_goals first
      | exact ret_tmp rfl rfl ⟨by rw [validB,show heldB x x.held.length = false from allN_fail hlt (by clear HM hh hb h0 hn hy ht hp;first|(simp_all;done)|(simp_all;intros;omega))];simp,HM.sb⟩
      | exact n_round (k + 1) U ⟨by omega,allN_succ hp (by clear HM hh hb h0 hn hy ht hp;first|(simp_all;done)|(simp_all;intros;omega)),HM.sb⟩ (by omega)
  obtain rfl : k = x.held.length:=by omega
  repeat refine Y ?_
  refine c_loop (σ:=Nat) (fun k=>[(1,.pointer (some ⟨g,0,none⟩)),(86,.slice i.a3.1 x.wishes.length i.a3.2),(87,.int .i64 x.wishes.length),(88,.int .i64 k)]) (fun k W1=>k ≤ x.wishes.length ∧ allN (wishB x.wishes) k = true ∧ Mem w0 W1 (box g 31 [.int .i64 x.number,.int .i64 x.of,.bool x.up,.int .i64 x.sp,.int .i64 x.sk,.slice i.a0.1 x.ss.length i.a0.2,.int .i64 x.dp,.int .i64 x.dk,.slice i.a1.1 x.ds.length i.a1.2,.slice i.a2.1 x.held.length i.a2.2,.slice i.a3.1 x.wishes.length i.a3.2,.bool x.lead,.bool x.trying,.int .i64 x.ballot,.slice i.a4.1 x.yes.length i.a4.2,.slice i.a5.1 x.best.length i.a5.2,.slice i.a6.1 x.acks.length i.a6.2,.int .i64 x.heard] :: ro rAck w0 i.a6.1 x.acks :: ro (rStr false) w0 i.a3.1 x.wishes :: ro (rMsg false) w0 i.a2.1 x.held :: L)) (fun k=>x.wishes.length - k) 0 U ⟨Nat.zero_le _,allN_zero,HM⟩ ?_
  clear HM
  rintro k W1 ⟨hk2,hp2,HM⟩
  by_cases hlt2 : k < x.wishes.length
  · have hk3 : k ≤ x.wishes.length:=by omega
    repeat' (first|refine Y ?_|(refine qf ?_;first|(go_at_call 47;refine (within_c _ _ _ _).mono ?_;rintro e W1 ⟨rfl,rfl⟩;refine ⟨_,rfl,?_⟩)|(go_at_call 51;refine (hasTake k hk3 _ h0.wishes HM).mono ?_;rintro e W1 ⟨rfl,HM1⟩;refine ⟨_,rfl,?_⟩;replace HM:=HM1;clear HM1))|(refine gL ?_;refine s_split rfl rfl rfl rfl (fun h=>?_) (fun h=>?_))|refine c_cond rfl (fun h=>?_) (fun h=>?_))
    all_goals first
      | exact ret_tmp rfl rfl ⟨by rw [validB,headB,wishesB,allN_fail hlt2 (by clear HM hh hb h0 hn hy ht hp hp2;first|(simp_all [wishB];done)|(simp_all [wishB];intros;omega))];simp,HM.sb⟩
      | exact n_round (k + 1) U ⟨by omega,allN_succ hp2 (by clear HM hh hb h0 hn hy ht hp hp2;first|(simp_all [wishB];done)|(simp_all [wishB];intros;omega)),HM.sb⟩ (by omega)
  obtain rfl : k = x.wishes.length:=by omega
  have hw : wishesB x.wishes = true:=by rw [wishesB,hp2];simp;omega
  have hd:=hh hw
  repeat refine Y ?_
  refine c_loop (σ:=Nat) (fun k=>[(1,.pointer (some ⟨g,0,none⟩)),(107,.slice i.a6.1 x.acks.length i.a6.2),(108,.int .i64 x.acks.length),(109,.int .i64 k)]) (fun k W1=>k ≤ x.acks.length ∧ allN (ackB x.acks x.of) k = true ∧ Mem w0 W1 (box g 31 [.int .i64 x.number,.int .i64 x.of,.bool x.up,.int .i64 x.sp,.int .i64 x.sk,.slice i.a0.1 x.ss.length i.a0.2,.int .i64 x.dp,.int .i64 x.dk,.slice i.a1.1 x.ds.length i.a1.2,.slice i.a2.1 x.held.length i.a2.2,.slice i.a3.1 x.wishes.length i.a3.2,.bool x.lead,.bool x.trying,.int .i64 x.ballot,.slice i.a4.1 x.yes.length i.a4.2,.slice i.a5.1 x.best.length i.a5.2,.slice i.a6.1 x.acks.length i.a6.2,.int .i64 x.heard] :: ro rAck w0 i.a6.1 x.acks :: ro (rStr false) w0 i.a3.1 x.wishes :: ro (rMsg false) w0 i.a2.1 x.held :: L)) (fun k=>x.acks.length - k) 0 U ⟨Nat.zero_le _,allN_zero,HM⟩ ?_
  clear HM
  rintro k W1 ⟨hk4,hp4,HM⟩
  by_cases hlt4 : k < x.acks.length
  · have e0:=rdR_at (D:=rAck) hlt4
    obtain ⟨cc,⟨j,rfl,hs⟩,HM⟩:=HM.roOpen (A:=i.a6.1) k hlt4
    unfold encAck at HM
    by_cases hz : 0 < k
    all_goals
      repeat' (first|(refine gR ?_;refine d_start [] [(0,0),(1,1),(2,2),(0,3),(0,4),(0,5),(0,7),(1,6),(1,8),(2,9),(0,10),(0,11),(0,12),(0,13),(0,14),(0,15),(0,16),(0,18),(0,20),(0,21),(1,17),(1,19),(0,22),(0,23),(1,24),(0,25),(0,26),(0,27)] HM (by kernel_rfl) (by kernel_rfl) qq (by kernel_rfl) rfl ?_;intro HQ HS W1 HM1;replace HM:=HM1;clear HM1)|refine Y ?_|(refine qs ?_;clear HM;intro W1 HM)|(refine qf ?_;first|(go_at_call 47;refine (within_c _ _ _ _).mono ?_;rintro e W1 ⟨rfl,rfl⟩;refine ⟨_,rfl,?_⟩)|(go_at_call 49;refine (implNumbers _ hs HM).mono ?_;rintro e W1 ⟨rfl,HM1⟩;refine ⟨_,rfl,?_⟩;replace HM:=HM1;clear HM1))|(refine qg ?_;clear HM;intro g W1 HM)|(refine gO ?_;refine d_split rfl rfl rfl rfl (fun h=>?_) (fun h=>?_))|refine c_cond rfl (fun h=>?_) (fun h=>?_))
    all_goals first
      | exact ret_tmp rfl rfl ⟨by rw [validB,midB,acksB,allN_fail hlt4 (by clear HM hh hb h0 hn hy ht hp hp2 hp4 hw hd;first|(simp_all [ackB];done)|(simp_all [ackB];intros;omega))];simp,HM.sb⟩
      | exact n_round (k + 1) U ⟨by omega,allN_succ hp4 (by clear HM hh hb h0 hn hy ht hp hp2 hp4 hw hd;first|(simp_all [ackB];done)|(simp_all [ackB];intros;omega)),HM.sb⟩ (by omega)
  obtain rfl : k = x.acks.length:=by omega
  have ha : acksB x.acks x.of = true:=by rw [acksB,hp4]
  clear hp2 hp4 hh hw
  repeat' (first|refine Y ?_|(refine qf ?_;go_at_call 47;refine (within_c _ _ _ _).mono ?_;rintro e W1 ⟨rfl,rfl⟩;refine ⟨_,rfl,?_⟩)|(refine gL ?_;refine s_split rfl rfl rfl rfl (fun h=>?_) (fun h=>?_))|refine c_cond rfl (fun h=>?_) (fun h=>?_))
  all_goals first
    | exact ret_tmp rfl rfl ⟨by rw [validB,show midB x = false by first|(simp_all [midB];done)|(simp_all [midB];intros;omega)];simp,HM.sb⟩
    | exact ret_tmp rfl rfl ⟨by rw [validB,show leadB x = false by first|(simp_all [leadB,quietB];done)|(simp_all [leadB,quietB];intros;omega)];simp,HM.sb⟩
    | exact ret_tmp rfl rfl ⟨by rw [validB,hd,hp,show midB x = true by first|(simp_all [midB];done)|(simp_all [midB];intros;omega),show leadB x = true by first|(simp_all [leadB,quietB];done)|(simp_all [leadB,quietB];intros;omega)];first|(simp_all [upB,quietB];done)|(simp_all [upB,quietB];intros;omega),HM.sb⟩
end Go.Proofs.YtampmicahnnebaaGreat.Sp
namespace Go.Proofs.YtampmicahnnebaaGreat.Sp
open Go Go.RowKit
theorem allN_iff {p : Nat → Bool} {n : Nat} : allN p n = true ↔ ∀ j,j < n → p j = true:=by simp [allN,List.all_eq_true]
structure SlotP (s : Slot) : Prop where
  lo : 0 ≤ s.ballot
  hi : s.ballot ≤ 1000000
  txt : s.text.size ≤ 100
  nil : s.ballot = 0 → s.text = ⟨#[]⟩
theorem slotB_iff {s : Slot} : slotB s = true ↔ SlotP s:=by
  simp only [slotB,Bool.and_eq_true,decide_eq_true_eq,Bool.not_eq_true',decide_eq_false_iff_not,Bool.and_eq_false_iff,Bool.not_eq_false']
  constructor
  · rintro ⟨⟨⟨h1,h2⟩,h3⟩,h4⟩
    exact ⟨h1,h2,by omega,fun e=>h4.resolve_left (fun h=>h e)⟩
  · rintro ⟨h1,h2,h3,h4⟩
    refine ⟨⟨⟨h1,h2⟩,by omega⟩,?_⟩
    by_cases e : s.ballot = 0
    · exact .inr (h4 e)
    · exact .inl e
def SlotsP (xs : List Slot) : Prop:=xs.length ≤ 60 ∧ ∀ s ∈ xs,SlotP s
theorem slotsB_iff {xs : List Slot} : slotsB xs = true ↔ SlotsP xs:=by
  rw [slotsB,Bool.and_eq_true,decide_eq_true_eq,allN_iff]
  constructor
  · rintro ⟨h1,h2⟩
    refine ⟨by omega,fun s hs=>?_⟩
    obtain ⟨i,hi,rfl⟩:=List.getElem_of_mem hs
    have:=h2 i hi
    rw [rdR_at hi] at this
    exact slotB_iff.1 this
  · rintro ⟨h1,h2⟩
    exact ⟨by omega,fun j hj=>by rw [rdR_at hj];exact slotB_iff.2 (h2 _ (List.getElem_mem hj))⟩
structure DiskP (p k : Int) (xs : List Slot) : Prop where
  p0 : 0 ≤ p
  p1 : p ≤ 1000000
  slots : SlotsP xs
  k0 : 0 ≤ k
  k1 : k ≤ xs.length
  le : ∀ s ∈ xs,s.ballot ≤ p
  known : ∀ j (h : j < xs.length),(j : Int) < k → xs[j].ballot ≠ 0
theorem diskB_iff {p k : Int} {xs : List Slot} : diskB p k xs = true ↔ DiskP p k xs:=by
  simp only [diskB,Bool.and_eq_true,decide_eq_true_eq,allN_iff,slotsB_iff,Bool.not_eq_true',decide_eq_false_iff_not,Bool.and_eq_false_iff]
  constructor
  · rintro ⟨⟨⟨⟨h1,h2⟩,h3⟩,h4,h5⟩,h6⟩
    refine ⟨h1,h2,h3,h4,h5,fun s hs=>?_,fun j hj hk=>?_⟩
    · obtain ⟨i,hi,rfl⟩:=List.getElem_of_mem hs
      have:=(h6 i hi).1
      rw [rdR_at hi] at this
      omega
    · have:=(h6 j hj).2
      rw [rdR_at hj] at this
      exact this.resolve_left (fun h=>h hk)
  · rintro ⟨h1,h2,h3,h4,h5,h6,h7⟩
    refine ⟨⟨⟨⟨h1,h2⟩,h3⟩,h4,h5⟩,fun j hj=>?_⟩
    rw [rdR_at hj]
    refine ⟨by have:=h6 _ (List.getElem_mem hj);omega,?_⟩
    by_cases e : (j : Int) < k
    · exact .inr (h7 j hj e)
    · exact .inl e
theorem pairwise_adj {α : Type} {f : α → Int} {xs : List α} : xs.Pairwise (fun a b=>f a < f b) ↔ ∀ j (h : j + 1 < xs.length),f xs[j] < f xs[j + 1]:=by
  rw [List.pairwise_iff_getElem]
  constructor
  · intro h j hj
    exact h j (j + 1) (by omega) hj (by omega)
  · intro h i j hi hj hij
    induction j with
    | zero=>omega
    | succ j ih =>
      have h1:=h j hj
      by_cases e : i = j
      · subst e;exact h1
      · have:=ih (by omega) (by omega)
        omega
structure NumsP (xs : List Int) (o : Int) : Prop where
  all : ∀ n ∈ xs,1 ≤ n ∧ n ≤ o
  sorted : xs.Pairwise (· < ·)
theorem adj_b {α : Type} {D : TyR α} {f : α → Int} {xs : List α} : (∀ j,j < xs.length → (decide (0 < j) && decide (f (rdR D xs j) ≤ f (rdR D xs ((j : Int) - 1)))) = false) ↔ xs.Pairwise (fun a b=>f a < f b):=by
  rw [pairwise_adj]
  simp only [Bool.and_eq_false_iff,decide_eq_false_iff_not]
  constructor
  · intro h j hj
    have:=(h (j + 1) hj).resolve_left (by omega)
    rw [rdR_at hj,show ((j + 1 : Nat) : Int) - 1 = (j : Nat) by omega,rdR_at (show j < xs.length by omega)] at this
    omega
  · intro h j hj
    by_cases e : 0 < j
    · right
      obtain ⟨i,rfl⟩ : ∃ i,j = i + 1:=⟨j - 1,by omega⟩
      have:=h i hj
      rw [rdR_at hj,show ((i + 1 : Nat) : Int) - 1 = (i : Nat) by omega,rdR_at (show i < xs.length by omega)]
      omega
    · exact .inl e
theorem numbersB_iff {xs : List Int} {o : Int} : numbersB xs o = true ↔ NumsP xs o:=by
  have ha:=adj_b (D:=rInt) (f:=fun n=>n) (xs:=xs)
  simp only [numbersB,allN_iff,numB,Bool.and_eq_true,decide_eq_true_eq,Bool.not_eq_true']
  constructor
  · intro h
    refine ⟨fun n hn=>?_,ha.1 (fun j hj=>(h j hj).2)⟩
    obtain ⟨i,hi,rfl⟩:=List.getElem_of_mem hn
    have:=(h i hi).1
    rwa [rdR_at hi] at this
  · rintro ⟨h1,h2⟩ j hj
    exact ⟨by rw [rdR_at hj];exact h1 _ (List.getElem_mem hj),ha.2 h2 j hj⟩
structure AcksP (xs : List Ack) (o : Int) : Prop where
  all : ∀ a ∈ xs,(1 ≤ a.index ∧ a.index ≤ 60) ∧ NumsP a.frm o
  sorted : xs.Pairwise (fun a b=>a.index < b.index)
theorem acksB_iff {xs : List Ack} {o : Int} : acksB xs o = true ↔ AcksP xs o:=by
  have ha:=adj_b (D:=rAck) (f:=fun n=>n.index) (xs:=xs)
  simp only [acksB,allN_iff,ackB,Bool.and_eq_true,decide_eq_true_eq,Bool.not_eq_true',numbersB_iff]
  constructor
  · intro h
    refine ⟨fun n hn=>?_,ha.1 (fun j hj=>(h j hj).2)⟩
    obtain ⟨i,hi,rfl⟩:=List.getElem_of_mem hn
    have:=(h i hi).1
    rwa [rdR_at hi] at this
  · rintro ⟨h1,h2⟩ j hj
    exact ⟨by rw [rdR_at hj];exact h1 _ (List.getElem_mem hj),ha.2 h2 j hj⟩
structure MsgP (m : Msg) (o : Int) : Prop where
  kind : 1 ≤ m.kind ∧ m.kind ≤ 9
  frm : 1 ≤ m.frm ∧ m.frm ≤ o
  to : 1 ≤ m.to ∧ m.to ≤ o
  ballot : 0 ≤ m.ballot ∧ m.ballot ≤ 1000000
  index : 0 ≤ m.index ∧ m.index ≤ 60
  known : 0 ≤ m.known ∧ m.known ≤ 60
  text : m.text.size ≤ 100
  slots : SlotsP m.slots
theorem msgB_iff {m : Msg} {o : Int} : msgB m o = true ↔ MsgP m o:=by
  simp only [msgB,Bool.and_eq_true,decide_eq_true_eq,slotsB_iff]
  constructor
  · rintro ⟨⟨⟨⟨⟨⟨⟨h1,h2⟩,h3⟩,h4⟩,h5⟩,h6⟩,h7⟩,h8⟩
    exact ⟨h1,h2,h3,h4,h5,h6,by omega,h8⟩
  · rintro ⟨h1,h2,h3,h4,h5,h6,h7,h8⟩
    exact ⟨⟨⟨⟨⟨⟨⟨h1,h2⟩,h3⟩,h4⟩,h5⟩,h6⟩,by omega⟩,h8⟩
theorem newB_iff {xs : List ByteArray} {n : Nat} {s : ByteArray} (hn : n ≤ xs.length) : newB xs n s = true ↔ s ∉ xs.take n:=by
  simp only [newB,allN_iff,Bool.not_eq_true',decide_eq_false_iff_not]
  constructor
  · intro h hm
    obtain ⟨i,hi,e⟩:=List.getElem_of_mem hm
    have hi2 : i < n:=by simp at hi;omega
    have:=h i hi2
    rw [rdR_at (by omega)] at this
    rw [List.getElem_take] at e
    exact this e
  · intro h j hj e
    rw [rdR_at (show j < xs.length by omega)] at e
    refine h ?_
    rw [← e]
    exact List.mem_iff_getElem.2 ⟨j,by simp;omega,by rw [List.getElem_take]⟩
structure WishesP (xs : List ByteArray) : Prop where
  len : xs.length ≤ 20
  all : ∀ s ∈ xs,1 ≤ s.size ∧ s.size ≤ 100
  nodup : xs.Nodup
theorem wishesB_iff {xs : List ByteArray} : wishesB xs = true ↔ WishesP xs:=by
  simp only [wishesB,wishB,Bool.and_eq_true,decide_eq_true_eq,allN_iff]
  constructor
  · rintro ⟨h1,h2⟩
    refine ⟨by omega,fun s hs=>?_,?_⟩
    · obtain ⟨i,hi,rfl⟩:=List.getElem_of_mem hs
      have:=(h2 i hi).1
      rw [rdR_at hi] at this
      omega
    · rw [List.Nodup,List.pairwise_iff_getElem]
      intro i j hi hj hij e
      have h3:=(newB_iff (by omega)).1 (h2 j hj).2
      rw [rdR_at hj,← e] at h3
      exact h3 (List.mem_iff_getElem.2 ⟨i,by simp;omega,by rw [List.getElem_take]⟩)
  · rintro ⟨h1,h2,h3⟩
    refine ⟨by omega,fun j hj=>⟨?_,?_⟩⟩
    · rw [rdR_at hj];have:=h2 _ (List.getElem_mem hj);omega
    · rw [newB_iff (by omega),rdR_at hj]
      intro hm
      obtain ⟨i,hi,e⟩:=List.getElem_of_mem hm
      rw [List.getElem_take] at e
      rw [List.Nodup,List.pairwise_iff_getElem] at h3
      exact h3 i j (by simp at hi;omega) hj (by simp at hi;omega) e
structure QuietP (x : Rcd) : Prop where
  lead : x.lead = false
  trying : x.trying = false
  ballot : x.ballot = 0
  yes : x.yes = []
  best : x.best = []
  acks : x.acks = []
theorem quietB_iff {x : Rcd} : quietB x = true ↔ QuietP x:=by
  simp only [quietB,Bool.and_eq_true,decide_eq_true_eq,Bool.not_eq_true']
  constructor
  · rintro ⟨⟨⟨h1,h2⟩,h3⟩,h4⟩
    exact ⟨h1,h2,h3,List.eq_nil_of_length_eq_zero (by omega),List.eq_nil_of_length_eq_zero (by omega),List.eq_nil_of_length_eq_zero (by omega)⟩
  · rintro ⟨h1,h2,h3,h4,h5,h6⟩
    exact ⟨⟨⟨h1,h2⟩,h3⟩,by rw [h4,h5,h6];rfl⟩
structure VR (x : Rcd) : Prop where
  of1 : 1 ≤ x.of
  of5 : x.of ≤ 5
  n1 : 1 ≤ x.number
  no : x.number ≤ x.of
  safe : DiskP x.sp x.sk x.ss
  disk : DiskP x.dp x.dk x.ds
  heldLen : x.held.length ≤ 400
  wishes : WishesP x.wishes
  h0 : 0 ≤ x.heard
  h1 : x.heard ≤ 1000000
  held : ∀ m ∈ x.held,MsgP m x.of ∧ m.frm = x.number
  yes : NumsP x.yes x.of
  best : SlotsP x.best
  acks : AcksP x.acks x.of
  one : ¬ (x.lead = true ∧ x.trying = true)
  lead : x.lead = true ∨ x.trying = true → 1 ≤ x.ballot ∧ x.ballot ≤ x.dp
  tryA : x.trying = true → x.acks = []
  leadY : x.lead = true → x.yes = [] ∧ x.best = []
  quiet : x.lead = false → x.trying = false → QuietP x
  down : x.up = false → QuietP x ∧ x.held = [] ∧ x.wishes = [] ∧ x.heard = 0
theorem validB_iff {x : Rcd} : validB x = true ↔ VR x:=by
  have hh : heldB x x.held.length = true ↔ ∀ m ∈ x.held,MsgP m x.of ∧ m.frm = x.number:=by
    simp only [heldB,allN_iff,Bool.and_eq_true,decide_eq_true_eq,msgB_iff]
    constructor
    · intro h m hm
      obtain ⟨i,hi,rfl⟩:=List.getElem_of_mem hm
      have:=h i hi
      rwa [rdR_at hi] at this
    · intro h j hj
      rw [rdR_at hj]
      exact h _ (List.getElem_mem hj)
  simp only [validB,headB,midB,leadB,upB,Bool.and_eq_true,Bool.or_eq_true,decide_eq_true_eq,diskB_iff,wishesB_iff,numbersB_iff,slotsB_iff,acksB_iff,hh,Bool.not_eq_true',decide_eq_false_iff_not,quietB_iff]
  constructor
  · rintro ⟨⟨⟨⟨⟨⟨⟨⟨⟨⟨⟨a1,a2⟩,a3,a4⟩,a5⟩,a6⟩,a7⟩,a8⟩,a9,a10⟩,b⟩,⟨⟨c1,c2⟩,c3⟩,c4⟩,d⟩,e⟩
    refine ⟨a1,a2,a3,a4,a5,a6,by omega,a8,a9,a10,b,c1,c2,c3,?_,?_,?_,?_,?_,?_⟩
    · rintro ⟨e1,e2⟩;simp [e1,e2] at c4
    · intro h;rw [if_pos h] at d;simp at d;exact d.1.1
    · intro h
      rw [if_pos (.inr h)] at d
      simp only [Bool.and_eq_true,Bool.not_eq_true',Bool.and_eq_false_iff,decide_eq_true_eq,decide_eq_false_iff_not] at d
      rcases d.1.2 with h2|h2
      · rw [h] at h2;cases h2
      · exact List.eq_nil_of_length_eq_zero (by omega)
    · intro h
      rw [if_pos (.inl h)] at d
      simp [h] at d
      exact ⟨List.eq_nil_of_length_eq_zero (by omega),List.eq_nil_of_length_eq_zero (by omega)⟩
    · intro h1 h2
      rw [if_neg (by simp [h1,h2]),quietB_iff] at d
      exact d
    · intro h
      obtain ⟨q,h2⟩:=e.resolve_left (by simp [h])
      exact ⟨q,List.eq_nil_of_length_eq_zero (by omega),List.eq_nil_of_length_eq_zero (by omega),by omega⟩
  · rintro ⟨a1,a2,a3,a4,a5,a6,a7,a8,a9,a10,b,c1,c2,c3,c4,d1,d2,d3,d4,e⟩
    refine ⟨⟨⟨⟨⟨⟨⟨⟨⟨⟨⟨a1,a2⟩,a3,a4⟩,a5⟩,a6⟩,by omega⟩,a8⟩,a9,a10⟩,b⟩,⟨⟨c1,c2⟩,c3⟩,?_⟩,?_⟩,?_⟩
    · cases hl : x.lead <;> cases ht : x.trying <;> simp_all
    · split
      · rename_i h
        have h1:=d1 h
        simp only [Bool.and_eq_true,decide_eq_true_eq,Bool.not_eq_true',Bool.and_eq_false_iff,decide_eq_false_iff_not]
        refine ⟨⟨h1,?_⟩,?_⟩
        · cases ht : x.trying
          · exact .inl rfl
          · rw [d2 ht];exact .inr (by simp)
        · cases hl : x.lead
          · exact .inl rfl
          · rw [(d3 hl).1,(d3 hl).2];exact .inr (by simp)
      · rename_i h
        rw [quietB_iff]
        exact d4 (by cases hl : x.lead <;> simp_all) (by cases hl : x.trying <;> simp_all)
    · cases hu : x.up
      · right
        obtain ⟨q,h2,h3,h4⟩:=e hu
        exact ⟨q,by rw [h2,h3,h4];rfl⟩
      · exact .inl rfl
end Go.Proofs.YtampmicahnnebaaGreat.Sp
namespace Go.Proofs.YtampmicahnnebaaGreat.Sp
open Go Go.RowKit
set_option maxRecDepth 10000
set_option maxHeartbeats 1000000
variable {w0 W : World} {L : List Asn}
def holdL (x : Rcd) (m : Msg) : Rcd:=if (x.held.length : Int) < 400 then { x with held:=x.held ++ [{ m with frm:=x.number }] } else x
def calmL (x : Rcd) : Rcd:={ x with lead:=false,trying:=false,ballot:=0,yes:=[],best:=[],acks:=[] }
def followL (x : Rcd) (b : Int) : Rcd:={ (if b = x.ballot then { x with dp:=max x.dp b } else calmL { x with dp:=max x.dp b }) with heard:=0 }
def padL (ds : List Slot) (n : Nat) : List Slot:=ds ++ List.replicate (n - ds.length) ⟨0,⟨#[]⟩⟩
def setL (x : Rcd) (ix : Int) (s : Slot) : Rcd:={ x with ds:=(padL x.ds ix.toNat).set (ix - 1).toNat s }
theorem padL_len (ds : List Slot) (n : Nat) : (padL ds n).length = max ds.length n:=by simp [padL];omega
theorem padL_le {ds : List Slot} {n : Nat} (h : n ≤ ds.length) : padL ds n = ds:=by simp [padL,show n - ds.length = 0 by omega]
theorem padL_step {ds : List Slot} {n : Nat} (h : ds.length < n) : padL (ds ++ [⟨0,⟨#[]⟩⟩]) n = padL ds n:=by
  simp only [padL,List.length_append,List.length_cons,List.length_nil,List.append_assoc]
  obtain ⟨k,hk⟩ : ∃ k,n - ds.length = k + 1:=⟨n - ds.length - 1,by omega⟩
  rw [hk,show n - (ds.length + (0 + 1)) = k by omega,List.replicate_succ]
  rfl
structure Sz (x : Rcd) : Prop where
  ss : x.ss.length ≤ 60
  ds : x.ds.length ≤ 60
  held : x.held.length ≤ 400
  helds : ∀ m ∈ x.held,m.slots.length ≤ 60
  wishes : x.wishes.length ≤ 20
  yes : x.yes.length ≤ 60
  best : x.best.length ≤ 60
  acks : x.acks.length ≤ 60
  ackss : ∀ a ∈ x.acks,a.frm.length ≤ 60
end Go.Proofs.YtampmicahnnebaaGreat.Sp
namespace Go.Proofs.YtampmicahnnebaaGreat.Sp
open Go Go.RowKit
set_option maxRecDepth 10000
set_option maxHeartbeats 1000000
variable {w0 W : World} {L : List Asn} {A : Option Addr} {c : Nat} {b : Bool}
theorem cloneSlots_c {xs : List Slot} (h : RoRow (rSlot b) w0 A xs) (hn : xs.length ≤ 1048576) (HM : Mem w0 W L) : Calls Tryz.prog 65 #[.slice A xs.length c] W fun e W'=>∃ A' c',e = .returned (.slice A' xs.length c') ∧ Mem w0 W' (own tSlot 91 A' c' xs :: L):=by
  refine enter Tryz.func65 rfl Tryz.ntmps65 [(0,_)] rfl ⟨rfl,trivial⟩ ?_
  replace HM:=HM.rod h
  repeat (first|refine Y ?_|(refine qa ?_;clear HM;intro A1 c1 W1 HM))
  exact ret_tmp rfl rfl ⟨A1,c1,rfl,HM.sb⟩
theorem cloneDisk_c (p q : Int) {xs : List Slot} (h : RoRow (rSlot b) w0 A xs) (hn : xs.length ≤ 1048576) (HM : Mem w0 W L) : Calls Tryz.prog 64 #[.agg #[.int .i64 p,.int .i64 q,.slice A xs.length c]] W fun e W'=>∃ A' c',e = .returned (.agg #[.int .i64 p,.int .i64 q,.slice A' xs.length c']) ∧ Mem w0 W' (own tSlot 91 A' c' xs :: L):=by
  refine enter Tryz.func64 rfl Tryz.ntmps64 [(0,.agg #[.int .i64 p,.int .i64 q,.slice A xs.length c])] rfl ⟨rfl,trivial⟩ ?_
  repeat (first|refine Y ?_|(refine qs ?_;clear HM;intro W1 HM)|(refine qf ?_;go_at_call 65;refine (cloneSlots_c h hn HM).mono ?_;rintro e W1 ⟨A1,c1,rfl,HM1⟩;refine ⟨_,rfl,?_⟩;replace HM:=HM1;clear HM1)|(refine qg ?_;clear HM;intro g W1 HM))
  exact ret_cell HM rfl rfl rfl ⟨A1,c1,rfl,HM.sb⟩
theorem cloneMsgs_c {xs : List Msg} (h : RoRow (rMsg b) w0 A xs) (hn : xs.length ≤ 1048576) (hm : ∀ x ∈ xs,x.slots.length ≤ 1048576) (HM : Mem w0 W L) : Calls Tryz.prog 23 #[.slice A xs.length c] W fun e W'=>∃ A' c',e = .returned (.slice A' xs.length c') ∧ Mem w0 W' (own (tMsg 91) 40 A' c' xs :: L):=by
  refine enter Tryz.func23 rfl Tryz.ntmps23 [(0,_)] rfl ⟨rfl,trivial⟩ ?_
  replace HM:=HM.rod h
  repeat refine Y ?_
  replace HM:=HM.nil (tMsg 91) 40
  refine c_loop2 (σ:=Nat) (fun k A1 c1=>[(3,.slice A1 k c1),(6,.slice A xs.length c),(7,.int .i64 xs.length),(8,.int .i64 k)]) (fun k A1 c1 W=>k ≤ xs.length ∧ ∃ ys : List Msg,ys.length = k ∧ ys = xs.take k ∧ Mem w0 W (own (tMsg 91) 40 A1 c1 ys :: ro (rMsg b) w0 A xs :: L)) (fun k=>xs.length - k) 0 none 0 U ⟨Nat.zero_le _,[],rfl,rfl,HM.sb⟩ ?_
  clear HM
  rintro k A1 c1 W ⟨hk,ys,hl,hy,HM⟩
  by_cases hlt : k < xs.length
  · have e0:=rdR_at (D:=rMsg b) hlt
    have hs1:=hm _ (List.getElem_mem hlt)
    obtain ⟨cc,⟨j,rfl,hb,hs⟩,HM⟩:=HM.roOpen (A:=A) k hlt
    unfold encMsg at HM
    repeat (first|refine Y ?_|(refine qs ?_;clear HM;intro W1 HM)|(refine qf ?_;go_at_call 65;refine (cloneSlots_c hs hs1 HM).mono ?_;rintro e W1 ⟨A1,c1,rfl,HM1⟩;refine ⟨_,rfl,?_⟩;replace HM:=HM1;clear HM1)|(refine qa ?_;clear HM;intro A1 c1 W1 HM)|(refine qg ?_;clear HM;intro g W1 HM))
    have e1 : (ys ++ [xs[k]]).length = k + 1:=by simp [hl]
    have e2 : (⟨xs[k].kind,xs[k].frm,xs[k].to,xs[k].ballot,xs[k].index,xs[k].known,xs[k].text,xs[k].slots⟩ : Msg) = xs[k]:=rfl
    rw [e2] at HM ⊢
    rw [e1]
    exact n_round2 (k + 1) A1 c1 U ⟨by omega,_,e1,by rw [hy,List.take_succ_eq_append_getElem (by omega)],HM.sb⟩ (by omega)
  · repeat refine Y ?_
    obtain rfl : k = xs.length:=by omega
    rw [List.take_length] at hy
    subst hy
    exact ret_tmp rfl rfl ⟨A1,c1,rfl,HM.sb⟩
theorem clone_c (x : Rcd) (i : AtRcd) (h : RoRcd b w0 x i) (hn : SmallR x) (HM : Mem w0 W L) : Calls Tryz.prog 21 #[.agg (encRcd x i).toArray] W fun e W'=>∃ j,e = .returned (.agg (encRcd x j).toArray) ∧ Mem w0 W' (partRcd 91 40 9 3 66 x j ++ L):=by
  refine enter Tryz.func21 rfl Tryz.ntmps21 [(0,.agg (encRcd x i).toArray)] rfl ⟨rfl,trivial⟩ ?_
  have h0:=h
  have s1:=hn.ss
  have s2:=hn.ds
  have s3:=hn.held
  have s4:=hn.wishes
  have s5:=hn.yes
  have s6:=hn.best
  have s7:=hn.acks
  unfold encRcd
  replace HM:=(((HM.rod h.wishes).rod h.yes).rod h.acks)
  repeat (first|(refine gR ?_;refine d_start (id:=1) [7,9] [(0,0),(0,3),(1,1),(1,4),(2,2),(0,6),(2,5),(3,7),(0,8),(3,9)] HM (by kernel_rfl) (by kernel_rfl) qq (by kernel_rfl) rfl ?_;intro HQ HS W1 HM1;replace HM:=HM1;clear HM1)|refine Y ?_|(refine qs ?_;clear HM;intro W1 HM)|(refine qf ?_;first|(go_at_call 64;refine (cloneDisk_c _ _ (by first|with_reducible exact h0.ss|with_reducible exact h0.ds) (by first|with_reducible exact s1|with_reducible exact s2) HM).mono ?_;rintro e W1 ⟨Ad,cd,rfl,HM1⟩;refine ⟨_,rfl,?_⟩;replace HM:=HM1;clear HM1)|(go_at_call 23;refine (cloneMsgs_c h0.held s3 hn.helds HM).mono ?_;rintro e W1 ⟨Ah,ch,rfl,HM1⟩;refine ⟨_,rfl,?_⟩;replace HM:=HM1;clear HM1)|(go_at_call 65;refine (cloneSlots_c h0.best s6 HM).mono ?_;rintro e W1 ⟨Ab,cb,rfl,HM1⟩;refine ⟨_,rfl,?_⟩;replace HM:=HM1;clear HM1))|(refine qa ?_;clear HM;intro A1 c1 W1 HM)|(refine qg ?_;clear HM;intro g W1 HM))
  replace HM:=HM.nil (tAck 3) 66
  refine c_loop2 (σ:=Nat) (fun k A1 c1=>[(1,.pointer (some ⟨_,0,none⟩)),(2,.pointer (some ⟨g,0,none⟩)),(3,.slice A1 k c1),(31,.slice i.a6.1 x.acks.length i.a6.2),(32,.int .i64 x.acks.length),(33,.int .i64 k)]) (fun k A1 c1 W=>k ≤ x.acks.length ∧ ∃ ys : List Ack,ys.length = k ∧ ys = x.acks.take k ∧ Mem w0 W (own (tAck 3) 66 A1 c1 ys :: _)) (fun k=>x.acks.length - k) 0 none 0 U ⟨Nat.zero_le _,[],rfl,rfl,HM⟩ ?_
  clear HM
  rintro k A1 c1 W ⟨hk,ys,hl,hy,HM⟩
  by_cases hlt : k < x.acks.length
  · have e0:=rdR_at (D:=rAck) hlt
    have hs1:=hn.ackss _ (List.getElem_mem hlt)
    obtain ⟨cc,⟨j,rfl,hs⟩,HM⟩:=HM.roOpen (A:=i.a6.1) k hlt
    unfold encAck at HM
    replace HM:=HM.rod hs
    repeat (first|(refine gR ?_;refine d_start [8] [(0,0),(0,1),(0,3),(1,2),(1,4),(2,5),(2,6),(2,7),(3,8),(0,9)] HM (by kernel_rfl) (by kernel_rfl) qq (by kernel_rfl) rfl ?_;intro HQ HS W1 HM1;replace HM:=HM1;clear HM1)|refine Y ?_|(refine qs ?_;clear HM;intro W1 HM)|(refine qa ?_;clear HM;intro A1 c1 W1 HM)|(refine qg ?_;clear HM;intro g W1 HM))
    have e1 : (ys ++ [x.acks[k]]).length = k + 1:=by simp [hl]
    have e2 : (⟨x.acks[k].index,x.acks[k].frm⟩ : Ack) = x.acks[k]:=rfl
    (try simp only [e0] at HM ⊢)
    rw [e2] at HM ⊢
    rw [e1]
    exact n_round2 (k + 1) A1 c1 U ⟨by omega,_,e1,by rw [hy,List.take_succ_eq_append_getElem (by omega)],HM.sb⟩ (by omega)
  · repeat (first|refine Y ?_|(refine qs ?_;clear HM;intro W1 HM))
    obtain rfl : k = x.acks.length:=by omega
    rw [List.take_length] at hy
    subst hy
    exact ret_cell HM rfl rfl rfl ⟨⟨(_,_),(_,_),(_,_),(_,_),(_,_),(_,_),(_,_)⟩,rfl,by simp only [partRcd,List.cons_append,List.nil_append];exact HM.sb⟩
end Go.Proofs.YtampmicahnnebaaGreat.Sp
namespace Go.Proofs.YtampmicahnnebaaGreat.Sp
open Go Go.RowKit
set_option maxRecDepth 10000
set_option maxHeartbeats 1000000
variable {w0 W : World} {L : List Asn}
theorem pk_hold {eS eM eT eI eA T g : Nat} {x : Rcd} {i : AtRcd} {m : Msg} {am : At} {L Rm R R0 R1 R2 R3 R4 R5 R6 : List Asn} [hm : Pk L (own tSlot eS am.1 am.2 m.slots) Rm] [hb : Pk Rm (box g T [.int .i64 x.number,.int .i64 x.of,.bool x.up,.int .i64 x.sp,.int .i64 x.sk,.slice i.a0.1 x.ss.length i.a0.2,.int .i64 x.dp,.int .i64 x.dk,.slice i.a1.1 x.ds.length i.a1.2,.slice i.a2.1 x.held.length i.a2.2,.slice i.a3.1 x.wishes.length i.a3.2,.bool x.lead,.bool x.trying,.int .i64 x.ballot,.slice i.a4.1 x.yes.length i.a4.2,.slice i.a5.1 x.best.length i.a5.2,.slice i.a6.1 x.acks.length i.a6.2,.int .i64 x.heard]) R] [h0 : Pk R (own tSlot eS i.a0.1 i.a0.2 x.ss) R0] [h1 : Pk R0 (own tSlot eS i.a1.1 i.a1.2 x.ds) R1] [h2 : Pk R1 (own (tMsg eS) eM i.a2.1 i.a2.2 x.held) R2] [h3 : Pk R2 (own tStr eT i.a3.1 i.a3.2 x.wishes) R3] [h4 : Pk R3 (own tInt eI i.a4.1 i.a4.2 x.yes) R4] [h5 : Pk R4 (own tSlot eS i.a5.1 i.a5.2 x.best) R5] [h6 : Pk R5 (own (tAck eI) eA i.a6.1 i.a6.2 x.acks) R6] (h : Mem w0 W L) : Mem w0 W (boxR eS eM eT eI eA T g x i ++ own tSlot eS am.1 am.2 m.slots :: R6):=by
  refine h.perm (hm.out.trans ?_)
  have q0:=perm_in hb.out [] (List.Perm.refl Rm)
  have q1:=perm_in h0.out _ q0
  have q2:=perm_in h1.out _ q1
  have q3:=perm_in h2.out _ q2
  have q4:=perm_in h3.out _ q3
  have q5:=perm_in h4.out _ q4
  have q6:=perm_in h5.out _ q5
  exact (List.Perm.cons _ (perm_in h6.out _ q6)).trans (List.perm_middle (a:=own tSlot eS am.1 am.2 m.slots)).symm
theorem pk_holds {eS eM eT eI eA : Nat} {x : Rcd} {i : AtRcd} {m : Msg} {am : At} {L R R0 R1 R2 R3 R4 R5 R6 : List Asn} [hm : Pk L (own tSlot eS am.1 am.2 m.slots) R] [h0 : Pk R (own tSlot eS i.a0.1 i.a0.2 x.ss) R0] [h1 : Pk R0 (own tSlot eS i.a1.1 i.a1.2 x.ds) R1] [h2 : Pk R1 (own (tMsg eS) eM i.a2.1 i.a2.2 x.held) R2] [h3 : Pk R2 (own tStr eT i.a3.1 i.a3.2 x.wishes) R3] [h4 : Pk R3 (own tInt eI i.a4.1 i.a4.2 x.yes) R4] [h5 : Pk R4 (own tSlot eS i.a5.1 i.a5.2 x.best) R5] [h6 : Pk R5 (own (tAck eI) eA i.a6.1 i.a6.2 x.acks) R6] (h : Mem w0 W L) : Mem w0 W (partRcd eS eM eT eI eA x i ++ own tSlot eS am.1 am.2 m.slots :: R6):=by
  refine h.perm (hm.out.trans ?_)
  have q1:=perm_in h0.out [] (List.Perm.refl R)
  have q2:=perm_in h1.out _ q1
  have q3:=perm_in h2.out _ q2
  have q4:=perm_in h3.out _ q3
  have q5:=perm_in h4.out _ q4
  have q6:=perm_in h5.out _ q5
  exact (List.Perm.cons _ (perm_in h6.out _ q6)).trans (List.perm_middle (a:=own tSlot eS am.1 am.2 m.slots)).symm
theorem holdM (x : Rcd) (i : AtRcd) (g : Nat) (m : Msg) (am : At) (HM : Mem w0 W (boxR 91 40 9 3 66 31 g x i ++ own tSlot 91 am.1 am.2 m.slots :: L)) : Calls Tryz.prog 78 #[.pointer (some ⟨g,0,none⟩),.agg (encMsg m am).toArray] W fun e W'=>∃ j,e = .returned (.tuple #[]) ∧ Mem w0 W' (boxR 91 40 9 3 66 31 g (holdL x m) j ++ L):=by
  refine enter Tryz.func78 rfl Tryz.ntmps78 [(0,_),(1,.agg (encMsg m am).toArray)] rfl ⟨rfl,rfl,trivial⟩ ?_
  unfold encMsg
  simp only [boxR,partRcd,List.cons_append,List.nil_append] at HM
  by_cases c1 : (x.held.length : Int) < 400
  · have e : holdL x m = { x with held:=x.held ++ [{ m with frm:=x.number }] }:=if_pos c1
    repeat (first|(refine gR ?_;refine d_start [7,10] [(0,0),(0,1),(0,2),(0,3),(1,4),(1,5),(2,6),(3,7),(0,8),(0,9),(3,10)] HM (by kernel_rfl) (by kernel_rfl) qq (by kernel_rfl) rfl ?_;intro HQ HS W1 HM1;replace HM:=HM1;clear HM1)|refine Y ?_|(refine qs ?_;clear HM;intro W1 HM)|(refine qa ?_;clear HM;intro A1 c1 W1 HM)|(refine qg ?_;clear HM;intro g W1 HM))
    rw [e]
    exact end_none rfl ⟨⟨i.a0,i.a1,(A1,c1),i.a3,i.a4,i.a5,i.a6⟩,rfl,by simp only [boxR,partRcd,List.cons_append,List.nil_append];exact HM.sb⟩
  · have e : holdL x m = x:=if_neg c1
    repeat (first|refine Y ?_|(refine qs ?_;clear HM;intro W1 HM)|(refine qg ?_;clear HM;intro g W1 HM))
    rw [e]
    exact end_none rfl ⟨i,rfl,by simp only [boxR,partRcd,List.cons_append,List.nil_append];exact HM.sb⟩
theorem holdS (x : Rcd) (i : AtRcd) (m : Msg) (am : At) (HM : Mem w0 W (partRcd 91 40 9 3 66 x i ++ own tSlot 91 am.1 am.2 m.slots :: L)) : Calls Tryz.prog 33 #[.agg (encRcd x i).toArray,.agg (encMsg m am).toArray] W fun e W'=>∃ j,e = .returned (.agg (encRcd (holdL x m) j).toArray) ∧ Mem w0 W' (partRcd 91 40 9 3 66 (holdL x m) j ++ L):=by
  refine enter Tryz.func33 rfl Tryz.ntmps33 [(0,.agg (encRcd x i).toArray),(1,.agg (encMsg m am).toArray)] rfl ⟨rfl,rfl,trivial⟩ ?_
  unfold encMsg encRcd
  simp only [partRcd,List.cons_append,List.nil_append] at HM
  by_cases c1 : (x.held.length : Int) < 400
  · have e : holdL x m = { x with held:=x.held ++ [{ m with frm:=x.number }] }:=if_pos c1
    repeat (first|refine Y ?_|(refine qs ?_;clear HM;intro W1 HM)|(refine qa ?_;clear HM;intro A1 c1 W1 HM)|(refine qg ?_;clear HM;intro g W1 HM))
    rw [e]
    exact ret_cell HM rfl rfl rfl ⟨⟨i.a0,i.a1,(A1,c1),i.a3,i.a4,i.a5,i.a6⟩,rfl,by simp only [partRcd,List.cons_append,List.nil_append];exact HM.sb⟩
  · have e : holdL x m = x:=if_neg c1
    repeat (first|refine Y ?_|(refine qs ?_;clear HM;intro W1 HM)|(refine qg ?_;clear HM;intro g W1 HM))
    rw [e]
    exact ret_cell HM rfl rfl rfl ⟨i,rfl,by simp only [partRcd,List.cons_append,List.nil_append];exact HM.sb⟩
theorem quietM (x : Rcd) (i : AtRcd) (g : Nat) (HM : Mem w0 W (boxR 91 40 9 3 66 31 g x i ++ L)) : Calls Tryz.prog 75 #[.pointer (some ⟨g,0,none⟩)] W fun e W'=>∃ j,e = .returned (.tuple #[]) ∧ Mem w0 W' (boxR 91 40 9 3 66 31 g (calmL x) j ++ L):=by
  refine enter Tryz.func75 rfl Tryz.ntmps75 [(0,_)] rfl ⟨rfl,trivial⟩ ?_
  simp only [boxR,partRcd,List.cons_append,List.nil_append] at HM
  repeat (first|refine Y ?_|(refine qs ?_;clear HM;intro W1 HM))
  have HM2:=((HM.nil tInt 3).nil tSlot 91).nil (tAck 3) 66
  exact end_none rfl ⟨⟨i.a0,i.a1,i.a2,i.a3,(none,0),(none,0),(none,0)⟩,rfl,by simp only [calmL,boxR,partRcd,List.cons_append,List.nil_append];exact HM2.sb⟩
theorem calmS (x : Rcd) (i : AtRcd) (HM : Mem w0 W (partRcd 91 40 9 3 66 x i ++ L)) : Calls Tryz.prog 31 #[.agg (encRcd x i).toArray] W fun e W'=>∃ j,e = .returned (.agg (encRcd (calmL x) j).toArray) ∧ Mem w0 W' (partRcd 91 40 9 3 66 (calmL x) j ++ L):=by
  refine enter Tryz.func31 rfl Tryz.ntmps31 [(0,.agg (encRcd x i).toArray)] rfl ⟨rfl,trivial⟩ ?_
  unfold encRcd
  simp only [partRcd,List.cons_append,List.nil_append] at HM
  repeat (first|refine Y ?_|(refine qs ?_;clear HM;intro W1 HM)|(refine qg ?_;clear HM;intro g W1 HM)|(refine qz ?_;clear HM;intro A1 W1 HM))
  have e : calmL x = { x with lead:=false,trying:=false,ballot:=0,yes:=[],best:=[],acks:=[] }:=rfl
  rw [e]
  rename_i Ay _ _ Ab _ _ _ _
  exact ret_cell HM rfl rfl rfl ⟨⟨i.a0,i.a1,i.a2,i.a3,(Ay,0),(Ab,0),(A1,0)⟩,rfl,by simp only [partRcd,List.cons_append,List.nil_append];exact HM.sb⟩
end Go.Proofs.YtampmicahnnebaaGreat.Sp
namespace Go.Proofs.YtampmicahnnebaaGreat.Sp
open Go Go.RowKit Go.Proofs.YtampmicahnnebaaGreatW.PrintLast
section
variable {P : Program} {n : Nat} {ops : Array Oper} {ll : List Oper} {Q : Exit → Act → World → Prop} {S : World → Prop} {ds : List Nat} {E : Env} {W : World} {i j k d fuel : Nat} {l l' l'' l3 : Array Bool} {o o' o3 : Oper} {op : Op} {ty : TypeId} {pos : String} {after : Array Edge} {v : Value}
structure WX (P : Program) (n : Nat) (ops : Array Oper) (Q : Exit → Act → World → Prop) (S : World → Prop) (ds : List Nat) (l : Array Bool) (fuel : Nat) (E : Env) (W : World) : Prop where
  out : ∀ a,Fits n E a → S W → wpAnyLast P .any ops Q S ds fuel l a W
theorem x_start {id : Nat} {w0 : World} {L : List Asn} (hm : Mem w0 W L) (hw : ∀ w,Mem w0 w L → S w) (hmix : P.follows .mixedOrders = true) (hsel : Region.noSelect ll.toArray = true) (hq : QP Q) (h : QP Q → Region.noSelect ll.toArray = true → ∀ W1,Mem w0 W1 L → WX P n ll.toArray Q S ds (Array.replicate ll.toArray.size false) ll.toArray.size E W1) : WC P n (.region id ll.toArray true) Q E W:=by
  refine ⟨fun a ha=>?_⟩
  refine start_ (S:=S) (ds:=ds) (n:=ll.toArray.size) (Array.replicate ll.toArray.size false) hmix rfl (by simp) (hw _ hm.drew) (fun hS=>?_)
  exact (h hq hsel _ hm.drew).out a ha hS
theorem x_pv (hq : QP Q) (hsel : Region.noSelect ll.toArray = true) (i : Nat) (ho : nthO ll i = some ⟨some d,op,ty,pos,after,none⟩) (h1 : Region.free .any ll.toArray l i = true) (h2 : (Region.ready .any ll.toArray l).contains i = true) (hl : l.setIfInBounds i true = l') (hn : Nat.blt d n = true) (h : GP P E op fun v=>WX P n ll.toArray Q S ds l' fuel ((d,v) :: E) W) : WX P n ll.toArray Q S ds l (fuel + 1) E W:=by
  obtain ⟨v,hp,h⟩:=h.out
  refine ⟨fun a ha hS=>?_⟩
  have ho' : ll.toArray[i]? = some (⟨some d,op,ty,pos,after,none⟩ : Oper):=by rw [nthO_eq] at ho;simpa using ho
  refine wpAnyLast_any (v:=v) ho' (Region.noSelect_spec hsel) (fun c a w=>hq.out c a _ _ w) _ l a W (Region.free_spec ho' h1) (by simpa using h2) (.inl ⟨by simp [Region.wanted],fun w=>hp.out n a ha _ _ _ _ _ _⟩) ?_
  rw [hl]
  exact h.out _ (ha.put (by simpa [Nat.blt_eq] using hn) v) hS
theorem x_ld {L : List Asn} {w0 : World} (hq : QP Q) (hsel : Region.noSelect ll.toArray = true) (i : Nat) (ho : nthO ll i = some ⟨some d,op,ty,pos,after,none⟩) (h1 : Region.free .any ll.toArray l i = true) (h2 : (Region.ready .any ll.toArray l).contains i = true) (h4 : Region.closedB .any ll.toArray l = true) (h5 : Region.lastB .any ll.toArray l ds i = true) (hl : l.setIfInBounds i true = l') (hn : Nat.blt d n = true) (h : GV P E w0 L op fun v=>WX P n ll.toArray Q (fun w=>Mem w0 w L) ds l' fuel ((d,v) :: E) W) : WX P n ll.toArray Q (fun w=>Mem w0 w L) ds l (fuel + 1) E W:=by
  obtain ⟨v,hp,h⟩:=h.out
  refine ⟨fun a ha hS=>?_⟩
  have ho' : ll.toArray[i]? = some (⟨some d,op,ty,pos,after,none⟩ : Oper):=by rw [nthO_eq] at ho;simpa using ho
  refine wpAnyLast_take (v:=v) ho' hsel h1 h2 h4 h5 (fun c a w=>hq.out c a _ _ w) ?_ hS ?_
  · exact .inl ⟨by simp [Region.wanted],fun w hw=>hp.out w hw n a ha _ _ _ _ _⟩
  · rw [hl]
    exact h.out _ (ha.put (by simpa [Nat.blt_eq] using hn) v) hS
structure XO (P : Program) (n : Nat) (ops : Array Oper) (Q : Exit → Act → World → Prop) (S : World → Prop) (ds : List Nat) (l : Array Bool) (fuel : Nat) (o : Oper) (E : Env) (W : World) : Prop where
  out : WL P n ops (Exit.then (fun a w=>S w ∧ wpAnyLast P .any ops Q S ds fuel l a w) Q) [o] E W
theorem x_go (h : WL P n ops (Exit.then (fun a w=>S w ∧ wpAnyLast P .any ops Q S ds fuel l a w) Q) [o] E W) : XO P n ops Q S ds l fuel o E W:=⟨h⟩
theorem x_back (hS : S W) (h : WX P n ops Q S ds l fuel E W) : WN n .normal (Exit.then (fun a w=>S w ∧ wpAnyLast P .any ops Q S ds fuel l a w) Q) E W:=⟨fun a ha=>⟨hS,h.out a ha hS⟩⟩
theorem x_one (i : Nat) (hr : Region.ready .any ll.toArray l = [i]) (ho : nthO ll i = some o) (hl : l.setIfInBounds i true = l') (h : XO P n ll.toArray Q S ds l' fuel o E W) : WX P n ll.toArray Q S ds l (fuel + 1) E W:=by
  have ho' : ll.toArray[i]? = some o:=by rw [nthO_eq] at ho;simpa using ho
  refine ⟨fun a ha hS=>?_⟩
  refine wpAnyLast_all hr (by simp) (fun q hq=>?_)
  obtain rfl : q = i:=by simpa using hq
  have h3:=h.out.out a ha
  rw [← hl] at h3
  exact wpOp_mono (fun a' w' hk=>⟨fun _ _=>hk.1,hk.2⟩) (list_wpOp ho' h3)
theorem x_two (i j : Nat) (hr : Region.ready .any ll.toArray l = [i,j]) (ho : nthO ll i = some o) (ho2 : nthO ll j = some o') (hl : l.setIfInBounds i true = l') (hl2 : l.setIfInBounds j true = l'') (h : XO P n ll.toArray Q S ds l' fuel o E W) (h2 : XO P n ll.toArray Q S ds l'' fuel o' E W) : WX P n ll.toArray Q S ds l (fuel + 1) E W:=by
  have ho' : ll.toArray[i]? = some o:=by rw [nthO_eq] at ho;simpa using ho
  have ho2' : ll.toArray[j]? = some o':=by rw [nthO_eq] at ho2;simpa using ho2
  refine ⟨fun a ha hS=>?_⟩
  refine wpAnyLast_all hr (by simp) (fun q hq=>?_)
  simp only [List.mem_cons,List.not_mem_nil,or_false] at hq
  rcases hq with rfl|rfl
  · have h3:=h.out.out a ha
    rw [← hl] at h3
    exact wpOp_mono (fun a' w' hk=>⟨fun _ _=>hk.1,hk.2⟩) (list_wpOp ho' h3)
  · have h3:=h2.out.out a ha
    rw [← hl2] at h3
    exact wpOp_mono (fun a' w' hk=>⟨fun _ _=>hk.1,hk.2⟩) (list_wpOp ho2' h3)
theorem x_done (hr : Region.ready .any ops l = []) (h : WN n .normal Q E W) : WX P n ops Q S ds l fuel E W:=⟨fun a ha hS=>wpAnyLast_done hr (h.out a ha) _⟩
end
end Go.Proofs.YtampmicahnnebaaGreat.Sp
namespace Go.Proofs.YtampmicahnnebaaGreat.Sp
open Go Go.RowKit
set_option maxRecDepth 10000
set_option maxHeartbeats 1000000
variable {w0 W : World} {L : List Asn} {A : Option Addr} {c : Nat}
def addL : List Int → Int → List Int
  | [],n=>[n]
  | a :: r,n=>if a < n then a :: addL r n else if a = n then a :: r else n :: a :: r
theorem addL_in : ∀ {l : List Int} {n : Int} {k : Nat} (hk : k < l.length),(∀ j (h : j < l.length),j < k → l[j] < n) → l[k] = n → addL l n = l
  | a :: r,n,0,_,_,e=>by simp at e;simp [addL,e]
  | a :: r,n,k + 1,hk,h,e=>by
    have h0 : a < n:=h 0 (by simp) (by omega)
    rw [addL,if_pos h0,addL_in (k:=k) (by simpa using hk) (fun j hj hjk=>h (j + 1) (by simpa using hj) (by omega)) (by simpa using e)]
theorem addL_new : ∀ {l : List Int} {n : Int} {k : Nat},k ≤ l.length → (∀ j (h : j < l.length),j < k → l[j] < n) → (∀ h : k < l.length,n < l[k]) → addL l n = l.take k ++ [n] ++ l.drop k
  | [],n,k,_,_,_=>by simp [addL]
  | a :: r,n,0,_,_,e=>by
    have:=e (by simp)
    simp at this
    simp [addL,show ¬ a < n by omega,show a ≠ n by omega]
  | a :: r,n,k + 1,hk,h,e=>by
    have h0 : a < n:=h 0 (by simp) (by omega)
    rw [addL,if_pos h0,addL_new (k:=k) (by simpa using hk) (fun j hj hjk=>h (j + 1) (by simpa using hj) (by omega)) (fun hk=>by have h2:=e (Nat.succ_lt_succ hk);rwa [List.getElem_cons_succ] at h2)]
    simp
theorem addL_len (l : List Int) (n : Int) : (addL l n).length ≤ l.length + 1:=by
  induction l with
  | nil=>simp [addL]
  | cons a r ih=>rw [addL];split <;> (try split) <;> simp <;> omega
def fromA (A : Option Addr) (sz c m : Nat) : Option Addr:=if c = m then A else A.map (·.add (m * sz))
theorem p_slicefrom {P : Program} {E : Env} {st e sz : Nat} {x y : Operand} {A : Option Addr} {l c : Nat} {k : IntKind} {m : Int} [hU : Und P st (.slice e)] [hS : Siz P e sz] (hx : ev E x = some (.slice A l c)) (hy : ev E y = some (.int k m)) (h0 : 0 ≤ m) (h1 : m ≤ l) : PV P E (.slice st x (some y) none none) (.slice (fromA A sz c m.toNat) (l - m.toNat) (c - m.toNat)):=⟨fun n a ha dst ty pos after gd W=>by
  obtain ⟨i0,hi,hs⟩:=Option.map_eq_some_iff.1 hS.out
  have hu:=hU.out
  simp [execOp,ha.eval hx,ha.eval hy,Instr.sliceAt,Instr.slice,Instr.sliceBounds,Instr.sliceBound,asIntOf,underlying,hu,h0,h1,sizeOf,typeInfo,hi,hs,fromA]⟩
theorem ro_drop {α : Type} {D : TyR α} {w : World} {A : Option Addr} {xs : List α} (h : RoRow D w A xs) {k c : Nat} (hk : k ≤ xs.length) (hc : xs.length ≤ c) : RoRow D w (fromA A D.sz c k) (xs.drop k):=by
  have hmx:=h.max
  by_cases e : c = k
  · have : (xs.drop k).length = 0:=by simp;omega
    exact ⟨by omega,fun h0=>by omega,fun i hi=>by omega⟩
  · refine ⟨by simp;omega,fun h0=>?_,fun i hi=>?_⟩
    · rw [fromA,if_neg e,h.some_ (by simp at h0;omega)];rfl
    · have hi2 : k + i < xs.length:=by simp at hi;omega
      obtain ⟨cc,h1,h2⟩:=h.cell (k + i) hi2
      refine ⟨cc,by rw [List.getElem_drop];exact h1,fun j v hv=>?_⟩
      have h3:=h2 j v hv
      rw [fromA,if_neg e,h.some_ (by omega)]
      rw [h.some_ (by omega)] at h3
      simp only [adr,Option.map_some,Option.getD_some] at h3 ⊢
      rw [addr_add_add,show k * D.sz + (i * D.sz + j) = (k + i) * D.sz + j by rw [Nat.add_mul];omega]
      exact h3
theorem addS {xs : List Int} (n : Int) (hn : xs.length ≤ 1048576) (HM : Mem w0 W (own tInt 3 A c xs :: L)) : Calls Tryz.prog 80 #[.slice A xs.length c,.int .i64 n] W fun e W'=>∃ A' c',e = .returned (.slice A' (addL xs n).length c') ∧ Mem w0 W' (own tInt 3 A' c' (addL xs n) :: L):=by
  refine enter Tryz.func80 rfl Tryz.ntmps80 [(0,_),(1,_)] rfl ⟨rfl,rfl,trivial⟩ ?_
  have hcap : xs.length ≤ c:=by obtain ⟨F1,hF1⟩:=HM.own (A:=A);exact (own_max hF1).2
  repeat refine Y ?_
  refine c_loop (σ:=Nat) (fun k=>[(0,.slice A xs.length c),(1,.int .i64 n),(5,.int .i64 k)]) (fun k W1=>k ≤ xs.length ∧ (∀ j (h : j < xs.length),j < k → xs[j] < n) ∧ Mem w0 W1 (own tInt 3 A c xs :: L)) (fun k=>xs.length - k) 0 U ⟨Nat.zero_le _,fun j h hj=>by omega,HM⟩ ?_
  clear HM
  rintro k W1 ⟨hk,hp,HM⟩
  by_cases hlt : k < xs.length
  · have e0:=rd_at (d:=tInt) hlt
    by_cases c1 : rd tInt xs k < n
    · repeat refine Y ?_
      exact n_round (k + 1) U ⟨by omega,fun j h hj=>by
        by_cases e : j = k
        · subst e;rw [← e0];exact c1
        · exact hp j h (by omega),HM⟩ (by omega)
    by_cases c2 : rd tInt xs k = n
    · have e : addL xs n = xs:=addL_in hlt hp (by rw [← e0];exact c2)
      repeat refine Y ?_
      rw [e]
      exact ret_tmp rfl rfl ⟨A,c,rfl,HM⟩
    have e : addL xs n = xs.take k ++ [n] ++ xs.drop k:=addL_new hk hp (fun h=>by rw [← e0];omega)
    have htk : (xs.take k).length ≤ 1048576:=by simp only [List.length_take];omega
    repeat refine Y ?_
    refine gR ?_
    refine x_start (ds:=[]) HM (fun w hw=>hw) (by kernel_rfl) (by kernel_rfl) qq ?_
    intro HQ HS W1 HM1;replace HM:=HM1;clear HM1
    refine x_pv HQ HS 1 rfl (by kernel_rfl) (by kernel_rfl) (l':=#[false,true,false,false,false,false,false,false,false,false,false,false,false]) (by kernel_rfl) rfl ?_
    refine Y ?_
    refine x_pv HQ HS 2 rfl (by kernel_rfl) (by kernel_rfl) (l':=#[false,true,true,false,false,false,false,false,false,false,false,false,false]) (by kernel_rfl) rfl ?_
    refine Y ?_
    refine x_pv HQ HS 3 rfl (by kernel_rfl) (by kernel_rfl) (l':=#[false,true,true,true,false,false,false,false,false,false,false,false,false]) (by kernel_rfl) rfl ?_
    refine Y ?_
    refine x_pv HQ HS 5 rfl (by kernel_rfl) (by kernel_rfl) (l':=#[false,true,true,true,false,true,false,false,false,false,false,false,false]) (by kernel_rfl) rfl ?_
    refine Y ?_
    refine x_pv HQ HS 8 rfl (by kernel_rfl) (by kernel_rfl) (l':=#[false,true,true,true,false,true,false,false,true,false,false,false,false]) (by kernel_rfl) rfl ?_
    refine Y ?_
    refine x_pv HQ HS 9 rfl (by kernel_rfl) (by kernel_rfl) (l':=#[false,true,true,true,false,true,false,false,true,true,false,false,false]) (by kernel_rfl) rfl ?_
    refine Y ?_
    refine x_pv HQ HS 10 rfl (by kernel_rfl) (by kernel_rfl) (l':=#[false,true,true,true,false,true,false,false,true,true,true,false,false]) (by kernel_rfl) rfl ?_
    refine Y ?_
    refine x_two 0 6 (by kernel_rfl) rfl rfl (l':=#[true,true,true,true,false,true,false,false,true,true,true,false,false]) (l'':=#[false,true,true,true,false,true,true,false,true,true,true,false,false]) (by kernel_rfl) (by kernel_rfl) (x_go ?_) (x_go ?_)
    · repeat (first|(refine qz ?_;clear HM;intro A1 W1 HM)|refine Y ?_)
      refine x_two 4 6 (by kernel_rfl) rfl rfl (l':=#[true,true,true,true,true,true,false,false,true,true,true,false,false]) (l'':=#[true,true,true,true,false,true,true,false,true,true,true,false,false]) (by kernel_rfl) (by kernel_rfl) (x_go ?_) (x_go ?_)
      · repeat (first|(refine gCall ?_;obtain ⟨F1,hF1⟩:=HM.own (A:=A);(first|(refine s_appw (ys:=xs.take k) HM rfl rfl rfl rfl (ro_rdc (ro_take (ro_ints hF1) k)) (by simp only [List.length_take];omega) (by simp only [List.length_take,List.length_drop,List.length_append,List.length_cons,List.length_nil];omega) rfl ?_)|(refine s_appw (ys:=xs.drop k) HM rfl rfl (by first|with_reducible rfl|(simp only [List.length_append,List.length_take,List.length_cons,List.length_nil];omega)) rfl (ro_rdc (ro_drop (ro_ints hF1) hk hcap)) (by simp only [List.length_drop];omega) (by simp only [List.length_take,List.length_drop,List.length_append,List.length_cons,List.length_nil];omega) rfl ?_));clear hF1;intro A1 c1 W1 HM1;replace HM:=HM1;clear HM1)|refine Y ?_)
        refine x_one 6 (by kernel_rfl) rfl (l':=#[true,true,true,true,true,true,true,false,true,true,true,false,false]) (by kernel_rfl) (x_go ?_)
        repeat (first|(refine qg ?_;clear HM;intro g W1 HM)|refine Y ?_)
        refine x_one 7 (by kernel_rfl) rfl (l':=#[true,true,true,true,true,true,true,true,true,true,true,false,false]) (by kernel_rfl) (x_go ?_)
        repeat (first|(refine qa ?_;clear HM;intro A1 c1 W1 HM)|refine Y ?_)
        refine x_one 11 (by kernel_rfl) rfl (l':=#[true,true,true,true,true,true,true,true,true,true,true,true,false]) (by kernel_rfl) (x_go ?_)
        repeat (first|(refine gCall ?_;obtain ⟨F1,hF1⟩:=HM.own (A:=A);(first|(refine s_appw (ys:=xs.take k) HM rfl rfl rfl rfl (ro_rdc (ro_take (ro_ints hF1) k)) (by simp only [List.length_take];omega) (by simp only [List.length_take,List.length_drop,List.length_append,List.length_cons,List.length_nil];omega) rfl ?_)|(refine s_appw (ys:=xs.drop k) HM rfl rfl (by first|with_reducible rfl|(simp only [List.length_append,List.length_take,List.length_cons,List.length_nil];omega)) rfl (ro_rdc (ro_drop (ro_ints hF1) hk hcap)) (by simp only [List.length_drop];omega) (by simp only [List.length_take,List.length_drop,List.length_append,List.length_cons,List.length_nil];omega) rfl ?_));clear hF1;intro A1 c1 W1 HM1;replace HM:=HM1;clear HM1)|refine Y ?_)
        refine x_pv HQ HS 12 rfl (by kernel_rfl) (by kernel_rfl) (l':=#[true,true,true,true,true,true,true,true,true,true,true,true,true]) (by kernel_rfl) rfl ?_
        refine Y ?_
        refine x_done (by kernel_rfl) ?_
        repeat refine Y ?_
        rw [show addL xs n = [] ++ xs.take k ++ [n] ++ xs.drop k from e]
        exact ret_tmp rfl rfl ⟨A1,c1,rfl,HM.sb⟩
      · repeat (first|(refine qg ?_;clear HM;intro g W1 HM)|refine Y ?_)
        refine x_one 4 (by kernel_rfl) rfl (l':=#[true,true,true,true,true,true,true,false,true,true,true,false,false]) (by kernel_rfl) (x_go ?_)
        repeat (first|(refine gCall ?_;obtain ⟨F1,hF1⟩:=HM.own (A:=A);(first|(refine s_appw (ys:=xs.take k) HM rfl rfl rfl rfl (ro_rdc (ro_take (ro_ints hF1) k)) (by simp only [List.length_take];omega) (by simp only [List.length_take,List.length_drop,List.length_append,List.length_cons,List.length_nil];omega) rfl ?_)|(refine s_appw (ys:=xs.drop k) HM rfl rfl (by first|with_reducible rfl|(simp only [List.length_append,List.length_take,List.length_cons,List.length_nil];omega)) rfl (ro_rdc (ro_drop (ro_ints hF1) hk hcap)) (by simp only [List.length_drop];omega) (by simp only [List.length_take,List.length_drop,List.length_append,List.length_cons,List.length_nil];omega) rfl ?_));clear hF1;intro A1 c1 W1 HM1;replace HM:=HM1;clear HM1)|refine Y ?_)
        refine x_one 7 (by kernel_rfl) rfl (l':=#[true,true,true,true,true,true,true,true,true,true,true,false,false]) (by kernel_rfl) (x_go ?_)
        repeat (first|(refine qa ?_;clear HM;intro A1 c1 W1 HM)|refine Y ?_)
        refine x_one 11 (by kernel_rfl) rfl (l':=#[true,true,true,true,true,true,true,true,true,true,true,true,false]) (by kernel_rfl) (x_go ?_)
        repeat (first|(refine gCall ?_;obtain ⟨F1,hF1⟩:=HM.own (A:=A);(first|(refine s_appw (ys:=xs.take k) HM rfl rfl rfl rfl (ro_rdc (ro_take (ro_ints hF1) k)) (by simp only [List.length_take];omega) (by simp only [List.length_take,List.length_drop,List.length_append,List.length_cons,List.length_nil];omega) rfl ?_)|(refine s_appw (ys:=xs.drop k) HM rfl rfl (by first|with_reducible rfl|(simp only [List.length_append,List.length_take,List.length_cons,List.length_nil];omega)) rfl (ro_rdc (ro_drop (ro_ints hF1) hk hcap)) (by simp only [List.length_drop];omega) (by simp only [List.length_take,List.length_drop,List.length_append,List.length_cons,List.length_nil];omega) rfl ?_));clear hF1;intro A1 c1 W1 HM1;replace HM:=HM1;clear HM1)|refine Y ?_)
        refine x_pv HQ HS 12 rfl (by kernel_rfl) (by kernel_rfl) (l':=#[true,true,true,true,true,true,true,true,true,true,true,true,true]) (by kernel_rfl) rfl ?_
        refine Y ?_
        refine x_done (by kernel_rfl) ?_
        repeat refine Y ?_
        rw [show addL xs n = [] ++ xs.take k ++ [n] ++ xs.drop k from e]
        exact ret_tmp rfl rfl ⟨A1,c1,rfl,HM.sb⟩
    · repeat (first|(refine qg ?_;clear HM;intro g W1 HM)|refine Y ?_)
      refine x_one 0 (by kernel_rfl) rfl (l':=#[true,true,true,true,false,true,true,false,true,true,true,false,false]) (by kernel_rfl) (x_go ?_)
      repeat (first|(refine qz ?_;clear HM;intro A1 W1 HM)|refine Y ?_)
      refine x_one 4 (by kernel_rfl) rfl (l':=#[true,true,true,true,true,true,true,false,true,true,true,false,false]) (by kernel_rfl) (x_go ?_)
      repeat (first|(refine gCall ?_;obtain ⟨F1,hF1⟩:=HM.own (A:=A);(first|(refine s_appw (ys:=xs.take k) HM rfl rfl rfl rfl (ro_rdc (ro_take (ro_ints hF1) k)) (by simp only [List.length_take];omega) (by simp only [List.length_take,List.length_drop,List.length_append,List.length_cons,List.length_nil];omega) rfl ?_)|(refine s_appw (ys:=xs.drop k) HM rfl rfl (by first|with_reducible rfl|(simp only [List.length_append,List.length_take,List.length_cons,List.length_nil];omega)) rfl (ro_rdc (ro_drop (ro_ints hF1) hk hcap)) (by simp only [List.length_drop];omega) (by simp only [List.length_take,List.length_drop,List.length_append,List.length_cons,List.length_nil];omega) rfl ?_));clear hF1;intro A1 c1 W1 HM1;replace HM:=HM1;clear HM1)|refine Y ?_)
      refine x_one 7 (by kernel_rfl) rfl (l':=#[true,true,true,true,true,true,true,true,true,true,true,false,false]) (by kernel_rfl) (x_go ?_)
      repeat (first|(refine qa ?_;clear HM;intro A1 c1 W1 HM)|refine Y ?_)
      refine x_one 11 (by kernel_rfl) rfl (l':=#[true,true,true,true,true,true,true,true,true,true,true,true,false]) (by kernel_rfl) (x_go ?_)
      repeat (first|(refine gCall ?_;obtain ⟨F1,hF1⟩:=HM.own (A:=A);(first|(refine s_appw (ys:=xs.take k) HM rfl rfl rfl rfl (ro_rdc (ro_take (ro_ints hF1) k)) (by simp only [List.length_take];omega) (by simp only [List.length_take,List.length_drop,List.length_append,List.length_cons,List.length_nil];omega) rfl ?_)|(refine s_appw (ys:=xs.drop k) HM rfl rfl (by first|with_reducible rfl|(simp only [List.length_append,List.length_take,List.length_cons,List.length_nil];omega)) rfl (ro_rdc (ro_drop (ro_ints hF1) hk hcap)) (by simp only [List.length_drop];omega) (by simp only [List.length_take,List.length_drop,List.length_append,List.length_cons,List.length_nil];omega) rfl ?_));clear hF1;intro A1 c1 W1 HM1;replace HM:=HM1;clear HM1)|refine Y ?_)
      refine x_pv HQ HS 12 rfl (by kernel_rfl) (by kernel_rfl) (l':=#[true,true,true,true,true,true,true,true,true,true,true,true,true]) (by kernel_rfl) rfl ?_
      refine Y ?_
      refine x_done (by kernel_rfl) ?_
      repeat refine Y ?_
      rw [show addL xs n = [] ++ xs.take k ++ [n] ++ xs.drop k from e]
      exact ret_tmp rfl rfl ⟨A1,c1,rfl,HM.sb⟩
  · obtain rfl : k = xs.length:=by omega
    have e : addL xs n = xs.take xs.length ++ [n] ++ xs.drop xs.length:=addL_new (Nat.le_refl _) hp (fun h=>by omega)
    have hk:=Nat.le_refl xs.length
    have htk : (xs.take xs.length).length ≤ 1048576:=by simp only [List.length_take];omega
    repeat refine Y ?_
    refine gR ?_
    refine x_start (ds:=[]) HM (fun w hw=>hw) (by kernel_rfl) (by kernel_rfl) qq ?_
    intro HQ HS W1 HM1;replace HM:=HM1;clear HM1
    refine x_pv HQ HS 1 rfl (by kernel_rfl) (by kernel_rfl) (l':=#[false,true,false,false,false,false,false,false,false,false,false,false,false]) (by kernel_rfl) rfl ?_
    refine Y ?_
    refine x_pv HQ HS 2 rfl (by kernel_rfl) (by kernel_rfl) (l':=#[false,true,true,false,false,false,false,false,false,false,false,false,false]) (by kernel_rfl) rfl ?_
    refine Y ?_
    refine x_pv HQ HS 3 rfl (by kernel_rfl) (by kernel_rfl) (l':=#[false,true,true,true,false,false,false,false,false,false,false,false,false]) (by kernel_rfl) rfl ?_
    refine Y ?_
    refine x_pv HQ HS 5 rfl (by kernel_rfl) (by kernel_rfl) (l':=#[false,true,true,true,false,true,false,false,false,false,false,false,false]) (by kernel_rfl) rfl ?_
    refine Y ?_
    refine x_pv HQ HS 8 rfl (by kernel_rfl) (by kernel_rfl) (l':=#[false,true,true,true,false,true,false,false,true,false,false,false,false]) (by kernel_rfl) rfl ?_
    refine Y ?_
    refine x_pv HQ HS 9 rfl (by kernel_rfl) (by kernel_rfl) (l':=#[false,true,true,true,false,true,false,false,true,true,false,false,false]) (by kernel_rfl) rfl ?_
    refine Y ?_
    refine x_pv HQ HS 10 rfl (by kernel_rfl) (by kernel_rfl) (l':=#[false,true,true,true,false,true,false,false,true,true,true,false,false]) (by kernel_rfl) rfl ?_
    refine Y ?_
    refine x_two 0 6 (by kernel_rfl) rfl rfl (l':=#[true,true,true,true,false,true,false,false,true,true,true,false,false]) (l'':=#[false,true,true,true,false,true,true,false,true,true,true,false,false]) (by kernel_rfl) (by kernel_rfl) (x_go ?_) (x_go ?_)
    · repeat (first|(refine qz ?_;clear HM;intro A1 W1 HM)|refine Y ?_)
      refine x_two 4 6 (by kernel_rfl) rfl rfl (l':=#[true,true,true,true,true,true,false,false,true,true,true,false,false]) (l'':=#[true,true,true,true,false,true,true,false,true,true,true,false,false]) (by kernel_rfl) (by kernel_rfl) (x_go ?_) (x_go ?_)
      · repeat (first|(refine gCall ?_;obtain ⟨F1,hF1⟩:=HM.own (A:=A);(first|(refine s_appw (ys:=xs.take xs.length) HM rfl rfl rfl rfl (ro_rdc (ro_take (ro_ints hF1) xs.length)) (by simp only [List.length_take];omega) (by simp only [List.length_take,List.length_drop,List.length_append,List.length_cons,List.length_nil];omega) rfl ?_)|(refine s_appw (ys:=xs.drop xs.length) HM rfl rfl (by first|with_reducible rfl|(simp only [List.length_append,List.length_take,List.length_cons,List.length_nil];omega)) rfl (ro_rdc (ro_drop (ro_ints hF1) hk hcap)) (by simp only [List.length_drop];omega) (by simp only [List.length_take,List.length_drop,List.length_append,List.length_cons,List.length_nil];omega) rfl ?_));clear hF1;intro A1 c1 W1 HM1;replace HM:=HM1;clear HM1)|refine Y ?_)
        refine x_one 6 (by kernel_rfl) rfl (l':=#[true,true,true,true,true,true,true,false,true,true,true,false,false]) (by kernel_rfl) (x_go ?_)
        repeat (first|(refine qg ?_;clear HM;intro g W1 HM)|refine Y ?_)
        refine x_one 7 (by kernel_rfl) rfl (l':=#[true,true,true,true,true,true,true,true,true,true,true,false,false]) (by kernel_rfl) (x_go ?_)
        repeat (first|(refine qa ?_;clear HM;intro A1 c1 W1 HM)|refine Y ?_)
        refine x_one 11 (by kernel_rfl) rfl (l':=#[true,true,true,true,true,true,true,true,true,true,true,true,false]) (by kernel_rfl) (x_go ?_)
        repeat (first|(refine gCall ?_;obtain ⟨F1,hF1⟩:=HM.own (A:=A);(first|(refine s_appw (ys:=xs.take xs.length) HM rfl rfl rfl rfl (ro_rdc (ro_take (ro_ints hF1) xs.length)) (by simp only [List.length_take];omega) (by simp only [List.length_take,List.length_drop,List.length_append,List.length_cons,List.length_nil];omega) rfl ?_)|(refine s_appw (ys:=xs.drop xs.length) HM rfl rfl (by first|with_reducible rfl|(simp only [List.length_append,List.length_take,List.length_cons,List.length_nil];omega)) rfl (ro_rdc (ro_drop (ro_ints hF1) hk hcap)) (by simp only [List.length_drop];omega) (by simp only [List.length_take,List.length_drop,List.length_append,List.length_cons,List.length_nil];omega) rfl ?_));clear hF1;intro A1 c1 W1 HM1;replace HM:=HM1;clear HM1)|refine Y ?_)
        refine x_pv HQ HS 12 rfl (by kernel_rfl) (by kernel_rfl) (l':=#[true,true,true,true,true,true,true,true,true,true,true,true,true]) (by kernel_rfl) rfl ?_
        refine Y ?_
        refine x_done (by kernel_rfl) ?_
        repeat refine Y ?_
        rw [show addL xs n = [] ++ xs.take xs.length ++ [n] ++ xs.drop xs.length from e]
        exact ret_tmp rfl rfl ⟨A1,c1,rfl,HM.sb⟩
      · repeat (first|(refine qg ?_;clear HM;intro g W1 HM)|refine Y ?_)
        refine x_one 4 (by kernel_rfl) rfl (l':=#[true,true,true,true,true,true,true,false,true,true,true,false,false]) (by kernel_rfl) (x_go ?_)
        repeat (first|(refine gCall ?_;obtain ⟨F1,hF1⟩:=HM.own (A:=A);(first|(refine s_appw (ys:=xs.take xs.length) HM rfl rfl rfl rfl (ro_rdc (ro_take (ro_ints hF1) xs.length)) (by simp only [List.length_take];omega) (by simp only [List.length_take,List.length_drop,List.length_append,List.length_cons,List.length_nil];omega) rfl ?_)|(refine s_appw (ys:=xs.drop xs.length) HM rfl rfl (by first|with_reducible rfl|(simp only [List.length_append,List.length_take,List.length_cons,List.length_nil];omega)) rfl (ro_rdc (ro_drop (ro_ints hF1) hk hcap)) (by simp only [List.length_drop];omega) (by simp only [List.length_take,List.length_drop,List.length_append,List.length_cons,List.length_nil];omega) rfl ?_));clear hF1;intro A1 c1 W1 HM1;replace HM:=HM1;clear HM1)|refine Y ?_)
        refine x_one 7 (by kernel_rfl) rfl (l':=#[true,true,true,true,true,true,true,true,true,true,true,false,false]) (by kernel_rfl) (x_go ?_)
        repeat (first|(refine qa ?_;clear HM;intro A1 c1 W1 HM)|refine Y ?_)
        refine x_one 11 (by kernel_rfl) rfl (l':=#[true,true,true,true,true,true,true,true,true,true,true,true,false]) (by kernel_rfl) (x_go ?_)
        repeat (first|(refine gCall ?_;obtain ⟨F1,hF1⟩:=HM.own (A:=A);(first|(refine s_appw (ys:=xs.take xs.length) HM rfl rfl rfl rfl (ro_rdc (ro_take (ro_ints hF1) xs.length)) (by simp only [List.length_take];omega) (by simp only [List.length_take,List.length_drop,List.length_append,List.length_cons,List.length_nil];omega) rfl ?_)|(refine s_appw (ys:=xs.drop xs.length) HM rfl rfl (by first|with_reducible rfl|(simp only [List.length_append,List.length_take,List.length_cons,List.length_nil];omega)) rfl (ro_rdc (ro_drop (ro_ints hF1) hk hcap)) (by simp only [List.length_drop];omega) (by simp only [List.length_take,List.length_drop,List.length_append,List.length_cons,List.length_nil];omega) rfl ?_));clear hF1;intro A1 c1 W1 HM1;replace HM:=HM1;clear HM1)|refine Y ?_)
        refine x_pv HQ HS 12 rfl (by kernel_rfl) (by kernel_rfl) (l':=#[true,true,true,true,true,true,true,true,true,true,true,true,true]) (by kernel_rfl) rfl ?_
        refine Y ?_
        refine x_done (by kernel_rfl) ?_
        repeat refine Y ?_
        rw [show addL xs n = [] ++ xs.take xs.length ++ [n] ++ xs.drop xs.length from e]
        exact ret_tmp rfl rfl ⟨A1,c1,rfl,HM.sb⟩
    · repeat (first|(refine qg ?_;clear HM;intro g W1 HM)|refine Y ?_)
      refine x_one 0 (by kernel_rfl) rfl (l':=#[true,true,true,true,false,true,true,false,true,true,true,false,false]) (by kernel_rfl) (x_go ?_)
      repeat (first|(refine qz ?_;clear HM;intro A1 W1 HM)|refine Y ?_)
      refine x_one 4 (by kernel_rfl) rfl (l':=#[true,true,true,true,true,true,true,false,true,true,true,false,false]) (by kernel_rfl) (x_go ?_)
      repeat (first|(refine gCall ?_;obtain ⟨F1,hF1⟩:=HM.own (A:=A);(first|(refine s_appw (ys:=xs.take xs.length) HM rfl rfl rfl rfl (ro_rdc (ro_take (ro_ints hF1) xs.length)) (by simp only [List.length_take];omega) (by simp only [List.length_take,List.length_drop,List.length_append,List.length_cons,List.length_nil];omega) rfl ?_)|(refine s_appw (ys:=xs.drop xs.length) HM rfl rfl (by first|with_reducible rfl|(simp only [List.length_append,List.length_take,List.length_cons,List.length_nil];omega)) rfl (ro_rdc (ro_drop (ro_ints hF1) hk hcap)) (by simp only [List.length_drop];omega) (by simp only [List.length_take,List.length_drop,List.length_append,List.length_cons,List.length_nil];omega) rfl ?_));clear hF1;intro A1 c1 W1 HM1;replace HM:=HM1;clear HM1)|refine Y ?_)
      refine x_one 7 (by kernel_rfl) rfl (l':=#[true,true,true,true,true,true,true,true,true,true,true,false,false]) (by kernel_rfl) (x_go ?_)
      repeat (first|(refine qa ?_;clear HM;intro A1 c1 W1 HM)|refine Y ?_)
      refine x_one 11 (by kernel_rfl) rfl (l':=#[true,true,true,true,true,true,true,true,true,true,true,true,false]) (by kernel_rfl) (x_go ?_)
      repeat (first|(refine gCall ?_;obtain ⟨F1,hF1⟩:=HM.own (A:=A);(first|(refine s_appw (ys:=xs.take xs.length) HM rfl rfl rfl rfl (ro_rdc (ro_take (ro_ints hF1) xs.length)) (by simp only [List.length_take];omega) (by simp only [List.length_take,List.length_drop,List.length_append,List.length_cons,List.length_nil];omega) rfl ?_)|(refine s_appw (ys:=xs.drop xs.length) HM rfl rfl (by first|with_reducible rfl|(simp only [List.length_append,List.length_take,List.length_cons,List.length_nil];omega)) rfl (ro_rdc (ro_drop (ro_ints hF1) hk hcap)) (by simp only [List.length_drop];omega) (by simp only [List.length_take,List.length_drop,List.length_append,List.length_cons,List.length_nil];omega) rfl ?_));clear hF1;intro A1 c1 W1 HM1;replace HM:=HM1;clear HM1)|refine Y ?_)
      refine x_pv HQ HS 12 rfl (by kernel_rfl) (by kernel_rfl) (l':=#[true,true,true,true,true,true,true,true,true,true,true,true,true]) (by kernel_rfl) rfl ?_
      refine Y ?_
      refine x_done (by kernel_rfl) ?_
      repeat refine Y ?_
      rw [show addL xs n = [] ++ xs.take xs.length ++ [n] ++ xs.drop xs.length from e]
      exact ret_tmp rfl rfl ⟨A1,c1,rfl,HM.sb⟩
end Go.Proofs.YtampmicahnnebaaGreat.Sp
namespace Go.Proofs.YtampmicahnnebaaGreat.Sp
open Go Go.RowKit
set_option maxRecDepth 10000
set_option maxHeartbeats 1000000
variable {w0 W : World} {L : List Asn} {A B : Option Addr} {c d : Nat} {b b2 : Bool}
def mgS (s t : Slot) : Slot:=if s.ballot < t.ballot then t else s
def mergeL : List Slot → List Slot → List Slot
  | [],r=>r
  | s :: l,[]=>s :: l
  | s :: l,t :: r=>mgS s t :: mergeL l r
theorem mergeL_nil : ∀ l : List Slot,mergeL l [] = l
  | []=>rfl
  | _ :: _=>rfl
theorem mergeL_len : ∀ l r : List Slot,(mergeL l r).length = max l.length r.length
  | [],r=>by simp [mergeL]
  | s :: l,[]=>by simp [mergeL]
  | s :: l,t :: r=>by simp only [mergeL,List.length_cons,mergeL_len l r];omega
theorem mergeL_app : ∀ (l r : List Slot) (k : Nat) (hk : k < r.length),l.length ≤ k → mergeL l (r.take (k + 1)) = mergeL l (r.take k) ++ [r[k]]
  | [],r,k,hk,_=>by simp only [mergeL,List.take_succ_eq_append_getElem hk]
  | s :: l,[],k,hk,_=>by simp at hk
  | s :: l,t :: r,0,hk,h=>by simp at h
  | s :: l,t :: r,k + 1,hk,h=>by
    simp only [List.take_succ_cons,mergeL,List.getElem_cons_succ,List.cons_append]
    rw [mergeL_app l r k (by simpa using hk) (by simpa using h)]
theorem mergeL_at : ∀ (l r : List Slot) (k : Nat) (hk : k < l.length) (h2 : k < (mergeL l (r.take k)).length),(mergeL l (r.take k))[k] = l[k]
  | s :: l,r,0,hk,h2=>by simp [mergeL]
  | s :: l,[],k + 1,hk,h2=>by simp [mergeL]
  | s :: l,t :: r,k + 1,hk,h2=>by
    have h3 : k < (mergeL l (r.take k)).length:=by rw [mergeL_len];simp at hk;omega
    have:=mergeL_at l r k (by simpa using hk) h3
    simp only [List.take_succ_cons,mergeL,List.getElem_cons_succ]
    exact this
theorem mergeL_set : ∀ (l r : List Slot) (k : Nat) (hk : k < r.length) (hl : k < l.length),mergeL l (r.take (k + 1)) = (mergeL l (r.take k)).set k (mgS l[k] r[k])
  | s :: l,[],k,hk,_=>by simp at hk
  | s :: l,t :: r,0,hk,h=>by simp [mergeL,mergeL_nil]
  | s :: l,t :: r,k + 1,hk,h=>by
    simp only [List.take_succ_cons,mergeL,List.getElem_cons_succ,List.set_cons_succ]
    rw [mergeL_set l r k (by simpa using hk) (by simpa using h)]
theorem recMergeS {xs ys : List Slot} (ha : RoRow (rSlot b) w0 A xs) (hb : RoRow (rSlot b2) w0 B ys) (hn : xs.length ≤ 1048576) (hm : ys.length ≤ 1048576) (HM : Mem w0 W L) : Calls Tryz.prog 81 #[.slice A xs.length c,.slice B ys.length d] W fun e W'=>∃ A' c',e = .returned (.slice A' (mergeL xs ys).length c') ∧ Mem w0 W' (own tSlot 91 A' c' (mergeL xs ys) :: L):=by
  refine enter Tryz.func81 rfl Tryz.ntmps81 [(0,_),(1,_)] rfl ⟨rfl,rfl,trivial⟩ ?_
  repeat (first|refine Y ?_|(refine qf ?_;go_at_call 79;refine (l1Slots_c ha hn HM).mono ?_;rintro e W1 ⟨A1,c1,rfl,HM1⟩;refine ⟨_,rfl,?_⟩;replace HM:=HM1;clear HM1))
  replace HM:=HM.rod hb
  refine c_loop2 (σ:=Nat × List Slot) (fun s A1 c1=>[(1,.slice B ys.length d),(5,.slice A1 s.2.length c1),(6,.int .i64 s.1)]) (fun s A1 c1 W1=>s.1 ≤ ys.length ∧ s.2 = mergeL xs (ys.take s.1) ∧ Mem w0 W1 (own tSlot 91 A1 c1 s.2 :: ro (rSlot b2) w0 B ys :: L)) (fun s=>ys.length - s.1) (0,xs) A1 c1 U ⟨Nat.zero_le _,by simp [mergeL_nil],HM.sb⟩ ?_
  clear HM
  rintro ⟨k,zs⟩ A1 c1 W1 ⟨hk,hz,HM⟩
  dsimp only at hk hz HM ⊢
  have hzl : zs.length = max xs.length (min k ys.length):=by rw [hz,mergeL_len];simp
  by_cases hlt : k < ys.length
  · by_cases h1 : k = zs.length
    · have e1:=mergeL_app xs ys k hlt (by omega)
      rw [← hz,← rdR_at (D:=rSlot b2) hlt] at e1
      subst h1
      repeat (first|refine Y ?_|(refine qa ?_;clear HM;intro A1 c1 W1 HM)|(refine qg ?_;clear HM;intro g W1 HM))
      exact n_round2 (zs.length + 1,zs ++ [_]) A1 c1 U ⟨by dsimp only;omega,e1.symm,HM.sb⟩ (by dsimp only;omega)
    · have hkx : k < xs.length:=by omega
      have hkz : k < zs.length:=by omega
      have e0 : rd tSlot zs k = xs[k]:=by rw [rd_at (d:=tSlot) hkz];subst hz;exact mergeL_at xs ys k hkx hkz
      have e1:=mergeL_set xs ys k hlt hkx
      rw [← hz,← rdR_at (D:=rSlot b2) hlt,← e0] at e1
      by_cases h2 : (rd tSlot zs k).ballot < (rdR (rSlot b2) ys k).ballot
      · rw [mgS,if_pos h2] at e1
        repeat (first|(refine gR ?_;refine d_start [] [(0,0),(0,1),(0,2),(0,3),(0,5),(0,6),(0,7),(0,8),(1,4),(1,9),(0,10)] HM (by kernel_rfl) (by kernel_rfl) qq (by kernel_rfl) rfl ?_;intro HQ HS W1 HM1;replace HM:=HM1;clear HM1)|refine Y ?_|(refine gStore ?_;refine s_storew HM rfl rfl rfl (by omega) (by omega) rfl ?_;clear HM;intro W1 HM))
        simp only [Int.toNat_natCast] at HM
        exact n_round2 (k + 1,zs.set k _) A1 c1 (by simp only [List.length_set];exact U) ⟨by dsimp only;omega,e1.symm,HM.sb⟩ (by dsimp only;omega)
      · rw [mgS,if_neg h2,rd_at (d:=tSlot) hkz,List.set_getElem_self] at e1
        repeat (first|(refine gR ?_;refine d_start [] [(0,0),(0,1),(0,2),(0,3),(0,5),(0,6),(0,7),(0,8),(1,4),(1,9),(0,10)] HM (by kernel_rfl) (by kernel_rfl) qq (by kernel_rfl) rfl ?_;intro HQ HS W1 HM1;replace HM:=HM1;clear HM1)|refine Y ?_)
        exact n_round2 (k + 1,zs) A1 c1 U ⟨by dsimp only;omega,e1.symm,HM.sb⟩ (by dsimp only;omega)
  · obtain rfl : k = ys.length:=by omega
    rw [List.take_length] at hz
    subst hz
    repeat refine Y ?_
    exact ret_tmp rfl rfl ⟨A1,c1,rfl,HM.sb⟩
end Go.Proofs.YtampmicahnnebaaGreat.Sp
namespace Go.Proofs.YtampmicahnnebaaGreat.Sp
open Go Go.RowKit
set_option maxRecDepth 10000
set_option maxHeartbeats 1000000
variable {w0 W : World} {L : List Asn}
def advK (x : Rcd) (d : Int) (a : Ack) : Int:=if a.index = d + 1 ∧ x.of < 2 * (a.frm.length : Int) ∧ a.index ≤ x.ds.length ∧ (rdR (rSlot false) x.ds (a.index - 1)).ballot = x.ballot then a.index else d
def advL (x : Rcd) : Rcd:={ x with dk:=x.acks.foldl (advK x) x.dk }
theorem advK_in {x : Rcd} {d : Int} {a : Ack} (h0 : 0 ≤ d) (h1 : d ≤ x.ds.length) : 0 ≤ advK x d a ∧ advK x d a ≤ x.ds.length:=by
  unfold advK;split
  · rename_i h;exact ⟨by omega,h.2.2.1⟩
  · exact ⟨h0,h1⟩
theorem advS (x : Rcd) (i : AtRcd) (h0 : 0 ≤ x.dk) (h1 : x.dk ≤ x.ds.length) (hn : x.ds.length ≤ 1048576) (ha : x.acks.length ≤ 1048576) (has : ∀ a ∈ x.acks,a.frm.length ≤ 1048576) (HM : Mem w0 W (partRcd 91 40 9 3 66 x i ++ L)) : Calls Tryz.prog 105 #[.agg (encRcd x i).toArray] W fun e W'=>∃ j,e = .returned (.agg (encRcd (advL x) j).toArray) ∧ Mem w0 W' (partRcd 91 40 9 3 66 (advL x) j ++ L):=by
  refine enter Tryz.func105 rfl Tryz.ntmps105 [(0,.agg (encRcd x i).toArray)] rfl ⟨rfl,trivial⟩ ?_
  simp only [partRcd,List.cons_append,List.nil_append] at HM
  have HB:=HM
  obtain ⟨F1,hF1⟩:=HM.own (A:=i.a6.1)
  have ra:=ro_acks hF1
  obtain ⟨F2,hF2⟩:=HM.own (A:=i.a1.1)
  have rd:=ro_slots hF2
  clear hF1 hF2
  replace HM:=((Mem.start W).rod ra).rod rd
  unfold encRcd
  repeat (first|refine Y ?_|(refine qg ?_;clear HM;intro g W1 HM))
  rename_i gr _
  refine c_loop (σ:=Nat × Int) (fun s=>[(1,.pointer (some ⟨gr,0,none⟩)),(2,.pointer (some ⟨g,0,none⟩)),(3,.int .i64 s.1)]) (fun s W1=>s.1 ≤ x.acks.length ∧ s.2 = (x.acks.take s.1).foldl (advK x) x.dk ∧ 0 ≤ s.2 ∧ s.2 ≤ x.ds.length ∧ Mem W W1 (box gr 31 [.int .i64 x.number,.int .i64 x.of,.bool x.up,.int .i64 x.sp,.int .i64 x.sk,.slice i.a0.1 x.ss.length i.a0.2,.int .i64 x.dp,.int .i64 s.2,.slice i.a1.1 x.ds.length i.a1.2,.slice i.a2.1 x.held.length i.a2.2,.slice i.a3.1 x.wishes.length i.a3.2,.bool x.lead,.bool x.trying,.int .i64 x.ballot,.slice i.a4.1 x.yes.length i.a4.2,.slice i.a5.1 x.best.length i.a5.2,.slice i.a6.1 x.acks.length i.a6.2,.int .i64 x.heard] :: ro rAck W i.a6.1 x.acks :: ro (rSlot false) W i.a1.1 x.ds :: _)) (fun s=>x.acks.length - s.1) (0,x.dk) U ⟨Nat.zero_le _,rfl,h0,h1,((HM.pk (A:=ro (rSlot false) W i.a1.1 x.ds)).pk (A:=ro rAck W i.a6.1 x.acks)).pk (A:=box gr 31 [.int .i64 x.number,.int .i64 x.of,.bool x.up,.int .i64 x.sp,.int .i64 x.sk,.slice i.a0.1 x.ss.length i.a0.2,.int .i64 x.dp,.int .i64 x.dk,.slice i.a1.1 x.ds.length i.a1.2,.slice i.a2.1 x.held.length i.a2.2,.slice i.a3.1 x.wishes.length i.a3.2,.bool x.lead,.bool x.trying,.int .i64 x.ballot,.slice i.a4.1 x.yes.length i.a4.2,.slice i.a5.1 x.best.length i.a5.2,.slice i.a6.1 x.acks.length i.a6.2,.int .i64 x.heard])⟩ ?_
  clear HM
  rintro ⟨k,d⟩ W1 ⟨hk,hd,hd0,hd1,HM⟩
  dsimp only at hk hd hd0 hd1 HM ⊢
  by_cases hlt : k < x.acks.length
  · have e0:=rdR_at (D:=rAck) hlt
    have hs1:=has _ (List.getElem_mem hlt)
    have hstep : (x.acks.take (k + 1)).foldl (advK x) x.dk = advK x d x.acks[k]:=by rw [List.take_succ_eq_append_getElem hlt,List.foldl_append,← hd];rfl
    obtain ⟨cc,⟨j,rfl,hs⟩,HM⟩:=HM.roOpen (A:=i.a6.1) k hlt
    unfold encAck at HM
    generalize x.acks[k] = a at *
    have hx:=advK_in (x:=x) (a:=a) hd0 hd1
    by_cases t1 : a.index = d + 1
    rotate_left
    · rw [advK,if_neg (fun h=>t1 h.1)] at hstep hx
      repeat (first|(refine gR ?_;refine d_start [] [(0,0),(0,2),(0,3),(1,1),(1,4),(0,5),(0,6),(0,7),(0,8),(0,12),(1,9),(0,10),(0,11),(1,13),(0,14),(0,15),(0,16),(0,17),(0,19),(0,20),(1,18),(1,21),(0,22),(0,23),(0,24),(0,25),(0,26),(0,27),(0,29),(0,35),(1,28),(1,30),(0,31),(0,32),(0,33),(1,34),(1,36),(0,37),(0,38)] HM (by kernel_rfl) (by kernel_rfl) qq (by kernel_rfl) rfl ?_;intro HQ HS W1 HM1;replace HM:=HM1;clear HM1)|refine Y ?_|(refine qs ?_;clear HM;intro W1 HM)|(refine qg ?_;clear HM;intro g W1 HM))
      exact n_round (k + 1,d) U ⟨by dsimp only;omega,hstep.symm,hd0,hd1,HM.sb⟩ (by dsimp only;omega)
    by_cases t2 : x.of < 2 * (a.frm.length : Int)
    rotate_left
    · rw [advK,if_neg (fun h=>t2 h.2.1)] at hstep hx
      repeat (first|(refine gR ?_;refine d_start [] [(0,0),(0,2),(0,3),(1,1),(1,4),(0,5),(0,6),(0,7),(0,8),(0,12),(1,9),(0,10),(0,11),(1,13),(0,14),(0,15),(0,16),(0,17),(0,19),(0,20),(1,18),(1,21),(0,22),(0,23),(0,24),(0,25),(0,26),(0,27),(0,29),(0,35),(1,28),(1,30),(0,31),(0,32),(0,33),(1,34),(1,36),(0,37),(0,38)] HM (by kernel_rfl) (by kernel_rfl) qq (by kernel_rfl) rfl ?_;intro HQ HS W1 HM1;replace HM:=HM1;clear HM1)|refine Y ?_|(refine qs ?_;clear HM;intro W1 HM)|(refine qg ?_;clear HM;intro g W1 HM))
      exact n_round (k + 1,d) U ⟨by dsimp only;omega,hstep.symm,hd0,hd1,HM.sb⟩ (by dsimp only;omega)
    by_cases t3 : a.index ≤ x.ds.length
    rotate_left
    · rw [advK,if_neg (fun h=>t3 h.2.2.1)] at hstep hx
      repeat (first|(refine gR ?_;refine d_start [] [(0,0),(0,2),(0,3),(1,1),(1,4),(0,5),(0,6),(0,7),(0,8),(0,12),(1,9),(0,10),(0,11),(1,13),(0,14),(0,15),(0,16),(0,17),(0,19),(0,20),(1,18),(1,21),(0,22),(0,23),(0,24),(0,25),(0,26),(0,27),(0,29),(0,35),(1,28),(1,30),(0,31),(0,32),(0,33),(1,34),(1,36),(0,37),(0,38)] HM (by kernel_rfl) (by kernel_rfl) qq (by kernel_rfl) rfl ?_;intro HQ HS W1 HM1;replace HM:=HM1;clear HM1)|refine Y ?_|(refine qs ?_;clear HM;intro W1 HM)|(refine qg ?_;clear HM;intro g W1 HM))
      exact n_round (k + 1,d) U ⟨by dsimp only;omega,hstep.symm,hd0,hd1,HM.sb⟩ (by dsimp only;omega)
    by_cases t4 : (rdR (rSlot false) x.ds (a.index - 1)).ballot = x.ballot
    rotate_left
    · rw [advK,if_neg (fun h=>t4 h.2.2.2)] at hstep hx
      repeat (first|(refine gR ?_;refine d_start [] [(0,0),(0,2),(0,3),(1,1),(1,4),(0,5),(0,6),(0,7),(0,8),(0,12),(1,9),(0,10),(0,11),(1,13),(0,14),(0,15),(0,16),(0,17),(0,19),(0,20),(1,18),(1,21),(0,22),(0,23),(0,24),(0,25),(0,26),(0,27),(0,29),(0,35),(1,28),(1,30),(0,31),(0,32),(0,33),(1,34),(1,36),(0,37),(0,38)] HM (by kernel_rfl) (by kernel_rfl) qq (by kernel_rfl) rfl ?_;intro HQ HS W1 HM1;replace HM:=HM1;clear HM1)|refine Y ?_|(refine qs ?_;clear HM;intro W1 HM)|(refine qg ?_;clear HM;intro g W1 HM))
      exact n_round (k + 1,d) U ⟨by dsimp only;omega,hstep.symm,hd0,hd1,HM.sb⟩ (by dsimp only;omega)
    · rw [advK,if_pos ⟨t1,t2,t3,t4⟩] at hstep hx
      repeat (first|(refine gR ?_;refine d_start [] [(0,0),(0,2),(0,3),(1,1),(1,4),(0,5),(0,6),(0,7),(0,8),(0,12),(1,9),(0,10),(0,11),(1,13),(0,14),(0,15),(0,16),(0,17),(0,19),(0,20),(1,18),(1,21),(0,22),(0,23),(0,24),(0,25),(0,26),(0,27),(0,29),(0,35),(1,28),(1,30),(0,31),(0,32),(0,33),(1,34),(1,36),(0,37),(0,38)] HM (by kernel_rfl) (by kernel_rfl) qq (by kernel_rfl) rfl ?_;intro HQ HS W1 HM1;replace HM:=HM1;clear HM1)|refine Y ?_|(refine qs ?_;clear HM;intro W1 HM)|(refine qg ?_;clear HM;intro g W1 HM))
      exact n_round (k + 1,a.index) U ⟨by dsimp only;omega,hstep.symm,hx.1,hx.2,HM.sb⟩ (by dsimp only;omega)
  · obtain rfl : k = x.acks.length:=by omega
    rw [List.take_length] at hd
    repeat (first|refine Y ?_|(refine qs ?_;clear HM;intro W1 HM))
    replace HM:=HB.join HM
    simp only [List.cons_append,List.nil_append] at HM
    exact ret_cell HM rfl rfl rfl ⟨i,by rw [advL,← hd],by simp only [advL,partRcd,List.cons_append,List.nil_append];exact HM.sb⟩
end Go.Proofs.YtampmicahnnebaaGreat.Sp
namespace Go.Proofs.YtampmicahnnebaaGreat.Sp
open Go Go.RowKit
variable {w0 W : World} {L : List Asn} {α : Type} {D : Ty α} {e c : Nat} {A : Option Addr} {xs : List α} {css : List (List Value)}
def tRaw (n : Nat) : Ty (List Value) where
  sz:=n
  z:=[]
  A:=fun x c=>exP (fun _ : Unit=>c = x ∧ c.length = n ∧ ∀ u ∈ c,u.oneCell' = true) (fun _=>[])
  get:=fun _ _=>none
  set:=fun _ _ _=>none
  len:=fun ⟨_,h,_⟩=>h.2.1
  one:=fun ⟨_,h,_⟩=>h.2.2
  get_ok:=fun _ h=>by cases h
  set_ok:=fun _ h=>by cases h
def rRaw (n : Nat) : TyR (List Value) where
  sz:=n
  z:=[]
  R:=fun _ x c=>c = x ∧ c.length = n
  get:=fun _ _=>none
  len:=fun h=>h.2
  get_ok:=fun _ h=>by cases h
instance {n : Nat} : FlatR (rRaw n) id:=⟨fun h=>h.1⟩
theorem ro_raws {n : Nat} {F : Nat → Prop} (h : (own (tRaw n) e A c css).H W F) : RoRow (rRaw n) W A css:=own_ro (D:=tRaw n) (DR:=rRaw n) rfl (fun ⟨_,h,_⟩=>⟨h.1,h.2.1⟩) h
theorem els_raw {n : Nat} (W : World) : ∀ (css : List (List Value)) (ok : Nat → Prop),(∀ c ∈ css,c.length = n) → (∀ u ∈ css.flatten,u.oneCell' = true) → SepIn W ok (els (tRaw n) css css)
  | [],_,_,_=>trivial
  | y :: ys,ok,h1,h2=>⟨fun _=>False,fun _ h=>h.elim,⟨(),⟨rfl,h1 y (by simp),fun u hu=>h2 u (by simp [hu])⟩,trivial⟩,(els_raw W ys ok (fun c hc=>h1 c (by simp [hc])) (fun u hu=>h2 u (by simp only [List.flatten_cons,List.mem_append];exact .inr hu))).mono (fun k hk=>⟨hk,fun h=>h⟩)⟩
theorem opn_raw (h : Mem w0 W (own D e A c xs :: L)) : ∃ css : List (List Value),css.length = xs.length ∧ Mem w0 W (own (tRaw D.sz) e A c css :: lels D xs css :: L):=by
  obtain ⟨css,hl,h⟩:=h.ex
  obtain ⟨h1,h2⟩ : (∀ c ∈ css,c.length = D.sz) ∧ (∀ u ∈ css.flatten,u.oneCell' = true):=by
    obtain ⟨F,_,_,h3⟩:=h.sep
    obtain ⟨G,_,h4,_⟩:=SepIn.append h3
    exact ⟨els_len hl h4,els_one hl h4⟩
  refine ⟨css,hl,?_⟩
  have h3 : Mem w0 W (els D xs css ++ (row e D.sz A xs.length c css.flatten :: L)):=h.perm (List.perm_middle (a:=row e D.sz A xs.length c css.flatten) (l₁:=els D xs css) (l₂:=L)).symm
  have h4 : Mem w0 W (lels D xs css :: row e D.sz A xs.length c css.flatten :: L):=Mem.mkx () hl h3
  have h5 : Mem w0 W (lels (tRaw D.sz) css css :: lels D xs css :: row e D.sz A xs.length c css.flatten :: L):=⟨h4.below,fun _=>False,fun _ h=>h.elim,⟨(),rfl,els_raw W css _ h1 h2⟩,h4.sep.mono (fun k hk=>⟨hk,fun h=>h⟩)⟩
  obtain ⟨_,_,h6⟩:=h5.ex
  refine Mem.mkx css rfl ?_
  rw [hl]
  refine h6.perm ?_
  refine (List.Perm.append_left _ (List.Perm.swap (row e D.sz A xs.length c css.flatten) (lels D xs css) L)).trans ?_
  exact List.perm_middle (a:=row e D.sz A xs.length c css.flatten) (l₁:=els (tRaw D.sz) css css) (l₂:=lels D xs css :: L)
theorem lels_split (k : Nat) (h : Mem w0 W (lels D xs css :: L)) : Mem w0 W (lels D (xs.take k) (css.take k) :: lels D (xs.drop k) (css.drop k) :: L):=by
  obtain ⟨_,hl,h⟩:=h.ex
  rw [lels_take css xs k hl,List.append_assoc] at h
  have h1 : Mem w0 W (lels D (xs.take k) (css.take k) :: (els D (xs.drop k) (css.drop k) ++ L)):=Mem.mkx () (by simp;omega) h
  have h2 : Mem w0 W (lels D (xs.drop k) (css.drop k) :: lels D (xs.take k) (css.take k) :: L):=Mem.mkx () (by simp;omega) (h1.perm (List.perm_middle (a:=lels D (xs.take k) (css.take k)) (l₁:=els D (xs.drop k) (css.drop k)) (l₂:=L)).symm)
  exact h2.perm (List.Perm.swap ..)
theorem opn_at (k : Nat) (h : Mem w0 W (own D e A c xs :: L)) : ∃ css : List (List Value),css.length = xs.length ∧ Mem w0 W (lels D (xs.take k) (css.take k) :: lels D (xs.drop k) (css.drop k) :: own (tRaw D.sz) e A c css :: L):=by
  obtain ⟨css,hl,h⟩:=opn_raw h
  exact ⟨css,hl,lels_split k (h.perm (List.Perm.swap ..))⟩
theorem rdc_take {n : Nat} {F : Nat → Prop} (h : (own (tRaw n) e A c css).H W F) (k : Nat) : Rdc W n A (css.take k).length (css.take k).flatten:=by
  have:=ro_rdc (ro_take (ro_raws h) k)
  rwa [List.map_id] at this
theorem rdc_drop {n : Nat} {F : Nat → Prop} (h : (own (tRaw n) e A c css).H W F) {k : Nat} (hk : k ≤ css.length) (hc : css.length ≤ c) : Rdc W n (fromA A n c k) (css.drop k).length (css.drop k).flatten:=by
  have:=ro_rdc (ro_drop (ro_raws h) hk hc)
  rwa [List.map_id] at this
section
variable {P : Program} {n : Nat} {Q : Exit → Act → World → Prop} {E : Env}
theorem x_last {ll : List Oper} {S : World → Prop} {ds : List Nat} {fuel : Nat} {l l' : Array Bool} {o : Oper} (i : Nat) (hr : Region.ready .any ll.toArray l = [i]) (ho : nthO ll i = some o) (hl : l.setIfInBounds i true = l') (hd : Region.ready .any ll.toArray l' = []) (hds : ds.contains i = true) (h : WL P n ll.toArray (Exit.then (fun a w=>Q .normal a w) Q) [o] E W) : WX P n ll.toArray Q S ds l (fuel + 1) E W:=by
  have ho' : ll.toArray[i]? = some o:=by rw [nthO_eq] at ho;simpa using ho
  refine ⟨fun a ha hS=>?_⟩
  refine Go.Proofs.YtampmicahnnebaaGreatW.PrintLast.wpAnyLast_all hr (by simp) (fun q hq=>?_)
  obtain rfl : q = i:=by simpa using hq
  rw [hl]
  refine wpOp_mono (fun a' w' hk=>⟨fun hn=>absurd (by simpa using hds) hn,Go.Proofs.YtampmicahnnebaaGreatW.PrintLast.wpAnyLast_done hd hk _⟩) (list_wpOp ho' (h.out a ha))
theorem x_backl (h : WN n .normal Q E W) : WN n .normal (Exit.then (fun a w=>Q .normal a w) Q) E W:=⟨fun a ha=>h.out a ha⟩
theorem d_startd {id : Nat} {l : List Oper} {B : Asn} (ds : List Nat) (plan : List (Nat × Nat)) (hm : Mem w0 W (B :: L)) (hmix : P.follows .mixedOrders = true) (hsel : Region.noSelect l.toArray = true) (hq : QP Q)
    (hp : planB l.toArray ds (Array.replicate l.toArray.size false) plan = true) (hlen : plan.length = l.toArray.size) (h : QP Q → Region.noSelect l.toArray = true → ∀ W1,Mem w0 W1 (B :: L) → WD P n l.toArray Q (fun w=>Mem w0 w L) ds plan E W1) : WC P n (.region id l.toArray true) Q E W:=by
  refine ⟨fun a ha=>?_⟩
  refine Go.Proofs.YtampmicahnnebaaGreatW.PrintLast.start_ (S:=fun w=>Mem w0 w L) (ds:=ds) (n:=plan.length) (Array.replicate l.toArray.size false) hmix hlen.symm (by rw [hlen]) (hm.drew.drop) (fun hS=>?_)
  exact (h hq hsel _ hm.drew).out _ hp a ha hS
end
end Go.Proofs.YtampmicahnnebaaGreat.Sp
namespace Go.Proofs.YtampmicahnnebaaGreat.Sp
open Go Go.RowKit
set_option maxRecDepth 10000
set_option maxHeartbeats 4000000
section
variable {P : Program} {n : Nat} {ops : Array Oper} {Q : Exit → Act → World → Prop} {rest : List Oper} {E : Env} {w0 W : World} {L : List Asn} {d src dst e g t : Nat} {ty : TypeId} {pos : String} {after : Array Edge} {x y : Operand} {s s' : ByteArray} {xt yt : TypeId} {k k' : IntKind} {m : Int} {us : TypeDesc}
end
def mtGo : Nat → Nat → ByteArray → ByteArray
  | 0,_,o=>o
  | f + 1,k,o=>if k = 0 then o else mtGo f (k / 10) (strOfNums [IntKind.u8.wrap (48 + ((k % 10 : Nat) : Int))] ++ o)
def mt (k : Nat) : ByteArray:=⟨#[109]⟩ ++ mtGo k k ⟨#[]⟩
end Go.Proofs.YtampmicahnnebaaGreat.Sp
namespace Go.Proofs.YtampmicahnnebaaGreat.Sp
open Go Go.RowKit
set_option maxRecDepth 10000
set_option maxHeartbeats 4000000
variable {w0 W : World} {L : List Asn} {A : Option Addr} {c : Nat}
section
variable {α ι : Type} {e : Nat} {xs : List α}
theorem opn_nest {sz : Nat} {z : α} {enc : α → ι → List Value} {parts : α → ι → List Asn} {get : α → Nat → Option Value} {set : α → Nat → Value → Option α} {hl h1 hg hs} (h : Mem w0 W (own (nest sz z enc parts get set hl h1 hg hs) e A c xs :: L)) (i : Nat) (hi : i < xs.length) :
    ∃ j,Mem w0 W (hol (nest sz z enc parts get set hl h1 hg hs) e A c xs i (enc xs[i] j) :: (parts xs[i] j ++ L)):=by
  obtain ⟨cs,h2⟩:=opn_ h i hi
  have h3 : Mem w0 W (exP (fun j=>cs = enc xs[i] j) (parts xs[i]) :: hol (nest sz z enc parts get set hl h1 hg hs) e A c xs i cs :: L):=h2.perm (List.Perm.swap ..)
  obtain ⟨j,rfl,h4⟩:=h3.ex
  exact ⟨j,h4.perm List.perm_middle⟩
theorem cls_nest {sz : Nat} {z : α} {enc : α → ι → List Value} {parts : α → ι → List Asn} {get : α → Nat → Option Value} {set : α → Nat → Value → Option α} {hl h1 hg hs} {i : Nat} {x : α} {j : ι} (h : Mem w0 W (hol (nest sz z enc parts get set hl h1 hg hs) e A c xs i (enc x j) :: (parts x j ++ L))) :
    Mem w0 W (own (nest sz z enc parts get set hl h1 hg hs) e A c (xs.set i x) :: L):=by
  have h4:=h.perm (List.perm_middle (a:=hol (nest sz z enc parts get set hl h1 hg hs) e A c xs i (enc x j)) (l₁:=parts x j) (l₂:=L)).symm
  have h3 : Mem w0 W (exP (fun k=>enc x j = enc x k) (parts x) :: hol (nest sz z enc parts get set hl h1 hg hs) e A c xs i (enc x j) :: L):=Mem.mkx j rfl h4
  exact cls_ (h3.perm (List.Perm.swap ..))
end
end Go.Proofs.YtampmicahnnebaaGreat.Sp
namespace Go.Proofs.YtampmicahnnebaaGreat.Sp
open Go Go.RowKit
set_option maxRecDepth 10000
set_option maxHeartbeats 8000000
variable {w0 W : World} {L : List Asn}
instance {L : List Asn} {eI : Nat} {index : Int} : MkIn L (tAck eI) [.int .i64 index,.slice none 0 0] ⟨index,[]⟩ L :=
  mk_nest (M:=[own tInt eI none 0 []]) (fun W ok hs=>⟨fun _=>False,fun _ h=>h.elim,own_nil tInt eI,hs.mono (fun k hk=>⟨hk,fun h=>h⟩)⟩) (fun W F hs=>⟨(none,0),rfl,hs⟩)
theorem opn_ack {eI e c : Nat} {A : Option Addr} {xs : List Ack} (h : Mem w0 W (own (tAck eI) e A c xs :: L)) (i : Nat) (hi : i < xs.length) : ∃ j : At,Mem w0 W (hol (tAck eI) e A c xs i [.int .i64 xs[i].index,.slice j.1 xs[i].frm.length j.2] :: own tInt eI j.1 j.2 xs[i].frm :: L):=opn_nest h i hi
theorem cls_ack {eI e c i : Nat} {A : Option Addr} {xs : List Ack} {a : Int} {fs : List Int} {B : Option Addr} {d : Nat} (h : Mem w0 W (hol (tAck eI) e A c xs i [.int .i64 a,.slice B fs.length d] :: own tInt eI B d fs :: L)) : Mem w0 W (own (tAck eI) e A c (xs.set i ⟨a,fs⟩) :: L):=cls_nest (x:=(⟨a,fs⟩ : Ack)) (j:=(B,d)) h
def ackA : List Ack → Int → Int → List Ack
  | [],n,f=>[⟨n,addL [] f⟩]
  | a :: r,n,f=>if a.index < n then a :: ackA r n f else if a.index = n then ⟨a.index,addL a.frm f⟩ :: r else ⟨n,addL [] f⟩ :: a :: r
theorem ackA_in : ∀ {l : List Ack} {n f : Int} {k : Nat} (hk : k < l.length),(∀ j (h : j < l.length),j < k → l[j].index < n) → l[k].index = n → ackA l n f = l.set k ⟨l[k].index,addL l[k].frm f⟩
  | a :: r,n,f,0,_,_,e=>by simp at e;simp [ackA,e]
  | a :: r,n,f,k + 1,hk,h,e=>by
    have h0 : a.index < n:=h 0 (by simp) (by omega)
    rw [ackA,if_pos h0,ackA_in (k:=k) (by simpa using hk) (fun j hj hjk=>h (j + 1) (by simpa using hj) (by omega)) (by simpa using e)]
    simp
theorem ackA_new : ∀ {l : List Ack} {n f : Int} {k : Nat},k ≤ l.length → (∀ j (h : j < l.length),j < k → l[j].index < n) → (∀ h : k < l.length,n < l[k].index) → ackA l n f = l.take k ++ [⟨n,addL [] f⟩] ++ l.drop k
  | [],n,f,k,_,_,_=>by simp [ackA]
  | a :: r,n,f,0,_,_,e=>by
    have:=e (by simp)
    simp at this
    simp [ackA,show ¬ a.index < n by omega,show a.index ≠ n by omega]
  | a :: r,n,f,k + 1,hk,h,e=>by
    have h0 : a.index < n:=h 0 (by simp) (by omega)
    rw [ackA,if_pos h0,ackA_new (k:=k) (by simpa using hk) (fun j hj hjk=>h (j + 1) (by simpa using hj) (by omega)) (fun hk=>by have h2:=e (Nat.succ_lt_succ hk);rwa [List.getElem_cons_succ] at h2)]
    simp
theorem ackA_len (l : List Ack) (n f : Int) : (ackA l n f).length ≤ l.length + 1:=by
  induction l with
  | nil=>simp [ackA]
  | cons a r ih=>rw [ackA];split <;> (try split) <;> simp <;> omega
theorem ackA_frm (l : List Ack) (n f : Int) (q : Nat) (h : ∀ a ∈ l,a.frm.length ≤ q) : ∀ a ∈ ackA l n f,a.frm.length ≤ q + 1:=by
  induction l with
  | nil=>intro a ha;simp [ackA] at ha;subst ha;have:=addL_len [] f;simp at this ⊢;omega
  | cons b r ih =>
    intro a ha
    have hb:=h b (by simp)
    have hr:=fun a ha=>h a (List.mem_cons_of_mem b ha)
    rw [ackA] at ha
    split at ha
    · rcases List.mem_cons.1 ha with e|e
      · subst e;omega
      · exact ih hr a e
    · split at ha
      · rcases List.mem_cons.1 ha with e|e
        · subst e;have:=addL_len b.frm f;simp only;omega
        · have:=hr a e;omega
      · rcases List.mem_cons.1 ha with e|e
        · subst e;have:=addL_len [] f;simp at this ⊢;omega
        · have:=h a e;omega
theorem ack_ins {l : List Ack} {k : Nat} (a : Ack) (hk : k ≤ l.length) {ys : List Ack} (hy : ys = [] ++ l.take k ++ [a] ++ l.drop k) : ys.length = l.length + 1 ∧ (∀ h : k < ys.length,ys[k] = a) ∧ ∀ a',ys.set k a' = l.take k ++ [a'] ++ l.drop k:=by
  have hl : (l.take k).length = k:=by simp;omega
  subst hy
  refine ⟨by simp;omega,fun h=>?_,fun a'=>?_⟩
  · simp [List.getElem_append,hl]
  · have h1 : k ≤ (l.take k).length:=by omega
    rw [List.nil_append,List.append_assoc,List.append_assoc,List.set_append,if_neg (by omega),hl,Nat.sub_self]
    rfl
def ackL (x : Rcd) (ix f : Int) : Rcd:=advL { x with acks:=ackA x.acks ix f }
theorem ackS (x : Rcd) (i : AtRcd) (ix f : Int) (h0 : 0 ≤ x.dk) (h1 : x.dk ≤ x.ds.length) (hn : x.ds.length ≤ 1048576) (ha : x.acks.length ≤ 1000) (has : ∀ a ∈ x.acks,a.frm.length ≤ 1000) (HM : Mem w0 W (partRcd 91 40 9 3 66 x i ++ L)) : Calls Tryz.prog 83 #[.agg (encRcd x i).toArray,.int .i64 ix,.int .i64 f] W fun e W'=>∃ j,e = .returned (.agg (encRcd (ackL x ix f) j).toArray) ∧ Mem w0 W' (partRcd 91 40 9 3 66 (ackL x ix f) j ++ L):=by
  refine enter Tryz.func83 rfl Tryz.ntmps83 [(0,.agg (encRcd x i).toArray),(1,_),(2,_)] rfl ⟨rfl,rfl,rfl,trivial⟩ ?_
  unfold encRcd
  simp only [partRcd,List.cons_append,List.nil_append] at HM
  have hcap : x.acks.length ≤ i.a6.2:=by obtain ⟨F1,hF1⟩:=HM.own (A:=i.a6.1);exact (own_max hF1).2
  repeat (first|refine Y ?_|(refine qg ?_;clear HM;intro g W1 HM))
  rename_i gr _
  refine c_loop (σ:=Nat) (fun k=>[(1,.int .i64 ix),(2,.int .i64 f),(3,.pointer (some ⟨gr,0,none⟩)),(6,.pointer (some ⟨g,0,none⟩)),(7,.int .i64 k)]) (fun k W1=>k ≤ x.acks.length ∧ (∀ j (h : j < x.acks.length),j < k → x.acks[j].index < ix) ∧ Mem w0 W1 (box gr 31 [.int .i64 x.number,.int .i64 x.of,.bool x.up,.int .i64 x.sp,.int .i64 x.sk,.slice i.a0.1 x.ss.length i.a0.2,.int .i64 x.dp,.int .i64 x.dk,.slice i.a1.1 x.ds.length i.a1.2,.slice i.a2.1 x.held.length i.a2.2,.slice i.a3.1 x.wishes.length i.a3.2,.bool x.lead,.bool x.trying,.int .i64 x.ballot,.slice i.a4.1 x.yes.length i.a4.2,.slice i.a5.1 x.best.length i.a5.2,.slice i.a6.1 x.acks.length i.a6.2,.int .i64 x.heard] :: own (tAck 3) 66 i.a6.1 i.a6.2 x.acks :: _)) (fun k=>x.acks.length - k) 0 U ⟨Nat.zero_le _,fun j h hj=>by omega,(HM.pk (A:=own (tAck 3) 66 i.a6.1 i.a6.2 x.acks)).pk (A:=box gr 31 [.int .i64 x.number,.int .i64 x.of,.bool x.up,.int .i64 x.sp,.int .i64 x.sk,.slice i.a0.1 x.ss.length i.a0.2,.int .i64 x.dp,.int .i64 x.dk,.slice i.a1.1 x.ds.length i.a1.2,.slice i.a2.1 x.held.length i.a2.2,.slice i.a3.1 x.wishes.length i.a3.2,.bool x.lead,.bool x.trying,.int .i64 x.ballot,.slice i.a4.1 x.yes.length i.a4.2,.slice i.a5.1 x.best.length i.a5.2,.slice i.a6.1 x.acks.length i.a6.2,.int .i64 x.heard])⟩ ?_
  clear HM
  rintro k W1 ⟨hk,hp,HM⟩
  by_cases hlt : k < x.acks.length
  · have e0:=rd_at (d:=tAck 3) hlt
    by_cases c1 : (rd (tAck 3) x.acks k).index < ix
    · repeat refine Y ?_
      exact n_round (k + 1) U ⟨by omega,fun j h hj=>by
        by_cases e : j = k
        · subst e;rw [← e0];exact c1
        · exact hp j h (by omega),HM⟩ (by omega)
    by_cases c2 : (rd (tAck 3) x.acks k).index = ix
    · have e:=ackA_in (f:=f) hlt hp (by rw [← e0];exact c2)
      repeat refine Y ?_
      have hfl:=has _ (List.getElem_mem hlt)
      obtain ⟨j,HM⟩:=opn_ack (HM.pk (A:=own (tAck 3) 66 i.a6.1 i.a6.2 x.acks)) k hlt
      replace HM:=HM.perm (List.Perm.swap ..)
      repeat (first|(refine gR ?_;refine d_startd [13] [(0,0),(0,2),(0,3),(0,5),(0,9),(1,1),(1,4),(0,6),(0,7),(1,8),(2,10),(0,11),(0,12),(3,13)] HM (by kernel_rfl) (by kernel_rfl) qq (by kernel_rfl) rfl ?_;intro HQ HS W1 HM1;replace HM:=HM1;clear HM1)|refine Y ?_|(refine gStore ?_;refine s_storeh HM rfl rfl rfl rfl rfl rfl ?_;clear HM;intro W1 HM;(try dsimp only at HM))|(refine qf ?_;go_at_call 80;refine (addS f (by omega) (by exact HM.pk)).mono ?_;rintro e2 W2 ⟨A2,c2,rfl,HM1⟩;refine ⟨_,rfl,?_⟩;replace HM:=HM1;clear HM1))
      have HM1:=cls_ack ((HM.pk (A:=own tInt 3 A2 c2 (addL x.acks[k].frm f))).pk (A:=hol (tAck 3) 66 i.a6.1 i.a6.2 x.acks k [.int .i64 x.acks[k].index,.slice A2 (addL x.acks[k].frm f).length c2]))
      replace HM:=HM1;clear HM1
      rw [← e] at HM
      have el : x.acks.length = (ackA x.acks ix f).length:=by rw [e,List.length_set]
      simp only [el] at HM ⊢
      have hl1:=ackA_len x.acks ix f
      have hl2:=ackA_frm x.acks ix f 1000 has
      rw [show ackL x ix f = advL { x with acks:=ackA x.acks ix f } from rfl]
      obtain ⟨bs,hA⟩ : ∃ bs,bs = ackA x.acks ix f:=⟨_,rfl⟩
      rw [← hA] at HM hl1 hl2 ⊢
      clear e el hA
      repeat (first|(refine qs ?_;clear HM;intro W1 HM)|(refine qf ?_;go_at_call 105;refine (advS { x with acks:=bs } i h0 h1 hn (by simp only;omega) (fun a ha=>Nat.le_trans (hl2 a ha) (by omega)) (by exact pk_rec HM)).mono ?_;rintro e2 W2 ⟨j2,rfl,HM1⟩;refine ⟨_,rfl,?_⟩;replace HM:=HM1;clear HM1;simp only [partRcd,List.cons_append,List.nil_append] at HM;simp only [encRcd])|refine Y ?_)
      exact ret_cell HM rfl rfl rfl ⟨j2,rfl,by simp only [partRcd,List.cons_append,List.nil_append];exact HM.sb⟩
    have e:=ackA_new (f:=f) hk hp (fun h=>by rw [← e0];omega)
    repeat refine Y ?_
    obtain ⟨css,hcl,HM⟩:=opn_at k (HM.pk (A:=own (tAck 3) 66 i.a6.1 i.a6.2 x.acks))
    have hr1 : (css.take k).length = (x.acks.take k).length:=by simp only [List.length_take,hcl]
    have hr2 : (css.drop k).length = (x.acks.drop k).length:=by simp only [List.length_drop,hcl]
    have htk : (x.acks.take k).length = k:=by simp only [List.length_take];omega
    refine gR ?_
    refine x_start (ds:=[16]) HM (fun w hw=>hw.drop.drop) (by kernel_rfl) (by kernel_rfl) qq ?_
    intro HQ HS W1 HM1;replace HM:=HM1;clear HM1
    refine x_pv HQ HS 1 rfl (by kernel_rfl) (by kernel_rfl) (l':=#[false,true,false,false,false,false,false,false,false,false,false,false,false,false,false,false,false]) (by kernel_rfl) rfl ?_
    refine Y ?_
    refine x_pv HQ HS 3 rfl (by kernel_rfl) (by kernel_rfl) (l':=#[false,true,false,true,false,false,false,false,false,false,false,false,false,false,false,false,false]) (by kernel_rfl) rfl ?_
    refine Y ?_
    refine x_pv HQ HS 6 rfl (by kernel_rfl) (by kernel_rfl) (l':=#[false,true,false,true,false,false,true,false,false,false,false,false,false,false,false,false,false]) (by kernel_rfl) rfl ?_
    refine Y ?_
    refine x_pv HQ HS 10 rfl (by kernel_rfl) (by kernel_rfl) (l':=#[false,true,false,true,false,false,true,false,false,false,true,false,false,false,false,false,false]) (by kernel_rfl) rfl ?_
    refine Y ?_
    refine x_pv HQ HS 12 rfl (by kernel_rfl) (by kernel_rfl) (l':=#[false,true,false,true,false,false,true,false,false,false,true,false,true,false,false,false,false]) (by kernel_rfl) rfl ?_
    refine Y ?_
    refine x_ld HQ HS 2 rfl (by kernel_rfl) (by kernel_rfl) (by kernel_rfl) (by kernel_rfl) (l':=#[false,true,true,true,false,false,true,false,false,false,true,false,true,false,false,false,false]) (by kernel_rfl) rfl ?_
    refine Y ?_
    refine x_pv HQ HS 4 rfl (by kernel_rfl) (by kernel_rfl) (l':=#[false,true,true,true,true,false,true,false,false,false,true,false,true,false,false,false,false]) (by kernel_rfl) rfl ?_
    refine Y ?_
    refine x_ld HQ HS 11 rfl (by kernel_rfl) (by kernel_rfl) (by kernel_rfl) (by kernel_rfl) (l':=#[false,true,true,true,true,false,true,false,false,false,true,true,true,false,false,false,false]) (by kernel_rfl) rfl ?_
    refine Y ?_
    refine x_pv HQ HS 13 rfl (by kernel_rfl) (by kernel_rfl) (l':=#[false,true,true,true,true,false,true,false,false,false,true,true,true,true,false,false,false]) (by kernel_rfl) rfl ?_
    refine Y ?_
    refine x_two 0 7 (by kernel_rfl) rfl rfl (l':=#[true,true,true,true,true,false,true,false,false,false,true,true,true,true,false,false,false]) (l'':=#[false,true,true,true,true,false,true,true,false,false,true,true,true,true,false,false,false]) (by kernel_rfl) (by kernel_rfl) (x_go ?_) (x_go ?_)
    · repeat (first|(refine qz ?_;clear HM;intro A1 W1 HM)|refine Y ?_)
      refine x_two 5 7 (by kernel_rfl) rfl rfl (l':=#[true,true,true,true,true,true,true,false,false,false,true,true,true,true,false,false,false]) (l'':=#[true,true,true,true,true,false,true,true,false,false,true,true,true,true,false,false,false]) (by kernel_rfl) (by kernel_rfl) (x_go ?_) (x_go ?_)
      · repeat (first|(refine gCall ?_;obtain ⟨F1,hF1⟩:=HM.own (A:=i.a6.1);(first|(have hd:=rdc_take hF1 k;rw [hr1] at hd;refine s_appn (ys:=x.acks.take k) (css:=css.take k) HM rfl rfl rfl rfl hd (by simp only [List.length_take];omega) (by simp only [List.length_take,List.length_drop,List.length_append,List.length_cons,List.length_nil];omega) rfl ?_)|(have hd:=rdc_drop (k:=k) hF1 (by omega) (by omega);rw [hr2] at hd;refine s_appn (ys:=x.acks.drop k) (css:=css.drop k) HM rfl rfl (by first|with_reducible rfl|(simp only [List.length_append,List.length_take,List.length_cons,List.length_nil];omega)) rfl hd (by simp only [List.length_drop];omega) (by simp only [List.length_take,List.length_drop,List.length_append,List.length_cons,List.length_nil];omega) rfl ?_));clear hF1;intro A1 c1 W1 HM1;replace HM:=HM1;clear HM1)|refine Y ?_)
        refine x_one 7 (by kernel_rfl) rfl (l':=#[true,true,true,true,true,true,true,true,false,false,true,true,true,true,false,false,false]) (by kernel_rfl) (x_go ?_)
        repeat refine Y ?_
        refine x_one 8 (by kernel_rfl) rfl (l':=#[true,true,true,true,true,true,true,true,true,false,true,true,true,true,false,false,false]) (by kernel_rfl) (x_go ?_)
        repeat (first|(refine qg ?_;clear HM;intro g W1 HM)|refine Y ?_)
        refine x_one 9 (by kernel_rfl) rfl (l':=#[true,true,true,true,true,true,true,true,true,true,true,true,true,true,false,false,false]) (by kernel_rfl) (x_go ?_)
        repeat (first|(refine qa ?_;clear HM;intro A1 c1 W1 HM)|refine Y ?_)
        refine x_one 14 (by kernel_rfl) rfl (l':=#[true,true,true,true,true,true,true,true,true,true,true,true,true,true,true,false,false]) (by kernel_rfl) (x_go ?_)
        repeat (first|(refine gCall ?_;obtain ⟨F1,hF1⟩:=HM.own (A:=i.a6.1);(first|(have hd:=rdc_take hF1 k;rw [hr1] at hd;refine s_appn (ys:=x.acks.take k) (css:=css.take k) HM rfl rfl rfl rfl hd (by simp only [List.length_take];omega) (by simp only [List.length_take,List.length_drop,List.length_append,List.length_cons,List.length_nil];omega) rfl ?_)|(have hd:=rdc_drop (k:=k) hF1 (by omega) (by omega);rw [hr2] at hd;refine s_appn (ys:=x.acks.drop k) (css:=css.drop k) HM rfl rfl (by first|with_reducible rfl|(simp only [List.length_append,List.length_take,List.length_cons,List.length_nil];omega)) rfl hd (by simp only [List.length_drop];omega) (by simp only [List.length_take,List.length_drop,List.length_append,List.length_cons,List.length_nil];omega) rfl ?_));clear hF1;intro A1 c1 W1 HM1;replace HM:=HM1;clear HM1)|refine Y ?_)
        refine x_pv HQ HS 15 rfl (by kernel_rfl) (by kernel_rfl) (l':=#[true,true,true,true,true,true,true,true,true,true,true,true,true,true,true,true,false]) (by kernel_rfl) rfl ?_
        refine Y ?_
        refine x_last 16 (by kernel_rfl) rfl (l':=#[true,true,true,true,true,true,true,true,true,true,true,true,true,true,true,true,true]) (by kernel_rfl) (by kernel_rfl) rfl ?_
        repeat (first|(refine qs ?_;clear HM;intro W1 HM)|refine Y ?_)
        obtain ⟨ys,hy⟩ : ∃ ys : List Ack,ys = [] ++ x.acks.take k ++ [⟨ix,[]⟩] ++ x.acks.drop k:=⟨_,rfl⟩
        rw [← hy] at HM
        obtain ⟨hyl,hya,hys⟩:=ack_ins ⟨ix,[]⟩ hk hy
        have hlk : k < ys.length:=by omega
        have hyk:=hya hlk
        have hfl : ys[k].frm.length ≤ 1000:=by rw [hyk];simp
        replace e : ackA x.acks ix f = ys.set k ⟨ys[k].index,addL ys[k].frm f⟩:=by rw [hys,hyk];exact e
        clear hy hya hys hyk
        obtain ⟨j,HM⟩:=opn_ack (HM.pk (A:=own (tAck 3) 66 A1 c1 ys)) k hlk
        replace HM:=HM.perm (List.Perm.swap ..)
        repeat (first|(refine gR ?_;refine d_startd [13] [(0,0),(0,2),(0,3),(0,5),(0,9),(1,1),(1,4),(0,6),(0,7),(1,8),(2,10),(0,11),(0,12),(3,13)] HM (by kernel_rfl) (by kernel_rfl) qq (by kernel_rfl) rfl ?_;intro HQ HS W1 HM1;replace HM:=HM1;clear HM1)|refine Y ?_|(refine gStore ?_;refine s_storeh HM rfl rfl rfl rfl rfl rfl ?_;clear HM;intro W1 HM;(try dsimp only at HM))|(refine qf ?_;go_at_call 80;refine (addS f (by omega) (by exact HM.pk)).mono ?_;rintro e2 W2 ⟨A2,c2,rfl,HM1⟩;refine ⟨_,rfl,?_⟩;replace HM:=HM1;clear HM1))
        have HM1:=cls_ack ((HM.pk (A:=own tInt 3 A2 c2 (addL ys[k].frm f))).pk (A:=hol (tAck 3) 66 A1 c1 ys k [.int .i64 ys[k].index,.slice A2 (addL ys[k].frm f).length c2]))
        replace HM:=HM1;clear HM1
        rw [← e] at HM
        have el : ys.length = (ackA x.acks ix f).length:=by rw [e,List.length_set]
        simp only [el] at HM ⊢
        have hl1:=ackA_len x.acks ix f
        have hl2:=ackA_frm x.acks ix f 1000 has
        rw [show ackL x ix f = advL { x with acks:=ackA x.acks ix f } from rfl]
        obtain ⟨bs,hA⟩ : ∃ bs,bs = ackA x.acks ix f:=⟨_,rfl⟩
        rw [← hA] at HM hl1 hl2 ⊢
        clear e el hA
        repeat (first|(refine qs ?_;clear HM;intro W1 HM)|(refine qf ?_;go_at_call 105;refine (advS { x with acks:=bs } ⟨i.a0,i.a1,i.a2,i.a3,i.a4,i.a5,(A1,c1)⟩ h0 h1 hn (by simp only;omega) (fun a ha=>Nat.le_trans (hl2 a ha) (by omega)) (by exact pk_rec HM)).mono ?_;rintro e2 W2 ⟨j2,rfl,HM1⟩;refine ⟨_,rfl,?_⟩;replace HM:=HM1;clear HM1;simp only [partRcd,List.cons_append,List.nil_append] at HM;simp only [encRcd])|refine Y ?_)
        exact ret_cell HM rfl rfl rfl ⟨j2,rfl,by simp only [partRcd,List.cons_append,List.nil_append];exact HM.sb⟩
      · repeat refine Y ?_
        refine x_two 5 8 (by kernel_rfl) rfl rfl (l':=#[true,true,true,true,true,true,true,true,false,false,true,true,true,true,false,false,false]) (l'':=#[true,true,true,true,true,false,true,true,true,false,true,true,true,true,false,false,false]) (by kernel_rfl) (by kernel_rfl) (x_go ?_) (x_go ?_)
        · repeat (first|(refine gCall ?_;obtain ⟨F1,hF1⟩:=HM.own (A:=i.a6.1);(first|(have hd:=rdc_take hF1 k;rw [hr1] at hd;refine s_appn (ys:=x.acks.take k) (css:=css.take k) HM rfl rfl rfl rfl hd (by simp only [List.length_take];omega) (by simp only [List.length_take,List.length_drop,List.length_append,List.length_cons,List.length_nil];omega) rfl ?_)|(have hd:=rdc_drop (k:=k) hF1 (by omega) (by omega);rw [hr2] at hd;refine s_appn (ys:=x.acks.drop k) (css:=css.drop k) HM rfl rfl (by first|with_reducible rfl|(simp only [List.length_append,List.length_take,List.length_cons,List.length_nil];omega)) rfl hd (by simp only [List.length_drop];omega) (by simp only [List.length_take,List.length_drop,List.length_append,List.length_cons,List.length_nil];omega) rfl ?_));clear hF1;intro A1 c1 W1 HM1;replace HM:=HM1;clear HM1)|refine Y ?_)
          refine x_one 8 (by kernel_rfl) rfl (l':=#[true,true,true,true,true,true,true,true,true,false,true,true,true,true,false,false,false]) (by kernel_rfl) (x_go ?_)
          repeat (first|(refine qg ?_;clear HM;intro g W1 HM)|refine Y ?_)
          refine x_one 9 (by kernel_rfl) rfl (l':=#[true,true,true,true,true,true,true,true,true,true,true,true,true,true,false,false,false]) (by kernel_rfl) (x_go ?_)
          repeat (first|(refine qa ?_;clear HM;intro A1 c1 W1 HM)|refine Y ?_)
          refine x_one 14 (by kernel_rfl) rfl (l':=#[true,true,true,true,true,true,true,true,true,true,true,true,true,true,true,false,false]) (by kernel_rfl) (x_go ?_)
          repeat (first|(refine gCall ?_;obtain ⟨F1,hF1⟩:=HM.own (A:=i.a6.1);(first|(have hd:=rdc_take hF1 k;rw [hr1] at hd;refine s_appn (ys:=x.acks.take k) (css:=css.take k) HM rfl rfl rfl rfl hd (by simp only [List.length_take];omega) (by simp only [List.length_take,List.length_drop,List.length_append,List.length_cons,List.length_nil];omega) rfl ?_)|(have hd:=rdc_drop (k:=k) hF1 (by omega) (by omega);rw [hr2] at hd;refine s_appn (ys:=x.acks.drop k) (css:=css.drop k) HM rfl rfl (by first|with_reducible rfl|(simp only [List.length_append,List.length_take,List.length_cons,List.length_nil];omega)) rfl hd (by simp only [List.length_drop];omega) (by simp only [List.length_take,List.length_drop,List.length_append,List.length_cons,List.length_nil];omega) rfl ?_));clear hF1;intro A1 c1 W1 HM1;replace HM:=HM1;clear HM1)|refine Y ?_)
          refine x_pv HQ HS 15 rfl (by kernel_rfl) (by kernel_rfl) (l':=#[true,true,true,true,true,true,true,true,true,true,true,true,true,true,true,true,false]) (by kernel_rfl) rfl ?_
          refine Y ?_
          refine x_last 16 (by kernel_rfl) rfl (l':=#[true,true,true,true,true,true,true,true,true,true,true,true,true,true,true,true,true]) (by kernel_rfl) (by kernel_rfl) rfl ?_
          repeat (first|(refine qs ?_;clear HM;intro W1 HM)|refine Y ?_)
          obtain ⟨ys,hy⟩ : ∃ ys : List Ack,ys = [] ++ x.acks.take k ++ [⟨ix,[]⟩] ++ x.acks.drop k:=⟨_,rfl⟩
          rw [← hy] at HM
          obtain ⟨hyl,hya,hys⟩:=ack_ins ⟨ix,[]⟩ hk hy
          have hlk : k < ys.length:=by omega
          have hyk:=hya hlk
          have hfl : ys[k].frm.length ≤ 1000:=by rw [hyk];simp
          replace e : ackA x.acks ix f = ys.set k ⟨ys[k].index,addL ys[k].frm f⟩:=by rw [hys,hyk];exact e
          clear hy hya hys hyk
          obtain ⟨j,HM⟩:=opn_ack (HM.pk (A:=own (tAck 3) 66 A1 c1 ys)) k hlk
          replace HM:=HM.perm (List.Perm.swap ..)
          repeat (first|(refine gR ?_;refine d_startd [13] [(0,0),(0,2),(0,3),(0,5),(0,9),(1,1),(1,4),(0,6),(0,7),(1,8),(2,10),(0,11),(0,12),(3,13)] HM (by kernel_rfl) (by kernel_rfl) qq (by kernel_rfl) rfl ?_;intro HQ HS W1 HM1;replace HM:=HM1;clear HM1)|refine Y ?_|(refine gStore ?_;refine s_storeh HM rfl rfl rfl rfl rfl rfl ?_;clear HM;intro W1 HM;(try dsimp only at HM))|(refine qf ?_;go_at_call 80;refine (addS f (by omega) (by exact HM.pk)).mono ?_;rintro e2 W2 ⟨A2,c2,rfl,HM1⟩;refine ⟨_,rfl,?_⟩;replace HM:=HM1;clear HM1))
          have HM1:=cls_ack ((HM.pk (A:=own tInt 3 A2 c2 (addL ys[k].frm f))).pk (A:=hol (tAck 3) 66 A1 c1 ys k [.int .i64 ys[k].index,.slice A2 (addL ys[k].frm f).length c2]))
          replace HM:=HM1;clear HM1
          rw [← e] at HM
          have el : ys.length = (ackA x.acks ix f).length:=by rw [e,List.length_set]
          simp only [el] at HM ⊢
          have hl1:=ackA_len x.acks ix f
          have hl2:=ackA_frm x.acks ix f 1000 has
          rw [show ackL x ix f = advL { x with acks:=ackA x.acks ix f } from rfl]
          obtain ⟨bs,hA⟩ : ∃ bs,bs = ackA x.acks ix f:=⟨_,rfl⟩
          rw [← hA] at HM hl1 hl2 ⊢
          clear e el hA
          repeat (first|(refine qs ?_;clear HM;intro W1 HM)|(refine qf ?_;go_at_call 105;refine (advS { x with acks:=bs } ⟨i.a0,i.a1,i.a2,i.a3,i.a4,i.a5,(A1,c1)⟩ h0 h1 hn (by simp only;omega) (fun a ha=>Nat.le_trans (hl2 a ha) (by omega)) (by exact pk_rec HM)).mono ?_;rintro e2 W2 ⟨j2,rfl,HM1⟩;refine ⟨_,rfl,?_⟩;replace HM:=HM1;clear HM1;simp only [partRcd,List.cons_append,List.nil_append] at HM;simp only [encRcd])|refine Y ?_)
          exact ret_cell HM rfl rfl rfl ⟨j2,rfl,by simp only [partRcd,List.cons_append,List.nil_append];exact HM.sb⟩
        · repeat (first|(refine qg ?_;clear HM;intro g W1 HM)|refine Y ?_)
          refine x_one 5 (by kernel_rfl) rfl (l':=#[true,true,true,true,true,true,true,true,true,false,true,true,true,true,false,false,false]) (by kernel_rfl) (x_go ?_)
          repeat (first|(refine gCall ?_;obtain ⟨F1,hF1⟩:=HM.own (A:=i.a6.1);(first|(have hd:=rdc_take hF1 k;rw [hr1] at hd;refine s_appn (ys:=x.acks.take k) (css:=css.take k) HM rfl rfl rfl rfl hd (by simp only [List.length_take];omega) (by simp only [List.length_take,List.length_drop,List.length_append,List.length_cons,List.length_nil];omega) rfl ?_)|(have hd:=rdc_drop (k:=k) hF1 (by omega) (by omega);rw [hr2] at hd;refine s_appn (ys:=x.acks.drop k) (css:=css.drop k) HM rfl rfl (by first|with_reducible rfl|(simp only [List.length_append,List.length_take,List.length_cons,List.length_nil];omega)) rfl hd (by simp only [List.length_drop];omega) (by simp only [List.length_take,List.length_drop,List.length_append,List.length_cons,List.length_nil];omega) rfl ?_));clear hF1;intro A1 c1 W1 HM1;replace HM:=HM1;clear HM1)|refine Y ?_)
          refine x_one 9 (by kernel_rfl) rfl (l':=#[true,true,true,true,true,true,true,true,true,true,true,true,true,true,false,false,false]) (by kernel_rfl) (x_go ?_)
          repeat (first|(refine qa ?_;clear HM;intro A1 c1 W1 HM)|refine Y ?_)
          refine x_one 14 (by kernel_rfl) rfl (l':=#[true,true,true,true,true,true,true,true,true,true,true,true,true,true,true,false,false]) (by kernel_rfl) (x_go ?_)
          repeat (first|(refine gCall ?_;obtain ⟨F1,hF1⟩:=HM.own (A:=i.a6.1);(first|(have hd:=rdc_take hF1 k;rw [hr1] at hd;refine s_appn (ys:=x.acks.take k) (css:=css.take k) HM rfl rfl rfl rfl hd (by simp only [List.length_take];omega) (by simp only [List.length_take,List.length_drop,List.length_append,List.length_cons,List.length_nil];omega) rfl ?_)|(have hd:=rdc_drop (k:=k) hF1 (by omega) (by omega);rw [hr2] at hd;refine s_appn (ys:=x.acks.drop k) (css:=css.drop k) HM rfl rfl (by first|with_reducible rfl|(simp only [List.length_append,List.length_take,List.length_cons,List.length_nil];omega)) rfl hd (by simp only [List.length_drop];omega) (by simp only [List.length_take,List.length_drop,List.length_append,List.length_cons,List.length_nil];omega) rfl ?_));clear hF1;intro A1 c1 W1 HM1;replace HM:=HM1;clear HM1)|refine Y ?_)
          refine x_pv HQ HS 15 rfl (by kernel_rfl) (by kernel_rfl) (l':=#[true,true,true,true,true,true,true,true,true,true,true,true,true,true,true,true,false]) (by kernel_rfl) rfl ?_
          refine Y ?_
          refine x_last 16 (by kernel_rfl) rfl (l':=#[true,true,true,true,true,true,true,true,true,true,true,true,true,true,true,true,true]) (by kernel_rfl) (by kernel_rfl) rfl ?_
          repeat (first|(refine qs ?_;clear HM;intro W1 HM)|refine Y ?_)
          obtain ⟨ys,hy⟩ : ∃ ys : List Ack,ys = [] ++ x.acks.take k ++ [⟨ix,[]⟩] ++ x.acks.drop k:=⟨_,rfl⟩
          rw [← hy] at HM
          obtain ⟨hyl,hya,hys⟩:=ack_ins ⟨ix,[]⟩ hk hy
          have hlk : k < ys.length:=by omega
          have hyk:=hya hlk
          have hfl : ys[k].frm.length ≤ 1000:=by rw [hyk];simp
          replace e : ackA x.acks ix f = ys.set k ⟨ys[k].index,addL ys[k].frm f⟩:=by rw [hys,hyk];exact e
          clear hy hya hys hyk
          obtain ⟨j,HM⟩:=opn_ack (HM.pk (A:=own (tAck 3) 66 A1 c1 ys)) k hlk
          replace HM:=HM.perm (List.Perm.swap ..)
          repeat (first|(refine gR ?_;refine d_startd [13] [(0,0),(0,2),(0,3),(0,5),(0,9),(1,1),(1,4),(0,6),(0,7),(1,8),(2,10),(0,11),(0,12),(3,13)] HM (by kernel_rfl) (by kernel_rfl) qq (by kernel_rfl) rfl ?_;intro HQ HS W1 HM1;replace HM:=HM1;clear HM1)|refine Y ?_|(refine gStore ?_;refine s_storeh HM rfl rfl rfl rfl rfl rfl ?_;clear HM;intro W1 HM;(try dsimp only at HM))|(refine qf ?_;go_at_call 80;refine (addS f (by omega) (by exact HM.pk)).mono ?_;rintro e2 W2 ⟨A2,c2,rfl,HM1⟩;refine ⟨_,rfl,?_⟩;replace HM:=HM1;clear HM1))
          have HM1:=cls_ack ((HM.pk (A:=own tInt 3 A2 c2 (addL ys[k].frm f))).pk (A:=hol (tAck 3) 66 A1 c1 ys k [.int .i64 ys[k].index,.slice A2 (addL ys[k].frm f).length c2]))
          replace HM:=HM1;clear HM1
          rw [← e] at HM
          have el : ys.length = (ackA x.acks ix f).length:=by rw [e,List.length_set]
          simp only [el] at HM ⊢
          have hl1:=ackA_len x.acks ix f
          have hl2:=ackA_frm x.acks ix f 1000 has
          rw [show ackL x ix f = advL { x with acks:=ackA x.acks ix f } from rfl]
          obtain ⟨bs,hA⟩ : ∃ bs,bs = ackA x.acks ix f:=⟨_,rfl⟩
          rw [← hA] at HM hl1 hl2 ⊢
          clear e el hA
          repeat (first|(refine qs ?_;clear HM;intro W1 HM)|(refine qf ?_;go_at_call 105;refine (advS { x with acks:=bs } ⟨i.a0,i.a1,i.a2,i.a3,i.a4,i.a5,(A1,c1)⟩ h0 h1 hn (by simp only;omega) (fun a ha=>Nat.le_trans (hl2 a ha) (by omega)) (by exact pk_rec HM)).mono ?_;rintro e2 W2 ⟨j2,rfl,HM1⟩;refine ⟨_,rfl,?_⟩;replace HM:=HM1;clear HM1;simp only [partRcd,List.cons_append,List.nil_append] at HM;simp only [encRcd])|refine Y ?_)
          exact ret_cell HM rfl rfl rfl ⟨j2,rfl,by simp only [partRcd,List.cons_append,List.nil_append];exact HM.sb⟩
    · repeat refine Y ?_
      refine x_two 0 8 (by kernel_rfl) rfl rfl (l':=#[true,true,true,true,true,false,true,true,false,false,true,true,true,true,false,false,false]) (l'':=#[false,true,true,true,true,false,true,true,true,false,true,true,true,true,false,false,false]) (by kernel_rfl) (by kernel_rfl) (x_go ?_) (x_go ?_)
      · repeat (first|(refine qz ?_;clear HM;intro A1 W1 HM)|refine Y ?_)
        refine x_two 5 8 (by kernel_rfl) rfl rfl (l':=#[true,true,true,true,true,true,true,true,false,false,true,true,true,true,false,false,false]) (l'':=#[true,true,true,true,true,false,true,true,true,false,true,true,true,true,false,false,false]) (by kernel_rfl) (by kernel_rfl) (x_go ?_) (x_go ?_)
        · repeat (first|(refine gCall ?_;obtain ⟨F1,hF1⟩:=HM.own (A:=i.a6.1);(first|(have hd:=rdc_take hF1 k;rw [hr1] at hd;refine s_appn (ys:=x.acks.take k) (css:=css.take k) HM rfl rfl rfl rfl hd (by simp only [List.length_take];omega) (by simp only [List.length_take,List.length_drop,List.length_append,List.length_cons,List.length_nil];omega) rfl ?_)|(have hd:=rdc_drop (k:=k) hF1 (by omega) (by omega);rw [hr2] at hd;refine s_appn (ys:=x.acks.drop k) (css:=css.drop k) HM rfl rfl (by first|with_reducible rfl|(simp only [List.length_append,List.length_take,List.length_cons,List.length_nil];omega)) rfl hd (by simp only [List.length_drop];omega) (by simp only [List.length_take,List.length_drop,List.length_append,List.length_cons,List.length_nil];omega) rfl ?_));clear hF1;intro A1 c1 W1 HM1;replace HM:=HM1;clear HM1)|refine Y ?_)
          refine x_one 8 (by kernel_rfl) rfl (l':=#[true,true,true,true,true,true,true,true,true,false,true,true,true,true,false,false,false]) (by kernel_rfl) (x_go ?_)
          repeat (first|(refine qg ?_;clear HM;intro g W1 HM)|refine Y ?_)
          refine x_one 9 (by kernel_rfl) rfl (l':=#[true,true,true,true,true,true,true,true,true,true,true,true,true,true,false,false,false]) (by kernel_rfl) (x_go ?_)
          repeat (first|(refine qa ?_;clear HM;intro A1 c1 W1 HM)|refine Y ?_)
          refine x_one 14 (by kernel_rfl) rfl (l':=#[true,true,true,true,true,true,true,true,true,true,true,true,true,true,true,false,false]) (by kernel_rfl) (x_go ?_)
          repeat (first|(refine gCall ?_;obtain ⟨F1,hF1⟩:=HM.own (A:=i.a6.1);(first|(have hd:=rdc_take hF1 k;rw [hr1] at hd;refine s_appn (ys:=x.acks.take k) (css:=css.take k) HM rfl rfl rfl rfl hd (by simp only [List.length_take];omega) (by simp only [List.length_take,List.length_drop,List.length_append,List.length_cons,List.length_nil];omega) rfl ?_)|(have hd:=rdc_drop (k:=k) hF1 (by omega) (by omega);rw [hr2] at hd;refine s_appn (ys:=x.acks.drop k) (css:=css.drop k) HM rfl rfl (by first|with_reducible rfl|(simp only [List.length_append,List.length_take,List.length_cons,List.length_nil];omega)) rfl hd (by simp only [List.length_drop];omega) (by simp only [List.length_take,List.length_drop,List.length_append,List.length_cons,List.length_nil];omega) rfl ?_));clear hF1;intro A1 c1 W1 HM1;replace HM:=HM1;clear HM1)|refine Y ?_)
          refine x_pv HQ HS 15 rfl (by kernel_rfl) (by kernel_rfl) (l':=#[true,true,true,true,true,true,true,true,true,true,true,true,true,true,true,true,false]) (by kernel_rfl) rfl ?_
          refine Y ?_
          refine x_last 16 (by kernel_rfl) rfl (l':=#[true,true,true,true,true,true,true,true,true,true,true,true,true,true,true,true,true]) (by kernel_rfl) (by kernel_rfl) rfl ?_
          repeat (first|(refine qs ?_;clear HM;intro W1 HM)|refine Y ?_)
          obtain ⟨ys,hy⟩ : ∃ ys : List Ack,ys = [] ++ x.acks.take k ++ [⟨ix,[]⟩] ++ x.acks.drop k:=⟨_,rfl⟩
          rw [← hy] at HM
          obtain ⟨hyl,hya,hys⟩:=ack_ins ⟨ix,[]⟩ hk hy
          have hlk : k < ys.length:=by omega
          have hyk:=hya hlk
          have hfl : ys[k].frm.length ≤ 1000:=by rw [hyk];simp
          replace e : ackA x.acks ix f = ys.set k ⟨ys[k].index,addL ys[k].frm f⟩:=by rw [hys,hyk];exact e
          clear hy hya hys hyk
          obtain ⟨j,HM⟩:=opn_ack (HM.pk (A:=own (tAck 3) 66 A1 c1 ys)) k hlk
          replace HM:=HM.perm (List.Perm.swap ..)
          repeat (first|(refine gR ?_;refine d_startd [13] [(0,0),(0,2),(0,3),(0,5),(0,9),(1,1),(1,4),(0,6),(0,7),(1,8),(2,10),(0,11),(0,12),(3,13)] HM (by kernel_rfl) (by kernel_rfl) qq (by kernel_rfl) rfl ?_;intro HQ HS W1 HM1;replace HM:=HM1;clear HM1)|refine Y ?_|(refine gStore ?_;refine s_storeh HM rfl rfl rfl rfl rfl rfl ?_;clear HM;intro W1 HM;(try dsimp only at HM))|(refine qf ?_;go_at_call 80;refine (addS f (by omega) (by exact HM.pk)).mono ?_;rintro e2 W2 ⟨A2,c2,rfl,HM1⟩;refine ⟨_,rfl,?_⟩;replace HM:=HM1;clear HM1))
          have HM1:=cls_ack ((HM.pk (A:=own tInt 3 A2 c2 (addL ys[k].frm f))).pk (A:=hol (tAck 3) 66 A1 c1 ys k [.int .i64 ys[k].index,.slice A2 (addL ys[k].frm f).length c2]))
          replace HM:=HM1;clear HM1
          rw [← e] at HM
          have el : ys.length = (ackA x.acks ix f).length:=by rw [e,List.length_set]
          simp only [el] at HM ⊢
          have hl1:=ackA_len x.acks ix f
          have hl2:=ackA_frm x.acks ix f 1000 has
          rw [show ackL x ix f = advL { x with acks:=ackA x.acks ix f } from rfl]
          obtain ⟨bs,hA⟩ : ∃ bs,bs = ackA x.acks ix f:=⟨_,rfl⟩
          rw [← hA] at HM hl1 hl2 ⊢
          clear e el hA
          repeat (first|(refine qs ?_;clear HM;intro W1 HM)|(refine qf ?_;go_at_call 105;refine (advS { x with acks:=bs } ⟨i.a0,i.a1,i.a2,i.a3,i.a4,i.a5,(A1,c1)⟩ h0 h1 hn (by simp only;omega) (fun a ha=>Nat.le_trans (hl2 a ha) (by omega)) (by exact pk_rec HM)).mono ?_;rintro e2 W2 ⟨j2,rfl,HM1⟩;refine ⟨_,rfl,?_⟩;replace HM:=HM1;clear HM1;simp only [partRcd,List.cons_append,List.nil_append] at HM;simp only [encRcd])|refine Y ?_)
          exact ret_cell HM rfl rfl rfl ⟨j2,rfl,by simp only [partRcd,List.cons_append,List.nil_append];exact HM.sb⟩
        · repeat (first|(refine qg ?_;clear HM;intro g W1 HM)|refine Y ?_)
          refine x_one 5 (by kernel_rfl) rfl (l':=#[true,true,true,true,true,true,true,true,true,false,true,true,true,true,false,false,false]) (by kernel_rfl) (x_go ?_)
          repeat (first|(refine gCall ?_;obtain ⟨F1,hF1⟩:=HM.own (A:=i.a6.1);(first|(have hd:=rdc_take hF1 k;rw [hr1] at hd;refine s_appn (ys:=x.acks.take k) (css:=css.take k) HM rfl rfl rfl rfl hd (by simp only [List.length_take];omega) (by simp only [List.length_take,List.length_drop,List.length_append,List.length_cons,List.length_nil];omega) rfl ?_)|(have hd:=rdc_drop (k:=k) hF1 (by omega) (by omega);rw [hr2] at hd;refine s_appn (ys:=x.acks.drop k) (css:=css.drop k) HM rfl rfl (by first|with_reducible rfl|(simp only [List.length_append,List.length_take,List.length_cons,List.length_nil];omega)) rfl hd (by simp only [List.length_drop];omega) (by simp only [List.length_take,List.length_drop,List.length_append,List.length_cons,List.length_nil];omega) rfl ?_));clear hF1;intro A1 c1 W1 HM1;replace HM:=HM1;clear HM1)|refine Y ?_)
          refine x_one 9 (by kernel_rfl) rfl (l':=#[true,true,true,true,true,true,true,true,true,true,true,true,true,true,false,false,false]) (by kernel_rfl) (x_go ?_)
          repeat (first|(refine qa ?_;clear HM;intro A1 c1 W1 HM)|refine Y ?_)
          refine x_one 14 (by kernel_rfl) rfl (l':=#[true,true,true,true,true,true,true,true,true,true,true,true,true,true,true,false,false]) (by kernel_rfl) (x_go ?_)
          repeat (first|(refine gCall ?_;obtain ⟨F1,hF1⟩:=HM.own (A:=i.a6.1);(first|(have hd:=rdc_take hF1 k;rw [hr1] at hd;refine s_appn (ys:=x.acks.take k) (css:=css.take k) HM rfl rfl rfl rfl hd (by simp only [List.length_take];omega) (by simp only [List.length_take,List.length_drop,List.length_append,List.length_cons,List.length_nil];omega) rfl ?_)|(have hd:=rdc_drop (k:=k) hF1 (by omega) (by omega);rw [hr2] at hd;refine s_appn (ys:=x.acks.drop k) (css:=css.drop k) HM rfl rfl (by first|with_reducible rfl|(simp only [List.length_append,List.length_take,List.length_cons,List.length_nil];omega)) rfl hd (by simp only [List.length_drop];omega) (by simp only [List.length_take,List.length_drop,List.length_append,List.length_cons,List.length_nil];omega) rfl ?_));clear hF1;intro A1 c1 W1 HM1;replace HM:=HM1;clear HM1)|refine Y ?_)
          refine x_pv HQ HS 15 rfl (by kernel_rfl) (by kernel_rfl) (l':=#[true,true,true,true,true,true,true,true,true,true,true,true,true,true,true,true,false]) (by kernel_rfl) rfl ?_
          refine Y ?_
          refine x_last 16 (by kernel_rfl) rfl (l':=#[true,true,true,true,true,true,true,true,true,true,true,true,true,true,true,true,true]) (by kernel_rfl) (by kernel_rfl) rfl ?_
          repeat (first|(refine qs ?_;clear HM;intro W1 HM)|refine Y ?_)
          obtain ⟨ys,hy⟩ : ∃ ys : List Ack,ys = [] ++ x.acks.take k ++ [⟨ix,[]⟩] ++ x.acks.drop k:=⟨_,rfl⟩
          rw [← hy] at HM
          obtain ⟨hyl,hya,hys⟩:=ack_ins ⟨ix,[]⟩ hk hy
          have hlk : k < ys.length:=by omega
          have hyk:=hya hlk
          have hfl : ys[k].frm.length ≤ 1000:=by rw [hyk];simp
          replace e : ackA x.acks ix f = ys.set k ⟨ys[k].index,addL ys[k].frm f⟩:=by rw [hys,hyk];exact e
          clear hy hya hys hyk
          obtain ⟨j,HM⟩:=opn_ack (HM.pk (A:=own (tAck 3) 66 A1 c1 ys)) k hlk
          replace HM:=HM.perm (List.Perm.swap ..)
          repeat (first|(refine gR ?_;refine d_startd [13] [(0,0),(0,2),(0,3),(0,5),(0,9),(1,1),(1,4),(0,6),(0,7),(1,8),(2,10),(0,11),(0,12),(3,13)] HM (by kernel_rfl) (by kernel_rfl) qq (by kernel_rfl) rfl ?_;intro HQ HS W1 HM1;replace HM:=HM1;clear HM1)|refine Y ?_|(refine gStore ?_;refine s_storeh HM rfl rfl rfl rfl rfl rfl ?_;clear HM;intro W1 HM;(try dsimp only at HM))|(refine qf ?_;go_at_call 80;refine (addS f (by omega) (by exact HM.pk)).mono ?_;rintro e2 W2 ⟨A2,c2,rfl,HM1⟩;refine ⟨_,rfl,?_⟩;replace HM:=HM1;clear HM1))
          have HM1:=cls_ack ((HM.pk (A:=own tInt 3 A2 c2 (addL ys[k].frm f))).pk (A:=hol (tAck 3) 66 A1 c1 ys k [.int .i64 ys[k].index,.slice A2 (addL ys[k].frm f).length c2]))
          replace HM:=HM1;clear HM1
          rw [← e] at HM
          have el : ys.length = (ackA x.acks ix f).length:=by rw [e,List.length_set]
          simp only [el] at HM ⊢
          have hl1:=ackA_len x.acks ix f
          have hl2:=ackA_frm x.acks ix f 1000 has
          rw [show ackL x ix f = advL { x with acks:=ackA x.acks ix f } from rfl]
          obtain ⟨bs,hA⟩ : ∃ bs,bs = ackA x.acks ix f:=⟨_,rfl⟩
          rw [← hA] at HM hl1 hl2 ⊢
          clear e el hA
          repeat (first|(refine qs ?_;clear HM;intro W1 HM)|(refine qf ?_;go_at_call 105;refine (advS { x with acks:=bs } ⟨i.a0,i.a1,i.a2,i.a3,i.a4,i.a5,(A1,c1)⟩ h0 h1 hn (by simp only;omega) (fun a ha=>Nat.le_trans (hl2 a ha) (by omega)) (by exact pk_rec HM)).mono ?_;rintro e2 W2 ⟨j2,rfl,HM1⟩;refine ⟨_,rfl,?_⟩;replace HM:=HM1;clear HM1;simp only [partRcd,List.cons_append,List.nil_append] at HM;simp only [encRcd])|refine Y ?_)
          exact ret_cell HM rfl rfl rfl ⟨j2,rfl,by simp only [partRcd,List.cons_append,List.nil_append];exact HM.sb⟩
      · repeat (first|(refine qg ?_;clear HM;intro g W1 HM)|refine Y ?_)
        refine x_one 0 (by kernel_rfl) rfl (l':=#[true,true,true,true,true,false,true,true,true,false,true,true,true,true,false,false,false]) (by kernel_rfl) (x_go ?_)
        repeat (first|(refine qz ?_;clear HM;intro A1 W1 HM)|refine Y ?_)
        refine x_one 5 (by kernel_rfl) rfl (l':=#[true,true,true,true,true,true,true,true,true,false,true,true,true,true,false,false,false]) (by kernel_rfl) (x_go ?_)
        repeat (first|(refine gCall ?_;obtain ⟨F1,hF1⟩:=HM.own (A:=i.a6.1);(first|(have hd:=rdc_take hF1 k;rw [hr1] at hd;refine s_appn (ys:=x.acks.take k) (css:=css.take k) HM rfl rfl rfl rfl hd (by simp only [List.length_take];omega) (by simp only [List.length_take,List.length_drop,List.length_append,List.length_cons,List.length_nil];omega) rfl ?_)|(have hd:=rdc_drop (k:=k) hF1 (by omega) (by omega);rw [hr2] at hd;refine s_appn (ys:=x.acks.drop k) (css:=css.drop k) HM rfl rfl (by first|with_reducible rfl|(simp only [List.length_append,List.length_take,List.length_cons,List.length_nil];omega)) rfl hd (by simp only [List.length_drop];omega) (by simp only [List.length_take,List.length_drop,List.length_append,List.length_cons,List.length_nil];omega) rfl ?_));clear hF1;intro A1 c1 W1 HM1;replace HM:=HM1;clear HM1)|refine Y ?_)
        refine x_one 9 (by kernel_rfl) rfl (l':=#[true,true,true,true,true,true,true,true,true,true,true,true,true,true,false,false,false]) (by kernel_rfl) (x_go ?_)
        repeat (first|(refine qa ?_;clear HM;intro A1 c1 W1 HM)|refine Y ?_)
        refine x_one 14 (by kernel_rfl) rfl (l':=#[true,true,true,true,true,true,true,true,true,true,true,true,true,true,true,false,false]) (by kernel_rfl) (x_go ?_)
        repeat (first|(refine gCall ?_;obtain ⟨F1,hF1⟩:=HM.own (A:=i.a6.1);(first|(have hd:=rdc_take hF1 k;rw [hr1] at hd;refine s_appn (ys:=x.acks.take k) (css:=css.take k) HM rfl rfl rfl rfl hd (by simp only [List.length_take];omega) (by simp only [List.length_take,List.length_drop,List.length_append,List.length_cons,List.length_nil];omega) rfl ?_)|(have hd:=rdc_drop (k:=k) hF1 (by omega) (by omega);rw [hr2] at hd;refine s_appn (ys:=x.acks.drop k) (css:=css.drop k) HM rfl rfl (by first|with_reducible rfl|(simp only [List.length_append,List.length_take,List.length_cons,List.length_nil];omega)) rfl hd (by simp only [List.length_drop];omega) (by simp only [List.length_take,List.length_drop,List.length_append,List.length_cons,List.length_nil];omega) rfl ?_));clear hF1;intro A1 c1 W1 HM1;replace HM:=HM1;clear HM1)|refine Y ?_)
        refine x_pv HQ HS 15 rfl (by kernel_rfl) (by kernel_rfl) (l':=#[true,true,true,true,true,true,true,true,true,true,true,true,true,true,true,true,false]) (by kernel_rfl) rfl ?_
        refine Y ?_
        refine x_last 16 (by kernel_rfl) rfl (l':=#[true,true,true,true,true,true,true,true,true,true,true,true,true,true,true,true,true]) (by kernel_rfl) (by kernel_rfl) rfl ?_
        repeat (first|(refine qs ?_;clear HM;intro W1 HM)|refine Y ?_)
        obtain ⟨ys,hy⟩ : ∃ ys : List Ack,ys = [] ++ x.acks.take k ++ [⟨ix,[]⟩] ++ x.acks.drop k:=⟨_,rfl⟩
        rw [← hy] at HM
        obtain ⟨hyl,hya,hys⟩:=ack_ins ⟨ix,[]⟩ hk hy
        have hlk : k < ys.length:=by omega
        have hyk:=hya hlk
        have hfl : ys[k].frm.length ≤ 1000:=by rw [hyk];simp
        replace e : ackA x.acks ix f = ys.set k ⟨ys[k].index,addL ys[k].frm f⟩:=by rw [hys,hyk];exact e
        clear hy hya hys hyk
        obtain ⟨j,HM⟩:=opn_ack (HM.pk (A:=own (tAck 3) 66 A1 c1 ys)) k hlk
        replace HM:=HM.perm (List.Perm.swap ..)
        repeat (first|(refine gR ?_;refine d_startd [13] [(0,0),(0,2),(0,3),(0,5),(0,9),(1,1),(1,4),(0,6),(0,7),(1,8),(2,10),(0,11),(0,12),(3,13)] HM (by kernel_rfl) (by kernel_rfl) qq (by kernel_rfl) rfl ?_;intro HQ HS W1 HM1;replace HM:=HM1;clear HM1)|refine Y ?_|(refine gStore ?_;refine s_storeh HM rfl rfl rfl rfl rfl rfl ?_;clear HM;intro W1 HM;(try dsimp only at HM))|(refine qf ?_;go_at_call 80;refine (addS f (by omega) (by exact HM.pk)).mono ?_;rintro e2 W2 ⟨A2,c2,rfl,HM1⟩;refine ⟨_,rfl,?_⟩;replace HM:=HM1;clear HM1))
        have HM1:=cls_ack ((HM.pk (A:=own tInt 3 A2 c2 (addL ys[k].frm f))).pk (A:=hol (tAck 3) 66 A1 c1 ys k [.int .i64 ys[k].index,.slice A2 (addL ys[k].frm f).length c2]))
        replace HM:=HM1;clear HM1
        rw [← e] at HM
        have el : ys.length = (ackA x.acks ix f).length:=by rw [e,List.length_set]
        simp only [el] at HM ⊢
        have hl1:=ackA_len x.acks ix f
        have hl2:=ackA_frm x.acks ix f 1000 has
        rw [show ackL x ix f = advL { x with acks:=ackA x.acks ix f } from rfl]
        obtain ⟨bs,hA⟩ : ∃ bs,bs = ackA x.acks ix f:=⟨_,rfl⟩
        rw [← hA] at HM hl1 hl2 ⊢
        clear e el hA
        repeat (first|(refine qs ?_;clear HM;intro W1 HM)|(refine qf ?_;go_at_call 105;refine (advS { x with acks:=bs } ⟨i.a0,i.a1,i.a2,i.a3,i.a4,i.a5,(A1,c1)⟩ h0 h1 hn (by simp only;omega) (fun a ha=>Nat.le_trans (hl2 a ha) (by omega)) (by exact pk_rec HM)).mono ?_;rintro e2 W2 ⟨j2,rfl,HM1⟩;refine ⟨_,rfl,?_⟩;replace HM:=HM1;clear HM1;simp only [partRcd,List.cons_append,List.nil_append] at HM;simp only [encRcd])|refine Y ?_)
        exact ret_cell HM rfl rfl rfl ⟨j2,rfl,by simp only [partRcd,List.cons_append,List.nil_append];exact HM.sb⟩
  · obtain rfl : k = x.acks.length:=by omega
    have e:=ackA_new (f:=f) (Nat.le_refl _) hp (fun h=>by omega)
    repeat refine Y ?_
    obtain ⟨css,hcl,HM⟩:=opn_at x.acks.length (HM.pk (A:=own (tAck 3) 66 i.a6.1 i.a6.2 x.acks))
    have hr1 : (css.take x.acks.length).length = (x.acks.take x.acks.length).length:=by simp only [List.length_take,hcl]
    have hr2 : (css.drop x.acks.length).length = (x.acks.drop x.acks.length).length:=by simp only [List.length_drop,hcl]
    have htk : (x.acks.take x.acks.length).length = x.acks.length:=by simp only [List.length_take];omega
    refine gR ?_
    refine x_start (ds:=[16]) HM (fun w hw=>hw.drop.drop) (by kernel_rfl) (by kernel_rfl) qq ?_
    intro HQ HS W1 HM1;replace HM:=HM1;clear HM1
    refine x_pv HQ HS 1 rfl (by kernel_rfl) (by kernel_rfl) (l':=#[false,true,false,false,false,false,false,false,false,false,false,false,false,false,false,false,false]) (by kernel_rfl) rfl ?_
    refine Y ?_
    refine x_pv HQ HS 3 rfl (by kernel_rfl) (by kernel_rfl) (l':=#[false,true,false,true,false,false,false,false,false,false,false,false,false,false,false,false,false]) (by kernel_rfl) rfl ?_
    refine Y ?_
    refine x_pv HQ HS 6 rfl (by kernel_rfl) (by kernel_rfl) (l':=#[false,true,false,true,false,false,true,false,false,false,false,false,false,false,false,false,false]) (by kernel_rfl) rfl ?_
    refine Y ?_
    refine x_pv HQ HS 10 rfl (by kernel_rfl) (by kernel_rfl) (l':=#[false,true,false,true,false,false,true,false,false,false,true,false,false,false,false,false,false]) (by kernel_rfl) rfl ?_
    refine Y ?_
    refine x_pv HQ HS 12 rfl (by kernel_rfl) (by kernel_rfl) (l':=#[false,true,false,true,false,false,true,false,false,false,true,false,true,false,false,false,false]) (by kernel_rfl) rfl ?_
    refine Y ?_
    refine x_ld HQ HS 2 rfl (by kernel_rfl) (by kernel_rfl) (by kernel_rfl) (by kernel_rfl) (l':=#[false,true,true,true,false,false,true,false,false,false,true,false,true,false,false,false,false]) (by kernel_rfl) rfl ?_
    refine Y ?_
    refine x_pv HQ HS 4 rfl (by kernel_rfl) (by kernel_rfl) (l':=#[false,true,true,true,true,false,true,false,false,false,true,false,true,false,false,false,false]) (by kernel_rfl) rfl ?_
    refine Y ?_
    refine x_ld HQ HS 11 rfl (by kernel_rfl) (by kernel_rfl) (by kernel_rfl) (by kernel_rfl) (l':=#[false,true,true,true,true,false,true,false,false,false,true,true,true,false,false,false,false]) (by kernel_rfl) rfl ?_
    refine Y ?_
    refine x_pv HQ HS 13 rfl (by kernel_rfl) (by kernel_rfl) (l':=#[false,true,true,true,true,false,true,false,false,false,true,true,true,true,false,false,false]) (by kernel_rfl) rfl ?_
    refine Y ?_
    refine x_two 0 7 (by kernel_rfl) rfl rfl (l':=#[true,true,true,true,true,false,true,false,false,false,true,true,true,true,false,false,false]) (l'':=#[false,true,true,true,true,false,true,true,false,false,true,true,true,true,false,false,false]) (by kernel_rfl) (by kernel_rfl) (x_go ?_) (x_go ?_)
    · repeat (first|(refine qz ?_;clear HM;intro A1 W1 HM)|refine Y ?_)
      refine x_two 5 7 (by kernel_rfl) rfl rfl (l':=#[true,true,true,true,true,true,true,false,false,false,true,true,true,true,false,false,false]) (l'':=#[true,true,true,true,true,false,true,true,false,false,true,true,true,true,false,false,false]) (by kernel_rfl) (by kernel_rfl) (x_go ?_) (x_go ?_)
      · repeat (first|(refine gCall ?_;obtain ⟨F1,hF1⟩:=HM.own (A:=i.a6.1);(first|(have hd:=rdc_take hF1 x.acks.length;rw [hr1] at hd;refine s_appn (ys:=x.acks.take x.acks.length) (css:=css.take x.acks.length) HM rfl rfl rfl rfl hd (by simp only [List.length_take];omega) (by simp only [List.length_take,List.length_drop,List.length_append,List.length_cons,List.length_nil];omega) rfl ?_)|(have hd:=rdc_drop (k:=x.acks.length) hF1 (by omega) (by omega);rw [hr2] at hd;refine s_appn (ys:=x.acks.drop x.acks.length) (css:=css.drop x.acks.length) HM rfl rfl (by first|with_reducible rfl|(simp only [List.length_append,List.length_take,List.length_cons,List.length_nil];omega)) rfl hd (by simp only [List.length_drop];omega) (by simp only [List.length_take,List.length_drop,List.length_append,List.length_cons,List.length_nil];omega) rfl ?_));clear hF1;intro A1 c1 W1 HM1;replace HM:=HM1;clear HM1)|refine Y ?_)
        refine x_one 7 (by kernel_rfl) rfl (l':=#[true,true,true,true,true,true,true,true,false,false,true,true,true,true,false,false,false]) (by kernel_rfl) (x_go ?_)
        repeat refine Y ?_
        refine x_one 8 (by kernel_rfl) rfl (l':=#[true,true,true,true,true,true,true,true,true,false,true,true,true,true,false,false,false]) (by kernel_rfl) (x_go ?_)
        repeat (first|(refine qg ?_;clear HM;intro g W1 HM)|refine Y ?_)
        refine x_one 9 (by kernel_rfl) rfl (l':=#[true,true,true,true,true,true,true,true,true,true,true,true,true,true,false,false,false]) (by kernel_rfl) (x_go ?_)
        repeat (first|(refine qa ?_;clear HM;intro A1 c1 W1 HM)|refine Y ?_)
        refine x_one 14 (by kernel_rfl) rfl (l':=#[true,true,true,true,true,true,true,true,true,true,true,true,true,true,true,false,false]) (by kernel_rfl) (x_go ?_)
        repeat (first|(refine gCall ?_;obtain ⟨F1,hF1⟩:=HM.own (A:=i.a6.1);(first|(have hd:=rdc_take hF1 x.acks.length;rw [hr1] at hd;refine s_appn (ys:=x.acks.take x.acks.length) (css:=css.take x.acks.length) HM rfl rfl rfl rfl hd (by simp only [List.length_take];omega) (by simp only [List.length_take,List.length_drop,List.length_append,List.length_cons,List.length_nil];omega) rfl ?_)|(have hd:=rdc_drop (k:=x.acks.length) hF1 (by omega) (by omega);rw [hr2] at hd;refine s_appn (ys:=x.acks.drop x.acks.length) (css:=css.drop x.acks.length) HM rfl rfl (by first|with_reducible rfl|(simp only [List.length_append,List.length_take,List.length_cons,List.length_nil];omega)) rfl hd (by simp only [List.length_drop];omega) (by simp only [List.length_take,List.length_drop,List.length_append,List.length_cons,List.length_nil];omega) rfl ?_));clear hF1;intro A1 c1 W1 HM1;replace HM:=HM1;clear HM1)|refine Y ?_)
        refine x_pv HQ HS 15 rfl (by kernel_rfl) (by kernel_rfl) (l':=#[true,true,true,true,true,true,true,true,true,true,true,true,true,true,true,true,false]) (by kernel_rfl) rfl ?_
        refine Y ?_
        refine x_last 16 (by kernel_rfl) rfl (l':=#[true,true,true,true,true,true,true,true,true,true,true,true,true,true,true,true,true]) (by kernel_rfl) (by kernel_rfl) rfl ?_
        repeat (first|(refine qs ?_;clear HM;intro W1 HM)|refine Y ?_)
        obtain ⟨ys,hy⟩ : ∃ ys : List Ack,ys = [] ++ x.acks.take x.acks.length ++ [⟨ix,[]⟩] ++ x.acks.drop x.acks.length:=⟨_,rfl⟩
        rw [← hy] at HM
        obtain ⟨hyl,hya,hys⟩:=ack_ins ⟨ix,[]⟩ hk hy
        have hlk : x.acks.length < ys.length:=by omega
        have hyk:=hya hlk
        have hfl : ys[x.acks.length].frm.length ≤ 1000:=by rw [hyk];simp
        replace e : ackA x.acks ix f = ys.set x.acks.length ⟨ys[x.acks.length].index,addL ys[x.acks.length].frm f⟩:=by rw [hys,hyk];exact e
        clear hy hya hys hyk
        obtain ⟨j,HM⟩:=opn_ack (HM.pk (A:=own (tAck 3) 66 A1 c1 ys)) x.acks.length hlk
        replace HM:=HM.perm (List.Perm.swap ..)
        repeat (first|(refine gR ?_;refine d_startd [13] [(0,0),(0,2),(0,3),(0,5),(0,9),(1,1),(1,4),(0,6),(0,7),(1,8),(2,10),(0,11),(0,12),(3,13)] HM (by kernel_rfl) (by kernel_rfl) qq (by kernel_rfl) rfl ?_;intro HQ HS W1 HM1;replace HM:=HM1;clear HM1)|refine Y ?_|(refine gStore ?_;refine s_storeh HM rfl rfl rfl rfl rfl rfl ?_;clear HM;intro W1 HM;(try dsimp only at HM))|(refine qf ?_;go_at_call 80;refine (addS f (by omega) (by exact HM.pk)).mono ?_;rintro e2 W2 ⟨A2,c2,rfl,HM1⟩;refine ⟨_,rfl,?_⟩;replace HM:=HM1;clear HM1))
        have HM1:=cls_ack ((HM.pk (A:=own tInt 3 A2 c2 (addL ys[x.acks.length].frm f))).pk (A:=hol (tAck 3) 66 A1 c1 ys x.acks.length [.int .i64 ys[x.acks.length].index,.slice A2 (addL ys[x.acks.length].frm f).length c2]))
        replace HM:=HM1;clear HM1
        rw [← e] at HM
        have el : ys.length = (ackA x.acks ix f).length:=by rw [e,List.length_set]
        simp only [el] at HM ⊢
        have hl1:=ackA_len x.acks ix f
        have hl2:=ackA_frm x.acks ix f 1000 has
        rw [show ackL x ix f = advL { x with acks:=ackA x.acks ix f } from rfl]
        obtain ⟨bs,hA⟩ : ∃ bs,bs = ackA x.acks ix f:=⟨_,rfl⟩
        rw [← hA] at HM hl1 hl2 ⊢
        clear e el hA
        repeat (first|(refine qs ?_;clear HM;intro W1 HM)|(refine qf ?_;go_at_call 105;refine (advS { x with acks:=bs } ⟨i.a0,i.a1,i.a2,i.a3,i.a4,i.a5,(A1,c1)⟩ h0 h1 hn (by simp only;omega) (fun a ha=>Nat.le_trans (hl2 a ha) (by omega)) (by exact pk_rec HM)).mono ?_;rintro e2 W2 ⟨j2,rfl,HM1⟩;refine ⟨_,rfl,?_⟩;replace HM:=HM1;clear HM1;simp only [partRcd,List.cons_append,List.nil_append] at HM;simp only [encRcd])|refine Y ?_)
        exact ret_cell HM rfl rfl rfl ⟨j2,rfl,by simp only [partRcd,List.cons_append,List.nil_append];exact HM.sb⟩
      · repeat refine Y ?_
        refine x_two 5 8 (by kernel_rfl) rfl rfl (l':=#[true,true,true,true,true,true,true,true,false,false,true,true,true,true,false,false,false]) (l'':=#[true,true,true,true,true,false,true,true,true,false,true,true,true,true,false,false,false]) (by kernel_rfl) (by kernel_rfl) (x_go ?_) (x_go ?_)
        · repeat (first|(refine gCall ?_;obtain ⟨F1,hF1⟩:=HM.own (A:=i.a6.1);(first|(have hd:=rdc_take hF1 x.acks.length;rw [hr1] at hd;refine s_appn (ys:=x.acks.take x.acks.length) (css:=css.take x.acks.length) HM rfl rfl rfl rfl hd (by simp only [List.length_take];omega) (by simp only [List.length_take,List.length_drop,List.length_append,List.length_cons,List.length_nil];omega) rfl ?_)|(have hd:=rdc_drop (k:=x.acks.length) hF1 (by omega) (by omega);rw [hr2] at hd;refine s_appn (ys:=x.acks.drop x.acks.length) (css:=css.drop x.acks.length) HM rfl rfl (by first|with_reducible rfl|(simp only [List.length_append,List.length_take,List.length_cons,List.length_nil];omega)) rfl hd (by simp only [List.length_drop];omega) (by simp only [List.length_take,List.length_drop,List.length_append,List.length_cons,List.length_nil];omega) rfl ?_));clear hF1;intro A1 c1 W1 HM1;replace HM:=HM1;clear HM1)|refine Y ?_)
          refine x_one 8 (by kernel_rfl) rfl (l':=#[true,true,true,true,true,true,true,true,true,false,true,true,true,true,false,false,false]) (by kernel_rfl) (x_go ?_)
          repeat (first|(refine qg ?_;clear HM;intro g W1 HM)|refine Y ?_)
          refine x_one 9 (by kernel_rfl) rfl (l':=#[true,true,true,true,true,true,true,true,true,true,true,true,true,true,false,false,false]) (by kernel_rfl) (x_go ?_)
          repeat (first|(refine qa ?_;clear HM;intro A1 c1 W1 HM)|refine Y ?_)
          refine x_one 14 (by kernel_rfl) rfl (l':=#[true,true,true,true,true,true,true,true,true,true,true,true,true,true,true,false,false]) (by kernel_rfl) (x_go ?_)
          repeat (first|(refine gCall ?_;obtain ⟨F1,hF1⟩:=HM.own (A:=i.a6.1);(first|(have hd:=rdc_take hF1 x.acks.length;rw [hr1] at hd;refine s_appn (ys:=x.acks.take x.acks.length) (css:=css.take x.acks.length) HM rfl rfl rfl rfl hd (by simp only [List.length_take];omega) (by simp only [List.length_take,List.length_drop,List.length_append,List.length_cons,List.length_nil];omega) rfl ?_)|(have hd:=rdc_drop (k:=x.acks.length) hF1 (by omega) (by omega);rw [hr2] at hd;refine s_appn (ys:=x.acks.drop x.acks.length) (css:=css.drop x.acks.length) HM rfl rfl (by first|with_reducible rfl|(simp only [List.length_append,List.length_take,List.length_cons,List.length_nil];omega)) rfl hd (by simp only [List.length_drop];omega) (by simp only [List.length_take,List.length_drop,List.length_append,List.length_cons,List.length_nil];omega) rfl ?_));clear hF1;intro A1 c1 W1 HM1;replace HM:=HM1;clear HM1)|refine Y ?_)
          refine x_pv HQ HS 15 rfl (by kernel_rfl) (by kernel_rfl) (l':=#[true,true,true,true,true,true,true,true,true,true,true,true,true,true,true,true,false]) (by kernel_rfl) rfl ?_
          refine Y ?_
          refine x_last 16 (by kernel_rfl) rfl (l':=#[true,true,true,true,true,true,true,true,true,true,true,true,true,true,true,true,true]) (by kernel_rfl) (by kernel_rfl) rfl ?_
          repeat (first|(refine qs ?_;clear HM;intro W1 HM)|refine Y ?_)
          obtain ⟨ys,hy⟩ : ∃ ys : List Ack,ys = [] ++ x.acks.take x.acks.length ++ [⟨ix,[]⟩] ++ x.acks.drop x.acks.length:=⟨_,rfl⟩
          rw [← hy] at HM
          obtain ⟨hyl,hya,hys⟩:=ack_ins ⟨ix,[]⟩ hk hy
          have hlk : x.acks.length < ys.length:=by omega
          have hyk:=hya hlk
          have hfl : ys[x.acks.length].frm.length ≤ 1000:=by rw [hyk];simp
          replace e : ackA x.acks ix f = ys.set x.acks.length ⟨ys[x.acks.length].index,addL ys[x.acks.length].frm f⟩:=by rw [hys,hyk];exact e
          clear hy hya hys hyk
          obtain ⟨j,HM⟩:=opn_ack (HM.pk (A:=own (tAck 3) 66 A1 c1 ys)) x.acks.length hlk
          replace HM:=HM.perm (List.Perm.swap ..)
          repeat (first|(refine gR ?_;refine d_startd [13] [(0,0),(0,2),(0,3),(0,5),(0,9),(1,1),(1,4),(0,6),(0,7),(1,8),(2,10),(0,11),(0,12),(3,13)] HM (by kernel_rfl) (by kernel_rfl) qq (by kernel_rfl) rfl ?_;intro HQ HS W1 HM1;replace HM:=HM1;clear HM1)|refine Y ?_|(refine gStore ?_;refine s_storeh HM rfl rfl rfl rfl rfl rfl ?_;clear HM;intro W1 HM;(try dsimp only at HM))|(refine qf ?_;go_at_call 80;refine (addS f (by omega) (by exact HM.pk)).mono ?_;rintro e2 W2 ⟨A2,c2,rfl,HM1⟩;refine ⟨_,rfl,?_⟩;replace HM:=HM1;clear HM1))
          have HM1:=cls_ack ((HM.pk (A:=own tInt 3 A2 c2 (addL ys[x.acks.length].frm f))).pk (A:=hol (tAck 3) 66 A1 c1 ys x.acks.length [.int .i64 ys[x.acks.length].index,.slice A2 (addL ys[x.acks.length].frm f).length c2]))
          replace HM:=HM1;clear HM1
          rw [← e] at HM
          have el : ys.length = (ackA x.acks ix f).length:=by rw [e,List.length_set]
          simp only [el] at HM ⊢
          have hl1:=ackA_len x.acks ix f
          have hl2:=ackA_frm x.acks ix f 1000 has
          rw [show ackL x ix f = advL { x with acks:=ackA x.acks ix f } from rfl]
          obtain ⟨bs,hA⟩ : ∃ bs,bs = ackA x.acks ix f:=⟨_,rfl⟩
          rw [← hA] at HM hl1 hl2 ⊢
          clear e el hA
          repeat (first|(refine qs ?_;clear HM;intro W1 HM)|(refine qf ?_;go_at_call 105;refine (advS { x with acks:=bs } ⟨i.a0,i.a1,i.a2,i.a3,i.a4,i.a5,(A1,c1)⟩ h0 h1 hn (by simp only;omega) (fun a ha=>Nat.le_trans (hl2 a ha) (by omega)) (by exact pk_rec HM)).mono ?_;rintro e2 W2 ⟨j2,rfl,HM1⟩;refine ⟨_,rfl,?_⟩;replace HM:=HM1;clear HM1;simp only [partRcd,List.cons_append,List.nil_append] at HM;simp only [encRcd])|refine Y ?_)
          exact ret_cell HM rfl rfl rfl ⟨j2,rfl,by simp only [partRcd,List.cons_append,List.nil_append];exact HM.sb⟩
        · repeat (first|(refine qg ?_;clear HM;intro g W1 HM)|refine Y ?_)
          refine x_one 5 (by kernel_rfl) rfl (l':=#[true,true,true,true,true,true,true,true,true,false,true,true,true,true,false,false,false]) (by kernel_rfl) (x_go ?_)
          repeat (first|(refine gCall ?_;obtain ⟨F1,hF1⟩:=HM.own (A:=i.a6.1);(first|(have hd:=rdc_take hF1 x.acks.length;rw [hr1] at hd;refine s_appn (ys:=x.acks.take x.acks.length) (css:=css.take x.acks.length) HM rfl rfl rfl rfl hd (by simp only [List.length_take];omega) (by simp only [List.length_take,List.length_drop,List.length_append,List.length_cons,List.length_nil];omega) rfl ?_)|(have hd:=rdc_drop (k:=x.acks.length) hF1 (by omega) (by omega);rw [hr2] at hd;refine s_appn (ys:=x.acks.drop x.acks.length) (css:=css.drop x.acks.length) HM rfl rfl (by first|with_reducible rfl|(simp only [List.length_append,List.length_take,List.length_cons,List.length_nil];omega)) rfl hd (by simp only [List.length_drop];omega) (by simp only [List.length_take,List.length_drop,List.length_append,List.length_cons,List.length_nil];omega) rfl ?_));clear hF1;intro A1 c1 W1 HM1;replace HM:=HM1;clear HM1)|refine Y ?_)
          refine x_one 9 (by kernel_rfl) rfl (l':=#[true,true,true,true,true,true,true,true,true,true,true,true,true,true,false,false,false]) (by kernel_rfl) (x_go ?_)
          repeat (first|(refine qa ?_;clear HM;intro A1 c1 W1 HM)|refine Y ?_)
          refine x_one 14 (by kernel_rfl) rfl (l':=#[true,true,true,true,true,true,true,true,true,true,true,true,true,true,true,false,false]) (by kernel_rfl) (x_go ?_)
          repeat (first|(refine gCall ?_;obtain ⟨F1,hF1⟩:=HM.own (A:=i.a6.1);(first|(have hd:=rdc_take hF1 x.acks.length;rw [hr1] at hd;refine s_appn (ys:=x.acks.take x.acks.length) (css:=css.take x.acks.length) HM rfl rfl rfl rfl hd (by simp only [List.length_take];omega) (by simp only [List.length_take,List.length_drop,List.length_append,List.length_cons,List.length_nil];omega) rfl ?_)|(have hd:=rdc_drop (k:=x.acks.length) hF1 (by omega) (by omega);rw [hr2] at hd;refine s_appn (ys:=x.acks.drop x.acks.length) (css:=css.drop x.acks.length) HM rfl rfl (by first|with_reducible rfl|(simp only [List.length_append,List.length_take,List.length_cons,List.length_nil];omega)) rfl hd (by simp only [List.length_drop];omega) (by simp only [List.length_take,List.length_drop,List.length_append,List.length_cons,List.length_nil];omega) rfl ?_));clear hF1;intro A1 c1 W1 HM1;replace HM:=HM1;clear HM1)|refine Y ?_)
          refine x_pv HQ HS 15 rfl (by kernel_rfl) (by kernel_rfl) (l':=#[true,true,true,true,true,true,true,true,true,true,true,true,true,true,true,true,false]) (by kernel_rfl) rfl ?_
          refine Y ?_
          refine x_last 16 (by kernel_rfl) rfl (l':=#[true,true,true,true,true,true,true,true,true,true,true,true,true,true,true,true,true]) (by kernel_rfl) (by kernel_rfl) rfl ?_
          repeat (first|(refine qs ?_;clear HM;intro W1 HM)|refine Y ?_)
          obtain ⟨ys,hy⟩ : ∃ ys : List Ack,ys = [] ++ x.acks.take x.acks.length ++ [⟨ix,[]⟩] ++ x.acks.drop x.acks.length:=⟨_,rfl⟩
          rw [← hy] at HM
          obtain ⟨hyl,hya,hys⟩:=ack_ins ⟨ix,[]⟩ hk hy
          have hlk : x.acks.length < ys.length:=by omega
          have hyk:=hya hlk
          have hfl : ys[x.acks.length].frm.length ≤ 1000:=by rw [hyk];simp
          replace e : ackA x.acks ix f = ys.set x.acks.length ⟨ys[x.acks.length].index,addL ys[x.acks.length].frm f⟩:=by rw [hys,hyk];exact e
          clear hy hya hys hyk
          obtain ⟨j,HM⟩:=opn_ack (HM.pk (A:=own (tAck 3) 66 A1 c1 ys)) x.acks.length hlk
          replace HM:=HM.perm (List.Perm.swap ..)
          repeat (first|(refine gR ?_;refine d_startd [13] [(0,0),(0,2),(0,3),(0,5),(0,9),(1,1),(1,4),(0,6),(0,7),(1,8),(2,10),(0,11),(0,12),(3,13)] HM (by kernel_rfl) (by kernel_rfl) qq (by kernel_rfl) rfl ?_;intro HQ HS W1 HM1;replace HM:=HM1;clear HM1)|refine Y ?_|(refine gStore ?_;refine s_storeh HM rfl rfl rfl rfl rfl rfl ?_;clear HM;intro W1 HM;(try dsimp only at HM))|(refine qf ?_;go_at_call 80;refine (addS f (by omega) (by exact HM.pk)).mono ?_;rintro e2 W2 ⟨A2,c2,rfl,HM1⟩;refine ⟨_,rfl,?_⟩;replace HM:=HM1;clear HM1))
          have HM1:=cls_ack ((HM.pk (A:=own tInt 3 A2 c2 (addL ys[x.acks.length].frm f))).pk (A:=hol (tAck 3) 66 A1 c1 ys x.acks.length [.int .i64 ys[x.acks.length].index,.slice A2 (addL ys[x.acks.length].frm f).length c2]))
          replace HM:=HM1;clear HM1
          rw [← e] at HM
          have el : ys.length = (ackA x.acks ix f).length:=by rw [e,List.length_set]
          simp only [el] at HM ⊢
          have hl1:=ackA_len x.acks ix f
          have hl2:=ackA_frm x.acks ix f 1000 has
          rw [show ackL x ix f = advL { x with acks:=ackA x.acks ix f } from rfl]
          obtain ⟨bs,hA⟩ : ∃ bs,bs = ackA x.acks ix f:=⟨_,rfl⟩
          rw [← hA] at HM hl1 hl2 ⊢
          clear e el hA
          repeat (first|(refine qs ?_;clear HM;intro W1 HM)|(refine qf ?_;go_at_call 105;refine (advS { x with acks:=bs } ⟨i.a0,i.a1,i.a2,i.a3,i.a4,i.a5,(A1,c1)⟩ h0 h1 hn (by simp only;omega) (fun a ha=>Nat.le_trans (hl2 a ha) (by omega)) (by exact pk_rec HM)).mono ?_;rintro e2 W2 ⟨j2,rfl,HM1⟩;refine ⟨_,rfl,?_⟩;replace HM:=HM1;clear HM1;simp only [partRcd,List.cons_append,List.nil_append] at HM;simp only [encRcd])|refine Y ?_)
          exact ret_cell HM rfl rfl rfl ⟨j2,rfl,by simp only [partRcd,List.cons_append,List.nil_append];exact HM.sb⟩
    · repeat refine Y ?_
      refine x_two 0 8 (by kernel_rfl) rfl rfl (l':=#[true,true,true,true,true,false,true,true,false,false,true,true,true,true,false,false,false]) (l'':=#[false,true,true,true,true,false,true,true,true,false,true,true,true,true,false,false,false]) (by kernel_rfl) (by kernel_rfl) (x_go ?_) (x_go ?_)
      · repeat (first|(refine qz ?_;clear HM;intro A1 W1 HM)|refine Y ?_)
        refine x_two 5 8 (by kernel_rfl) rfl rfl (l':=#[true,true,true,true,true,true,true,true,false,false,true,true,true,true,false,false,false]) (l'':=#[true,true,true,true,true,false,true,true,true,false,true,true,true,true,false,false,false]) (by kernel_rfl) (by kernel_rfl) (x_go ?_) (x_go ?_)
        · repeat (first|(refine gCall ?_;obtain ⟨F1,hF1⟩:=HM.own (A:=i.a6.1);(first|(have hd:=rdc_take hF1 x.acks.length;rw [hr1] at hd;refine s_appn (ys:=x.acks.take x.acks.length) (css:=css.take x.acks.length) HM rfl rfl rfl rfl hd (by simp only [List.length_take];omega) (by simp only [List.length_take,List.length_drop,List.length_append,List.length_cons,List.length_nil];omega) rfl ?_)|(have hd:=rdc_drop (k:=x.acks.length) hF1 (by omega) (by omega);rw [hr2] at hd;refine s_appn (ys:=x.acks.drop x.acks.length) (css:=css.drop x.acks.length) HM rfl rfl (by first|with_reducible rfl|(simp only [List.length_append,List.length_take,List.length_cons,List.length_nil];omega)) rfl hd (by simp only [List.length_drop];omega) (by simp only [List.length_take,List.length_drop,List.length_append,List.length_cons,List.length_nil];omega) rfl ?_));clear hF1;intro A1 c1 W1 HM1;replace HM:=HM1;clear HM1)|refine Y ?_)
          refine x_one 8 (by kernel_rfl) rfl (l':=#[true,true,true,true,true,true,true,true,true,false,true,true,true,true,false,false,false]) (by kernel_rfl) (x_go ?_)
          repeat (first|(refine qg ?_;clear HM;intro g W1 HM)|refine Y ?_)
          refine x_one 9 (by kernel_rfl) rfl (l':=#[true,true,true,true,true,true,true,true,true,true,true,true,true,true,false,false,false]) (by kernel_rfl) (x_go ?_)
          repeat (first|(refine qa ?_;clear HM;intro A1 c1 W1 HM)|refine Y ?_)
          refine x_one 14 (by kernel_rfl) rfl (l':=#[true,true,true,true,true,true,true,true,true,true,true,true,true,true,true,false,false]) (by kernel_rfl) (x_go ?_)
          repeat (first|(refine gCall ?_;obtain ⟨F1,hF1⟩:=HM.own (A:=i.a6.1);(first|(have hd:=rdc_take hF1 x.acks.length;rw [hr1] at hd;refine s_appn (ys:=x.acks.take x.acks.length) (css:=css.take x.acks.length) HM rfl rfl rfl rfl hd (by simp only [List.length_take];omega) (by simp only [List.length_take,List.length_drop,List.length_append,List.length_cons,List.length_nil];omega) rfl ?_)|(have hd:=rdc_drop (k:=x.acks.length) hF1 (by omega) (by omega);rw [hr2] at hd;refine s_appn (ys:=x.acks.drop x.acks.length) (css:=css.drop x.acks.length) HM rfl rfl (by first|with_reducible rfl|(simp only [List.length_append,List.length_take,List.length_cons,List.length_nil];omega)) rfl hd (by simp only [List.length_drop];omega) (by simp only [List.length_take,List.length_drop,List.length_append,List.length_cons,List.length_nil];omega) rfl ?_));clear hF1;intro A1 c1 W1 HM1;replace HM:=HM1;clear HM1)|refine Y ?_)
          refine x_pv HQ HS 15 rfl (by kernel_rfl) (by kernel_rfl) (l':=#[true,true,true,true,true,true,true,true,true,true,true,true,true,true,true,true,false]) (by kernel_rfl) rfl ?_
          refine Y ?_
          refine x_last 16 (by kernel_rfl) rfl (l':=#[true,true,true,true,true,true,true,true,true,true,true,true,true,true,true,true,true]) (by kernel_rfl) (by kernel_rfl) rfl ?_
          repeat (first|(refine qs ?_;clear HM;intro W1 HM)|refine Y ?_)
          obtain ⟨ys,hy⟩ : ∃ ys : List Ack,ys = [] ++ x.acks.take x.acks.length ++ [⟨ix,[]⟩] ++ x.acks.drop x.acks.length:=⟨_,rfl⟩
          rw [← hy] at HM
          obtain ⟨hyl,hya,hys⟩:=ack_ins ⟨ix,[]⟩ hk hy
          have hlk : x.acks.length < ys.length:=by omega
          have hyk:=hya hlk
          have hfl : ys[x.acks.length].frm.length ≤ 1000:=by rw [hyk];simp
          replace e : ackA x.acks ix f = ys.set x.acks.length ⟨ys[x.acks.length].index,addL ys[x.acks.length].frm f⟩:=by rw [hys,hyk];exact e
          clear hy hya hys hyk
          obtain ⟨j,HM⟩:=opn_ack (HM.pk (A:=own (tAck 3) 66 A1 c1 ys)) x.acks.length hlk
          replace HM:=HM.perm (List.Perm.swap ..)
          repeat (first|(refine gR ?_;refine d_startd [13] [(0,0),(0,2),(0,3),(0,5),(0,9),(1,1),(1,4),(0,6),(0,7),(1,8),(2,10),(0,11),(0,12),(3,13)] HM (by kernel_rfl) (by kernel_rfl) qq (by kernel_rfl) rfl ?_;intro HQ HS W1 HM1;replace HM:=HM1;clear HM1)|refine Y ?_|(refine gStore ?_;refine s_storeh HM rfl rfl rfl rfl rfl rfl ?_;clear HM;intro W1 HM;(try dsimp only at HM))|(refine qf ?_;go_at_call 80;refine (addS f (by omega) (by exact HM.pk)).mono ?_;rintro e2 W2 ⟨A2,c2,rfl,HM1⟩;refine ⟨_,rfl,?_⟩;replace HM:=HM1;clear HM1))
          have HM1:=cls_ack ((HM.pk (A:=own tInt 3 A2 c2 (addL ys[x.acks.length].frm f))).pk (A:=hol (tAck 3) 66 A1 c1 ys x.acks.length [.int .i64 ys[x.acks.length].index,.slice A2 (addL ys[x.acks.length].frm f).length c2]))
          replace HM:=HM1;clear HM1
          rw [← e] at HM
          have el : ys.length = (ackA x.acks ix f).length:=by rw [e,List.length_set]
          simp only [el] at HM ⊢
          have hl1:=ackA_len x.acks ix f
          have hl2:=ackA_frm x.acks ix f 1000 has
          rw [show ackL x ix f = advL { x with acks:=ackA x.acks ix f } from rfl]
          obtain ⟨bs,hA⟩ : ∃ bs,bs = ackA x.acks ix f:=⟨_,rfl⟩
          rw [← hA] at HM hl1 hl2 ⊢
          clear e el hA
          repeat (first|(refine qs ?_;clear HM;intro W1 HM)|(refine qf ?_;go_at_call 105;refine (advS { x with acks:=bs } ⟨i.a0,i.a1,i.a2,i.a3,i.a4,i.a5,(A1,c1)⟩ h0 h1 hn (by simp only;omega) (fun a ha=>Nat.le_trans (hl2 a ha) (by omega)) (by exact pk_rec HM)).mono ?_;rintro e2 W2 ⟨j2,rfl,HM1⟩;refine ⟨_,rfl,?_⟩;replace HM:=HM1;clear HM1;simp only [partRcd,List.cons_append,List.nil_append] at HM;simp only [encRcd])|refine Y ?_)
          exact ret_cell HM rfl rfl rfl ⟨j2,rfl,by simp only [partRcd,List.cons_append,List.nil_append];exact HM.sb⟩
        · repeat (first|(refine qg ?_;clear HM;intro g W1 HM)|refine Y ?_)
          refine x_one 5 (by kernel_rfl) rfl (l':=#[true,true,true,true,true,true,true,true,true,false,true,true,true,true,false,false,false]) (by kernel_rfl) (x_go ?_)
          repeat (first|(refine gCall ?_;obtain ⟨F1,hF1⟩:=HM.own (A:=i.a6.1);(first|(have hd:=rdc_take hF1 x.acks.length;rw [hr1] at hd;refine s_appn (ys:=x.acks.take x.acks.length) (css:=css.take x.acks.length) HM rfl rfl rfl rfl hd (by simp only [List.length_take];omega) (by simp only [List.length_take,List.length_drop,List.length_append,List.length_cons,List.length_nil];omega) rfl ?_)|(have hd:=rdc_drop (k:=x.acks.length) hF1 (by omega) (by omega);rw [hr2] at hd;refine s_appn (ys:=x.acks.drop x.acks.length) (css:=css.drop x.acks.length) HM rfl rfl (by first|with_reducible rfl|(simp only [List.length_append,List.length_take,List.length_cons,List.length_nil];omega)) rfl hd (by simp only [List.length_drop];omega) (by simp only [List.length_take,List.length_drop,List.length_append,List.length_cons,List.length_nil];omega) rfl ?_));clear hF1;intro A1 c1 W1 HM1;replace HM:=HM1;clear HM1)|refine Y ?_)
          refine x_one 9 (by kernel_rfl) rfl (l':=#[true,true,true,true,true,true,true,true,true,true,true,true,true,true,false,false,false]) (by kernel_rfl) (x_go ?_)
          repeat (first|(refine qa ?_;clear HM;intro A1 c1 W1 HM)|refine Y ?_)
          refine x_one 14 (by kernel_rfl) rfl (l':=#[true,true,true,true,true,true,true,true,true,true,true,true,true,true,true,false,false]) (by kernel_rfl) (x_go ?_)
          repeat (first|(refine gCall ?_;obtain ⟨F1,hF1⟩:=HM.own (A:=i.a6.1);(first|(have hd:=rdc_take hF1 x.acks.length;rw [hr1] at hd;refine s_appn (ys:=x.acks.take x.acks.length) (css:=css.take x.acks.length) HM rfl rfl rfl rfl hd (by simp only [List.length_take];omega) (by simp only [List.length_take,List.length_drop,List.length_append,List.length_cons,List.length_nil];omega) rfl ?_)|(have hd:=rdc_drop (k:=x.acks.length) hF1 (by omega) (by omega);rw [hr2] at hd;refine s_appn (ys:=x.acks.drop x.acks.length) (css:=css.drop x.acks.length) HM rfl rfl (by first|with_reducible rfl|(simp only [List.length_append,List.length_take,List.length_cons,List.length_nil];omega)) rfl hd (by simp only [List.length_drop];omega) (by simp only [List.length_take,List.length_drop,List.length_append,List.length_cons,List.length_nil];omega) rfl ?_));clear hF1;intro A1 c1 W1 HM1;replace HM:=HM1;clear HM1)|refine Y ?_)
          refine x_pv HQ HS 15 rfl (by kernel_rfl) (by kernel_rfl) (l':=#[true,true,true,true,true,true,true,true,true,true,true,true,true,true,true,true,false]) (by kernel_rfl) rfl ?_
          refine Y ?_
          refine x_last 16 (by kernel_rfl) rfl (l':=#[true,true,true,true,true,true,true,true,true,true,true,true,true,true,true,true,true]) (by kernel_rfl) (by kernel_rfl) rfl ?_
          repeat (first|(refine qs ?_;clear HM;intro W1 HM)|refine Y ?_)
          obtain ⟨ys,hy⟩ : ∃ ys : List Ack,ys = [] ++ x.acks.take x.acks.length ++ [⟨ix,[]⟩] ++ x.acks.drop x.acks.length:=⟨_,rfl⟩
          rw [← hy] at HM
          obtain ⟨hyl,hya,hys⟩:=ack_ins ⟨ix,[]⟩ hk hy
          have hlk : x.acks.length < ys.length:=by omega
          have hyk:=hya hlk
          have hfl : ys[x.acks.length].frm.length ≤ 1000:=by rw [hyk];simp
          replace e : ackA x.acks ix f = ys.set x.acks.length ⟨ys[x.acks.length].index,addL ys[x.acks.length].frm f⟩:=by rw [hys,hyk];exact e
          clear hy hya hys hyk
          obtain ⟨j,HM⟩:=opn_ack (HM.pk (A:=own (tAck 3) 66 A1 c1 ys)) x.acks.length hlk
          replace HM:=HM.perm (List.Perm.swap ..)
          repeat (first|(refine gR ?_;refine d_startd [13] [(0,0),(0,2),(0,3),(0,5),(0,9),(1,1),(1,4),(0,6),(0,7),(1,8),(2,10),(0,11),(0,12),(3,13)] HM (by kernel_rfl) (by kernel_rfl) qq (by kernel_rfl) rfl ?_;intro HQ HS W1 HM1;replace HM:=HM1;clear HM1)|refine Y ?_|(refine gStore ?_;refine s_storeh HM rfl rfl rfl rfl rfl rfl ?_;clear HM;intro W1 HM;(try dsimp only at HM))|(refine qf ?_;go_at_call 80;refine (addS f (by omega) (by exact HM.pk)).mono ?_;rintro e2 W2 ⟨A2,c2,rfl,HM1⟩;refine ⟨_,rfl,?_⟩;replace HM:=HM1;clear HM1))
          have HM1:=cls_ack ((HM.pk (A:=own tInt 3 A2 c2 (addL ys[x.acks.length].frm f))).pk (A:=hol (tAck 3) 66 A1 c1 ys x.acks.length [.int .i64 ys[x.acks.length].index,.slice A2 (addL ys[x.acks.length].frm f).length c2]))
          replace HM:=HM1;clear HM1
          rw [← e] at HM
          have el : ys.length = (ackA x.acks ix f).length:=by rw [e,List.length_set]
          simp only [el] at HM ⊢
          have hl1:=ackA_len x.acks ix f
          have hl2:=ackA_frm x.acks ix f 1000 has
          rw [show ackL x ix f = advL { x with acks:=ackA x.acks ix f } from rfl]
          obtain ⟨bs,hA⟩ : ∃ bs,bs = ackA x.acks ix f:=⟨_,rfl⟩
          rw [← hA] at HM hl1 hl2 ⊢
          clear e el hA
          repeat (first|(refine qs ?_;clear HM;intro W1 HM)|(refine qf ?_;go_at_call 105;refine (advS { x with acks:=bs } ⟨i.a0,i.a1,i.a2,i.a3,i.a4,i.a5,(A1,c1)⟩ h0 h1 hn (by simp only;omega) (fun a ha=>Nat.le_trans (hl2 a ha) (by omega)) (by exact pk_rec HM)).mono ?_;rintro e2 W2 ⟨j2,rfl,HM1⟩;refine ⟨_,rfl,?_⟩;replace HM:=HM1;clear HM1;simp only [partRcd,List.cons_append,List.nil_append] at HM;simp only [encRcd])|refine Y ?_)
          exact ret_cell HM rfl rfl rfl ⟨j2,rfl,by simp only [partRcd,List.cons_append,List.nil_append];exact HM.sb⟩
      · repeat (first|(refine qg ?_;clear HM;intro g W1 HM)|refine Y ?_)
        refine x_one 0 (by kernel_rfl) rfl (l':=#[true,true,true,true,true,false,true,true,true,false,true,true,true,true,false,false,false]) (by kernel_rfl) (x_go ?_)
        repeat (first|(refine qz ?_;clear HM;intro A1 W1 HM)|refine Y ?_)
        refine x_one 5 (by kernel_rfl) rfl (l':=#[true,true,true,true,true,true,true,true,true,false,true,true,true,true,false,false,false]) (by kernel_rfl) (x_go ?_)
        repeat (first|(refine gCall ?_;obtain ⟨F1,hF1⟩:=HM.own (A:=i.a6.1);(first|(have hd:=rdc_take hF1 x.acks.length;rw [hr1] at hd;refine s_appn (ys:=x.acks.take x.acks.length) (css:=css.take x.acks.length) HM rfl rfl rfl rfl hd (by simp only [List.length_take];omega) (by simp only [List.length_take,List.length_drop,List.length_append,List.length_cons,List.length_nil];omega) rfl ?_)|(have hd:=rdc_drop (k:=x.acks.length) hF1 (by omega) (by omega);rw [hr2] at hd;refine s_appn (ys:=x.acks.drop x.acks.length) (css:=css.drop x.acks.length) HM rfl rfl (by first|with_reducible rfl|(simp only [List.length_append,List.length_take,List.length_cons,List.length_nil];omega)) rfl hd (by simp only [List.length_drop];omega) (by simp only [List.length_take,List.length_drop,List.length_append,List.length_cons,List.length_nil];omega) rfl ?_));clear hF1;intro A1 c1 W1 HM1;replace HM:=HM1;clear HM1)|refine Y ?_)
        refine x_one 9 (by kernel_rfl) rfl (l':=#[true,true,true,true,true,true,true,true,true,true,true,true,true,true,false,false,false]) (by kernel_rfl) (x_go ?_)
        repeat (first|(refine qa ?_;clear HM;intro A1 c1 W1 HM)|refine Y ?_)
        refine x_one 14 (by kernel_rfl) rfl (l':=#[true,true,true,true,true,true,true,true,true,true,true,true,true,true,true,false,false]) (by kernel_rfl) (x_go ?_)
        repeat (first|(refine gCall ?_;obtain ⟨F1,hF1⟩:=HM.own (A:=i.a6.1);(first|(have hd:=rdc_take hF1 x.acks.length;rw [hr1] at hd;refine s_appn (ys:=x.acks.take x.acks.length) (css:=css.take x.acks.length) HM rfl rfl rfl rfl hd (by simp only [List.length_take];omega) (by simp only [List.length_take,List.length_drop,List.length_append,List.length_cons,List.length_nil];omega) rfl ?_)|(have hd:=rdc_drop (k:=x.acks.length) hF1 (by omega) (by omega);rw [hr2] at hd;refine s_appn (ys:=x.acks.drop x.acks.length) (css:=css.drop x.acks.length) HM rfl rfl (by first|with_reducible rfl|(simp only [List.length_append,List.length_take,List.length_cons,List.length_nil];omega)) rfl hd (by simp only [List.length_drop];omega) (by simp only [List.length_take,List.length_drop,List.length_append,List.length_cons,List.length_nil];omega) rfl ?_));clear hF1;intro A1 c1 W1 HM1;replace HM:=HM1;clear HM1)|refine Y ?_)
        refine x_pv HQ HS 15 rfl (by kernel_rfl) (by kernel_rfl) (l':=#[true,true,true,true,true,true,true,true,true,true,true,true,true,true,true,true,false]) (by kernel_rfl) rfl ?_
        refine Y ?_
        refine x_last 16 (by kernel_rfl) rfl (l':=#[true,true,true,true,true,true,true,true,true,true,true,true,true,true,true,true,true]) (by kernel_rfl) (by kernel_rfl) rfl ?_
        repeat (first|(refine qs ?_;clear HM;intro W1 HM)|refine Y ?_)
        obtain ⟨ys,hy⟩ : ∃ ys : List Ack,ys = [] ++ x.acks.take x.acks.length ++ [⟨ix,[]⟩] ++ x.acks.drop x.acks.length:=⟨_,rfl⟩
        rw [← hy] at HM
        obtain ⟨hyl,hya,hys⟩:=ack_ins ⟨ix,[]⟩ hk hy
        have hlk : x.acks.length < ys.length:=by omega
        have hyk:=hya hlk
        have hfl : ys[x.acks.length].frm.length ≤ 1000:=by rw [hyk];simp
        replace e : ackA x.acks ix f = ys.set x.acks.length ⟨ys[x.acks.length].index,addL ys[x.acks.length].frm f⟩:=by rw [hys,hyk];exact e
        clear hy hya hys hyk
        obtain ⟨j,HM⟩:=opn_ack (HM.pk (A:=own (tAck 3) 66 A1 c1 ys)) x.acks.length hlk
        replace HM:=HM.perm (List.Perm.swap ..)
        repeat (first|(refine gR ?_;refine d_startd [13] [(0,0),(0,2),(0,3),(0,5),(0,9),(1,1),(1,4),(0,6),(0,7),(1,8),(2,10),(0,11),(0,12),(3,13)] HM (by kernel_rfl) (by kernel_rfl) qq (by kernel_rfl) rfl ?_;intro HQ HS W1 HM1;replace HM:=HM1;clear HM1)|refine Y ?_|(refine gStore ?_;refine s_storeh HM rfl rfl rfl rfl rfl rfl ?_;clear HM;intro W1 HM;(try dsimp only at HM))|(refine qf ?_;go_at_call 80;refine (addS f (by omega) (by exact HM.pk)).mono ?_;rintro e2 W2 ⟨A2,c2,rfl,HM1⟩;refine ⟨_,rfl,?_⟩;replace HM:=HM1;clear HM1))
        have HM1:=cls_ack ((HM.pk (A:=own tInt 3 A2 c2 (addL ys[x.acks.length].frm f))).pk (A:=hol (tAck 3) 66 A1 c1 ys x.acks.length [.int .i64 ys[x.acks.length].index,.slice A2 (addL ys[x.acks.length].frm f).length c2]))
        replace HM:=HM1;clear HM1
        rw [← e] at HM
        have el : ys.length = (ackA x.acks ix f).length:=by rw [e,List.length_set]
        simp only [el] at HM ⊢
        have hl1:=ackA_len x.acks ix f
        have hl2:=ackA_frm x.acks ix f 1000 has
        rw [show ackL x ix f = advL { x with acks:=ackA x.acks ix f } from rfl]
        obtain ⟨bs,hA⟩ : ∃ bs,bs = ackA x.acks ix f:=⟨_,rfl⟩
        rw [← hA] at HM hl1 hl2 ⊢
        clear e el hA
        repeat (first|(refine qs ?_;clear HM;intro W1 HM)|(refine qf ?_;go_at_call 105;refine (advS { x with acks:=bs } ⟨i.a0,i.a1,i.a2,i.a3,i.a4,i.a5,(A1,c1)⟩ h0 h1 hn (by simp only;omega) (fun a ha=>Nat.le_trans (hl2 a ha) (by omega)) (by exact pk_rec HM)).mono ?_;rintro e2 W2 ⟨j2,rfl,HM1⟩;refine ⟨_,rfl,?_⟩;replace HM:=HM1;clear HM1;simp only [partRcd,List.cons_append,List.nil_append] at HM;simp only [encRcd])|refine Y ?_)
        exact ret_cell HM rfl rfl rfl ⟨j2,rfl,by simp only [partRcd,List.cons_append,List.nil_append];exact HM.sb⟩
end Go.Proofs.YtampmicahnnebaaGreat.Sp
namespace Go.Proofs.YtampmicahnnebaaGreat.Sp
open Go Go.RowKit
set_option maxRecDepth 10000
set_option maxHeartbeats 1000000
variable {w0 W : World} {L : List Asn}
theorem p_max {P : Program} {E : Env} {x y : Operand} {ts : Array TypeId} {k : IntKind} {m q : Int} (hx : ev E x = some (.int k m)) (hy : ev E y = some (.int k q)) : PV P E (.call { callee:=.builtin .max,args:=#[x,y],argTypes:=ts }) (.int k (max m q)):=⟨fun n a ha dst ty pos after gd W=>by
  have : (if q > m then q else m) = max m q:=by split <;> omega
  simp [execOp,ha.eval hx,ha.eval hy,resolve,invoke,builtin,Builtin.max_,Builtin.max2,this]⟩
theorem followM (x : Rcd) (i : AtRcd) (g : Nat) (b : Int) (HM : Mem w0 W (boxR 91 40 9 3 66 31 g x i ++ L)) : Calls Tryz.prog 93 #[.pointer (some ⟨g,0,none⟩),.int .i64 b] W fun e W'=>∃ j,e = .returned (.tuple #[]) ∧ Mem w0 W' (boxR 91 40 9 3 66 31 g (followL x b) j ++ L):=by
  refine enter Tryz.func93 rfl Tryz.ntmps93 [(0,_),(1,_)] rfl ⟨rfl,rfl,trivial⟩ ?_
  simp only [boxR,partRcd,List.cons_append,List.nil_append] at HM
  by_cases c1 : b = x.ballot
  · have e : followL x b = { x with dp:=max x.dp b,heard:=0 }:=by rw [followL,if_pos c1]
    repeat (first|(refine gGP ?_;refine gp (p_max rfl rfl) ?_)|refine Y ?_|(refine qs ?_;clear HM;intro W1 HM))
    rw [e]
    exact end_none rfl ⟨i,rfl,by simp only [boxR,partRcd,List.cons_append,List.nil_append];exact HM.sb⟩
  · have e : followL x b = { calmL { x with dp:=max x.dp b } with heard:=0 }:=by rw [followL,if_neg c1]
    repeat (first|(refine gGP ?_;refine gp (p_max rfl rfl) ?_)|refine Y ?_|(refine qs ?_;clear HM;intro W1 HM)|(refine qf ?_;go_at_call 75;refine (quietM { x with dp:=max x.dp b } i _ (by exact pk_boxr HM)).mono ?_;rintro e W1 ⟨j,rfl,HM1⟩;refine ⟨_,rfl,?_⟩;replace HM:=HM1;clear HM1;simp only [calmL,boxR,partRcd,List.cons_append,List.nil_append] at HM))
    rw [e]
    exact end_none rfl ⟨j,rfl,by simp only [calmL,boxR,partRcd,List.cons_append,List.nil_append];exact HM.sb⟩
theorem followS (x : Rcd) (i : AtRcd) (b : Int) (HM : Mem w0 W (partRcd 91 40 9 3 66 x i ++ L)) : Calls Tryz.prog 95 #[.agg (encRcd x i).toArray,.int .i64 b] W fun e W'=>∃ j,e = .returned (.agg (encRcd (followL x b) j).toArray) ∧ Mem w0 W' (partRcd 91 40 9 3 66 (followL x b) j ++ L):=by
  refine enter Tryz.func95 rfl Tryz.ntmps95 [(0,.agg (encRcd x i).toArray),(1,_)] rfl ⟨rfl,rfl,trivial⟩ ?_
  unfold encRcd
  simp only [partRcd,List.cons_append,List.nil_append] at HM
  by_cases c0 : x.dp < b
  · have em : max x.dp b = b:=by omega
    by_cases c1 : b = x.ballot
    · have e : followL x b = { x with dp:=b,heard:=0 }:=by rw [followL,if_pos c1,em]
      repeat (first|refine Y ?_|(refine qs ?_;clear HM;intro W1 HM)|(refine qg ?_;clear HM;intro g W1 HM))
      rw [e]
      exact ret_cell HM rfl rfl rfl ⟨i,rfl,by simp only [partRcd,List.cons_append,List.nil_append];exact HM.sb⟩
    · have e : followL x b = { calmL { x with dp:=b } with heard:=0 }:=by rw [followL,if_neg c1,em]
      repeat (first|refine Y ?_|(refine qs ?_;clear HM;intro W1 HM)|(refine qf ?_;go_at_call 31;refine (calmS { x with dp:=b } i (by exact pk_rec HM)).mono ?_;rintro e W1 ⟨j,rfl,HM1⟩;refine ⟨_,rfl,?_⟩;replace HM:=HM1;clear HM1;simp only [calmL,partRcd,List.cons_append,List.nil_append] at HM;simp only [calmL,encRcd])|(refine qg ?_;clear HM;intro g W1 HM))
      rw [e]
      exact ret_cell HM rfl rfl rfl ⟨j,rfl,by simp only [calmL,partRcd,List.cons_append,List.nil_append];exact HM.sb⟩
  · have em : max x.dp b = x.dp:=by omega
    by_cases c1 : b = x.ballot
    · have e : followL x b = { x with heard:=0 }:=by rw [followL,if_pos c1,em]
      repeat (first|refine Y ?_|(refine qs ?_;clear HM;intro W1 HM)|(refine qg ?_;clear HM;intro g W1 HM))
      rw [e]
      exact ret_cell HM rfl rfl rfl ⟨i,rfl,by simp only [partRcd,List.cons_append,List.nil_append];exact HM.sb⟩
    · have e : followL x b = { calmL x with heard:=0 }:=by rw [followL,if_neg c1,em]
      repeat (first|refine Y ?_|(refine qs ?_;clear HM;intro W1 HM)|(refine qf ?_;go_at_call 31;refine (calmS x i (by exact pk_rec HM)).mono ?_;rintro e W1 ⟨j,rfl,HM1⟩;refine ⟨_,rfl,?_⟩;replace HM:=HM1;clear HM1;simp only [calmL,partRcd,List.cons_append,List.nil_append] at HM;simp only [calmL,encRcd])|(refine qg ?_;clear HM;intro g W1 HM))
      rw [e]
      exact ret_cell HM rfl rfl rfl ⟨j,rfl,by simp only [calmL,partRcd,List.cons_append,List.nil_append];exact HM.sb⟩
theorem refuseM (x : Rcd) (i : AtRcd) (g : Nat) (to : Int) (HM : Mem w0 W (boxR 91 40 9 3 66 31 g x i ++ L)) : Calls Tryz.prog 92 #[.pointer (some ⟨g,0,none⟩),.int .i64 to] W fun e W'=>∃ j,e = .returned (.tuple #[]) ∧ Mem w0 W' (boxR 91 40 9 3 66 31 g (holdL x ⟨9,0,to,x.dp,0,0,⟨#[]⟩,[]⟩) j ++ L):=by
  refine enter Tryz.func92 rfl Tryz.ntmps92 [(0,_),(1,_)] rfl ⟨rfl,rfl,trivial⟩ ?_
  simp only [boxR,partRcd,List.cons_append,List.nil_append] at HM
  repeat (first|refine Y ?_|(refine qf ?_;go_at_call 78;have HM2:=HM.nil tSlot 91;refine (holdM x i g ⟨9,0,to,x.dp,0,0,⟨#[]⟩,[]⟩ (none,0) (by exact pk_hold HM2)).mono ?_;clear HM2;rintro e W1 ⟨j,rfl,HM1⟩;refine ⟨_,rfl,?_⟩;replace HM:=HM1;clear HM1))
  exact end_none rfl ⟨j,rfl,HM⟩
end Go.Proofs.YtampmicahnnebaaGreat.Sp
