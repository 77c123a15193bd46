/- What makes a recorder valid, part by part: both sides say the same. No condition. -/
import Derived.Test.YtampmicahnnebaaGreatRecClaim1
import Derived.Test.YtampmicahnnebaaGreatRecClaim2
set_option linter.unusedVariables false
set_option linter.unusedSimpArgs false
namespace Go.Proofs.YtampmicahnnebaaGreat.Sp
open Go Go.RowKit
set_option maxRecDepth 10000
set_option maxHeartbeats 4000000
def slotB (x : Slot) : Bool:=decide (0 ≤ x.ballot ∧ x.ballot ≤ 1000000) && !decide ((100 : Int) < x.text.size) && !(decide (x.ballot = 0) && !decide (x.text = ⟨#[]⟩))
def slotsB (xs : List Slot) : Bool:=decide ((xs.length : Int) ≤ 60) && allN (fun j=>slotB (rdR (rSlot false) xs j)) xs.length
def numB (xs : List Int) (o : Int) (j : Nat) : Bool:=decide (1 ≤ rdR rInt xs j ∧ rdR rInt xs j ≤ o) && !(decide (0 < j) && decide (rdR rInt xs j ≤ rdR rInt xs ((j : Int) - 1)))
def numbersB (xs : List Int) (o : Int) : Bool:=allN (numB xs o) xs.length
def diskB (p k : Int) (xs : List Slot) : Bool:=decide (0 ≤ p ∧ p ≤ 1000000) && slotsB xs && decide (0 ≤ k ∧ k ≤ xs.length) && allN (fun j=>!decide (p < (rdR (rSlot false) xs j).ballot) && !(decide ((j : Int) < k) && decide ((rdR (rSlot false) xs j).ballot = 0))) xs.length
def msgB (x : Msg) (o : Int) : Bool:=decide (1 ≤ x.kind ∧ x.kind ≤ 9) && decide (1 ≤ x.frm ∧ x.frm ≤ o) && decide (1 ≤ x.to ∧ x.to ≤ o) && decide (0 ≤ x.ballot ∧ x.ballot ≤ 1000000) && decide (0 ≤ x.index ∧ x.index ≤ 60) && decide (0 ≤ x.known ∧ x.known ≤ 60) && decide ((x.text.size : Int) ≤ 100) && slotsB x.slots
def newB (xs : List ByteArray) (n : Nat) (s : ByteArray) : Bool:=allN (fun k=>!decide (rdR (rStr false) xs k = s)) n
def wishB (xs : List ByteArray) (j : Nat) : Bool:=decide (1 ≤ ((rdR (rStr false) xs j).size : Int) ∧ ((rdR (rStr false) xs j).size : Int) ≤ 100) && newB xs j (rdR (rStr false) xs j)
def wishesB (xs : List ByteArray) : Bool:=decide ((xs.length : Int) ≤ 20) && allN (wishB xs) xs.length
def ackB (xs : List Ack) (o : Int) (j : Nat) : Bool:=decide (1 ≤ (rdR rAck xs j).index ∧ (rdR rAck xs j).index ≤ 60) && numbersB (rdR rAck xs j).frm o && !(decide (0 < j) && decide ((rdR rAck xs j).index ≤ (rdR rAck xs ((j : Int) - 1)).index))
def acksB (xs : List Ack) (o : Int) : Bool:=allN (ackB xs o) xs.length
variable {w0 W : World} {L : List Asn} {A : Option Addr} {c : Nat}
theorem l1In_c (a lo hi : Int) (W : World) : Calls Tryz.prog 39 #[.int .i64 a,.int .i64 lo,.int .i64 hi] W fun e W'=>e = .returned (.bool (decide (lo ≤ a ∧ a ≤ hi))) ∧ W' = W:=by
  refine enter Tryz.func39 rfl Tryz.ntmps39 [(0,_),(1,_),(2,_)] rfl ⟨rfl,rfl,rfl,trivial⟩ ?_
  have HM:=Mem.start W
  by_cases h : lo ≤ a
  all_goals
    repeat refine Y ?_
    refine ret_tmp rfl rfl ⟨?_,rfl⟩
    simp [h]
theorem within_c (a lo hi : Int) (W : World) : Calls Tryz.prog 47 #[.int .i64 a,.int .i64 lo,.int .i64 hi] W fun e W'=>e = .returned (.bool (decide (lo ≤ a ∧ a ≤ hi))) ∧ W' = W:=by
  refine enter Tryz.func47 rfl Tryz.ntmps47 [(0,_),(1,_),(2,_)] rfl ⟨rfl,rfl,rfl,trivial⟩ ?_
  have HM:=Mem.start W
  by_cases h : lo ≤ a
  all_goals
    repeat refine Y ?_
    refine ret_tmp rfl rfl ⟨?_,rfl⟩
    simp [h]
theorem specSlots {xs : List Slot} (h : RoRow (rSlot false) w0 A xs) (HM : Mem w0 W L) : Calls Tryz.prog 44 #[.slice A xs.length c] W fun e W'=>e = .returned (.bool (slotsB xs)) ∧ Mem w0 W' L:=by
  refine enter Tryz.func44 rfl Tryz.ntmps44 [(0,_)] rfl ⟨rfl,trivial⟩ ?_
  have hmax:=h.max
  replace HM:=HM.pur h
  by_cases hn : (60 : Int) < xs.length
  · repeat refine Y ?_
    exact ret_tmp rfl rfl ⟨by rw [slotsB,show decide ((xs.length : Int) ≤ 60) = false by simp;omega];rfl,HM.sb⟩
  · repeat refine Y ?_
    refine c_loop (σ:=Nat) (fun i=>[(0,.slice A xs.length c),(3,.int .i64 i)]) (fun i W1=>i ≤ xs.length ∧ allN (fun j=>slotB (rdR (rSlot false) xs j)) i = true ∧ Mem w0 W1 (ro (rSlot false) w0 A xs :: L)) (fun i=>xs.length - i) 0 U ⟨Nat.zero_le _,allN_zero,HM⟩ ?_
    clear HM
    rintro i W1 ⟨hi,hp,HM⟩
    by_cases hlt : i < xs.length
    · have e0:=rdR_at (D:=rSlot false) hlt
      repeat' (first|refine Y ?_|(refine qf ?_;go_at_call 39;refine (l1In_c _ _ _ _).mono ?_;rintro e W1 ⟨rfl,rfl⟩;refine ⟨_,rfl,?_⟩)|(refine gL ?_;refine s_split rfl rfl rfl rfl (fun h=>?_) (fun h=>?_))|refine c_cond rfl (fun h=>?_) (fun h=>?_))
      all_goals first
        | exact n_round (i + 1) U ⟨by omega,allN_succ hp (by first|(simp_all [slotB];done)|(simp_all [slotB];intros;omega)),HM.sb⟩ (by omega)
        | exact ret_tmp rfl rfl ⟨by rw [slotsB,allN_fail hlt (by first|(simp_all [slotB];done)|(simp_all [slotB];intros;omega))];simp,HM.sb⟩
    · repeat refine Y ?_
      obtain rfl : i = xs.length:=by omega
      exact ret_tmp rfl rfl ⟨by rw [slotsB,hp];simp;omega,HM.sb⟩
theorem implSlots {xs : List Slot} (h : RoRow (rSlot false) w0 A xs) (HM : Mem w0 W L) : Calls Tryz.prog 50 #[.slice A xs.length c] W fun e W'=>e = .returned (.bool (slotsB xs)) ∧ Mem w0 W' L:=by
  refine enter Tryz.func50 rfl Tryz.ntmps50 [(0,_)] rfl ⟨rfl,trivial⟩ ?_
  have hmax:=h.max
  replace HM:=HM.pur h
  by_cases hn : (60 : Int) < xs.length
  · repeat refine Y ?_
    exact ret_tmp rfl rfl ⟨by rw [slotsB,show decide ((xs.length : Int) ≤ 60) = false by simp;omega];rfl,HM.sb⟩
  · repeat refine Y ?_
    refine c_loop (σ:=Nat) (fun i=>[(0,.slice A xs.length c),(8,.slice A xs.length c),(9,.int .i64 xs.length),(10,.int .i64 i)]) (fun i W1=>i ≤ xs.length ∧ allN (fun j=>slotB (rdR (rSlot false) xs j)) i = true ∧ Mem w0 W1 (ro (rSlot false) w0 A xs :: L)) (fun i=>xs.length - i) 0 U ⟨Nat.zero_le _,allN_zero,HM⟩ ?_
    clear HM
    rintro i W1 ⟨hi,hp,HM⟩
    by_cases hlt : i < xs.length
    · have e0:=rdR_at (D:=rSlot false) hlt
      obtain ⟨cc,⟨j,rfl,hs⟩,HM⟩:=HM.roOpen (A:=A) i hlt
      unfold encSlot at HM
      repeat' (first|refine Y ?_|(refine qs ?_;clear HM;intro W1 HM)|(refine qf ?_;go_at_call 47;refine (within_c _ _ _ _).mono ?_;rintro e W1 ⟨rfl,rfl⟩;refine ⟨_,rfl,?_⟩)|(refine qg ?_;clear HM;intro g W1 HM)|(refine gL ?_;refine s_split rfl rfl rfl rfl (fun h=>?_) (fun h=>?_))|refine c_cond rfl (fun h=>?_) (fun h=>?_))
      all_goals first
        | exact n_round (i + 1) U ⟨by omega,allN_succ hp (by first|(simp_all [slotB];done)|(simp_all [slotB];intros;omega)),HM.sb⟩ (by omega)
        | exact ret_tmp rfl rfl ⟨by rw [slotsB,allN_fail hlt (by first|(simp_all [slotB];done)|(simp_all [slotB];intros;omega))];simp,HM.sb⟩
    · repeat refine Y ?_
      obtain rfl : i = xs.length:=by omega
      exact ret_tmp rfl rfl ⟨by rw [slotsB,hp];simp;omega,HM.sb⟩
theorem specNumbers {xs : List Int} (o : Int) (h : RoRow rInt w0 A xs) (HM : Mem w0 W L) : Calls Tryz.prog 43 #[.slice A xs.length c,.int .i64 o] W fun e W'=>e = .returned (.bool (numbersB xs o)) ∧ Mem w0 W' L:=by
  refine enter Tryz.func43 rfl Tryz.ntmps43 [(0,_),(1,_)] rfl ⟨rfl,rfl,trivial⟩ ?_
  have hmax:=h.max
  replace HM:=HM.pur h
  repeat refine Y ?_
  refine c_loop (σ:=Nat) (fun i=>[(0,.slice A xs.length c),(1,.int .i64 o),(5,.int .i64 i)]) (fun i W1=>i ≤ xs.length ∧ allN (numB xs o) i = true ∧ Mem w0 W1 (ro rInt w0 A xs :: L)) (fun i=>xs.length - i) 0 U ⟨Nat.zero_le _,allN_zero,HM⟩ ?_
  clear HM
  rintro i W1 ⟨hi,hp,HM⟩
  by_cases hlt : i < xs.length
  · by_cases h0 : 0 < i
    all_goals
      repeat' (first|(refine gR ?_;refine d_start [] [(0,0),(0,1),(0,2),(0,4),(1,3),(2,5),(0,6),(0,7),(0,8),(0,9),(0,10),(0,11),(0,12),(0,13),(0,14),(0,16),(0,17),(0,18),(1,15),(1,19),(0,20),(0,21),(0,22)] HM (by kernel_rfl) (by kernel_rfl) qq (by kernel_rfl) rfl ?_;intro HQ HS W1 HM1;replace HM:=HM1;clear HM1)|refine Y ?_|(refine qf ?_;go_at_call 39;refine (l1In_c _ _ _ _).mono ?_;rintro e W1 ⟨rfl,rfl⟩;refine ⟨_,rfl,?_⟩)|(refine gO ?_;refine d_split rfl rfl rfl rfl (fun h=>?_) (fun h=>?_))|refine c_cond rfl (fun h=>?_) (fun h=>?_))
    all_goals first
      | exact n_round (i + 1) U ⟨by omega,allN_succ hp (by first|(simp_all [numB];done)|(simp_all [numB];intros;omega)),HM.sb⟩ (by omega)
      | exact ret_tmp rfl rfl ⟨by rw [numbersB,allN_fail hlt (by first|(simp_all [numB];done)|(simp_all [numB];intros;omega))],HM.sb⟩
  · repeat refine Y ?_
    obtain rfl : i = xs.length:=by omega
    exact ret_tmp rfl rfl ⟨by rw [numbersB,hp],HM.sb⟩
theorem implNumbers {xs : List Int} (o : Int) (h : RoRow rInt w0 A xs) (HM : Mem w0 W L) : Calls Tryz.prog 49 #[.slice A xs.length c,.int .i64 o] W fun e W'=>e = .returned (.bool (numbersB xs o)) ∧ Mem w0 W' L:=by
  refine enter Tryz.func49 rfl Tryz.ntmps49 [(0,_),(1,_)] rfl ⟨rfl,rfl,trivial⟩ ?_
  have hmax:=h.max
  replace HM:=HM.pur h
  repeat refine Y ?_
  refine c_loop (σ:=Nat) (fun i=>[(0,.slice A xs.length c),(1,.int .i64 o),(7,.slice A xs.length c),(8,.int .i64 xs.length),(9,.int .i64 i)]) (fun i W1=>i ≤ xs.length ∧ allN (numB xs o) i = true ∧ Mem w0 W1 (ro rInt w0 A xs :: L)) (fun i=>xs.length - i) 0 U ⟨Nat.zero_le _,allN_zero,HM⟩ ?_
  clear HM
  rintro i W1 ⟨hi,hp,HM⟩
  by_cases hlt : i < xs.length
  · by_cases h0 : 0 < i
    all_goals
      repeat' (first|refine Y ?_|(refine qf ?_;go_at_call 47;refine (within_c _ _ _ _).mono ?_;rintro e W1 ⟨rfl,rfl⟩;refine ⟨_,rfl,?_⟩)|(refine gL ?_;refine s_split rfl rfl rfl rfl (fun h=>?_) (fun h=>?_))|refine c_cond rfl (fun h=>?_) (fun h=>?_))
    all_goals first
      | exact n_round (i + 1) U ⟨by omega,allN_succ hp (by first|(simp_all [numB];done)|(simp_all [numB];intros;omega)),HM.sb⟩ (by omega)
      | exact ret_tmp rfl rfl ⟨by rw [numbersB,allN_fail hlt (by first|(simp_all [numB];done)|(simp_all [numB];intros;omega))],HM.sb⟩
  · repeat refine Y ?_
    obtain rfl : i = xs.length:=by omega
    exact ret_tmp rfl rfl ⟨by rw [numbersB,hp],HM.sb⟩
theorem specDisk (p k : Int) {xs : List Slot} (h : RoRow (rSlot false) w0 A xs) (HM : Mem w0 W L) : Calls Tryz.prog 40 #[.agg #[.int .i64 p,.int .i64 k,.slice A xs.length c]] W fun e W'=>e = .returned (.bool (diskB p k xs)) ∧ Mem w0 W' L:=by
  refine enter Tryz.func40 rfl Tryz.ntmps40 [(0,.agg #[.int .i64 p,.int .i64 k,.slice A xs.length c])] rfl ⟨rfl,trivial⟩ ?_
  have h0:=h
  have hmax:=h.max
  replace HM:=HM.pur h
  by_cases h1 : 0 ≤ p ∧ p ≤ 1000000
  rotate_left
  · repeat (first|refine Y ?_|(refine qf ?_;go_at_call 39;refine (l1In_c _ _ _ _).mono ?_;rintro e W1 ⟨rfl,rfl⟩;refine ⟨_,rfl,?_⟩)|(refine qg ?_;clear HM;intro g W1 HM))
    exact ret_tmp rfl rfl ⟨by rw [diskB,decide_eq_false h1];simp,HM.sb⟩
  by_cases hs : slotsB xs = true
  rotate_left
  · simp only [Bool.not_eq_true] at hs
    repeat (first|refine Y ?_|(refine qf ?_;first|(go_at_call 39;refine (l1In_c _ _ _ _).mono ?_;rintro e W1 ⟨rfl,rfl⟩;refine ⟨_,rfl,?_⟩)|(go_at_call 44;refine (specSlots h0 HM).mono ?_;rintro e W1 ⟨rfl,HM1⟩;refine ⟨_,rfl,?_⟩;replace HM:=HM1;clear HM1))|(refine qg ?_;clear HM;intro g W1 HM))
    exact ret_tmp rfl rfl ⟨by rw [diskB,hs];simp,HM.sb⟩
  by_cases h2 : 0 ≤ k ∧ k ≤ xs.length
  rotate_left
  · repeat (first|refine Y ?_|(refine qf ?_;first|(go_at_call 39;refine (l1In_c _ _ _ _).mono ?_;rintro e W1 ⟨rfl,rfl⟩;refine ⟨_,rfl,?_⟩)|(go_at_call 44;refine (specSlots h0 HM).mono ?_;rintro e W1 ⟨rfl,HM1⟩;refine ⟨_,rfl,?_⟩;replace HM:=HM1;clear HM1))|(refine qg ?_;clear HM;intro g W1 HM))
    exact ret_tmp rfl rfl ⟨by rw [diskB,decide_eq_false h2];simp,HM.sb⟩
  · repeat (first|refine Y ?_|(refine qf ?_;first|(go_at_call 39;refine (l1In_c _ _ _ _).mono ?_;rintro e W1 ⟨rfl,rfl⟩;refine ⟨_,rfl,?_⟩)|(go_at_call 44;refine (specSlots h0 HM).mono ?_;rintro e W1 ⟨rfl,HM1⟩;refine ⟨_,rfl,?_⟩;replace HM:=HM1;clear HM1))|(refine qg ?_;clear HM;intro g W1 HM))
    refine c_loop (σ:=Nat) (fun i=>[(1,.pointer (some ⟨g,0,none⟩)),(3,.int .i64 i)]) (fun i W1=>i ≤ xs.length ∧ allN (fun j=>!decide (p < (rdR (rSlot false) xs j).ballot) && !(decide ((j : Int) < k) && decide ((rdR (rSlot false) xs j).ballot = 0))) i = true ∧ Mem w0 W1 (box g 25 [.int .i64 p,.int .i64 k,.slice A xs.length c] :: ro (rSlot false) w0 A xs :: L)) (fun i=>xs.length - i) 0 U ⟨Nat.zero_le _,allN_zero,HM⟩ ?_
    clear HM
    rintro i W1 ⟨hi,hp,HM⟩
    by_cases hlt : i < xs.length
    · have e0:=rdR_at (D:=rSlot false) hlt
      repeat' (first|(refine gR ?_;refine d_start [] [(0,0),(0,2),(0,6),(1,1),(0,3),(0,4),(1,5),(1,7),(0,8),(0,9),(0,10),(0,11),(1,12),(0,13),(0,14),(0,15),(0,17),(1,16),(0,18),(0,19),(1,20),(0,21),(0,22),(0,23)] HM (by kernel_rfl) (by kernel_rfl) qq (by kernel_rfl) rfl ?_;intro HQ HS W1 HM1;replace HM:=HM1;clear HM1)|refine Y ?_|(refine gO ?_;refine d_split rfl rfl rfl rfl (fun h=>?_) (fun h=>?_))|refine c_cond rfl (fun h=>?_) (fun h=>?_))
      all_goals first
        | exact n_round (i + 1) U ⟨by omega,allN_succ hp (by first|(simp_all [diskB];done)|(simp_all [diskB];intros;omega)),HM.sb⟩ (by omega)
        | exact ret_tmp rfl rfl ⟨by rw [diskB,allN_fail hlt (by first|(simp_all [diskB];done)|(simp_all [diskB];intros;omega))];simp,HM.sb⟩
    · repeat refine Y ?_
      obtain rfl : i = xs.length:=by omega
      exact ret_tmp rfl rfl ⟨by rw [diskB,hp,hs];simp;omega,HM.sb⟩
theorem implDisk (p k : Int) {xs : List Slot} (h : RoRow (rSlot false) w0 A xs) (HM : Mem w0 W L) : Calls Tryz.prog 48 #[.agg #[.int .i64 p,.int .i64 k,.slice A xs.length c]] W fun e W'=>e = .returned (.bool (diskB p k xs)) ∧ Mem w0 W' L:=by
  refine enter Tryz.func48 rfl Tryz.ntmps48 [(0,.agg #[.int .i64 p,.int .i64 k,.slice A xs.length c])] rfl ⟨rfl,trivial⟩ ?_
  have h0:=h
  have hmax:=h.max
  replace HM:=HM.pur h
  by_cases h1 : 0 ≤ p ∧ p ≤ 1000000
  rotate_left
  · repeat (first|refine Y ?_|(refine qf ?_;go_at_call 47;refine (within_c _ _ _ _).mono ?_;rintro e W1 ⟨rfl,rfl⟩;refine ⟨_,rfl,?_⟩)|(refine qg ?_;clear HM;intro g W1 HM))
    exact ret_tmp rfl rfl ⟨by rw [diskB,decide_eq_false h1];simp,HM.sb⟩
  by_cases hs : slotsB xs = true
  rotate_left
  · simp only [Bool.not_eq_true] at hs
    repeat (first|refine Y ?_|(refine qf ?_;first|(go_at_call 47;refine (within_c _ _ _ _).mono ?_;rintro e W1 ⟨rfl,rfl⟩;refine ⟨_,rfl,?_⟩)|(go_at_call 50;refine (implSlots h0 HM).mono ?_;rintro e W1 ⟨rfl,HM1⟩;refine ⟨_,rfl,?_⟩;replace HM:=HM1;clear HM1))|(refine qg ?_;clear HM;intro g W1 HM))
    exact ret_tmp rfl rfl ⟨by rw [diskB,hs];simp,HM.sb⟩
  by_cases h2 : 0 ≤ k ∧ k ≤ xs.length
  rotate_left
  · repeat (first|refine Y ?_|(refine qf ?_;first|(go_at_call 47;refine (within_c _ _ _ _).mono ?_;rintro e W1 ⟨rfl,rfl⟩;refine ⟨_,rfl,?_⟩)|(go_at_call 50;refine (implSlots h0 HM).mono ?_;rintro e W1 ⟨rfl,HM1⟩;refine ⟨_,rfl,?_⟩;replace HM:=HM1;clear HM1))|(refine qg ?_;clear HM;intro g W1 HM))
    exact ret_tmp rfl rfl ⟨by rw [diskB,decide_eq_false h2];simp,HM.sb⟩
  · repeat (first|refine Y ?_|(refine qf ?_;first|(go_at_call 47;refine (within_c _ _ _ _).mono ?_;rintro e W1 ⟨rfl,rfl⟩;refine ⟨_,rfl,?_⟩)|(go_at_call 50;refine (implSlots h0 HM).mono ?_;rintro e W1 ⟨rfl,HM1⟩;refine ⟨_,rfl,?_⟩;replace HM:=HM1;clear HM1))|(refine qg ?_;clear HM;intro g W1 HM))
    refine c_loop (σ:=Nat) (fun i=>[(1,.pointer (some ⟨g,0,none⟩)),(25,.slice A xs.length c),(26,.int .i64 xs.length),(27,.int .i64 i)]) (fun i W1=>i ≤ xs.length ∧ allN (fun j=>!decide (p < (rdR (rSlot false) xs j).ballot) && !(decide ((j : Int) < k) && decide ((rdR (rSlot false) xs j).ballot = 0))) i = true ∧ Mem w0 W1 (box g 25 [.int .i64 p,.int .i64 k,.slice A xs.length c] :: ro (rSlot false) w0 A xs :: L)) (fun i=>xs.length - i) 0 U ⟨Nat.zero_le _,allN_zero,HM⟩ ?_
    clear HM
    rintro i W1 ⟨hi,hp,HM⟩
    by_cases hlt : i < xs.length
    · have e0:=rdR_at (D:=rSlot false) hlt
      obtain ⟨cc,⟨j,rfl,hs⟩,HM⟩:=HM.roOpen (A:=A) i hlt
      unfold encSlot at HM
      repeat' (first|refine Y ?_|(refine qs ?_;clear HM;intro W1 HM)|(refine qg ?_;clear HM;intro g W1 HM)|(refine gL ?_;refine s_split rfl rfl rfl rfl (fun h=>?_) (fun h=>?_))|refine c_cond rfl (fun h=>?_) (fun h=>?_))
      all_goals first
        | exact n_round (i + 1) U ⟨by omega,allN_succ hp (by first|(simp_all [diskB];done)|(simp_all [diskB];intros;omega)),HM.sb⟩ (by omega)
        | exact ret_tmp rfl rfl ⟨by rw [diskB,allN_fail hlt (by first|(simp_all [diskB];done)|(simp_all [diskB];intros;omega))];simp,HM.sb⟩
    · repeat refine Y ?_
      obtain rfl : i = xs.length:=by omega
      exact ret_tmp rfl rfl ⟨by rw [diskB,hp,hs];simp;omega,HM.sb⟩
theorem specMsg (x : Msg) (i : At) (o : Int) (h : RoRow (rSlot false) w0 i.1 x.slots) (HM : Mem w0 W L) : Calls Tryz.prog 42 #[.agg (encMsg x i).toArray,.int .i64 o] W fun e W'=>e = .returned (.bool (msgB x o)) ∧ Mem w0 W' L:=by
  refine enter Tryz.func42 rfl Tryz.ntmps42 [(0,.agg (encMsg x i).toArray),(1,_)] rfl ⟨rfl,rfl,trivial⟩ ?_
  have h0:=h
  unfold encMsg
  repeat' (first|refine Y ?_|(refine qf ?_;first|(go_at_call 39;refine (l1In_c _ _ _ _).mono ?_;rintro e W1 ⟨rfl,rfl⟩;refine ⟨_,rfl,?_⟩)|(go_at_call 44;refine (specSlots h0 HM).mono ?_;rintro e W1 ⟨rfl,HM1⟩;refine ⟨_,rfl,?_⟩;replace HM:=HM1;clear HM1))|(refine qg ?_;clear HM;intro g W1 HM)|(refine gL ?_;refine s_split rfl rfl rfl rfl (fun h=>?_) (fun h=>?_)))
  all_goals exact ret_tmp rfl rfl ⟨(by first|(simp_all [msgB];done)|(simp_all [msgB];intros;omega)),HM.sb⟩
theorem implMsg (x : Msg) (i : At) (o : Int) (h : RoRow (rSlot false) w0 i.1 x.slots) (HM : Mem w0 W L) : Calls Tryz.prog 11 #[.agg (encMsg x i).toArray,.int .i64 o] W fun e W'=>e = .returned (.bool (msgB x o)) ∧ Mem w0 W' L:=by
  refine enter Tryz.func11 rfl Tryz.ntmps11 [(0,.agg (encMsg x i).toArray),(1,_)] rfl ⟨rfl,rfl,trivial⟩ ?_
  have h0:=h
  unfold encMsg
  repeat' (first|refine Y ?_|(refine qf ?_;first|(go_at_call 47;refine (within_c _ _ _ _).mono ?_;rintro e W1 ⟨rfl,rfl⟩;refine ⟨_,rfl,?_⟩)|(go_at_call 50;refine (implSlots h0 HM).mono ?_;rintro e W1 ⟨rfl,HM1⟩;refine ⟨_,rfl,?_⟩;replace HM:=HM1;clear HM1))|(refine qg ?_;clear HM;intro g W1 HM)|(refine gL ?_;refine s_split rfl rfl rfl rfl (fun h=>?_) (fun h=>?_)))
  all_goals exact ret_tmp rfl rfl ⟨(by first|(simp_all [msgB];done)|(simp_all [msgB];intros;omega)),HM.sb⟩
end Go.Proofs.YtampmicahnnebaaGreat.Sp
namespace Go.Proofs.YtampmicahnnebaaGreat.Sp
open Go Go.RowKit
set_option maxRecDepth 10000
set_option maxHeartbeats 4000000
variable {w0 W : World} {L : List Asn} {A : Option Addr} {c : Nat}
theorem idx_c {xs : List ByteArray} {l : Nat} (hl : l = xs.length) (s : ByteArray) (h : RoRow (rStr false) w0 A xs) (HM : Mem w0 W L) : Calls Tryz.prog 84 #[.slice A l c,.string s] W fun e W'=>∃ r,e = .returned (.int .i64 r) ∧ decide (0 ≤ r) = !newB xs xs.length s ∧ Mem w0 W' L:=by
  subst hl
  refine enter Tryz.func84 rfl Tryz.ntmps84 [(0,_),(1,_)] rfl ⟨rfl,rfl,trivial⟩ ?_
  have hmax:=h.max
  replace HM:=HM.pur h
  repeat refine Y ?_
  refine c_loop (σ:=Nat) (fun i=>[(0,.slice A xs.length c),(1,.string s),(6,.slice A xs.length c),(7,.int .i64 xs.length),(8,.int .i64 i)]) (fun i W1=>i ≤ xs.length ∧ newB xs i s = true ∧ Mem w0 W1 (ro (rStr false) w0 A xs :: L)) (fun i=>xs.length - i) 0 U ⟨Nat.zero_le _,allN_zero,HM⟩ ?_
  clear HM
  rintro i W1 ⟨hi,hp,HM⟩
  by_cases hlt : i < xs.length
  · by_cases he : s = rdR (rStr false) xs i
    · repeat refine Y ?_
      exact ret_tmp rfl rfl ⟨_,rfl,by rw [newB,allN_fail hlt (by simp [← he])];simp,HM.sb⟩
    · repeat refine Y ?_
      exact n_round (i + 1) U ⟨by omega,allN_succ hp (by simp only [Bool.not_eq_true',decide_eq_false_iff_not];exact fun e=>he e.symm),HM.sb⟩ (by omega)
  · repeat refine Y ?_
    obtain rfl : i = xs.length:=by omega
    exact ret_tmp rfl rfl ⟨_,rfl,by rw [hp];rfl,HM.sb⟩
theorem has_c {xs : List ByteArray} {l : Nat} (hl : l = xs.length) (s : ByteArray) (h : RoRow (rStr false) w0 A xs) (HM : Mem w0 W L) : Calls Tryz.prog 51 #[.slice A l c,.string s] W fun e W'=>e = .returned (.bool (!newB xs xs.length s)) ∧ Mem w0 W' L:=by
  refine enter Tryz.func51 rfl Tryz.ntmps51 [(0,_),(1,_)] rfl ⟨rfl,rfl,trivial⟩ ?_
  repeat (first|refine Y ?_|(refine qf ?_;go_at_call 84;refine (idx_c hl s h HM).mono ?_;rintro e W1 ⟨r,rfl,hr,HM1⟩;refine ⟨_,rfl,?_⟩;replace HM:=HM1;clear HM1))
  exact ret_tmp rfl rfl ⟨by rw [hr],HM.sb⟩
theorem specWishes {xs : List ByteArray} (h : RoRow (rStr false) w0 A xs) (HM : Mem w0 W L) : Calls Tryz.prog 41 #[.slice A xs.length c] W fun e W'=>e = .returned (.bool (wishesB xs)) ∧ Mem w0 W' L:=by
  refine enter Tryz.func41 rfl Tryz.ntmps41 [(0,_)] rfl ⟨rfl,trivial⟩ ?_
  have hmax:=h.max
  replace HM:=HM.pur h
  by_cases hn : (20 : Int) < xs.length
  · repeat refine Y ?_
    exact ret_tmp rfl rfl ⟨by rw [wishesB,show decide ((xs.length : Int) ≤ 20) = false by simp;omega];rfl,HM.sb⟩
  · repeat refine Y ?_
    refine c_loop (σ:=Nat) (fun i=>[(0,.slice A xs.length c),(3,.int .i64 i)]) (fun i W1=>i ≤ xs.length ∧ allN (wishB xs) i = true ∧ Mem w0 W1 (ro (rStr false) w0 A xs :: L)) (fun i=>xs.length - i) 0 U ⟨Nat.zero_le _,allN_zero,HM⟩ ?_
    clear HM
    rintro i W1 ⟨hi,hp,HM⟩
    by_cases hlt : i < xs.length
    · by_cases hs : 1 ≤ ((rdR (rStr false) xs i).size : Int) ∧ ((rdR (rStr false) xs i).size : Int) ≤ 100
      · repeat refine Y ?_
        refine c_loop (σ:=Nat) (fun k=>[(0,.slice A xs.length c),(3,.int .i64 i),(4,.int .i64 k)]) (fun k W1=>k ≤ i ∧ newB xs k (rdR (rStr false) xs i) = true ∧ Mem w0 W1 (ro (rStr false) w0 A xs :: L)) (fun k=>i - k) 0 U ⟨Nat.zero_le _,allN_zero,HM⟩ ?_
        clear HM
        rintro k W2 ⟨hk,hq,HM⟩
        by_cases hlk : k < i
        · by_cases he : rdR (rStr false) xs k = rdR (rStr false) xs i
          · repeat (first|(refine gR ?_;refine d_start [] [(0,0),(0,1),(0,2),(0,4),(0,5),(0,6),(1,3),(1,7),(0,8)] HM (by kernel_rfl) (by kernel_rfl) qq (by kernel_rfl) rfl ?_;intro HQ HS W1 HM1;replace HM:=HM1;clear HM1)|refine Y ?_)
            exact ret_tmp rfl rfl ⟨by rw [wishesB,allN_fail hlt (by rw [wishB,newB,allN_fail hlk (by simp [he])];simp)];simp,HM.sb⟩
          · repeat (first|(refine gR ?_;refine d_start [] [(0,0),(0,1),(0,2),(0,4),(0,5),(0,6),(1,3),(1,7),(0,8)] HM (by kernel_rfl) (by kernel_rfl) qq (by kernel_rfl) rfl ?_;intro HQ HS W1 HM1;replace HM:=HM1;clear HM1)|refine Y ?_)
            exact n_round (k + 1) U ⟨by omega,allN_succ hq (by simp [he]),HM.sb⟩ (by omega)
        · repeat refine Y ?_
          obtain rfl : k = i:=by omega
          exact n_round (k + 1) U ⟨by omega,allN_succ hp (by rw [wishB,hq,decide_eq_true hs];rfl),HM.sb⟩ (by omega)
      · by_cases h1 : ((rdR (rStr false) xs i).size : Int) < 1
        all_goals
          repeat refine Y ?_
          exact ret_tmp rfl rfl ⟨by rw [wishesB,allN_fail hlt (by rw [wishB,decide_eq_false hs];rfl)];simp,HM.sb⟩
    · repeat refine Y ?_
      obtain rfl : i = xs.length:=by omega
      exact ret_tmp rfl rfl ⟨by rw [wishesB,hp];simp;omega,HM.sb⟩
theorem specAcks {xs : List Ack} (o : Int) (h : RoRow rAck w0 A xs) (HM : Mem w0 W L) : Calls Tryz.prog 45 #[.slice A xs.length c,.int .i64 o] W fun e W'=>e = .returned (.bool (acksB xs o)) ∧ Mem w0 W' L:=by
  refine enter Tryz.func45 rfl Tryz.ntmps45 [(0,_),(1,_)] rfl ⟨rfl,rfl,trivial⟩ ?_
  have hmax:=h.max
  replace HM:=HM.pur h
  repeat refine Y ?_
  refine c_loop (σ:=Nat) (fun i=>[(0,.slice A xs.length c),(1,.int .i64 o),(5,.int .i64 i)]) (fun i W1=>i ≤ xs.length ∧ allN (ackB xs o) i = true ∧ Mem w0 W1 (ro rAck w0 A xs :: L)) (fun i=>xs.length - i) 0 U ⟨Nat.zero_le _,allN_zero,HM⟩ ?_
  clear HM
  rintro i W1 ⟨hi,hp,HM⟩
  by_cases hlt : i < xs.length
  · have e0:=rdR_at (D:=rAck) hlt
    obtain ⟨cc,⟨j,rfl,hs⟩,HM⟩:=HM.roOpen (A:=A) i hlt
    unfold encAck at HM
    by_cases h0 : 0 < i
    all_goals
      repeat' (first|(refine gR ?_;refine d_start [] [(0,0),(0,1),(0,2),(0,3),(1,4),(2,5),(0,6),(0,7),(0,8),(0,9),(0,10),(0,11),(0,13),(1,12),(2,14),(0,15),(0,16),(0,17),(0,18),(0,19),(0,20),(0,21),(0,22),(0,23),(0,24),(0,25),(0,27),(0,28),(0,29),(0,30),(1,26),(1,31),(0,32),(0,33),(0,34)] HM (by kernel_rfl) (by kernel_rfl) qq (by kernel_rfl) rfl ?_;intro HQ HS W1 HM1;replace HM:=HM1;clear HM1)|refine Y ?_|(refine qf ?_;first|(go_at_call 39;refine (l1In_c _ _ _ _).mono ?_;rintro e W1 ⟨rfl,rfl⟩;refine ⟨_,rfl,?_⟩)|(go_at_call 43;refine (specNumbers _ hs HM).mono ?_;rintro e W1 ⟨rfl,HM1⟩;refine ⟨_,rfl,?_⟩;replace HM:=HM1;clear HM1))|(refine gO ?_;refine d_split rfl rfl rfl rfl (fun h=>?_) (fun h=>?_))|refine c_cond rfl (fun h=>?_) (fun h=>?_))
    all_goals first
      | exact n_round (i + 1) U ⟨by omega,allN_succ hp (by first|(simp_all [ackB];done)|(simp_all [ackB];intros;omega)),HM.sb⟩ (by omega)
      | exact ret_tmp rfl rfl ⟨by rw [acksB,allN_fail hlt (by first|(simp_all [ackB];done)|(simp_all [ackB];intros;omega))],HM.sb⟩
  · repeat refine Y ?_
    obtain rfl : i = xs.length:=by omega
    exact ret_tmp rfl rfl ⟨by rw [acksB,hp],HM.sb⟩
end Go.Proofs.YtampmicahnnebaaGreat.Sp
namespace Go.Proofs.YtampmicahnnebaaGreat.Sp
open Go Go.RowKit
set_option maxRecDepth 10000
set_option maxHeartbeats 8000000
variable {w0 W : World} {L : List Asn} {A : Option Addr} {c : Nat}
def quietB (x : Rcd) : Bool:=!x.lead && !x.trying && decide (x.ballot = 0) && decide ((x.yes.length : Int) + x.best.length + x.acks.length = 0)
def headB (x : Rcd) : Bool:=decide (1 ≤ x.of ∧ x.of ≤ 5) && decide (1 ≤ x.number ∧ x.number ≤ x.of) && diskB x.sp x.sk x.ss && diskB x.dp x.dk x.ds && !decide ((400 : Int) < x.held.length) && wishesB x.wishes && decide (0 ≤ x.heard ∧ x.heard ≤ 1000000)
def heldB (x : Rcd) (n : Nat) : Bool:=allN (fun j=>msgB (rdR (rMsg false) x.held j) x.of && decide ((rdR (rMsg false) x.held j).frm = x.number)) n
def midB (x : Rcd) : Bool:=numbersB x.yes x.of && slotsB x.best && acksB x.acks x.of && !(x.lead && x.trying)
def leadB (x : Rcd) : Bool:=if x.lead || x.trying then decide (1 ≤ x.ballot ∧ x.ballot ≤ x.dp) && !(x.trying && decide ((0 : Int) < x.acks.length)) && !(x.lead && decide ((0 : Int) < (x.yes.length : Int) + x.best.length)) else quietB x
def upB (x : Rcd) : Bool:=x.up || (quietB x && decide ((x.held.length : Int) + x.wishes.length + x.heard = 0))
def validB (x : Rcd) : Bool:=headB x && heldB x x.held.length && midB x && leadB x && upB x
theorem specQuiet (x : Rcd) (i : AtRcd) (hn : SmallR x) (HM : Mem w0 W L) : Calls Tryz.prog 46 #[.agg (encRcd x i).toArray] W fun e W'=>e = .returned (.bool (quietB x)) ∧ Mem w0 W' L:=by
  refine enter Tryz.func46 rfl Tryz.ntmps46 [(0,.agg (encRcd x i).toArray)] rfl ⟨rfl,trivial⟩ ?_
  have s1:=hn.yes
  have s2:=hn.best
  have s3:=hn.acks
  unfold encRcd
  repeat' (first|(refine gGP ?_;first|refine gp (p_move rfl) ?_|refine gp (p_assign rfl) ?_|(refine gGB ?_;first|refine gp (p_eql rfl rfl) ?_|refine gp (p_add rfl rfl (by exact wr (by omega) (by omega))) ?_)|refine gp (p_field rfl (by simp only [Nat.reduceAdd];rfl)) ?_|refine gp (p_len rfl) ?_|refine gp (p_not rfl) ?_|refine gp (p_pick1 rfl (by assumption) rfl) ?_|refine gp (p_pick0 rfl (by first|rfl|assumption) rfl) ?_)|(refine gGV ?_;refine gv (p_load rfl) ?_)|(refine gL ?_;first|refine s_gp rfl rfl ?_|refine s_gv HM rfl ?_|(refine s_box HM rfl rfl ?_;clear HM;intro g W1 HM)|refine l_nil ?_|refine s_guard_on rfl rfl rfl rfl (by assumption) ?_|refine s_guard_off rfl rfl rfl rfl (by first|rfl|assumption) rfl rfl ?_|refine s_split rfl rfl rfl rfl (fun h=>?_) (fun h=>?_))|(refine gC ?_;first|refine c_seq ?_|refine c_region ?_|refine c_ret ?_)|(refine gN ?_;refine n_then ?_))
  all_goals exact ret_tmp rfl rfl ⟨by first|(simp_all [quietB];done)|(simp_all [quietB];intros;omega),HM.sb⟩
theorem specValid (x : Rcd) (i : AtRcd) (h : RoRcd false w0 x i) (hn : SmallR x) (HM : Mem w0 W L) : Calls Tryz.prog 9 #[.agg (encRcd x i).toArray] W fun e W'=>e = .returned (.bool (validB x)) ∧ Mem w0 W' L:=by
  refine enter Tryz.func9 rfl Tryz.ntmps9 [(0,.agg (encRcd x i).toArray)] rfl ⟨rfl,trivial⟩ ?_
  have s1:=hn.yes
  have s2:=hn.best
  have s3:=hn.acks
  have s4:=hn.held
  have s5:=hn.wishes
  have h0:=h
  unfold encRcd
  replace HM:=HM.pur h.held
  repeat' (first|(refine gGP ?_;first|refine gp (p_move rfl) ?_|refine gp (p_assign rfl) ?_|(refine gGB ?_;refine gp (p_gtr rfl rfl) ?_)|refine gp (p_field rfl (by simp only [Nat.reduceAdd];rfl)) ?_|refine gp (p_len rfl) ?_|refine gp (p_not rfl) ?_|refine gp (p_pick1 rfl (by first|rfl|assumption) rfl) ?_|refine gp (p_pick0 rfl (by assumption) rfl) ?_)|(refine gGV ?_;first|refine gv (p_load rfl) ?_|refine gv (p_loads rfl) ?_)|(refine gL ?_;first|refine s_gp rfl rfl ?_|refine s_gv HM rfl ?_|(refine gCall ?_;(refine s_fn rfl rfl ?_;first|(go_at_call 39;refine (l1In_c _ _ _ _).mono ?_;rintro e W1 ⟨rfl,rfl⟩;refine ⟨_,rfl,?_⟩)|(go_at_call 40;refine (specDisk _ _ (by first|with_reducible exact h0.ss|with_reducible exact h0.ds) HM).mono ?_;rintro e W1 ⟨rfl,HM1⟩;refine ⟨_,rfl,?_⟩;replace HM:=HM1;clear HM1)|(go_at_call 41;refine (specWishes h0.wishes HM).mono ?_;rintro e W1 ⟨rfl,HM1⟩;refine ⟨_,rfl,?_⟩;replace HM:=HM1;clear HM1)))|(refine s_box HM rfl rfl ?_;clear HM;intro g W1 HM)|refine l_nil ?_|refine s_guard_on rfl rfl rfl rfl (by assumption) ?_|refine s_guard_off rfl rfl rfl rfl (by first|rfl|assumption) rfl rfl ?_|refine s_split rfl rfl rfl rfl (fun h=>?_) (fun h=>?_))|(refine gC ?_;first|refine c_seq ?_|refine c_region ?_|refine c_block ?_|refine c_skip ?_|refine c_ret ?_|refine c_yes rfl (by rfl) ?_)|(refine gN ?_;first|refine n_then ?_|refine r_then ?_)|refine c_cond rfl (fun h=>?_) (fun h=>?_))
  all_goals try exact ret_tmp rfl rfl ⟨by rw [validB,show headB x = false by first|(simp_all [headB];done)|(simp_all [headB];intros;omega)];rfl,HM.sb⟩
  have hh : headB x = true:=by first|(simp_all [headB];done)|(simp_all [headB];intros;omega)
  have hb : 0 ≤ x.heard ∧ x.heard ≤ 1000000:=by first|(simp_all [headB];done)|(simp_all [headB];intros;omega)
  refine c_loop (σ:=Nat) (fun k=>[(1,.pointer (some ⟨g,0,none⟩)),(3,.int .i64 k)]) (fun k W1=>k ≤ x.held.length ∧ heldB x k = true ∧ Mem w0 W1 (box g 31 [.int .i64 x.number,.int .i64 x.of,.bool x.up,.int .i64 x.sp,.int .i64 x.sk,.slice i.a0.1 x.ss.length i.a0.2,.int .i64 x.dp,.int .i64 x.dk,.slice i.a1.1 x.ds.length i.a1.2,.slice i.a2.1 x.held.length i.a2.2,.slice i.a3.1 x.wishes.length i.a3.2,.bool x.lead,.bool x.trying,.int .i64 x.ballot,.slice i.a4.1 x.yes.length i.a4.2,.slice i.a5.1 x.best.length i.a5.2,.slice i.a6.1 x.acks.length i.a6.2,.int .i64 x.heard] :: ro (rMsg false) w0 i.a2.1 x.held :: L)) (fun k=>x.held.length - k) 0 (by repeat (first|exact trivial|refine And.intro (by first|rfl|exact look_int rfl (by omega)) ?_)) ⟨Nat.zero_le _,allN_zero,HM⟩ ?_
  clear HM
  rintro k W1 ⟨hk,hp,HM⟩
  by_cases hlt : k < x.held.length
  · have e0:=rdR_at (D:=rMsg false) hlt
    obtain ⟨cc,⟨j,rfl,_,hs⟩,HM⟩:=HM.roOpen (A:=i.a2.1) k hlt
    repeat' (first|(refine gR ?_;refine d_start [] [(0,0),(0,2),(0,5),(1,1),(0,3),(1,4),(1,6),(2,7),(0,8),(0,9),(0,10),(0,12),(0,16),(1,11),(0,13),(0,14),(1,15),(1,17),(0,18),(0,19)] HM (by kernel_rfl) (by kernel_rfl) (by repeat (first|exact qp_body|refine qp_then ?_|refine qp_block ?_)) (by kernel_rfl) rfl ?_;intro HQ HS W1 HM1;replace HM:=HM1;clear HM1)|(refine gGP ?_;first|refine gp (p_move rfl) ?_|refine gp (p_assign rfl) ?_|(refine gGB ?_;first|refine gp (p_lss rfl rfl) ?_|refine gp (p_neq rfl rfl) ?_|refine gp (p_add rfl rfl (by exact wr (by omega) (by omega))) ?_)|refine gp (p_field rfl (by simp only [Nat.reduceAdd];rfl)) ?_|refine gp (p_fieldo rfl (by simp only [Nat.reduceAdd];rfl)) ?_|refine gp (p_indexr HM rfl (by first|with_reducible rfl|omega) rfl (by omega) (by omega)) ?_|refine gp (p_len rfl) ?_|refine gp (p_not rfl) ?_|refine gp (p_pick1 rfl (by assumption) rfl) ?_|refine gp (p_pick0 rfl (by assumption) rfl) ?_)|(refine gGV ?_;first|refine gv (p_load rfl) ?_|refine gv (p_loadr rfl rfl (by omega) (by omega) rfl) ?_|refine gv (p_loadwr rfl rfl rfl) ?_)|(refine gL ?_;first|refine s_gp rfl rfl ?_|refine s_gv HM rfl ?_|(refine gCall ?_;(refine s_fn rfl rfl ?_;(go_at_call 42;refine (specMsg _ _ _ hs HM).mono ?_;rintro e W1 ⟨rfl,HM1⟩;refine ⟨_,rfl,?_⟩;replace HM:=HM1;clear HM1)))|refine l_nil ?_)|(refine gC ?_;first|refine c_seq ?_|refine c_region ?_|refine c_block ?_|refine c_skip ?_|refine c_ret ?_|refine c_yes rfl (by first|rfl|(simp;omega)) ?_)|(refine gN ?_;first|refine n_then ?_|refine n_block ?_|refine r_then ?_|refine r_block ?_|refine d_back (by exact HM) ?_)|(refine gD ?_;first|refine d_next rfl ?_|refine d_done ?_)|(refine gO ?_;first|refine d_gp HQ HS rfl ?_|refine d_gv HQ HS rfl ?_|refine d_one ?_|refine d_gpg HQ HS rfl rfl rfl (by first|rfl|assumption) rfl ?_|refine d_gvg HQ HS rfl rfl rfl (by first|rfl|assumption) rfl ?_|refine d_off (.inl rfl) HQ HS rfl rfl rfl rfl (by assumption) rfl rfl ?_|refine d_off (.inr rfl) HQ HS rfl rfl rfl rfl (by assumption) rfl rfl ?_|refine d_split rfl rfl rfl rfl (fun h=>?_) (fun h=>?_))|refine c_cond rfl (fun h=>?_) (fun h=>?_))
    all_goals first
      | exact ret_tmp rfl rfl ⟨by rw [validB,show heldB x x.held.length = false from allN_fail hlt (by first|(simp_all;done)|(simp_all;intros;omega))];simp,HM.sb⟩
      | exact n_round (k + 1) (by repeat (first|exact trivial|refine And.intro (by first|rfl|exact look_int rfl (by omega)) ?_)) ⟨by omega,allN_succ hp (by first|(simp_all;done)|(simp_all;intros;omega)),HM.sb⟩ (by omega)
  · obtain rfl : k = x.held.length:=by omega
    repeat' (first|(refine gGP ?_;first|refine gp (p_move rfl) ?_|refine gp (p_assign rfl) ?_|(refine gGB ?_;first|refine gp (p_lss rfl rfl) ?_|refine gp (p_eql rfl rfl) ?_|refine gp (p_gtr rfl rfl) ?_|refine gp (p_add rfl rfl (by exact wr (by omega) (by omega))) ?_)|refine gp (p_field rfl (by simp only [Nat.reduceAdd];rfl)) ?_|refine gp (p_len rfl) ?_|refine gp (p_not rfl) ?_|refine gp (p_pick1 rfl (by first|rfl|assumption) rfl) ?_|refine gp (p_pick0 rfl (by first|rfl|assumption) rfl) ?_)|(refine gGV ?_;first|refine gv (p_load rfl) ?_|refine gv (p_loads rfl) ?_)|(refine gL ?_;first|refine s_gp rfl rfl ?_|refine s_gv HM rfl ?_|(refine gCall ?_;(refine s_fn rfl rfl ?_;first|(go_at_call 39;refine (l1In_c _ _ _ _).mono ?_;rintro e W1 ⟨rfl,rfl⟩;refine ⟨_,rfl,?_⟩)|(go_at_call 43;refine (specNumbers _ h0.yes HM).mono ?_;rintro e W1 ⟨rfl,HM1⟩;refine ⟨_,rfl,?_⟩;replace HM:=HM1;clear HM1)|(go_at_call 44;refine (specSlots h0.best HM).mono ?_;rintro e W1 ⟨rfl,HM1⟩;refine ⟨_,rfl,?_⟩;replace HM:=HM1;clear HM1)|(go_at_call 45;refine (specAcks _ h0.acks HM).mono ?_;rintro e W1 ⟨rfl,HM1⟩;refine ⟨_,rfl,?_⟩;replace HM:=HM1;clear HM1)|(go_at_call 46;refine (specQuiet x i hn HM).mono ?_;rintro e W1 ⟨rfl,HM1⟩;refine ⟨_,rfl,?_⟩;replace HM:=HM1;clear HM1)))|refine l_nil ?_|refine s_guard_on rfl rfl rfl rfl (by first|rfl|assumption) ?_|refine s_guard_off rfl rfl rfl rfl (by first|rfl|assumption) rfl rfl ?_|refine s_guard_un rfl rfl rfl rfl rfl rfl ?_|refine s_split rfl rfl rfl rfl (fun h=>?_) (fun h=>?_))|(refine gC ?_;first|refine c_seq ?_|refine c_region ?_|refine c_skip ?_|refine c_exit ?_|refine c_ret ?_|refine c_yes rfl (by rfl) ?_|refine c_no rfl (by first|rfl|(simp;done)|fail) ?_)|(refine gN ?_;first|refine n_then ?_|refine x_then ?_|refine x_here ?_|refine r_then ?_)|refine c_cond rfl (fun h=>?_) (fun h=>?_))
    all_goals first
      | exact ret_tmp rfl rfl ⟨by rw [validB,show midB x = false by first|(simp_all [midB];done)|(simp_all [midB];intros;omega)];simp,HM.sb⟩
      | exact ret_tmp rfl rfl ⟨by rw [validB,show leadB x = false by first|(simp_all [leadB];done)|(simp_all [leadB];intros;omega)];simp,HM.sb⟩
      | exact ret_tmp rfl rfl ⟨by rw [validB,hh,hp,show midB x = true by first|(simp_all [midB];done)|(simp_all [midB];intros;omega),show leadB x = true by first|(simp_all [leadB];done)|(simp_all [leadB];intros;omega)];first|(simp_all [upB];done)|(simp_all [upB];intros;omega),HM.sb⟩
end Go.Proofs.YtampmicahnnebaaGreat.Sp
namespace Go.Proofs.YtampmicahnnebaaGreat.Sp
open Go Go.RowKit
set_option maxRecDepth 10000
set_option maxHeartbeats 8000000
variable {w0 W : World} {L : List Asn} {A : Option Addr} {c : Nat}
theorem hasTake {xs : List ByteArray} (k : Nat) (hk : k ≤ xs.length) (s : ByteArray) (h : RoRow (rStr false) w0 A xs) (HM : Mem w0 W L) : Calls Tryz.prog 51 #[.slice A (k : Int).toNat c,.string s] W fun e W'=>e = .returned (.bool (!newB xs k s)) ∧ Mem w0 W' L:=by
  have hl : (xs.take k).length = k:=by simp;omega
  refine Calls.mono (has_c (xs:=xs.take k) (by simp;omega) s (ro_take h k) HM) ?_
  rintro e W1 ⟨rfl,HM⟩
  refine ⟨?_,HM⟩
  rw [hl]
  have : newB (xs.take k) k s = newB xs k s:=allN_congr (fun j hj=>by rw [rdR_take hj])
  rw [this]
theorem implValid (x : Rcd) (i : AtRcd) (h : RoRcd false w0 x i) (hc : x.wishes.length ≤ i.a3.2) (hn : SmallR x) (HM : Mem w0 W L) : Calls Tryz.prog 10 #[.agg (encRcd x i).toArray] W fun e W'=>e = .returned (.bool (validB x)) ∧ Mem w0 W' L:=by
  refine enter Tryz.func10 rfl Tryz.ntmps10 [(0,.agg (encRcd x i).toArray)] rfl ⟨rfl,trivial⟩ ?_
  have s1:=hn.yes
  have s2:=hn.best
  have s3:=hn.acks
  have s4:=hn.held
  have s5:=hn.wishes
  have h0:=h
  unfold encRcd
  replace HM:=((HM.pur h.held).pur h.wishes).pur h.acks
  by_cases n20 : (20 : Int) < x.wishes.length
  · repeat' (first|(refine gGP ?_;first|refine gp (p_move rfl) ?_|refine gp (p_assign rfl) ?_|(refine gGB ?_;refine gp (p_gtr rfl rfl) ?_)|refine gp (p_field rfl (by simp only [Nat.reduceAdd];rfl)) ?_|refine gp (p_len rfl) ?_|refine gp (p_not rfl) ?_|refine gp (p_pick1 rfl (by first|rfl|assumption|(simp;omega)) rfl) ?_|refine gp (p_pick0 rfl (by assumption) rfl) ?_)|(refine gGV ?_;first|refine gv (p_load rfl) ?_|refine gv (p_loads rfl) ?_)|(refine gL ?_;first|refine s_gp rfl rfl ?_|refine s_gv HM rfl ?_|(refine gCall ?_;(refine s_fn rfl rfl ?_;first|(go_at_call 47;refine (within_c _ _ _ _).mono ?_;rintro e W1 ⟨rfl,rfl⟩;refine ⟨_,rfl,?_⟩)|(go_at_call 48;refine (implDisk _ _ (by first|with_reducible exact h0.ss|with_reducible exact h0.ds) HM).mono ?_;rintro e W1 ⟨rfl,HM1⟩;refine ⟨_,rfl,?_⟩;replace HM:=HM1;clear HM1)))|(refine s_box HM rfl rfl ?_;clear HM;intro g W1 HM)|refine l_nil ?_|refine s_guard_on rfl rfl rfl rfl (by assumption) ?_|refine s_guard_off rfl rfl rfl rfl (by first|rfl|assumption|(simp;omega)) rfl rfl ?_|refine s_split rfl rfl rfl rfl (fun h=>?_) (fun h=>?_))|(refine gC ?_;first|refine c_seq ?_|refine c_region ?_|refine c_ret ?_|refine c_yes rfl (by rfl) ?_)|(refine gN ?_;first|refine n_then ?_|refine r_then ?_))
    all_goals
      have hw : wishesB x.wishes = false:=by rw [wishesB,show decide ((x.wishes.length : Int) ≤ 20) = false by simp;omega];rfl
      exact ret_tmp rfl rfl ⟨by rw [validB,show headB x = false by rw [headB,hw];simp];rfl,HM.sb⟩
  repeat' (first|(refine gGP ?_;first|refine gp (p_move rfl) ?_|refine gp (p_assign rfl) ?_|(refine gGB ?_;refine gp (p_gtr rfl rfl) ?_)|refine gp (p_field rfl (by simp only [Nat.reduceAdd];rfl)) ?_|refine gp (p_len rfl) ?_|refine gp (p_not rfl) ?_|refine gp (p_pick1 rfl (by first|rfl|assumption) rfl) ?_|refine gp (p_pick0 rfl (by first|assumption|(simp;omega)) rfl) ?_)|(refine gGV ?_;first|refine gv (p_load rfl) ?_|refine gv (p_loads rfl) ?_)|(refine gL ?_;first|refine s_gp rfl rfl ?_|refine s_gv HM rfl ?_|(refine gCall ?_;(refine s_fn rfl rfl ?_;first|(go_at_call 47;refine (within_c _ _ _ _).mono ?_;rintro e W1 ⟨rfl,rfl⟩;refine ⟨_,rfl,?_⟩)|(go_at_call 48;refine (implDisk _ _ (by first|with_reducible exact h0.ss|with_reducible exact h0.ds) HM).mono ?_;rintro e W1 ⟨rfl,HM1⟩;refine ⟨_,rfl,?_⟩;replace HM:=HM1;clear HM1)|(go_at_call 49;refine (implNumbers _ h0.yes HM).mono ?_;rintro e W1 ⟨rfl,HM1⟩;refine ⟨_,rfl,?_⟩;replace HM:=HM1;clear HM1)|(go_at_call 50;refine (implSlots h0.best HM).mono ?_;rintro e W1 ⟨rfl,HM1⟩;refine ⟨_,rfl,?_⟩;replace HM:=HM1;clear HM1)))|(refine s_box HM rfl rfl ?_;clear HM;intro g W1 HM)|refine l_nil ?_|refine s_guard_on rfl rfl rfl rfl (by first|assumption|(simp;omega)) ?_|refine s_guard_off rfl rfl rfl rfl (by first|rfl|assumption) rfl rfl ?_|refine s_split rfl rfl rfl rfl (fun h=>?_) (fun h=>?_))|(refine gC ?_;first|refine c_seq ?_|refine c_region ?_|refine c_block ?_|refine c_skip ?_|refine c_ret ?_|refine c_yes rfl (by rfl) ?_)|(refine gN ?_;first|refine n_then ?_|refine r_then ?_)|refine c_cond rfl (fun h=>?_) (fun h=>?_))
  all_goals try exact ret_tmp rfl rfl ⟨by rw [validB,show headB x = false by first|(simp_all [headB];done)|(simp_all [headB];intros;omega)];rfl,HM.sb⟩
  all_goals try exact ret_tmp rfl rfl ⟨by rw [validB,show midB x = false by first|(simp_all [midB];done)|(simp_all [midB];intros;omega)];simp,HM.sb⟩
  have hh : wishesB x.wishes = true → headB x = true:=by intro hw;first|(simp_all [headB];done)|(simp_all [headB];intros;omega)
  have hb : 0 ≤ x.heard ∧ x.heard ≤ 1000000:=by first|(simp_all [headB];done)|(simp_all [headB];intros;omega)
  have hy : numbersB x.yes x.of = true:=by simp_all
  have ht : slotsB x.best = true:=by simp_all
  rename_i q1 v1 q2 v2 q3 q4 q5 v3 q6 v4 q7
  clear q1 q2 q3 q4 q5 q6 q7 h
  refine c_loop (σ:=Nat) (fun k=>[(1,.pointer (some ⟨g,0,none⟩)),(66,.slice i.a2.1 x.held.length i.a2.2),(67,.int .i64 x.held.length),(68,.int .i64 k)]) (fun k W1=>k ≤ x.held.length ∧ heldB x k = true ∧ Mem w0 W1 (box g 31 [.int .i64 x.number,.int .i64 x.of,.bool x.up,.int .i64 x.sp,.int .i64 x.sk,.slice i.a0.1 x.ss.length i.a0.2,.int .i64 x.dp,.int .i64 x.dk,.slice i.a1.1 x.ds.length i.a1.2,.slice i.a2.1 x.held.length i.a2.2,.slice i.a3.1 x.wishes.length i.a3.2,.bool x.lead,.bool x.trying,.int .i64 x.ballot,.slice i.a4.1 x.yes.length i.a4.2,.slice i.a5.1 x.best.length i.a5.2,.slice i.a6.1 x.acks.length i.a6.2,.int .i64 x.heard] :: ro rAck w0 i.a6.1 x.acks :: ro (rStr false) w0 i.a3.1 x.wishes :: ro (rMsg false) w0 i.a2.1 x.held :: L)) (fun k=>x.held.length - k) 0 (by repeat (first|exact trivial|refine And.intro (by first|rfl|exact look_int rfl (by omega)) ?_)) ⟨Nat.zero_le _,allN_zero,HM⟩ ?_
  clear HM
  rintro k W1 ⟨hk,hp,HM⟩
  by_cases hlt : k < x.held.length
  · have e0:=rdR_at (D:=rMsg false) hlt
    obtain ⟨cc,⟨j,rfl,_,hs⟩,HM⟩:=HM.roOpen (A:=i.a2.1) k hlt
    unfold encMsg at HM
    repeat' (first|(refine gGP ?_;first|refine gp (p_move rfl) ?_|refine gp (p_assign rfl) ?_|(refine gGB ?_;first|refine gp (p_lss rfl rfl) ?_|refine gp (p_neq rfl rfl) ?_|refine gp (p_add rfl rfl (by exact wr (by omega) (by omega))) ?_)|refine gp (p_field rfl (by simp only [Nat.reduceAdd];rfl)) ?_|refine gp (p_indexr HM rfl (by first|with_reducible rfl|omega) rfl (by omega) (by omega)) ?_|refine gp (p_not rfl) ?_|refine gp (p_pick1 rfl (by assumption) rfl) ?_|refine gp (p_pick0 rfl (by assumption) rfl) ?_)|(refine gGV ?_;first|refine gv (p_load rfl) ?_|refine gv (p_loads rfl) ?_|refine gv (p_loadwr rfl rfl rfl) ?_)|(refine gL ?_;first|refine s_gp rfl rfl ?_|refine s_gv HM rfl ?_|(refine gStore ?_;(refine s_store HM rfl rfl rfl rfl ?_;clear HM;intro W1 HM))|(refine gCall ?_;(refine s_fn rfl rfl ?_;(go_at_call 11;refine (implMsg (x.held[k]) j _ hs HM).mono ?_;rintro e W1 ⟨rfl,HM1⟩;refine ⟨_,rfl,?_⟩;replace HM:=HM1;clear HM1)))|(refine s_alloc HM rfl ?_;clear HM;intro g W1 HM)|refine l_nil ?_|refine s_guard_on rfl rfl rfl rfl (by assumption) ?_|refine s_guard_off rfl rfl rfl rfl (by assumption) rfl rfl ?_|refine s_split rfl rfl rfl rfl (fun h=>?_) (fun h=>?_))|(refine gC ?_;first|refine c_seq ?_|refine c_region ?_|refine c_block ?_|refine c_skip ?_|refine c_ret ?_|refine c_yes rfl (by first|rfl|(simp;omega)) ?_)|(refine gN ?_;first|refine n_then ?_|refine n_block ?_|refine r_then ?_|refine r_block ?_)|refine c_cond rfl (fun h=>?_) (fun h=>?_))
    all_goals first
      | exact ret_tmp rfl rfl ⟨by rw [validB,show heldB x x.held.length = false from allN_fail hlt (by clear HM hh hb h0 hn hy ht hp;first|(simp_all;done)|(simp_all;intros;omega))];simp,HM.sb⟩
      | exact n_round (k + 1) (by repeat (first|exact trivial|refine And.intro (by first|rfl|exact look_int rfl (by omega)) ?_)) ⟨by omega,allN_succ hp (by clear HM hh hb h0 hn hy ht hp;first|(simp_all;done)|(simp_all;intros;omega)),HM.sb⟩ (by omega)
  obtain rfl : k = x.held.length:=by omega
  repeat (first|(refine gGP ?_;first|refine gp (p_move rfl) ?_|(refine gGB ?_;refine gp (p_lss rfl rfl) ?_)|refine gp (p_field rfl (by simp only [Nat.reduceAdd];rfl)) ?_|refine gp (p_len rfl) ?_)|(refine gGV ?_;refine gv (p_load rfl) ?_)|(refine gL ?_;first|refine s_gp rfl rfl ?_|refine s_gv HM rfl ?_|refine l_nil ?_)|(refine gC ?_;first|refine c_seq ?_|refine c_region ?_|refine c_block ?_|refine c_exit ?_|refine c_no rfl (by first|rfl|(simp;done)|fail) ?_)|(refine gN ?_;first|refine n_then ?_|refine x_then ?_|refine x_here ?_))
  refine c_loop (σ:=Nat) (fun k=>[(1,.pointer (some ⟨g,0,none⟩)),(86,.slice i.a3.1 x.wishes.length i.a3.2),(87,.int .i64 x.wishes.length),(88,.int .i64 k)]) (fun k W1=>k ≤ x.wishes.length ∧ allN (wishB x.wishes) k = true ∧ Mem w0 W1 (box g 31 [.int .i64 x.number,.int .i64 x.of,.bool x.up,.int .i64 x.sp,.int .i64 x.sk,.slice i.a0.1 x.ss.length i.a0.2,.int .i64 x.dp,.int .i64 x.dk,.slice i.a1.1 x.ds.length i.a1.2,.slice i.a2.1 x.held.length i.a2.2,.slice i.a3.1 x.wishes.length i.a3.2,.bool x.lead,.bool x.trying,.int .i64 x.ballot,.slice i.a4.1 x.yes.length i.a4.2,.slice i.a5.1 x.best.length i.a5.2,.slice i.a6.1 x.acks.length i.a6.2,.int .i64 x.heard] :: ro rAck w0 i.a6.1 x.acks :: ro (rStr false) w0 i.a3.1 x.wishes :: ro (rMsg false) w0 i.a2.1 x.held :: L)) (fun k=>x.wishes.length - k) 0 (by repeat (first|exact trivial|refine And.intro (by first|rfl|exact look_int rfl (by omega)) ?_)) ⟨Nat.zero_le _,allN_zero,HM⟩ ?_
  clear HM
  rintro k W1 ⟨hk2,hp2,HM⟩
  by_cases hlt2 : k < x.wishes.length
  · have hk3 : k ≤ x.wishes.length:=by omega
    repeat' (first|(refine gGP ?_;first|refine gp (p_move rfl) ?_|refine gp (p_assign rfl) ?_|(refine gGB ?_;first|refine gp (p_lss rfl rfl) ?_|refine gp (p_add rfl rfl (by exact wr (by omega) (by omega))) ?_)|refine gp (p_field rfl (by simp only [Nat.reduceAdd];rfl)) ?_|refine gp (p_indexr HM rfl (by first|with_reducible rfl|omega) rfl (by omega) (by omega)) ?_|refine gp (p_sliceto rfl rfl (by omega) (by omega)) ?_|refine gp (p_slen rfl) ?_|refine gp (p_not rfl) ?_|refine gp (p_pick1 rfl (by assumption) rfl) ?_|refine gp (p_pick0 rfl (by assumption) rfl) ?_)|(refine gGV ?_;first|refine gv (p_load rfl) ?_|refine gv (p_loadr rfl rfl (by omega) (by omega) rfl) ?_)|(refine gL ?_;first|refine s_gp rfl rfl ?_|refine s_gv HM rfl ?_|(refine gCall ?_;(refine s_fn rfl rfl ?_;first|(go_at_call 47;refine (within_c _ _ _ _).mono ?_;rintro e W1 ⟨rfl,rfl⟩;refine ⟨_,rfl,?_⟩)|(go_at_call 51;refine (hasTake k hk3 _ h0.wishes HM).mono ?_;rintro e W1 ⟨rfl,HM1⟩;refine ⟨_,rfl,?_⟩;replace HM:=HM1;clear HM1)))|refine l_nil ?_|refine s_guard_on rfl rfl rfl rfl (by assumption) ?_|refine s_guard_off rfl rfl rfl rfl (by assumption) rfl rfl ?_|refine s_split rfl rfl rfl rfl (fun h=>?_) (fun h=>?_))|(refine gC ?_;first|refine c_seq ?_|refine c_region ?_|refine c_block ?_|refine c_skip ?_|refine c_ret ?_|refine c_yes rfl (by first|rfl|(simp;omega)) ?_)|(refine gN ?_;first|refine n_then ?_|refine n_block ?_|refine r_then ?_|refine r_block ?_)|refine c_cond rfl (fun h=>?_) (fun h=>?_))
    all_goals first
      | exact ret_tmp rfl rfl ⟨by rw [validB,headB,wishesB,allN_fail hlt2 (by clear HM hh hb h0 hn hy ht hp hp2;first|(simp_all [wishB];done)|(simp_all [wishB];intros;omega))];simp,HM.sb⟩
      | exact n_round (k + 1) (by repeat (first|exact trivial|refine And.intro (by first|rfl|exact look_int rfl (by omega)) ?_)) ⟨by omega,allN_succ hp2 (by clear HM hh hb h0 hn hy ht hp hp2;first|(simp_all [wishB];done)|(simp_all [wishB];intros;omega)),HM.sb⟩ (by omega)
  obtain rfl : k = x.wishes.length:=by omega
  have hw : wishesB x.wishes = true:=by rw [wishesB,hp2];simp;omega
  have hd:=hh hw
  repeat (first|(refine gGP ?_;first|refine gp (p_move rfl) ?_|(refine gGB ?_;refine gp (p_lss rfl rfl) ?_)|refine gp (p_field rfl (by simp only [Nat.reduceAdd];rfl)) ?_|refine gp (p_len rfl) ?_)|(refine gGV ?_;refine gv (p_load rfl) ?_)|(refine gL ?_;first|refine s_gp rfl rfl ?_|refine s_gv HM rfl ?_|refine l_nil ?_)|(refine gC ?_;first|refine c_seq ?_|refine c_region ?_|refine c_block ?_|refine c_exit ?_|refine c_no rfl (by first|rfl|(simp;done)|fail) ?_)|(refine gN ?_;first|refine n_then ?_|refine x_then ?_|refine x_here ?_))
  refine c_loop (σ:=Nat) (fun k=>[(1,.pointer (some ⟨g,0,none⟩)),(107,.slice i.a6.1 x.acks.length i.a6.2),(108,.int .i64 x.acks.length),(109,.int .i64 k)]) (fun k W1=>k ≤ x.acks.length ∧ allN (ackB x.acks x.of) k = true ∧ Mem w0 W1 (box g 31 [.int .i64 x.number,.int .i64 x.of,.bool x.up,.int .i64 x.sp,.int .i64 x.sk,.slice i.a0.1 x.ss.length i.a0.2,.int .i64 x.dp,.int .i64 x.dk,.slice i.a1.1 x.ds.length i.a1.2,.slice i.a2.1 x.held.length i.a2.2,.slice i.a3.1 x.wishes.length i.a3.2,.bool x.lead,.bool x.trying,.int .i64 x.ballot,.slice i.a4.1 x.yes.length i.a4.2,.slice i.a5.1 x.best.length i.a5.2,.slice i.a6.1 x.acks.length i.a6.2,.int .i64 x.heard] :: ro rAck w0 i.a6.1 x.acks :: ro (rStr false) w0 i.a3.1 x.wishes :: ro (rMsg false) w0 i.a2.1 x.held :: L)) (fun k=>x.acks.length - k) 0 (by repeat (first|exact trivial|refine And.intro (by first|rfl|exact look_int rfl (by omega)) ?_)) ⟨Nat.zero_le _,allN_zero,HM⟩ ?_
  clear HM
  rintro k W1 ⟨hk4,hp4,HM⟩
  by_cases hlt4 : k < x.acks.length
  · have e0:=rdR_at (D:=rAck) hlt4
    obtain ⟨cc,⟨j,rfl,hs⟩,HM⟩:=HM.roOpen (A:=i.a6.1) k hlt4
    unfold encAck at HM
    by_cases hz : 0 < k
    all_goals
      repeat' (first|(refine gR ?_;refine d_start [] [(0,0),(1,1),(2,2),(0,3),(0,4),(0,5),(0,7),(1,6),(1,8),(2,9),(0,10),(0,11),(0,12),(0,13),(0,14),(0,15),(0,16),(0,18),(0,20),(0,21),(1,17),(1,19),(0,22),(0,23),(1,24),(0,25),(0,26),(0,27)] HM (by kernel_rfl) (by kernel_rfl) (by repeat (first|exact qp_body|refine qp_then ?_|refine qp_block ?_)) (by kernel_rfl) rfl ?_;intro HQ HS W1 HM1;replace HM:=HM1;clear HM1)|(refine gGP ?_;first|refine gp (p_move rfl) ?_|refine gp (p_assign rfl) ?_|(refine gGB ?_;first|refine gp (p_lss rfl rfl) ?_|refine gp (p_leq rfl rfl) ?_|refine gp (p_gtr rfl rfl) ?_|refine gp (p_add rfl rfl (by first|exact wr (by omega) (by omega)|rfl)) ?_|refine gp (p_sub rfl rfl (by exact wr (by omega) (by omega))) ?_)|refine gp (p_field rfl (by simp only [Nat.reduceAdd];rfl)) ?_|refine gp (p_fieldo rfl (by simp only [Nat.reduceAdd];rfl)) ?_|refine gp (p_indexr HM rfl (by first|with_reducible rfl|omega) rfl (by omega) (by omega)) ?_|refine gp (p_not rfl) ?_|refine gp (p_pick1 rfl (by first|rfl|assumption|(simp;omega)) rfl) ?_|refine gp (p_pick0 rfl (by first|assumption|(simp;omega)) rfl) ?_)|(refine gGV ?_;first|refine gv (p_load rfl) ?_|refine gv (p_loadr rfl rfl (by omega) (by omega) rfl) ?_|refine gv (p_loadwr rfl rfl rfl) ?_)|(refine gL ?_;first|refine s_gp rfl rfl ?_|refine s_gv HM rfl ?_|(refine gStore ?_;(refine s_store HM rfl rfl rfl rfl ?_;clear HM;intro W1 HM))|(refine gCall ?_;(refine s_fn rfl rfl ?_;first|(go_at_call 47;refine (within_c _ _ _ _).mono ?_;rintro e W1 ⟨rfl,rfl⟩;refine ⟨_,rfl,?_⟩)|(go_at_call 49;refine (implNumbers _ hs HM).mono ?_;rintro e W1 ⟨rfl,HM1⟩;refine ⟨_,rfl,?_⟩;replace HM:=HM1;clear HM1)))|(refine s_alloc HM rfl ?_;clear HM;intro g W1 HM)|refine l_nil ?_|refine s_guard_on rfl rfl rfl rfl (by assumption) ?_|refine s_guard_off rfl rfl rfl rfl (by assumption) rfl rfl ?_)|(refine gC ?_;first|refine c_seq ?_|refine c_region ?_|refine c_block ?_|refine c_skip ?_|refine c_ret ?_|refine c_yes rfl (by first|rfl|(simp;omega)) ?_|refine c_no rfl (by rfl) ?_)|(refine gN ?_;first|refine n_then ?_|refine n_block ?_|refine r_then ?_|refine r_block ?_|refine d_back (by exact HM) ?_)|(refine gD ?_;first|refine d_next rfl ?_|refine d_done ?_)|(refine gO ?_;first|refine d_gp HQ HS rfl ?_|refine d_gv HQ HS rfl ?_|refine d_one ?_|refine d_gpg HQ HS rfl rfl rfl (by first|rfl|assumption|(simp;omega)) rfl ?_|refine d_gvg HQ HS rfl rfl rfl (by first|rfl|assumption|(simp;omega)) rfl ?_|refine d_off (.inl rfl) HQ HS rfl rfl rfl rfl (by first|rfl|assumption|(simp;omega)) rfl rfl ?_|refine d_off (.inr rfl) HQ HS rfl rfl rfl rfl (by first|rfl|assumption|(simp;omega)) rfl rfl ?_|refine d_off_un (.inl rfl) HQ HS rfl rfl rfl rfl rfl rfl ?_|refine d_off_un (.inr rfl) HQ HS rfl rfl rfl rfl rfl rfl ?_|refine d_split rfl rfl rfl rfl (fun h=>?_) (fun h=>?_))|refine c_cond rfl (fun h=>?_) (fun h=>?_))
    all_goals first
      | exact ret_tmp rfl rfl ⟨by rw [validB,midB,acksB,allN_fail hlt4 (by clear HM hh hb h0 hn hy ht hp hp2 hp4 hw hd;first|(simp_all [ackB];done)|(simp_all [ackB];intros;omega))];simp,HM.sb⟩
      | exact n_round (k + 1) (by repeat (first|exact trivial|refine And.intro (by first|rfl|exact look_int rfl (by omega)) ?_)) ⟨by omega,allN_succ hp4 (by clear HM hh hb h0 hn hy ht hp hp2 hp4 hw hd;first|(simp_all [ackB];done)|(simp_all [ackB];intros;omega)),HM.sb⟩ (by omega)
  obtain rfl : k = x.acks.length:=by omega
  have ha : acksB x.acks x.of = true:=by rw [acksB,hp4]
  clear hp2 hp4 hh hw
  repeat' (first|(refine gGP ?_;first|refine gp (p_move rfl) ?_|refine gp (p_assign rfl) ?_|(refine gGB ?_;first|refine gp (p_lss rfl rfl) ?_|refine gp (p_eql rfl rfl) ?_|refine gp (p_neq rfl rfl) ?_|refine gp (p_gtr rfl rfl) ?_|refine gp (p_add rfl rfl (by exact wr (by omega) (by omega))) ?_)|refine gp (p_field rfl (by simp only [Nat.reduceAdd];rfl)) ?_|refine gp (p_len rfl) ?_|refine gp (p_not rfl) ?_|refine gp (p_pick1 rfl (by first|rfl|assumption|(simp;omega)) rfl) ?_|refine gp (p_pick0 rfl (by first|rfl|assumption|(simp;omega)) rfl) ?_)|(refine gGV ?_;refine gv (p_load rfl) ?_)|(refine gL ?_;first|refine s_gp rfl rfl ?_|refine s_gv HM rfl ?_|(refine gCall ?_;(refine s_fn rfl rfl ?_;(go_at_call 47;refine (within_c _ _ _ _).mono ?_;rintro e W1 ⟨rfl,rfl⟩;refine ⟨_,rfl,?_⟩)))|refine l_nil ?_|refine s_guard_on rfl rfl rfl rfl (by first|rfl|assumption|(simp;omega)) ?_|refine s_guard_off rfl rfl rfl rfl (by first|rfl|assumption|(simp;omega)) rfl rfl ?_|refine s_guard_un rfl rfl rfl rfl rfl rfl ?_|refine s_split rfl rfl rfl rfl (fun h=>?_) (fun h=>?_))|(refine gC ?_;first|refine c_seq ?_|refine c_region ?_|refine c_skip ?_|refine c_exit ?_|refine c_ret ?_|refine c_yes rfl (by rfl) ?_|refine c_no rfl (by first|rfl|(simp;done)|fail) ?_)|(refine gN ?_;first|refine n_then ?_|refine x_then ?_|refine x_here ?_|refine r_then ?_)|refine c_cond rfl (fun h=>?_) (fun h=>?_))
  all_goals first
    | exact ret_tmp rfl rfl ⟨by rw [validB,show midB x = false by first|(simp_all [midB];done)|(simp_all [midB];intros;omega)];simp,HM.sb⟩
    | exact ret_tmp rfl rfl ⟨by rw [validB,show leadB x = false by first|(simp_all [leadB,quietB];done)|(simp_all [leadB,quietB];intros;omega)];simp,HM.sb⟩
    | exact ret_tmp rfl rfl ⟨by rw [validB,hd,hp,show midB x = true by first|(simp_all [midB];done)|(simp_all [midB];intros;omega),show leadB x = true by first|(simp_all [leadB,quietB];done)|(simp_all [leadB,quietB];intros;omega)];first|(simp_all [upB,quietB];done)|(simp_all [upB,quietB];intros;omega),HM.sb⟩
end Go.Proofs.YtampmicahnnebaaGreat.Sp
namespace Go.Proofs.YtampmicahnnebaaGreat.Sp
open Go Go.RowKit
theorem allN_iff {p : Nat → Bool} {n : Nat} : allN p n = true ↔ ∀ j,j < n → p j = true:=by simp [allN,List.all_eq_true]
structure SlotP (s : Slot) : Prop where
  lo : 0 ≤ s.ballot
  hi : s.ballot ≤ 1000000
  txt : s.text.size ≤ 100
  nil : s.ballot = 0 → s.text = ⟨#[]⟩
theorem slotB_iff {s : Slot} : slotB s = true ↔ SlotP s:=by
  simp only [slotB,Bool.and_eq_true,decide_eq_true_eq,Bool.not_eq_true',decide_eq_false_iff_not,Bool.and_eq_false_iff,Bool.not_eq_false']
  constructor
  · rintro ⟨⟨⟨h1,h2⟩,h3⟩,h4⟩
    exact ⟨h1,h2,by omega,fun e=>h4.resolve_left (fun h=>h e)⟩
  · rintro ⟨h1,h2,h3,h4⟩
    refine ⟨⟨⟨h1,h2⟩,by omega⟩,?_⟩
    by_cases e : s.ballot = 0
    · exact .inr (h4 e)
    · exact .inl e
def SlotsP (xs : List Slot) : Prop:=xs.length ≤ 60 ∧ ∀ s ∈ xs,SlotP s
theorem slotsB_iff {xs : List Slot} : slotsB xs = true ↔ SlotsP xs:=by
  rw [slotsB,Bool.and_eq_true,decide_eq_true_eq,allN_iff]
  constructor
  · rintro ⟨h1,h2⟩
    refine ⟨by omega,fun s hs=>?_⟩
    obtain ⟨i,hi,rfl⟩:=List.getElem_of_mem hs
    have:=h2 i hi
    rw [rdR_at hi] at this
    exact slotB_iff.1 this
  · rintro ⟨h1,h2⟩
    exact ⟨by omega,fun j hj=>by rw [rdR_at hj];exact slotB_iff.2 (h2 _ (List.getElem_mem hj))⟩
structure DiskP (p k : Int) (xs : List Slot) : Prop where
  p0 : 0 ≤ p
  p1 : p ≤ 1000000
  slots : SlotsP xs
  k0 : 0 ≤ k
  k1 : k ≤ xs.length
  le : ∀ s ∈ xs,s.ballot ≤ p
  known : ∀ j (h : j < xs.length),(j : Int) < k → xs[j].ballot ≠ 0
theorem diskB_iff {p k : Int} {xs : List Slot} : diskB p k xs = true ↔ DiskP p k xs:=by
  simp only [diskB,Bool.and_eq_true,decide_eq_true_eq,allN_iff,slotsB_iff,Bool.not_eq_true',decide_eq_false_iff_not,Bool.and_eq_false_iff]
  constructor
  · rintro ⟨⟨⟨⟨h1,h2⟩,h3⟩,h4,h5⟩,h6⟩
    refine ⟨h1,h2,h3,h4,h5,fun s hs=>?_,fun j hj hk=>?_⟩
    · obtain ⟨i,hi,rfl⟩:=List.getElem_of_mem hs
      have:=(h6 i hi).1
      rw [rdR_at hi] at this
      omega
    · have:=(h6 j hj).2
      rw [rdR_at hj] at this
      exact this.resolve_left (fun h=>h hk)
  · rintro ⟨h1,h2,h3,h4,h5,h6,h7⟩
    refine ⟨⟨⟨⟨h1,h2⟩,h3⟩,h4,h5⟩,fun j hj=>?_⟩
    rw [rdR_at hj]
    refine ⟨by have:=h6 _ (List.getElem_mem hj);omega,?_⟩
    by_cases e : (j : Int) < k
    · exact .inr (h7 j hj e)
    · exact .inl e
theorem pairwise_adj {α : Type} {f : α → Int} {xs : List α} : xs.Pairwise (fun a b=>f a < f b) ↔ ∀ j (h : j + 1 < xs.length),f xs[j] < f xs[j + 1]:=by
  rw [List.pairwise_iff_getElem]
  constructor
  · intro h j hj
    exact h j (j + 1) (by omega) hj (by omega)
  · intro h i j hi hj hij
    induction j with
    | zero=>omega
    | succ j ih =>
      have h1:=h j hj
      by_cases e : i = j
      · subst e;exact h1
      · have:=ih (by omega) (by omega)
        omega
structure NumsP (xs : List Int) (o : Int) : Prop where
  all : ∀ n ∈ xs,1 ≤ n ∧ n ≤ o
  sorted : xs.Pairwise (· < ·)
theorem adj_b {α : Type} {D : TyR α} {f : α → Int} {xs : List α} : (∀ j,j < xs.length → (decide (0 < j) && decide (f (rdR D xs j) ≤ f (rdR D xs ((j : Int) - 1)))) = false) ↔ xs.Pairwise (fun a b=>f a < f b):=by
  rw [pairwise_adj]
  simp only [Bool.and_eq_false_iff,decide_eq_false_iff_not]
  constructor
  · intro h j hj
    have:=(h (j + 1) hj).resolve_left (by omega)
    rw [rdR_at hj,show ((j + 1 : Nat) : Int) - 1 = (j : Nat) by omega,rdR_at (show j < xs.length by omega)] at this
    omega
  · intro h j hj
    by_cases e : 0 < j
    · right
      obtain ⟨i,rfl⟩ : ∃ i,j = i + 1:=⟨j - 1,by omega⟩
      have:=h i hj
      rw [rdR_at hj,show ((i + 1 : Nat) : Int) - 1 = (i : Nat) by omega,rdR_at (show i < xs.length by omega)]
      omega
    · exact .inl e
theorem numbersB_iff {xs : List Int} {o : Int} : numbersB xs o = true ↔ NumsP xs o:=by
  have ha:=adj_b (D:=rInt) (f:=fun n=>n) (xs:=xs)
  simp only [numbersB,allN_iff,numB,Bool.and_eq_true,decide_eq_true_eq,Bool.not_eq_true']
  constructor
  · intro h
    refine ⟨fun n hn=>?_,ha.1 (fun j hj=>(h j hj).2)⟩
    obtain ⟨i,hi,rfl⟩:=List.getElem_of_mem hn
    have:=(h i hi).1
    rwa [rdR_at hi] at this
  · rintro ⟨h1,h2⟩ j hj
    exact ⟨by rw [rdR_at hj];exact h1 _ (List.getElem_mem hj),ha.2 h2 j hj⟩
structure AcksP (xs : List Ack) (o : Int) : Prop where
  all : ∀ a ∈ xs,(1 ≤ a.index ∧ a.index ≤ 60) ∧ NumsP a.frm o
  sorted : xs.Pairwise (fun a b=>a.index < b.index)
theorem acksB_iff {xs : List Ack} {o : Int} : acksB xs o = true ↔ AcksP xs o:=by
  have ha:=adj_b (D:=rAck) (f:=fun n=>n.index) (xs:=xs)
  simp only [acksB,allN_iff,ackB,Bool.and_eq_true,decide_eq_true_eq,Bool.not_eq_true',numbersB_iff]
  constructor
  · intro h
    refine ⟨fun n hn=>?_,ha.1 (fun j hj=>(h j hj).2)⟩
    obtain ⟨i,hi,rfl⟩:=List.getElem_of_mem hn
    have:=(h i hi).1
    rwa [rdR_at hi] at this
  · rintro ⟨h1,h2⟩ j hj
    exact ⟨by rw [rdR_at hj];exact h1 _ (List.getElem_mem hj),ha.2 h2 j hj⟩
structure MsgP (m : Msg) (o : Int) : Prop where
  kind : 1 ≤ m.kind ∧ m.kind ≤ 9
  frm : 1 ≤ m.frm ∧ m.frm ≤ o
  to : 1 ≤ m.to ∧ m.to ≤ o
  ballot : 0 ≤ m.ballot ∧ m.ballot ≤ 1000000
  index : 0 ≤ m.index ∧ m.index ≤ 60
  known : 0 ≤ m.known ∧ m.known ≤ 60
  text : m.text.size ≤ 100
  slots : SlotsP m.slots
theorem msgB_iff {m : Msg} {o : Int} : msgB m o = true ↔ MsgP m o:=by
  simp only [msgB,Bool.and_eq_true,decide_eq_true_eq,slotsB_iff]
  constructor
  · rintro ⟨⟨⟨⟨⟨⟨⟨h1,h2⟩,h3⟩,h4⟩,h5⟩,h6⟩,h7⟩,h8⟩
    exact ⟨h1,h2,h3,h4,h5,h6,by omega,h8⟩
  · rintro ⟨h1,h2,h3,h4,h5,h6,h7,h8⟩
    exact ⟨⟨⟨⟨⟨⟨⟨h1,h2⟩,h3⟩,h4⟩,h5⟩,h6⟩,by omega⟩,h8⟩
theorem newB_iff {xs : List ByteArray} {n : Nat} {s : ByteArray} (hn : n ≤ xs.length) : newB xs n s = true ↔ s ∉ xs.take n:=by
  simp only [newB,allN_iff,Bool.not_eq_true',decide_eq_false_iff_not]
  constructor
  · intro h hm
    obtain ⟨i,hi,e⟩:=List.getElem_of_mem hm
    have hi2 : i < n:=by simp at hi;omega
    have:=h i hi2
    rw [rdR_at (by omega)] at this
    rw [List.getElem_take] at e
    exact this e
  · intro h j hj e
    rw [rdR_at (show j < xs.length by omega)] at e
    refine h ?_
    rw [← e]
    exact List.mem_iff_getElem.2 ⟨j,by simp;omega,by rw [List.getElem_take]⟩
structure WishesP (xs : List ByteArray) : Prop where
  len : xs.length ≤ 20
  all : ∀ s ∈ xs,1 ≤ s.size ∧ s.size ≤ 100
  nodup : xs.Nodup
theorem wishesB_iff {xs : List ByteArray} : wishesB xs = true ↔ WishesP xs:=by
  simp only [wishesB,wishB,Bool.and_eq_true,decide_eq_true_eq,allN_iff]
  constructor
  · rintro ⟨h1,h2⟩
    refine ⟨by omega,fun s hs=>?_,?_⟩
    · obtain ⟨i,hi,rfl⟩:=List.getElem_of_mem hs
      have:=(h2 i hi).1
      rw [rdR_at hi] at this
      omega
    · rw [List.Nodup,List.pairwise_iff_getElem]
      intro i j hi hj hij e
      have h3:=(newB_iff (by omega)).1 (h2 j hj).2
      rw [rdR_at hj,← e] at h3
      exact h3 (List.mem_iff_getElem.2 ⟨i,by simp;omega,by rw [List.getElem_take]⟩)
  · rintro ⟨h1,h2,h3⟩
    refine ⟨by omega,fun j hj=>⟨?_,?_⟩⟩
    · rw [rdR_at hj];have:=h2 _ (List.getElem_mem hj);omega
    · rw [newB_iff (by omega),rdR_at hj]
      intro hm
      obtain ⟨i,hi,e⟩:=List.getElem_of_mem hm
      rw [List.getElem_take] at e
      rw [List.Nodup,List.pairwise_iff_getElem] at h3
      exact h3 i j (by simp at hi;omega) hj (by simp at hi;omega) e
structure QuietP (x : Rcd) : Prop where
  lead : x.lead = false
  trying : x.trying = false
  ballot : x.ballot = 0
  yes : x.yes = []
  best : x.best = []
  acks : x.acks = []
theorem quietB_iff {x : Rcd} : quietB x = true ↔ QuietP x:=by
  simp only [quietB,Bool.and_eq_true,decide_eq_true_eq,Bool.not_eq_true']
  constructor
  · rintro ⟨⟨⟨h1,h2⟩,h3⟩,h4⟩
    exact ⟨h1,h2,h3,List.eq_nil_of_length_eq_zero (by omega),List.eq_nil_of_length_eq_zero (by omega),List.eq_nil_of_length_eq_zero (by omega)⟩
  · rintro ⟨h1,h2,h3,h4,h5,h6⟩
    exact ⟨⟨⟨h1,h2⟩,h3⟩,by rw [h4,h5,h6];rfl⟩
structure VR (x : Rcd) : Prop where
  of1 : 1 ≤ x.of
  of5 : x.of ≤ 5
  n1 : 1 ≤ x.number
  no : x.number ≤ x.of
  safe : DiskP x.sp x.sk x.ss
  disk : DiskP x.dp x.dk x.ds
  heldLen : x.held.length ≤ 400
  wishes : WishesP x.wishes
  h0 : 0 ≤ x.heard
  h1 : x.heard ≤ 1000000
  held : ∀ m ∈ x.held,MsgP m x.of ∧ m.frm = x.number
  yes : NumsP x.yes x.of
  best : SlotsP x.best
  acks : AcksP x.acks x.of
  one : ¬ (x.lead = true ∧ x.trying = true)
  lead : x.lead = true ∨ x.trying = true → 1 ≤ x.ballot ∧ x.ballot ≤ x.dp
  tryA : x.trying = true → x.acks = []
  leadY : x.lead = true → x.yes = [] ∧ x.best = []
  quiet : x.lead = false → x.trying = false → QuietP x
  down : x.up = false → QuietP x ∧ x.held = [] ∧ x.wishes = [] ∧ x.heard = 0
theorem validB_iff {x : Rcd} : validB x = true ↔ VR x:=by
  have hh : heldB x x.held.length = true ↔ ∀ m ∈ x.held,MsgP m x.of ∧ m.frm = x.number:=by
    simp only [heldB,allN_iff,Bool.and_eq_true,decide_eq_true_eq,msgB_iff]
    constructor
    · intro h m hm
      obtain ⟨i,hi,rfl⟩:=List.getElem_of_mem hm
      have:=h i hi
      rwa [rdR_at hi] at this
    · intro h j hj
      rw [rdR_at hj]
      exact h _ (List.getElem_mem hj)
  simp only [validB,headB,midB,leadB,upB,Bool.and_eq_true,Bool.or_eq_true,decide_eq_true_eq,diskB_iff,wishesB_iff,numbersB_iff,slotsB_iff,acksB_iff,hh,Bool.not_eq_true',decide_eq_false_iff_not,quietB_iff]
  constructor
  · rintro ⟨⟨⟨⟨⟨⟨⟨⟨⟨⟨⟨a1,a2⟩,a3,a4⟩,a5⟩,a6⟩,a7⟩,a8⟩,a9,a10⟩,b⟩,⟨⟨c1,c2⟩,c3⟩,c4⟩,d⟩,e⟩
    refine ⟨a1,a2,a3,a4,a5,a6,by omega,a8,a9,a10,b,c1,c2,c3,?_,?_,?_,?_,?_,?_⟩
    · rintro ⟨e1,e2⟩;simp [e1,e2] at c4
    · intro h;rw [if_pos h] at d;simp at d;exact d.1.1
    · intro h
      rw [if_pos (.inr h)] at d
      simp only [Bool.and_eq_true,Bool.not_eq_true',Bool.and_eq_false_iff,decide_eq_true_eq,decide_eq_false_iff_not] at d
      rcases d.1.2 with h2|h2
      · rw [h] at h2;cases h2
      · exact List.eq_nil_of_length_eq_zero (by omega)
    · intro h
      rw [if_pos (.inl h)] at d
      simp [h] at d
      exact ⟨List.eq_nil_of_length_eq_zero (by omega),List.eq_nil_of_length_eq_zero (by omega)⟩
    · intro h1 h2
      rw [if_neg (by simp [h1,h2]),quietB_iff] at d
      exact d
    · intro h
      obtain ⟨q,h2⟩:=e.resolve_left (by simp [h])
      exact ⟨q,List.eq_nil_of_length_eq_zero (by omega),List.eq_nil_of_length_eq_zero (by omega),by omega⟩
  · rintro ⟨a1,a2,a3,a4,a5,a6,a7,a8,a9,a10,b,c1,c2,c3,c4,d1,d2,d3,d4,e⟩
    refine ⟨⟨⟨⟨⟨⟨⟨⟨⟨⟨⟨a1,a2⟩,a3,a4⟩,a5⟩,a6⟩,by omega⟩,a8⟩,a9,a10⟩,b⟩,⟨⟨c1,c2⟩,c3⟩,?_⟩,?_⟩,?_⟩
    · cases hl : x.lead <;> cases ht : x.trying <;> simp_all
    · split
      · rename_i h
        have h1:=d1 h
        simp only [Bool.and_eq_true,decide_eq_true_eq,Bool.not_eq_true',Bool.and_eq_false_iff,decide_eq_false_iff_not]
        refine ⟨⟨h1,?_⟩,?_⟩
        · cases ht : x.trying
          · exact .inl rfl
          · rw [d2 ht];exact .inr (by simp)
        · cases hl : x.lead
          · exact .inl rfl
          · rw [(d3 hl).1,(d3 hl).2];exact .inr (by simp)
      · rename_i h
        rw [quietB_iff]
        exact d4 (by cases hl : x.lead <;> simp_all) (by cases hl : x.trying <;> simp_all)
    · cases hu : x.up
      · right
        obtain ⟨q,h2,h3,h4⟩:=e hu
        exact ⟨q,by rw [h2,h3,h4];rfl⟩
      · exact .inl rfl
end Go.Proofs.YtampmicahnnebaaGreat.Sp
namespace Go.Proofs.YtampmicahnnebaaGreat.Sp
open Go Go.RowKit
set_option maxRecDepth 10000
set_option maxHeartbeats 1000000
variable {w0 W : World} {L : List Asn}
def holdL (x : Rcd) (m : Msg) : Rcd:=if (x.held.length : Int) < 400 then { x with held:=x.held ++ [{ m with frm:=x.number }] } else x
def calmL (x : Rcd) : Rcd:={ x with lead:=false,trying:=false,ballot:=0,yes:=[],best:=[],acks:=[] }
def followL (x : Rcd) (b : Int) : Rcd:={ (if b = x.ballot then { x with dp:=max x.dp b } else calmL { x with dp:=max x.dp b }) with heard:=0 }
def padL (ds : List Slot) (n : Nat) : List Slot:=ds ++ List.replicate (n - ds.length) ⟨0,⟨#[]⟩⟩
def setL (x : Rcd) (ix : Int) (s : Slot) : Rcd:={ x with ds:=(padL x.ds ix.toNat).set (ix - 1).toNat s }
theorem padL_len (ds : List Slot) (n : Nat) : (padL ds n).length = max ds.length n:=by simp [padL];omega
theorem padL_le {ds : List Slot} {n : Nat} (h : n ≤ ds.length) : padL ds n = ds:=by simp [padL,show n - ds.length = 0 by omega]
theorem padL_step {ds : List Slot} {n : Nat} (h : ds.length < n) : padL (ds ++ [⟨0,⟨#[]⟩⟩]) n = padL ds n:=by
  simp only [padL,List.length_append,List.length_cons,List.length_nil,List.append_assoc]
  obtain ⟨k,hk⟩ : ∃ k,n - ds.length = k + 1:=⟨n - ds.length - 1,by omega⟩
  rw [hk,show n - (ds.length + (0 + 1)) = k by omega,List.replicate_succ]
  rfl
structure Sz (x : Rcd) : Prop where
  ss : x.ss.length ≤ 60
  ds : x.ds.length ≤ 60
  held : x.held.length ≤ 400
  helds : ∀ m ∈ x.held,m.slots.length ≤ 60
  wishes : x.wishes.length ≤ 20
  yes : x.yes.length ≤ 60
  best : x.best.length ≤ 60
  acks : x.acks.length ≤ 60
  ackss : ∀ a ∈ x.acks,a.frm.length ≤ 60
end Go.Proofs.YtampmicahnnebaaGreat.Sp
namespace Go.Proofs.YtampmicahnnebaaGreat.Sp
open Go Go.RowKit
set_option maxRecDepth 10000
set_option maxHeartbeats 1000000
variable {w0 W : World} {L : List Asn} {A : Option Addr} {c : Nat} {b : Bool}
theorem cloneSlots_c {xs : List Slot} (h : RoRow (rSlot b) w0 A xs) (hn : xs.length ≤ 1048576) (HM : Mem w0 W L) : Calls Tryz.prog 65 #[.slice A xs.length c] W fun e W'=>∃ A' c',e = .returned (.slice A' xs.length c') ∧ Mem w0 W' (own tSlot 91 A' c' xs :: L):=by
  refine enter Tryz.func65 rfl Tryz.ntmps65 [(0,_)] rfl ⟨rfl,trivial⟩ ?_
  replace HM:=HM.rod h
  repeat (first|refine Y ?_|(refine qa ?_;clear HM;intro A1 c1 W1 HM))
  exact ret_tmp rfl rfl ⟨A1,c1,rfl,HM.sb⟩
theorem cloneDisk_c (p q : Int) {xs : List Slot} (h : RoRow (rSlot b) w0 A xs) (hn : xs.length ≤ 1048576) (HM : Mem w0 W L) : Calls Tryz.prog 64 #[.agg #[.int .i64 p,.int .i64 q,.slice A xs.length c]] W fun e W'=>∃ A' c',e = .returned (.agg #[.int .i64 p,.int .i64 q,.slice A' xs.length c']) ∧ Mem w0 W' (own tSlot 91 A' c' xs :: L):=by
  refine enter Tryz.func64 rfl Tryz.ntmps64 [(0,.agg #[.int .i64 p,.int .i64 q,.slice A xs.length c])] rfl ⟨rfl,trivial⟩ ?_
  repeat (first|refine Y ?_|(refine qs ?_;clear HM;intro W1 HM)|(refine qf ?_;go_at_call 65;refine (cloneSlots_c h hn HM).mono ?_;rintro e W1 ⟨A1,c1,rfl,HM1⟩;refine ⟨_,rfl,?_⟩;replace HM:=HM1;clear HM1)|(refine qg ?_;clear HM;intro g W1 HM))
  exact ret_cell HM rfl rfl rfl ⟨A1,c1,rfl,HM.sb⟩
theorem cloneMsgs_c {xs : List Msg} (h : RoRow (rMsg b) w0 A xs) (hn : xs.length ≤ 1048576) (hm : ∀ x ∈ xs,x.slots.length ≤ 1048576) (HM : Mem w0 W L) : Calls Tryz.prog 23 #[.slice A xs.length c] W fun e W'=>∃ A' c',e = .returned (.slice A' xs.length c') ∧ Mem w0 W' (own (tMsg 91) 40 A' c' xs :: L):=by
  refine enter Tryz.func23 rfl Tryz.ntmps23 [(0,_)] rfl ⟨rfl,trivial⟩ ?_
  replace HM:=HM.rod h
  repeat refine Y ?_
  replace HM:=HM.nil (tMsg 91) 40
  refine c_loop2 (σ:=Nat) (fun k A1 c1=>[(3,.slice A1 k c1),(6,.slice A xs.length c),(7,.int .i64 xs.length),(8,.int .i64 k)]) (fun k A1 c1 W=>k ≤ xs.length ∧ ∃ ys : List Msg,ys.length = k ∧ ys = xs.take k ∧ Mem w0 W (own (tMsg 91) 40 A1 c1 ys :: ro (rMsg b) w0 A xs :: L)) (fun k=>xs.length - k) 0 none 0 U ⟨Nat.zero_le _,[],rfl,rfl,HM.sb⟩ ?_
  clear HM
  rintro k A1 c1 W ⟨hk,ys,hl,hy,HM⟩
  by_cases hlt : k < xs.length
  · have e0:=rdR_at (D:=rMsg b) hlt
    have hs1:=hm _ (List.getElem_mem hlt)
    obtain ⟨cc,⟨j,rfl,hb,hs⟩,HM⟩:=HM.roOpen (A:=A) k hlt
    unfold encMsg at HM
    repeat (first|refine Y ?_|(refine qs ?_;clear HM;intro W1 HM)|(refine qf ?_;go_at_call 65;refine (cloneSlots_c hs hs1 HM).mono ?_;rintro e W1 ⟨A1,c1,rfl,HM1⟩;refine ⟨_,rfl,?_⟩;replace HM:=HM1;clear HM1)|(refine qa ?_;clear HM;intro A1 c1 W1 HM)|(refine qg ?_;clear HM;intro g W1 HM))
    have e1 : (ys ++ [xs[k]]).length = k + 1:=by simp [hl]
    have e2 : (⟨xs[k].kind,xs[k].frm,xs[k].to,xs[k].ballot,xs[k].index,xs[k].known,xs[k].text,xs[k].slots⟩ : Msg) = xs[k]:=rfl
    rw [e2] at HM ⊢
    rw [e1]
    exact n_round2 (k + 1) A1 c1 U ⟨by omega,_,e1,by rw [hy,List.take_succ_eq_append_getElem (by omega)],HM.sb⟩ (by omega)
  · repeat refine Y ?_
    obtain rfl : k = xs.length:=by omega
    rw [List.take_length] at hy
    subst hy
    exact ret_tmp rfl rfl ⟨A1,c1,rfl,HM.sb⟩
theorem clone_c (x : Rcd) (i : AtRcd) (h : RoRcd b w0 x i) (hn : SmallR x) (HM : Mem w0 W L) : Calls Tryz.prog 21 #[.agg (encRcd x i).toArray] W fun e W'=>∃ j,e = .returned (.agg (encRcd x j).toArray) ∧ Mem w0 W' (partRcd 91 40 9 3 66 x j ++ L):=by
  refine enter Tryz.func21 rfl Tryz.ntmps21 [(0,.agg (encRcd x i).toArray)] rfl ⟨rfl,trivial⟩ ?_
  have h0:=h
  have s1:=hn.ss
  have s2:=hn.ds
  have s3:=hn.held
  have s4:=hn.wishes
  have s5:=hn.yes
  have s6:=hn.best
  have s7:=hn.acks
  unfold encRcd
  replace HM:=(((HM.rod h.wishes).rod h.yes).rod h.acks)
  repeat (first|(refine gR ?_;refine d_start (id:=1) [7,9] [(0,0),(0,3),(1,1),(1,4),(2,2),(0,6),(2,5),(3,7),(0,8),(3,9)] HM (by kernel_rfl) (by kernel_rfl) qq (by kernel_rfl) rfl ?_;intro HQ HS W1 HM1;replace HM:=HM1;clear HM1)|refine Y ?_|(refine qs ?_;clear HM;intro W1 HM)|(refine qf ?_;first|(go_at_call 64;refine (cloneDisk_c _ _ (by first|with_reducible exact h0.ss|with_reducible exact h0.ds) (by first|with_reducible exact s1|with_reducible exact s2) HM).mono ?_;rintro e W1 ⟨Ad,cd,rfl,HM1⟩;refine ⟨_,rfl,?_⟩;replace HM:=HM1;clear HM1)|(go_at_call 23;refine (cloneMsgs_c h0.held s3 hn.helds HM).mono ?_;rintro e W1 ⟨Ah,ch,rfl,HM1⟩;refine ⟨_,rfl,?_⟩;replace HM:=HM1;clear HM1)|(go_at_call 65;refine (cloneSlots_c h0.best s6 HM).mono ?_;rintro e W1 ⟨Ab,cb,rfl,HM1⟩;refine ⟨_,rfl,?_⟩;replace HM:=HM1;clear HM1))|(refine qa ?_;clear HM;intro A1 c1 W1 HM)|(refine qg ?_;clear HM;intro g W1 HM))
  replace HM:=HM.nil (tAck 3) 66
  refine c_loop2 (σ:=Nat) (fun k A1 c1=>[(1,.pointer (some ⟨_,0,none⟩)),(2,.pointer (some ⟨g,0,none⟩)),(3,.slice A1 k c1),(31,.slice i.a6.1 x.acks.length i.a6.2),(32,.int .i64 x.acks.length),(33,.int .i64 k)]) (fun k A1 c1 W=>k ≤ x.acks.length ∧ ∃ ys : List Ack,ys.length = k ∧ ys = x.acks.take k ∧ Mem w0 W (own (tAck 3) 66 A1 c1 ys :: _)) (fun k=>x.acks.length - k) 0 none 0 U ⟨Nat.zero_le _,[],rfl,rfl,HM⟩ ?_
  clear HM
  rintro k A1 c1 W ⟨hk,ys,hl,hy,HM⟩
  by_cases hlt : k < x.acks.length
  · have e0:=rdR_at (D:=rAck) hlt
    have hs1:=hn.ackss _ (List.getElem_mem hlt)
    obtain ⟨cc,⟨j,rfl,hs⟩,HM⟩:=HM.roOpen (A:=i.a6.1) k hlt
    unfold encAck at HM
    replace HM:=HM.rod hs
    repeat (first|(refine gR ?_;refine d_start [8] [(0,0),(0,1),(0,3),(1,2),(1,4),(2,5),(2,6),(2,7),(3,8),(0,9)] HM (by kernel_rfl) (by kernel_rfl) qq (by kernel_rfl) rfl ?_;intro HQ HS W1 HM1;replace HM:=HM1;clear HM1)|refine Y ?_|(refine qs ?_;clear HM;intro W1 HM)|(refine qa ?_;clear HM;intro A1 c1 W1 HM)|(refine qg ?_;clear HM;intro g W1 HM))
    have e1 : (ys ++ [x.acks[k]]).length = k + 1:=by simp [hl]
    have e2 : (⟨x.acks[k].index,x.acks[k].frm⟩ : Ack) = x.acks[k]:=rfl
    (try simp only [e0] at HM ⊢)
    rw [e2] at HM ⊢
    rw [e1]
    exact n_round2 (k + 1) A1 c1 U ⟨by omega,_,e1,by rw [hy,List.take_succ_eq_append_getElem (by omega)],HM.sb⟩ (by omega)
  · repeat (first|refine Y ?_|(refine qs ?_;clear HM;intro W1 HM))
    obtain rfl : k = x.acks.length:=by omega
    rw [List.take_length] at hy
    subst hy
    exact ret_cell HM rfl rfl rfl ⟨⟨(_,_),(_,_),(_,_),(_,_),(_,_),(_,_),(_,_)⟩,rfl,by simp only [partRcd,List.cons_append,List.nil_append];exact HM.sb⟩
end Go.Proofs.YtampmicahnnebaaGreat.Sp
