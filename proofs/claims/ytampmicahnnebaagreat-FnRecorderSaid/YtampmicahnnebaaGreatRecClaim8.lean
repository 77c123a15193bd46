/- take of the reference: the other kinds. No condition. -/
import Derived.Test.YtampmicahnnebaaGreatRecClaim7
import Derived.Test.YtampmicahnnebaaGreatRecClaim3
import Derived.Test.YtampmicahnnebaaGreatRecClaim2
import Derived.Test.YtampmicahnnebaaGreatRecClaim4
set_option linter.unusedVariables false
set_option linter.unusedSimpArgs false
namespace Go.Proofs.YtampmicahnnebaaGreat.Sp
open Go Go.RowKit
set_option maxRecDepth 10000
set_option maxHeartbeats 2000000
variable {w0 W : World} {L : List Asn}
theorem takeBeat (x : Rcd) (i : AtRcd) (m : Msg) (am : At) (hv : VR x) (hu : x.up = true) (hm : MsgP m x.of) (hk : m.kind = 5) (HM : Mem w0 W (partRcd 91 40 9 3 66 x i ++ L)) : Calls Tryz.prog 56 #[.agg (encRcd x i).toArray,.agg (encMsg m am).toArray] W fun e W'=>∃ j,e = .returned (.agg (encRcd (if m.ballot < x.dp then refuseL x m.frm else beatL x m) j).toArray) ∧ Mem w0 W' (partRcd 91 40 9 3 66 (if m.ballot < x.dp then refuseL x m.frm else beatL x m) j ++ L):=by
  refine enter Tryz.func56 rfl Tryz.ntmps56 [(0,.agg (encRcd x i).toArray),(1,.agg (encMsg m am).toArray)] rfl ⟨rfl,rfl,trivial⟩ ?_
  unfold encRcd encMsg
  simp only [boxR,partRcd,List.cons_append,List.nil_append] at HM
  by_cases c1 : m.ballot < x.dp
  · rw [if_pos c1]
    unfold refuseL
    repeat (first|refine Y ?_|(refine qs ?_;clear HM;intro W1 HM)|(refine qf ?_;go_at_call 33;have HM2:=HM.nil tSlot 91;refine (holdS x i ⟨9,0,m.frm,x.dp,0,0,⟨#[]⟩,[]⟩ (none,0) (by exact pk_holds HM2)).mono ?_;clear HM2;rintro e W1 ⟨j2,rfl,HM1⟩;refine ⟨_,rfl,?_⟩;replace HM:=HM1;clear HM1;simp only [partRcd,List.cons_append,List.nil_append] at HM;simp only [encRcd])|(refine qg ?_;clear HM;intro g W1 HM))
    exact ret_cell HM rfl rfl rfl ⟨j2,rfl,by simp only [boxR,partRcd,List.cons_append,List.nil_append];exact HM.sb⟩
  rw [if_neg c1]
  repeat (first|refine Y ?_|(refine qs ?_;clear HM;intro W1 HM)|(refine qf ?_;go_at_call 96;refine (beatS x i m am hv hu hm (by exact pk_rec HM)).mono ?_;rintro e W1 ⟨j2,rfl,HM1⟩;refine ⟨_,rfl,?_⟩;replace HM:=HM1;clear HM1;simp only [partRcd,List.cons_append,List.nil_append] at HM;simp only [encRcd])|(refine qg ?_;clear HM;intro g W1 HM))
  exact ret_cell HM rfl rfl rfl ⟨j2,rfl,by simp only [boxR,partRcd,List.cons_append,List.nil_append];exact HM.sb⟩
theorem takeChosen (x : Rcd) (i : AtRcd) (m : Msg) (am : At) (hv : VR x) (hm : MsgP m x.of) (hk : m.kind = 6) (HM : Mem w0 W (partRcd 91 40 9 3 66 x i ++ L)) : Calls Tryz.prog 56 #[.agg (encRcd x i).toArray,.agg (encMsg m am).toArray] W fun e W'=>∃ j,e = .returned (.agg (encRcd (choL x m) j).toArray) ∧ Mem w0 W' (partRcd 91 40 9 3 66 (choL x m) j ++ L):=by
  refine enter Tryz.func56 rfl Tryz.ntmps56 [(0,.agg (encRcd x i).toArray),(1,.agg (encMsg m am).toArray)] rfl ⟨rfl,rfl,trivial⟩ ?_
  unfold encRcd encMsg
  have hd0:=hv.disk.k0
  have hd1:=hv.disk.k1
  have hdl:=hv.disk.slots.1
  have hix:=hm.index
  simp only [boxR,partRcd,List.cons_append,List.nil_append] at HM
  by_cases c1 : m.index = x.dk + 1
  rotate_left
  · have e : choL x m = x:=if_neg (fun h=>c1 h.1)
    rw [e]
    repeat (first|refine Y ?_|(refine qs ?_;clear HM;intro W1 HM)|(refine qg ?_;clear HM;intro g W1 HM))
    exact ret_cell HM rfl rfl rfl ⟨i,rfl,by simp only [boxR,partRcd,List.cons_append,List.nil_append];exact HM.sb⟩
  by_cases c2 : 0 < m.ballot
  rotate_left
  · have e : choL x m = x:=if_neg (fun h=>c2 h.2.1)
    rw [e]
    repeat (first|refine Y ?_|(refine qs ?_;clear HM;intro W1 HM)|(refine qg ?_;clear HM;intro g W1 HM))
    exact ret_cell HM rfl rfl rfl ⟨i,rfl,by simp only [boxR,partRcd,List.cons_append,List.nil_append];exact HM.sb⟩
  by_cases c3 : m.ballot ≤ x.dp
  rotate_left
  · have e : choL x m = x:=if_neg (fun h=>c3 h.2.2)
    rw [e]
    repeat (first|refine Y ?_|(refine qs ?_;clear HM;intro W1 HM)|(refine qg ?_;clear HM;intro g W1 HM))
    exact ret_cell HM rfl rfl rfl ⟨i,rfl,by simp only [boxR,partRcd,List.cons_append,List.nil_append];exact HM.sb⟩
  have e : choL x m = { setL x m.index ⟨m.ballot,m.text⟩ with dk:=m.index }:=if_pos ⟨c1,c2,c3⟩
  rw [e]
  repeat (first|refine Y ?_|(refine qs ?_;clear HM;intro W1 HM)|(refine qf ?_;go_at_call 82;refine (slotSetS x i m.index ⟨m.ballot,m.text⟩ (by omega) (by omega) (by omega) (by exact pk_rec HM)).mono ?_;rintro e W1 ⟨j2,rfl,HM1⟩;refine ⟨_,rfl,?_⟩;replace HM:=HM1;clear HM1;simp only [partRcd,List.cons_append,List.nil_append] at HM;simp only [encRcd])|(refine qg ?_;clear HM;intro g W1 HM))
  exact ret_cell HM rfl rfl rfl ⟨j2,rfl,by simp only [boxR,partRcd,List.cons_append,List.nil_append];exact HM.sb⟩
theorem takeWished (x : Rcd) (i : AtRcd) (m : Msg) (am : At) (hv : VR x) (hn : SmallR x) (hm : MsgP m x.of) (hk : m.kind = 8) (HM : Mem w0 W (partRcd 91 40 9 3 66 x i ++ L)) : Calls Tryz.prog 56 #[.agg (encRcd x i).toArray,.agg (encMsg m am).toArray] W fun e W'=>∃ j,e = .returned (.agg (encRcd (wish1 x m.text) j).toArray) ∧ Mem w0 W' (partRcd 91 40 9 3 66 (wish1 x m.text) j ++ L):=by
  refine enter Tryz.func56 rfl Tryz.ntmps56 [(0,.agg (encRcd x i).toArray),(1,.agg (encMsg m am).toArray)] rfl ⟨rfl,rfl,trivial⟩ ?_
  unfold encRcd encMsg
  have ht:=hm.text
  simp only [boxR,partRcd,List.cons_append,List.nil_append] at HM
  repeat (first|refine Y ?_|(refine qs ?_;clear HM;intro W1 HM)|(refine qf ?_;go_at_call 61;refine (l3Wish_c x i m.text (validB_iff.2 hv) hn (by omega) (by exact pk_rec HM)).mono ?_;rintro e W1 ⟨j2,rfl,HM1⟩;refine ⟨_,rfl,?_⟩;replace HM:=HM1;clear HM1;simp only [partRcd,List.cons_append,List.nil_append] at HM;simp only [encRcd])|(refine qg ?_;clear HM;intro g W1 HM))
  exact ret_cell HM rfl rfl rfl ⟨j2,rfl,by simp only [boxR,partRcd,List.cons_append,List.nil_append];exact HM.sb⟩
theorem takeRefuse (x : Rcd) (i : AtRcd) (m : Msg) (am : At) (hk : m.kind = 9) (HM : Mem w0 W (partRcd 91 40 9 3 66 x i ++ L)) : Calls Tryz.prog 56 #[.agg (encRcd x i).toArray,.agg (encMsg m am).toArray] W fun e W'=>∃ j,e = .returned (.agg (encRcd (refL x m) j).toArray) ∧ Mem w0 W' (partRcd 91 40 9 3 66 (refL x m) j ++ L):=by
  refine enter Tryz.func56 rfl Tryz.ntmps56 [(0,.agg (encRcd x i).toArray),(1,.agg (encMsg m am).toArray)] rfl ⟨rfl,rfl,trivial⟩ ?_
  unfold encRcd encMsg
  simp only [boxR,partRcd,List.cons_append,List.nil_append] at HM
  by_cases c1 : x.ballot < m.ballot
  rotate_left
  · have e : refL x m = x:=if_neg (fun h=>c1 h.1)
    rw [e]
    repeat (first|refine Y ?_|(refine qs ?_;clear HM;intro W1 HM)|(refine qg ?_;clear HM;intro g W1 HM))
    exact ret_cell HM rfl rfl rfl ⟨i,rfl,by simp only [boxR,partRcd,List.cons_append,List.nil_append];exact HM.sb⟩
  by_cases c0 : x.lead = true ∨ x.trying = true
  rotate_left
  · have e : refL x m = x:=if_neg (fun h=>c0 h.2)
    have c2 : x.lead = false:=by cases h : x.lead <;> simp_all
    have c3 : x.trying = false:=by cases h : x.trying <;> simp_all
    rw [e]
    repeat (first|refine Y ?_|(refine qs ?_;clear HM;intro W1 HM)|(refine qg ?_;clear HM;intro g W1 HM))
    exact ret_cell HM rfl rfl rfl ⟨i,rfl,by simp only [boxR,partRcd,List.cons_append,List.nil_append];exact HM.sb⟩
  have e : refL x m = { calmL x with dp:=max x.dp m.ballot }:=if_pos ⟨c1,c0⟩
  rw [e]
  by_cases c4 : x.dp < m.ballot
  · rw [show max x.dp m.ballot = m.ballot by omega]
    by_cases c2 : x.lead = true
    · repeat (first|refine Y ?_|(refine qs ?_;clear HM;intro W1 HM)|(refine qf ?_;go_at_call 31;refine (calmS x i (by exact pk_rec HM)).mono ?_;rintro e W1 ⟨j2,rfl,HM1⟩;refine ⟨_,rfl,?_⟩;replace HM:=HM1;clear HM1;simp only [calmL,partRcd,List.cons_append,List.nil_append] at HM;simp only [calmL,encRcd])|(refine qg ?_;clear HM;intro g W1 HM))
      exact ret_cell HM rfl rfl rfl ⟨j2,rfl,by simp only [calmL,partRcd,List.cons_append,List.nil_append];exact HM.sb⟩
    · simp only [Bool.not_eq_true] at c2
      have c3 : x.trying = true:=by cases h : x.trying <;> simp_all
      repeat (first|refine Y ?_|(refine qs ?_;clear HM;intro W1 HM)|(refine qf ?_;go_at_call 31;refine (calmS x i (by exact pk_rec HM)).mono ?_;rintro e W1 ⟨j2,rfl,HM1⟩;refine ⟨_,rfl,?_⟩;replace HM:=HM1;clear HM1;simp only [calmL,partRcd,List.cons_append,List.nil_append] at HM;simp only [calmL,encRcd])|(refine qg ?_;clear HM;intro g W1 HM))
      exact ret_cell HM rfl rfl rfl ⟨j2,rfl,by simp only [calmL,partRcd,List.cons_append,List.nil_append];exact HM.sb⟩
  · rw [show max x.dp m.ballot = x.dp by omega]
    by_cases c2 : x.lead = true
    · repeat (first|refine Y ?_|(refine qs ?_;clear HM;intro W1 HM)|(refine qf ?_;go_at_call 31;refine (calmS x i (by exact pk_rec HM)).mono ?_;rintro e W1 ⟨j2,rfl,HM1⟩;refine ⟨_,rfl,?_⟩;replace HM:=HM1;clear HM1;simp only [calmL,partRcd,List.cons_append,List.nil_append] at HM;simp only [calmL,encRcd])|(refine qg ?_;clear HM;intro g W1 HM))
      exact ret_cell HM rfl rfl rfl ⟨j2,rfl,by simp only [calmL,partRcd,List.cons_append,List.nil_append];exact HM.sb⟩
    · simp only [Bool.not_eq_true] at c2
      have c3 : x.trying = true:=by cases h : x.trying <;> simp_all
      repeat (first|refine Y ?_|(refine qs ?_;clear HM;intro W1 HM)|(refine qf ?_;go_at_call 31;refine (calmS x i (by exact pk_rec HM)).mono ?_;rintro e W1 ⟨j2,rfl,HM1⟩;refine ⟨_,rfl,?_⟩;replace HM:=HM1;clear HM1;simp only [calmL,partRcd,List.cons_append,List.nil_append] at HM;simp only [calmL,encRcd])|(refine qg ?_;clear HM;intro g W1 HM))
      exact ret_cell HM rfl rfl rfl ⟨j2,rfl,by simp only [calmL,partRcd,List.cons_append,List.nil_append];exact HM.sb⟩
end Go.Proofs.YtampmicahnnebaaGreat.Sp
namespace Go.Proofs.YtampmicahnnebaaGreat.Sp
open Go Go.RowKit
set_option maxRecDepth 10000
set_option maxHeartbeats 2000000
variable {w0 W : World} {L : List Asn}
theorem hold_ds (y : Rcd) (m : Msg) : (holdL y m).ds = y.ds ∧ (holdL y m).dk = y.dk ∧ (holdL y m).ballot = y.ballot ∧ (holdL y m).lead = y.lead:=by unfold holdL;split <;> exact ⟨rfl,rfl,rfl,rfl⟩
theorem needL_out {to : Int} {n : Nat} {i : Int} {y : Rcd} (h : ¬ i ≤ y.dk) : needL to n i y = y:=by
  cases n with
  | zero=>rfl
  | succ n=>rw [needL,if_neg h]
theorem takeNeed (x : Rcd) (i : AtRcd) (m : Msg) (am : At) (hv : VR x) (hm : MsgP m x.of) (hk : m.kind = 7) (HM : Mem w0 W (partRcd 91 40 9 3 66 x i ++ L)) : Calls Tryz.prog 56 #[.agg (encRcd x i).toArray,.agg (encMsg m am).toArray] W fun e W'=>∃ j,e = .returned (.agg (encRcd (if x.lead = true ∧ 0 < m.index then needL m.frm 5 m.index x else x) j).toArray) ∧ Mem w0 W' (partRcd 91 40 9 3 66 (if x.lead = true ∧ 0 < m.index then needL m.frm 5 m.index x else x) j ++ L):=by
  refine enter Tryz.func56 rfl Tryz.ntmps56 [(0,.agg (encRcd x i).toArray),(1,.agg (encMsg m am).toArray)] rfl ⟨rfl,rfl,trivial⟩ ?_
  unfold encRcd encMsg
  have hd0:=hv.disk.k0
  have hd1:=hv.disk.k1
  have hdl:=hv.disk.slots.1
  have hix:=hm.index
  simp only [boxR,partRcd,List.cons_append,List.nil_append] at HM
  by_cases c1 : x.lead = true
  rotate_left
  · rw [if_neg (fun h=>c1 h.1)]
    simp only [Bool.not_eq_true] at c1
    repeat (first|refine Y ?_|(refine qg ?_;clear HM;intro g W1 HM))
    refine c_once ?_
    repeat (first|refine Y ?_|(refine qs ?_;clear HM;intro W1 HM))
    exact ret_cell HM rfl rfl rfl ⟨i,rfl,by simp only [boxR,partRcd,List.cons_append,List.nil_append];exact HM.sb⟩
  by_cases c2 : 0 < m.index
  rotate_left
  · rw [if_neg (fun h=>c2 h.2)]
    repeat (first|refine Y ?_|(refine qg ?_;clear HM;intro g W1 HM))
    refine c_once ?_
    repeat (first|refine Y ?_|(refine qs ?_;clear HM;intro W1 HM))
    exact ret_cell HM rfl rfl rfl ⟨i,rfl,by simp only [boxR,partRcd,List.cons_append,List.nil_append];exact HM.sb⟩
  rw [if_pos ⟨c1,c2⟩]
  repeat (first|refine Y ?_|(refine qg ?_;clear HM;intro g W1 HM))
  rename_i gr _ gm _
  replace HM : Mem w0 _ (boxR 91 40 9 3 66 31 gr x i ++ _):=pk_boxr HM
  refine c_loop (σ:=Nat × Rcd) (fun s=>[(2,.pointer (some ⟨gr,0,none⟩)),(3,.pointer (some ⟨gm,0,none⟩)),(4,.pointer (some ⟨g,0,none⟩)),(5,.int .i64 (m.index + s.1))]) (fun s W1=>s.1 ≤ 5 ∧ needL m.frm (5 - s.1) (m.index + s.1) s.2 = needL m.frm 5 m.index x ∧ s.2.ds = x.ds ∧ s.2.dk = x.dk ∧ s.2.lead = true ∧ ∃ j,Mem w0 W1 (boxR 91 40 9 3 66 31 gr s.2 j ++ _)) (fun s=>5 - s.1) (0,x) (by simp only [Int.add_zero,Int.natCast_zero];exact U) ⟨Nat.zero_le _,by simp,rfl,rfl,c1,i,HM⟩ ?_
  clear HM
  rintro ⟨k,y⟩ W1 ⟨hk,hl,e1,e2,e3,j,HM⟩
  dsimp only at hk hl e1 e2 e3 HM ⊢
  simp only [boxR,partRcd,List.cons_append,List.nil_append] at HM
  rw [← e1,← e2] at hd1
  rw [← e1] at hdl
  by_cases h5 : k < 5
  rotate_left
  · rw [show 5 - k = 0 by omega,needL] at hl
    rw [← hl]
    repeat (first|refine Y ?_|(refine qs ?_;clear HM;intro W1 HM))
    exact ret_cell HM rfl rfl rfl ⟨j,rfl,by simp only [boxR,partRcd,List.cons_append,List.nil_append];exact HM.sb⟩
  by_cases hi : m.index + k ≤ y.dk
  rotate_left
  · rw [needL_out hi] at hl
    rw [← hl]
    repeat (first|refine Y ?_|(refine qs ?_;clear HM;intro W1 HM))
    exact ret_cell HM rfl rfl rfl ⟨j,rfl,by simp only [boxR,partRcd,List.cons_append,List.nil_append];exact HM.sb⟩
  obtain ⟨q1,q2,q3,q4⟩:=hold_ds y ⟨6,0,m.frm,y.ballot,m.index + k,0,(rd tSlot y.ds (m.index + k - 1)).text,[]⟩
  have hst : needL m.frm (5 - (k + 1)) (m.index + ((k + 1 : Nat) : Int)) (holdL y ⟨6,0,m.frm,y.ballot,m.index + k,0,(rd tSlot y.ds (m.index + k - 1)).text,[]⟩) = needL m.frm 5 m.index x:=by
    rw [← hl,show 5 - k = (5 - (k + 1)) + 1 by omega,needL,if_pos hi,show m.index + ((k + 1 : Nat) : Int) = m.index + k + 1 by omega]
  repeat (first|(refine gR ?_;refine d_start [15,16] [(0,1),(0,3),(0,5),(0,6),(0,7),(0,9),(0,10),(1,0),(1,2),(1,4),(1,8),(0,11),(0,12),(1,13),(2,14),(3,15),(3,16)] HM (by kernel_rfl) (by kernel_rfl) qq (by kernel_rfl) rfl ?_;intro HQ HS W1 HM1;replace HM:=HM1;clear HM1)|refine Y ?_|(refine qs ?_;clear HM;intro W1 HM)|(refine qf ?_;go_at_call 33;have HM2:=HM.nil tSlot 91;refine (holdS y j ⟨6,0,m.frm,y.ballot,m.index + k,0,(rd tSlot y.ds (m.index + k - 1)).text,[]⟩ (none,0) (by exact pk_holds HM2)).mono ?_;clear HM2;rintro e W1 ⟨j2,rfl,HM1⟩;refine ⟨_,rfl,?_⟩;replace HM:=HM1;clear HM1;simp only [partRcd,List.cons_append,List.nil_append] at HM;simp only [encRcd]))
  exact n_round (k + 1,holdL y ⟨6,0,m.frm,y.ballot,m.index + k,0,(rd tSlot y.ds (m.index + k - 1)).text,[]⟩) (by simp only [Int.natCast_add,Int.natCast_one,← Int.add_assoc];exact U) ⟨by dsimp only;omega,hst,by rw [q1];exact e1,by rw [q2];exact e2,by rw [q4];exact e3,j2,by exact pk_boxr HM⟩ (by dsimp only;omega)
end Go.Proofs.YtampmicahnnebaaGreat.Sp
namespace Go.Proofs.YtampmicahnnebaaGreat.Sp
open Go Go.RowKit
set_option maxRecDepth 10000
set_option maxHeartbeats 2000000
variable {w0 W : World} {L : List Asn}
theorem vr_small {x : Rcd} (h : VR x) : SmallR x:=by
  have h1:=h.safe.slots.1
  have h2:=h.disk.slots.1
  have h3:=h.heldLen
  have h4:=h.wishes.len
  have h5:=nums_len h.yes h.of5
  have h6:=h.best.1
  have h7:=acks_len h.acks
  exact ⟨by omega,by omega,by omega,fun m hm=>by have:=(h.held m hm).1.slots.1;omega,by omega,by omega,by omega,by omega,fun a ha=>by have:=nums_len (h.acks.all a ha).2 h.of5;omega⟩
theorem takeS (x : Rcd) (i : AtRcd) (m : Msg) (am : At) (hv : VR x) (hu : x.up = true) (hm : MsgP m x.of) {b : Bool} (hb : ∀ W',Mem w0 W' L → RoRow (rSlot b) W' am.1 m.slots) (HM : Mem w0 W (partRcd 91 40 9 3 66 x i ++ L)) : Calls Tryz.prog 56 #[.agg (encRcd x i).toArray,.agg (encMsg m am).toArray] W fun e W'=>∃ j,e = .returned (.agg (encRcd (takeL x m) j).toArray) ∧ Mem w0 W' (partRcd 91 40 9 3 66 (takeL x m) j ++ L):=by
  have hk:=hm.kind
  unfold takeL
  by_cases k1 : m.kind = 1
  · rw [if_pos k1];exact takePrep x i m am hv k1 HM
  rw [if_neg k1]
  by_cases k2 : m.kind = 2
  · rw [if_pos k2];exact takePromised x i m am hv hm k2 hb HM
  rw [if_neg k2]
  by_cases k3 : m.kind = 3
  · rw [if_pos k3];exact takeAccept x i m am hv hm k3 HM
  rw [if_neg k3]
  by_cases k4 : m.kind = 4
  · rw [if_pos k4];exact takeAccepted x i m am hv hm k4 HM
  rw [if_neg k4]
  by_cases k5 : m.kind = 5
  · rw [if_pos k5];exact takeBeat x i m am hv hu hm k5 HM
  rw [if_neg k5]
  by_cases k6 : m.kind = 6
  · rw [if_pos k6];exact takeChosen x i m am hv hm k6 HM
  rw [if_neg k6]
  by_cases k7 : m.kind = 7
  · rw [if_pos k7];exact takeNeed x i m am hv hm k7 HM
  rw [if_neg k7]
  by_cases k8 : m.kind = 8
  · rw [if_pos k8];exact takeWished x i m am hv (vr_small hv) hm k8 HM
  rw [if_neg k8,if_pos (show m.kind = 9 by omega)]
  exact takeRefuse x i m am (by omega) HM
end Go.Proofs.YtampmicahnnebaaGreat.Sp
namespace Go.Proofs.YtampmicahnnebaaGreat.Sp
open Go Go.RowKit
set_option maxRecDepth 10000
set_option maxHeartbeats 2000000
variable {w0 W : World} {L : List Asn}
instance {n : Nat} : Flat (tRaw n) id:=⟨fun ⟨_,h,_⟩=>h.1⟩
theorem lels_cons {α : Type} {D : Ty α} {y : α} {ys : List α} {c : List Value} {css : List (List Value)} (h : Mem w0 W (lels D (y :: ys) (c :: css) :: L)) : Mem w0 W (D.A y c :: lels D ys css :: L):=by
  obtain ⟨_,hl,h⟩:=h.ex
  have h2 : Mem w0 W (els D ys css ++ (D.A y c :: L)):=h.perm (List.perm_middle (a:=D.A y c) (l₁:=els D ys css) (l₂:=L)).symm
  exact (Mem.mkx () (by simpa using hl) h2 : Mem w0 W (lels D ys css :: D.A y c :: L)).perm (List.Perm.swap ..)
theorem mid_drop {A R : List Asn} {B : Asn} (h : Mem w0 W (A ++ (B :: R))) : Mem w0 W (A ++ R):=(h.perm List.perm_middle).drop
theorem tick_off (x : Rcd) (i : AtRcd) (h : RoRcd false w0 x i) (hn : SmallR x) (hv : validB x = false) (HM : Mem w0 W L) : Calls Tryz.prog 6 #[.agg (encRcd x i).toArray] W fun e W'=>∃ j A c,e = .returned (.tuple #[.agg (encRcd zeroR j).toArray,.slice A ([] : List Msg).length c]) ∧ Mem w0 W' (own (tMsg 91) 40 A c [] :: (partRcd 91 40 9 3 66 zeroR j ++ L)):=by
  refine enter Tryz.func6 rfl Tryz.ntmps6 [(0,.agg (encRcd x i).toArray)] rfl ⟨rfl,trivial⟩ ?_
  have h0:=h
  unfold encRcd
  repeat (first|refine Y ?_|(refine qs ?_;clear HM;intro W1 HM)|(refine qf ?_;go_at_call 9;refine (specValid x i h0 hn HM).mono ?_;rintro e W1 ⟨rfl,HM1⟩;refine ⟨_,rfl,?_⟩;replace HM:=HM1;clear HM1)|(refine qg ?_;clear HM;intro g W1 HM)|(refine qz ?_;clear HM;intro A1 W1 HM))
  have HM2:=HM.zeroR 91 40 9 3 66
  simp only [partRcd,zeroR,atZ,List.cons_append,List.nil_append] at HM2
  exact ret_ct HM2 rfl rfl rfl rfl ⟨atZ,_,_,rfl,by simp only [partRcd,zeroR,atZ,List.cons_append,List.nil_append];exact HM2.sb⟩
theorem tick_down (x : Rcd) (i : AtRcd) (h : RoRcd false w0 x i) (hn : SmallR x) (hv : validB x = true) (hu : x.up = false) (HM : Mem w0 W L) : Calls Tryz.prog 6 #[.agg (encRcd x i).toArray] W fun e W'=>∃ j A c,e = .returned (.tuple #[.agg (encRcd x j).toArray,.slice A ([] : List Msg).length c]) ∧ Mem w0 W' (own (tMsg 91) 40 A c [] :: (partRcd 91 40 9 3 66 x j ++ L)):=by
  refine enter Tryz.func6 rfl Tryz.ntmps6 [(0,.agg (encRcd x i).toArray)] rfl ⟨rfl,trivial⟩ ?_
  have h0:=h
  unfold encRcd
  repeat (first|refine Y ?_|(refine qs ?_;clear HM;intro W1 HM)|(refine qf ?_;first|(go_at_call 9;refine (specValid x i h0 hn HM).mono ?_;rintro e W1 ⟨rfl,HM1⟩;refine ⟨_,rfl,?_⟩;replace HM:=HM1;clear HM1)|(go_at_call 24;refine (l2Copy_c x _ h0 hn HM).mono ?_;rintro e W1 ⟨j2,rfl,HM1⟩;refine ⟨_,rfl,?_⟩;replace HM:=HM1;clear HM1;simp only [partRcd,List.cons_append,List.nil_append] at HM;simp only [encRcd]))|(refine qg ?_;clear HM;intro g W1 HM)|(refine qz ?_;clear HM;intro A1 W1 HM))
  exact ret_ct HM rfl rfl rfl rfl ⟨j2,_,_,rfl,by simp only [boxR,partRcd,List.cons_append,List.nil_append];exact HM.sb⟩
theorem tickS (x : Rcd) (i : AtRcd) (h : RoRcd false w0 x i) (hn : SmallR x) (hv : validB x = true) (hu : x.up = true) (HM : Mem w0 W L) : Calls Tryz.prog 6 #[.agg (encRcd x i).toArray] W fun e W'=>∃ j A c,e = .returned (.tuple #[.agg (encRcd (tickL x) j).toArray,.slice A (tickOut x).length c]) ∧ Mem w0 W' (own (tMsg 91) 40 A c (tickOut x) :: (partRcd 91 40 9 3 66 (tickL x) j ++ L)):=by
  refine enter Tryz.func6 rfl Tryz.ntmps6 [(0,.agg (encRcd x i).toArray)] rfl ⟨rfl,trivial⟩ ?_
  have h0:=h
  have hV:=validB_iff.1 hv
  have hdl:=hV.disk.slots.1
  have hdk0:=hV.disk.k0
  have hdk1:=hV.disk.k1
  have hhl:=hV.heldLen
  have hwl:=hV.wishes.len
  unfold encRcd
  repeat (first|(refine gCall ?_;obtain ⟨css,hcl,HMr⟩:=opn_raw (HM.pk (A:=own (tMsg 91) 40 j2.a2.1 j2.a2.2 x.held));clear HM;obtain ⟨F1,hF1⟩:=HMr.own (A:=j2.a2.1);have hd:=ro_rdc (ro_raws hF1);rw [List.map_id,hcl] at hd;clear hF1;refine s_appn (ys:=x.held) (css:=css) HMr rfl rfl rfl rfl hd (by omega) (by simp only [List.length_nil];omega) rfl ?_;clear hd;intro A1 c1 W1 HM1;clear HMr;have HM:=HM1;clear HM1)|refine Y ?_|(refine qs ?_;clear HM;intro W1 HM)|(refine qf ?_;first|(go_at_call 9;refine (specValid x i h0 hn HM).mono ?_;rintro e W1 ⟨rfl,HM1⟩;refine ⟨_,rfl,?_⟩;replace HM:=HM1;clear HM1)|(go_at_call 24;refine (l2Copy_c x _ h0 hn HM).mono ?_;rintro e W1 ⟨j2,rfl,HM1⟩;refine ⟨_,rfl,?_⟩;replace HM:=HM1;clear HM1;simp only [partRcd,List.cons_append,List.nil_append] at HM;simp only [encRcd])|(go_at_call 25;obtain ⟨F1,hF1⟩:=HM.own (A:=j2.a1.1);refine (l1Disk_c x.dp x.dk (ro_slots hF1) (by omega) (Mem.start _)).mono ?_;clear hF1;rintro e W1 ⟨A3,c3,rfl,HM1⟩;refine ⟨_,rfl,?_⟩;replace HM:=HM.join HM1;clear HM1;simp only [List.cons_append,List.nil_append] at HM))|(refine qg ?_;clear HM;intro g W1 HM)|(refine qz ?_;clear HM;intro A1 W1 HM))
  rename_i Ao _ Ah _ _
  rename_i g0 _ _ _ _ _ _ _ _ _ _ _ _ _
  have e0 : ([] ++ x.held) = x.held:=List.nil_append _
  simp only [e0] at HM ⊢
  obtain ⟨co,hco⟩ : ∃ co,co = c1:=⟨_,rfl⟩
  subst hco
  have hcd : x.ds.length ≤ j2.a1.2:=by obtain ⟨F1,hF1⟩:=HM.own (A:=j2.a1.1);exact (own_max hF1).2
  have HMn:=(show Mem w0 _ (own tStr 9 A1 0 [] :: (boxR 91 40 9 3 66 31 g { x with sp:=x.dp,sk:=x.dk,ss:=x.ds,held:=[] } ⟨(A3,c3),j2.a1,(Ah,0),j2.a3,j2.a4,j2.a5,j2.a6⟩ ++ _)) from (pk_boxr (x:={ x with sp:=x.dp,sk:=x.dk,ss:=x.ds,held:=[] }) (i:=⟨(A3,c3),j2.a1,(Ah,0),j2.a3,j2.a4,j2.a5,j2.a6⟩) (HM.pk (A:=own tStr 9 A1 0 []))).perm List.perm_middle).name2
  clear HM
  obtain ⟨R,hR,HM⟩:=HMn
  refine c_loop2 (σ:=Nat × List ByteArray) (fun s A c=>[(2,.pointer (some ⟨g0,0,none⟩)),(4,.slice Ao x.held.length co),(5,.pointer (some ⟨g,0,none⟩)),(6,.slice A s.2.length c),(7,.int .i64 s.1)]) (fun s A c W1=>s.1 ≤ x.wishes.length ∧ s.2 = (x.wishes.take s.1).filter (fun w=>!hasB (x.ds.take x.dk.toNat) w) ∧ Mem w0 W1 (own tStr 9 A c s.2 :: (boxR 91 40 9 3 66 31 g { x with sp:=x.dp,sk:=x.dk,ss:=x.ds,held:=[] } ⟨(A3,c3),j2.a1,(Ah,0),j2.a3,j2.a4,j2.a5,j2.a6⟩ ++ R))) (fun s=>x.wishes.length - s.1) (0,[]) A1 0 U ⟨Nat.zero_le _,rfl,HM⟩ ?_
  clear HM
  rintro ⟨k,q⟩ A c W1 ⟨hk,hq,HM⟩
  dsimp only at hk hq HM ⊢
  subst hR
  simp only [boxR,partRcd,List.cons_append,List.nil_append] at HM
  have hql : q.length ≤ k:=by rw [hq];exact Nat.le_trans (List.length_filter_le _ _) (by rw [List.length_take];omega)
  by_cases hlt : k < x.wishes.length
  · have e1:=rd_at (d:=tStr) hlt
    by_cases c1 : hasB (x.ds.take x.dk.toNat) (rd tStr x.wishes k) = true
    · have hst : q = (x.wishes.take (k + 1)).filter (fun w=>!hasB (x.ds.take x.dk.toNat) w):=by
        rw [List.take_succ_eq_append_getElem hlt,List.filter_append,← hq,← e1,List.filter_cons,List.filter_nil,c1];simp
      repeat (first|(refine gR ?_;refine d_start [] [(0,0),(0,1),(0,3),(0,4),(0,7),(0,9),(1,2),(1,5),(0,6),(1,8),(0,10),(1,11),(2,12),(0,13)] HM (by kernel_rfl) (by kernel_rfl) qq (by kernel_rfl) rfl ?_;intro HQ HS W1 HM1;replace HM:=HM1;clear HM1)|refine Y ?_|(refine qf ?_;go_at_call 26;obtain ⟨F1,hF1⟩:=HM.own (A:=j2.a1.1);refine (has3_c (l:=x.dk.toNat) (zs:=x.ds.take x.dk.toNat) (by simp only [List.length_take];omega) (rd tStr x.wishes k) (ro_take (ro_slots hF1) x.dk.toNat) (Mem.start _)).mono ?_;clear hF1;rintro e W1 ⟨rfl,HM1⟩;refine ⟨_,rfl,?_⟩;have HM2:=HM.step HM1.below;clear HM HM1;have HM:=HM2;clear HM2))
      exact n_round2 (k + 1,q) A c U ⟨hlt,hst,by exact (pk_boxr (x:={ x with sp:=x.dp,sk:=x.dk,ss:=x.ds,held:=[] }) (i:=⟨(A3,c3),j2.a1,(Ah,0),j2.a3,j2.a4,j2.a5,j2.a6⟩) (HM.pk (A:=own tStr 9 A c q))).perm List.perm_middle⟩ (by dsimp only;omega)
    · simp only [Bool.not_eq_true] at c1
      have hst : q ++ [rd tStr x.wishes k] = (x.wishes.take (k + 1)).filter (fun w=>!hasB (x.ds.take x.dk.toNat) w):=by
        rw [List.take_succ_eq_append_getElem hlt,List.filter_append,← hq,← e1,List.filter_cons,List.filter_nil,c1];simp
      repeat (first|(refine gR ?_;refine d_start [] [(0,0),(0,1),(0,3),(0,4),(0,7),(0,9),(1,2),(1,5),(0,6),(1,8),(0,10),(1,11),(2,12),(0,13)] HM (by kernel_rfl) (by kernel_rfl) qq (by kernel_rfl) rfl ?_;intro HQ HS W1 HM1;replace HM:=HM1;clear HM1)|refine Y ?_|(refine qf ?_;go_at_call 26;obtain ⟨F1,hF1⟩:=HM.own (A:=j2.a1.1);refine (has3_c (l:=x.dk.toNat) (zs:=x.ds.take x.dk.toNat) (by simp only [List.length_take];omega) (rd tStr x.wishes k) (ro_take (ro_slots hF1) x.dk.toNat) (Mem.start _)).mono ?_;clear hF1;rintro e W1 ⟨rfl,HM1⟩;refine ⟨_,rfl,?_⟩;have HM2:=HM.step HM1.below;clear HM HM1;have HM:=HM2;clear HM2)|(refine qa ?_;clear HM;intro A1 c1 W1 HM)|(refine qg ?_;clear HM;intro g W1 HM))
      exact n_round2 (k + 1,q ++ [rd tStr x.wishes k]) A1 c1 U ⟨hlt,hst,by exact (pk_boxr (x:={ x with sp:=x.dp,sk:=x.dk,ss:=x.ds,held:=[] }) (i:=⟨(A3,c3),j2.a1,(Ah,0),j2.a3,j2.a4,j2.a5,j2.a6⟩) (HM.pk (A:=own tStr 9 A1 c1 (q ++ [rd tStr x.wishes k])))).perm List.perm_middle⟩ (by dsimp only;omega)
  obtain rfl : k = x.wishes.length:=by omega
  rw [List.take_length] at hq
  subst hq
  repeat (first|refine Y ?_|(refine qs ?_;clear HM;intro W1 HM))
  have HMn:=(show Mem w0 _ (boxR 91 40 9 3 66 31 g { x with sp:=x.dp,sk:=x.dk,ss:=x.ds,held:=[],wishes:=x.wishes.filter (fun w=>!hasB (x.ds.take x.dk.toNat) w) } ⟨(A3,c3),j2.a1,(Ah,0),(A,c),j2.a4,j2.a5,j2.a6⟩ ++ _) from pk_boxr (x:={ x with sp:=x.dp,sk:=x.dk,ss:=x.ds,held:=[],wishes:=x.wishes.filter (fun w=>!hasB (x.ds.take x.dk.toNat) w) }) (i:=⟨(A3,c3),j2.a1,(Ah,0),(A,c),j2.a4,j2.a5,j2.a6⟩) HM).name
  clear HM
  obtain ⟨R,hR,HM⟩:=HMn
  refine c_cutn (σ:=AtRcd) (fun s=>[(2,.pointer (some ⟨g0,0,none⟩)),(4,.slice Ao x.held.length co),(5,.pointer (some ⟨g,0,none⟩))]) (fun s W1=>Mem w0 W1 (boxR 91 40 9 3 66 31 g (tick1 x) s ++ R)) ?_ ?_
  · subst hR
    simp only [boxR,partRcd,List.cons_append,List.nil_append] at HM
    have hh1:=hV.h1
    by_cases c1 : x.heard < 1000000
    · have e : tick1 x = { x with sp:=x.dp,sk:=x.dk,ss:=x.ds,held:=[],wishes:=x.wishes.filter (fun w=>!hasB (x.ds.take x.dk.toNat) w),heard:=x.heard + 1 }:=by unfold tick1;rw [if_pos c1]
      have hh0:=hV.h0
      repeat (first|refine Y ?_|(refine qs ?_;clear HM;intro W1 HM))
      exact n_mid ⟨(A3,c3),j2.a1,(Ah,0),(A,c),j2.a4,j2.a5,j2.a6⟩ U (by rw [e];exact pk_boxr (x:={ x with sp:=x.dp,sk:=x.dk,ss:=x.ds,held:=[],wishes:=x.wishes.filter (fun w=>!hasB (x.ds.take x.dk.toNat) w),heard:=x.heard + 1 }) (i:=⟨(A3,c3),j2.a1,(Ah,0),(A,c),j2.a4,j2.a5,j2.a6⟩) HM)
    · have e : tick1 x = { x with sp:=x.dp,sk:=x.dk,ss:=x.ds,held:=[],wishes:=x.wishes.filter (fun w=>!hasB (x.ds.take x.dk.toNat) w) }:=by unfold tick1;rw [if_neg c1]
      repeat ((refine gC ?_;first|refine c_skip ?_|refine c_no rfl (by (simp;omega)) ?_))
      exact n_mid ⟨(A3,c3),j2.a1,(Ah,0),(A,c),j2.a4,j2.a5,j2.a6⟩ U (by rw [e];exact pk_boxr (x:={ x with sp:=x.dp,sk:=x.dk,ss:=x.ds,held:=[],wishes:=x.wishes.filter (fun w=>!hasB (x.ds.take x.dk.toNat) w) }) (i:=⟨(A3,c3),j2.a1,(Ah,0),(A,c),j2.a4,j2.a5,j2.a6⟩) HM)
  clear HM
  rintro j W1 HM
  obtain ⟨hv1,k1⟩:=vr_tick1 hV hu
  have hO : tickOut x = (if (tick2 (tick1 x)).lead = true then leadOut (lead1 (tick2 (tick1 x))) x.held else x.held):=rfl
  have hT : tickL x = (if (tick2 (tick1 x)).lead = true then lead1 (tick2 (tick1 x)) else tick3 (tick2 (tick1 x))):=rfl
  rw [hO,hT]
  clear hO hT
  generalize tick1 x = y at *
  refine c_seq ?_
  refine c_cutn (σ:=AtRcd) (fun s=>[(2,.pointer (some ⟨g0,0,none⟩)),(4,.slice Ao x.held.length co),(5,.pointer (some ⟨g,0,none⟩))]) (fun s W1=>Mem w0 W1 (boxR 91 40 9 3 66 31 g (tick2 y) s ++ R)) ?_ ?_
  · subst hR
    simp only [boxR,partRcd,List.cons_append,List.nil_append] at HM
    by_cases c1 : y.trying = true
    rotate_left
    · have e : tick2 y = y:=if_neg (fun h=>c1 h.1)
      simp only [Bool.not_eq_true] at c1
      repeat refine Y ?_
      exact n_mid j U (by rw [e];exact pk_boxr HM)
    by_cases c2 : y.sp = y.ballot
    rotate_left
    · have e : tick2 y = y:=if_neg (fun h=>c2 h.2)
      repeat refine Y ?_
      exact n_mid j U (by rw [e];exact pk_boxr HM)
    have e : tick2 y = promL y y.number y.ds:=if_pos ⟨c1,c2⟩
    have p0:=hv1.disk.k0
    have p1:=nums_len hv1.yes hv1.of5
    have p2:=hv1.best.1
    have p4:=hv1.disk.slots.1
    repeat (first|refine Y ?_|(refine qs ?_;clear HM;intro W1 HM)|(refine qf ?_;go_at_call 27;have HMp:=(show Mem w0 _ (partRcd 91 40 9 3 66 y j ++ _) from pk_rec HM);refine (promS y j y.number (b:=false) (fun W' h=>by obtain ⟨F1,hF1⟩:=h.own (A:=j.a1.1);exact ro_slots hF1) p0 (by omega) (by omega) (by omega) (by omega) HMp).mono ?_;clear HMp;rintro e W1 ⟨j3,rfl,HM1⟩;refine ⟨_,rfl,?_⟩;replace HM:=HM1;clear HM1;simp only [partRcd,List.cons_append,List.nil_append] at HM;simp only [encRcd]))
    exact n_mid j3 U (by rw [e];exact pk_boxr HM)
  clear HM
  rintro jz W1 HM
  obtain ⟨hv2,k2⟩:=vr_tick2 hv1
  have k12:=k1.trans k2
  have hzu : (tick2 y).up = true:=k12.up.trans hu
  have hzo:=k12.of
  have hzn:=k12.number
  clear k1 k2 hv1
  generalize tick2 y = z at *
  by_cases cl : z.lead = true
  · rw [if_pos cl,if_pos cl]
    subst hR
    simp only [boxR,partRcd,List.cons_append,List.nil_append] at HM
    obtain ⟨hv3,hl3⟩:=vr_lead1 hv2 cl
    have k3:=kp_lead1 hv2 cl
    have hok:=leadOut_ok hv3 hl3 (o:=x.held) (by rw [k3.of,k3.number,hzo,hzn];exact hV.held)
    have hos : ∀ m ∈ leadOut (lead1 z) x.held,m.slots.length ≤ 1048576:=fun m hm=>by have:=(hok m hm).1.slots.1;omega
    have hol : (leadOut (lead1 z) x.held).length ≤ 1048576:=by
      have a1:=accOut_len (lead1 z) ((lead1 z).ds.length - (lead1 z).dk.toNat) (lead1 z).dk.toNat (othL (lead1 z) x.held ⟨5,0,0,(lead1 z).ballot,0,(lead1 z).dk,⟨#[]⟩,[]⟩)
      have a2:=othersL_len (lead1 z).number ⟨5,0,0,(lead1 z).ballot,0,(lead1 z).dk,⟨#[]⟩,[]⟩ (lead1 z).of.toNat 1 x.held
      have a3:=hv3.of5
      have a4:=hv3.disk.slots.1
      have a5 : ((lead1 z).ds.length - (lead1 z).dk.toNat) * (lead1 z).of.toNat ≤ 60 * 5:=Nat.mul_le_mul (by omega) (by omega)
      unfold leadOut
      unfold othL at a1 ⊢
      omega
    repeat (first|refine Y ?_|(refine qs ?_;clear HM;intro W1 HM)|(refine qf ?_;go_at_call 28;refine (leadS z jz (A:=Ao) (c:=co) (o:=x.held) hv2 cl hzu (by omega) ((show Mem w0 _ (partRcd 91 40 9 3 66 z jz ++ _) from pk_rec (HM.pk (A:=own (tMsg 91) 40 Ao co x.held))).perm List.perm_middle)).mono ?_;rintro e W1 ⟨j3,A4,c4,rfl,HM1⟩;refine ⟨_,rfl,?_⟩;replace HM:=HM1;clear HM1;simp only [partRcd,List.cons_append,List.nil_append] at HM;simp only [encRcd]))
    repeat (first|refine Y ?_|(refine qs ?_;clear HM;intro W1 HM)|(refine qf ?_;first|(go_at_call 24;have hro:=ro_rec1 (eS:=91) (eM:=40) (eT:=9) (eI:=3) (eA:=66) (x:=lead1 z) (i:=j3) HM;refine (l2Copy_c (lead1 z) j3 hro (vr_small hv3) (Mem.start _)).mono ?_;clear hro;rintro e W1 ⟨j4,rfl,HM1⟩;refine ⟨_,rfl,?_⟩;replace HM:=HM.join HM1;clear HM1;simp only [partRcd,List.cons_append,List.nil_append] at HM;simp only [encRcd])|(go_at_call 29;obtain ⟨F1,hF1⟩:=HM.own (A:=A4);refine (l2Messages_c (xs:=leadOut (lead1 z) x.held) (ro_msgs hF1) hol hos (Mem.start _)).mono ?_;clear hF1;rintro e W1 ⟨A5,c5,rfl,HM1⟩;refine ⟨_,rfl,?_⟩;replace HM:=HM.join HM1;clear HM1;simp only [List.cons_append,List.nil_append] at HM)))
    exact ret_ct HM rfl rfl rfl rfl ⟨j4,A5,c5,rfl,by simp only [boxR,partRcd,List.cons_append,List.nil_append];exact HM.sb⟩
  rw [if_neg cl,if_neg cl]
  simp only [Bool.not_eq_true] at cl
  subst hR
  simp only [boxR,partRcd,List.cons_append,List.nil_append] at HM
  have hz0:=hv2.h0
  have hz1:=hv2.h1
  have hzn1:=hv2.n1
  have hzno:=hv2.no
  have hzo5:=hv2.of5
  repeat refine Y ?_
  have HMn:=(show Mem w0 _ (boxR 91 40 9 3 66 31 g z jz ++ _) from pk_boxr HM).name
  clear HM
  obtain ⟨R,hR,HM⟩:=HMn
  refine c_cutn (σ:=AtRcd) (fun s=>[(2,.pointer (some ⟨g0,0,none⟩)),(4,.slice Ao x.held.length co),(5,.pointer (some ⟨g,0,none⟩))]) (fun s W1=>Mem w0 W1 (boxR 91 40 9 3 66 31 g (tick3 z) s ++ R)) ?_ ?_
  · by_cases c1 : 4 + 3 * z.number < z.heard
    rotate_left
    · have e : tick3 z = z:=if_neg c1
      subst hR
      simp only [boxR,partRcd,List.cons_append,List.nil_append] at HM
      repeat ((refine gC ?_;first|refine c_skip ?_|refine c_no rfl (by (simp;omega)) ?_))
      exact n_mid jz U (by rw [e];exact pk_boxr HM)
    obtain ⟨n1,n2,n3⟩:=nextL_range (a:=z.dp) (n:=z.number) (o:=z.of)
    have hvt:=vr_try (b:=nextL z.dp z.number z.of) hv2 hzu
    by_cases c2 : 0 < nextL z.dp z.number z.of
    rotate_left
    · have e : tick3 z = { calmL z with heard:=0 }:=by unfold tick3;rw [if_pos c1,if_neg c2]
      subst hR
      simp only [boxR,partRcd,List.cons_append,List.nil_append] at HM
      repeat (first|refine Y ?_|(refine qs ?_;clear HM;intro W1 HM)|(refine qf ?_;first|(go_at_call 30;refine (nextS z.dp z.number z.of HM).mono ?_;rintro e W1 ⟨rfl,HM1⟩;refine ⟨_,rfl,?_⟩;replace HM:=HM1;clear HM1)|(go_at_call 31;refine (calmS z jz (by exact pk_rec HM)).mono ?_;rintro e W1 ⟨j3,rfl,HM1⟩;refine ⟨_,rfl,?_⟩;replace HM:=HM1;clear HM1;simp only [calmL,partRcd,List.cons_append,List.nil_append] at HM;simp only [calmL,encRcd])))
      exact n_mid j3 U (by rw [e];exact pk_boxr (x:={ z with lead:=false,trying:=false,ballot:=0,yes:=[],best:=[],acks:=[],heard:=0 }) (i:=j3) HM)
    have e : tick3 z = holdAll (othL { z with lead:=false,yes:=[],best:=[],acks:=[],heard:=0,dp:=nextL z.dp z.number z.of,ballot:=nextL z.dp z.number z.of,trying:=true } [] ⟨1,0,0,nextL z.dp z.number z.of,0,0,⟨#[]⟩,[]⟩) { z with lead:=false,yes:=[],best:=[],acks:=[],heard:=0,dp:=nextL z.dp z.number z.of,ballot:=nextL z.dp z.number z.of,trying:=true }:=by unfold tick3;rw [if_pos c1,if_pos c2];rfl
    rw [e]
    clear e
    have hvt2:=hvt c2 n2 (n3 c2)
    have hof : 0 ≤ z.of ∧ z.of ≤ 5:=⟨by omega,hzo5⟩
    clear hR
    simp only [boxR,partRcd,List.cons_append,List.nil_append] at HM
    repeat (first|refine Y ?_|(refine qs ?_;clear HM;intro W1 HM)|(refine qf ?_;first|(go_at_call 30;refine (nextS z.dp z.number z.of HM).mono ?_;rintro e W1 ⟨rfl,HM1⟩;refine ⟨_,rfl,?_⟩;replace HM:=HM1;clear HM1)|(go_at_call 31;refine (calmS z jz (by exact pk_rec HM)).mono ?_;rintro e W1 ⟨j3,rfl,HM1⟩;refine ⟨_,rfl,?_⟩;replace HM:=HM1;clear HM1;simp only [calmL,partRcd,List.cons_append,List.nil_append] at HM;simp only [calmL,encRcd])|(go_at_call 32;refine (othersS { z with lead:=false,yes:=[],best:=[],acks:=[],heard:=0,dp:=nextL z.dp z.number z.of,ballot:=nextL z.dp z.number z.of,trying:=true } j3 ⟨1,0,0,nextL z.dp z.number z.of,0,0,⟨#[]⟩,[]⟩ (o:=[]) hof (by simp) (by exact HM.pk)).mono ?_;rintro e W1 ⟨A2,c2,rfl,HM1⟩;refine ⟨_,rfl,?_⟩;replace HM:=HM1;clear HM1))|(refine qz ?_;clear HM;intro A1 W1 HM))
    have hol1:=othersL_len { z with lead:=false,yes:=[],best:=[],acks:=[],heard:=0,dp:=nextL z.dp z.number z.of,ballot:=nextL z.dp z.number z.of,trying:=true }.number ⟨1,0,0,nextL z.dp z.number z.of,0,0,⟨#[]⟩,[]⟩ { z with lead:=false,yes:=[],best:=[],acks:=[],heard:=0,dp:=nextL z.dp z.number z.of,ballot:=nextL z.dp z.number z.of,trying:=true }.of.toNat 1 []
    have HM0:=(show Mem w0 _ (own (tMsg 91) 40 A2 c2 (othL { z with lead:=false,yes:=[],best:=[],acks:=[],heard:=0,dp:=nextL z.dp z.number z.of,ballot:=nextL z.dp z.number z.of,trying:=true } [] ⟨1,0,0,nextL z.dp z.number z.of,0,0,⟨#[]⟩,[]⟩) :: (boxR 91 40 9 3 66 31 g { z with lead:=false,yes:=[],best:=[],acks:=[],heard:=0,dp:=nextL z.dp z.number z.of,ballot:=nextL z.dp z.number z.of,trying:=true } j3 ++ R)) from (pk_boxr (x:={ z with lead:=false,yes:=[],best:=[],acks:=[],heard:=0,dp:=nextL z.dp z.number z.of,ballot:=nextL z.dp z.number z.of,trying:=true }) (i:=j3) (HM.pk (A:=own (tMsg 91) 40 A2 c2 (othL { z with lead:=false,yes:=[],best:=[],acks:=[],heard:=0,dp:=nextL z.dp z.number z.of,ballot:=nextL z.dp z.number z.of,trying:=true } [] ⟨1,0,0,nextL z.dp z.number z.of,0,0,⟨#[]⟩,[]⟩)))).perm List.perm_middle)
    clear HM
    have hll : (othL { z with lead:=false,yes:=[],best:=[],acks:=[],heard:=0,dp:=nextL z.dp z.number z.of,ballot:=nextL z.dp z.number z.of,trying:=true } [] ⟨1,0,0,nextL z.dp z.number z.of,0,0,⟨#[]⟩,[]⟩).length ≤ 5:=by
      have h5 : z.of.toNat ≤ 5:=by omega
      unfold othL
      exact Nat.le_trans hol1 (by show 0 + z.of.toNat ≤ 5;omega)
    have el : othL { z with lead:=false,yes:=[],best:=[],acks:=[],heard:=0,dp:=nextL z.dp z.number z.of,ballot:=nextL z.dp z.number z.of,trying:=true } [] ({ (⟨1,0,0,nextL z.dp z.number z.of,0,0,⟨#[]⟩,[]⟩ : Msg) with slots:=[] }) = othL { z with lead:=false,yes:=[],best:=[],acks:=[],heard:=0,dp:=nextL z.dp z.number z.of,ballot:=nextL z.dp z.number z.of,trying:=true } [] ⟨1,0,0,nextL z.dp z.number z.of,0,0,⟨#[]⟩,[]⟩:=rfl
    simp only [el]
    clear el hol1 hvt2 hvt
    generalize othL { z with lead:=false,yes:=[],best:=[],acks:=[],heard:=0,dp:=nextL z.dp z.number z.of,ballot:=nextL z.dp z.number z.of,trying:=true } [] ⟨1,0,0,nextL z.dp z.number z.of,0,0,⟨#[]⟩,[]⟩ = list at *
    obtain ⟨css,hcl,HM⟩:=opn_raw HM0
    clear HM0
    replace HM:=(show Mem w0 _ (own (tRaw 8) 40 A2 c2 css :: lels (tMsg 91) list css :: (boxR 91 40 9 3 66 31 g { z with lead:=false,yes:=[],best:=[],acks:=[],heard:=0,dp:=nextL z.dp z.number z.of,ballot:=nextL z.dp z.number z.of,trying:=true } j3 ++ R)) from HM)
    obtain ⟨y0,hy0⟩ : ∃ y0 : Rcd,y0 = { z with lead:=false,yes:=[],best:=[],acks:=[],heard:=0,dp:=nextL z.dp z.number z.of,ballot:=nextL z.dp z.number z.of,trying:=true }:=⟨_,rfl⟩
    rw [← hy0] at HM ⊢
    clear hy0
    have HM0:=(HM.perm (show List.Perm _ (boxR 91 40 9 3 66 31 g y0 j3 ++ (lels (tMsg 91) list css :: own (tRaw 8) 40 A2 c2 css :: R)) from (List.Perm.swap ..).trans ((List.Perm.cons _ List.perm_middle.symm).trans List.perm_middle.symm)))
    clear HM
    refine c_loop (σ:=Nat × Rcd) (fun s=>[(2,.pointer (some ⟨g0,0,none⟩)),(4,.slice Ao x.held.length co),(5,.pointer (some ⟨g,0,none⟩)),(9,.slice A2 list.length c2),(10,.int .i64 s.1)]) (fun s W1=>s.1 ≤ list.length ∧ holdAll (list.drop s.1) s.2 = holdAll list y0 ∧ ∃ j,Mem w0 W1 (boxR 91 40 9 3 66 31 g s.2 j ++ (lels (tMsg 91) (list.drop s.1) (css.drop s.1) :: own (tRaw 8) 40 A2 c2 css :: R))) (fun s=>list.length - s.1) (0,y0) U ⟨Nat.zero_le _,rfl,j3,HM0⟩ ?_
    clear HM0
    rintro ⟨k,u⟩ W1 ⟨hk,hl,ju,HM⟩
    dsimp only at hk hl HM ⊢
    simp only [boxR,partRcd,List.cons_append,List.nil_append] at HM
    by_cases hlt : k < list.length
    · have hlc : k < css.length:=by omega
      have hst : holdAll (list.drop (k + 1)) (holdL u list[k]) = holdAll list y0:=by rw [← hl,List.drop_eq_getElem_cons hlt,holdAll]
      replace HM:=HM.pk (A:=lels (tMsg 91) (list.drop k) (css.drop k))
      rw [List.drop_eq_getElem_cons hlt,List.drop_eq_getElem_cons hlc] at HM
      obtain ⟨ik,hik,HMe⟩:=(lels_cons HM).ex
      clear HM
      have HM:=(show Mem w0 _ (own tSlot 91 ik.1 ik.2 list[k].slots :: _) from HMe)
      clear HMe
      simp only [List.cons_append,List.nil_append,List.append_eq] at HM
      have hload : id (rd (tRaw 8) css (k : Int)) = encMsg list[k] ik:=by rw [rd_at hlc];exact hik
      repeat (first|(refine gR ?_;refine d_start [5,6] [(0,1),(0,2),(0,3),(1,0),(1,4),(3,5),(3,6)] HM (by kernel_rfl) (by kernel_rfl) qq (by kernel_rfl) rfl ?_;intro HQ HS W1 HM1;replace HM:=HM1;clear HM1)|refine Y ?_|(refine qs ?_;clear HM;intro W1 HM)|(refine qf ?_;go_at_call 33;rw [hload];refine (holdS u ju list[k] ik (by exact pk_holds HM)).mono ?_;rintro e W1 ⟨j2,rfl,HM1⟩;refine ⟨_,rfl,?_⟩;replace HM:=HM1;clear HM1;simp only [partRcd,List.cons_append,List.nil_append] at HM;simp only [encRcd]))
      exact n_round (k + 1,holdL u list[k]) U ⟨hlt,hst,j2,by exact pk_boxr HM⟩ (by dsimp only;omega)
    · rw [List.drop_eq_nil_of_le (by omega),holdAll] at hl
      rw [← hl]
      repeat refine Y ?_
      exact n_mid ju U (mid_drop (mid_drop (show Mem w0 _ (boxR 91 40 9 3 66 31 g u ju ++ (lels (tMsg 91) (list.drop k) (css.drop k) :: own (tRaw 8) 40 A2 c2 css :: R)) from pk_boxr HM)))
  clear HM
  rintro j3 W1 HM
  obtain ⟨hv3,k3⟩:=vr_tick3 hv2 hzu
  have hos : ∀ m ∈ x.held,m.slots.length ≤ 1048576:=fun m hm=>by have:=(hV.held m hm).1.slots.1;omega
  have hol : x.held.length ≤ 1048576:=by omega
  generalize tick3 z = u at *
  subst hR
  simp only [boxR,partRcd,List.cons_append,List.nil_append] at HM
  repeat (first|refine Y ?_|(refine qs ?_;clear HM;intro W1 HM)|(refine qf ?_;first|(go_at_call 24;have hro:=ro_rec1 (eS:=91) (eM:=40) (eT:=9) (eI:=3) (eA:=66) (x:=u) (i:=j3) HM;refine (l2Copy_c (u) j3 hro (vr_small hv3) (Mem.start _)).mono ?_;clear hro;rintro e W1 ⟨j4,rfl,HM1⟩;refine ⟨_,rfl,?_⟩;replace HM:=HM.join HM1;clear HM1;simp only [partRcd,List.cons_append,List.nil_append] at HM;simp only [encRcd])|(go_at_call 29;obtain ⟨F1,hF1⟩:=HM.own (A:=Ao);refine (l2Messages_c (xs:=x.held) (ro_msgs hF1) hol hos (Mem.start _)).mono ?_;clear hF1;rintro e W1 ⟨A5,c5,rfl,HM1⟩;refine ⟨_,rfl,?_⟩;replace HM:=HM.join HM1;clear HM1;simp only [List.cons_append,List.nil_append] at HM)))
  exact ret_ct HM rfl rfl rfl rfl ⟨j4,A5,c5,rfl,by simp only [boxR,partRcd,List.cons_append,List.nil_append];exact HM.sb⟩
end Go.Proofs.YtampmicahnnebaaGreat.Sp
namespace Go.Proofs.YtampmicahnnebaaGreat.Sp
open Go Go.RowKit
set_option maxRecDepth 10000
abbrev MA:=Msg × At
def encMA (z : MA) (_ : Unit) : List Value:=encMsg z.1 z.2
def getMA (z : MA) (j : Nat) : Option Value:=match j with|0=>some (.int .i64 z.1.kind)|1=>some (.int .i64 z.1.frm)|2=>some (.int .i64 z.1.to)|3=>some (.int .i64 z.1.ballot)|4=>some (.int .i64 z.1.index)|5=>some (.int .i64 z.1.known)|6=>some (.string z.1.text)|7=>some (.slice z.2.1 z.1.slots.length z.2.2)|_=>none
def tMA : Ty MA:=nest (ι:=Unit) 8 (⟨0,0,0,0,0,0,⟨#[]⟩,[]⟩,(none,0)) encMA (fun _ _=>[]) getMA (fun _ _ _=>none)
  (fun _ _=>rfl) (fun _ _ u hu=>by simp [encMA,encMsg] at hu;(repeat' (rcases hu with rfl|hu)) <;> first|rfl|(subst hu;rfl))
  (fun z j v i h=>by
    match j with
    | 0|1|2|3|4|5|6|7=>simpa [encMA,encMsg,getMA] using h
    | j + 8=>simp [getMA] at h)
  (fun z j v x' i h=>by simp at h)
instance : Flat tMA (fun z=>encMsg z.1 z.2):=⟨fun ⟨_,h,_⟩=>h⟩
instance : FlatO tMA (fun z=>encMsg z.1 z.2):=⟨fun x W F=>⟨(),rfl,trivial⟩⟩
variable {w0 W : World} {L : List Asn} {eS e c : Nat} {A : Option Addr}
def slp (eS : Nat) (z : MA) : Asn:=own tSlot eS z.2.1 z.2.2 z.1.slots
def bag (eS : Nat) (zs : List MA) : Asn where
  H:=fun W F=>∀ z ∈ zs,(slp eS z).H W F
  mono:=fun h hh z hz=>(slp eS z).mono h (hh z hz)
  move:=fun h hh z hz=>(slp eS z).move h (hh z hz)
  bound:=fun hh z hz=>(slp eS z).bound (hh z hz)
theorem Mem.bag_sub {zs ys : List MA} (hs : ∀ z ∈ ys,z ∈ zs) (h : Mem w0 W (bag eS zs :: L)) : Mem w0 W (bag eS ys :: L):=by
  obtain ⟨hb,F,h1,h2,h3⟩:=h
  exact ⟨hb,F,h1,fun z hz=>h2 z (hs z hz),h3⟩
theorem Mem.bag_join {zs ys : List MA} (h : Mem w0 W (bag eS zs :: bag eS ys :: L)) : Mem w0 W (bag eS (zs ++ ys) :: L):=by
  obtain ⟨hb,F,h1,h2,G,h3,h4,h5⟩:=h
  refine ⟨hb,fun k=>F k ∨ G k,fun k hk=>hk.elim (h1 k) (fun h=>(h3 k h).1),fun z hz=>?_,h5.mono (fun k hk=>⟨hk.1.1,fun h=>h.elim hk.1.2 hk.2⟩)⟩
  rcases List.mem_append.1 hz with hz|hz
  · exact (slp eS z).mono (fun k hk=>.inl hk) (h2 z hz)
  · exact (slp eS z).mono (fun k hk=>.inr hk) (h4 z hz)
theorem els_bag {W : World} : ∀ (ms : List Msg) (css : List (List Value)) (ok : Nat → Prop),css.length = ms.length → SepIn W ok (els (tMsg eS) ms css) → ∃ zs : List MA,zs.map Prod.fst = ms ∧ css = zs.map (fun z=>encMsg z.1 z.2) ∧ (bag eS zs).H W ok
  | [],[],ok,_,_=>⟨[],rfl,rfl,fun z hz=>by simp at hz⟩
  | m :: ms,d :: css,ok,hl,⟨F,h1,⟨i,hd,G,g1,g2,_⟩,h3⟩=>by
    obtain ⟨zs,e1,e2,e3⟩:=els_bag ms css _ (by simpa using hl) h3
    refine ⟨(m,i) :: zs,by simp [e1],by simp [hd,e2],fun z hz=>?_⟩
    rcases List.mem_cons.1 hz with rfl|hz
    · exact (slp eS (m,i)).mono (fun k hk=>h1 k (g1 k hk)) g2
    · exact (slp eS z).mono (fun k hk=>hk.1) (e3 z hz)
theorem opn_bag {ms : List Msg} (h : Mem w0 W (own (tMsg eS) e A c ms :: L)) : ∃ zs : List MA,zs.map Prod.fst = ms ∧ Mem w0 W (own tMA e A c zs :: bag eS zs :: L):=by
  obtain ⟨css,hl,h⟩:=h.ex
  have h' : Mem w0 W (els (tMsg eS) ms css ++ (row e 8 A ms.length c css.flatten :: L)):=h.perm (List.perm_middle (a:=row e 8 A ms.length c css.flatten) (l₁:=els (tMsg eS) ms css) (l₂:=L)).symm
  obtain ⟨F,f1,f2,f3⟩:=SepIn.append h'.sep
  obtain ⟨zs,e1,e2,e3⟩:=els_bag ms css F hl f2
  refine ⟨zs,e1,?_⟩
  have h2 : Mem w0 W (bag eS zs :: row e 8 A ms.length c css.flatten :: L):=⟨h'.below,F,f1,e3,f3⟩
  have hE : ∀ (W : World) (ys : List MA) (ok : Nat → Prop),SepIn W ok (els tMA ys (ys.map (fun z=>encMsg z.1 z.2))):=by
    intro W ys
    induction ys with
    | nil=>exact fun _=>trivial
    | cons y ys ih=>exact fun ok=>⟨fun _=>False,fun _ h=>h.elim,⟨(),rfl,trivial⟩,ih _⟩
  have hml : ms.length = zs.length:=by rw [← e1,List.length_map]
  have h3 : Mem w0 W (row e 8 A ms.length c css.flatten :: bag eS zs :: L):=h2.perm (List.Perm.swap ..)
  obtain ⟨hb,G,g1,g2,g3⟩:=h3
  refine ⟨hb,G,g1,⟨css,by simp [e2],?_⟩,g3⟩
  rw [hml] at g2
  refine ⟨G,fun _ h=>h,g2,?_⟩
  rw [e2]
  exact hE _ _ _
def flt (eS e : Nat) (A : Option Addr) (c : Nat) (ms : List Msg) : Asn:=exP (fun zs : List MA=>zs.map Prod.fst = ms) (fun zs=>[own tMA e A c zs,bag eS zs])
theorem flt_of {ms : List Msg} (h : Mem w0 W (own (tMsg eS) e A c ms :: L)) : Mem w0 W (flt eS e A c ms :: L):=by
  obtain ⟨zs,e1,h⟩:=opn_bag h
  exact Mem.mkx zs e1 h
theorem opn_flt {ms : List Msg} (h : Mem w0 W (flt eS e A c ms :: L)) : ∃ zs : List MA,zs.map Prod.fst = ms ∧ Mem w0 W (own tMA e A c zs :: bag eS zs :: L):=h.ex
theorem cls_flt {zs ys : List MA} {ms : List Msg} (hm : zs.map Prod.fst = ms) (hs : ∀ z ∈ zs,z ∈ ys) (h : Mem w0 W (own tMA e A c zs :: bag eS ys :: L)) : Mem w0 W (flt eS e A c ms :: L) :=
  Mem.mkx zs hm (((h.perm (List.Perm.swap ..)).bag_sub hs).perm (List.Perm.swap ..))
theorem ro_flt {ms : List Msg} {F : Nat → Prop} (h : (flt eS e A c ms).H W F) : RoRow (rMsg false) W A ms:=by
  obtain ⟨zs,rfl,F1,f1,f2,F2,_,f3,_⟩:=h
  refine ⟨by rw [List.length_map];exact (own_max f2).1,fun hl=>(own_addr f2 (by simpa using hl)).1,fun i hi=>?_⟩
  rw [List.length_map] at hi
  refine ⟨encMsg zs[i].1 zs[i].2,⟨zs[i].2,by simp,⟨(fun h=>by cases h),?_⟩⟩,fun j v hv=>?_⟩
  · have:=ro_slots (f3 zs[i] (List.getElem_mem hi))
    simpa using this
  · have h2:=(own_cells (enc:=fun z : MA=>encMsg z.1 z.2) f2 i (by omega) (by omega)).2 j v
    have e2 : rd tMA zs (i : Int) = zs[i]:=by simp [rd,List.getD_eq_getElem?_getD,hi]
    rw [e2] at h2
    have h3:=h2 hv
    simp only [Int.toNat_natCast] at h3
    exact h3
end Go.Proofs.YtampmicahnnebaaGreat.Sp
namespace Go.Proofs.YtampmicahnnebaaGreat.Sp
open Go Go.RowKit
variable {eS eM eT eI eA : Nat}
instance : TyE Tryz.prog 31 Rcd (tRec 91 40 9 3 66):=⟨trivial⟩
instance : ZD (tRec eS eM eT eI eA) [.int .i64 0,.int .i64 0,.bool false,.int .i64 0,.int .i64 0,.slice none 0 0,.int .i64 0,.int .i64 0,.slice none 0 0,.slice none 0 0,.slice none 0 0,.bool false,.bool false,.int .i64 0,.slice none 0 0,.slice none 0 0,.slice none 0 0,.int .i64 0]:=⟨fun W F=>⟨⟨(none,0),(none,0),(none,0),(none,0),(none,0),(none,0),(none,0)⟩,rfl,by
  refine ⟨fun _=>False,fun _ h=>h.elim,own_nil tSlot eS,fun _=>False,fun _ h=>h.elim,own_nil tSlot eS,fun _=>False,fun _ h=>h.elim,own_nil (tMsg eS) eM,fun _=>False,fun _ h=>h.elim,own_nil tStr eT,fun _=>False,fun _ h=>h.elim,own_nil tInt eI,fun _=>False,fun _ h=>h.elim,own_nil tSlot eS,fun _=>False,fun _ h=>h.elim,own_nil (tAck eI) eA,trivial⟩⟩⟩
instance {L R0 R1 R2 R3 R4 R5 R6 : List Asn} {number of : Int} {up : Bool} {sp sk : Int} {ss : List Slot} {dp dk : Int} {ds : List Slot} {held : List Msg} {wishes : List ByteArray} {lead trying : Bool} {ballot : Int} {yes : List Int} {best : List Slot} {acks : List Ack} {heard : Int} {A0 A1 A2 A3 A4 A5 A6 : Option Addr} {c0 c1 c2 c3 c4 c5 c6 : Nat} [h0 : Pk L (own tSlot eS A0 c0 ss) R0] [h1 : Pk R0 (own tSlot eS A1 c1 ds) R1] [h2 : Pk R1 (own (tMsg eS) eM A2 c2 held) R2] [h3 : Pk R2 (own tStr eT A3 c3 wishes) R3] [h4 : Pk R3 (own tInt eI A4 c4 yes) R4] [h5 : Pk R4 (own tSlot eS A5 c5 best) R5] [h6 : Pk R5 (own (tAck eI) eA A6 c6 acks) R6] :
    MkIn L (tRec eS eM eT eI eA) [.int .i64 number,.int .i64 of,.bool up,.int .i64 sp,.int .i64 sk,.slice A0 ss.length c0,.int .i64 dp,.int .i64 dk,.slice A1 ds.length c1,.slice A2 held.length c2,.slice A3 wishes.length c3,.bool lead,.bool trying,.int .i64 ballot,.slice A4 yes.length c4,.slice A5 best.length c5,.slice A6 acks.length c6,.int .i64 heard] ⟨number,of,up,sp,sk,ss,dp,dk,ds,held,wishes,lead,trying,ballot,yes,best,acks,heard⟩ R6 :=
  mk_nest (M:=[own tSlot eS A0 c0 ss,own tSlot eS A1 c1 ds,own (tMsg eS) eM A2 c2 held,own tStr eT A3 c3 wishes,own tInt eI A4 c4 yes,own tSlot eS A5 c5 best,own (tAck eI) eA A6 c6 acks]) (fun W ok hs=>hs.perm (by
    have q0:=perm_in h0.out [] (List.Perm.refl L)
    have q1:=perm_in h1.out _ q0
    have q2:=perm_in h2.out _ q1
    have q3:=perm_in h3.out _ q2
    have q4:=perm_in h4.out _ q3
    have q5:=perm_in h5.out _ q4
    exact perm_in h6.out _ q5)) (fun W F hs=>⟨⟨(A0,c0),(A1,c1),(A2,c2),(A3,c3),(A4,c4),(A5,c5),(A6,c6)⟩,rfl,hs⟩)
structure RoRcw (b : Bool) (w : World) (x : Rcd) (i : AtRcd) : Prop where
  ro : RoRcd b w x i
  cap : b = false → x.ds.length ≤ i.a1.2 ∧ x.wishes.length ≤ i.a3.2
def rRcw (b : Bool) : TyR Rcd:=nestR (ι:=AtRcd) 18 ⟨0,0,false,0,0,[],0,0,[],[],[],false,false,0,[],[],[],0⟩ encRcd (fun w x i=>RoRcw b w x i) getRcd (fun _ _=>rfl)
  (fun x j v i h=>by
    match j with
    | 0|1|2|3|4|6|7|11|12|13|17=>simpa [encRcd,getRcd] using h
    | 5|8|9|10|14|15|16=>simp [getRcd] at h
    | j + 18=>simp [getRcd] at h)
theorem ro_rcw {x : Rcd} {c : List Value} {W : World} {F : Nat → Prop} (h : ((tRec eS eM eT eI eA).A x c).H W F) : (rRcw false).R W x c:=by
  obtain ⟨i,h,_,_,a0,_,_,a1,_,_,a2,_,_,a3,_,_,a4,_,_,a5,_,_,a6,_⟩:=h
  exact ⟨i,h,⟨ro_slots a0,ro_slots a1,ro_msgs a2,ro_strs a3,ro_ints a4,ro_slots a5,ro_acks a6⟩,fun _=>⟨(own_max a1).2,(own_max a3).2⟩⟩
theorem ro_fix {x : Fix} {c : List Value} {W : World} {F : Nat → Prop} (h : (tFix.A x c).H W F) : (rFix false).R W x c:=by obtain ⟨i,h,_⟩:=h;exact ⟨i,h,fun h=>by cases h⟩
theorem ro_rcws {e q : Nat} {A : Option Addr} {xs : List Rcd} {W : World} {F : Nat → Prop} (h : (own (tRec eS eM eT eI eA) e A q xs).H W F) : RoRow (rRcw false) W A xs:=own_ro rfl ro_rcw h
theorem ro_fixs {e q : Nat} {A : Option Addr} {xs : List Fix} {W : World} {F : Nat → Prop} (h : (own tFix e A q xs).H W F) : RoRow (rFix false) W A xs:=own_ro rfl ro_fix h
structure Wld where
  recs : List Rcd
  flight : List Msg
  fixed : List Fix
structure AtW where
  b0 : At
  b1 : At
  b2 : At
def encW (x : Wld) (i : AtW) : List Value:=[.slice i.b0.1 x.recs.length i.b0.2,.slice i.b1.1 x.flight.length i.b1.2,.slice i.b2.1 x.fixed.length i.b2.2]
def partW (eS eM eT eI eA eR eF : Nat) (x : Wld) (i : AtW) : List Asn:=[own (tRec eS eM eT eI eA) eR i.b0.1 i.b0.2 x.recs,own (tMsg eS) eM i.b1.1 i.b1.2 x.flight,own tFix eF i.b2.1 i.b2.2 x.fixed]
structure RoW (b : Bool) (w : World) (x : Wld) (i : AtW) : Prop where
  recs : RoRow (rRcw b) w i.b0.1 x.recs
  flight : RoRow (rMsg b) w i.b1.1 x.flight
  fixed : RoRow (rFix b) w i.b2.1 x.fixed
structure SmallW (x : Wld) : Prop where
  recs : x.recs.length ≤ 1048576
  recss : ∀ y ∈ x.recs,SmallR y
  flight : x.flight.length ≤ 1048576
  flights : ∀ y ∈ x.flight,y.slots.length ≤ 1048576
  fixed : x.fixed.length ≤ 1048576
end Go.Proofs.YtampmicahnnebaaGreat.Sp
namespace Go.Proofs.YtampmicahnnebaaGreat.Sp
open Go Go.RowKit
set_option maxRecDepth 10000
set_option maxHeartbeats 1000000
variable {w0 W : World} {L : List Asn}
def recB (x : Wld) (j : Nat) : Bool:=validB (rdR (rRcw false) x.recs j) && decide ((rdR (rRcw false) x.recs j).number = (j : Int) + 1) && decide ((rdR (rRcw false) x.recs j).of = x.recs.length)
def fixB (xs : List Fix) (j : Nat) : Bool:=decide (1 ≤ (rdR (rFix false) xs j).index ∧ (rdR (rFix false) xs j).index ≤ 60) && !decide ((100 : Int) < (rdR (rFix false) xs j).text.size) && !(decide (0 < j) && decide ((rdR (rFix false) xs j).index ≤ (rdR (rFix false) xs ((j : Int) - 1)).index))
def worldB (x : Wld) : Bool:=decide (1 ≤ (x.recs.length : Int) ∧ (x.recs.length : Int) ≤ 5) && !decide ((600 : Int) < x.flight.length) && allN (recB x) x.recs.length && allN (fun j=>msgB (rdR (rMsg false) x.flight j) x.recs.length) x.flight.length && allN (fixB x.fixed) x.fixed.length
theorem recB_at {x : Wld} {k : Nat} (h : k < x.recs.length) : recB x k = (validB x.recs[k] && decide (x.recs[k].number = (k : Int) + 1) && decide (x.recs[k].of = x.recs.length)):=by rw [recB,rdR_at h]
theorem fixB_at {xs : List Fix} {k : Nat} (h : k < xs.length) : fixB xs k = (decide (1 ≤ xs[k].index ∧ xs[k].index ≤ 60) && !decide ((100 : Int) < xs[k].text.size) && !(decide (0 < k) && decide (xs[k].index ≤ (rdR (rFix false) xs ((k : Int) - 1)).index))):=by rw [fixB,rdR_at h]
theorem specWorldOk (x : Wld) (i : AtW) (h : RoW false w0 x i) (hn : SmallW x) (HM : Mem w0 W L) : Calls Tryz.prog 112 #[.agg (encW x i).toArray] W fun e W'=>e = .returned (.bool (worldB x)) ∧ Mem w0 W' L:=by
  refine enter Tryz.func112 rfl Tryz.ntmps112 [(0,.agg (encW x i).toArray)] rfl ⟨rfl,trivial⟩ ?_
  have hr:=h.recs
  have hf:=h.flight
  have hx:=h.fixed
  have n1:=hn.recs
  have n2:=hn.flight
  have n3:=hn.fixed
  unfold encW
  replace HM:=((HM.rod hr).rod hf).rod hx
  by_cases c1 : 1 ≤ (x.recs.length : Int) ∧ (x.recs.length : Int) ≤ 5
  rotate_left
  · repeat (first|(refine gGP ?_;first|refine gp (p_move rfl) ?_|refine gp (p_assign rfl) ?_|refine gp (p_field rfl (by simp only [Nat.reduceAdd];rfl)) ?_|refine gp (p_len rfl) ?_|refine gp (p_not rfl) ?_|refine gp (p_pick1 rfl (by (simp;omega)) rfl) ?_)|(refine gGV ?_;refine gv (p_load rfl) ?_)|(refine gL ?_;first|refine s_gp rfl rfl ?_|refine s_gv HM rfl ?_|(refine gCall ?_;(refine s_fn rfl rfl ?_;(go_at_call 39;refine (l1In_c _ _ _ _).mono ?_;rintro e W1 ⟨rfl,rfl⟩;refine ⟨_,rfl,?_⟩)))|(refine s_box HM rfl rfl ?_;clear HM;intro g W1 HM)|refine l_nil ?_|refine s_guard_off rfl rfl rfl rfl (by (simp;omega)) rfl rfl ?_)|(refine gC ?_;first|refine c_seq ?_|refine c_region ?_|refine c_ret ?_|refine c_yes rfl (by rfl) ?_)|(refine gN ?_;first|refine n_then ?_|refine r_then ?_))
    exact ret_tmp rfl rfl ⟨by simp [worldB,c1],HM.sb⟩
  by_cases c2 : (600 : Int) < x.flight.length
  · repeat (first|(refine gGP ?_;first|refine gp (p_move rfl) ?_|refine gp (p_assign rfl) ?_|(refine gGB ?_;refine gp (p_gtr rfl rfl) ?_)|refine gp (p_field rfl (by simp only [Nat.reduceAdd];rfl)) ?_|refine gp (p_len rfl) ?_|refine gp (p_not rfl) ?_|refine gp (p_pick0 rfl (by (simp;omega)) rfl) ?_)|(refine gGV ?_;refine gv (p_load rfl) ?_)|(refine gL ?_;first|refine s_gp rfl rfl ?_|refine s_gv HM rfl ?_|(refine gCall ?_;(refine s_fn rfl rfl ?_;(go_at_call 39;refine (l1In_c _ _ _ _).mono ?_;rintro e W1 ⟨rfl,rfl⟩;refine ⟨_,rfl,?_⟩)))|(refine s_box HM rfl rfl ?_;clear HM;intro g W1 HM)|refine l_nil ?_|refine s_guard_on rfl rfl rfl rfl (by (simp;omega)) ?_)|(refine gC ?_;first|refine c_seq ?_|refine c_region ?_|refine c_ret ?_|refine c_yes rfl (by (simp;omega)) ?_)|(refine gN ?_;first|refine n_then ?_|refine r_then ?_))
    exact ret_tmp rfl rfl ⟨by simp [worldB,c2],HM.sb⟩
  repeat (first|(refine gGP ?_;first|refine gp (p_move rfl) ?_|refine gp (p_assign rfl) ?_|(refine gGB ?_;refine gp (p_gtr rfl rfl) ?_)|refine gp (p_field rfl (by simp only [Nat.reduceAdd];rfl)) ?_|refine gp (p_len rfl) ?_|refine gp (p_not rfl) ?_|refine gp (p_pick0 rfl (by (simp;omega)) rfl) ?_)|(refine gGV ?_;refine gv (p_load rfl) ?_)|(refine gL ?_;first|refine s_gp rfl rfl ?_|refine s_gv HM rfl ?_|(refine gCall ?_;(refine s_fn rfl rfl ?_;(go_at_call 39;refine (l1In_c _ _ _ _).mono ?_;rintro e W1 ⟨rfl,rfl⟩;refine ⟨_,rfl,?_⟩)))|(refine s_box HM rfl rfl ?_;clear HM;intro g W1 HM)|refine l_nil ?_|refine s_guard_on rfl rfl rfl rfl (by (simp;omega)) ?_)|(refine gC ?_;first|refine c_seq ?_|refine c_region ?_|refine c_block ?_|refine c_skip ?_|refine c_no rfl (by first|rfl|(simp;omega)) ?_)|(refine gN ?_;refine n_then ?_))
  refine c_loop (σ:=Nat) (fun k=>[(1,.pointer (some ⟨g,0,none⟩)),(3,.int .i64 x.recs.length),(4,.int .i64 k)]) (fun k W1=>k ≤ x.recs.length ∧ allN (recB x) k = true ∧ Mem w0 W1 _) (fun k=>x.recs.length - k) 0 (by repeat (first|exact trivial|refine And.intro (by first|rfl|exact look_int rfl (by omega)) ?_)) ⟨Nat.zero_le _,allN_zero,HM⟩ ?_
  clear HM
  rintro k W1 ⟨hk,hp,HM⟩
  by_cases hlt : k < x.recs.length
  · have hb:=recB_at hlt
    have hnk:=hn.recss _ (List.getElem_mem hlt)
    obtain ⟨cc,⟨j,rfl,hh⟩,HM⟩:=HM.roOpen (A:=i.b0.1) k hlt
    unfold encRcd at HM
    by_cases hv : validB x.recs[k] = true
    rotate_left
    · simp only [Bool.not_eq_true] at hv
      repeat (first|(refine gGP ?_;first|refine gp (p_move rfl) ?_|refine gp (p_assign rfl) ?_|(refine gGB ?_;refine gp (p_lss rfl rfl) ?_)|refine gp (p_field rfl (by simp only [Nat.reduceAdd];rfl)) ?_|refine gp (p_indexr HM rfl (by first|with_reducible rfl|omega) rfl (by omega) (by omega)) ?_|refine gp (p_not rfl) ?_|refine gp (p_pick1 rfl (by first|rfl|(simp;omega)) rfl) ?_)|(refine gGV ?_;first|refine gv (p_load rfl) ?_|refine gv (p_loadwr rfl rfl rfl) ?_)|(refine gL ?_;first|refine s_gp rfl rfl ?_|refine s_gv HM rfl ?_|(refine gCall ?_;(refine s_fn rfl rfl ?_;(go_at_call 9;refine (specValid _ _ hh.ro hnk HM).mono ?_;rintro e W1 ⟨rfl,HM1⟩;refine ⟨_,rfl,?_⟩;replace HM:=HM1;clear HM1)))|refine l_nil ?_|refine s_guard_off rfl rfl rfl rfl (by first|rfl|(simp;omega)) rfl rfl ?_)|(refine gC ?_;first|refine c_seq ?_|refine c_region ?_|refine c_block ?_|refine c_skip ?_|refine c_ret ?_|refine c_yes rfl (by first|rfl|(simp;omega)) ?_)|(refine gN ?_;first|refine n_then ?_|refine r_then ?_|refine r_block ?_))
      exact ret_tmp rfl rfl ⟨by rw [worldB,allN_fail hlt (by rw [hb];simp [hv])];simp,HM.sb⟩
    by_cases hnu : x.recs[k].number = (k : Int) + 1
    rotate_left
    · repeat (first|(refine gGV ?_;refine gv (p_loadrc rfl rfl) ?_)|(refine gGP ?_;first|refine gp (p_move rfl) ?_|refine gp (p_assign rfl) ?_|(refine gGB ?_;first|refine gp (p_lss rfl rfl) ?_|refine gp (p_neq rfl rfl) ?_|refine gp (p_add rfl rfl (by exact wr (by omega) (by omega))) ?_)|refine gp (p_field rfl (by simp only [Nat.reduceAdd];rfl)) ?_|refine gp (p_fieldo rfl (by simp only [Nat.reduceAdd];rfl)) ?_|refine gp (p_indexr HM rfl (by first|with_reducible rfl|omega) rfl (by omega) (by omega)) ?_|refine gp (p_not rfl) ?_|refine gp (p_pick1 rfl (by (simp;omega)) rfl) ?_|refine gp (p_pick0 rfl (by (simp;omega)) rfl) ?_)|(refine gGV ?_;first|refine gv (p_load rfl) ?_|refine gv (p_loadwr rfl rfl rfl) ?_)|(refine gL ?_;first|refine s_gp rfl rfl ?_|refine s_gv HM rfl ?_|(refine gCall ?_;(refine s_fn rfl rfl ?_;(go_at_call 9;refine (specValid _ _ hh.ro hnk HM).mono ?_;rintro e W1 ⟨rfl,HM1⟩;refine ⟨_,rfl,?_⟩;replace HM:=HM1;clear HM1)))|refine l_nil ?_|refine s_guard_on rfl rfl rfl rfl (by (simp;omega)) ?_|refine s_guard_off rfl rfl rfl rfl (by (simp;omega)) rfl rfl ?_)|(refine gC ?_;first|refine c_seq ?_|refine c_region ?_|refine c_block ?_|refine c_skip ?_|refine c_ret ?_|refine c_yes rfl (by first|rfl|(simp;omega)) ?_)|(refine gN ?_;first|refine n_then ?_|refine r_then ?_|refine r_block ?_))
      exact ret_tmp rfl rfl ⟨by rw [worldB,allN_fail hlt (by rw [hb];simp [hnu])];simp,HM.sb⟩
    by_cases hof : x.recs[k].of = (x.recs.length : Int)
    rotate_left
    · repeat (first|(refine gGV ?_;refine gv (p_loadrc rfl rfl) ?_)|(refine gGP ?_;first|refine gp (p_move rfl) ?_|refine gp (p_assign rfl) ?_|(refine gGB ?_;first|refine gp (p_lss rfl rfl) ?_|refine gp (p_neq rfl rfl) ?_|refine gp (p_add rfl rfl (by exact wr (by omega) (by omega))) ?_)|refine gp (p_field rfl (by simp only [Nat.reduceAdd];rfl)) ?_|refine gp (p_fieldo rfl (by simp only [Nat.reduceAdd];rfl)) ?_|refine gp (p_indexr HM rfl (by first|with_reducible rfl|omega) rfl (by omega) (by omega)) ?_|refine gp (p_not rfl) ?_|refine gp (p_pick0 rfl (by (simp;omega)) rfl) ?_)|(refine gGV ?_;first|refine gv (p_load rfl) ?_|refine gv (p_loadwr rfl rfl rfl) ?_)|(refine gL ?_;first|refine s_gp rfl rfl ?_|refine s_gv HM rfl ?_|(refine gCall ?_;(refine s_fn rfl rfl ?_;(go_at_call 9;refine (specValid _ _ hh.ro hnk HM).mono ?_;rintro e W1 ⟨rfl,HM1⟩;refine ⟨_,rfl,?_⟩;replace HM:=HM1;clear HM1)))|refine l_nil ?_|refine s_guard_on rfl rfl rfl rfl (by (simp;omega)) ?_)|(refine gC ?_;first|refine c_seq ?_|refine c_region ?_|refine c_block ?_|refine c_skip ?_|refine c_ret ?_|refine c_yes rfl (by (simp;omega)) ?_)|(refine gN ?_;first|refine n_then ?_|refine r_then ?_|refine r_block ?_))
      exact ret_tmp rfl rfl ⟨by rw [worldB,allN_fail hlt (by rw [hb];simp [hof])];simp,HM.sb⟩
    repeat (first|(refine gGV ?_;refine gv (p_loadrc rfl rfl) ?_)|(refine gGP ?_;first|refine gp (p_move rfl) ?_|refine gp (p_assign rfl) ?_|(refine gGB ?_;first|refine gp (p_lss rfl rfl) ?_|refine gp (p_neq rfl rfl) ?_|refine gp (p_add rfl rfl (by exact wr (by omega) (by omega))) ?_)|refine gp (p_field rfl (by simp only [Nat.reduceAdd];rfl)) ?_|refine gp (p_fieldo rfl (by simp only [Nat.reduceAdd];rfl)) ?_|refine gp (p_indexr HM rfl (by first|with_reducible rfl|omega) rfl (by omega) (by omega)) ?_|refine gp (p_not rfl) ?_|refine gp (p_pick0 rfl (by (simp;omega)) rfl) ?_)|(refine gGV ?_;first|refine gv (p_load rfl) ?_|refine gv (p_loadwr rfl rfl rfl) ?_)|(refine gL ?_;first|refine s_gp rfl rfl ?_|refine s_gv HM rfl ?_|(refine gCall ?_;(refine s_fn rfl rfl ?_;(go_at_call 9;refine (specValid _ _ hh.ro hnk HM).mono ?_;rintro e W1 ⟨rfl,HM1⟩;refine ⟨_,rfl,?_⟩;replace HM:=HM1;clear HM1)))|refine l_nil ?_|refine s_guard_on rfl rfl rfl rfl (by (simp;omega)) ?_)|(refine gC ?_;first|refine c_seq ?_|refine c_region ?_|refine c_block ?_|refine c_skip ?_|refine c_yes rfl (by (simp;omega)) ?_|refine c_no rfl (by (simp;omega)) ?_)|(refine gN ?_;first|refine n_then ?_|refine n_block ?_))
    exact n_round (k + 1) (by repeat (first|exact trivial|refine And.intro (by first|rfl|exact look_int rfl (by omega)) ?_)) ⟨by omega,allN_succ hp (by rw [hb];simp [hv,hnu,hof]),HM.sb⟩ (by omega)
  obtain rfl : k = x.recs.length:=by omega
  repeat (first|(refine gGP ?_;first|refine gp (p_move rfl) ?_|refine gp (p_assign rfl) ?_|(refine gGB ?_;refine gp (p_lss rfl rfl) ?_))|(refine gL ?_;first|refine s_gp rfl rfl ?_|refine l_nil ?_)|(refine gC ?_;first|refine c_seq ?_|refine c_region ?_|refine c_block ?_|refine c_exit ?_|refine c_no rfl (by first|rfl|(simp;done)|fail) ?_)|(refine gN ?_;first|refine n_then ?_|refine x_then ?_|refine x_here ?_))
  refine c_loop (σ:=Nat) (fun k=>[(1,.pointer (some ⟨g,0,none⟩)),(3,.int .i64 x.recs.length),(5,.int .i64 k)]) (fun k W1=>k ≤ x.flight.length ∧ allN (fun j=>msgB (rdR (rMsg false) x.flight j) x.recs.length) k = true ∧ Mem w0 W1 _) (fun k=>x.flight.length - k) 0 (by repeat (first|exact trivial|refine And.intro (by first|rfl|exact look_int rfl (by omega)) ?_)) ⟨Nat.zero_le _,allN_zero,HM⟩ ?_
  clear HM
  rintro k W1 ⟨hk2,hp2,HM⟩
  by_cases hlt2 : k < x.flight.length
  · have e0:=rdR_at (D:=rMsg false) hlt2
    have hnk:=hn.flights _ (List.getElem_mem hlt2)
    obtain ⟨cc,⟨j,rfl,_,hh⟩,HM⟩:=HM.roOpen (A:=i.b1.1) k hlt2
    unfold encMsg at HM
    by_cases hv : msgB x.flight[k] x.recs.length = true
    rotate_left
    · simp only [Bool.not_eq_true] at hv
      repeat (first|(refine gGP ?_;first|refine gp (p_move rfl) ?_|refine gp (p_assign rfl) ?_|(refine gGB ?_;refine gp (p_lss rfl rfl) ?_)|refine gp (p_field rfl (by simp only [Nat.reduceAdd];rfl)) ?_|refine gp (p_indexr HM rfl (by first|with_reducible rfl|omega) rfl (by omega) (by omega)) ?_|refine gp (p_len rfl) ?_|refine gp (p_not rfl) ?_)|(refine gGV ?_;first|refine gv (p_load rfl) ?_|refine gv (p_loadwr rfl rfl rfl) ?_)|(refine gL ?_;first|refine s_gp rfl rfl ?_|refine s_gv HM rfl ?_|(refine gCall ?_;(refine s_fn rfl rfl ?_;(go_at_call 42;refine (specMsg _ _ _ hh HM).mono ?_;rintro e W1 ⟨rfl,HM1⟩;refine ⟨_,rfl,?_⟩;replace HM:=HM1;clear HM1)))|refine l_nil ?_)|(refine gC ?_;first|refine c_seq ?_|refine c_region ?_|refine c_block ?_|refine c_skip ?_|refine c_ret ?_|refine c_yes rfl (by (simp;omega)) ?_)|(refine gN ?_;first|refine n_then ?_|refine r_then ?_|refine r_block ?_))
      exact ret_tmp rfl rfl ⟨by rw [worldB,allN_fail hlt2 (by rw [e0];exact hv)];simp,HM.sb⟩
    repeat (first|(refine gGP ?_;first|refine gp (p_move rfl) ?_|refine gp (p_assign rfl) ?_|(refine gGB ?_;first|refine gp (p_lss rfl rfl) ?_|refine gp (p_add rfl rfl (by exact wr (by omega) (by omega))) ?_)|refine gp (p_field rfl (by simp only [Nat.reduceAdd];rfl)) ?_|refine gp (p_indexr HM rfl (by first|with_reducible rfl|omega) rfl (by omega) (by omega)) ?_|refine gp (p_len rfl) ?_|refine gp (p_not rfl) ?_)|(refine gGV ?_;first|refine gv (p_load rfl) ?_|refine gv (p_loadwr rfl rfl rfl) ?_)|(refine gL ?_;first|refine s_gp rfl rfl ?_|refine s_gv HM rfl ?_|(refine gCall ?_;(refine s_fn rfl rfl ?_;(go_at_call 42;refine (specMsg _ _ _ hh HM).mono ?_;rintro e W1 ⟨rfl,HM1⟩;refine ⟨_,rfl,?_⟩;replace HM:=HM1;clear HM1)))|refine l_nil ?_)|(refine gC ?_;first|refine c_seq ?_|refine c_region ?_|refine c_block ?_|refine c_skip ?_|refine c_yes rfl (by (simp;omega)) ?_|refine c_no rfl (by (simp;omega)) ?_)|(refine gN ?_;first|refine n_then ?_|refine n_block ?_))
    exact n_round (k + 1) (by repeat (first|exact trivial|refine And.intro (by first|rfl|exact look_int rfl (by omega)) ?_)) ⟨by omega,allN_succ hp2 (by rw [e0];exact hv),HM.sb⟩ (by omega)
  obtain rfl : k = x.flight.length:=by omega
  repeat (first|(refine gGP ?_;first|refine gp (p_move rfl) ?_|refine gp (p_assign rfl) ?_|(refine gGB ?_;refine gp (p_lss rfl rfl) ?_)|refine gp (p_field rfl (by simp only [Nat.reduceAdd];rfl)) ?_|refine gp (p_len rfl) ?_)|(refine gGV ?_;refine gv (p_load rfl) ?_)|(refine gL ?_;first|refine s_gp rfl rfl ?_|refine s_gv HM rfl ?_|refine l_nil ?_)|(refine gC ?_;first|refine c_seq ?_|refine c_region ?_|refine c_block ?_|refine c_exit ?_|refine c_no rfl (by first|rfl|(simp;done)|fail) ?_)|(refine gN ?_;first|refine n_then ?_|refine x_then ?_|refine x_here ?_))
  refine c_loop (σ:=Nat) (fun k=>[(1,.pointer (some ⟨g,0,none⟩)),(6,.int .i64 k)]) (fun k W1=>k ≤ x.fixed.length ∧ allN (fixB x.fixed) k = true ∧ Mem w0 W1 _) (fun k=>x.fixed.length - k) 0 (by repeat (first|exact trivial|refine And.intro (by first|rfl|exact look_int rfl (by omega)) ?_)) ⟨Nat.zero_le _,allN_zero,HM⟩ ?_
  clear HM
  rintro k W1 ⟨hk3,hp3,HM⟩
  by_cases hlt3 : k < x.fixed.length
  · have hb:=fixB_at hlt3
    have e0:=rdR_at (D:=rFix false) hlt3
    obtain ⟨cc,⟨j,rfl,_⟩,HM⟩:=HM.roOpen (A:=i.b2.1) k hlt3
    unfold encFix at HM
    by_cases b1 : 1 ≤ x.fixed[k].index ∧ x.fixed[k].index ≤ 60
    rotate_left
    · repeat (first|(refine gGV ?_;refine gv (p_loadrc rfl rfl) ?_)|(refine gR ?_;refine d_start [] [(0,0),(0,2),(1,1),(0,3),(0,4),(1,5),(2,6),(0,7),(0,8),(0,9),(0,11),(1,10),(0,12),(0,13),(1,14),(0,15),(0,16),(0,17),(0,18),(0,19),(0,20),(0,21),(0,22),(0,24),(0,25),(0,29),(0,31),(1,23),(0,26),(0,27),(1,28),(1,30),(0,32),(0,33),(1,34),(0,35),(0,36),(0,37)] HM (by kernel_rfl) (by kernel_rfl) (by repeat (first|exact qp_body|refine qp_then ?_|refine qp_block ?_)) (by kernel_rfl) rfl ?_;intro HQ HS W1 HM1;replace HM:=HM1;clear HM1)|(refine gGP ?_;first|refine gp (p_move rfl) ?_|refine gp (p_assign rfl) ?_|(refine gGB ?_;refine gp (p_lss rfl rfl) ?_)|refine gp (p_field rfl (by simp only [Nat.reduceAdd];rfl)) ?_|refine gp (p_fieldo rfl (by simp only [Nat.reduceAdd];rfl)) ?_|refine gp (p_indexr HM rfl (by first|with_reducible rfl|omega) rfl (by omega) (by omega)) ?_|refine gp (p_len rfl) ?_|refine gp (p_not rfl) ?_|refine gp (p_pick1 rfl (by first|rfl|(simp;omega)) rfl) ?_)|(refine gGV ?_;refine gv (p_load rfl) ?_)|(refine gL ?_;first|refine s_gp rfl rfl ?_|refine s_gv HM rfl ?_|(refine gCall ?_;(refine s_fn rfl rfl ?_;(go_at_call 39;refine (l1In_c _ _ _ _).mono ?_;rintro e W1 ⟨rfl,rfl⟩;refine ⟨_,rfl,?_⟩)))|refine l_nil ?_)|(refine gC ?_;first|refine c_seq ?_|refine c_region ?_|refine c_block ?_|refine c_skip ?_|refine c_ret ?_|refine c_yes rfl (by first|rfl|(simp;omega)) ?_)|(refine gN ?_;first|refine n_then ?_|refine r_then ?_|refine r_block ?_|refine d_back (by exact HM) ?_)|(refine gD ?_;first|refine d_next rfl ?_|refine d_done ?_)|(refine gO ?_;first|refine d_gp HQ HS rfl ?_|refine d_gv HQ HS rfl ?_|refine d_one ?_|refine d_off (.inl rfl) HQ HS rfl rfl rfl rfl (by first|rfl|(simp;omega)) rfl rfl ?_|refine d_off (.inr rfl) HQ HS rfl rfl rfl rfl (by first|rfl|(simp;omega)) rfl rfl ?_|refine d_off_un (.inl rfl) HQ HS rfl rfl rfl rfl rfl rfl ?_|refine d_off_un (.inr rfl) HQ HS rfl rfl rfl rfl rfl rfl ?_))
      exact ret_tmp rfl rfl ⟨by rw [worldB,allN_fail hlt3 (by rw [hb];simp [b1])];simp,HM.sb⟩
    by_cases b2 : (100 : Int) < x.fixed[k].text.size
    · repeat (first|(refine gGV ?_;refine gv (p_loadrc rfl rfl) ?_)|(refine gR ?_;refine d_start [] [(0,0),(0,2),(1,1),(0,3),(0,4),(1,5),(2,6),(0,7),(0,8),(0,9),(0,11),(1,10),(0,12),(0,13),(1,14),(0,15),(0,16),(0,17),(0,18),(0,19),(0,20),(0,21),(0,22),(0,24),(0,25),(0,29),(0,31),(1,23),(0,26),(0,27),(1,28),(1,30),(0,32),(0,33),(1,34),(0,35),(0,36),(0,37)] HM (by kernel_rfl) (by kernel_rfl) (by repeat (first|exact qp_body|refine qp_then ?_|refine qp_block ?_)) (by kernel_rfl) rfl ?_;intro HQ HS W1 HM1;replace HM:=HM1;clear HM1)|(refine gGP ?_;first|refine gp (p_move rfl) ?_|refine gp (p_assign rfl) ?_|(refine gGB ?_;first|refine gp (p_lss rfl rfl) ?_|refine gp (p_gtr rfl rfl) ?_)|refine gp (p_field rfl (by simp only [Nat.reduceAdd];rfl)) ?_|refine gp (p_fieldo rfl (by simp only [Nat.reduceAdd];rfl)) ?_|refine gp (p_indexr HM rfl (by first|with_reducible rfl|omega) rfl (by omega) (by omega)) ?_|refine gp (p_len rfl) ?_|refine gp (p_slen rfl) ?_|refine gp (p_not rfl) ?_|refine gp (p_pick1 rfl (by (simp;omega)) rfl) ?_|refine gp (p_pick0 rfl (by (simp;omega)) rfl) ?_)|(refine gGV ?_;refine gv (p_load rfl) ?_)|(refine gL ?_;first|refine s_gp rfl rfl ?_|refine s_gv HM rfl ?_|(refine gCall ?_;(refine s_fn rfl rfl ?_;(go_at_call 39;refine (l1In_c _ _ _ _).mono ?_;rintro e W1 ⟨rfl,rfl⟩;refine ⟨_,rfl,?_⟩)))|refine l_nil ?_)|(refine gC ?_;first|refine c_seq ?_|refine c_region ?_|refine c_block ?_|refine c_skip ?_|refine c_ret ?_|refine c_yes rfl (by first|rfl|(simp;omega)) ?_)|(refine gN ?_;first|refine n_then ?_|refine r_then ?_|refine r_block ?_|refine d_back (by exact HM) ?_)|(refine gD ?_;first|refine d_next rfl ?_|refine d_done ?_)|(refine gO ?_;first|refine d_gp HQ HS rfl ?_|refine d_gv HQ HS rfl ?_|refine d_one ?_|refine d_gpg HQ HS rfl rfl rfl (by first|rfl|(simp;omega)) rfl ?_|refine d_gvg HQ HS rfl rfl rfl (by first|rfl|(simp;omega)) rfl ?_|refine d_off (.inl rfl) HQ HS rfl rfl rfl rfl (by first|rfl|(simp;omega)) rfl rfl ?_|refine d_off_un (.inl rfl) HQ HS rfl rfl rfl rfl rfl rfl ?_|refine d_off_un (.inr rfl) HQ HS rfl rfl rfl rfl rfl rfl ?_))
      exact ret_tmp rfl rfl ⟨by rw [worldB,allN_fail hlt3 (by rw [hb];simp [b2])];simp,HM.sb⟩
    by_cases b3 : 0 < k
    rotate_left
    · repeat (first|(refine gGV ?_;refine gv (p_loadrc rfl rfl) ?_)|(refine gR ?_;refine d_start [] [(0,0),(0,2),(1,1),(0,3),(0,4),(1,5),(2,6),(0,7),(0,8),(0,9),(0,11),(1,10),(0,12),(0,13),(1,14),(0,15),(0,16),(0,17),(0,18),(0,19),(0,20),(0,21),(0,22),(0,24),(0,25),(0,29),(0,31),(1,23),(0,26),(0,27),(1,28),(1,30),(0,32),(0,33),(1,34),(0,35),(0,36),(0,37)] HM (by kernel_rfl) (by kernel_rfl) (by repeat (first|exact qp_body|refine qp_then ?_|refine qp_block ?_)) (by kernel_rfl) rfl ?_;intro HQ HS W1 HM1;replace HM:=HM1;clear HM1)|(refine gGP ?_;first|refine gp (p_move rfl) ?_|refine gp (p_assign rfl) ?_|(refine gGB ?_;first|refine gp (p_lss rfl rfl) ?_|refine gp (p_gtr rfl rfl) ?_|refine gp (p_add rfl rfl (by exact wr (by omega) (by omega))) ?_)|refine gp (p_field rfl (by simp only [Nat.reduceAdd];rfl)) ?_|refine gp (p_fieldo rfl (by simp only [Nat.reduceAdd];rfl)) ?_|refine gp (p_indexr HM rfl (by first|with_reducible rfl|omega) rfl (by omega) (by omega)) ?_|refine gp (p_len rfl) ?_|refine gp (p_slen rfl) ?_|refine gp (p_not rfl) ?_|refine gp (p_pick0 rfl (by (simp;omega)) rfl) ?_)|(refine gGV ?_;refine gv (p_load rfl) ?_)|(refine gL ?_;first|refine s_gp rfl rfl ?_|refine s_gv HM rfl ?_|(refine gCall ?_;(refine s_fn rfl rfl ?_;(go_at_call 39;refine (l1In_c _ _ _ _).mono ?_;rintro e W1 ⟨rfl,rfl⟩;refine ⟨_,rfl,?_⟩)))|refine l_nil ?_)|(refine gC ?_;first|refine c_seq ?_|refine c_region ?_|refine c_block ?_|refine c_skip ?_|refine c_yes rfl (by (simp;omega)) ?_|refine c_no rfl (by rfl) ?_)|(refine gN ?_;first|refine n_then ?_|refine n_block ?_|refine d_back (by exact HM) ?_)|(refine gD ?_;first|refine d_next rfl ?_|refine d_done ?_)|(refine gO ?_;first|refine d_gp HQ HS rfl ?_|refine d_gv HQ HS rfl ?_|refine d_one ?_|refine d_gpg HQ HS rfl rfl rfl (by first|rfl|(simp;omega)) rfl ?_|refine d_gvg HQ HS rfl rfl rfl (by first|rfl|(simp;omega)) rfl ?_|refine d_off (.inl rfl) HQ HS rfl rfl rfl rfl (by (simp;omega)) rfl rfl ?_|refine d_off (.inr rfl) HQ HS rfl rfl rfl rfl (by (simp;omega)) rfl rfl ?_))
      exact n_round (k + 1) (by repeat (first|exact trivial|refine And.intro (by first|rfl|exact look_int rfl (by omega)) ?_)) ⟨by omega,allN_succ hp3 (by rw [hb];simp [b1,b2,b3]),HM.sb⟩ (by omega)
    have b3i : (0 : Int) < k:=by omega
    by_cases b4 : x.fixed[k].index ≤ (rdR (rFix false) x.fixed ((k : Int) - 1)).index
    · repeat (first|(refine gGV ?_;refine gv (p_loadrc rfl rfl) ?_)|(refine gR ?_;refine d_start [] [(0,0),(0,2),(1,1),(0,3),(0,4),(1,5),(2,6),(0,7),(0,8),(0,9),(0,11),(1,10),(0,12),(0,13),(1,14),(0,15),(0,16),(0,17),(0,18),(0,19),(0,20),(0,21),(0,22),(0,24),(0,25),(0,29),(0,31),(1,23),(0,26),(0,27),(1,28),(1,30),(0,32),(0,33),(1,34),(0,35),(0,36),(0,37)] HM (by kernel_rfl) (by kernel_rfl) (by repeat (first|exact qp_body|refine qp_then ?_|refine qp_block ?_)) (by kernel_rfl) rfl ?_;intro HQ HS W1 HM1;replace HM:=HM1;clear HM1)|(refine gGP ?_;first|refine gp (p_move rfl) ?_|refine gp (p_assign rfl) ?_|(refine gGB ?_;first|refine gp (p_lss rfl rfl) ?_|refine gp (p_gtr rfl rfl) ?_|refine gp (p_geq rfl rfl) ?_|refine gp (p_sub rfl rfl (by exact wr (by omega) (by omega))) ?_)|refine gp (p_field rfl (by simp only [Nat.reduceAdd];rfl)) ?_|refine gp (p_fieldo rfl (by simp only [Nat.reduceAdd];rfl)) ?_|refine gp (p_indexr HM rfl (by first|with_reducible rfl|omega) rfl (by omega) (by omega)) ?_|refine gp (p_len rfl) ?_|refine gp (p_slen rfl) ?_|refine gp (p_not rfl) ?_|refine gp (p_pick1 rfl (by (simp;omega)) rfl) ?_|refine gp (p_pick0 rfl (by (simp;omega)) rfl) ?_)|(refine gGV ?_;first|refine gv (p_load rfl) ?_|refine gv (p_loadr rfl rfl (by omega) (by omega) rfl) ?_)|(refine gL ?_;first|refine s_gp rfl rfl ?_|refine s_gv HM rfl ?_|(refine gCall ?_;(refine s_fn rfl rfl ?_;(go_at_call 39;refine (l1In_c _ _ _ _).mono ?_;rintro e W1 ⟨rfl,rfl⟩;refine ⟨_,rfl,?_⟩)))|refine l_nil ?_)|(refine gC ?_;first|refine c_seq ?_|refine c_region ?_|refine c_block ?_|refine c_skip ?_|refine c_ret ?_|refine c_yes rfl (by (simp;omega)) ?_)|(refine gN ?_;first|refine n_then ?_|refine r_then ?_|refine r_block ?_|refine d_back (by exact HM) ?_)|(refine gD ?_;first|refine d_next rfl ?_|refine d_done ?_)|(refine gO ?_;first|refine d_gp HQ HS rfl ?_|refine d_gv HQ HS rfl ?_|refine d_one ?_|refine d_gpg HQ HS rfl rfl rfl (by first|rfl|(simp;omega)) rfl ?_|refine d_gvg HQ HS rfl rfl rfl (by (simp;omega)) rfl ?_))
      exact ret_tmp rfl rfl ⟨by rw [worldB,allN_fail hlt3 (by rw [hb];simp [b3,b4])];simp,HM.sb⟩
    repeat (first|(refine gGV ?_;refine gv (p_loadrc rfl rfl) ?_)|(refine gR ?_;refine d_start [] [(0,0),(0,2),(1,1),(0,3),(0,4),(1,5),(2,6),(0,7),(0,8),(0,9),(0,11),(1,10),(0,12),(0,13),(1,14),(0,15),(0,16),(0,17),(0,18),(0,19),(0,20),(0,21),(0,22),(0,24),(0,25),(0,29),(0,31),(1,23),(0,26),(0,27),(1,28),(1,30),(0,32),(0,33),(1,34),(0,35),(0,36),(0,37)] HM (by kernel_rfl) (by kernel_rfl) (by repeat (first|exact qp_body|refine qp_then ?_|refine qp_block ?_)) (by kernel_rfl) rfl ?_;intro HQ HS W1 HM1;replace HM:=HM1;clear HM1)|(refine gGP ?_;first|refine gp (p_move rfl) ?_|refine gp (p_assign rfl) ?_|(refine gGB ?_;first|refine gp (p_lss rfl rfl) ?_|refine gp (p_gtr rfl rfl) ?_|refine gp (p_geq rfl rfl) ?_|refine gp (p_add rfl rfl (by first|exact wr (by omega) (by omega)|rfl)) ?_|refine gp (p_sub rfl rfl (by exact wr (by omega) (by omega))) ?_)|refine gp (p_field rfl (by simp only [Nat.reduceAdd];rfl)) ?_|refine gp (p_fieldo rfl (by simp only [Nat.reduceAdd];rfl)) ?_|refine gp (p_indexr HM rfl (by first|with_reducible rfl|omega) rfl (by omega) (by omega)) ?_|refine gp (p_len rfl) ?_|refine gp (p_slen rfl) ?_|refine gp (p_not rfl) ?_|refine gp (p_pick1 rfl (by (simp;omega)) rfl) ?_|refine gp (p_pick0 rfl (by (simp;omega)) rfl) ?_)|(refine gGV ?_;first|refine gv (p_load rfl) ?_|refine gv (p_loadr rfl rfl (by omega) (by omega) rfl) ?_)|(refine gL ?_;first|refine s_gp rfl rfl ?_|refine s_gv HM rfl ?_|(refine gCall ?_;(refine s_fn rfl rfl ?_;(go_at_call 39;refine (l1In_c _ _ _ _).mono ?_;rintro e W1 ⟨rfl,rfl⟩;refine ⟨_,rfl,?_⟩)))|refine l_nil ?_)|(refine gC ?_;first|refine c_seq ?_|refine c_region ?_|refine c_block ?_|refine c_skip ?_|refine c_yes rfl (by (simp;omega)) ?_|refine c_no rfl (by (simp;omega)) ?_)|(refine gN ?_;first|refine n_then ?_|refine n_block ?_|refine d_back (by exact HM) ?_)|(refine gD ?_;first|refine d_next rfl ?_|refine d_done ?_)|(refine gO ?_;first|refine d_gp HQ HS rfl ?_|refine d_gv HQ HS rfl ?_|refine d_one ?_|refine d_gpg HQ HS rfl rfl rfl (by first|rfl|(simp;omega)) rfl ?_|refine d_gvg HQ HS rfl rfl rfl (by (simp;omega)) rfl ?_))
    exact n_round (k + 1) (by repeat (first|exact trivial|refine And.intro (by first|rfl|exact look_int rfl (by omega)) ?_)) ⟨by omega,allN_succ hp3 (by rw [hb];simp [b1,b2,b4]),HM.sb⟩ (by omega)
  obtain rfl : k = x.fixed.length:=by omega
  repeat (first|(refine gGP ?_;first|refine gp (p_move rfl) ?_|refine gp (p_assign rfl) ?_|(refine gGB ?_;refine gp (p_lss rfl rfl) ?_)|refine gp (p_field rfl (by simp only [Nat.reduceAdd];rfl)) ?_|refine gp (p_len rfl) ?_)|(refine gGV ?_;refine gv (p_load rfl) ?_)|(refine gL ?_;first|refine s_gp rfl rfl ?_|refine s_gv HM rfl ?_|refine l_nil ?_)|(refine gC ?_;first|refine c_seq ?_|refine c_region ?_|refine c_exit ?_|refine c_ret ?_|refine c_no rfl (by first|(simp;done)|fail) ?_)|(refine gN ?_;first|refine n_then ?_|refine x_then ?_|refine x_here ?_))
  exact ret_tmp rfl rfl ⟨by rw [worldB,hp,hp2,hp3];simp [c1,c2],HM.sb⟩
end Go.Proofs.YtampmicahnnebaaGreat.Sp
namespace Go.Proofs.YtampmicahnnebaaGreat.Sp
open Go Go.RowKit
set_option maxRecDepth 10000
set_option maxHeartbeats 4000000
variable {w0 W : World} {L : List Asn} {A : Option Addr} {c : Nat}
def SlotsAt (k : Int) (ys : List Slot) : Prop:=∀ j : Nat,j < ys.length → rd tSlot ys j = ⟨k + 2 * j,mt (k + 2 * j + 1).toNat⟩
def IntsAt (k : Int) (ys : List Int) : Prop:=∀ j : Nat,j < ys.length → rd tInt ys j = k + j
def StrsAt (k : Int) (ys : List ByteArray) : Prop:=∀ j : Nat,j < ys.length → rd tStr ys j = mt (k + j).toNat
structure MsgAt (p : Int) (l : Nat) (m : Msg) : Prop where
  kind : m.kind = p
  frm : m.frm = p + 1
  to : m.to = p + 1 + 1
  ballot : m.ballot = p + 1 + 1 + 1
  index : m.index = p + 1 + 1 + 1 + 1
  known : m.known = p + 1 + 1 + 1 + 1 + 1
  text : m.text = mt (p + 1 + 1 + 1 + 1 + 1 + 1).toNat
  len : m.slots.length = l
  slots : SlotsAt (p + 1 + 1 + 1 + 1 + 1 + 1 + 1) m.slots
structure AckAt (p : Int) (l : Nat) (m : Ack) : Prop where
  index : m.index = p
  len : m.frm.length = l
  frm : IntsAt (p + 1) m.frm
def su (ls : List Nat) (j : Nat) : Nat:=(ls.take j).sum
def lsM (xs : List Msg) : List Nat:=xs.map (fun m=>m.slots.length)
def lsA (xs : List Ack) : List Nat:=xs.map (fun m=>m.frm.length)
def MsgsAt (k : Int) (ls : List Nat) (ys : List Msg) : Prop:=ys.length = ls.length ∧ ∀ j (h : j < ys.length) (h2 : j < ls.length),MsgAt (k + 7 * j + 2 * su ls j) ls[j] ys[j]
def AcksAt (k : Int) (ls : List Nat) (ys : List Ack) : Prop:=ys.length = ls.length ∧ ∀ j (h : j < ys.length) (h2 : j < ls.length),AckAt (k + j + su ls j) ls[j] ys[j]
def pH (x : Rcd) (k : Int) : Int:=k + 2 * x.ss.length + 2 * x.ds.length
def pW (x : Rcd) (k : Int) : Int:=pH x k + 7 * x.held.length + 2 * su (lsM x.held) x.held.length
def pB (x : Rcd) (k : Int) : Int:=pW x k + x.wishes.length + x.yes.length
def pA (x : Rcd) (k : Int) : Int:=pB x k + 2 * x.best.length
def pE (x : Rcd) (k : Int) : Int:=pA x k + x.acks.length + su (lsA x.acks) x.acks.length
structure RcdAt (x : Rcd) (k r : Int) (y : Rcd) : Prop where
  e : r = pE x k
  pos : 0 < r
  sc : ∀ i,encRcd y i = encRcd x i
  ss : y.ss.length = x.ss.length
  ds : y.ds.length = x.ds.length
  wi : y.wishes.length = x.wishes.length
  ye : y.yes.length = x.yes.length
  be : y.best.length = x.best.length
  ssAt : SlotsAt k y.ss
  dsAt : SlotsAt (k + 2 * x.ss.length) y.ds
  held : MsgsAt (pH x k) (lsM x.held) y.held
  wiAt : StrsAt (pW x k) y.wishes
  yeAt : IntsAt (pW x k + x.wishes.length) y.yes
  beAt : SlotsAt (pB x k) y.best
  acks : AcksAt (pA x k) (lsA x.acks) y.acks
end Go.Proofs.YtampmicahnnebaaGreat.Sp
namespace Go.Proofs.YtampmicahnnebaaGreat.Sp
open Go Go.RowKit
set_option maxRecDepth 10000
set_option maxHeartbeats 1000000
variable {w0 W : World} {L : List Asn}
end Go.Proofs.YtampmicahnnebaaGreat.Sp
namespace Go.Proofs.YtampmicahnnebaaGreat.Sp
open Go Go.RowKit
set_option maxRecDepth 10000
set_option maxHeartbeats 1000000
variable {w0 W : World} {L : List Asn}
def fallL (x : Rcd) : Rcd:=if validB x = true then ⟨x.number,x.of,false,x.sp,x.sk,x.ss,x.sp,x.sk,x.ss,[],[],false,false,0,[],[],[],0⟩ else zeroR
theorem specRecFall (x : Rcd) (i : AtRcd) (h : RoRcd false w0 x i) (hn : SmallR x) (HM : Mem w0 W L) : Calls Tryz.prog 110 #[.agg (encRcd x i).toArray] W fun e W'=>∃ j,e = .returned (.agg (encRcd (fallL x) j).toArray) ∧ Mem w0 W' (partRcd 91 40 9 3 66 (fallL x) j ++ L):=by
  refine enter Tryz.func110 rfl Tryz.ntmps110 [(0,.agg (encRcd x i).toArray)] rfl ⟨rfl,trivial⟩ ?_
  have h0:=h
  unfold encRcd
  by_cases hv : validB x = true
  rotate_left
  · simp only [Bool.not_eq_true] at hv
    repeat (first|refine Y ?_|(refine qs ?_;clear HM;intro W1 HM)|(refine qf ?_;go_at_call 9;refine (specValid x i h0 hn HM).mono ?_;rintro e W1 ⟨rfl,HM1⟩;refine ⟨_,rfl,?_⟩;replace HM:=HM1;clear HM1)|(refine qg ?_;clear HM;intro g W1 HM))
    have HM2:=HM.zeroR 91 40 9 3 66
    simp only [partRcd,zeroR,atZ,List.cons_append,List.nil_append] at HM2
    have e : fallL x = zeroR:=by simp [fallL,hv]
    rw [e]
    exact ret_cell HM2 rfl rfl rfl ⟨atZ,rfl,by simp only [partRcd,zeroR,atZ,List.cons_append,List.nil_append];exact HM2.sb⟩
  repeat (first|(refine gR ?_;refine d_start [11] [(0,0),(0,2),(0,4),(0,7),(1,1),(1,3),(1,5),(1,8),(2,6),(2,9),(2,10),(3,11)] HM (by kernel_rfl) (by kernel_rfl) qq (by kernel_rfl) rfl ?_;intro HQ HS W1 HM1;replace HM:=HM1;clear HM1)|refine Y ?_|(refine qs ?_;clear HM;intro W1 HM)|(refine qf ?_;first|(go_at_call 9;refine (specValid x i h0 hn HM).mono ?_;rintro e W1 ⟨rfl,HM1⟩;refine ⟨_,rfl,?_⟩;replace HM:=HM1;clear HM1)|(go_at_call 25;refine (l1Disk_c _ _ h0.ss hn.ss HM).mono ?_;rintro e W1 ⟨Ad,cd,rfl,HM1⟩;refine ⟨_,rfl,?_⟩;replace HM:=HM1;clear HM1))|(refine qg ?_;clear HM;intro g W1 HM))
  have HM2:=HM.zeroR 91 40 9 3 66
  simp only [partRcd,zeroR,atZ,List.cons_append,List.nil_append] at HM2
  have e : fallL x = _:=if_pos hv
  rw [e]
  exact ret_cell HM2 rfl rfl rfl ⟨⟨(_,_),(_,_),(_,_),(_,_),(_,_),(_,_),(_,_)⟩,rfl,by simp only [partRcd,List.cons_append,List.nil_append];exact HM2.sb⟩
end Go.Proofs.YtampmicahnnebaaGreat.Sp
