/- take of the program, kind by kind. No condition. -/
import Derived.Test.YtampmicahnnebaaGreatRecClaim7
import Derived.Test.YtampmicahnnebaaGreatRecClaim4
import Derived.Test.YtampmicahnnebaaGreatRecClaim3
import Derived.Test.YtampmicahnnebaaGreatRecClaim2
import Derived.Test.YtampmicahnnebaaGreatRecClaim1
set_option linter.unusedVariables false
set_option linter.unusedSimpArgs false
namespace Go.Proofs.YtampmicahnnebaaGreat.Sp
open Go Go.RowKit
set_option maxRecDepth 10000
set_option maxHeartbeats 2000000
variable {w0 W : World} {L : List Asn}
theorem takeAcceptedM (x : Rcd) (i : AtRcd) (gr : Nat) (m : Msg) (am : At) (hv : VR x) (hu : x.up = true) (hm : MsgP m x.of) (ht : m.to = x.number) (hk : m.kind = 4) (HM : Mem w0 W (boxR 91 40 9 3 66 31 gr x i ++ L)) : Calls Tryz.prog 55 #[.pointer (some ⟨gr,0,none⟩),.agg (encMsg m am).toArray] W fun e W'=>∃ j,e = .returned (.tuple #[]) ∧ Mem w0 W' (boxR 91 40 9 3 66 31 gr (if x.lead = true ∧ m.ballot = x.ballot ∧ 0 < m.index then ackL x m.index m.frm else x) j ++ L):=by
  refine enter Tryz.func55 rfl Tryz.ntmps55 [(0,_),(1,.agg (encMsg m am).toArray)] rfl ⟨rfl,rfl,trivial⟩ ?_
  unfold encMsg
  simp only [boxR,partRcd,List.cons_append,List.nil_append] at HM
  by_cases c1 : x.lead = true
  rotate_left
  · rw [if_neg (fun h=>c1 h.1)]
    simp only [Bool.not_eq_true] at c1
    repeat (first|(refine gR ?_;first|(refine d_start [] [(0,0),(0,1),(0,2),(1,3),(0,4),(0,5),(0,6),(0,8),(0,9),(0,10),(1,7),(1,11),(0,12),(0,13)] HM (by kernel_rfl) (by kernel_rfl) qq (by kernel_rfl) rfl ?_;intro HQ HS W1 HM1;replace HM:=HM1;clear HM1)|(refine d_start [] [(0,0),(0,1),(0,2),(1,3),(0,4),(0,5),(0,7),(0,8),(0,9),(1,6),(1,10),(0,11),(0,12),(0,13),(0,14),(1,15),(0,16),(0,17)] HM (by kernel_rfl) (by kernel_rfl) qq (by kernel_rfl) rfl ?_;intro HQ HS W1 HM1;replace HM:=HM1;clear HM1))|refine Y ?_|(refine qg ?_;clear HM;intro g W1 HM))
    exact end_none rfl ⟨i,rfl,by simp only [boxR,partRcd,List.cons_append,List.nil_append];exact HM.sb⟩
  by_cases c2 : m.ballot = x.ballot
  rotate_left
  · rw [if_neg (fun h=>c2 h.2.1)]
    repeat (first|(refine gR ?_;first|(refine d_start [] [(0,0),(0,1),(0,2),(1,3),(0,4),(0,5),(0,6),(0,8),(0,9),(0,10),(1,7),(1,11),(0,12),(0,13)] HM (by kernel_rfl) (by kernel_rfl) qq (by kernel_rfl) rfl ?_;intro HQ HS W1 HM1;replace HM:=HM1;clear HM1)|(refine d_start [] [(0,0),(0,1),(0,2),(1,3),(0,4),(0,5),(0,7),(0,8),(0,9),(1,6),(1,10),(0,11),(0,12),(0,13),(0,14),(1,15),(0,16),(0,17)] HM (by kernel_rfl) (by kernel_rfl) qq (by kernel_rfl) rfl ?_;intro HQ HS W1 HM1;replace HM:=HM1;clear HM1))|refine Y ?_|(refine qg ?_;clear HM;intro g W1 HM))
    exact end_none rfl ⟨i,rfl,by simp only [boxR,partRcd,List.cons_append,List.nil_append];exact HM.sb⟩
  by_cases c3 : 0 < m.index
  rotate_left
  · rw [if_neg (fun h=>c3 h.2.2)]
    repeat (first|(refine gR ?_;first|(refine d_start [] [(0,0),(0,1),(0,2),(1,3),(0,4),(0,5),(0,6),(0,8),(0,9),(0,10),(1,7),(1,11),(0,12),(0,13)] HM (by kernel_rfl) (by kernel_rfl) qq (by kernel_rfl) rfl ?_;intro HQ HS W1 HM1;replace HM:=HM1;clear HM1)|(refine d_start [] [(0,0),(0,1),(0,2),(1,3),(0,4),(0,5),(0,7),(0,8),(0,9),(1,6),(1,10),(0,11),(0,12),(0,13),(0,14),(1,15),(0,16),(0,17)] HM (by kernel_rfl) (by kernel_rfl) qq (by kernel_rfl) rfl ?_;intro HQ HS W1 HM1;replace HM:=HM1;clear HM1))|refine Y ?_|(refine qg ?_;clear HM;intro g W1 HM))
    exact end_none rfl ⟨i,rfl,by simp only [boxR,partRcd,List.cons_append,List.nil_append];exact HM.sb⟩
  rw [if_pos ⟨c1,c2,c3⟩]
  have hix:=hm.index
  repeat (first|(refine gR ?_;first|(refine d_start [] [(0,0),(0,1),(0,2),(1,3),(0,4),(0,5),(0,6),(0,8),(0,9),(0,10),(1,7),(1,11),(0,12),(0,13)] HM (by kernel_rfl) (by kernel_rfl) qq (by kernel_rfl) rfl ?_;intro HQ HS W1 HM1;replace HM:=HM1;clear HM1)|(refine d_start [] [(0,0),(0,1),(0,2),(1,3),(0,4),(0,5),(0,7),(0,8),(0,9),(1,6),(1,10),(0,11),(0,12),(0,13),(0,14),(1,15),(0,16),(0,17)] HM (by kernel_rfl) (by kernel_rfl) qq (by kernel_rfl) rfl ?_;intro HQ HS W1 HM1;replace HM:=HM1;clear HM1))|refine Y ?_|(refine qf ?_;go_at_call 69;refine (tookM x i gr m.frm m.index hv c1 (by omega) hm.frm (by exact pk_boxr HM)).mono ?_;rintro e W1 ⟨j2,rfl,HM1⟩;refine ⟨_,rfl,?_⟩;replace HM:=HM1;clear HM1;simp only [boxR,partRcd,List.cons_append,List.nil_append] at HM)|(refine qg ?_;clear HM;intro g W1 HM))
  exact end_none rfl ⟨j2,rfl,by simp only [boxR,partRcd,List.cons_append,List.nil_append];exact HM.sb⟩
theorem takeChosenM (x : Rcd) (i : AtRcd) (gr : Nat) (m : Msg) (am : At) (hv : VR x) (hu : x.up = true) (hm : MsgP m x.of) (ht : m.to = x.number) (hk : m.kind = 6) (HM : Mem w0 W (boxR 91 40 9 3 66 31 gr x i ++ L)) : Calls Tryz.prog 55 #[.pointer (some ⟨gr,0,none⟩),.agg (encMsg m am).toArray] W fun e W'=>∃ j,e = .returned (.tuple #[]) ∧ Mem w0 W' (boxR 91 40 9 3 66 31 gr (choL x m) j ++ L):=by
  refine enter Tryz.func55 rfl Tryz.ntmps55 [(0,_),(1,.agg (encMsg m am).toArray)] rfl ⟨rfl,rfl,trivial⟩ ?_
  unfold encMsg
  have hd0:=hv.disk.k0
  have hd1:=hv.disk.k1
  have hdl:=hv.disk.slots.1
  have hix:=hm.index
  simp only [boxR,partRcd,List.cons_append,List.nil_append] at HM
  by_cases c1 : m.index = x.dk + 1
  rotate_left
  · have e : choL x m = x:=if_neg (fun h=>c1 h.1)
    rw [e]
    repeat (first|(refine gR ?_;first|(refine d_start [] [(0,0),(0,1),(0,2),(1,3),(0,4),(0,5),(0,6),(0,8),(0,9),(0,10),(1,7),(1,11),(0,12),(0,13)] HM (by kernel_rfl) (by kernel_rfl) qq (by kernel_rfl) rfl ?_;intro HQ HS W1 HM1;replace HM:=HM1;clear HM1)|(refine d_start [] [(0,0),(0,2),(0,3),(0,4),(1,1),(1,5),(0,6),(0,7),(0,8),(0,9),(1,10),(0,11),(0,12),(0,13),(0,14),(0,16),(0,17),(0,18),(1,15),(1,19),(0,20),(0,21)] HM (by kernel_rfl) (by kernel_rfl) qq (by kernel_rfl) rfl ?_;intro HQ HS W1 HM1;replace HM:=HM1;clear HM1))|refine Y ?_|(refine qg ?_;clear HM;intro g W1 HM))
    exact end_none rfl ⟨i,rfl,by simp only [boxR,partRcd,List.cons_append,List.nil_append];exact HM.sb⟩
  by_cases c2 : 0 < m.ballot
  rotate_left
  · have e : choL x m = x:=if_neg (fun h=>c2 h.2.1)
    rw [e]
    repeat (first|(refine gR ?_;first|(refine d_start [] [(0,0),(0,1),(0,2),(1,3),(0,4),(0,5),(0,6),(0,8),(0,9),(0,10),(1,7),(1,11),(0,12),(0,13)] HM (by kernel_rfl) (by kernel_rfl) qq (by kernel_rfl) rfl ?_;intro HQ HS W1 HM1;replace HM:=HM1;clear HM1)|(refine d_start [] [(0,0),(0,2),(0,3),(0,4),(1,1),(1,5),(0,6),(0,7),(0,8),(0,9),(1,10),(0,11),(0,12),(0,13),(0,14),(0,16),(0,17),(0,18),(1,15),(1,19),(0,20),(0,21)] HM (by kernel_rfl) (by kernel_rfl) qq (by kernel_rfl) rfl ?_;intro HQ HS W1 HM1;replace HM:=HM1;clear HM1))|refine Y ?_|(refine qg ?_;clear HM;intro g W1 HM))
    exact end_none rfl ⟨i,rfl,by simp only [boxR,partRcd,List.cons_append,List.nil_append];exact HM.sb⟩
  by_cases c3 : m.ballot ≤ x.dp
  rotate_left
  · have e : choL x m = x:=if_neg (fun h=>c3 h.2.2)
    rw [e]
    repeat (first|(refine gR ?_;first|(refine d_start [] [(0,0),(0,1),(0,2),(1,3),(0,4),(0,5),(0,6),(0,8),(0,9),(0,10),(1,7),(1,11),(0,12),(0,13)] HM (by kernel_rfl) (by kernel_rfl) qq (by kernel_rfl) rfl ?_;intro HQ HS W1 HM1;replace HM:=HM1;clear HM1)|(refine d_start [] [(0,0),(0,2),(0,3),(0,4),(1,1),(1,5),(0,6),(0,7),(0,8),(0,9),(1,10),(0,11),(0,12),(0,13),(0,14),(0,16),(0,17),(0,18),(1,15),(1,19),(0,20),(0,21)] HM (by kernel_rfl) (by kernel_rfl) qq (by kernel_rfl) rfl ?_;intro HQ HS W1 HM1;replace HM:=HM1;clear HM1))|refine Y ?_|(refine qg ?_;clear HM;intro g W1 HM))
    exact end_none rfl ⟨i,rfl,by simp only [boxR,partRcd,List.cons_append,List.nil_append];exact HM.sb⟩
  have e : choL x m = { setL x m.index ⟨m.ballot,m.text⟩ with dk:=m.index }:=if_pos ⟨c1,c2,c3⟩
  rw [e]
  repeat (first|(refine gR ?_;first|(refine d_start [] [(0,0),(0,1),(0,2),(1,3),(0,4),(0,5),(0,6),(0,8),(0,9),(0,10),(1,7),(1,11),(0,12),(0,13)] HM (by kernel_rfl) (by kernel_rfl) qq (by kernel_rfl) rfl ?_;intro HQ HS W1 HM1;replace HM:=HM1;clear HM1)|(refine d_start [] [(0,0),(0,2),(0,3),(0,4),(1,1),(1,5),(0,6),(0,7),(0,8),(0,9),(1,10),(0,11),(0,12),(0,13),(0,14),(0,16),(0,17),(0,18),(1,15),(1,19),(0,20),(0,21)] HM (by kernel_rfl) (by kernel_rfl) qq (by kernel_rfl) rfl ?_;intro HQ HS W1 HM1;replace HM:=HM1;clear HM1))|refine Y ?_|(refine qs ?_;clear HM;intro W1 HM)|(refine qf ?_;go_at_call 94;refine (slotM x i gr m.index ⟨m.ballot,m.text⟩ (by omega) (by omega) (by omega) (by exact pk_boxr HM)).mono ?_;rintro e W1 ⟨j2,rfl,HM1⟩;refine ⟨_,rfl,?_⟩;replace HM:=HM1;clear HM1;simp only [boxR,partRcd,List.cons_append,List.nil_append] at HM)|(refine qg ?_;clear HM;intro g W1 HM))
  exact end_none rfl ⟨j2,rfl,by simp only [boxR,partRcd,List.cons_append,List.nil_append];exact HM.sb⟩
theorem takeWishedM (x : Rcd) (i : AtRcd) (gr : Nat) (m : Msg) (am : At) (hv : VR x) (hu : x.up = true) (hm : MsgP m x.of) (ht : m.to = x.number) (hn : SmallR x) (hk : m.kind = 8) (HM : Mem w0 W (boxR 91 40 9 3 66 31 gr x i ++ L)) : Calls Tryz.prog 55 #[.pointer (some ⟨gr,0,none⟩),.agg (encMsg m am).toArray] W fun e W'=>∃ j,e = .returned (.tuple #[]) ∧ Mem w0 W' (boxR 91 40 9 3 66 31 gr (wish1 x m.text) j ++ L):=by
  refine enter Tryz.func55 rfl Tryz.ntmps55 [(0,_),(1,.agg (encMsg m am).toArray)] rfl ⟨rfl,rfl,trivial⟩ ?_
  unfold encMsg
  have htx:=hm.text
  simp only [boxR,partRcd,List.cons_append,List.nil_append] at HM
  repeat (first|(refine gR ?_;refine d_start [] [(0,0),(0,1),(0,2),(1,3),(0,4),(0,5),(0,6),(0,8),(0,9),(0,10),(1,7),(1,11),(0,12),(0,13)] HM (by kernel_rfl) (by kernel_rfl) qq (by kernel_rfl) rfl ?_;intro HQ HS W1 HM1;replace HM:=HM1;clear HM1)|refine Y ?_|(refine qf ?_;go_at_call 60;refine (wishM x i gr m.text (validB_iff.2 hv) hn (by omega) (by exact pk_boxr HM)).mono ?_;rintro e W1 ⟨j2,rfl,HM1⟩;refine ⟨_,rfl,?_⟩;replace HM:=HM1;clear HM1;simp only [boxR,partRcd,List.cons_append,List.nil_append] at HM)|(refine qg ?_;clear HM;intro g W1 HM))
  exact end_none rfl ⟨j2,rfl,by simp only [boxR,partRcd,List.cons_append,List.nil_append];exact HM.sb⟩
theorem takeRefuseM (x : Rcd) (i : AtRcd) (gr : Nat) (m : Msg) (am : At) (hv : VR x) (hu : x.up = true) (hm : MsgP m x.of) (ht : m.to = x.number) (hk : m.kind = 9) (HM : Mem w0 W (boxR 91 40 9 3 66 31 gr x i ++ L)) : Calls Tryz.prog 55 #[.pointer (some ⟨gr,0,none⟩),.agg (encMsg m am).toArray] W fun e W'=>∃ j,e = .returned (.tuple #[]) ∧ Mem w0 W' (boxR 91 40 9 3 66 31 gr (refL x m) j ++ L):=by
  refine enter Tryz.func55 rfl Tryz.ntmps55 [(0,_),(1,.agg (encMsg m am).toArray)] rfl ⟨rfl,rfl,trivial⟩ ?_
  unfold encMsg
  simp only [boxR,partRcd,List.cons_append,List.nil_append] at HM
  by_cases c0 : x.lead = true ∨ x.trying = true
  rotate_left
  · have e : refL x m = x:=if_neg (fun h=>c0 h.2)
    have c2 : x.lead = false:=by cases h : x.lead <;> simp_all
    have c3 : x.trying = false:=by cases h : x.trying <;> simp_all
    rw [e]
    repeat (first|(refine gR ?_;first|(refine d_start [] [(0,0),(0,1),(0,2),(1,3),(0,4),(0,5),(0,6),(0,8),(0,9),(0,10),(1,7),(1,11),(0,12),(0,13)] HM (by kernel_rfl) (by kernel_rfl) qq (by kernel_rfl) rfl ?_;intro HQ HS W1 HM1;replace HM:=HM1;clear HM1)|(refine d_start (id:=51) [] [(0,0),(0,1),(0,2),(1,3),(0,4),(0,5),(0,6),(0,7),(1,8),(0,9),(0,10),(0,11),(0,13),(0,14),(0,15),(1,12),(1,16),(0,17),(0,18)] HM (by kernel_rfl) (by kernel_rfl) qq (by kernel_rfl) rfl ?_;intro HQ HS W1 HM1;replace HM:=HM1;clear HM1))|refine Y ?_|(refine qg ?_;clear HM;intro g W1 HM))
    exact end_none rfl ⟨i,rfl,by simp only [boxR,partRcd,List.cons_append,List.nil_append];exact HM.sb⟩
  by_cases c2 : x.lead = true
  · by_cases c1 : x.ballot < m.ballot
    rotate_left
    · have e : refL x m = x:=if_neg (fun h=>c1 h.1)
      rw [e]
      repeat (first|(refine gR ?_;first|(refine d_start [] [(0,0),(0,1),(0,2),(1,3),(0,4),(0,5),(0,6),(0,8),(0,9),(0,10),(1,7),(1,11),(0,12),(0,13)] HM (by kernel_rfl) (by kernel_rfl) qq (by kernel_rfl) rfl ?_;intro HQ HS W1 HM1;replace HM:=HM1;clear HM1)|(refine d_start (id:=51) [] [(0,0),(0,1),(0,2),(1,3),(0,4),(0,5),(0,6),(0,7),(1,8),(0,9),(0,10),(0,11),(0,13),(0,14),(0,15),(1,12),(1,16),(0,17),(0,18)] HM (by kernel_rfl) (by kernel_rfl) qq (by kernel_rfl) rfl ?_;intro HQ HS W1 HM1;replace HM:=HM1;clear HM1))|refine Y ?_|(refine qg ?_;clear HM;intro g W1 HM))
      exact end_none rfl ⟨i,rfl,by simp only [boxR,partRcd,List.cons_append,List.nil_append];exact HM.sb⟩
    have e : refL x m = { calmL x with dp:=max x.dp m.ballot }:=if_pos ⟨c1,c0⟩
    rw [e]
    repeat (first|(refine gGP ?_;refine gp (p_max rfl rfl) ?_)|(refine gR ?_;first|(refine d_start [] [(0,0),(0,1),(0,2),(1,3),(0,4),(0,5),(0,6),(0,8),(0,9),(0,10),(1,7),(1,11),(0,12),(0,13)] HM (by kernel_rfl) (by kernel_rfl) qq (by kernel_rfl) rfl ?_;intro HQ HS W1 HM1;replace HM:=HM1;clear HM1)|(refine d_start (id:=51) [] [(0,0),(0,1),(0,2),(1,3),(0,4),(0,5),(0,6),(0,7),(1,8),(0,9),(0,10),(0,11),(0,13),(0,14),(0,15),(1,12),(1,16),(0,17),(0,18)] HM (by kernel_rfl) (by kernel_rfl) qq (by kernel_rfl) rfl ?_;intro HQ HS W1 HM1;replace HM:=HM1;clear HM1)|(refine d_start [10] [(0,0),(0,1),(0,2),(0,3),(0,5),(1,4),(1,6),(0,7),(0,8),(0,9),(3,10)] HM (by kernel_rfl) (by kernel_rfl) qq (by kernel_rfl) rfl ?_;intro HQ HS W1 HM1;replace HM:=HM1;clear HM1))|refine Y ?_|(refine qs ?_;clear HM;intro W1 HM)|(refine qf ?_;go_at_call 75;refine (quietM x i gr (by exact pk_boxr HM)).mono ?_;rintro e W1 ⟨j2,rfl,HM1⟩;refine ⟨_,rfl,?_⟩;replace HM:=HM1;clear HM1;simp only [calmL,boxR,partRcd,List.cons_append,List.nil_append] at HM)|(refine qg ?_;clear HM;intro g W1 HM))
    exact end_none rfl ⟨j2,rfl,by simp only [calmL,boxR,partRcd,List.cons_append,List.nil_append];exact HM.sb⟩
  · simp only [Bool.not_eq_true] at c2
    have c3 : x.trying = true:=by cases h : x.trying <;> simp_all
    by_cases c1 : x.ballot < m.ballot
    rotate_left
    · have e : refL x m = x:=if_neg (fun h=>c1 h.1)
      rw [e]
      repeat (first|(refine gR ?_;first|(refine d_start [] [(0,0),(0,1),(0,2),(1,3),(0,4),(0,5),(0,6),(0,8),(0,9),(0,10),(1,7),(1,11),(0,12),(0,13)] HM (by kernel_rfl) (by kernel_rfl) qq (by kernel_rfl) rfl ?_;intro HQ HS W1 HM1;replace HM:=HM1;clear HM1)|(refine d_start (id:=51) [] [(0,0),(0,1),(0,2),(1,3),(0,4),(0,5),(0,6),(0,7),(1,8),(0,9),(0,10),(0,11),(0,13),(0,14),(0,15),(1,12),(1,16),(0,17),(0,18)] HM (by kernel_rfl) (by kernel_rfl) qq (by kernel_rfl) rfl ?_;intro HQ HS W1 HM1;replace HM:=HM1;clear HM1))|refine Y ?_|(refine qg ?_;clear HM;intro g W1 HM))
      exact end_none rfl ⟨i,rfl,by simp only [boxR,partRcd,List.cons_append,List.nil_append];exact HM.sb⟩
    have e : refL x m = { calmL x with dp:=max x.dp m.ballot }:=if_pos ⟨c1,c0⟩
    rw [e]
    repeat (first|(refine gGP ?_;refine gp (p_max rfl rfl) ?_)|(refine gR ?_;first|(refine d_start [] [(0,0),(0,1),(0,2),(1,3),(0,4),(0,5),(0,6),(0,8),(0,9),(0,10),(1,7),(1,11),(0,12),(0,13)] HM (by kernel_rfl) (by kernel_rfl) qq (by kernel_rfl) rfl ?_;intro HQ HS W1 HM1;replace HM:=HM1;clear HM1)|(refine d_start (id:=51) [] [(0,0),(0,1),(0,2),(1,3),(0,4),(0,5),(0,6),(0,7),(1,8),(0,9),(0,10),(0,11),(0,13),(0,14),(0,15),(1,12),(1,16),(0,17),(0,18)] HM (by kernel_rfl) (by kernel_rfl) qq (by kernel_rfl) rfl ?_;intro HQ HS W1 HM1;replace HM:=HM1;clear HM1)|(refine d_start [10] [(0,0),(0,1),(0,2),(0,3),(0,5),(1,4),(1,6),(0,7),(0,8),(0,9),(3,10)] HM (by kernel_rfl) (by kernel_rfl) qq (by kernel_rfl) rfl ?_;intro HQ HS W1 HM1;replace HM:=HM1;clear HM1))|refine Y ?_|(refine qs ?_;clear HM;intro W1 HM)|(refine qf ?_;go_at_call 75;refine (quietM x i gr (by exact pk_boxr HM)).mono ?_;rintro e W1 ⟨j2,rfl,HM1⟩;refine ⟨_,rfl,?_⟩;replace HM:=HM1;clear HM1;simp only [calmL,boxR,partRcd,List.cons_append,List.nil_append] at HM)|(refine qg ?_;clear HM;intro g W1 HM))
    exact end_none rfl ⟨j2,rfl,by simp only [calmL,boxR,partRcd,List.cons_append,List.nil_append];exact HM.sb⟩
theorem takeNeedM (x : Rcd) (i : AtRcd) (gr : Nat) (m : Msg) (am : At) (hv : VR x) (hu : x.up = true) (hm : MsgP m x.of) (ht : m.to = x.number) (hk : m.kind = 7) (HM : Mem w0 W (boxR 91 40 9 3 66 31 gr x i ++ L)) : Calls Tryz.prog 55 #[.pointer (some ⟨gr,0,none⟩),.agg (encMsg m am).toArray] W fun e W'=>∃ j,e = .returned (.tuple #[]) ∧ Mem w0 W' (boxR 91 40 9 3 66 31 gr (if x.lead = true ∧ 0 < m.index then needL m.frm 5 m.index x else x) j ++ L):=by
  refine enter Tryz.func55 rfl Tryz.ntmps55 [(0,_),(1,.agg (encMsg m am).toArray)] rfl ⟨rfl,rfl,trivial⟩ ?_
  unfold encMsg
  have hd0:=hv.disk.k0
  have hd1:=hv.disk.k1
  have hdl:=hv.disk.slots.1
  have hix:=hm.index
  simp only [boxR,partRcd,List.cons_append,List.nil_append] at HM
  by_cases c1 : x.lead = true
  rotate_left
  · rw [if_neg (fun h=>c1 h.1)]
    simp only [Bool.not_eq_true] at c1
    repeat (first|(refine gR ?_;refine d_start [] [(0,0),(0,1),(0,2),(1,3),(0,4),(0,5),(0,6),(0,8),(0,9),(0,10),(1,7),(1,11),(0,12),(0,13)] HM (by kernel_rfl) (by kernel_rfl) qq (by kernel_rfl) rfl ?_;intro HQ HS W1 HM1;replace HM:=HM1;clear HM1)|refine Y ?_|(refine qg ?_;clear HM;intro g W1 HM))
    exact ret_none rfl ⟨i,rfl,by simp only [boxR,partRcd,List.cons_append,List.nil_append];exact HM.sb⟩
  by_cases c2 : 0 < m.index
  rotate_left
  · rw [if_neg (fun h=>c2 h.2)]
    repeat (first|(refine gR ?_;refine d_start [] [(0,0),(0,1),(0,2),(1,3),(0,4),(0,5),(0,6),(0,8),(0,9),(0,10),(1,7),(1,11),(0,12),(0,13)] HM (by kernel_rfl) (by kernel_rfl) qq (by kernel_rfl) rfl ?_;intro HQ HS W1 HM1;replace HM:=HM1;clear HM1)|refine Y ?_|(refine qg ?_;clear HM;intro g W1 HM))
    exact ret_none rfl ⟨i,rfl,by simp only [boxR,partRcd,List.cons_append,List.nil_append];exact HM.sb⟩
  rw [if_pos ⟨c1,c2⟩]
  repeat (first|(refine gR ?_;refine d_start [] [(0,0),(0,1),(0,2),(1,3),(0,4),(0,5),(0,6),(0,8),(0,9),(0,10),(1,7),(1,11),(0,12),(0,13)] HM (by kernel_rfl) (by kernel_rfl) qq (by kernel_rfl) rfl ?_;intro HQ HS W1 HM1;replace HM:=HM1;clear HM1)|refine Y ?_|(refine qg ?_;clear HM;intro g W1 HM))
  have HMp:=(show Mem w0 _ (boxR 91 40 9 3 66 31 gr x i ++ _) from pk_boxr HM)
  clear HM
  refine c_loop (σ:=Nat × Rcd) (fun s=>[(0,.pointer (some ⟨gr,0,none⟩)),(3,.pointer (some ⟨g,0,none⟩)),(4,.pointer (some ⟨gr,6,none⟩)),(7,.int .i64 (m.index + s.1))]) (fun s W1=>s.1 ≤ 5 ∧ needL m.frm (5 - s.1) (m.index + s.1) s.2 = needL m.frm 5 m.index x ∧ s.2.ds = x.ds ∧ s.2.dk = x.dk ∧ ∃ j,Mem w0 W1 (boxR 91 40 9 3 66 31 gr s.2 j ++ _)) (fun s=>5 - s.1) (0,x) (by simp only [Int.add_zero,Int.natCast_zero];exact U) ⟨Nat.zero_le _,by simp,rfl,rfl,i,HMp⟩ ?_
  clear HMp
  rintro ⟨k,y⟩ W1 ⟨hk,hl,e1,e2,j,HM⟩
  dsimp only at hk hl e1 e2 HM ⊢
  simp only [boxR,partRcd,List.cons_append,List.nil_append] at HM
  rw [← e1,← e2] at hd1
  rw [← e1] at hdl
  by_cases h5 : k < 5
  rotate_left
  · rw [show 5 - k = 0 by omega,needL] at hl
    rw [← hl]
    repeat refine Y ?_
    exact end_none rfl ⟨j,rfl,by simp only [boxR,partRcd,List.cons_append,List.nil_append];exact HM.sb⟩
  by_cases hi : m.index + k ≤ y.dk
  rotate_left
  · have hst : needL m.frm (5 - (k + 1)) (m.index + ((k + 1 : Nat) : Int)) y = needL m.frm 5 m.index x:=by rw [← hl,needL_out hi,needL_out (by omega)]
    repeat refine Y ?_
    exact n_round (k + 1,y) (by simp only [Int.natCast_add,Int.natCast_one,← Int.add_assoc];exact U) ⟨by dsimp only;omega,hst,e1,e2,j,by exact pk_boxr HM⟩ (by dsimp only;omega)
  obtain ⟨q1,q2,q3,q4⟩:=hold_ds y ⟨6,0,m.frm,y.ballot,m.index + k,0,(rd tSlot y.ds (m.index + k - 1)).text,[]⟩
  have hst : needL m.frm (5 - (k + 1)) (m.index + ((k + 1 : Nat) : Int)) (holdL y ⟨6,0,m.frm,y.ballot,m.index + k,0,(rd tSlot y.ds (m.index + k - 1)).text,[]⟩) = needL m.frm 5 m.index x:=by
    rw [← hl,show 5 - k = (5 - (k + 1)) + 1 by omega,needL,if_pos hi,show m.index + ((k + 1 : Nat) : Int) = m.index + k + 1 by omega]
  repeat (first|(refine gR ?_;refine d_start [18] [(0,0),(0,1),(0,3),(0,4),(0,5),(0,7),(0,8),(0,9),(0,10),(0,12),(0,13),(1,2),(1,6),(1,11),(0,14),(0,15),(1,16),(2,17),(3,18)] HM (by kernel_rfl) (by kernel_rfl) qq (by kernel_rfl) rfl ?_;intro HQ HS W1 HM1;replace HM:=HM1;clear HM1)|refine Y ?_|(refine qf ?_;go_at_call 78;have HM2:=HM.nil tSlot 91;refine (holdM y j _ ⟨6,0,m.frm,y.ballot,m.index + k,0,(rd tSlot y.ds (m.index + k - 1)).text,[]⟩ (none,0) (by exact pk_hold HM2)).mono ?_;clear HM2;rintro e W1 ⟨j2,rfl,HM1⟩;refine ⟨_,rfl,?_⟩;replace HM:=HM1;clear HM1;simp only [boxR,partRcd,List.cons_append,List.nil_append] at HM))
  exact n_round (k + 1,holdL y ⟨6,0,m.frm,y.ballot,m.index + k,0,(rd tSlot y.ds (m.index + k - 1)).text,[]⟩) (by simp only [Int.natCast_add,Int.natCast_one,← Int.add_assoc];exact U) ⟨by dsimp only;omega,hst,by rw [q1];exact e1,by rw [q2];exact e2,j2,by exact pk_boxr HM⟩ (by dsimp only;omega)
end Go.Proofs.YtampmicahnnebaaGreat.Sp
namespace Go.Proofs.YtampmicahnnebaaGreat.Sp
open Go Go.RowKit
set_option maxRecDepth 10000
set_option maxHeartbeats 2000000
variable {w0 W : World} {L : List Asn}
theorem takeM (x : Rcd) (i : AtRcd) (gr : Nat) (m : Msg) (am : At) (hv : VR x) (hu : x.up = true) (hm : MsgP m x.of) (ht : m.to = x.number) {b : Bool} (hb : ∀ W',Mem w0 W' L → RoRow (rSlot b) W' am.1 m.slots) (HM : Mem w0 W (boxR 91 40 9 3 66 31 gr x i ++ L)) : Calls Tryz.prog 55 #[.pointer (some ⟨gr,0,none⟩),.agg (encMsg m am).toArray] W fun e W'=>∃ j,e = .returned (.tuple #[]) ∧ Mem w0 W' (boxR 91 40 9 3 66 31 gr (takeL x m) j ++ L):=by
  have hk:=hm.kind
  unfold takeL
  by_cases k1 : m.kind = 1
  · rw [if_pos k1];exact takePrepM x i gr m am hv hu hm ht k1 HM
  rw [if_neg k1]
  by_cases k2 : m.kind = 2
  · rw [if_pos k2];exact takePromisedM x i gr m am hv hu hm ht k2 hb HM
  rw [if_neg k2]
  by_cases k3 : m.kind = 3
  · rw [if_pos k3];exact takeAcceptM x i gr m am hv hu hm ht k3 HM
  rw [if_neg k3]
  by_cases k4 : m.kind = 4
  · rw [if_pos k4];exact takeAcceptedM x i gr m am hv hu hm ht k4 HM
  rw [if_neg k4]
  by_cases k5 : m.kind = 5
  · rw [if_pos k5];exact takeBeatM x i gr m am hv hu hm ht k5 HM
  rw [if_neg k5]
  by_cases k6 : m.kind = 6
  · rw [if_pos k6];exact takeChosenM x i gr m am hv hu hm ht k6 HM
  rw [if_neg k6]
  by_cases k7 : m.kind = 7
  · rw [if_pos k7];exact takeNeedM x i gr m am hv hu hm ht k7 HM
  rw [if_neg k7]
  by_cases k8 : m.kind = 8
  · rw [if_pos k8];exact takeWishedM x i gr m am hv hu hm ht (vr_small hv) k8 HM
  rw [if_neg k8,if_pos (show m.kind = 9 by omega)]
  exact takeRefuseM x i gr m am hv hu hm ht (by omega) HM
theorem takeOffM (x : Rcd) (i : AtRcd) (gr : Nat) (m : Msg) (am : At) (ho : x.up = false ∨ m.to ≠ x.number) (HM : Mem w0 W (boxR 91 40 9 3 66 31 gr x i ++ L)) : Calls Tryz.prog 55 #[.pointer (some ⟨gr,0,none⟩),.agg (encMsg m am).toArray] W fun e W'=>∃ j,e = .returned (.tuple #[]) ∧ Mem w0 W' (boxR 91 40 9 3 66 31 gr x j ++ L):=by
  refine enter Tryz.func55 rfl Tryz.ntmps55 [(0,_),(1,.agg (encMsg m am).toArray)] rfl ⟨rfl,rfl,trivial⟩ ?_
  unfold encMsg
  simp only [boxR,partRcd,List.cons_append,List.nil_append] at HM
  by_cases hu : x.up = true
  · have ht : ¬ m.to = x.number:=ho.resolve_left (by simp [hu])
    repeat (first|(refine gR ?_;refine d_start [] [(0,0),(0,1),(0,2),(1,3),(0,4),(0,5),(0,6),(0,8),(0,9),(0,10),(1,7),(1,11),(0,12),(0,13)] HM (by kernel_rfl) (by kernel_rfl) qq (by kernel_rfl) rfl ?_;intro HQ HS W1 HM1;replace HM:=HM1;clear HM1)|refine Y ?_|(refine qg ?_;clear HM;intro g W1 HM))
    exact ret_none rfl ⟨i,rfl,by simp only [boxR,partRcd,List.cons_append,List.nil_append];exact HM.sb⟩
  · simp only [Bool.not_eq_true] at hu
    repeat (first|(refine gR ?_;refine d_start [] [(0,0),(0,1),(0,2),(1,3),(0,4),(0,5),(0,6),(0,8),(0,9),(0,10),(1,7),(1,11),(0,12),(0,13)] HM (by kernel_rfl) (by kernel_rfl) qq (by kernel_rfl) rfl ?_;intro HQ HS W1 HM1;replace HM:=HM1;clear HM1)|refine Y ?_|(refine qg ?_;clear HM;intro g W1 HM))
    exact ret_none rfl ⟨i,rfl,by simp only [boxR,partRcd,List.cons_append,List.nil_append];exact HM.sb⟩
theorem implRecTake (x : Rcd) (i : AtRcd) (m : Msg) (am : At) (h : RoRcd false w0 x i) (hc : x.ds.length ≤ i.a1.2 ∧ x.wishes.length ≤ i.a3.2) (hn : SmallR x) (hr : RoRow (rSlot false) w0 am.1 m.slots) (HM : Mem w0 W L) : Calls Tryz.prog 13 #[.agg (encRcd x i).toArray,.agg (encMsg m am).toArray] W fun e W'=>∃ j,e = .returned (.agg (encRcd (recTakeL x m) j).toArray) ∧ Mem w0 W' (partRcd 91 40 9 3 66 (recTakeL x m) j ++ L):=by
  refine enter Tryz.func13 rfl Tryz.ntmps13 [(0,.agg (encRcd x i).toArray),(1,.agg (encMsg m am).toArray)] rfl ⟨rfl,rfl,trivial⟩ ?_
  have h0:=h
  have hw:=hc.2
  unfold encRcd encMsg
  by_cases hv : validB x = true
  rotate_left
  · simp only [Bool.not_eq_true] at hv
    repeat (first|refine Y ?_|(refine qs ?_;clear HM;intro W1 HM)|(refine qf ?_;go_at_call 10;refine (implValid x i h0 hw hn HM).mono ?_;rintro e W1 ⟨rfl,HM1⟩;refine ⟨_,rfl,?_⟩;replace HM:=HM1;clear HM1)|(refine qg ?_;clear HM;intro g W1 HM))
    have HM2:=HM.zeroR 91 40 9 3 66
    simp only [partRcd,zeroR,atZ,List.cons_append,List.nil_append] at HM2
    have e : recTakeL x m = zeroR:=by simp [recTakeL,hv]
    rw [e]
    exact ret_cell HM2 rfl rfl rfl ⟨atZ,rfl,by simp only [partRcd,zeroR,atZ,List.cons_append,List.nil_append];exact HM2.sb⟩
  by_cases hm : msgB m x.of = true
  rotate_left
  · simp only [Bool.not_eq_true] at hm
    have e : recTakeL x m = x:=by simp [recTakeL,hv,hm]
    repeat (first|refine Y ?_|(refine qs ?_;clear HM;intro W1 HM)|(refine qf ?_;first|(go_at_call 10;refine (implValid x i h0 hw hn HM).mono ?_;rintro e W1 ⟨rfl,HM1⟩;refine ⟨_,rfl,?_⟩;replace HM:=HM1;clear HM1)|(go_at_call 21;refine (clone_c x _ h0 hn HM).mono ?_;rintro e W1 ⟨j2,rfl,HM1⟩;refine ⟨_,rfl,?_⟩;replace HM:=HM1;clear HM1;simp only [partRcd,List.cons_append,List.nil_append] at HM;simp only [encRcd])|(go_at_call 11;refine (implMsg m am x.of hr HM).mono ?_;rintro e W1 ⟨rfl,HM1⟩;refine ⟨_,rfl,?_⟩;replace HM:=HM1;clear HM1))|(refine qg ?_;clear HM;intro g W1 HM))
    rw [e]
    exact ret_cell HM rfl rfl rfl ⟨j2,rfl,by simp only [boxR,partRcd,List.cons_append,List.nil_append];exact HM.sb⟩
  by_cases ho : x.up = true ∧ m.to = x.number
  rotate_left
  · have e : recTakeL x m = x:=by rw [recTakeL,if_pos hv,if_neg (fun h=>ho ⟨h.1,h.2.2⟩)]
    have ho2 : x.up = false ∨ m.to ≠ x.number:=by
      by_cases hu : x.up = true
      · exact .inr (fun h=>ho ⟨hu,h⟩)
      · exact .inl (by simpa using hu)
    repeat (first|refine Y ?_|(refine qs ?_;clear HM;intro W1 HM)|(refine qf ?_;first|(go_at_call 10;refine (implValid x i h0 hw hn HM).mono ?_;rintro e W1 ⟨rfl,HM1⟩;refine ⟨_,rfl,?_⟩;replace HM:=HM1;clear HM1)|(go_at_call 21;refine (clone_c x _ h0 hn HM).mono ?_;rintro e W1 ⟨j2,rfl,HM1⟩;refine ⟨_,rfl,?_⟩;replace HM:=HM1;clear HM1;simp only [partRcd,List.cons_append,List.nil_append] at HM;simp only [encRcd])|(go_at_call 11;refine (implMsg m am x.of hr HM).mono ?_;rintro e W1 ⟨rfl,HM1⟩;refine ⟨_,rfl,?_⟩;replace HM:=HM1;clear HM1)|(go_at_call 55;refine (takeOffM x j2 _ m am ho2 (by exact pk_boxr HM)).mono ?_;rintro e W1 ⟨j3,rfl,HM1⟩;refine ⟨_,rfl,?_⟩;replace HM:=HM1;clear HM1;simp only [boxR,partRcd,List.cons_append,List.nil_append] at HM))|(refine qg ?_;clear HM;intro g W1 HM))
    rw [e]
    exact ret_cell HM rfl rfl rfl ⟨j3,rfl,by simp only [boxR,partRcd,List.cons_append,List.nil_append];exact HM.sb⟩
  obtain ⟨hu,ht⟩:=ho
  have e : recTakeL x m = takeL x m:=by simp [recTakeL,hv,hu,hm,ht]
  have hV:=validB_iff.1 hv
  have hmP:=msgB_iff.1 hm
  rw [e]
  repeat (first|refine Y ?_|(refine qs ?_;clear HM;intro W1 HM)|(refine qf ?_;first|(go_at_call 10;refine (implValid x i h0 hw hn HM).mono ?_;rintro e W1 ⟨rfl,HM1⟩;refine ⟨_,rfl,?_⟩;replace HM:=HM1;clear HM1)|(go_at_call 21;refine (clone_c x _ h0 hn HM).mono ?_;rintro e W1 ⟨j2,rfl,HM1⟩;refine ⟨_,rfl,?_⟩;replace HM:=HM1;clear HM1;simp only [partRcd,List.cons_append,List.nil_append] at HM;simp only [encRcd])|(go_at_call 11;refine (implMsg m am x.of hr HM).mono ?_;rintro e W1 ⟨rfl,HM1⟩;refine ⟨_,rfl,?_⟩;replace HM:=HM1;clear HM1)|(go_at_call 55;have HMp:=(show Mem w0 _ (boxR 91 40 9 3 66 31 g x j2 ++ _) from pk_boxr HM);refine (takeM x j2 _ m am hV hu hmP ht (b:=false) (fun W' h=>hr.now h (fun _ _ q=>q)) HMp).mono ?_;clear HMp;rintro e W1 ⟨j3,rfl,HM1⟩;refine ⟨_,rfl,?_⟩;replace HM:=HM1;clear HM1;simp only [boxR,partRcd,List.cons_append,List.nil_append] at HM))|(refine qg ?_;clear HM;intro g W1 HM))
  exact ret_cell HM rfl rfl rfl ⟨j3,rfl,by simp only [boxR,partRcd,List.cons_append,List.nil_append];exact HM.sb⟩
end Go.Proofs.YtampmicahnnebaaGreat.Sp
namespace Go.Proofs.YtampmicahnnebaaGreat.Sp
open Go Go.RowKit
set_option maxRecDepth 10000
set_option maxHeartbeats 4000000
theorem ro_slot_at2 {w0 W : World} {L : List Asn} {A : Option Addr} {c e : Nat} {xs : List Slot} [h : OwnAt L A c Slot tSlot e xs] (hm : Mem w0 W L) : RoRow (rSlot false) W A xs:=by
  obtain ⟨F,hF⟩:=hm.own (A:=A)
  exact ro_slots hF
theorem ro_msg_at2 {w0 W : World} {L : List Asn} {A : Option Addr} {c e eS : Nat} {xs : List Msg} [h : OwnAt L A c Msg (tMsg eS) e xs] (hm : Mem w0 W L) : RoRow (rMsg false) W A xs:=by
  obtain ⟨F,hF⟩:=hm.own (A:=A)
  exact ro_msgs hF
theorem wRecorder_l {w0 W : World} {L : List Asn} (x : Rcd) (i j : AtRcd) (h1 : RoRcd false w0 x i) (h2 : RoRcd false w0 x j) (hn : SmallR x) (hk : RcdK x) (HM : Mem w0 W L) : Calls Tryz.prog 7 #[.agg ([.int .i64 x.number,.int .i64 x.of,.bool x.up,.int .i64 x.sp,.int .i64 x.sk,.slice i.a0.1 x.ss.length i.a0.2,.int .i64 x.dp,.int .i64 x.dk,.slice i.a1.1 x.ds.length i.a1.2,.slice i.a2.1 x.held.length i.a2.2,.slice i.a3.1 x.wishes.length i.a3.2,.bool x.lead,.bool x.trying,.int .i64 x.ballot,.slice i.a4.1 x.yes.length i.a4.2,.slice i.a5.1 x.best.length i.a5.2,.slice i.a6.1 x.acks.length i.a6.2,.int .i64 x.heard]).toArray,.agg ([.int .i64 x.number,.int .i64 x.of,.bool x.up,.int .i64 x.sp,.int .i64 x.sk,.slice j.a0.1 x.ss.length j.a0.2,.int .i64 x.dp,.int .i64 x.dk,.slice j.a1.1 x.ds.length j.a1.2,.slice j.a2.1 x.held.length j.a2.2,.slice j.a3.1 x.wishes.length j.a3.2,.bool x.lead,.bool x.trying,.int .i64 x.ballot,.slice j.a4.1 x.yes.length j.a4.2,.slice j.a5.1 x.best.length j.a5.2,.slice j.a6.1 x.acks.length j.a6.2,.int .i64 x.heard]).toArray] W fun e W'=>e = .returned (.bool true) ∧ Mem w0 W' L:=wRecorder_c x i j h1 h2 hn hk HM
theorem implValid_l {w0 W : World} {L : List Asn} (x : Rcd) (i : AtRcd) (h : RoRcd false w0 x i) (hc : x.wishes.length ≤ i.a3.2) (hn : SmallR x) (HM : Mem w0 W L) : Calls Tryz.prog 10 #[.agg ([.int .i64 x.number,.int .i64 x.of,.bool x.up,.int .i64 x.sp,.int .i64 x.sk,.slice i.a0.1 x.ss.length i.a0.2,.int .i64 x.dp,.int .i64 x.dk,.slice i.a1.1 x.ds.length i.a1.2,.slice i.a2.1 x.held.length i.a2.2,.slice i.a3.1 x.wishes.length i.a3.2,.bool x.lead,.bool x.trying,.int .i64 x.ballot,.slice i.a4.1 x.yes.length i.a4.2,.slice i.a5.1 x.best.length i.a5.2,.slice i.a6.1 x.acks.length i.a6.2,.int .i64 x.heard]).toArray] W fun e W'=>e = .returned (.bool (validB x)) ∧ Mem w0 W' L:=implValid x i h hc hn HM
theorem specValid_l {w0 W : World} {L : List Asn} (x : Rcd) (i : AtRcd) (h : RoRcd false w0 x i) (hn : SmallR x) (HM : Mem w0 W L) : Calls Tryz.prog 9 #[.agg ([.int .i64 x.number,.int .i64 x.of,.bool x.up,.int .i64 x.sp,.int .i64 x.sk,.slice i.a0.1 x.ss.length i.a0.2,.int .i64 x.dp,.int .i64 x.dk,.slice i.a1.1 x.ds.length i.a1.2,.slice i.a2.1 x.held.length i.a2.2,.slice i.a3.1 x.wishes.length i.a3.2,.bool x.lead,.bool x.trying,.int .i64 x.ballot,.slice i.a4.1 x.yes.length i.a4.2,.slice i.a5.1 x.best.length i.a5.2,.slice i.a6.1 x.acks.length i.a6.2,.int .i64 x.heard]).toArray] W fun e W'=>e = .returned (.bool (validB x)) ∧ Mem w0 W' L:=specValid x i h hn HM
theorem Mem.emp {w0 W : World} {L : List Asn} (h : Mem w0 W L) : Mem w0 W []:=⟨h.below,trivial⟩
theorem c_cutc {P : Program} {n : Nat} {Q Q' : Exit → Act → World → Prop} {E : Env} {W : World} {σ : Type} {a x y : Code} (J : σ → Env) (M : σ → World → Prop) (h1 : WC P n a (Exit.then (x.wp P (Exit.then (MidP n J M) Q')) (Exit.then (MidP n J M) Q')) E W) (h2 : ∀ s W,M s W → WC P n y Q (J s) W) : WC P n a (Exit.then (x.wp P (Exit.then (y.wp P Q) Q')) (Exit.then (y.wp P Q) Q')) E W:=by
  have st : ∀ e s w,Exit.then (MidP n J M) Q' e s w → Exit.then (y.wp P Q) Q' e s w:=by
    intro e s w h
    cases e with
    | normal=>exact mid_wp h2 h
    | _=>exact h
  refine ⟨fun s hs=>wp_mono (h1.out s hs) fun e a' w' hq=>?_⟩
  cases e with
  | normal=>exact wp_mono hq st
  | _=>exact hq
theorem rcdk_vr {x : Rcd} (h : VR x) : RcdK x:=⟨fun s hs=>slotK_of (h.safe.slots.2 s hs),fun s hs=>slotK_of (h.disk.slots.2 s hs),fun s hs=>slotK_of (h.best.2 s hs),fun m hm s hs=>slotK_of ((h.held m hm).1.slots.2 s hs)⟩
theorem zero_facts : SmallR zeroR ∧ RcdK zeroR:=⟨by constructor <;> simp [zeroR],by constructor <;> simp [zeroR]⟩
theorem vr_facts {x : Rcd} (h : VR x) : SmallR x ∧ RcdK x:=⟨h.small,rcdk_vr h⟩
theorem tick_facts (x : Rcd) : (SmallR (recTickL x) ∧ RcdK (recTickL x)) ∧ (recTickO x).length ≤ 1048576 ∧ (∀ m ∈ recTickO x,m.slots.length ≤ 1048576) ∧ ∀ m ∈ recTickO x,∀ s ∈ m.slots,SlotK s:=by
  by_cases h : validB x = true
  · obtain ⟨a,b,c⟩:=vr_recTick h
    exact ⟨vr_facts a,recTickO_len h,fun m hm=>by have:=(c m hm).1.slots.1;omega,fun m hm s hs=>slotK_of ((c m hm).1.slots.2 s hs)⟩
  · rw [recTickL,recTickO,if_neg h,if_neg h]
    exact ⟨zero_facts,by simp,by simp,by simp⟩
theorem take_facts (x : Rcd) (m : Msg) : SmallR (recTakeL x m) ∧ RcdK (recTakeL x m):=by
  by_cases h : validB x = true
  · exact vr_facts (vr_recTake h).1
  · rw [recTakeL,if_neg h];exact zero_facts
theorem wish_facts (x : Rcd) (t : ByteArray) : SmallR (wishL x t) ∧ RcdK (wishL x t):=by
  by_cases h : validB x = true
  · exact vr_facts (vr_wishL (validB_iff.1 h)).1
  · rw [wishL,if_neg h];exact zero_facts
theorem law {A : Option Addr} {c : Nat} {bs : List Int} (w : World) (hb : RoRow rByte w A bs) (hc : bs.length ≤ c) : Calls Tryz.prog 3 #[.slice A bs.length c] w fun e w'=>e = .returned (.bool true) ∧ Below w.heap.size w w':=by
  refine enter Tryz.func3 rfl Tryz.ntmps3 [(0,_)] rfl ⟨rfl,trivial⟩ ?_
  have HM:=Mem.start w
  by_cases hz : (1048576 : Int) < bs.length
  · repeat refine Y ?_
    exact ret_tmp rfl rfl ⟨rfl,HM.below⟩
  repeat (first|refine Y ?_|(refine qs ?_;clear HM;intro W1 HM)|(refine qf ?_;go_at_call 4;refine (drawt_c hb hc HM).mono ?_;rintro e W1 ⟨x,j,hn,rfl,HM1⟩;refine ⟨_,rfl,?_⟩;replace HM:=HM1;clear HM1;simp only [partRcd,List.cons_append,List.nil_append] at HM;simp only [encRcd])|(refine qg ?_;clear HM;intro g W1 HM))
  obtain ⟨⟨nT,kT⟩,oL,oS,oK⟩:=tick_facts x
  obtain ⟨g3,hg3⟩ : ∃ z,z = g:=⟨_,rfl⟩
  repeat (first|refine Y ?_|(refine qs ?_;clear HM;intro W1 HM)|(refine qf ?_;first|(go_at_call 5;refine (implRecTick x j (by exact ro_rec1 (eS:=91) (eM:=40) (eT:=9) (eI:=3) (eA:=66) HM) (by exact ro_cap1 (eS:=91) (eM:=40) (eT:=9) (eI:=3) (eA:=66) HM) hn (Mem.start _)).mono ?_;rintro e W1 ⟨jg,Ag,cg,rfl,HM1⟩;refine ⟨_,rfl,?_⟩;replace HM:=HM.join HM1;clear HM1;simp only [partRcd,List.cons_append,List.nil_append] at HM;simp only [encRcd])|(go_at_call 6;refine (specRecTick x j (by exact ro_rec1 (eS:=91) (eM:=40) (eT:=9) (eI:=3) (eA:=66) HM) hn (Mem.start _)).mono ?_;rintro e W1 ⟨jw,Aw,cw,rfl,HM1⟩;refine ⟨_,rfl,?_⟩;replace HM:=HM.join HM1;clear HM1;simp only [partRcd,List.cons_append,List.nil_append] at HM;simp only [encRcd])|(go_at_call 7;(with_reducible refine (wRecorder_l (recTickL x) jg jw ?_ ?_ nT kT (Mem.start _)).mono ?_);exact ro_rec1 (eS:=91) (eM:=40) (eT:=9) (eI:=3) (eA:=66) HM;exact ro_rec1 (eS:=91) (eM:=40) (eT:=9) (eI:=3) (eA:=66) HM;rintro e W1 ⟨rfl,HM1⟩;refine ⟨_,rfl,?_⟩;have HM2:=HM.step HM1.below;clear HM HM1;have HM:=HM2;clear HM2)|(go_at_call 8;(with_reducible refine (wMessages_c (xs:=recTickO x) ?_ ?_ oS oK (Mem.start _)).mono ?_);exact ro_msg_at2 HM;exact ro_msg_at2 HM;rintro e W1 ⟨rfl,HM1⟩;refine ⟨_,rfl,?_⟩;have HM2:=HM.step HM1.below;clear HM HM1;have HM:=HM2;clear HM2)|(go_at_call 9;(with_reducible refine (specValid_l x j ?_ hn (Mem.start _)).mono ?_);exact ro_rec1 (eS:=91) (eM:=40) (eT:=9) (eI:=3) (eA:=66) HM;rintro e W1 ⟨rfl,HM1⟩;refine ⟨_,rfl,?_⟩;have HM2:=HM.step HM1.below;clear HM HM1;have HM:=HM2;clear HM2))|(refine qg ?_;clear HM;intro g W1 HM))
  by_cases hv : validB x = true
  rotate_left
  · have hof : (recTickL x).of = 0:=by rw [recTickL,if_neg hv];rfl
    have hol : decide (((recTickO x).length : Int) = 0) = true:=by rw [recTickO,if_neg hv];rfl
    simp only [Bool.not_eq_true] at hv
    repeat (first|refine Y ?_|(refine qf ?_;go_at_call 10;(with_reducible refine (implValid_l x j ?_ ?_ hn (Mem.start _)).mono ?_);exact ro_rec1 (eS:=91) (eM:=40) (eT:=9) (eI:=3) (eA:=66) HM;exact (show x.ds.length ≤ j.a1.2 ∧ x.wishes.length ≤ j.a3.2 from ro_cap1 (eS:=91) (eM:=40) (eT:=9) (eI:=3) (eA:=66) HM).2;rw [hv];rintro e W1 ⟨rfl,HM1⟩;refine ⟨_,rfl,?_⟩;have HM2:=HM.step HM1.below;clear HM HM1;have HM:=HM2;clear HM2))
    exact ret_tmp rfl rfl ⟨by simp,HM.below⟩
  obtain ⟨vT,kp,oP⟩:=vr_recTick hv
  have bT:=validB_iff.2 vT
  have hd1 : decide ((recTickL x).dp < x.dp) = false:=decide_eq_false (by have:=kp.dp;omega)
  repeat (first|refine Y ?_|(refine qf ?_;first|(go_at_call 10;(with_reducible refine (implValid_l (recTickL x) jg ?_ ?_ nT (Mem.start _)).mono ?_);exact ro_rec1 (eS:=91) (eM:=40) (eT:=9) (eI:=3) (eA:=66) HM;exact (show (recTickL x).ds.length ≤ jg.a1.2 ∧ (recTickL x).wishes.length ≤ jg.a3.2 from ro_cap1 (eS:=91) (eM:=40) (eT:=9) (eI:=3) (eA:=66) HM).2;rw [bT];rintro e W1 ⟨rfl,HM1⟩;refine ⟨_,rfl,?_⟩;have HM2:=HM.step HM1.below;clear HM HM1;have HM:=HM2;clear HM2)|(go_at_call 9;(with_reducible refine (specValid_l (recTickL x) jg ?_ nT (Mem.start _)).mono ?_);exact ro_rec1 (eS:=91) (eM:=40) (eT:=9) (eI:=3) (eA:=66) HM;rw [bT];rintro e W1 ⟨rfl,HM1⟩;refine ⟨_,rfl,?_⟩;have HM2:=HM.step HM1.below;clear HM HM1;have HM:=HM2;clear HM2)))
  subst hg3
  rename World=>Wc
  rename Nat=>gj
  have hro:=ro_msg_at2 (A:=Ag) HM
  have HB:=((Mem.start Wc).robox (HM.heap (g:=g3))).pur hro
  have HN:=HM
  clear HM
  have HM:=HB
  clear HB
  refine c_loop (σ:=Nat) (fun k=>[(0,.slice A bs.length c),(3,.pointer (some ⟨g3,0,none⟩)),(5,.slice Ag (recTickO x).length cg),(8,.int .i64 k)]) (fun k W1=>k ≤ (recTickO x).length ∧ Mem Wc W1 [ro (rMsg false) Wc Ag (recTickO x),roB Wc g3 31 [.int .i64 x.number,.int .i64 x.of,.bool x.up,.int .i64 x.sp,.int .i64 x.sk,.slice j.a0.1 x.ss.length j.a0.2,.int .i64 x.dp,.int .i64 x.dk,.slice j.a1.1 x.ds.length j.a1.2,.slice j.a2.1 x.held.length j.a2.2,.slice j.a3.1 x.wishes.length j.a3.2,.bool x.lead,.bool x.trying,.int .i64 x.ballot,.slice j.a4.1 x.yes.length j.a4.2,.slice j.a5.1 x.best.length j.a5.2,.slice j.a6.1 x.acks.length j.a6.2,.int .i64 x.heard]]) (fun k=>(recTickO x).length - k) 0 U ⟨Nat.zero_le _,HM⟩ ?_
  clear HM
  rintro k W1 ⟨hk,HM⟩
  by_cases hlt : k < (recTickO x).length
  · obtain ⟨cc,⟨j1,rfl,g1⟩,HM⟩:=HM.roOpen (A:=Ag) k hlt
    obtain ⟨mp,mf⟩:=oP _ (List.getElem_mem hlt)
    have mb:=msgB_iff.2 mp
    have hd2 : (!decide ((rdR (rMsg false) (recTickO x) (k : Int)).frm = x.number)) = false:=by rw [rdR_at hlt,mf];simp
    repeat (first|(refine gR ?_;refine d_start [] [(0,0),(0,1),(0,2),(0,4),(1,3),(1,5),(2,6),(0,7),(0,8),(0,9),(0,10),(0,11),(0,12),(0,14),(1,13),(1,15),(0,16),(0,17)] HM (by kernel_rfl) (by kernel_rfl) qq (by kernel_rfl) rfl ?_;intro HQ HS W1 HM1;replace HM:=HM1;clear HM1)|refine Y ?_|(refine qf ?_;go_at_call 11;refine (implMsg (recTickO x)[k] j1 x.of g1.2 HM).mono ?_;rw [mb];rintro e W1 ⟨rfl,HM1⟩;refine ⟨_,rfl,?_⟩;replace HM:=HM1;clear HM1))
    exact n_round (k + 1) U ⟨by omega,HM.sb⟩ (by omega)
  have HM2:=(HN.step HM.below).emp
  clear HM HN hro
  have HM:=HM2
  clear HM2
  repeat (first|refine Y ?_|(refine qs ?_;clear HM;intro W1 HM)|(refine qf ?_;first|(go_at_call 12;refine (drawk_c hb hc HM).mono ?_;rintro e W1 ⟨s,js,m,am,⟨hns,hms⟩,rfl,HM1⟩;refine ⟨_,rfl,?_⟩;replace HM:=HM1;clear HM1;simp only [partRcd,List.cons_append,List.nil_append] at HM;simp only [encRcd,encMsg])|(go_at_call 13;refine (implRecTake s js m am (by exact ro_rec1 (eS:=91) (eM:=40) (eT:=9) (eI:=3) (eA:=66) HM) (by exact ro_cap1 (eS:=91) (eM:=40) (eT:=9) (eI:=3) (eA:=66) HM) hns (by exact ro_slot_at2 HM) (Mem.start _)).mono ?_;rintro e W1 ⟨jy,rfl,HM1⟩;refine ⟨_,rfl,?_⟩;replace HM:=HM.join HM1;clear HM1;simp only [partRcd,List.cons_append,List.nil_append] at HM;simp only [encRcd]))|(refine qg ?_;clear HM;intro g W1 HM))
  obtain ⟨nY,kY⟩:=take_facts s m
  refine c_cutc (σ:=Unit) (fun _=>[(0,.slice A bs.length c)]) (fun _ W1=>Mem w W1 []) ?_ ?_
  · by_cases hvs : validB s = true
    · obtain ⟨vY,kp2⟩:=vr_recTake (m:=m) hvs
      have bY:=validB_iff.2 vY
      have hd3 : decide ((recTakeL s m).dp < s.dp) = false:=decide_eq_false (by have:=kp2.dp;omega)
      have hd4 : decide ((recTakeL s m).dk < s.dk) = false:=decide_eq_false (by have:=kp2.dk;omega)
      repeat (first|(refine gN ?_;refine d_back (by first|exact HM|exact HM.drop.drop.drop.drop.drop.drop.drop) ?_)|(refine gR ?_;refine d_start [] [(1,0),(1,1),(1,2),(2,3),(2,4),(0,5),(0,6),(1,7),(2,8),(0,9),(1,10),(2,11),(0,12),(0,13),(0,14),(0,15),(0,17),(0,18),(1,16),(1,19),(0,20),(0,21),(0,22),(0,23),(0,24),(0,26),(0,27),(1,25),(1,28),(0,29),(0,30),(0,31),(0,32)] HM (by kernel_rfl) (by kernel_rfl) qq (by kernel_rfl) rfl ?_;intro HQ HS W1 HM1;replace HM:=HM1;clear HM1)|refine Y ?_|(refine qf ?_;first|(go_at_call 14;refine (specRecTake s js m am (by exact ro_rec1 (eS:=91) (eM:=40) (eT:=9) (eI:=3) (eA:=66) HM) hns (by exact ro_slot_at2 HM) hms (Mem.start _)).mono ?_;rintro e W1 ⟨jz,rfl,HM1⟩;refine ⟨_,rfl,?_⟩;replace HM:=HM.join HM1;clear HM1;simp only [partRcd,List.cons_append,List.nil_append] at HM;simp only [encRcd])|(go_at_call 7;(with_reducible refine (wRecorder_l (recTakeL s m) jy jz ?_ ?_ nY kY (Mem.start _)).mono ?_);exact ro_rec1 (eS:=91) (eM:=40) (eT:=9) (eI:=3) (eA:=66) HM;exact ro_rec1 (eS:=91) (eM:=40) (eT:=9) (eI:=3) (eA:=66) HM;rintro e W1 ⟨rfl,HM1⟩;refine ⟨_,rfl,?_⟩;have HM2:=HM.step HM1.below;clear HM HM1;have HM:=HM2;clear HM2)|(go_at_call 9;(with_reducible refine (specValid_l s js ?_ hns (Mem.start _)).mono ?_);exact ro_rec1 (eS:=91) (eM:=40) (eT:=9) (eI:=3) (eA:=66) HM;rw [hvs];rintro e W1 ⟨rfl,HM1⟩;refine ⟨_,rfl,?_⟩;have HM2:=HM.step HM1.below;clear HM HM1;have HM:=HM2;clear HM2)|(go_at_call 10;(with_reducible refine (implValid_l (recTakeL s m) jy ?_ ?_ nY (Mem.start _)).mono ?_);exact ro_rec1 (eS:=91) (eM:=40) (eT:=9) (eI:=3) (eA:=66) HM;exact (show (recTakeL s m).ds.length ≤ jy.a1.2 ∧ (recTakeL s m).wishes.length ≤ jy.a3.2 from ro_cap1 (eS:=91) (eM:=40) (eT:=9) (eI:=3) (eA:=66) HM).2;rw [bY];rintro e W1 ⟨rfl,HM1⟩;refine ⟨_,rfl,?_⟩;have HM2:=HM.step HM1.below;clear HM HM1;have HM:=HM2;clear HM2)))
      exact n_mid () U HM.emp
    · simp only [Bool.not_eq_true] at hvs
      repeat (first|(refine gN ?_;refine d_back (by first|exact HM|exact HM.drop.drop.drop.drop.drop.drop.drop) ?_)|(refine gR ?_;refine d_start [] [(1,0),(1,1),(1,2),(2,3),(2,4),(0,5),(0,6),(1,7),(2,8),(0,9),(1,10),(2,11),(0,12),(0,13),(0,14),(0,15),(0,17),(0,18),(1,16),(1,19),(0,20),(0,21),(0,22),(0,23),(0,24),(0,26),(0,27),(1,25),(1,28),(0,29),(0,30),(0,31),(0,32)] HM (by kernel_rfl) (by kernel_rfl) qq (by kernel_rfl) rfl ?_;intro HQ HS W1 HM1;replace HM:=HM1;clear HM1)|refine Y ?_|(refine qf ?_;first|(go_at_call 14;refine (specRecTake s js m am (by exact ro_rec1 (eS:=91) (eM:=40) (eT:=9) (eI:=3) (eA:=66) HM) hns (by exact ro_slot_at2 HM) hms (Mem.start _)).mono ?_;rintro e W1 ⟨jz,rfl,HM1⟩;refine ⟨_,rfl,?_⟩;replace HM:=HM.join HM1;clear HM1;simp only [partRcd,List.cons_append,List.nil_append] at HM;simp only [encRcd])|(go_at_call 7;(with_reducible refine (wRecorder_l (recTakeL s m) jy jz ?_ ?_ nY kY (Mem.start _)).mono ?_);exact ro_rec1 (eS:=91) (eM:=40) (eT:=9) (eI:=3) (eA:=66) HM;exact ro_rec1 (eS:=91) (eM:=40) (eT:=9) (eI:=3) (eA:=66) HM;rintro e W1 ⟨rfl,HM1⟩;refine ⟨_,rfl,?_⟩;have HM2:=HM.step HM1.below;clear HM HM1;have HM:=HM2;clear HM2)|(go_at_call 9;(with_reducible refine (specValid_l s js ?_ hns (Mem.start _)).mono ?_);exact ro_rec1 (eS:=91) (eM:=40) (eT:=9) (eI:=3) (eA:=66) HM;rw [hvs];rintro e W1 ⟨rfl,HM1⟩;refine ⟨_,rfl,?_⟩;have HM2:=HM.step HM1.below;clear HM HM1;have HM:=HM2;clear HM2)))
      exact n_mid () U HM.emp
  clear HM
  rintro ⟨⟩ W1 HM
  repeat (first|refine Y ?_|(refine qs ?_;clear HM;intro W1 HM)|(refine qf ?_;first|(go_at_call 15;refine (draww_c hb hc HM).mono ?_;rintro e W1 ⟨t,jt,tx,hnt,htx,rfl,HM1⟩;refine ⟨_,rfl,?_⟩;replace HM:=HM1;clear HM1;simp only [partRcd,List.cons_append,List.nil_append] at HM;simp only [encRcd])|(go_at_call 16;refine (implRecWish t jt tx (by exact ro_rec1 (eS:=91) (eM:=40) (eT:=9) (eI:=3) (eA:=66) HM) (by exact ro_cap1 (eS:=91) (eM:=40) (eT:=9) (eI:=3) (eA:=66) HM) hnt htx (Mem.start _)).mono ?_;rintro e W1 ⟨jz,rfl,HM1⟩;refine ⟨_,rfl,?_⟩;replace HM:=HM.join HM1;clear HM1;simp only [partRcd,List.cons_append,List.nil_append] at HM;simp only [encRcd]))|(refine qg ?_;clear HM;intro g W1 HM))
  obtain ⟨nZ,kZ⟩:=wish_facts t tx
  by_cases hvt : validB t = true
  · have bZ:=validB_iff.2 (vr_wishL (t:=tx) (validB_iff.1 hvt)).1
    repeat (first|(refine gN ?_;refine d_back (by first|exact HM|exact HM.drop.drop.drop.drop.drop.drop.drop) ?_)|(refine gR ?_;refine d_start [] [(0,2),(1,0),(1,1),(2,3),(2,4),(0,5),(1,6),(2,7),(0,8),(0,9),(1,10),(2,11),(0,12),(0,13),(0,14)] HM (by kernel_rfl) (by kernel_rfl) qq (by kernel_rfl) rfl ?_;intro HQ HS W1 HM1;replace HM:=HM1;clear HM1)|refine Y ?_|(refine qf ?_;first|(go_at_call 17;refine (specRecWish t jt tx (by exact ro_rec1 (eS:=91) (eM:=40) (eT:=9) (eI:=3) (eA:=66) HM) hnt htx (Mem.start _)).mono ?_;rintro e W1 ⟨jw2,rfl,HM1⟩;refine ⟨_,rfl,?_⟩;replace HM:=HM.join HM1;clear HM1;simp only [partRcd,List.cons_append,List.nil_append] at HM;simp only [encRcd])|(go_at_call 7;(with_reducible refine (wRecorder_l (wishL t tx) jz jw2 ?_ ?_ nZ kZ (Mem.start _)).mono ?_);exact ro_rec1 (eS:=91) (eM:=40) (eT:=9) (eI:=3) (eA:=66) HM;exact ro_rec1 (eS:=91) (eM:=40) (eT:=9) (eI:=3) (eA:=66) HM;rintro e W1 ⟨rfl,HM1⟩;refine ⟨_,rfl,?_⟩;have HM2:=HM.step HM1.below;clear HM HM1;have HM:=HM2;clear HM2)|(go_at_call 9;(with_reducible refine (specValid_l t jt ?_ hnt (Mem.start _)).mono ?_);exact ro_rec1 (eS:=91) (eM:=40) (eT:=9) (eI:=3) (eA:=66) HM;rw [hvt];rintro e W1 ⟨rfl,HM1⟩;refine ⟨_,rfl,?_⟩;have HM2:=HM.step HM1.below;clear HM HM1;have HM:=HM2;clear HM2)|(go_at_call 10;(with_reducible refine (implValid_l (wishL t tx) jz ?_ ?_ nZ (Mem.start _)).mono ?_);exact ro_rec1 (eS:=91) (eM:=40) (eT:=9) (eI:=3) (eA:=66) HM;exact (show (wishL t tx).ds.length ≤ jz.a1.2 ∧ (wishL t tx).wishes.length ≤ jz.a3.2 from ro_cap1 (eS:=91) (eM:=40) (eT:=9) (eI:=3) (eA:=66) HM).2;rw [bZ];rintro e W1 ⟨rfl,HM1⟩;refine ⟨_,rfl,?_⟩;have HM2:=HM.step HM1.below;clear HM HM1;have HM:=HM2;clear HM2)))
    exact ret_tmp rfl rfl ⟨by simp,HM.below⟩
  · simp only [Bool.not_eq_true] at hvt
    repeat (first|(refine gN ?_;refine d_back (by first|exact HM|exact HM.drop.drop.drop.drop.drop.drop.drop) ?_)|(refine gR ?_;refine d_start [] [(0,2),(1,0),(1,1),(2,3),(2,4),(0,5),(1,6),(2,7),(0,8),(0,9),(1,10),(2,11),(0,12),(0,13),(0,14)] HM (by kernel_rfl) (by kernel_rfl) qq (by kernel_rfl) rfl ?_;intro HQ HS W1 HM1;replace HM:=HM1;clear HM1)|refine Y ?_|(refine qf ?_;first|(go_at_call 17;refine (specRecWish t jt tx (by exact ro_rec1 (eS:=91) (eM:=40) (eT:=9) (eI:=3) (eA:=66) HM) hnt htx (Mem.start _)).mono ?_;rintro e W1 ⟨jw2,rfl,HM1⟩;refine ⟨_,rfl,?_⟩;replace HM:=HM.join HM1;clear HM1;simp only [partRcd,List.cons_append,List.nil_append] at HM;simp only [encRcd])|(go_at_call 7;(with_reducible refine (wRecorder_l (wishL t tx) jz jw2 ?_ ?_ nZ kZ (Mem.start _)).mono ?_);exact ro_rec1 (eS:=91) (eM:=40) (eT:=9) (eI:=3) (eA:=66) HM;exact ro_rec1 (eS:=91) (eM:=40) (eT:=9) (eI:=3) (eA:=66) HM;rintro e W1 ⟨rfl,HM1⟩;refine ⟨_,rfl,?_⟩;have HM2:=HM.step HM1.below;clear HM HM1;have HM:=HM2;clear HM2)|(go_at_call 9;(with_reducible refine (specValid_l t jt ?_ hnt (Mem.start _)).mono ?_);exact ro_rec1 (eS:=91) (eM:=40) (eT:=9) (eI:=3) (eA:=66) HM;rw [hvt];rintro e W1 ⟨rfl,HM1⟩;refine ⟨_,rfl,?_⟩;have HM2:=HM.step HM1.below;clear HM HM1;have HM:=HM2;clear HM2)))
    exact ret_tmp rfl rfl ⟨by simp,HM.below⟩
end Go.Proofs.YtampmicahnnebaaGreat.Sp
namespace Go.Proofs.YtampmicahnnebaaGreat.Sp
open Go Go.RowKit Go.ChangeShapes Go.WideShapes
structure OpP (P : Program) (t sz : Nat) (R : World → List Value → Prop) : Prop where
  out : ∀ {H : Type} (enc : TypeId × Value → H) (w : World) (fuel : Nat) (cs : List Value) (x : DataW H × List MemPlace),DataW.trod enc P w 0 (fun _=>true) true fuel t cs = some x → R w cs
theorem choose_list {α : Type} {P : Nat → α → Prop} : ∀ n,(∀ i,i < n → ∃ y,P i y) → ∃ ys : List α,ys.length = n ∧ ∀ i (h : i < ys.length),P i ys[i]
  | 0,_=>⟨[],rfl,fun i h=>by simp at h⟩
  | n + 1,h=>by
    obtain ⟨ys,hl,hp⟩:=choose_list n (fun i hi=>h i (by omega))
    obtain ⟨y,hy⟩:=h n (by omega)
    refine ⟨ys ++ [y],by simp [hl],fun i hi=>?_⟩
    rcases Nat.lt_or_ge i n with h1|h1
    · rw [List.getElem_append_left (by omega)];exact hp i (by omega)
    · have : i = n:=by simp at hi;omega
      subst this
      rw [List.getElem_append_right (by omega)]
      simpa [hl] using hy
theorem opSlice {α : Type} {P : Program} {t e : Nat} {D : TyR α} (ht : P.underlying t = some (.slice e)) (hc : P.cellsOf e = D.sz) (he : OpP P e D.sz (fun w cs=>∃ x,D.R w x cs)) :
    OpP P t 1 (fun w cs=>∃ (xs : List α) (A : Option Addr) (c : Nat),cs = [.slice A xs.length c] ∧ RoRow D w A xs):=⟨fun enc w fuel cs x hx=>by
  rcases DataW.trod_slice ht hx with ⟨rfl,_⟩|⟨a,len,cap,elems,rest,n,_,rfl,_,_,hlc,hcm,hlen,hel,_,_⟩
  · exact ⟨[],none,0,rfl,by simp,fun h=>by simp at h,fun i h=>by simp at h⟩
  · obtain ⟨ys,hyl,hys⟩:=choose_list (P:=fun i y=>∃ c,w.cells? 0 (a.add (i * P.cellsOf e)) (P.cellsOf e) = some c ∧ D.R w y c) len (fun i hi=>by
      have h1:=hel i hi
      rw [List.getElem?_eq_getElem (by omega : i < elems.length)] at h1
      obtain ⟨c,hc1,hc2⟩:=Option.bind_eq_some_iff.1 h1
      obtain ⟨y,hy1⟩:=he.out enc w n c _ hc2
      exact ⟨y,c,hc1,hy1⟩)
    have hml : len ≤ maxLen:=Nat.le_trans hlc hcm
    refine ⟨ys,some a,cap,by rw [hyl],by unfold maxLen at hml;omega,fun _=>rfl,fun i hi=>?_⟩
    obtain ⟨c,hc1,hR⟩:=hys i hi
    obtain ⟨_,hcl,hcell⟩:=World.cells?_some hc1
    refine ⟨c,hR,fun j v hv=>?_⟩
    have hjl : j < P.cellsOf e:=by rw [← hcl];exact (List.getElem?_eq_some_iff.1 hv).1
    show w.cell? (a.add (i * D.sz + j)) = some v
    rw [← hc,← addr_add_add,hcell j hjl]
    exact hv⟩
structure OpFs (P : Program) (fs : List Field) (off sz : Nat) (R : World → List Value → Prop) : Prop where
  out : ∀ {H : Type} (enc : TypeId × Value → H) (w : World) (n : Nat) (cs : List Value),cs.length = sz →
    (∀ (i : Nat) (f : Field),fs[i]? = some f → ∃ x,DataW.trod enc P w 0 (fun _=>true) true n f.type ((cs.drop (f.offset - off)).take (P.cellsOf f.type)) = some x) → R w cs
end Go.Proofs.YtampmicahnnebaaGreat.Sp
