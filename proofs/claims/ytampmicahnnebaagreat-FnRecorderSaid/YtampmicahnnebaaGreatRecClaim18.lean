/- a beat taken, of the program. No condition. -/
import Derived.Test.YtampmicahnnebaaGreatRecClaim17
import Derived.Test.YtampmicahnnebaaGreatRecClaim11
import Derived.Test.YtampmicahnnebaaGreatRecClaim8
import Derived.Test.YtampmicahnnebaaGreatRecClaim9
import Derived.Test.YtampmicahnnebaaGreatRecClaim7
set_option linter.unusedVariables false
set_option linter.unusedSimpArgs false
namespace Go.Proofs.YtampmicahnnebaaGreat.Sp
open Go Go.RowKit
set_option maxRecDepth 10000
set_option maxHeartbeats 2000000
variable {w0 W : World} {L : List Asn}
theorem holdM2 (x : Rcd) (i : AtRcd) (g : Nat) (m : Msg) (am : At) (HM : Mem w0 W (boxR 91 40 9 3 66 31 g x i ++ own tSlot 91 am.1 am.2 m.slots :: L)) : Calls Tryz.prog 78 #[.pointer (some ⟨g,0,none⟩),.agg (encMsg m am).toArray] W fun e W'=>∃ j,j.a3 = i.a3 ∧ e = .returned (.tuple #[]) ∧ Mem w0 W' (boxR 91 40 9 3 66 31 g (holdL x m) j ++ L):=by
  refine enter Tryz.func78 rfl Tryz.ntmps78 [(0,_),(1,.agg (encMsg m am).toArray)] rfl ⟨rfl,rfl,trivial⟩ ?_
  unfold encMsg
  simp only [boxR,partRcd,List.cons_append,List.nil_append] at HM
  by_cases c1 : (x.held.length : Int) < 400
  · have e : holdL x m = { x with held:=x.held ++ [{ m with frm:=x.number }] }:=if_pos c1
    repeat (first|(refine gR ?_;refine d_start [7,10] [(0,0),(0,1),(0,2),(0,3),(1,4),(1,5),(2,6),(3,7),(0,8),(0,9),(3,10)] HM (by kernel_rfl) (by kernel_rfl) (by repeat (first|exact qp_body|refine qp_then ?_|refine qp_block ?_)) (by kernel_rfl) rfl ?_;intro HQ HS W1 HM1;replace HM:=HM1;clear HM1)|(refine gGP ?_;first|refine gp (p_move rfl) ?_|(refine gGB ?_;refine gp (p_lss rfl rfl) ?_)|refine gp (p_field rfl (by simp only [Nat.reduceAdd];rfl)) ?_|refine gp (p_len rfl) ?_|refine gp (p_nil rfl) ?_)|(refine gGV ?_;first|refine gv (p_load rfl) ?_|refine gv (p_loads rfl) ?_)|(refine gL ?_;first|refine s_gp rfl rfl ?_|refine s_gv HM rfl ?_|refine s_pv (p_nil rfl) rfl ?_|(refine gStore ?_;(refine s_store HM rfl rfl rfl rfl ?_;clear HM;intro W1 HM))|(refine gCall ?_;(refine s_append1 HM rfl rfl (by first|with_reducible rfl|omega) rfl rfl (by omega) rfl ?_;intro A1 c1 W1 HM1;replace HM:=HM1;clear HM1))|(refine s_box HM rfl rfl ?_;clear HM;intro g W1 HM)|(refine s_lit1 HM rfl rfl rfl ?_;clear HM;intro g W1 HM)|refine l_nil ?_)|(refine gC ?_;first|refine c_seq ?_|refine c_region ?_|refine c_yes rfl (by (simp;omega)) ?_)|(refine gN ?_;first|refine n_then ?_|refine d_back (by exact HM.drop) ?_|refine d_backT ?_)|(refine gD ?_;refine d_next rfl ?_)|(refine gO ?_;first|refine d_gp HQ HS rfl ?_|refine d_gv HQ HS rfl ?_|refine d_one ?_|refine d_last ?_)|(refine gT ?_;first|refine d_gpT HQ HS rfl rfl ?_|refine d_nextT rfl ?_|refine d_doneT ?_))
    rw [e]
    exact end_none rfl ⟨⟨i.a0,i.a1,(A1,c1),i.a3,i.a4,i.a5,i.a6⟩,rfl,rfl,by simp only [boxR,partRcd,List.cons_append,List.nil_append];exact HM.sb⟩
  · have e : holdL x m = x:=if_neg c1
    repeat (first|(refine gGP ?_;first|refine gp (p_move rfl) ?_|(refine gGB ?_;refine gp (p_lss rfl rfl) ?_)|refine gp (p_field rfl (by simp only [Nat.reduceAdd];rfl)) ?_|refine gp (p_len rfl) ?_)|(refine gGV ?_;refine gv (p_load rfl) ?_)|(refine gL ?_;first|refine s_gp rfl rfl ?_|refine s_gv HM rfl ?_|refine s_pv (p_nil rfl) rfl ?_|(refine gStore ?_;(refine s_store HM rfl rfl rfl rfl ?_;clear HM;intro W1 HM))|(refine s_box HM rfl rfl ?_;clear HM;intro g W1 HM)|refine l_nil ?_)|(refine gC ?_;first|refine c_seq ?_|refine c_region ?_|refine c_skip ?_|refine c_no rfl (by (simp;omega)) ?_)|(refine gN ?_;refine n_then ?_))
    rw [e]
    exact end_none rfl ⟨i,rfl,rfl,by simp only [boxR,partRcd,List.cons_append,List.nil_append];exact HM.sb⟩
theorem takeBeatM (x : Rcd) (i : AtRcd) (gr : Nat) (m : Msg) (am : At) (hv : VR x) (hu : x.up = true) (hm : MsgP m x.of) (ht : m.to = x.number) (hk : m.kind = 5) (HM : Mem w0 W (boxR 91 40 9 3 66 31 gr x i ++ L)) : Calls Tryz.prog 55 #[.pointer (some ⟨gr,0,none⟩),.agg (encMsg m am).toArray] W fun e W'=>∃ j,e = .returned (.tuple #[]) ∧ Mem w0 W' (boxR 91 40 9 3 66 31 gr (if m.ballot < x.dp then refuseL x m.frm else beatL x m) j ++ L):=by
  refine enter Tryz.func55 rfl Tryz.ntmps55 [(0,_),(1,.agg (encMsg m am).toArray)] rfl ⟨rfl,rfl,trivial⟩ ?_
  unfold encMsg
  simp only [boxR,partRcd,List.cons_append,List.nil_append] at HM
  by_cases c1 : m.ballot < x.dp
  · rw [if_pos c1]
    unfold refuseL
    repeat (first|(refine gR ?_;refine d_start [] [(0,0),(0,1),(0,2),(1,3),(0,4),(0,5),(0,6),(0,8),(0,9),(0,10),(1,7),(1,11),(0,12),(0,13)] HM (by kernel_rfl) (by kernel_rfl) (by repeat (first|exact qp_body|refine qp_then ?_|refine qp_block ?_)) (by kernel_rfl) rfl ?_;intro HQ HS W1 HM1;replace HM:=HM1;clear HM1)|(refine gR ?_;refine d_start [] [(0,0),(0,2),(0,3),(0,4),(1,1),(1,5),(0,6)] HM (by kernel_rfl) (by kernel_rfl) (by repeat (first|exact qp_body|refine qp_then ?_|refine qp_block ?_)) (by kernel_rfl) rfl ?_;intro HQ HS W1 HM1;replace HM:=HM1;clear HM1)|(refine gGP ?_;first|refine gp (p_move rfl) ?_|refine gp (p_assign rfl) ?_|(refine gGB ?_;first|refine gp (p_lss rfl rfl) ?_|refine gp (p_eql rfl rfl) ?_|refine gp (p_neq rfl rfl) ?_)|refine gp (p_field rfl (by simp only [Nat.reduceAdd];rfl)) ?_|refine gp (p_not rfl) ?_|refine gp (p_pick0 rfl (by first|rfl|(simp;omega)) rfl) ?_|refine gp (p_nil rfl) ?_)|(refine gGV ?_;refine gv (p_load rfl) ?_)|(refine gL ?_;first|refine s_gp rfl rfl ?_|refine s_gv HM rfl ?_|refine s_pv (p_nil rfl) rfl ?_|(refine gCall ?_;(refine s_fn rfl rfl ?_;(go_at_call 92;refine (refuseM x i gr m.frm (by exact pk_boxr HM)).mono ?_;rintro e W1 ⟨j2,rfl,HM1⟩;refine ⟨_,rfl,?_⟩;replace HM:=HM1;clear HM1;simp only [boxR,partRcd,List.cons_append,List.nil_append] at HM)))|(refine s_box HM rfl rfl ?_;clear HM;intro g W1 HM)|refine l_nil ?_)|(refine gC ?_;first|refine c_seq ?_|refine c_region ?_|refine c_block ?_|refine c_skip ?_|refine c_ret ?_|refine c_yes rfl (by (simp;omega)) ?_|refine c_no rfl (by (simp;omega)) ?_)|(refine gN ?_;first|refine n_then ?_|refine r_then ?_|refine r_block ?_)|(refine gD ?_;first|refine d_next rfl ?_|refine d_done ?_)|(refine gO ?_;first|refine d_gp HQ HS rfl ?_|refine d_gv HQ HS rfl ?_|refine d_gpg HQ HS rfl rfl rfl (by first|rfl|(simp;omega)) rfl ?_|refine d_gvg HQ HS rfl rfl rfl (by (simp;omega)) rfl ?_))
    exact ret_none rfl ⟨j2,rfl,by simp only [boxR,partRcd,List.cons_append,List.nil_append];exact HM.sb⟩
  rw [if_neg c1]
  by_cases c2 : m.ballot < 1
  · have e : beatL x m = x:=by rw [beatL,if_pos (.inr c2)]
    rw [e]
    repeat (first|(refine gR ?_;refine d_start [] [(0,0),(0,1),(0,2),(1,3),(0,4),(0,5),(0,6),(0,8),(0,9),(0,10),(1,7),(1,11),(0,12),(0,13)] HM (by kernel_rfl) (by kernel_rfl) (by repeat (first|exact qp_body|refine qp_then ?_|refine qp_block ?_)) (by kernel_rfl) rfl ?_;intro HQ HS W1 HM1;replace HM:=HM1;clear HM1)|(refine gR ?_;refine d_start [] [(0,0),(0,2),(0,3),(0,4),(1,1),(1,5),(0,6)] HM (by kernel_rfl) (by kernel_rfl) (by repeat (first|exact qp_body|refine qp_then ?_|refine qp_block ?_)) (by kernel_rfl) rfl ?_;intro HQ HS W1 HM1;replace HM:=HM1;clear HM1)|(refine gR ?_;refine d_start [] [(0,0),(1,1),(0,2),(0,3),(0,4),(0,6),(0,7),(0,8),(1,5),(1,9),(0,10),(0,11)] HM (by kernel_rfl) (by kernel_rfl) (by repeat (first|exact qp_body|refine qp_then ?_|refine qp_block ?_)) (by kernel_rfl) rfl ?_;intro HQ HS W1 HM1;replace HM:=HM1;clear HM1)|(refine gGP ?_;first|refine gp (p_move rfl) ?_|refine gp (p_assign rfl) ?_|(refine gGB ?_;first|refine gp (p_lss rfl rfl) ?_|refine gp (p_eql rfl rfl) ?_|refine gp (p_neq rfl rfl) ?_)|refine gp (p_field rfl (by simp only [Nat.reduceAdd];rfl)) ?_|refine gp (p_not rfl) ?_|refine gp (p_pick1 rfl (by first|rfl|(simp;omega)) rfl) ?_|refine gp (p_pick0 rfl (by first|rfl|(simp;omega)) rfl) ?_|refine gp (p_nil rfl) ?_)|(refine gGV ?_;refine gv (p_load rfl) ?_)|(refine gL ?_;first|refine s_gp rfl rfl ?_|refine s_gv HM rfl ?_|refine s_pv (p_nil rfl) rfl ?_|(refine s_box HM rfl rfl ?_;clear HM;intro g W1 HM)|refine l_nil ?_)|(refine gC ?_;first|refine c_seq ?_|refine c_region ?_|refine c_block ?_|refine c_skip ?_|refine c_ret ?_|refine c_yes rfl (by first|rfl|(simp;omega)) ?_|refine c_no rfl (by (simp;omega)) ?_)|(refine gN ?_;first|refine n_then ?_|refine r_then ?_|refine r_block ?_)|(refine gD ?_;first|refine d_next rfl ?_|refine d_done ?_)|(refine gO ?_;first|refine d_gp HQ HS rfl ?_|refine d_gv HQ HS rfl ?_|refine d_gpg HQ HS rfl rfl rfl (by first|rfl|(simp;omega)) rfl ?_|refine d_gvg HQ HS rfl rfl rfl (by first|rfl|(simp;omega)) rfl ?_|refine d_off (.inl rfl) HQ HS rfl rfl rfl rfl (by (simp;omega)) rfl rfl ?_|refine d_off (.inr rfl) HQ HS rfl rfl rfl rfl (by (simp;omega)) rfl rfl ?_))
    exact ret_none rfl ⟨i,rfl,by simp only [boxR,partRcd,List.cons_append,List.nil_append];exact HM.sb⟩
  by_cases c3 : m.frm = x.number
  · have e : beatL x m = x:=by rw [beatL,if_pos (.inl c3)]
    rw [e]
    repeat (first|(refine gR ?_;refine d_start [] [(0,0),(0,1),(0,2),(1,3),(0,4),(0,5),(0,6),(0,8),(0,9),(0,10),(1,7),(1,11),(0,12),(0,13)] HM (by kernel_rfl) (by kernel_rfl) (by repeat (first|exact qp_body|refine qp_then ?_|refine qp_block ?_)) (by kernel_rfl) rfl ?_;intro HQ HS W1 HM1;replace HM:=HM1;clear HM1)|(refine gR ?_;refine d_start [] [(0,0),(0,2),(0,3),(0,4),(1,1),(1,5),(0,6)] HM (by kernel_rfl) (by kernel_rfl) (by repeat (first|exact qp_body|refine qp_then ?_|refine qp_block ?_)) (by kernel_rfl) rfl ?_;intro HQ HS W1 HM1;replace HM:=HM1;clear HM1)|(refine gR ?_;refine d_start [] [(0,0),(1,1),(0,2),(0,3),(0,4),(0,6),(0,7),(0,8),(1,5),(1,9),(0,10),(0,11)] HM (by kernel_rfl) (by kernel_rfl) (by repeat (first|exact qp_body|refine qp_then ?_|refine qp_block ?_)) (by kernel_rfl) rfl ?_;intro HQ HS W1 HM1;replace HM:=HM1;clear HM1)|(refine gGP ?_;first|refine gp (p_move rfl) ?_|refine gp (p_assign rfl) ?_|(refine gGB ?_;first|refine gp (p_lss rfl rfl) ?_|refine gp (p_eql rfl rfl) ?_|refine gp (p_neq rfl rfl) ?_)|refine gp (p_field rfl (by simp only [Nat.reduceAdd];rfl)) ?_|refine gp (p_not rfl) ?_|refine gp (p_pick0 rfl (by first|rfl|(simp;omega)) rfl) ?_|refine gp (p_nil rfl) ?_)|(refine gGV ?_;refine gv (p_load rfl) ?_)|(refine gL ?_;first|refine s_gp rfl rfl ?_|refine s_gv HM rfl ?_|refine s_pv (p_nil rfl) rfl ?_|(refine s_box HM rfl rfl ?_;clear HM;intro g W1 HM)|refine l_nil ?_)|(refine gC ?_;first|refine c_seq ?_|refine c_region ?_|refine c_block ?_|refine c_skip ?_|refine c_ret ?_|refine c_yes rfl (by (simp;omega)) ?_|refine c_no rfl (by (simp;omega)) ?_)|(refine gN ?_;first|refine n_then ?_|refine r_then ?_|refine r_block ?_)|(refine gD ?_;first|refine d_next rfl ?_|refine d_done ?_)|(refine gO ?_;first|refine d_gp HQ HS rfl ?_|refine d_gv HQ HS rfl ?_|refine d_gpg HQ HS rfl rfl rfl (by first|rfl|(simp;omega)) rfl ?_|refine d_gvg HQ HS rfl rfl rfl (by (simp;omega)) rfl ?_))
    exact ret_none rfl ⟨i,rfl,by simp only [boxR,partRcd,List.cons_append,List.nil_append];exact HM.sb⟩
  have ew : (followL x m.ballot).wishes = x.wishes:=by unfold followL;split <;> rfl
  have e : beatL x m = wishedL m.frm (followL x m.ballot).wishes (beat2 (beat1 (followL x m.ballot) m) m):=by rw [beatL,if_neg (by omega),ew]
  have hvy:=vr_follow (b:=m.ballot) hv hm.ballot.2
  rw [e]
  clear e ew
  repeat (first|(refine gR ?_;refine d_start [] [(0,0),(0,1),(0,2),(1,3),(0,4),(0,5),(0,6),(0,8),(0,9),(0,10),(1,7),(1,11),(0,12),(0,13)] HM (by kernel_rfl) (by kernel_rfl) (by repeat (first|exact qp_body|refine qp_then ?_|refine qp_block ?_)) (by kernel_rfl) rfl ?_;intro HQ HS W1 HM1;replace HM:=HM1;clear HM1)|(refine gR ?_;refine d_start [] [(0,0),(0,2),(0,3),(0,4),(1,1),(1,5),(0,6)] HM (by kernel_rfl) (by kernel_rfl) (by repeat (first|exact qp_body|refine qp_then ?_|refine qp_block ?_)) (by kernel_rfl) rfl ?_;intro HQ HS W1 HM1;replace HM:=HM1;clear HM1)|(refine gR ?_;refine d_start [] [(0,0),(1,1),(0,2),(0,3),(0,4),(0,6),(0,7),(0,8),(1,5),(1,9),(0,10),(0,11)] HM (by kernel_rfl) (by kernel_rfl) (by repeat (first|exact qp_body|refine qp_then ?_|refine qp_block ?_)) (by kernel_rfl) rfl ?_;intro HQ HS W1 HM1;replace HM:=HM1;clear HM1)|(refine gGP ?_;first|refine gp (p_move rfl) ?_|refine gp (p_assign rfl) ?_|(refine gGB ?_;first|refine gp (p_lss rfl rfl) ?_|refine gp (p_eql rfl rfl) ?_|refine gp (p_neq rfl rfl) ?_)|refine gp (p_field rfl (by simp only [Nat.reduceAdd];rfl)) ?_|refine gp (p_not rfl) ?_|refine gp (p_pick0 rfl (by first|rfl|(simp;omega)) rfl) ?_|refine gp (p_nil rfl) ?_)|(refine gGV ?_;refine gv (p_load rfl) ?_)|(refine gL ?_;first|refine s_gp rfl rfl ?_|refine s_gv HM rfl ?_|refine s_pv (p_nil rfl) rfl ?_|(refine gCall ?_;(refine s_fn rfl rfl ?_;(go_at_call 93;refine (followM x i gr m.ballot (by exact pk_boxr HM)).mono ?_;rintro e W1 ⟨j2,rfl,HM1⟩;refine ⟨_,rfl,?_⟩;replace HM:=HM1;clear HM1;simp only [boxR,partRcd,List.cons_append,List.nil_append] at HM)))|(refine s_box HM rfl rfl ?_;clear HM;intro g W1 HM)|refine l_nil ?_)|(refine gC ?_;first|refine c_seq ?_|refine c_region ?_|refine c_block ?_|refine c_skip ?_|refine c_yes rfl (by first|rfl|(simp;omega)) ?_|refine c_no rfl (by first|rfl|(simp;omega)) ?_)|(refine gN ?_;refine n_then ?_)|(refine gD ?_;first|refine d_next rfl ?_|refine d_done ?_)|(refine gO ?_;first|refine d_gp HQ HS rfl ?_|refine d_gv HQ HS rfl ?_|refine d_gpg HQ HS rfl rfl rfl (by first|rfl|(simp;omega)) rfl ?_|refine d_gvg HQ HS rfl rfl rfl (by (simp;omega)) rfl ?_))
  clear c1 c3 hv hu ht
  generalize followL x m.ballot = y at *
  have hd:=hvy.disk
  have hdl:=hd.slots.1
  have hdk0:=hd.k0
  have hdk1:=hd.k1
  have hkn:=hm.known
  have hwl:=hvy.wishes.len
  clear hvy hd
  have HMn:=(show Mem w0 _ (boxR 91 40 9 3 66 31 gr y j2 ++ _) from pk_boxr HM).name
  clear HM
  obtain ⟨R,hR,HM⟩:=HMn
  refine c_cut (σ:=Rcd × AtRcd) (fun s=>[(0,.pointer (some ⟨gr,0,none⟩)),(3,.pointer (some ⟨g,0,none⟩)),(4,.pointer (some ⟨gr,6,none⟩))]) (fun s W1=>s.1 = beat1 y m ∧ Mem w0 W1 (boxR 91 40 9 3 66 31 gr s.1 s.2 ++ R)) ?_ ?_
  · refine c_loop (σ:=Nat × Int) (fun s=>[(0,.pointer (some ⟨gr,0,none⟩)),(3,.pointer (some ⟨g,0,none⟩)),(4,.pointer (some ⟨gr,6,none⟩))]) (fun s W1=>knowL y.ds m.ballot m.known s.1 s.2 = knowL y.ds m.ballot m.known y.ds.length y.dk ∧ 0 ≤ s.2 ∧ s.2 ≤ y.ds.length ∧ (y.ds.length : Int) ≤ s.1 + s.2 ∧ Mem w0 W1 (boxR 91 40 9 3 66 31 gr { y with dk:=s.2 } j2 ++ _)) (fun s=>s.1) (y.ds.length,y.dk) (by repeat (first|exact trivial|refine And.intro (by first|rfl|exact look_int rfl (by omega)) ?_)) ⟨rfl,hdk0,hdk1,by dsimp only;omega,HM⟩ ?_
    clear HM
    subst hR
    rintro ⟨fu,d⟩ W1 ⟨hl,hd0,hd1,hf,HM⟩
    dsimp only at hl hd0 hd1 hf HM ⊢
    simp only [boxR,partRcd,List.cons_append,List.nil_append] at HM
    by_cases t1 : d < m.known
    rotate_left
    · have hb1 : ({ y with dk:=d } : Rcd) = beat1 y m:=by rw [beat1,← hl,knowL_stop (fun h=>t1 h.1)]
      repeat (first|(refine gR ?_;refine d_start [] [(0,0),(0,1),(0,2),(0,4),(1,3),(1,5),(0,6),(0,7),(0,8),(0,9),(0,10),(0,12),(0,13),(0,14),(1,11),(1,15),(0,16),(0,17),(0,18),(0,19),(0,20),(0,21),(0,22),(0,24),(0,25),(0,26),(0,31),(1,23),(1,27),(0,28),(0,29),(1,30),(1,32),(0,33),(0,34)] HM (by kernel_rfl) (by kernel_rfl) (by repeat (first|exact qp_body|refine qp_then ?_|refine qp_block ?_)) (by kernel_rfl) rfl ?_;intro HQ HS W1 HM1;replace HM:=HM1;clear HM1)|(refine gGP ?_;first|refine gp (p_move rfl) ?_|(refine gGB ?_;refine gp (p_lss rfl rfl) ?_)|refine gp (p_field rfl (by simp only [Nat.reduceAdd];rfl)) ?_|refine gp (p_pick0 rfl (by first|rfl|(simp;omega)) rfl) ?_|refine gp (p_nil rfl) ?_)|(refine gGV ?_;refine gv (p_load rfl) ?_)|(refine gC ?_;first|refine c_seq ?_|refine c_exit ?_|refine c_no rfl (by rfl) ?_)|(refine gN ?_;first|refine n_then ?_|refine x_then ?_|refine x_here ?_)|(refine gD ?_;first|refine d_next rfl ?_|refine d_done ?_)|(refine gO ?_;first|refine d_gp HQ HS rfl ?_|refine d_gv HQ HS rfl ?_|refine d_off (.inl rfl) HQ HS rfl rfl rfl rfl (by first|rfl|(simp;omega)) rfl rfl ?_|refine d_off (.inr rfl) HQ HS rfl rfl rfl rfl (by first|rfl|(simp;omega)) rfl rfl ?_))
      exact n_mid ({ y with dk:=d },j2) (by repeat (first|exact trivial|refine And.intro (by first|rfl|exact look_int rfl (by omega)) ?_)) ⟨hb1,by exact pk_boxr (x:={ y with dk:=d }) HM⟩
    by_cases t2 : d < y.ds.length
    rotate_left
    · have hb1 : ({ y with dk:=d } : Rcd) = beat1 y m:=by rw [beat1,← hl,knowL_stop (fun h=>t2 h.2.1)]
      repeat (first|(refine gR ?_;refine d_start [] [(0,0),(0,1),(0,2),(0,4),(1,3),(1,5),(0,6),(0,7),(0,8),(0,9),(0,10),(0,12),(0,13),(0,14),(1,11),(1,15),(0,16),(0,17),(0,18),(0,19),(0,20),(0,21),(0,22),(0,24),(0,25),(0,26),(0,31),(1,23),(1,27),(0,28),(0,29),(1,30),(1,32),(0,33),(0,34)] HM (by kernel_rfl) (by kernel_rfl) (by repeat (first|exact qp_body|refine qp_then ?_|refine qp_block ?_)) (by kernel_rfl) rfl ?_;intro HQ HS W1 HM1;replace HM:=HM1;clear HM1)|(refine gGP ?_;first|refine gp (p_move rfl) ?_|(refine gGB ?_;refine gp (p_lss rfl rfl) ?_)|refine gp (p_field rfl (by simp only [Nat.reduceAdd];rfl)) ?_|refine gp (p_len rfl) ?_|refine gp (p_pick1 rfl (by first|rfl|(simp;omega)) rfl) ?_|refine gp (p_pick0 rfl (by first|rfl|(simp;omega)) rfl) ?_|refine gp (p_nil rfl) ?_)|(refine gGV ?_;refine gv (p_load rfl) ?_)|(refine gC ?_;first|refine c_seq ?_|refine c_exit ?_|refine c_no rfl (by rfl) ?_)|(refine gN ?_;first|refine n_then ?_|refine x_then ?_|refine x_here ?_)|(refine gD ?_;first|refine d_next rfl ?_|refine d_done ?_)|(refine gO ?_;first|refine d_gp HQ HS rfl ?_|refine d_gv HQ HS rfl ?_|refine d_gpg HQ HS rfl rfl rfl (by first|rfl|(simp;omega)) rfl ?_|refine d_gvg HQ HS rfl rfl rfl (by first|rfl|(simp;omega)) rfl ?_|refine d_off (.inl rfl) HQ HS rfl rfl rfl rfl (by (simp;omega)) rfl rfl ?_|refine d_off (.inr rfl) HQ HS rfl rfl rfl rfl (by (simp;omega)) rfl rfl ?_))
      exact n_mid ({ y with dk:=d },j2) (by repeat (first|exact trivial|refine And.intro (by first|rfl|exact look_int rfl (by omega)) ?_)) ⟨hb1,by exact pk_boxr (x:={ y with dk:=d }) HM⟩
    by_cases t3 : (rd tSlot y.ds d).ballot = m.ballot
    rotate_left
    · have hb1 : ({ y with dk:=d } : Rcd) = beat1 y m:=by rw [beat1,← hl,knowL_stop (fun h=>t3 h.2.2)]
      repeat (first|(refine gR ?_;refine d_start [] [(0,0),(0,1),(0,2),(0,4),(1,3),(1,5),(0,6),(0,7),(0,8),(0,9),(0,10),(0,12),(0,13),(0,14),(1,11),(1,15),(0,16),(0,17),(0,18),(0,19),(0,20),(0,21),(0,22),(0,24),(0,25),(0,26),(0,31),(1,23),(1,27),(0,28),(0,29),(1,30),(1,32),(0,33),(0,34)] HM (by kernel_rfl) (by kernel_rfl) (by repeat (first|exact qp_body|refine qp_then ?_|refine qp_block ?_)) (by kernel_rfl) rfl ?_;intro HQ HS W1 HM1;replace HM:=HM1;clear HM1)|(refine gGP ?_;first|refine gp (p_move rfl) ?_|(refine gGB ?_;first|refine gp (p_lss rfl rfl) ?_|refine gp (p_eql rfl rfl) ?_)|refine gp (p_field rfl (by simp only [Nat.reduceAdd];rfl)) ?_|refine gp (p_fieldo rfl (by simp only [Nat.reduceAdd];rfl)) ?_|refine gp (p_indexo HM rfl (by first|with_reducible rfl|omega) rfl (by omega) (by omega)) ?_|refine gp (p_len rfl) ?_|refine gp (p_pick1 rfl (by first|rfl|(simp;omega)) rfl) ?_|refine gp (p_nil rfl) ?_)|(refine gGV ?_;first|refine gv (p_load rfl) ?_|refine gv (p_loado rfl rfl (by omega) (by omega) rfl) ?_)|(refine gC ?_;first|refine c_seq ?_|refine c_exit ?_|refine c_no rfl (by (simp;omega)) ?_)|(refine gN ?_;first|refine n_then ?_|refine x_then ?_|refine x_here ?_)|(refine gD ?_;first|refine d_next rfl ?_|refine d_done ?_)|(refine gO ?_;first|refine d_gp HQ HS rfl ?_|refine d_gv HQ HS rfl ?_|refine d_gpg HQ HS rfl rfl rfl (by first|rfl|(simp;omega)) rfl ?_|refine d_gvg HQ HS rfl rfl rfl (by (simp;omega)) rfl ?_))
      exact n_mid ({ y with dk:=d },j2) (by repeat (first|exact trivial|refine And.intro (by first|rfl|exact look_int rfl (by omega)) ?_)) ⟨hb1,by exact pk_boxr (x:={ y with dk:=d }) HM⟩
    obtain ⟨n,rfl⟩ : ∃ n,fu = n + 1:=⟨fu - 1,by omega⟩
    have hst : knowL y.ds m.ballot m.known n (d + 1) = knowL y.ds m.ballot m.known y.ds.length y.dk:=by rw [← hl,knowL,if_pos ⟨t1,t2,t3⟩]
    repeat (first|(refine gR ?_;refine d_start [] [(0,0),(0,1),(0,2),(0,4),(1,3),(1,5),(0,6),(0,7),(0,8),(0,9),(0,10),(0,12),(0,13),(0,14),(1,11),(1,15),(0,16),(0,17),(0,18),(0,19),(0,20),(0,21),(0,22),(0,24),(0,25),(0,26),(0,31),(1,23),(1,27),(0,28),(0,29),(1,30),(1,32),(0,33),(0,34)] HM (by kernel_rfl) (by kernel_rfl) (by repeat (first|exact qp_body|refine qp_then ?_|refine qp_block ?_)) (by kernel_rfl) rfl ?_;intro HQ HS W1 HM1;replace HM:=HM1;clear HM1)|(refine gGP ?_;first|refine gp (p_move rfl) ?_|(refine gGB ?_;first|refine gp (p_lss rfl rfl) ?_|refine gp (p_eql rfl rfl) ?_|refine gp (p_add rfl rfl (by exact wr (by omega) (by omega))) ?_)|refine gp (p_field rfl (by simp only [Nat.reduceAdd];rfl)) ?_|refine gp (p_fieldo rfl (by simp only [Nat.reduceAdd];rfl)) ?_|refine gp (p_indexo HM rfl (by first|with_reducible rfl|omega) rfl (by omega) (by omega)) ?_|refine gp (p_len rfl) ?_|refine gp (p_pick1 rfl (by first|rfl|(simp;omega)) rfl) ?_|refine gp (p_nil rfl) ?_)|(refine gGV ?_;first|refine gv (p_load rfl) ?_|refine gv (p_loado rfl rfl (by omega) (by omega) rfl) ?_)|(refine gL ?_;first|refine s_gp rfl rfl ?_|refine s_gv HM rfl ?_|refine s_pv (p_nil rfl) rfl ?_|(refine gStore ?_;(refine s_store HM rfl rfl rfl rfl ?_;clear HM;intro W1 HM))|refine l_nil ?_)|(refine gC ?_;first|refine c_seq ?_|refine c_region ?_|refine c_block ?_|refine c_skip ?_|refine c_yes rfl (by (simp;omega)) ?_)|(refine gN ?_;first|refine n_then ?_|refine n_block ?_)|(refine gD ?_;first|refine d_next rfl ?_|refine d_done ?_)|(refine gO ?_;first|refine d_gp HQ HS rfl ?_|refine d_gv HQ HS rfl ?_|refine d_gpg HQ HS rfl rfl rfl (by first|rfl|(simp;omega)) rfl ?_|refine d_gvg HQ HS rfl rfl rfl (by (simp;omega)) rfl ?_))
    exact n_round (n,d + 1) (by repeat (first|exact trivial|refine And.intro (by first|rfl|exact look_int rfl (by omega)) ?_)) ⟨hst,by dsimp only;omega,by dsimp only;omega,by dsimp only;omega,by exact pk_boxr (x:={ y with dk:=d + 1 }) HM⟩ (by dsimp only;omega)
  clear HM
  subst hR
  rintro ⟨z,jz⟩ W1 ⟨hz,HM⟩
  dsimp only at hz HM ⊢
  rw [← hz]
  have hzd : 0 ≤ z.dk ∧ z.dk ≤ 1000:=by
    rw [hz]
    exact ⟨knowL_ge _ _ hdk0,knowL_le hdl _ _ (by omega)⟩
  have hzw : (beat2 z m).wishes = y.wishes:=by rw [beat2];split <;> (try unfold holdL) <;> (try split) <;> rw [hz] <;> rfl
  simp only [boxR,partRcd,List.cons_append,List.nil_append] at HM
  rw [← hzw]
  rw [← hzw] at hwl
  clear hz hzw
  have HMn:=(show Mem w0 _ (boxR 91 40 9 3 66 31 gr z jz ++ _) from pk_boxr HM).name
  clear HM
  obtain ⟨R,hR,HM⟩:=HMn
  refine c_seq ?_
  refine c_cutn (σ:=Rcd × AtRcd) (fun s=>[(0,.pointer (some ⟨gr,0,none⟩)),(3,.pointer (some ⟨g,0,none⟩)),(4,.pointer (some ⟨gr,6,none⟩))]) (fun s W1=>s.1 = beat2 z m ∧ Mem w0 W1 (boxR 91 40 9 3 66 31 gr s.1 s.2 ++ R)) ?_ ?_
  · subst hR
    simp only [boxR,partRcd,List.cons_append,List.nil_append] at HM
    by_cases t1 : z.dk < m.known
    · have e : beat2 z m = holdL z ⟨7,0,m.frm,m.ballot,z.dk + 1,0,⟨#[]⟩,[]⟩:=if_pos t1
      repeat (first|(refine gR ?_;refine d_start [11] [(0,0),(0,1),(0,3),(0,5),(0,6),(0,7),(1,2),(1,4),(1,8),(0,9),(2,10),(3,11)] HM (by kernel_rfl) (by kernel_rfl) (by repeat (first|exact qp_body|refine qp_then ?_|refine qp_block ?_)) (by kernel_rfl) rfl ?_;intro HQ HS W1 HM1;replace HM:=HM1;clear HM1)|(refine gR ?_;refine d_start [] [(0,0),(0,1),(0,2),(0,4),(1,3),(1,5),(0,6)] HM (by kernel_rfl) (by kernel_rfl) (by repeat (first|exact qp_body|refine qp_then ?_|refine qp_block ?_)) (by kernel_rfl) rfl ?_;intro HQ HS W1 HM1;replace HM:=HM1;clear HM1)|(refine gGP ?_;first|refine gp (p_move rfl) ?_|(refine gGB ?_;first|refine gp (p_lss rfl rfl) ?_|refine gp (p_add rfl rfl (by exact wr (by omega) (by omega))) ?_)|refine gp (p_field rfl (by simp only [Nat.reduceAdd];rfl)) ?_|refine gp (p_build rfl) ?_|refine gp (p_nil rfl) ?_)|(refine gGV ?_;refine gv (p_load rfl) ?_)|(refine gL ?_;first|refine s_gp rfl rfl ?_|(refine gCall ?_;(refine s_fn rfl rfl ?_;(go_at_call 78;have HM2:=HM.nil tSlot 91;refine (holdM z jz _ ⟨7,0,m.frm,m.ballot,z.dk + 1,0,⟨#[]⟩,[]⟩ (none,0) (by exact pk_hold HM2)).mono ?_;clear HM2;rintro e W1 ⟨j2,rfl,HM1⟩;refine ⟨_,rfl,?_⟩;replace HM:=HM1;clear HM1;simp only [boxR,partRcd,List.cons_append,List.nil_append] at HM)))|refine l_nil ?_)|(refine gC ?_;first|refine c_seq ?_|refine c_yes rfl (by (simp;omega)) ?_)|(refine gN ?_;first|refine n_then ?_|refine d_back (by exact HM) ?_|refine d_backT ?_)|(refine gD ?_;first|refine d_next rfl ?_|refine d_done ?_)|(refine gO ?_;first|refine d_gp HQ HS rfl ?_|refine d_gv HQ HS rfl ?_|refine d_one ?_|refine d_last ?_)|(refine gT ?_;refine d_doneT ?_))
      exact n_mid (beat2 z m,j2) (by repeat (first|exact trivial|refine And.intro (by first|rfl|exact look_int rfl (by omega)) ?_)) ⟨rfl,by rw [e];exact pk_boxr HM⟩
    · have e : beat2 z m = z:=if_neg t1
      repeat (first|(refine gR ?_;refine d_start [] [(0,0),(0,1),(0,2),(0,4),(1,3),(1,5),(0,6)] HM (by kernel_rfl) (by kernel_rfl) (by repeat (first|exact qp_body|refine qp_then ?_|refine qp_block ?_)) (by kernel_rfl) rfl ?_;intro HQ HS W1 HM1;replace HM:=HM1;clear HM1)|(refine gGP ?_;first|refine gp (p_move rfl) ?_|(refine gGB ?_;refine gp (p_lss rfl rfl) ?_)|refine gp (p_field rfl (by simp only [Nat.reduceAdd];rfl)) ?_|refine gp (p_nil rfl) ?_)|(refine gGV ?_;refine gv (p_load rfl) ?_)|(refine gC ?_;first|refine c_seq ?_|refine c_skip ?_|refine c_no rfl (by (simp;omega)) ?_)|(refine gN ?_;refine n_then ?_)|(refine gD ?_;first|refine d_next rfl ?_|refine d_done ?_)|(refine gO ?_;first|refine d_gp HQ HS rfl ?_|refine d_gv HQ HS rfl ?_))
      exact n_mid (z,jz) (by repeat (first|exact trivial|refine And.intro (by first|rfl|exact look_int rfl (by omega)) ?_)) ⟨e.symm,by exact pk_boxr HM⟩
  clear HM
  subst hR
  rintro ⟨q,jq⟩ W1 ⟨hq,HM⟩
  dsimp only at hq HM ⊢
  rw [← hq]
  rw [← hq] at hwl
  clear hq hzd
  simp only [boxR,partRcd,List.cons_append,List.nil_append] at HM
  repeat (first|(refine gGP ?_;first|refine gp (p_move rfl) ?_|refine gp (p_field rfl (by simp only [Nat.reduceAdd];rfl)) ?_|refine gp (p_len rfl) ?_)|(refine gGV ?_;refine gv (p_load rfl) ?_)|(refine gL ?_;first|refine s_gp rfl rfl ?_|refine s_gv HM rfl ?_|refine s_pv (p_nil rfl) rfl ?_|refine l_nil ?_)|(refine gC ?_;first|refine c_seq ?_|refine c_region ?_|refine c_block ?_)|(refine gN ?_;refine n_then ?_))
  have HM0:=(show Mem w0 _ (boxR 91 40 9 3 66 31 gr q jq ++ _) from pk_boxr HM)
  clear HM
  refine c_loop (σ:=Nat × Rcd) (fun s=>[(0,.pointer (some ⟨gr,0,none⟩)),(3,.pointer (some ⟨g,0,none⟩)),(255,.slice jq.a3.1 q.wishes.length jq.a3.2),(256,.int .i64 q.wishes.length),(257,.int .i64 s.1)]) (fun s W1=>s.1 ≤ q.wishes.length ∧ wishedL m.frm (q.wishes.drop s.1) s.2 = wishedL m.frm q.wishes q ∧ s.2.wishes = q.wishes ∧ ∃ j,j.a3 = jq.a3 ∧ Mem w0 W1 (boxR 91 40 9 3 66 31 gr s.2 j ++ _)) (fun s=>q.wishes.length - s.1) (0,q) (by repeat (first|exact trivial|refine And.intro (by first|rfl|exact look_int rfl (by omega)) ?_)) ⟨Nat.zero_le _,rfl,rfl,jq,rfl,HM0⟩ ?_
  clear HM0
  rintro ⟨k,u⟩ W1 ⟨hk,hl,hw,ju,hj,HM⟩
  dsimp only at hk hl hw HM ⊢
  simp only [boxR,partRcd,List.cons_append,List.nil_append] at HM
  have hwlen : q.wishes.length = u.wishes.length:=by rw [hw]
  rw [hwlen] at hk hwl
  rw [← hj]
  simp only [hwlen]
  by_cases hlt : k < u.wishes.length
  · have hlt2 : k < q.wishes.length:=by rw [← hw];exact hlt
    have hst : wishedL m.frm (q.wishes.drop (k + 1)) (holdL u ⟨8,0,m.frm,0,0,0,rd tStr u.wishes k,[]⟩) = wishedL m.frm q.wishes q:=by
      rw [← hl,List.drop_eq_getElem_cons hlt2,wishedL,rd_at hlt];simp only [hw]
    have hst2 : (holdL u ⟨8,0,m.frm,0,0,0,rd tStr u.wishes k,[]⟩).wishes = q.wishes:=by rw [← hw];unfold holdL;split <;> rfl
    repeat (first|(refine gGP ?_;first|refine gp (p_move rfl) ?_|refine gp (p_assign rfl) ?_|(refine gGB ?_;first|refine gp (p_lss rfl rfl) ?_|refine gp (p_add rfl rfl (by exact wr (by omega) (by omega))) ?_)|refine gp (p_field rfl (by simp only [Nat.reduceAdd];rfl)) ?_|refine gp (p_indexo HM rfl (by first|with_reducible rfl|omega) rfl (by omega) (by omega)) ?_|refine gp (p_build rfl) ?_)|(refine gGV ?_;first|refine gv (p_load rfl) ?_|refine gv (p_loado rfl rfl (by omega) (by omega) rfl) ?_)|(refine gL ?_;first|refine s_gp rfl rfl ?_|refine s_gv HM rfl ?_|(refine gCall ?_;(refine s_fn rfl rfl ?_;(go_at_call 78;have HM2:=HM.nil tSlot 91;refine (holdM2 u ju gr ⟨8,0,m.frm,0,0,0,rd tStr u.wishes k,[]⟩ (none,0) (by exact pk_hold HM2)).mono ?_;clear HM2;rintro e W1 ⟨j3,h3,rfl,HM1⟩;refine ⟨_,rfl,?_⟩;replace HM:=HM1;clear HM1;simp only [boxR,partRcd,List.cons_append,List.nil_append] at HM)))|refine l_nil ?_)|(refine gC ?_;first|refine c_seq ?_|refine c_region ?_|refine c_block ?_|refine c_skip ?_|refine c_yes rfl (by (simp;omega)) ?_)|(refine gN ?_;first|refine n_then ?_|refine n_block ?_))
    rw [← hwlen] at *
    exact n_round (k + 1,holdL u ⟨8,0,m.frm,0,0,0,rd tStr u.wishes k,[]⟩) (by repeat (first|exact trivial|refine And.intro (by first|rfl|exact look_int rfl (by omega)) ?_)) ⟨by dsimp only;omega,hst,hst2,j3,by rw [h3,hj],by exact pk_boxr HM⟩ (by dsimp only;omega)
  · rw [List.drop_eq_nil_of_le (by omega)] at hl
    rw [← hl]
    repeat (first|(refine gGP ?_;(refine gGB ?_;refine gp (p_lss rfl rfl) ?_))|(refine gL ?_;first|refine s_gp rfl rfl ?_|refine l_nil ?_)|(refine gC ?_;first|refine c_seq ?_|refine c_region ?_|refine c_exit ?_|refine c_no rfl (by (simp;omega)) ?_)|(refine gN ?_;first|refine n_then ?_|refine n_block ?_|refine x_then ?_|refine x_here ?_))
    exact end_none rfl ⟨ju,rfl,by simp only [wishedL,boxR,partRcd,List.cons_append,List.nil_append];exact HM.sb⟩
end Go.Proofs.YtampmicahnnebaaGreat.Sp
namespace Go.Proofs.YtampmicahnnebaaGreat.Sp
open Go Go.RowKit
set_option maxRecDepth 10000
set_option maxHeartbeats 2000000
variable {w0 W : World} {L : List Asn}
theorem takePrepM (x : Rcd) (i : AtRcd) (gr : Nat) (m : Msg) (am : At) (hv : VR x) (hu : x.up = true) (hm : MsgP m x.of) (ht : m.to = x.number) (hk : m.kind = 1) (HM : Mem w0 W (boxR 91 40 9 3 66 31 gr x i ++ L)) : Calls Tryz.prog 55 #[.pointer (some ⟨gr,0,none⟩),.agg (encMsg m am).toArray] W fun e W'=>∃ j,e = .returned (.tuple #[]) ∧ Mem w0 W' (boxR 91 40 9 3 66 31 gr (prepL x m) j ++ L):=by
  refine enter Tryz.func55 rfl Tryz.ntmps55 [(0,_),(1,.agg (encMsg m am).toArray)] rfl ⟨rfl,rfl,trivial⟩ ?_
  unfold encMsg
  simp only [boxR,partRcd,List.cons_append,List.nil_append] at HM
  by_cases c1 : m.ballot ≤ x.dp
  · have e : prepL x m = holdL x ⟨9,0,m.frm,x.dp,0,0,⟨#[]⟩,[]⟩:=if_pos c1
    rw [e]
    repeat (first|(refine gR ?_;refine d_start [] [(0,0),(0,1),(0,2),(1,3),(0,4),(0,5),(0,6),(0,8),(0,9),(0,10),(1,7),(1,11),(0,12),(0,13)] HM (by kernel_rfl) (by kernel_rfl) (by repeat (first|exact qp_body|refine qp_then ?_|refine qp_block ?_)) (by kernel_rfl) rfl ?_;intro HQ HS W1 HM1;replace HM:=HM1;clear HM1)|(refine gR ?_;refine d_start (id:=5) [] [(0,0),(0,2),(0,3),(0,4),(1,1),(1,5),(0,6)] HM (by kernel_rfl) (by kernel_rfl) (by repeat (first|exact qp_body|refine qp_then ?_|refine qp_block ?_)) (by kernel_rfl) rfl ?_;intro HQ HS W1 HM1;replace HM:=HM1;clear HM1)|(refine gGP ?_;first|refine gp (p_move rfl) ?_|refine gp (p_assign rfl) ?_|(refine gGB ?_;first|refine gp (p_eql rfl rfl) ?_|refine gp (p_neq rfl rfl) ?_|refine gp (p_leq rfl rfl) ?_)|refine gp (p_field rfl (by simp only [Nat.reduceAdd];rfl)) ?_|refine gp (p_not rfl) ?_|refine gp (p_pick0 rfl (by first|rfl|(simp;omega)) rfl) ?_|refine gp (p_nil rfl) ?_)|(refine gGV ?_;refine gv (p_load rfl) ?_)|(refine gL ?_;first|refine s_gp rfl rfl ?_|refine s_gv HM rfl ?_|refine s_pv (p_nil rfl) rfl ?_|(refine gCall ?_;(refine s_fn rfl rfl ?_;(go_at_call 92;refine (refuseM x i gr m.frm (by exact pk_boxr HM)).mono ?_;rintro e W1 ⟨j2,rfl,HM1⟩;refine ⟨_,rfl,?_⟩;replace HM:=HM1;clear HM1;simp only [boxR,partRcd,List.cons_append,List.nil_append] at HM)))|(refine s_box HM rfl rfl ?_;clear HM;intro g W1 HM)|refine l_nil ?_)|(refine gC ?_;first|refine c_seq ?_|refine c_region ?_|refine c_block ?_|refine c_skip ?_|refine c_ret ?_|refine c_yes rfl (by (simp;omega)) ?_|refine c_no rfl (by (simp;omega)) ?_)|(refine gN ?_;first|refine n_then ?_|refine r_then ?_|refine r_block ?_)|(refine gD ?_;first|refine d_next rfl ?_|refine d_done ?_)|(refine gO ?_;first|refine d_gp HQ HS rfl ?_|refine d_gv HQ HS rfl ?_|refine d_gpg HQ HS rfl rfl rfl (by first|rfl|(simp;omega)) rfl ?_|refine d_gvg HQ HS rfl rfl rfl (by (simp;omega)) rfl ?_))
    exact ret_none rfl ⟨j2,rfl,by simp only [boxR,partRcd,List.cons_append,List.nil_append];exact HM.sb⟩
  · have e : prepL x m = holdL (followL x m.ballot) ⟨2,0,m.frm,m.ballot,0,0,⟨#[]⟩,(followL x m.ballot).ds⟩:=if_neg c1
    have hds : (followL x m.ballot).ds = x.ds:=by unfold followL;split <;> rfl
    have hd:=hv.disk.slots.1
    rw [← hds] at hd
    rw [e]
    repeat (first|(refine gR ?_;refine d_start [11] [(0,0),(0,1),(0,3),(0,5),(0,6),(0,7),(1,2),(1,4),(1,8),(2,9),(2,10),(3,11)] HM (by kernel_rfl) (by kernel_rfl) (by repeat (first|exact qp_body|refine qp_then ?_|refine qp_block ?_)) (by kernel_rfl) rfl ?_;intro HQ HS W1 HM1;replace HM:=HM1;clear HM1)|(refine gR ?_;refine d_start [] [(0,0),(0,1),(0,2),(1,3),(0,4),(0,5),(0,6),(0,8),(0,9),(0,10),(1,7),(1,11),(0,12),(0,13)] HM (by kernel_rfl) (by kernel_rfl) (by repeat (first|exact qp_body|refine qp_then ?_|refine qp_block ?_)) (by kernel_rfl) rfl ?_;intro HQ HS W1 HM1;replace HM:=HM1;clear HM1)|(refine gR ?_;refine d_start (id:=5) [] [(0,0),(0,2),(0,3),(0,4),(1,1),(1,5),(0,6)] HM (by kernel_rfl) (by kernel_rfl) (by repeat (first|exact qp_body|refine qp_then ?_|refine qp_block ?_)) (by kernel_rfl) rfl ?_;intro HQ HS W1 HM1;replace HM:=HM1;clear HM1)|(refine gGP ?_;first|refine gp (p_move rfl) ?_|refine gp (p_assign rfl) ?_|(refine gGB ?_;first|refine gp (p_eql rfl rfl) ?_|refine gp (p_neq rfl rfl) ?_|refine gp (p_leq rfl rfl) ?_)|refine gp (p_field rfl (by simp only [Nat.reduceAdd];rfl)) ?_|refine gp (p_not rfl) ?_|refine gp (p_build rfl) ?_|refine gp (p_pick0 rfl (by first|rfl|(simp;omega)) rfl) ?_|refine gp (p_nil rfl) ?_)|(refine gGV ?_;refine gv (p_load rfl) ?_)|(refine gL ?_;first|refine s_gp rfl rfl ?_|refine s_gv HM rfl ?_|refine s_pv (p_nil rfl) rfl ?_|(refine gCall ?_;(refine s_fn rfl rfl ?_;first|(go_at_call 93;refine (followM x i gr m.ballot (by exact pk_boxr HM)).mono ?_;rintro e W1 ⟨j2,rfl,HM1⟩;refine ⟨_,rfl,?_⟩;replace HM:=HM1;clear HM1;simp only [boxR,partRcd,List.cons_append,List.nil_append] at HM;clear e hds c1;generalize followL x m.ballot = y at *)|(go_at_call 65;obtain ⟨F1,hF1⟩:=HM.own (A:=j2.a1.1);refine (cloneSlots_c (ro_slots hF1) (by omega) (Mem.start _)).mono ?_;clear hF1;rintro e W1 ⟨A3,c3,rfl,HM1⟩;refine ⟨_,rfl,?_⟩;replace HM:=HM.join HM1;clear HM1;simp only [List.cons_append,List.nil_append] at HM)|(go_at_call 78;refine (holdM y j2 gr ⟨2,0,m.frm,m.ballot,0,0,⟨#[]⟩,y.ds⟩ (A3,c3) (by exact pk_hold HM)).mono ?_;rintro e W1 ⟨j3,rfl,HM1⟩;refine ⟨_,rfl,?_⟩;replace HM:=HM1;clear HM1;simp only [boxR,partRcd,List.cons_append,List.nil_append] at HM)))|(refine s_box HM rfl rfl ?_;clear HM;intro g W1 HM)|refine l_nil ?_)|(refine gC ?_;first|refine c_seq ?_|refine c_region ?_|refine c_block ?_|refine c_skip ?_|refine c_yes rfl (by (simp;omega)) ?_|refine c_no rfl (by (simp;omega)) ?_)|(refine gN ?_;first|refine n_then ?_|refine n_block ?_|refine d_back (by exact HM.drop) ?_|refine d_backT ?_)|(refine gD ?_;first|refine d_next rfl ?_|refine d_done ?_)|(refine gO ?_;first|refine d_gp HQ HS rfl ?_|refine d_gv HQ HS rfl ?_|refine d_one ?_|refine d_last ?_|refine d_gpg HQ HS rfl rfl rfl (by first|rfl|(simp;omega)) rfl ?_|refine d_gvg HQ HS rfl rfl rfl (by (simp;omega)) rfl ?_)|(refine gT ?_;refine d_doneT ?_))
    exact end_none rfl ⟨j3,rfl,by simp only [boxR,partRcd,List.cons_append,List.nil_append];exact HM.sb⟩
theorem takePromisedM (x : Rcd) (i : AtRcd) (gr : Nat) (m : Msg) (am : At) (hv : VR x) (hu : x.up = true) (hm : MsgP m x.of) (ht : m.to = x.number) (hk : m.kind = 2) {b : Bool} (hb : ∀ W',Mem w0 W' L → RoRow (rSlot b) W' am.1 m.slots) (HM : Mem w0 W (boxR 91 40 9 3 66 31 gr x i ++ L)) : Calls Tryz.prog 55 #[.pointer (some ⟨gr,0,none⟩),.agg (encMsg m am).toArray] W fun e W'=>∃ j,e = .returned (.tuple #[]) ∧ Mem w0 W' (boxR 91 40 9 3 66 31 gr (if x.trying = true ∧ m.ballot = x.ballot then promL x m.frm m.slots else x) j ++ L):=by
  refine enter Tryz.func55 rfl Tryz.ntmps55 [(0,_),(1,.agg (encMsg m am).toArray)] rfl ⟨rfl,rfl,trivial⟩ ?_
  unfold encMsg
  simp only [boxR,partRcd,List.cons_append,List.nil_append] at HM
  by_cases c1 : x.trying = true
  rotate_left
  · rw [if_neg (fun h=>c1 h.1)]
    simp only [Bool.not_eq_true] at c1
    repeat (first|(refine gR ?_;refine d_start [] [(0,0),(0,1),(0,2),(1,3),(0,4),(0,5),(0,6),(0,8),(0,9),(0,10),(1,7),(1,11),(0,12),(0,13)] HM (by kernel_rfl) (by kernel_rfl) (by repeat (first|exact qp_body|refine qp_then ?_|refine qp_block ?_)) (by kernel_rfl) rfl ?_;intro HQ HS W1 HM1;replace HM:=HM1;clear HM1)|(refine gR ?_;refine d_start [] [(0,0),(0,1),(0,2),(1,3),(0,4),(0,5),(0,7),(0,8),(0,9),(1,6),(1,10),(0,11),(0,12)] HM (by kernel_rfl) (by kernel_rfl) (by repeat (first|exact qp_body|refine qp_then ?_|refine qp_block ?_)) (by kernel_rfl) rfl ?_;intro HQ HS W1 HM1;replace HM:=HM1;clear HM1)|(refine gGP ?_;first|refine gp (p_move rfl) ?_|refine gp (p_assign rfl) ?_|(refine gGB ?_;first|refine gp (p_eql rfl rfl) ?_|refine gp (p_neq rfl rfl) ?_)|refine gp (p_field rfl (by simp only [Nat.reduceAdd];rfl)) ?_|refine gp (p_not rfl) ?_|refine gp (p_pick0 rfl (by first|rfl|assumption|(simp;omega)) rfl) ?_|refine gp (p_nil rfl) ?_)|(refine gGV ?_;refine gv (p_load rfl) ?_)|(refine gL ?_;first|refine s_gp rfl rfl ?_|refine s_gv HM rfl ?_|refine s_pv (p_nil rfl) rfl ?_|(refine s_box HM rfl rfl ?_;clear HM;intro g W1 HM)|refine l_nil ?_)|(refine gC ?_;first|refine c_seq ?_|refine c_region ?_|refine c_block ?_|refine c_skip ?_|refine c_yes rfl (by (simp;omega)) ?_|refine c_no rfl (by first|rfl|(simp;omega)) ?_)|(refine gN ?_;first|refine n_then ?_|refine n_block ?_)|(refine gD ?_;first|refine d_next rfl ?_|refine d_done ?_)|(refine gO ?_;first|refine d_gp HQ HS rfl ?_|refine d_gv HQ HS rfl ?_|refine d_gpg HQ HS rfl rfl rfl (by first|rfl|(simp;omega)) rfl ?_|refine d_gvg HQ HS rfl rfl rfl (by first|rfl|(simp;omega)) rfl ?_|refine d_off (.inl rfl) HQ HS rfl rfl rfl rfl (by assumption) rfl rfl ?_|refine d_off (.inr rfl) HQ HS rfl rfl rfl rfl (by assumption) rfl rfl ?_))
    exact end_none rfl ⟨i,rfl,by simp only [boxR,partRcd,List.cons_append,List.nil_append];exact HM.sb⟩
  by_cases c2 : m.ballot = x.ballot
  rotate_left
  · rw [if_neg (fun h=>c2 h.2)]
    repeat (first|(refine gR ?_;refine d_start [] [(0,0),(0,1),(0,2),(1,3),(0,4),(0,5),(0,6),(0,8),(0,9),(0,10),(1,7),(1,11),(0,12),(0,13)] HM (by kernel_rfl) (by kernel_rfl) (by repeat (first|exact qp_body|refine qp_then ?_|refine qp_block ?_)) (by kernel_rfl) rfl ?_;intro HQ HS W1 HM1;replace HM:=HM1;clear HM1)|(refine gR ?_;refine d_start [] [(0,0),(0,1),(0,2),(1,3),(0,4),(0,5),(0,7),(0,8),(0,9),(1,6),(1,10),(0,11),(0,12)] HM (by kernel_rfl) (by kernel_rfl) (by repeat (first|exact qp_body|refine qp_then ?_|refine qp_block ?_)) (by kernel_rfl) rfl ?_;intro HQ HS W1 HM1;replace HM:=HM1;clear HM1)|(refine gGP ?_;first|refine gp (p_move rfl) ?_|refine gp (p_assign rfl) ?_|(refine gGB ?_;first|refine gp (p_eql rfl rfl) ?_|refine gp (p_neq rfl rfl) ?_)|refine gp (p_field rfl (by simp only [Nat.reduceAdd];rfl)) ?_|refine gp (p_not rfl) ?_|refine gp (p_pick1 rfl (by first|rfl|assumption) rfl) ?_|refine gp (p_pick0 rfl (by first|rfl|(simp;omega)) rfl) ?_|refine gp (p_nil rfl) ?_)|(refine gGV ?_;refine gv (p_load rfl) ?_)|(refine gL ?_;first|refine s_gp rfl rfl ?_|refine s_gv HM rfl ?_|refine s_pv (p_nil rfl) rfl ?_|(refine s_box HM rfl rfl ?_;clear HM;intro g W1 HM)|refine l_nil ?_)|(refine gC ?_;first|refine c_seq ?_|refine c_region ?_|refine c_block ?_|refine c_skip ?_|refine c_yes rfl (by (simp;omega)) ?_|refine c_no rfl (by (simp;omega)) ?_)|(refine gN ?_;first|refine n_then ?_|refine n_block ?_)|(refine gD ?_;first|refine d_next rfl ?_|refine d_done ?_)|(refine gO ?_;first|refine d_gp HQ HS rfl ?_|refine d_gv HQ HS rfl ?_|refine d_gpg HQ HS rfl rfl rfl (by first|rfl|assumption|(simp;omega)) rfl ?_|refine d_gvg HQ HS rfl rfl rfl (by first|assumption|(simp;omega)) rfl ?_))
    exact end_none rfl ⟨i,rfl,by simp only [boxR,partRcd,List.cons_append,List.nil_append];exact HM.sb⟩
  rw [if_pos ⟨c1,c2⟩]
  have h0:=hv.disk.k0
  have h1:=nums_len hv.yes hv.of5
  have h2:=hv.best.1
  have h3:=hm.slots.1
  have h4:=hv.disk.slots.1
  repeat (first|(refine gR ?_;refine d_start [] [(0,0),(0,1),(0,2),(1,3),(0,4),(0,5),(0,6),(0,8),(0,9),(0,10),(1,7),(1,11),(0,12),(0,13)] HM (by kernel_rfl) (by kernel_rfl) (by repeat (first|exact qp_body|refine qp_then ?_|refine qp_block ?_)) (by kernel_rfl) rfl ?_;intro HQ HS W1 HM1;replace HM:=HM1;clear HM1)|(refine gR ?_;refine d_start [] [(0,0),(0,1),(0,2),(1,3),(0,4),(0,5),(0,7),(0,8),(0,9),(1,6),(1,10),(0,11),(0,12)] HM (by kernel_rfl) (by kernel_rfl) (by repeat (first|exact qp_body|refine qp_then ?_|refine qp_block ?_)) (by kernel_rfl) rfl ?_;intro HQ HS W1 HM1;replace HM:=HM1;clear HM1)|(refine gGP ?_;first|refine gp (p_move rfl) ?_|refine gp (p_assign rfl) ?_|(refine gGB ?_;first|refine gp (p_eql rfl rfl) ?_|refine gp (p_neq rfl rfl) ?_)|refine gp (p_field rfl (by simp only [Nat.reduceAdd];rfl)) ?_|refine gp (p_not rfl) ?_|refine gp (p_pick1 rfl (by first|rfl|assumption) rfl) ?_|refine gp (p_pick0 rfl (by first|rfl|(simp;omega)) rfl) ?_|refine gp (p_nil rfl) ?_)|(refine gGV ?_;refine gv (p_load rfl) ?_)|(refine gL ?_;first|refine s_gp rfl rfl ?_|refine s_gv HM rfl ?_|refine s_pv (p_nil rfl) rfl ?_|(refine gCall ?_;(refine s_fn rfl rfl ?_;(go_at_call 68;have HMp:=(show Mem w0 _ (boxR 91 40 9 3 66 31 gr x i ++ _) from pk_boxr HM);refine (promM x i gr m.frm (fun W' h=>hb W' (by exact h.sb)) h0 hv.yes.sorted (by omega) (by omega) (by omega) (by omega) HMp).mono ?_;clear HMp;rintro e W1 ⟨j2,rfl,HM1⟩;refine ⟨_,rfl,?_⟩;replace HM:=HM1;clear HM1;simp only [boxR,partRcd,List.cons_append,List.nil_append] at HM)))|(refine s_box HM rfl rfl ?_;clear HM;intro g W1 HM)|refine l_nil ?_)|(refine gC ?_;first|refine c_seq ?_|refine c_region ?_|refine c_block ?_|refine c_skip ?_|refine c_yes rfl (by (simp;omega)) ?_|refine c_no rfl (by (simp;omega)) ?_)|(refine gN ?_;first|refine n_then ?_|refine n_block ?_)|(refine gD ?_;first|refine d_next rfl ?_|refine d_done ?_)|(refine gO ?_;first|refine d_gp HQ HS rfl ?_|refine d_gv HQ HS rfl ?_|refine d_gpg HQ HS rfl rfl rfl (by first|rfl|assumption|(simp;omega)) rfl ?_|refine d_gvg HQ HS rfl rfl rfl (by first|assumption|(simp;omega)) rfl ?_))
  exact end_none rfl ⟨j2,rfl,by simp only [boxR,partRcd,List.cons_append,List.nil_append];exact HM.sb⟩
theorem takeAcceptM (x : Rcd) (i : AtRcd) (gr : Nat) (m : Msg) (am : At) (hv : VR x) (hu : x.up = true) (hm : MsgP m x.of) (ht : m.to = x.number) (hk : m.kind = 3) (HM : Mem w0 W (boxR 91 40 9 3 66 31 gr x i ++ L)) : Calls Tryz.prog 55 #[.pointer (some ⟨gr,0,none⟩),.agg (encMsg m am).toArray] W fun e W'=>∃ j,e = .returned (.tuple #[]) ∧ Mem w0 W' (boxR 91 40 9 3 66 31 gr (accL x m) j ++ L):=by
  refine enter Tryz.func55 rfl Tryz.ntmps55 [(0,_),(1,.agg (encMsg m am).toArray)] rfl ⟨rfl,rfl,trivial⟩ ?_
  unfold encMsg
  simp only [boxR,partRcd,List.cons_append,List.nil_append] at HM
  by_cases c1 : m.ballot < x.dp
  · have e : accL x m = holdL x ⟨9,0,m.frm,x.dp,0,0,⟨#[]⟩,[]⟩:=if_pos c1
    rw [e]
    repeat (first|(refine gR ?_;refine d_start [] [(0,0),(0,1),(0,2),(1,3),(0,4),(0,5),(0,6),(0,8),(0,9),(0,10),(1,7),(1,11),(0,12),(0,13)] HM (by kernel_rfl) (by kernel_rfl) (by repeat (first|exact qp_body|refine qp_then ?_|refine qp_block ?_)) (by kernel_rfl) rfl ?_;intro HQ HS W1 HM1;replace HM:=HM1;clear HM1)|(refine gR ?_;refine d_start (id:=13) [] [(0,0),(0,2),(0,3),(0,4),(1,1),(1,5),(0,6)] HM (by kernel_rfl) (by kernel_rfl) (by repeat (first|exact qp_body|refine qp_then ?_|refine qp_block ?_)) (by kernel_rfl) rfl ?_;intro HQ HS W1 HM1;replace HM:=HM1;clear HM1)|(refine gGP ?_;first|refine gp (p_move rfl) ?_|refine gp (p_assign rfl) ?_|(refine gGB ?_;first|refine gp (p_lss rfl rfl) ?_|refine gp (p_eql rfl rfl) ?_|refine gp (p_neq rfl rfl) ?_)|refine gp (p_field rfl (by simp only [Nat.reduceAdd];rfl)) ?_|refine gp (p_not rfl) ?_|refine gp (p_pick0 rfl (by first|rfl|(simp;omega)) rfl) ?_|refine gp (p_nil rfl) ?_)|(refine gGV ?_;refine gv (p_load rfl) ?_)|(refine gL ?_;first|refine s_gp rfl rfl ?_|refine s_gv HM rfl ?_|refine s_pv (p_nil rfl) rfl ?_|(refine gCall ?_;(refine s_fn rfl rfl ?_;(go_at_call 92;refine (refuseM x i gr m.frm (by exact pk_boxr HM)).mono ?_;rintro e W1 ⟨j2,rfl,HM1⟩;refine ⟨_,rfl,?_⟩;replace HM:=HM1;clear HM1;simp only [boxR,partRcd,List.cons_append,List.nil_append] at HM)))|(refine s_box HM rfl rfl ?_;clear HM;intro g W1 HM)|refine l_nil ?_)|(refine gC ?_;first|refine c_seq ?_|refine c_region ?_|refine c_block ?_|refine c_skip ?_|refine c_ret ?_|refine c_yes rfl (by (simp;omega)) ?_|refine c_no rfl (by (simp;omega)) ?_)|(refine gN ?_;first|refine n_then ?_|refine r_then ?_|refine r_block ?_)|(refine gD ?_;first|refine d_next rfl ?_|refine d_done ?_)|(refine gO ?_;first|refine d_gp HQ HS rfl ?_|refine d_gv HQ HS rfl ?_|refine d_gpg HQ HS rfl rfl rfl (by first|rfl|(simp;omega)) rfl ?_|refine d_gvg HQ HS rfl rfl rfl (by (simp;omega)) rfl ?_))
    exact ret_none rfl ⟨j2,rfl,by simp only [boxR,partRcd,List.cons_append,List.nil_append];exact HM.sb⟩
  by_cases c2 : m.index < 1
  · have e : accL x m = x:=by rw [accL,if_neg c1,if_pos (.inl c2)]
    rw [e]
    repeat (first|(refine gR ?_;refine d_start [] [(0,0),(0,1),(0,2),(1,3),(0,4),(0,5),(0,6),(0,8),(0,9),(0,10),(1,7),(1,11),(0,12),(0,13)] HM (by kernel_rfl) (by kernel_rfl) (by repeat (first|exact qp_body|refine qp_then ?_|refine qp_block ?_)) (by kernel_rfl) rfl ?_;intro HQ HS W1 HM1;replace HM:=HM1;clear HM1)|(refine gR ?_;refine d_start (id:=13) [] [(0,0),(0,2),(0,3),(0,4),(1,1),(1,5),(0,6)] HM (by kernel_rfl) (by kernel_rfl) (by repeat (first|exact qp_body|refine qp_then ?_|refine qp_block ?_)) (by kernel_rfl) rfl ?_;intro HQ HS W1 HM1;replace HM:=HM1;clear HM1)|(refine gR ?_;refine d_start [] [(0,0),(1,1),(0,2),(0,3),(0,4),(1,5),(0,6),(0,7),(0,8),(0,9),(0,11),(0,12),(0,13),(1,10),(1,14),(0,15),(0,16)] HM (by kernel_rfl) (by kernel_rfl) (by repeat (first|exact qp_body|refine qp_then ?_|refine qp_block ?_)) (by kernel_rfl) rfl ?_;intro HQ HS W1 HM1;replace HM:=HM1;clear HM1)|(refine gGP ?_;first|refine gp (p_move rfl) ?_|refine gp (p_assign rfl) ?_|(refine gGB ?_;first|refine gp (p_lss rfl rfl) ?_|refine gp (p_eql rfl rfl) ?_|refine gp (p_neq rfl rfl) ?_)|refine gp (p_field rfl (by simp only [Nat.reduceAdd];rfl)) ?_|refine gp (p_not rfl) ?_|refine gp (p_pick1 rfl (by first|rfl|(simp;omega)) rfl) ?_|refine gp (p_pick0 rfl (by first|rfl|(simp;omega)) rfl) ?_|refine gp (p_nil rfl) ?_)|(refine gGV ?_;refine gv (p_load rfl) ?_)|(refine gL ?_;first|refine s_gp rfl rfl ?_|refine s_gv HM rfl ?_|refine s_pv (p_nil rfl) rfl ?_|(refine s_box HM rfl rfl ?_;clear HM;intro g W1 HM)|refine l_nil ?_)|(refine gC ?_;first|refine c_seq ?_|refine c_region ?_|refine c_block ?_|refine c_skip ?_|refine c_ret ?_|refine c_yes rfl (by first|rfl|(simp;omega)) ?_|refine c_no rfl (by (simp;omega)) ?_)|(refine gN ?_;first|refine n_then ?_|refine r_then ?_|refine r_block ?_)|(refine gD ?_;first|refine d_next rfl ?_|refine d_done ?_)|(refine gO ?_;first|refine d_gp HQ HS rfl ?_|refine d_gv HQ HS rfl ?_|refine d_gpg HQ HS rfl rfl rfl (by first|rfl|(simp;omega)) rfl ?_|refine d_gvg HQ HS rfl rfl rfl (by first|rfl|(simp;omega)) rfl ?_|refine d_off (.inl rfl) HQ HS rfl rfl rfl rfl (by first|rfl|(simp;omega)) rfl rfl ?_|refine d_off (.inr rfl) HQ HS rfl rfl rfl rfl (by first|rfl|(simp;omega)) rfl rfl ?_))
    exact ret_none rfl ⟨i,rfl,by simp only [boxR,partRcd,List.cons_append,List.nil_append];exact HM.sb⟩
  by_cases c3 : m.ballot < 1
  · have e : accL x m = x:=by rw [accL,if_neg c1,if_pos (.inr (.inl c3))]
    rw [e]
    repeat (first|(refine gR ?_;refine d_start [] [(0,0),(0,1),(0,2),(1,3),(0,4),(0,5),(0,6),(0,8),(0,9),(0,10),(1,7),(1,11),(0,12),(0,13)] HM (by kernel_rfl) (by kernel_rfl) (by repeat (first|exact qp_body|refine qp_then ?_|refine qp_block ?_)) (by kernel_rfl) rfl ?_;intro HQ HS W1 HM1;replace HM:=HM1;clear HM1)|(refine gR ?_;refine d_start (id:=13) [] [(0,0),(0,2),(0,3),(0,4),(1,1),(1,5),(0,6)] HM (by kernel_rfl) (by kernel_rfl) (by repeat (first|exact qp_body|refine qp_then ?_|refine qp_block ?_)) (by kernel_rfl) rfl ?_;intro HQ HS W1 HM1;replace HM:=HM1;clear HM1)|(refine gR ?_;refine d_start [] [(0,0),(1,1),(0,2),(0,3),(0,4),(1,5),(0,6),(0,7),(0,8),(0,9),(0,11),(0,12),(0,13),(1,10),(1,14),(0,15),(0,16)] HM (by kernel_rfl) (by kernel_rfl) (by repeat (first|exact qp_body|refine qp_then ?_|refine qp_block ?_)) (by kernel_rfl) rfl ?_;intro HQ HS W1 HM1;replace HM:=HM1;clear HM1)|(refine gGP ?_;first|refine gp (p_move rfl) ?_|refine gp (p_assign rfl) ?_|(refine gGB ?_;first|refine gp (p_lss rfl rfl) ?_|refine gp (p_eql rfl rfl) ?_|refine gp (p_neq rfl rfl) ?_)|refine gp (p_field rfl (by simp only [Nat.reduceAdd];rfl)) ?_|refine gp (p_not rfl) ?_|refine gp (p_pick1 rfl (by first|rfl|(simp;omega)) rfl) ?_|refine gp (p_pick0 rfl (by first|rfl|(simp;omega)) rfl) ?_|refine gp (p_nil rfl) ?_)|(refine gGV ?_;refine gv (p_load rfl) ?_)|(refine gL ?_;first|refine s_gp rfl rfl ?_|refine s_gv HM rfl ?_|refine s_pv (p_nil rfl) rfl ?_|(refine s_box HM rfl rfl ?_;clear HM;intro g W1 HM)|refine l_nil ?_)|(refine gC ?_;first|refine c_seq ?_|refine c_region ?_|refine c_block ?_|refine c_skip ?_|refine c_ret ?_|refine c_yes rfl (by first|rfl|(simp;omega)) ?_|refine c_no rfl (by (simp;omega)) ?_)|(refine gN ?_;first|refine n_then ?_|refine r_then ?_|refine r_block ?_)|(refine gD ?_;first|refine d_next rfl ?_|refine d_done ?_)|(refine gO ?_;first|refine d_gp HQ HS rfl ?_|refine d_gv HQ HS rfl ?_|refine d_gpg HQ HS rfl rfl rfl (by first|rfl|(simp;omega)) rfl ?_|refine d_gvg HQ HS rfl rfl rfl (by first|rfl|(simp;omega)) rfl ?_|refine d_off (.inl rfl) HQ HS rfl rfl rfl rfl (by (simp;omega)) rfl rfl ?_|refine d_off (.inr rfl) HQ HS rfl rfl rfl rfl (by (simp;omega)) rfl rfl ?_))
    exact ret_none rfl ⟨i,rfl,by simp only [boxR,partRcd,List.cons_append,List.nil_append];exact HM.sb⟩
  by_cases c4 : m.frm = x.number
  · have e : accL x m = x:=by rw [accL,if_neg c1,if_pos (.inr (.inr c4))]
    rw [e]
    repeat (first|(refine gR ?_;refine d_start [] [(0,0),(0,1),(0,2),(1,3),(0,4),(0,5),(0,6),(0,8),(0,9),(0,10),(1,7),(1,11),(0,12),(0,13)] HM (by kernel_rfl) (by kernel_rfl) (by repeat (first|exact qp_body|refine qp_then ?_|refine qp_block ?_)) (by kernel_rfl) rfl ?_;intro HQ HS W1 HM1;replace HM:=HM1;clear HM1)|(refine gR ?_;refine d_start (id:=13) [] [(0,0),(0,2),(0,3),(0,4),(1,1),(1,5),(0,6)] HM (by kernel_rfl) (by kernel_rfl) (by repeat (first|exact qp_body|refine qp_then ?_|refine qp_block ?_)) (by kernel_rfl) rfl ?_;intro HQ HS W1 HM1;replace HM:=HM1;clear HM1)|(refine gR ?_;refine d_start [] [(0,0),(1,1),(0,2),(0,3),(0,4),(1,5),(0,6),(0,7),(0,8),(0,9),(0,11),(0,12),(0,13),(1,10),(1,14),(0,15),(0,16)] HM (by kernel_rfl) (by kernel_rfl) (by repeat (first|exact qp_body|refine qp_then ?_|refine qp_block ?_)) (by kernel_rfl) rfl ?_;intro HQ HS W1 HM1;replace HM:=HM1;clear HM1)|(refine gGP ?_;first|refine gp (p_move rfl) ?_|refine gp (p_assign rfl) ?_|(refine gGB ?_;first|refine gp (p_lss rfl rfl) ?_|refine gp (p_eql rfl rfl) ?_|refine gp (p_neq rfl rfl) ?_)|refine gp (p_field rfl (by simp only [Nat.reduceAdd];rfl)) ?_|refine gp (p_not rfl) ?_|refine gp (p_pick0 rfl (by first|rfl|(simp;omega)) rfl) ?_|refine gp (p_nil rfl) ?_)|(refine gGV ?_;refine gv (p_load rfl) ?_)|(refine gL ?_;first|refine s_gp rfl rfl ?_|refine s_gv HM rfl ?_|refine s_pv (p_nil rfl) rfl ?_|(refine s_box HM rfl rfl ?_;clear HM;intro g W1 HM)|refine l_nil ?_)|(refine gC ?_;first|refine c_seq ?_|refine c_region ?_|refine c_block ?_|refine c_skip ?_|refine c_ret ?_|refine c_yes rfl (by (simp;omega)) ?_|refine c_no rfl (by (simp;omega)) ?_)|(refine gN ?_;first|refine n_then ?_|refine r_then ?_|refine r_block ?_)|(refine gD ?_;first|refine d_next rfl ?_|refine d_done ?_)|(refine gO ?_;first|refine d_gp HQ HS rfl ?_|refine d_gv HQ HS rfl ?_|refine d_gpg HQ HS rfl rfl rfl (by first|rfl|(simp;omega)) rfl ?_|refine d_gvg HQ HS rfl rfl rfl (by (simp;omega)) rfl ?_))
    exact ret_none rfl ⟨i,rfl,by simp only [boxR,partRcd,List.cons_append,List.nil_append];exact HM.sb⟩
  have e : accL x m = holdL (acc1 (followL x m.ballot) m) ⟨4,0,m.frm,m.ballot,m.index,0,⟨#[]⟩,[]⟩:=by rw [accL,if_neg c1,if_neg (by omega)]
  have hds : (followL x m.ballot).ds = x.ds:=by unfold followL;split <;> rfl
  have hd:=hv.disk.slots.1
  have hix:=hm.index
  rw [← hds] at hd
  rw [e]
  by_cases c5 : (followL x m.ballot).dk < m.index
  · have e1 : acc1 (followL x m.ballot) m = setL (followL x m.ballot) m.index ⟨m.ballot,m.text⟩:=if_pos c5
    rw [e1]
    repeat (first|(refine gR ?_;refine d_start [] [(0,0),(0,1),(0,2),(1,3),(0,4),(0,5),(0,6),(0,8),(0,9),(0,10),(1,7),(1,11),(0,12),(0,13)] HM (by kernel_rfl) (by kernel_rfl) (by repeat (first|exact qp_body|refine qp_then ?_|refine qp_block ?_)) (by kernel_rfl) rfl ?_;intro HQ HS W1 HM1;replace HM:=HM1;clear HM1)|(refine gR ?_;refine d_start (id:=13) [] [(0,0),(0,2),(0,3),(0,4),(1,1),(1,5),(0,6)] HM (by kernel_rfl) (by kernel_rfl) (by repeat (first|exact qp_body|refine qp_then ?_|refine qp_block ?_)) (by kernel_rfl) rfl ?_;intro HQ HS W1 HM1;replace HM:=HM1;clear HM1)|(refine gR ?_;refine d_start [] [(0,0),(1,1),(0,2),(0,3),(0,4),(1,5),(0,6),(0,7),(0,8),(0,9),(0,11),(0,12),(0,13),(1,10),(1,14),(0,15),(0,16)] HM (by kernel_rfl) (by kernel_rfl) (by repeat (first|exact qp_body|refine qp_then ?_|refine qp_block ?_)) (by kernel_rfl) rfl ?_;intro HQ HS W1 HM1;replace HM:=HM1;clear HM1)|(refine gR ?_;refine d_start (id:=17) [] [(0,0),(0,2),(0,3),(0,4),(1,1),(1,5),(0,6)] HM (by kernel_rfl) (by kernel_rfl) (by repeat (first|exact qp_body|refine qp_then ?_|refine qp_block ?_)) (by kernel_rfl) rfl ?_;intro HQ HS W1 HM1;replace HM:=HM1;clear HM1)|(refine gGP ?_;first|refine gp (p_move rfl) ?_|refine gp (p_assign rfl) ?_|(refine gGB ?_;first|refine gp (p_lss rfl rfl) ?_|refine gp (p_eql rfl rfl) ?_|refine gp (p_neq rfl rfl) ?_|refine gp (p_gtr rfl rfl) ?_)|refine gp (p_field rfl (by simp only [Nat.reduceAdd];rfl)) ?_|refine gp (p_not rfl) ?_|refine gp (p_build rfl) ?_|refine gp (p_pick0 rfl (by first|rfl|(simp;omega)) rfl) ?_|refine gp (p_nil rfl) ?_)|(refine gGV ?_;refine gv (p_load rfl) ?_)|(refine gL ?_;first|refine s_gp rfl rfl ?_|refine s_gv HM rfl ?_|refine s_pv (p_nil rfl) rfl ?_|(refine gCall ?_;(refine s_fn rfl rfl ?_;first|(go_at_call 93;refine (followM x i gr m.ballot (by exact pk_boxr HM)).mono ?_;rintro e W1 ⟨j2,rfl,HM1⟩;refine ⟨_,rfl,?_⟩;replace HM:=HM1;clear HM1;simp only [boxR,partRcd,List.cons_append,List.nil_append] at HM;clear e hds e1;generalize followL x m.ballot = y at *)|(go_at_call 94;refine (slotM y j2 gr m.index ⟨m.ballot,m.text⟩ (by omega) (by omega) (by omega) (by exact pk_boxr HM)).mono ?_;rintro e W1 ⟨j3,rfl,HM1⟩;refine ⟨_,rfl,?_⟩;replace HM:=HM1;clear HM1;simp only [boxR,partRcd,List.cons_append,List.nil_append] at HM)|(go_at_call 78;have HM2:=HM.nil tSlot 91;refine (holdM (setL y m.index ⟨m.ballot,m.text⟩) j3 gr ⟨4,0,m.frm,m.ballot,m.index,0,⟨#[]⟩,[]⟩ (none,0) (by exact pk_hold HM2)).mono ?_;clear HM2;rintro e W1 ⟨j4,rfl,HM1⟩;refine ⟨_,rfl,?_⟩;replace HM:=HM1;clear HM1;simp only [boxR,partRcd,List.cons_append,List.nil_append] at HM)))|(refine s_box HM rfl rfl ?_;clear HM;intro g W1 HM)|refine l_nil ?_)|(refine gC ?_;first|refine c_seq ?_|refine c_region ?_|refine c_block ?_|refine c_skip ?_|refine c_yes rfl (by (simp;omega)) ?_|refine c_no rfl (by (simp;omega)) ?_)|(refine gN ?_;first|refine n_then ?_|refine n_block ?_)|(refine gD ?_;first|refine d_next rfl ?_|refine d_done ?_)|(refine gO ?_;first|refine d_gp HQ HS rfl ?_|refine d_gv HQ HS rfl ?_|refine d_gpg HQ HS rfl rfl rfl (by first|rfl|(simp;omega)) rfl ?_|refine d_gvg HQ HS rfl rfl rfl (by (simp;omega)) rfl ?_))
    exact end_none rfl ⟨j4,rfl,by simp only [boxR,partRcd,List.cons_append,List.nil_append];exact HM.sb⟩
  · have e1 : acc1 (followL x m.ballot) m = followL x m.ballot:=if_neg c5
    rw [e1]
    repeat (first|(refine gR ?_;refine d_start [] [(0,0),(0,1),(0,2),(1,3),(0,4),(0,5),(0,6),(0,8),(0,9),(0,10),(1,7),(1,11),(0,12),(0,13)] HM (by kernel_rfl) (by kernel_rfl) (by repeat (first|exact qp_body|refine qp_then ?_|refine qp_block ?_)) (by kernel_rfl) rfl ?_;intro HQ HS W1 HM1;replace HM:=HM1;clear HM1)|(refine gR ?_;refine d_start (id:=13) [] [(0,0),(0,2),(0,3),(0,4),(1,1),(1,5),(0,6)] HM (by kernel_rfl) (by kernel_rfl) (by repeat (first|exact qp_body|refine qp_then ?_|refine qp_block ?_)) (by kernel_rfl) rfl ?_;intro HQ HS W1 HM1;replace HM:=HM1;clear HM1)|(refine gR ?_;refine d_start [] [(0,0),(1,1),(0,2),(0,3),(0,4),(1,5),(0,6),(0,7),(0,8),(0,9),(0,11),(0,12),(0,13),(1,10),(1,14),(0,15),(0,16)] HM (by kernel_rfl) (by kernel_rfl) (by repeat (first|exact qp_body|refine qp_then ?_|refine qp_block ?_)) (by kernel_rfl) rfl ?_;intro HQ HS W1 HM1;replace HM:=HM1;clear HM1)|(refine gR ?_;refine d_start (id:=17) [] [(0,0),(0,2),(0,3),(0,4),(1,1),(1,5),(0,6)] HM (by kernel_rfl) (by kernel_rfl) (by repeat (first|exact qp_body|refine qp_then ?_|refine qp_block ?_)) (by kernel_rfl) rfl ?_;intro HQ HS W1 HM1;replace HM:=HM1;clear HM1)|(refine gGP ?_;first|refine gp (p_move rfl) ?_|refine gp (p_assign rfl) ?_|(refine gGB ?_;first|refine gp (p_lss rfl rfl) ?_|refine gp (p_eql rfl rfl) ?_|refine gp (p_neq rfl rfl) ?_|refine gp (p_gtr rfl rfl) ?_)|refine gp (p_field rfl (by simp only [Nat.reduceAdd];rfl)) ?_|refine gp (p_not rfl) ?_|refine gp (p_build rfl) ?_|refine gp (p_pick0 rfl (by first|rfl|(simp;omega)) rfl) ?_|refine gp (p_nil rfl) ?_)|(refine gGV ?_;refine gv (p_load rfl) ?_)|(refine gL ?_;first|refine s_gp rfl rfl ?_|refine s_gv HM rfl ?_|refine s_pv (p_nil rfl) rfl ?_|(refine gCall ?_;(refine s_fn rfl rfl ?_;first|(go_at_call 93;refine (followM x i gr m.ballot (by exact pk_boxr HM)).mono ?_;rintro e W1 ⟨j2,rfl,HM1⟩;refine ⟨_,rfl,?_⟩;replace HM:=HM1;clear HM1;simp only [boxR,partRcd,List.cons_append,List.nil_append] at HM;clear e hds e1;generalize followL x m.ballot = y at *)|(go_at_call 78;have HM2:=HM.nil tSlot 91;refine (holdM y j2 gr ⟨4,0,m.frm,m.ballot,m.index,0,⟨#[]⟩,[]⟩ (none,0) (by exact pk_hold HM2)).mono ?_;clear HM2;rintro e W1 ⟨j4,rfl,HM1⟩;refine ⟨_,rfl,?_⟩;replace HM:=HM1;clear HM1;simp only [boxR,partRcd,List.cons_append,List.nil_append] at HM)))|(refine s_box HM rfl rfl ?_;clear HM;intro g W1 HM)|refine l_nil ?_)|(refine gC ?_;first|refine c_seq ?_|refine c_region ?_|refine c_block ?_|refine c_skip ?_|refine c_yes rfl (by (simp;omega)) ?_|refine c_no rfl (by (simp;omega)) ?_)|(refine gN ?_;first|refine n_then ?_|refine n_block ?_)|(refine gD ?_;first|refine d_next rfl ?_|refine d_done ?_)|(refine gO ?_;first|refine d_gp HQ HS rfl ?_|refine d_gv HQ HS rfl ?_|refine d_gpg HQ HS rfl rfl rfl (by first|rfl|(simp;omega)) rfl ?_|refine d_gvg HQ HS rfl rfl rfl (by (simp;omega)) rfl ?_))
    exact end_none rfl ⟨j4,rfl,by simp only [boxR,partRcd,List.cons_append,List.nil_append];exact HM.sb⟩
end Go.Proofs.YtampmicahnnebaaGreat.Sp
namespace Go.Proofs.YtampmicahnnebaaGreat.Sp
open Go Go.RowKit
set_option maxRecDepth 10000
set_option maxHeartbeats 2000000
variable {w0 W : World} {L : List Asn}
theorem takeAcceptedM (x : Rcd) (i : AtRcd) (gr : Nat) (m : Msg) (am : At) (hv : VR x) (hu : x.up = true) (hm : MsgP m x.of) (ht : m.to = x.number) (hk : m.kind = 4) (HM : Mem w0 W (boxR 91 40 9 3 66 31 gr x i ++ L)) : Calls Tryz.prog 55 #[.pointer (some ⟨gr,0,none⟩),.agg (encMsg m am).toArray] W fun e W'=>∃ j,e = .returned (.tuple #[]) ∧ Mem w0 W' (boxR 91 40 9 3 66 31 gr (if x.lead = true ∧ m.ballot = x.ballot ∧ 0 < m.index then ackL x m.index m.frm else x) j ++ L):=by
  refine enter Tryz.func55 rfl Tryz.ntmps55 [(0,_),(1,.agg (encMsg m am).toArray)] rfl ⟨rfl,rfl,trivial⟩ ?_
  unfold encMsg
  simp only [boxR,partRcd,List.cons_append,List.nil_append] at HM
  by_cases c1 : x.lead = true
  rotate_left
  · rw [if_neg (fun h=>c1 h.1)]
    simp only [Bool.not_eq_true] at c1
    repeat (first|(refine gR ?_;first|(refine d_start [] [(0,0),(0,1),(0,2),(1,3),(0,4),(0,5),(0,6),(0,8),(0,9),(0,10),(1,7),(1,11),(0,12),(0,13)] HM (by kernel_rfl) (by kernel_rfl) qq (by kernel_rfl) rfl ?_;intro HQ HS W1 HM1;replace HM:=HM1;clear HM1)|(refine d_start [] [(0,0),(0,1),(0,2),(1,3),(0,4),(0,5),(0,7),(0,8),(0,9),(1,6),(1,10),(0,11),(0,12),(0,13),(0,14),(1,15),(0,16),(0,17)] HM (by kernel_rfl) (by kernel_rfl) qq (by kernel_rfl) rfl ?_;intro HQ HS W1 HM1;replace HM:=HM1;clear HM1))|refine Y ?_|(refine qg ?_;clear HM;intro g W1 HM))
    exact end_none rfl ⟨i,rfl,by simp only [boxR,partRcd,List.cons_append,List.nil_append];exact HM.sb⟩
  by_cases c2 : m.ballot = x.ballot
  rotate_left
  · rw [if_neg (fun h=>c2 h.2.1)]
    repeat (first|(refine gR ?_;first|(refine d_start [] [(0,0),(0,1),(0,2),(1,3),(0,4),(0,5),(0,6),(0,8),(0,9),(0,10),(1,7),(1,11),(0,12),(0,13)] HM (by kernel_rfl) (by kernel_rfl) qq (by kernel_rfl) rfl ?_;intro HQ HS W1 HM1;replace HM:=HM1;clear HM1)|(refine d_start [] [(0,0),(0,1),(0,2),(1,3),(0,4),(0,5),(0,7),(0,8),(0,9),(1,6),(1,10),(0,11),(0,12),(0,13),(0,14),(1,15),(0,16),(0,17)] HM (by kernel_rfl) (by kernel_rfl) qq (by kernel_rfl) rfl ?_;intro HQ HS W1 HM1;replace HM:=HM1;clear HM1))|refine Y ?_|(refine qg ?_;clear HM;intro g W1 HM))
    exact end_none rfl ⟨i,rfl,by simp only [boxR,partRcd,List.cons_append,List.nil_append];exact HM.sb⟩
  by_cases c3 : 0 < m.index
  rotate_left
  · rw [if_neg (fun h=>c3 h.2.2)]
    repeat (first|(refine gR ?_;first|(refine d_start [] [(0,0),(0,1),(0,2),(1,3),(0,4),(0,5),(0,6),(0,8),(0,9),(0,10),(1,7),(1,11),(0,12),(0,13)] HM (by kernel_rfl) (by kernel_rfl) qq (by kernel_rfl) rfl ?_;intro HQ HS W1 HM1;replace HM:=HM1;clear HM1)|(refine d_start [] [(0,0),(0,1),(0,2),(1,3),(0,4),(0,5),(0,7),(0,8),(0,9),(1,6),(1,10),(0,11),(0,12),(0,13),(0,14),(1,15),(0,16),(0,17)] HM (by kernel_rfl) (by kernel_rfl) qq (by kernel_rfl) rfl ?_;intro HQ HS W1 HM1;replace HM:=HM1;clear HM1))|refine Y ?_|(refine qg ?_;clear HM;intro g W1 HM))
    exact end_none rfl ⟨i,rfl,by simp only [boxR,partRcd,List.cons_append,List.nil_append];exact HM.sb⟩
  rw [if_pos ⟨c1,c2,c3⟩]
  have hix:=hm.index
  repeat (first|(refine gR ?_;first|(refine d_start [] [(0,0),(0,1),(0,2),(1,3),(0,4),(0,5),(0,6),(0,8),(0,9),(0,10),(1,7),(1,11),(0,12),(0,13)] HM (by kernel_rfl) (by kernel_rfl) qq (by kernel_rfl) rfl ?_;intro HQ HS W1 HM1;replace HM:=HM1;clear HM1)|(refine d_start [] [(0,0),(0,1),(0,2),(1,3),(0,4),(0,5),(0,7),(0,8),(0,9),(1,6),(1,10),(0,11),(0,12),(0,13),(0,14),(1,15),(0,16),(0,17)] HM (by kernel_rfl) (by kernel_rfl) qq (by kernel_rfl) rfl ?_;intro HQ HS W1 HM1;replace HM:=HM1;clear HM1))|refine Y ?_|(refine qf ?_;go_at_call 69;refine (tookM x i gr m.frm m.index hv c1 (by omega) hm.frm (by exact pk_boxr HM)).mono ?_;rintro e W1 ⟨j2,rfl,HM1⟩;refine ⟨_,rfl,?_⟩;replace HM:=HM1;clear HM1;simp only [boxR,partRcd,List.cons_append,List.nil_append] at HM)|(refine qg ?_;clear HM;intro g W1 HM))
  exact end_none rfl ⟨j2,rfl,by simp only [boxR,partRcd,List.cons_append,List.nil_append];exact HM.sb⟩
theorem takeChosenM (x : Rcd) (i : AtRcd) (gr : Nat) (m : Msg) (am : At) (hv : VR x) (hu : x.up = true) (hm : MsgP m x.of) (ht : m.to = x.number) (hk : m.kind = 6) (HM : Mem w0 W (boxR 91 40 9 3 66 31 gr x i ++ L)) : Calls Tryz.prog 55 #[.pointer (some ⟨gr,0,none⟩),.agg (encMsg m am).toArray] W fun e W'=>∃ j,e = .returned (.tuple #[]) ∧ Mem w0 W' (boxR 91 40 9 3 66 31 gr (choL x m) j ++ L):=by
  refine enter Tryz.func55 rfl Tryz.ntmps55 [(0,_),(1,.agg (encMsg m am).toArray)] rfl ⟨rfl,rfl,trivial⟩ ?_
  unfold encMsg
  have hd0:=hv.disk.k0
  have hd1:=hv.disk.k1
  have hdl:=hv.disk.slots.1
  have hix:=hm.index
  simp only [boxR,partRcd,List.cons_append,List.nil_append] at HM
  by_cases c1 : m.index = x.dk + 1
  rotate_left
  · have e : choL x m = x:=if_neg (fun h=>c1 h.1)
    rw [e]
    repeat (first|(refine gR ?_;first|(refine d_start [] [(0,0),(0,1),(0,2),(1,3),(0,4),(0,5),(0,6),(0,8),(0,9),(0,10),(1,7),(1,11),(0,12),(0,13)] HM (by kernel_rfl) (by kernel_rfl) qq (by kernel_rfl) rfl ?_;intro HQ HS W1 HM1;replace HM:=HM1;clear HM1)|(refine d_start [] [(0,0),(0,2),(0,3),(0,4),(1,1),(1,5),(0,6),(0,7),(0,8),(0,9),(1,10),(0,11),(0,12),(0,13),(0,14),(0,16),(0,17),(0,18),(1,15),(1,19),(0,20),(0,21)] HM (by kernel_rfl) (by kernel_rfl) qq (by kernel_rfl) rfl ?_;intro HQ HS W1 HM1;replace HM:=HM1;clear HM1))|refine Y ?_|(refine qg ?_;clear HM;intro g W1 HM))
    exact end_none rfl ⟨i,rfl,by simp only [boxR,partRcd,List.cons_append,List.nil_append];exact HM.sb⟩
  by_cases c2 : 0 < m.ballot
  rotate_left
  · have e : choL x m = x:=if_neg (fun h=>c2 h.2.1)
    rw [e]
    repeat (first|(refine gR ?_;first|(refine d_start [] [(0,0),(0,1),(0,2),(1,3),(0,4),(0,5),(0,6),(0,8),(0,9),(0,10),(1,7),(1,11),(0,12),(0,13)] HM (by kernel_rfl) (by kernel_rfl) qq (by kernel_rfl) rfl ?_;intro HQ HS W1 HM1;replace HM:=HM1;clear HM1)|(refine d_start [] [(0,0),(0,2),(0,3),(0,4),(1,1),(1,5),(0,6),(0,7),(0,8),(0,9),(1,10),(0,11),(0,12),(0,13),(0,14),(0,16),(0,17),(0,18),(1,15),(1,19),(0,20),(0,21)] HM (by kernel_rfl) (by kernel_rfl) qq (by kernel_rfl) rfl ?_;intro HQ HS W1 HM1;replace HM:=HM1;clear HM1))|refine Y ?_|(refine qg ?_;clear HM;intro g W1 HM))
    exact end_none rfl ⟨i,rfl,by simp only [boxR,partRcd,List.cons_append,List.nil_append];exact HM.sb⟩
  by_cases c3 : m.ballot ≤ x.dp
  rotate_left
  · have e : choL x m = x:=if_neg (fun h=>c3 h.2.2)
    rw [e]
    repeat (first|(refine gR ?_;first|(refine d_start [] [(0,0),(0,1),(0,2),(1,3),(0,4),(0,5),(0,6),(0,8),(0,9),(0,10),(1,7),(1,11),(0,12),(0,13)] HM (by kernel_rfl) (by kernel_rfl) qq (by kernel_rfl) rfl ?_;intro HQ HS W1 HM1;replace HM:=HM1;clear HM1)|(refine d_start [] [(0,0),(0,2),(0,3),(0,4),(1,1),(1,5),(0,6),(0,7),(0,8),(0,9),(1,10),(0,11),(0,12),(0,13),(0,14),(0,16),(0,17),(0,18),(1,15),(1,19),(0,20),(0,21)] HM (by kernel_rfl) (by kernel_rfl) qq (by kernel_rfl) rfl ?_;intro HQ HS W1 HM1;replace HM:=HM1;clear HM1))|refine Y ?_|(refine qg ?_;clear HM;intro g W1 HM))
    exact end_none rfl ⟨i,rfl,by simp only [boxR,partRcd,List.cons_append,List.nil_append];exact HM.sb⟩
  have e : choL x m = { setL x m.index ⟨m.ballot,m.text⟩ with dk:=m.index }:=if_pos ⟨c1,c2,c3⟩
  rw [e]
  repeat (first|(refine gR ?_;first|(refine d_start [] [(0,0),(0,1),(0,2),(1,3),(0,4),(0,5),(0,6),(0,8),(0,9),(0,10),(1,7),(1,11),(0,12),(0,13)] HM (by kernel_rfl) (by kernel_rfl) qq (by kernel_rfl) rfl ?_;intro HQ HS W1 HM1;replace HM:=HM1;clear HM1)|(refine d_start [] [(0,0),(0,2),(0,3),(0,4),(1,1),(1,5),(0,6),(0,7),(0,8),(0,9),(1,10),(0,11),(0,12),(0,13),(0,14),(0,16),(0,17),(0,18),(1,15),(1,19),(0,20),(0,21)] HM (by kernel_rfl) (by kernel_rfl) qq (by kernel_rfl) rfl ?_;intro HQ HS W1 HM1;replace HM:=HM1;clear HM1))|refine Y ?_|(refine qs ?_;clear HM;intro W1 HM)|(refine qf ?_;go_at_call 94;refine (slotM x i gr m.index ⟨m.ballot,m.text⟩ (by omega) (by omega) (by omega) (by exact pk_boxr HM)).mono ?_;rintro e W1 ⟨j2,rfl,HM1⟩;refine ⟨_,rfl,?_⟩;replace HM:=HM1;clear HM1;simp only [boxR,partRcd,List.cons_append,List.nil_append] at HM)|(refine qg ?_;clear HM;intro g W1 HM))
  exact end_none rfl ⟨j2,rfl,by simp only [boxR,partRcd,List.cons_append,List.nil_append];exact HM.sb⟩
theorem takeWishedM (x : Rcd) (i : AtRcd) (gr : Nat) (m : Msg) (am : At) (hv : VR x) (hu : x.up = true) (hm : MsgP m x.of) (ht : m.to = x.number) (hn : SmallR x) (hk : m.kind = 8) (HM : Mem w0 W (boxR 91 40 9 3 66 31 gr x i ++ L)) : Calls Tryz.prog 55 #[.pointer (some ⟨gr,0,none⟩),.agg (encMsg m am).toArray] W fun e W'=>∃ j,e = .returned (.tuple #[]) ∧ Mem w0 W' (boxR 91 40 9 3 66 31 gr (wish1 x m.text) j ++ L):=by
  refine enter Tryz.func55 rfl Tryz.ntmps55 [(0,_),(1,.agg (encMsg m am).toArray)] rfl ⟨rfl,rfl,trivial⟩ ?_
  unfold encMsg
  have htx:=hm.text
  simp only [boxR,partRcd,List.cons_append,List.nil_append] at HM
  repeat (first|(refine gR ?_;refine d_start [] [(0,0),(0,1),(0,2),(1,3),(0,4),(0,5),(0,6),(0,8),(0,9),(0,10),(1,7),(1,11),(0,12),(0,13)] HM (by kernel_rfl) (by kernel_rfl) qq (by kernel_rfl) rfl ?_;intro HQ HS W1 HM1;replace HM:=HM1;clear HM1)|refine Y ?_|(refine qf ?_;go_at_call 60;refine (wishM x i gr m.text (validB_iff.2 hv) hn (by omega) (by exact pk_boxr HM)).mono ?_;rintro e W1 ⟨j2,rfl,HM1⟩;refine ⟨_,rfl,?_⟩;replace HM:=HM1;clear HM1;simp only [boxR,partRcd,List.cons_append,List.nil_append] at HM)|(refine qg ?_;clear HM;intro g W1 HM))
  exact end_none rfl ⟨j2,rfl,by simp only [boxR,partRcd,List.cons_append,List.nil_append];exact HM.sb⟩
theorem takeRefuseM (x : Rcd) (i : AtRcd) (gr : Nat) (m : Msg) (am : At) (hv : VR x) (hu : x.up = true) (hm : MsgP m x.of) (ht : m.to = x.number) (hk : m.kind = 9) (HM : Mem w0 W (boxR 91 40 9 3 66 31 gr x i ++ L)) : Calls Tryz.prog 55 #[.pointer (some ⟨gr,0,none⟩),.agg (encMsg m am).toArray] W fun e W'=>∃ j,e = .returned (.tuple #[]) ∧ Mem w0 W' (boxR 91 40 9 3 66 31 gr (refL x m) j ++ L):=by
  refine enter Tryz.func55 rfl Tryz.ntmps55 [(0,_),(1,.agg (encMsg m am).toArray)] rfl ⟨rfl,rfl,trivial⟩ ?_
  unfold encMsg
  simp only [boxR,partRcd,List.cons_append,List.nil_append] at HM
  by_cases c0 : x.lead = true ∨ x.trying = true
  rotate_left
  · have e : refL x m = x:=if_neg (fun h=>c0 h.2)
    have c2 : x.lead = false:=by cases h : x.lead <;> simp_all
    have c3 : x.trying = false:=by cases h : x.trying <;> simp_all
    rw [e]
    repeat (first|(refine gR ?_;first|(refine d_start [] [(0,0),(0,1),(0,2),(1,3),(0,4),(0,5),(0,6),(0,8),(0,9),(0,10),(1,7),(1,11),(0,12),(0,13)] HM (by kernel_rfl) (by kernel_rfl) qq (by kernel_rfl) rfl ?_;intro HQ HS W1 HM1;replace HM:=HM1;clear HM1)|(refine d_start (id:=51) [] [(0,0),(0,1),(0,2),(1,3),(0,4),(0,5),(0,6),(0,7),(1,8),(0,9),(0,10),(0,11),(0,13),(0,14),(0,15),(1,12),(1,16),(0,17),(0,18)] HM (by kernel_rfl) (by kernel_rfl) qq (by kernel_rfl) rfl ?_;intro HQ HS W1 HM1;replace HM:=HM1;clear HM1))|refine Y ?_|(refine qg ?_;clear HM;intro g W1 HM))
    exact end_none rfl ⟨i,rfl,by simp only [boxR,partRcd,List.cons_append,List.nil_append];exact HM.sb⟩
  by_cases c2 : x.lead = true
  · by_cases c1 : x.ballot < m.ballot
    rotate_left
    · have e : refL x m = x:=if_neg (fun h=>c1 h.1)
      rw [e]
      repeat (first|(refine gR ?_;first|(refine d_start [] [(0,0),(0,1),(0,2),(1,3),(0,4),(0,5),(0,6),(0,8),(0,9),(0,10),(1,7),(1,11),(0,12),(0,13)] HM (by kernel_rfl) (by kernel_rfl) qq (by kernel_rfl) rfl ?_;intro HQ HS W1 HM1;replace HM:=HM1;clear HM1)|(refine d_start (id:=51) [] [(0,0),(0,1),(0,2),(1,3),(0,4),(0,5),(0,6),(0,7),(1,8),(0,9),(0,10),(0,11),(0,13),(0,14),(0,15),(1,12),(1,16),(0,17),(0,18)] HM (by kernel_rfl) (by kernel_rfl) qq (by kernel_rfl) rfl ?_;intro HQ HS W1 HM1;replace HM:=HM1;clear HM1))|refine Y ?_|(refine qg ?_;clear HM;intro g W1 HM))
      exact end_none rfl ⟨i,rfl,by simp only [boxR,partRcd,List.cons_append,List.nil_append];exact HM.sb⟩
    have e : refL x m = { calmL x with dp:=max x.dp m.ballot }:=if_pos ⟨c1,c0⟩
    rw [e]
    repeat (first|(refine gGP ?_;refine gp (p_max rfl rfl) ?_)|(refine gR ?_;first|(refine d_start [] [(0,0),(0,1),(0,2),(1,3),(0,4),(0,5),(0,6),(0,8),(0,9),(0,10),(1,7),(1,11),(0,12),(0,13)] HM (by kernel_rfl) (by kernel_rfl) qq (by kernel_rfl) rfl ?_;intro HQ HS W1 HM1;replace HM:=HM1;clear HM1)|(refine d_start (id:=51) [] [(0,0),(0,1),(0,2),(1,3),(0,4),(0,5),(0,6),(0,7),(1,8),(0,9),(0,10),(0,11),(0,13),(0,14),(0,15),(1,12),(1,16),(0,17),(0,18)] HM (by kernel_rfl) (by kernel_rfl) qq (by kernel_rfl) rfl ?_;intro HQ HS W1 HM1;replace HM:=HM1;clear HM1)|(refine d_start [10] [(0,0),(0,1),(0,2),(0,3),(0,5),(1,4),(1,6),(0,7),(0,8),(0,9),(3,10)] HM (by kernel_rfl) (by kernel_rfl) qq (by kernel_rfl) rfl ?_;intro HQ HS W1 HM1;replace HM:=HM1;clear HM1))|refine Y ?_|(refine qs ?_;clear HM;intro W1 HM)|(refine qf ?_;go_at_call 75;refine (quietM x i gr (by exact pk_boxr HM)).mono ?_;rintro e W1 ⟨j2,rfl,HM1⟩;refine ⟨_,rfl,?_⟩;replace HM:=HM1;clear HM1;simp only [calmL,boxR,partRcd,List.cons_append,List.nil_append] at HM)|(refine qg ?_;clear HM;intro g W1 HM))
    exact end_none rfl ⟨j2,rfl,by simp only [calmL,boxR,partRcd,List.cons_append,List.nil_append];exact HM.sb⟩
  · simp only [Bool.not_eq_true] at c2
    have c3 : x.trying = true:=by cases h : x.trying <;> simp_all
    by_cases c1 : x.ballot < m.ballot
    rotate_left
    · have e : refL x m = x:=if_neg (fun h=>c1 h.1)
      rw [e]
      repeat (first|(refine gR ?_;first|(refine d_start [] [(0,0),(0,1),(0,2),(1,3),(0,4),(0,5),(0,6),(0,8),(0,9),(0,10),(1,7),(1,11),(0,12),(0,13)] HM (by kernel_rfl) (by kernel_rfl) qq (by kernel_rfl) rfl ?_;intro HQ HS W1 HM1;replace HM:=HM1;clear HM1)|(refine d_start (id:=51) [] [(0,0),(0,1),(0,2),(1,3),(0,4),(0,5),(0,6),(0,7),(1,8),(0,9),(0,10),(0,11),(0,13),(0,14),(0,15),(1,12),(1,16),(0,17),(0,18)] HM (by kernel_rfl) (by kernel_rfl) qq (by kernel_rfl) rfl ?_;intro HQ HS W1 HM1;replace HM:=HM1;clear HM1))|refine Y ?_|(refine qg ?_;clear HM;intro g W1 HM))
      exact end_none rfl ⟨i,rfl,by simp only [boxR,partRcd,List.cons_append,List.nil_append];exact HM.sb⟩
    have e : refL x m = { calmL x with dp:=max x.dp m.ballot }:=if_pos ⟨c1,c0⟩
    rw [e]
    repeat (first|(refine gGP ?_;refine gp (p_max rfl rfl) ?_)|(refine gR ?_;first|(refine d_start [] [(0,0),(0,1),(0,2),(1,3),(0,4),(0,5),(0,6),(0,8),(0,9),(0,10),(1,7),(1,11),(0,12),(0,13)] HM (by kernel_rfl) (by kernel_rfl) qq (by kernel_rfl) rfl ?_;intro HQ HS W1 HM1;replace HM:=HM1;clear HM1)|(refine d_start (id:=51) [] [(0,0),(0,1),(0,2),(1,3),(0,4),(0,5),(0,6),(0,7),(1,8),(0,9),(0,10),(0,11),(0,13),(0,14),(0,15),(1,12),(1,16),(0,17),(0,18)] HM (by kernel_rfl) (by kernel_rfl) qq (by kernel_rfl) rfl ?_;intro HQ HS W1 HM1;replace HM:=HM1;clear HM1)|(refine d_start [10] [(0,0),(0,1),(0,2),(0,3),(0,5),(1,4),(1,6),(0,7),(0,8),(0,9),(3,10)] HM (by kernel_rfl) (by kernel_rfl) qq (by kernel_rfl) rfl ?_;intro HQ HS W1 HM1;replace HM:=HM1;clear HM1))|refine Y ?_|(refine qs ?_;clear HM;intro W1 HM)|(refine qf ?_;go_at_call 75;refine (quietM x i gr (by exact pk_boxr HM)).mono ?_;rintro e W1 ⟨j2,rfl,HM1⟩;refine ⟨_,rfl,?_⟩;replace HM:=HM1;clear HM1;simp only [calmL,boxR,partRcd,List.cons_append,List.nil_append] at HM)|(refine qg ?_;clear HM;intro g W1 HM))
    exact end_none rfl ⟨j2,rfl,by simp only [calmL,boxR,partRcd,List.cons_append,List.nil_append];exact HM.sb⟩
theorem takeNeedM (x : Rcd) (i : AtRcd) (gr : Nat) (m : Msg) (am : At) (hv : VR x) (hu : x.up = true) (hm : MsgP m x.of) (ht : m.to = x.number) (hk : m.kind = 7) (HM : Mem w0 W (boxR 91 40 9 3 66 31 gr x i ++ L)) : Calls Tryz.prog 55 #[.pointer (some ⟨gr,0,none⟩),.agg (encMsg m am).toArray] W fun e W'=>∃ j,e = .returned (.tuple #[]) ∧ Mem w0 W' (boxR 91 40 9 3 66 31 gr (if x.lead = true ∧ 0 < m.index then needL m.frm 5 m.index x else x) j ++ L):=by
  refine enter Tryz.func55 rfl Tryz.ntmps55 [(0,_),(1,.agg (encMsg m am).toArray)] rfl ⟨rfl,rfl,trivial⟩ ?_
  unfold encMsg
  have hd0:=hv.disk.k0
  have hd1:=hv.disk.k1
  have hdl:=hv.disk.slots.1
  have hix:=hm.index
  simp only [boxR,partRcd,List.cons_append,List.nil_append] at HM
  by_cases c1 : x.lead = true
  rotate_left
  · rw [if_neg (fun h=>c1 h.1)]
    simp only [Bool.not_eq_true] at c1
    repeat (first|(refine gR ?_;refine d_start [] [(0,0),(0,1),(0,2),(1,3),(0,4),(0,5),(0,6),(0,8),(0,9),(0,10),(1,7),(1,11),(0,12),(0,13)] HM (by kernel_rfl) (by kernel_rfl) qq (by kernel_rfl) rfl ?_;intro HQ HS W1 HM1;replace HM:=HM1;clear HM1)|refine Y ?_|(refine qg ?_;clear HM;intro g W1 HM))
    exact ret_none rfl ⟨i,rfl,by simp only [boxR,partRcd,List.cons_append,List.nil_append];exact HM.sb⟩
  by_cases c2 : 0 < m.index
  rotate_left
  · rw [if_neg (fun h=>c2 h.2)]
    repeat (first|(refine gR ?_;refine d_start [] [(0,0),(0,1),(0,2),(1,3),(0,4),(0,5),(0,6),(0,8),(0,9),(0,10),(1,7),(1,11),(0,12),(0,13)] HM (by kernel_rfl) (by kernel_rfl) qq (by kernel_rfl) rfl ?_;intro HQ HS W1 HM1;replace HM:=HM1;clear HM1)|refine Y ?_|(refine qg ?_;clear HM;intro g W1 HM))
    exact ret_none rfl ⟨i,rfl,by simp only [boxR,partRcd,List.cons_append,List.nil_append];exact HM.sb⟩
  rw [if_pos ⟨c1,c2⟩]
  repeat (first|(refine gR ?_;refine d_start [] [(0,0),(0,1),(0,2),(1,3),(0,4),(0,5),(0,6),(0,8),(0,9),(0,10),(1,7),(1,11),(0,12),(0,13)] HM (by kernel_rfl) (by kernel_rfl) qq (by kernel_rfl) rfl ?_;intro HQ HS W1 HM1;replace HM:=HM1;clear HM1)|refine Y ?_|(refine qg ?_;clear HM;intro g W1 HM))
  have HMp:=(show Mem w0 _ (boxR 91 40 9 3 66 31 gr x i ++ _) from pk_boxr HM)
  clear HM
  refine c_loop (σ:=Nat × Rcd) (fun s=>[(0,.pointer (some ⟨gr,0,none⟩)),(3,.pointer (some ⟨g,0,none⟩)),(4,.pointer (some ⟨gr,6,none⟩)),(7,.int .i64 (m.index + s.1))]) (fun s W1=>s.1 ≤ 5 ∧ needL m.frm (5 - s.1) (m.index + s.1) s.2 = needL m.frm 5 m.index x ∧ s.2.ds = x.ds ∧ s.2.dk = x.dk ∧ ∃ j,Mem w0 W1 (boxR 91 40 9 3 66 31 gr s.2 j ++ _)) (fun s=>5 - s.1) (0,x) (by simp only [Int.add_zero,Int.natCast_zero];exact U) ⟨Nat.zero_le _,by simp,rfl,rfl,i,HMp⟩ ?_
  clear HMp
  rintro ⟨k,y⟩ W1 ⟨hk,hl,e1,e2,j,HM⟩
  dsimp only at hk hl e1 e2 HM ⊢
  simp only [boxR,partRcd,List.cons_append,List.nil_append] at HM
  rw [← e1,← e2] at hd1
  rw [← e1] at hdl
  by_cases h5 : k < 5
  rotate_left
  · rw [show 5 - k = 0 by omega,needL] at hl
    rw [← hl]
    repeat refine Y ?_
    exact end_none rfl ⟨j,rfl,by simp only [boxR,partRcd,List.cons_append,List.nil_append];exact HM.sb⟩
  by_cases hi : m.index + k ≤ y.dk
  rotate_left
  · have hst : needL m.frm (5 - (k + 1)) (m.index + ((k + 1 : Nat) : Int)) y = needL m.frm 5 m.index x:=by rw [← hl,needL_out hi,needL_out (by omega)]
    repeat refine Y ?_
    exact n_round (k + 1,y) (by simp only [Int.natCast_add,Int.natCast_one,← Int.add_assoc];exact U) ⟨by dsimp only;omega,hst,e1,e2,j,by exact pk_boxr HM⟩ (by dsimp only;omega)
  obtain ⟨q1,q2,q3,q4⟩:=hold_ds y ⟨6,0,m.frm,y.ballot,m.index + k,0,(rd tSlot y.ds (m.index + k - 1)).text,[]⟩
  have hst : needL m.frm (5 - (k + 1)) (m.index + ((k + 1 : Nat) : Int)) (holdL y ⟨6,0,m.frm,y.ballot,m.index + k,0,(rd tSlot y.ds (m.index + k - 1)).text,[]⟩) = needL m.frm 5 m.index x:=by
    rw [← hl,show 5 - k = (5 - (k + 1)) + 1 by omega,needL,if_pos hi,show m.index + ((k + 1 : Nat) : Int) = m.index + k + 1 by omega]
  repeat (first|(refine gR ?_;refine d_start [18] [(0,0),(0,1),(0,3),(0,4),(0,5),(0,7),(0,8),(0,9),(0,10),(0,12),(0,13),(1,2),(1,6),(1,11),(0,14),(0,15),(1,16),(2,17),(3,18)] HM (by kernel_rfl) (by kernel_rfl) qq (by kernel_rfl) rfl ?_;intro HQ HS W1 HM1;replace HM:=HM1;clear HM1)|refine Y ?_|(refine qf ?_;go_at_call 78;have HM2:=HM.nil tSlot 91;refine (holdM y j _ ⟨6,0,m.frm,y.ballot,m.index + k,0,(rd tSlot y.ds (m.index + k - 1)).text,[]⟩ (none,0) (by exact pk_hold HM2)).mono ?_;clear HM2;rintro e W1 ⟨j2,rfl,HM1⟩;refine ⟨_,rfl,?_⟩;replace HM:=HM1;clear HM1;simp only [boxR,partRcd,List.cons_append,List.nil_append] at HM))
  exact n_round (k + 1,holdL y ⟨6,0,m.frm,y.ballot,m.index + k,0,(rd tSlot y.ds (m.index + k - 1)).text,[]⟩) (by simp only [Int.natCast_add,Int.natCast_one,← Int.add_assoc];exact U) ⟨by dsimp only;omega,hst,by rw [q1];exact e1,by rw [q2];exact e2,j2,by exact pk_boxr HM⟩ (by dsimp only;omega)
end Go.Proofs.YtampmicahnnebaaGreat.Sp
namespace Go.Proofs.YtampmicahnnebaaGreat.Sp
open Go Go.RowKit
set_option maxRecDepth 10000
set_option maxHeartbeats 2000000
variable {w0 W : World} {L : List Asn}
theorem takeM (x : Rcd) (i : AtRcd) (gr : Nat) (m : Msg) (am : At) (hv : VR x) (hu : x.up = true) (hm : MsgP m x.of) (ht : m.to = x.number) {b : Bool} (hb : ∀ W',Mem w0 W' L → RoRow (rSlot b) W' am.1 m.slots) (HM : Mem w0 W (boxR 91 40 9 3 66 31 gr x i ++ L)) : Calls Tryz.prog 55 #[.pointer (some ⟨gr,0,none⟩),.agg (encMsg m am).toArray] W fun e W'=>∃ j,e = .returned (.tuple #[]) ∧ Mem w0 W' (boxR 91 40 9 3 66 31 gr (takeL x m) j ++ L):=by
  have hk:=hm.kind
  unfold takeL
  by_cases k1 : m.kind = 1
  · rw [if_pos k1];exact takePrepM x i gr m am hv hu hm ht k1 HM
  rw [if_neg k1]
  by_cases k2 : m.kind = 2
  · rw [if_pos k2];exact takePromisedM x i gr m am hv hu hm ht k2 hb HM
  rw [if_neg k2]
  by_cases k3 : m.kind = 3
  · rw [if_pos k3];exact takeAcceptM x i gr m am hv hu hm ht k3 HM
  rw [if_neg k3]
  by_cases k4 : m.kind = 4
  · rw [if_pos k4];exact takeAcceptedM x i gr m am hv hu hm ht k4 HM
  rw [if_neg k4]
  by_cases k5 : m.kind = 5
  · rw [if_pos k5];exact takeBeatM x i gr m am hv hu hm ht k5 HM
  rw [if_neg k5]
  by_cases k6 : m.kind = 6
  · rw [if_pos k6];exact takeChosenM x i gr m am hv hu hm ht k6 HM
  rw [if_neg k6]
  by_cases k7 : m.kind = 7
  · rw [if_pos k7];exact takeNeedM x i gr m am hv hu hm ht k7 HM
  rw [if_neg k7]
  by_cases k8 : m.kind = 8
  · rw [if_pos k8];exact takeWishedM x i gr m am hv hu hm ht (vr_small hv) k8 HM
  rw [if_neg k8,if_pos (show m.kind = 9 by omega)]
  exact takeRefuseM x i gr m am hv hu hm ht (by omega) HM
theorem takeOffM (x : Rcd) (i : AtRcd) (gr : Nat) (m : Msg) (am : At) (ho : x.up = false ∨ m.to ≠ x.number) (HM : Mem w0 W (boxR 91 40 9 3 66 31 gr x i ++ L)) : Calls Tryz.prog 55 #[.pointer (some ⟨gr,0,none⟩),.agg (encMsg m am).toArray] W fun e W'=>∃ j,e = .returned (.tuple #[]) ∧ Mem w0 W' (boxR 91 40 9 3 66 31 gr x j ++ L):=by
  refine enter Tryz.func55 rfl Tryz.ntmps55 [(0,_),(1,.agg (encMsg m am).toArray)] rfl ⟨rfl,rfl,trivial⟩ ?_
  unfold encMsg
  simp only [boxR,partRcd,List.cons_append,List.nil_append] at HM
  by_cases hu : x.up = true
  · have ht : ¬ m.to = x.number:=ho.resolve_left (by simp [hu])
    repeat (first|(refine gR ?_;refine d_start [] [(0,0),(0,1),(0,2),(1,3),(0,4),(0,5),(0,6),(0,8),(0,9),(0,10),(1,7),(1,11),(0,12),(0,13)] HM (by kernel_rfl) (by kernel_rfl) qq (by kernel_rfl) rfl ?_;intro HQ HS W1 HM1;replace HM:=HM1;clear HM1)|refine Y ?_|(refine qg ?_;clear HM;intro g W1 HM))
    exact ret_none rfl ⟨i,rfl,by simp only [boxR,partRcd,List.cons_append,List.nil_append];exact HM.sb⟩
  · simp only [Bool.not_eq_true] at hu
    repeat (first|(refine gR ?_;refine d_start [] [(0,0),(0,1),(0,2),(1,3),(0,4),(0,5),(0,6),(0,8),(0,9),(0,10),(1,7),(1,11),(0,12),(0,13)] HM (by kernel_rfl) (by kernel_rfl) qq (by kernel_rfl) rfl ?_;intro HQ HS W1 HM1;replace HM:=HM1;clear HM1)|refine Y ?_|(refine qg ?_;clear HM;intro g W1 HM))
    exact ret_none rfl ⟨i,rfl,by simp only [boxR,partRcd,List.cons_append,List.nil_append];exact HM.sb⟩
theorem implRecTake (x : Rcd) (i : AtRcd) (m : Msg) (am : At) (h : RoRcd false w0 x i) (hc : x.ds.length ≤ i.a1.2 ∧ x.wishes.length ≤ i.a3.2) (hn : SmallR x) (hr : RoRow (rSlot false) w0 am.1 m.slots) (HM : Mem w0 W L) : Calls Tryz.prog 13 #[.agg (encRcd x i).toArray,.agg (encMsg m am).toArray] W fun e W'=>∃ j,e = .returned (.agg (encRcd (recTakeL x m) j).toArray) ∧ Mem w0 W' (partRcd 91 40 9 3 66 (recTakeL x m) j ++ L):=by
  refine enter Tryz.func13 rfl Tryz.ntmps13 [(0,.agg (encRcd x i).toArray),(1,.agg (encMsg m am).toArray)] rfl ⟨rfl,rfl,trivial⟩ ?_
  have h0:=h
  have hw:=hc.2
  unfold encRcd encMsg
  by_cases hv : validB x = true
  rotate_left
  · simp only [Bool.not_eq_true] at hv
    repeat (first|refine Y ?_|(refine qs ?_;clear HM;intro W1 HM)|(refine qf ?_;go_at_call 10;refine (implValid x i h0 hw hn HM).mono ?_;rintro e W1 ⟨rfl,HM1⟩;refine ⟨_,rfl,?_⟩;replace HM:=HM1;clear HM1)|(refine qg ?_;clear HM;intro g W1 HM))
    have HM2:=HM.zeroR 91 40 9 3 66
    simp only [partRcd,zeroR,atZ,List.cons_append,List.nil_append] at HM2
    have e : recTakeL x m = zeroR:=by simp [recTakeL,hv]
    rw [e]
    exact ret_cell HM2 rfl rfl rfl ⟨atZ,rfl,by simp only [partRcd,zeroR,atZ,List.cons_append,List.nil_append];exact HM2.sb⟩
  by_cases hm : msgB m x.of = true
  rotate_left
  · simp only [Bool.not_eq_true] at hm
    have e : recTakeL x m = x:=by simp [recTakeL,hv,hm]
    repeat (first|refine Y ?_|(refine qs ?_;clear HM;intro W1 HM)|(refine qf ?_;first|(go_at_call 10;refine (implValid x i h0 hw hn HM).mono ?_;rintro e W1 ⟨rfl,HM1⟩;refine ⟨_,rfl,?_⟩;replace HM:=HM1;clear HM1)|(go_at_call 21;refine (clone_c x _ h0 hn HM).mono ?_;rintro e W1 ⟨j2,rfl,HM1⟩;refine ⟨_,rfl,?_⟩;replace HM:=HM1;clear HM1;simp only [partRcd,List.cons_append,List.nil_append] at HM;simp only [encRcd])|(go_at_call 11;refine (implMsg m am x.of hr HM).mono ?_;rintro e W1 ⟨rfl,HM1⟩;refine ⟨_,rfl,?_⟩;replace HM:=HM1;clear HM1))|(refine qg ?_;clear HM;intro g W1 HM))
    rw [e]
    exact ret_cell HM rfl rfl rfl ⟨j2,rfl,by simp only [boxR,partRcd,List.cons_append,List.nil_append];exact HM.sb⟩
  by_cases ho : x.up = true ∧ m.to = x.number
  rotate_left
  · have e : recTakeL x m = x:=by rw [recTakeL,if_pos hv,if_neg (fun h=>ho ⟨h.1,h.2.2⟩)]
    have ho2 : x.up = false ∨ m.to ≠ x.number:=by
      by_cases hu : x.up = true
      · exact .inr (fun h=>ho ⟨hu,h⟩)
      · exact .inl (by simpa using hu)
    repeat (first|refine Y ?_|(refine qs ?_;clear HM;intro W1 HM)|(refine qf ?_;first|(go_at_call 10;refine (implValid x i h0 hw hn HM).mono ?_;rintro e W1 ⟨rfl,HM1⟩;refine ⟨_,rfl,?_⟩;replace HM:=HM1;clear HM1)|(go_at_call 21;refine (clone_c x _ h0 hn HM).mono ?_;rintro e W1 ⟨j2,rfl,HM1⟩;refine ⟨_,rfl,?_⟩;replace HM:=HM1;clear HM1;simp only [partRcd,List.cons_append,List.nil_append] at HM;simp only [encRcd])|(go_at_call 11;refine (implMsg m am x.of hr HM).mono ?_;rintro e W1 ⟨rfl,HM1⟩;refine ⟨_,rfl,?_⟩;replace HM:=HM1;clear HM1)|(go_at_call 55;refine (takeOffM x j2 _ m am ho2 (by exact pk_boxr HM)).mono ?_;rintro e W1 ⟨j3,rfl,HM1⟩;refine ⟨_,rfl,?_⟩;replace HM:=HM1;clear HM1;simp only [boxR,partRcd,List.cons_append,List.nil_append] at HM))|(refine qg ?_;clear HM;intro g W1 HM))
    rw [e]
    exact ret_cell HM rfl rfl rfl ⟨j3,rfl,by simp only [boxR,partRcd,List.cons_append,List.nil_append];exact HM.sb⟩
  obtain ⟨hu,ht⟩:=ho
  have e : recTakeL x m = takeL x m:=by simp [recTakeL,hv,hu,hm,ht]
  have hV:=validB_iff.1 hv
  have hmP:=msgB_iff.1 hm
  rw [e]
  repeat (first|refine Y ?_|(refine qs ?_;clear HM;intro W1 HM)|(refine qf ?_;first|(go_at_call 10;refine (implValid x i h0 hw hn HM).mono ?_;rintro e W1 ⟨rfl,HM1⟩;refine ⟨_,rfl,?_⟩;replace HM:=HM1;clear HM1)|(go_at_call 21;refine (clone_c x _ h0 hn HM).mono ?_;rintro e W1 ⟨j2,rfl,HM1⟩;refine ⟨_,rfl,?_⟩;replace HM:=HM1;clear HM1;simp only [partRcd,List.cons_append,List.nil_append] at HM;simp only [encRcd])|(go_at_call 11;refine (implMsg m am x.of hr HM).mono ?_;rintro e W1 ⟨rfl,HM1⟩;refine ⟨_,rfl,?_⟩;replace HM:=HM1;clear HM1)|(go_at_call 55;have HMp:=(show Mem w0 _ (boxR 91 40 9 3 66 31 g x j2 ++ _) from pk_boxr HM);refine (takeM x j2 _ m am hV hu hmP ht (b:=false) (fun W' h=>hr.now h (fun _ _ q=>q)) HMp).mono ?_;clear HMp;rintro e W1 ⟨j3,rfl,HM1⟩;refine ⟨_,rfl,?_⟩;replace HM:=HM1;clear HM1;simp only [boxR,partRcd,List.cons_append,List.nil_append] at HM))|(refine qg ?_;clear HM;intro g W1 HM))
  exact ret_cell HM rfl rfl rfl ⟨j3,rfl,by simp only [boxR,partRcd,List.cons_append,List.nil_append];exact HM.sb⟩
end Go.Proofs.YtampmicahnnebaaGreat.Sp
