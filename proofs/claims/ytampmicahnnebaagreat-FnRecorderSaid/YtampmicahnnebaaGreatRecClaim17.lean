/- took of the program. No condition. -/
import Derived.Test.YtampmicahnnebaaGreatRecClaim12
import Derived.Test.YtampmicahnnebaaGreatRecClaim7
import Derived.Test.YtampmicahnnebaaGreatRecClaim16
import Derived.Test.YtampmicahnnebaaGreatRecClaim5
import Derived.Test.YtampmicahnnebaaGreatRecClaim9
set_option linter.unusedVariables false
set_option linter.unusedSimpArgs false
namespace Go.Proofs.YtampmicahnnebaaGreat.Sp
open Go Go.RowKit
set_option maxRecDepth 10000
set_option maxHeartbeats 2000000
variable {w0 W : World} {L : List Asn} {A : Option Addr} {c : Nat}
theorem tookFn (a : Ack) (ja : At) (g5 : Nat) (ix : Int) [hB : RoBAt L g5 w0 3 [.int .i64 ix]] (HM : Mem w0 W L) : Calls Tryz.prog 102 #[.agg (encAck a ja).toArray,.pointer (some ⟨g5,0,none⟩)] W fun e W'=>e = .returned (.bool (decide (ix ≤ a.index))) ∧ Mem w0 W' L:=by
  refine enter Tryz.func102 rfl Tryz.ntmps102 [(0,.agg (encAck a ja).toArray),(1,_)] rfl ⟨rfl,rfl,trivial⟩ ?_
  unfold encAck
  repeat (first|(refine gGP ?_;first|refine gp (p_assign rfl) ?_|(refine gGB ?_;refine gp (p_geq rfl rfl) ?_)|refine gp (p_field rfl (by simp only [Nat.reduceAdd];rfl)) ?_)|(refine gGV ?_;first|refine gv (p_load rfl) ?_|refine gv (p_loadrb rfl) ?_)|(refine gL ?_;first|refine s_gp rfl rfl ?_|refine s_gv HM rfl ?_|(refine s_box HM rfl rfl ?_;clear HM;intro g W1 HM)|refine l_nil ?_)|(refine gC ?_;first|refine c_seq ?_|refine c_region ?_|refine c_ret ?_)|(refine gN ?_;refine n_then ?_))
  exact ret_tmp rfl rfl ⟨rfl,HM.sb⟩
theorem indexAck {xs : List Ack} (g5 : Nat) (ix : Int) [hB : RoBAt L g5 w0 3 [.int .i64 ix]] (hr : RoRow rAck w0 A xs) (hn : xs.length ≤ 1048576) (HM : Mem w0 W L) : Calls Tryz.prog 101 #[.slice A xs.length c,.func (.func 102) #[] #[.pointer (some ⟨g5,0,none⟩)]] W fun e W'=>∃ r : Int,e = .returned (.int .i64 r) ∧ ((r = -1 ∧ ∀ j (h : j < xs.length),xs[j].index < ix) ∨ ∃ k : Nat,r = k ∧ (∀ j (h : j < xs.length),j < k → xs[j].index < ix) ∧ ∃ h : k < xs.length,ix ≤ xs[k].index) ∧ Mem w0 W' L:=by
  refine enter Tryz.func101 rfl Tryz.ntmps101 [(0,_),(1,_)] rfl ⟨rfl,rfl,trivial⟩ ?_
  repeat (first|(refine gGP ?_;first|refine gp (p_move rfl) ?_|refine gp (p_assign rfl) ?_|refine gp (p_len rfl) ?_)|(refine gL ?_;first|refine s_gp rfl rfl ?_|refine l_nil ?_)|(refine gC ?_;first|refine c_seq ?_|refine c_region ?_|refine c_block ?_)|(refine gN ?_;refine n_then ?_))
  refine c_loop (σ:=Nat) (fun k=>[(0,.slice A xs.length c),(1,.func (.func 102) #[] #[.pointer (some ⟨g5,0,none⟩)]),(7,.int .i64 xs.length),(8,.int .i64 k)]) (fun k W1=>k ≤ xs.length ∧ (∀ j (h : j < xs.length),j < k → xs[j].index < ix) ∧ Mem w0 W1 L) (fun k=>xs.length - k) 0 (by repeat (first|exact trivial|refine And.intro (by first|rfl|exact look_int rfl (by omega)) ?_)) ⟨Nat.zero_le _,fun j h hj=>by omega,HM⟩ ?_
  clear HM
  rintro k W1 ⟨hk,hp,HM⟩
  by_cases hlt : k < xs.length
  · replace HM:=HM.rod hr
    obtain ⟨cc,⟨j,rfl,hs⟩,HM⟩:=HM.roOpen (A:=A) k hlt
    unfold encAck at HM
    by_cases c1 : ix ≤ xs[k].index
    · repeat (first|(refine gL ?_;refine gCall ?_;refine s_callv (f:=102) (first:=[]) (captured:=[.pointer (some ⟨g5,0,none⟩)]) rfl rfl rfl ?_;refine (tookFn xs[k] j g5 ix HM).mono ?_;rintro e W1 ⟨rfl,HM1⟩;refine ⟨_,rfl,?_⟩;replace HM:=HM1;clear HM1)|(refine gGP ?_;first|refine gp (p_move rfl) ?_|refine gp (p_assign rfl) ?_|(refine gGB ?_;refine gp (p_lss rfl rfl) ?_)|refine gp (p_indexr HM rfl (by first|with_reducible rfl|omega) rfl (by omega) (by omega)) ?_)|(refine gGV ?_;refine gv (p_loadwr rfl rfl rfl) ?_)|(refine gL ?_;first|refine s_gp rfl rfl ?_|refine s_gv HM rfl ?_|refine l_nil ?_)|(refine gC ?_;first|refine c_seq ?_|refine c_region ?_|refine c_block ?_|refine c_skip ?_|refine c_ret ?_|refine c_yes rfl (by (simp;omega)) ?_)|(refine gN ?_;first|refine n_then ?_|refine r_then ?_|refine r_block ?_))
      exact ret_tmp rfl rfl ⟨k,rfl,.inr ⟨k,rfl,hp,hlt,c1⟩,HM.drop.drop⟩
    · have hp2 : ∀ q (h : q < xs.length),q < k + 1 → xs[q].index < ix:=fun q hq hq2=>by
        by_cases e : q = k
        · subst e;omega
        · exact hp q hq (by omega)
      repeat (first|(refine gL ?_;refine gCall ?_;refine s_callv (f:=102) (first:=[]) (captured:=[.pointer (some ⟨g5,0,none⟩)]) rfl rfl rfl ?_;refine (tookFn xs[k] j g5 ix HM).mono ?_;rintro e W1 ⟨rfl,HM1⟩;refine ⟨_,rfl,?_⟩;replace HM:=HM1;clear HM1)|(refine gGP ?_;first|refine gp (p_move rfl) ?_|refine gp (p_assign rfl) ?_|(refine gGB ?_;first|refine gp (p_lss rfl rfl) ?_|refine gp (p_add rfl rfl (by exact wr (by omega) (by omega))) ?_)|refine gp (p_indexr HM rfl (by first|with_reducible rfl|omega) rfl (by omega) (by omega)) ?_)|(refine gGV ?_;refine gv (p_loadwr rfl rfl rfl) ?_)|(refine gL ?_;first|refine s_gp rfl rfl ?_|refine s_gv HM rfl ?_|refine l_nil ?_)|(refine gC ?_;first|refine c_seq ?_|refine c_region ?_|refine c_block ?_|refine c_skip ?_|refine c_yes rfl (by (simp;omega)) ?_|refine c_no rfl (by (simp;omega)) ?_)|(refine gN ?_;first|refine n_then ?_|refine n_block ?_))
      exact n_round (k + 1) (by repeat (first|exact trivial|refine And.intro (by first|rfl|exact look_int rfl (by omega)) ?_)) ⟨by omega,hp2,HM.drop.drop⟩ (by omega)
  · have hp2 : ∀ j (h : j < xs.length),xs[j].index < ix:=fun j h=>hp j h (by omega)
    repeat (first|(refine gGP ?_;first|refine gp (p_assign rfl) ?_|(refine gGB ?_;refine gp (p_lss rfl rfl) ?_))|(refine gL ?_;first|refine s_gp rfl rfl ?_|refine l_nil ?_)|(refine gC ?_;first|refine c_seq ?_|refine c_region ?_|refine c_exit ?_|refine c_ret ?_|refine c_no rfl (by (simp;omega)) ?_)|(refine gN ?_;first|refine n_then ?_|refine x_then ?_|refine x_here ?_))
    exact ret_tmp rfl rfl ⟨-1,rfl,.inl ⟨rfl,hp2⟩,HM⟩
theorem tookM2 (x : Rcd) (i : AtRcd) (gr : Nat) (f ix : Int) (hv : VR x) (hlead : x.lead = true) (hix : 1 ≤ ix ∧ ix ≤ 60) (hf : 1 ≤ f ∧ f ≤ x.of) (HM : Mem w0 W (boxR 91 40 9 3 66 31 gr x i ++ L)) : Calls Tryz.prog 69 #[.pointer (some ⟨gr,0,none⟩),.int .i64 f,.int .i64 ix] W fun e W'=>∃ j,j.a0 = i.a0 ∧ j.a3 = i.a3 ∧ e = .returned (.tuple #[]) ∧ Mem w0 W' (boxR 91 40 9 3 66 31 gr (ackL x ix f) j ++ L):=by
  refine enter Tryz.func69 rfl Tryz.ntmps69 [(0,_),(1,_),(2,_)] rfl ⟨rfl,rfl,rfl,trivial⟩ ?_
  have ha:=acks_len hv.acks
  have hfr : ∀ a ∈ x.acks,a.frm.length ≤ 5 ∧ a.frm.Pairwise (· < ·):=fun a ha=>⟨nums_len (hv.acks.all a ha).2 hv.of5,(hv.acks.all a ha).2.sorted⟩
  simp only [boxR,partRcd,List.cons_append,List.nil_append] at HM
  repeat (first|(refine gL ?_;refine s_pv (p_makeFunc rfl rfl) rfl ?_)|(refine gGP ?_;first|refine gp (p_move rfl) ?_|refine gp (p_assign rfl) ?_|(refine gGB ?_;refine gp (p_lss rfl rfl) ?_)|refine gp (p_field rfl (by simp only [Nat.reduceAdd];rfl)) ?_)|(refine gGV ?_;refine gv (p_load rfl) ?_)|(refine gL ?_;first|refine s_gp rfl rfl ?_|refine s_gv HM rfl ?_|refine s_pv (p_nil rfl) rfl ?_|(refine gCall ?_;(refine s_fn rfl rfl ?_;(go_at_call 101;obtain ⟨F1,hF1⟩:=HM.own (A:=i.a6.1);have HB:=(Mem.start _).robox (HM.heap (g:=g));refine (indexAck g ix (ro_acks hF1) (by omega) HB).mono ?_;clear hF1;rintro e W1 ⟨r,rfl,hr,HM1⟩;refine ⟨_,rfl,?_⟩;have HM2:=HM.step HM1.below;clear HM HM1 HB;have HM:=HM2;clear HM2)))|(refine s_box HM rfl rfl ?_;clear HM;intro g W1 HM)|refine l_nil ?_)|(refine gC ?_;first|refine c_seq ?_|refine c_region ?_)|(refine gN ?_;refine n_then ?_))
  obtain ⟨R,hR,HMn⟩:=HM.nam
  clear HM
  have HM:=HMn
  clear HMn
  refine c_cutn (σ:=Nat) (fun k=>[(0,.pointer (some ⟨gr,0,none⟩)),(1,.int .i64 f),(5,.pointer (some ⟨g,0,none⟩)),(6,.int .i64 k)]) (fun k W1=>k ≤ x.acks.length ∧ (∀ j (h : j < x.acks.length),j < k → x.acks[j].index < ix) ∧ (∀ h : k < x.acks.length,ix ≤ x.acks[k].index) ∧ Mem w0 W1 R) ?_ ?_
  · subst hR
    rcases hr with ⟨rfl,hp⟩|⟨k,rfl,hp,hk,hq⟩
    · repeat (first|(refine gGP ?_;first|refine gp (p_move rfl) ?_|refine gp (p_assign rfl) ?_|refine gp (p_field rfl (by simp only [Nat.reduceAdd];rfl)) ?_|refine gp (p_len rfl) ?_)|(refine gGV ?_;refine gv (p_load rfl) ?_)|(refine gL ?_;first|refine s_gp rfl rfl ?_|refine s_gv HM rfl ?_|refine s_pv (p_nil rfl) rfl ?_|refine l_nil ?_)|(refine gC ?_;first|refine c_region ?_|refine c_yes rfl (by rfl) ?_))
      exact n_mid x.acks.length (by repeat (first|exact trivial|refine And.intro (by first|rfl|exact look_int rfl (by omega)) ?_)) ⟨Nat.le_refl _,fun j h _=>hp j h,fun h=>absurd h (Nat.lt_irrefl _),HM⟩
    · repeat ((refine gC ?_;first|refine c_skip ?_|refine c_no rfl (by rfl) ?_))
      exact n_mid k (by repeat (first|exact trivial|refine And.intro (by first|rfl|exact look_int rfl (by omega)) ?_)) ⟨by omega,hp,fun _=>hq,HM⟩
  clear HM hr
  subst hR
  rintro k W1 ⟨hk,hp,hq,HM⟩
  refine c_seq ?_
  refine c_cutn (σ:=Nat × List Ack × Option Addr × Nat) (fun s=>[(0,.pointer (some ⟨gr,0,none⟩)),(1,.int .i64 f),(6,.int .i64 s.1)]) (fun s W1=>s.1 < s.2.1.length ∧ s.2.1.length ≤ 61 ∧ (∀ a ∈ s.2.1,a.frm.length ≤ 5 ∧ a.frm.Pairwise (· < ·)) ∧ (∀ h : s.1 < s.2.1.length,ackA x.acks ix f = s.2.1.set s.1 ⟨s.2.1[s.1].index,addL s.2.1[s.1].frm f⟩) ∧ Mem w0 W1 (box gr 31 [.int .i64 x.number,.int .i64 x.of,.bool x.up,.int .i64 x.sp,.int .i64 x.sk,.slice i.a0.1 x.ss.length i.a0.2,.int .i64 x.dp,.int .i64 x.dk,.slice i.a1.1 x.ds.length i.a1.2,.slice i.a2.1 x.held.length i.a2.2,.slice i.a3.1 x.wishes.length i.a3.2,.bool x.lead,.bool x.trying,.int .i64 x.ballot,.slice i.a4.1 x.yes.length i.a4.2,.slice i.a5.1 x.best.length i.a5.2,.slice s.2.2.1 s.2.1.length s.2.2.2,.int .i64 x.heard] :: own (tAck 3) 66 s.2.2.1 s.2.2.2 s.2.1 :: own tSlot 91 i.a0.1 i.a0.2 x.ss :: own tSlot 91 i.a1.1 i.a1.2 x.ds :: own (tMsg 91) 40 i.a2.1 i.a2.2 x.held :: own tStr 9 i.a3.1 i.a3.2 x.wishes :: own tInt 3 i.a4.1 i.a4.2 x.yes :: own tSlot 91 i.a5.1 i.a5.2 x.best :: L)) ?_ ?_
  · by_cases c1 : k < x.acks.length
    · by_cases c2 : x.acks[k].index = ix
      · have e0:=rd_at (d:=tAck 3) c1
        rw [← e0] at c2
        have e:=ackA_in (f:=f) c1 hp (by rw [← e0];exact c2)
        repeat (first|(refine gR ?_;refine d_start [] [(0,0),(0,1),(0,2),(0,3),(1,4),(0,5),(0,6),(0,7),(0,8),(0,9),(0,10),(0,12),(1,11),(0,13),(0,14),(1,15),(1,16),(0,17),(0,18)] HM (by kernel_rfl) (by kernel_rfl) (by repeat (first|exact qp_body|refine qp_then ?_|refine qp_block ?_)) (by kernel_rfl) rfl ?_;intro HQ HS W1 HM1;replace HM:=HM1;clear HM1)|(refine gGP ?_;first|refine gp (p_move rfl) ?_|(refine gGB ?_;first|refine gp (p_eql rfl rfl) ?_|refine gp (p_neq rfl rfl) ?_)|refine gp (p_field rfl (by simp only [Nat.reduceAdd];rfl)) ?_|refine gp (p_fieldo rfl (by simp only [Nat.reduceAdd];rfl)) ?_|refine gp (p_indexo HM rfl (by first|with_reducible rfl|omega) rfl (by omega) (by omega)) ?_|refine gp (p_len rfl) ?_|refine gp (p_pick0 rfl (by first|rfl|(simp;omega)) rfl) ?_|refine gp (p_nil rfl) ?_)|(refine gGV ?_;first|refine gv (p_load rfl) ?_|refine gv (p_loado rfl rfl (by omega) (by omega) rfl) ?_)|(refine gC ?_;first|refine c_seq ?_|refine c_skip ?_|refine c_no rfl (by (simp;omega)) ?_)|(refine gN ?_;refine n_then ?_)|(refine gD ?_;first|refine d_next rfl ?_|refine d_done ?_)|(refine gO ?_;first|refine d_gp HQ HS rfl ?_|refine d_gv HQ HS rfl ?_|refine d_gpg HQ HS rfl rfl rfl (by first|rfl|(simp;omega)) rfl ?_|refine d_gvg HQ HS rfl rfl rfl (by (simp;omega)) rfl ?_))
        exact n_mid (k,x.acks,i.a6.1,i.a6.2) (by repeat (first|exact trivial|refine And.intro (by first|rfl|exact look_int rfl (by omega)) ?_)) ⟨c1,by dsimp only;omega,hfr,fun _=>e,HM.sb⟩
      · have e0:=rd_at (d:=tAck 3) c1
        rw [← e0] at c2
        have e:=ackA_new (f:=f) hk hp (fun h=>by have:=hq h;rw [← e0] at this ⊢;omega)
        have hkl : k ≤ x.acks.length:=hk
        repeat (first|(refine gR ?_;refine d_start [9,12] [(0,0),(0,1),(0,2),(0,3),(0,5),(1,4),(1,6),(2,7),(2,8),(3,9),(0,10),(0,11),(3,12)] HM (by kernel_rfl) (by kernel_rfl) (by repeat (first|exact qp_body|refine qp_then ?_|refine qp_block ?_)) (by kernel_rfl) rfl ?_;intro HQ HS W1 HM1;replace HM:=HM1;clear HM1)|(refine gR ?_;refine d_start [] [(0,0),(0,1),(0,2),(0,3),(1,4),(0,5),(0,6),(0,7),(0,8),(0,9),(0,10),(0,12),(1,11),(0,13),(0,14),(1,15),(1,16),(0,17),(0,18)] HM (by kernel_rfl) (by kernel_rfl) (by repeat (first|exact qp_body|refine qp_then ?_|refine qp_block ?_)) (by kernel_rfl) rfl ?_;intro HQ HS W1 HM1;replace HM:=HM1;clear HM1)|(refine gGP ?_;first|refine gp (p_move rfl) ?_|(refine gGB ?_;first|refine gp (p_eql rfl rfl) ?_|refine gp (p_neq rfl rfl) ?_)|refine gp (p_field rfl (by simp only [Nat.reduceAdd];rfl)) ?_|refine gp (p_fieldo rfl (by simp only [Nat.reduceAdd];rfl)) ?_|refine gp (p_indexo HM rfl (by first|with_reducible rfl|omega) rfl (by omega) (by omega)) ?_|refine gp (p_len rfl) ?_|refine gp (p_build rfl) ?_|refine gp (p_pick0 rfl (by first|rfl|(simp;omega)) rfl) ?_|refine gp (p_nil rfl) ?_)|(refine gGV ?_;first|refine gv (p_load rfl) ?_|refine gv (p_loado rfl rfl (by omega) (by omega) rfl) ?_)|(refine gL ?_;first|refine s_gp rfl rfl ?_|(refine gStore ?_;(refine s_store HM rfl rfl rfl rfl ?_;clear HM;intro W1 HM))|(refine gCall ?_;(refine s_fn rfl rfl ?_;(go_at_call 103;obtain ⟨css,hcl,HM2⟩:=opn_raw (HM.pk (A:=own (tAck 3) 66 i.a6.1 i.a6.2 x.acks));replace HM2:=(show Mem w0 _ (own (tRaw 2) 66 i.a6.1 i.a6.2 css :: _) from HM2);have HM3:=insertA (A:=i.a6.1) (c:=i.a6.2) (css:=css) (cv:=[.int .i64 ix,.slice none 0 0]) k (by rw [hcl];omega) (by rw [hcl];omega) rfl (fun u hu=>by simp only [List.mem_cons,List.not_mem_nil,or_false] at hu;rcases hu with rfl|rfl <;> rfl) ((HM2.pk (A:=box g 66 [.int .i64 ix,.slice none 0 0])).pk (A:=own (tRaw 2) 66 i.a6.1 i.a6.2 css));rw [hcl] at HM3;refine HM3.mono ?_;clear HM2 HM3;rintro e W1 ⟨A1,c1,rfl,HM1⟩;refine ⟨_,rfl,?_⟩;replace HM:=HM1;clear HM1)))|(refine s_lit1 HM rfl rfl rfl ?_;clear HM;intro g W1 HM)|refine l_nil ?_)|(refine gC ?_;first|refine c_seq ?_|refine c_yes rfl (by (simp;omega)) ?_)|(refine gN ?_;first|refine n_then ?_|refine d_back (by first|exact HM|exact HM.drop) ?_|refine d_backT ?_)|(refine gD ?_;first|refine d_next rfl ?_|refine d_done ?_)|(refine gO ?_;first|refine d_gp HQ HS rfl ?_|refine d_gv HQ HS rfl ?_|refine d_one ?_|refine d_last ?_|refine d_gpg HQ HS rfl rfl rfl (by first|rfl|(simp;omega)) rfl ?_|refine d_gvg HQ HS rfl rfl rfl (by (simp;omega)) rfl ?_)|(refine gT ?_;first|refine d_gpT HQ HS rfl rfl ?_|refine d_nextT rfl ?_|refine d_doneT ?_))
        have HA : ∀ W : World,((tAck 3).A (⟨ix,[]⟩ : Ack) [.int .i64 ix,.slice none 0 0]).H W (fun _=>False):=fun W=>⟨(none,0),rfl,fun _=>False,fun _ h=>h.elim,own_nil tInt _,trivial⟩
        have hyl : (css.take k ++ [[Value.int .i64 ix,.slice none 0 0]] ++ css.drop k).length = (x.acks.take k ++ [(⟨ix,[]⟩ : Ack)] ++ x.acks.drop k).length:=by simp [hcl]
        have HM2:=lels_ins (a:=(⟨ix,[]⟩ : Ack)) (cv:=[.int .i64 ix,.slice none 0 0]) k HA (by omega) (HM.pk (A:=lels (tAck 3) x.acks css))
        have HM3:=cls_raw (D:=tAck 3) (HM2.pk (A:=own (tRaw 2) 66 A1 c1 (css.take k ++ [[Value.int .i64 ix,.slice none 0 0]] ++ css.drop k)))
        rw [hyl] at HM3
        clear HM HM2
        obtain ⟨hy1,hy2,hy3⟩:=ack_ins (l:=x.acks) (k:=k) ⟨ix,[]⟩ (by omega) (ys:=x.acks.take k ++ [(⟨ix,[]⟩ : Ack)] ++ x.acks.drop k) (by rw [List.nil_append])
        have hy4 : ∀ a ∈ x.acks.take k ++ [(⟨ix,[]⟩ : Ack)] ++ x.acks.drop k,a.frm.length ≤ 5 ∧ a.frm.Pairwise (· < ·):=fun a ha=>by
          simp only [List.mem_append,List.mem_singleton] at ha
          rcases ha with (ha|ha)|ha
          · exact hfr a (List.mem_of_mem_take ha)
          · subst ha;exact ⟨by simp,List.Pairwise.nil⟩
          · exact hfr a (List.mem_of_mem_drop ha)
        exact n_mid (k,x.acks.take k ++ [(⟨ix,[]⟩ : Ack)] ++ x.acks.drop k,A1,c1) (by repeat (first|exact trivial|refine And.intro (by first|rfl|exact look_int rfl (by omega)) ?_)) ⟨by rw [hy1];omega,by rw [hy1];omega,hy4,fun h=>by dsimp only;rw [hy3,hy2 h];exact e,HM3.sb⟩
    · have e:=ackA_new (f:=f) hk hp (fun h=>absurd h c1)
      obtain rfl : k = x.acks.length:=by omega
      repeat (first|(refine gR ?_;refine d_start [9,12] [(0,0),(0,1),(0,2),(0,3),(0,5),(1,4),(1,6),(2,7),(2,8),(3,9),(0,10),(0,11),(3,12)] HM (by kernel_rfl) (by kernel_rfl) (by repeat (first|exact qp_body|refine qp_then ?_|refine qp_block ?_)) (by kernel_rfl) rfl ?_;intro HQ HS W1 HM1;replace HM:=HM1;clear HM1)|(refine gR ?_;refine d_start [] [(0,0),(0,1),(0,2),(0,3),(1,4),(0,5),(0,6),(0,7),(0,8),(0,9),(0,10),(0,12),(1,11),(0,13),(0,14),(1,15),(1,16),(0,17),(0,18)] HM (by kernel_rfl) (by kernel_rfl) (by repeat (first|exact qp_body|refine qp_then ?_|refine qp_block ?_)) (by kernel_rfl) rfl ?_;intro HQ HS W1 HM1;replace HM:=HM1;clear HM1)|(refine gGP ?_;first|refine gp (p_move rfl) ?_|(refine gGB ?_;refine gp (p_eql rfl rfl) ?_)|refine gp (p_field rfl (by simp only [Nat.reduceAdd];rfl)) ?_|refine gp (p_len rfl) ?_|refine gp (p_build rfl) ?_|refine gp (p_pick1 rfl (by first|rfl|(simp;done)|fail) rfl) ?_|refine gp (p_nil rfl) ?_)|(refine gGV ?_;refine gv (p_load rfl) ?_)|(refine gL ?_;first|refine s_gp rfl rfl ?_|(refine gStore ?_;(refine s_store HM rfl rfl rfl rfl ?_;clear HM;intro W1 HM))|(refine gCall ?_;(refine s_fn rfl rfl ?_;(go_at_call 103;obtain ⟨css,hcl,HM2⟩:=opn_raw (HM.pk (A:=own (tAck 3) 66 i.a6.1 i.a6.2 x.acks));replace HM2:=(show Mem w0 _ (own (tRaw 2) 66 i.a6.1 i.a6.2 css :: _) from HM2);have HM3:=insertA (A:=i.a6.1) (c:=i.a6.2) (css:=css) (cv:=[.int .i64 ix,.slice none 0 0]) x.acks.length (by rw [hcl];omega) (by rw [hcl];omega) rfl (fun u hu=>by simp only [List.mem_cons,List.not_mem_nil,or_false] at hu;rcases hu with rfl|rfl <;> rfl) ((HM2.pk (A:=box g 66 [.int .i64 ix,.slice none 0 0])).pk (A:=own (tRaw 2) 66 i.a6.1 i.a6.2 css));rw [hcl] at HM3;refine HM3.mono ?_;clear HM2 HM3;rintro e W1 ⟨A1,c1,rfl,HM1⟩;refine ⟨_,rfl,?_⟩;replace HM:=HM1;clear HM1)))|(refine s_lit1 HM rfl rfl rfl ?_;clear HM;intro g W1 HM)|refine l_nil ?_)|(refine gC ?_;first|refine c_seq ?_|refine c_yes rfl (by rfl) ?_)|(refine gN ?_;first|refine n_then ?_|refine d_back (by first|exact HM|exact HM.drop) ?_|refine d_backT ?_)|(refine gD ?_;first|refine d_next rfl ?_|refine d_done ?_)|(refine gO ?_;first|refine d_gp HQ HS rfl ?_|refine d_gv HQ HS rfl ?_|refine d_one ?_|refine d_last ?_|refine d_off (.inl rfl) HQ HS rfl rfl rfl rfl (by first|(simp;done)|fail) rfl rfl ?_|refine d_off (.inr rfl) HQ HS rfl rfl rfl rfl (by first|(simp;done)|fail) rfl rfl ?_)|(refine gT ?_;first|refine d_gpT HQ HS rfl rfl ?_|refine d_nextT rfl ?_|refine d_doneT ?_))
      have HA : ∀ W : World,((tAck 3).A (⟨ix,[]⟩ : Ack) [.int .i64 ix,.slice none 0 0]).H W (fun _=>False):=fun W=>⟨(none,0),rfl,fun _=>False,fun _ h=>h.elim,own_nil tInt _,trivial⟩
      have hyl : (css.take x.acks.length ++ [[Value.int .i64 ix,.slice none 0 0]] ++ css.drop x.acks.length).length = (x.acks.take x.acks.length ++ [(⟨ix,[]⟩ : Ack)] ++ x.acks.drop x.acks.length).length:=by simp [hcl]
      have HM2:=lels_ins (a:=(⟨ix,[]⟩ : Ack)) (cv:=[.int .i64 ix,.slice none 0 0]) x.acks.length HA (by omega) (HM.pk (A:=lels (tAck 3) x.acks css))
      have HM3:=cls_raw (D:=tAck 3) (HM2.pk (A:=own (tRaw 2) 66 A1 c1 (css.take x.acks.length ++ [[Value.int .i64 ix,.slice none 0 0]] ++ css.drop x.acks.length)))
      rw [hyl] at HM3
      clear HM HM2
      obtain ⟨hy1,hy2,hy3⟩:=ack_ins (l:=x.acks) (k:=x.acks.length) ⟨ix,[]⟩ (by omega) (ys:=x.acks.take x.acks.length ++ [(⟨ix,[]⟩ : Ack)] ++ x.acks.drop x.acks.length) (by rw [List.nil_append])
      have hy4 : ∀ a ∈ x.acks.take x.acks.length ++ [(⟨ix,[]⟩ : Ack)] ++ x.acks.drop x.acks.length,a.frm.length ≤ 5 ∧ a.frm.Pairwise (· < ·):=fun a ha=>by
        simp only [List.mem_append,List.mem_singleton] at ha
        rcases ha with (ha|ha)|ha
        · exact hfr a (List.mem_of_mem_take ha)
        · subst ha;exact ⟨by simp,List.Pairwise.nil⟩
        · exact hfr a (List.mem_of_mem_drop ha)
      exact n_mid (x.acks.length,x.acks.take x.acks.length ++ [(⟨ix,[]⟩ : Ack)] ++ x.acks.drop x.acks.length,A1,c1) (by repeat (first|exact trivial|refine And.intro (by first|rfl|exact look_int rfl (by omega)) ?_)) ⟨by rw [hy1];omega,by rw [hy1];omega,hy4,fun h=>by dsimp only;rw [hy3,hy2 h];exact e,HM3.sb⟩
  clear HM
  rintro ⟨q,ys,A,c⟩ W1 ⟨hq1,hq2,hq3,hq4,HM⟩
  dsimp only at hq1 hq2 hq3 hq4 HM ⊢
  have hq5:=hq3 _ (List.getElem_mem hq1)
  have e:=hq4 hq1
  obtain ⟨j,HMo⟩:=opn_ack (HM.pk (A:=own (tAck 3) 66 A c ys)) q hq1
  clear HM
  have HM:=HMo.perm (List.Perm.swap ..)
  clear HMo
  repeat (first|(refine gR ?_;refine d_startd [17] [(0,0),(0,1),(0,2),(0,4),(0,5),(0,6),(0,7),(0,9),(0,13),(1,3),(1,8),(0,10),(0,11),(1,12),(2,14),(0,15),(0,16),(3,17)] HM (by kernel_rfl) (by kernel_rfl) (by repeat (first|exact qp_body|refine qp_then ?_|refine qp_block ?_)) (by kernel_rfl) rfl ?_;intro HQ HS W1 HM1;replace HM:=HM1;clear HM1)|(refine gGP ?_;first|refine gp (p_move rfl) ?_|refine gp (p_field rfl (by simp only [Nat.reduceAdd];rfl)) ?_|refine gp (p_fieldo rfl (by simp only [Nat.reduceAdd];rfl)) ?_|refine gp (p_indexh HM rfl (by first|with_reducible rfl|omega) rfl (by omega) (by omega)) ?_|refine gp (p_len rfl) ?_|refine gp (p_nil rfl) ?_)|(refine gGV ?_;first|refine gv (p_load rfl) ?_|refine gv (p_loadh rfl rfl rfl) ?_)|(refine gL ?_;first|refine s_gp rfl rfl ?_|refine s_gv HM rfl ?_|refine s_pv (p_nil rfl) rfl ?_|(refine gStore ?_;(refine s_storeh HM rfl rfl rfl rfl rfl rfl ?_;clear HM;intro W1 HM;(try dsimp only at HM)))|(refine gCall ?_;(refine s_fn rfl rfl ?_;(go_at_call 99;refine (joinC f hq5.2 (by omega) (by exact HM.pk)).mono ?_;rintro e2 W2 ⟨A2,c2,rfl,HM1⟩;refine ⟨_,rfl,?_⟩;replace HM:=HM1;clear HM1)))|refine l_nil ?_)|(refine gC ?_;first|refine c_seq ?_|refine c_region ?_|refine c_block ?_)|(refine gN ?_;first|refine n_then ?_|refine d_back (by exact HM.drop) ?_|refine d_backT ?_)|(refine gD ?_;refine d_next rfl ?_)|(refine gO ?_;first|refine d_gp HQ HS rfl ?_|refine d_gv HQ HS rfl ?_|refine d_one ?_|refine d_last ?_)|(refine gT ?_;refine d_doneT ?_))
  have HM1:=cls_ack ((HM.pk (A:=own tInt 3 A2 c2 (addL ys[q].frm f))).pk (A:=hol (tAck 3) 66 A c ys q [.int .i64 ys[q].index,.slice A2 (addL ys[q].frm f).length c2]))
  replace HM:=HM1;clear HM1
  rw [← e] at HM
  have el : ys.length = (ackA x.acks ix f).length:=by rw [e,List.length_set]
  simp only [el] at HM ⊢
  have hl2:=ackA_frm x.acks ix f 5 (fun a ha=>(hfr a ha).1)
  have hl1 : (ackA x.acks ix f).length ≤ 61:=by omega
  rw [show ackL x ix f = advL { x with acks:=ackA x.acks ix f } from rfl]
  obtain ⟨bs,hA⟩ : ∃ bs,bs = ackA x.acks ix f:=⟨_,rfl⟩
  rw [← hA] at HM hl1 hl2 ⊢
  clear e el hA hq3 hq4 hq5 hp hq hfr ha
  have hk0:=hv.disk.k0
  have hk1:=hv.disk.k1
  have hdl:=hv.disk.slots.1
  have hof:=hv.of5
  have hof1:=hv.of1
  refine c_loop (σ:=Nat × Int) (fun s=>[(0,.pointer (some ⟨gr,0,none⟩)),(74,.slice A bs.length c),(75,.int .i64 bs.length),(76,.int .i64 s.1)]) (fun s W1=>s.1 ≤ bs.length ∧ s.2 = (bs.take s.1).foldl (advK { x with acks:=bs }) x.dk ∧ 0 ≤ s.2 ∧ s.2 ≤ x.ds.length ∧ Mem w0 W1 (box gr 31 [.int .i64 x.number,.int .i64 x.of,.bool x.up,.int .i64 x.sp,.int .i64 x.sk,.slice i.a0.1 x.ss.length i.a0.2,.int .i64 x.dp,.int .i64 s.2,.slice i.a1.1 x.ds.length i.a1.2,.slice i.a2.1 x.held.length i.a2.2,.slice i.a3.1 x.wishes.length i.a3.2,.bool x.lead,.bool x.trying,.int .i64 x.ballot,.slice i.a4.1 x.yes.length i.a4.2,.slice i.a5.1 x.best.length i.a5.2,.slice A bs.length c,.int .i64 x.heard] :: own (tAck 3) 66 A c bs :: own tSlot 91 i.a0.1 i.a0.2 x.ss :: own tSlot 91 i.a1.1 i.a1.2 x.ds :: own (tMsg 91) 40 i.a2.1 i.a2.2 x.held :: own tStr 9 i.a3.1 i.a3.2 x.wishes :: own tInt 3 i.a4.1 i.a4.2 x.yes :: own tSlot 91 i.a5.1 i.a5.2 x.best :: L)) (fun s=>bs.length - s.1) (0,x.dk) (by repeat (first|exact trivial|refine And.intro (by first|rfl|exact look_int rfl (by omega)) ?_)) ⟨Nat.zero_le _,rfl,hk0,hk1,HM.sb⟩ ?_
  clear HM
  rintro ⟨k,d⟩ W1 ⟨hk,hd,hd0,hd1,HM⟩
  dsimp only at hk hd hd0 hd1 HM ⊢
  by_cases hlt : k < bs.length
  · have hs1:=hl2 _ (List.getElem_mem hlt)
    have hstep : (bs.take (k + 1)).foldl (advK { x with acks:=bs }) x.dk = advK { x with acks:=bs } d bs[k]:=by rw [List.take_succ_eq_append_getElem hlt,List.foldl_append,← hd];rfl
    obtain ⟨j,HMo⟩:=opn_ack (HM.pk (A:=own (tAck 3) 66 A c bs)) k hlt
    clear HM
    have HM:=HMo
    clear HMo
    have hset : bs.set k ⟨bs[k].index,bs[k].frm⟩ = bs:=List.set_getElem_self hlt
    generalize bs[k] = a at *
    have hx:=advK_in (x:={ x with acks:=bs }) (a:=a) hd0 hd1
    by_cases t1 : a.index = d + 1
    rotate_left
    · rw [advK,if_neg (fun h=>t1 h.1)] at hstep hx
      repeat (first|(refine gR ?_;refine d_start [] [(0,0),(0,2),(0,3),(0,4),(1,1),(1,5),(0,6),(0,7),(0,8),(0,9),(0,13),(0,14),(0,15),(1,10),(0,11),(0,12),(1,16),(0,17),(0,18),(0,19),(0,20),(0,21),(0,22),(0,25),(1,23),(0,24),(1,26),(0,27),(0,28),(0,29),(0,30),(0,31),(0,32),(0,34),(0,40),(0,41),(0,42),(1,33),(1,35),(0,36),(0,37),(0,38),(1,39),(1,43),(0,44),(0,45)] HM (by kernel_rfl) (by kernel_rfl) (by repeat (first|exact qp_body|refine qp_then ?_|refine qp_block ?_)) (by kernel_rfl) rfl ?_;intro HQ HS W1 HM1;replace HM:=HM1;clear HM1)|(refine gGP ?_;first|refine gp (p_move rfl) ?_|refine gp (p_assign rfl) ?_|(refine gGB ?_;first|refine gp (p_lss rfl rfl) ?_|refine gp (p_eql rfl rfl) ?_|refine gp (p_add rfl rfl (by exact wr (by omega) (by omega))) ?_)|refine gp (p_field rfl (by simp only [Nat.reduceAdd];rfl)) ?_|refine gp (p_indexh HM rfl (by first|with_reducible rfl|omega) rfl (by omega) (by omega)) ?_|refine gp (p_pick0 rfl (by first|rfl|(simp;omega)) rfl) ?_|refine gp (p_nil rfl) ?_)|(refine gGV ?_;first|refine gv (p_load rfl) ?_|refine gv (p_loadsh rfl rfl rfl) ?_)|(refine gL ?_;first|refine s_gp rfl rfl ?_|refine s_gv HM rfl ?_|refine s_pv (p_nil rfl) rfl ?_|(refine gStore ?_;(refine s_store HM rfl rfl rfl rfl ?_;clear HM;intro W1 HM))|(refine s_alloc HM rfl ?_;clear HM;intro g W1 HM)|refine l_nil ?_)|(refine gC ?_;first|refine c_seq ?_|refine c_region ?_|refine c_block ?_|refine c_skip ?_|refine c_yes rfl (by (simp;omega)) ?_|refine c_no rfl (by rfl) ?_)|(refine gN ?_;first|refine n_then ?_|refine n_block ?_)|(refine gD ?_;first|refine d_next rfl ?_|refine d_done ?_)|(refine gO ?_;first|refine d_gp HQ HS rfl ?_|refine d_gv HQ HS rfl ?_|refine d_off (.inl rfl) HQ HS rfl rfl rfl rfl (by first|rfl|(simp;omega)) rfl rfl ?_|refine d_off (.inr rfl) HQ HS rfl rfl rfl rfl (by first|rfl|(simp;omega)) rfl rfl ?_))
      have HM1:=cls_ack ((HM.pk (A:=own tInt 3 j.1 j.2 a.frm)).pk (A:=hol (tAck 3) 66 A c bs k [.int .i64 a.index,.slice j.1 a.frm.length j.2]))
      rw [hset] at HM1
      exact n_round (k + 1,d) (by repeat (first|exact trivial|refine And.intro (by first|rfl|exact look_int rfl (by omega)) ?_)) ⟨by dsimp only;omega,hstep.symm,hd0,hd1,HM1.sb⟩ (by dsimp only;omega)
    by_cases t2 : x.of < 2 * (a.frm.length : Int)
    rotate_left
    · rw [advK,if_neg (fun h=>t2 h.2.1)] at hstep hx
      repeat (first|(refine gR ?_;refine d_start [] [(0,0),(0,2),(0,3),(0,4),(1,1),(1,5),(0,6),(0,7),(0,8),(0,9),(0,13),(0,14),(0,15),(1,10),(0,11),(0,12),(1,16),(0,17),(0,18),(0,19),(0,20),(0,21),(0,22),(0,25),(1,23),(0,24),(1,26),(0,27),(0,28),(0,29),(0,30),(0,31),(0,32),(0,34),(0,40),(0,41),(0,42),(1,33),(1,35),(0,36),(0,37),(0,38),(1,39),(1,43),(0,44),(0,45)] HM (by kernel_rfl) (by kernel_rfl) (by repeat (first|exact qp_body|refine qp_then ?_|refine qp_block ?_)) (by kernel_rfl) rfl ?_;intro HQ HS W1 HM1;replace HM:=HM1;clear HM1)|(refine gGP ?_;first|refine gp (p_move rfl) ?_|refine gp (p_assign rfl) ?_|(refine gGB ?_;first|refine gp (p_lss rfl rfl) ?_|refine gp (p_eql rfl rfl) ?_|refine gp (p_gtr rfl rfl) ?_|refine gp (p_add rfl rfl (by first|exact wr (by omega) (by omega)|rfl)) ?_|refine gp (p_mul rfl rfl (by exact wr (by omega) (by omega))) ?_)|refine gp (p_field rfl (by simp only [Nat.reduceAdd];rfl)) ?_|refine gp (p_indexh HM rfl (by first|with_reducible rfl|omega) rfl (by omega) (by omega)) ?_|refine gp (p_len rfl) ?_|refine gp (p_pick1 rfl (by first|rfl|(simp;omega)) rfl) ?_|refine gp (p_pick0 rfl (by first|rfl|(simp;omega)) rfl) ?_|refine gp (p_nil rfl) ?_)|(refine gGV ?_;first|refine gv (p_load rfl) ?_|refine gv (p_loadsh rfl rfl rfl) ?_)|(refine gL ?_;first|refine s_gp rfl rfl ?_|refine s_gv HM rfl ?_|refine s_pv (p_nil rfl) rfl ?_|(refine gStore ?_;(refine s_store HM rfl rfl rfl rfl ?_;clear HM;intro W1 HM))|(refine s_alloc HM rfl ?_;clear HM;intro g W1 HM)|refine l_nil ?_)|(refine gC ?_;first|refine c_seq ?_|refine c_region ?_|refine c_block ?_|refine c_skip ?_|refine c_yes rfl (by (simp;omega)) ?_|refine c_no rfl (by rfl) ?_)|(refine gN ?_;first|refine n_then ?_|refine n_block ?_)|(refine gD ?_;first|refine d_next rfl ?_|refine d_done ?_)|(refine gO ?_;first|refine d_gp HQ HS rfl ?_|refine d_gv HQ HS rfl ?_|refine d_gpg HQ HS rfl rfl rfl (by first|rfl|(simp;omega)) rfl ?_|refine d_gvg HQ HS rfl rfl rfl (by first|rfl|(simp;omega)) rfl ?_|refine d_off (.inl rfl) HQ HS rfl rfl rfl rfl (by first|rfl|(simp;omega)) rfl rfl ?_|refine d_off (.inr rfl) HQ HS rfl rfl rfl rfl (by first|rfl|(simp;omega)) rfl rfl ?_))
      have HM1:=cls_ack ((HM.pk (A:=own tInt 3 j.1 j.2 a.frm)).pk (A:=hol (tAck 3) 66 A c bs k [.int .i64 a.index,.slice j.1 a.frm.length j.2]))
      rw [hset] at HM1
      exact n_round (k + 1,d) (by repeat (first|exact trivial|refine And.intro (by first|rfl|exact look_int rfl (by omega)) ?_)) ⟨by dsimp only;omega,hstep.symm,hd0,hd1,HM1.sb⟩ (by dsimp only;omega)
    by_cases t3 : a.index ≤ x.ds.length
    rotate_left
    · rw [advK,if_neg (fun h=>t3 h.2.2.1)] at hstep hx
      repeat (first|(refine gR ?_;refine d_start [] [(0,0),(0,2),(0,3),(0,4),(1,1),(1,5),(0,6),(0,7),(0,8),(0,9),(0,13),(0,14),(0,15),(1,10),(0,11),(0,12),(1,16),(0,17),(0,18),(0,19),(0,20),(0,21),(0,22),(0,25),(1,23),(0,24),(1,26),(0,27),(0,28),(0,29),(0,30),(0,31),(0,32),(0,34),(0,40),(0,41),(0,42),(1,33),(1,35),(0,36),(0,37),(0,38),(1,39),(1,43),(0,44),(0,45)] HM (by kernel_rfl) (by kernel_rfl) (by repeat (first|exact qp_body|refine qp_then ?_|refine qp_block ?_)) (by kernel_rfl) rfl ?_;intro HQ HS W1 HM1;replace HM:=HM1;clear HM1)|(refine gGP ?_;first|refine gp (p_move rfl) ?_|refine gp (p_assign rfl) ?_|(refine gGB ?_;first|refine gp (p_lss rfl rfl) ?_|refine gp (p_eql rfl rfl) ?_|refine gp (p_gtr rfl rfl) ?_|refine gp (p_geq rfl rfl) ?_|refine gp (p_add rfl rfl (by first|exact wr (by omega) (by omega)|rfl)) ?_|refine gp (p_mul rfl rfl (by exact wr (by omega) (by omega))) ?_)|refine gp (p_field rfl (by simp only [Nat.reduceAdd];rfl)) ?_|refine gp (p_indexh HM rfl (by first|with_reducible rfl|omega) rfl (by omega) (by omega)) ?_|refine gp (p_len rfl) ?_|refine gp (p_pick1 rfl (by first|rfl|(simp;omega)) rfl) ?_|refine gp (p_pick0 rfl (by first|rfl|(simp;omega)) rfl) ?_|refine gp (p_nil rfl) ?_)|(refine gGV ?_;first|refine gv (p_load rfl) ?_|refine gv (p_loadsh rfl rfl rfl) ?_)|(refine gL ?_;first|refine s_gp rfl rfl ?_|refine s_gv HM rfl ?_|refine s_pv (p_nil rfl) rfl ?_|(refine gStore ?_;(refine s_store HM rfl rfl rfl rfl ?_;clear HM;intro W1 HM))|(refine s_alloc HM rfl ?_;clear HM;intro g W1 HM)|refine l_nil ?_)|(refine gC ?_;first|refine c_seq ?_|refine c_region ?_|refine c_block ?_|refine c_skip ?_|refine c_yes rfl (by (simp;omega)) ?_|refine c_no rfl (by rfl) ?_)|(refine gN ?_;first|refine n_then ?_|refine n_block ?_)|(refine gD ?_;first|refine d_next rfl ?_|refine d_done ?_)|(refine gO ?_;first|refine d_gp HQ HS rfl ?_|refine d_gv HQ HS rfl ?_|refine d_gpg HQ HS rfl rfl rfl (by first|rfl|(simp;omega)) rfl ?_|refine d_gvg HQ HS rfl rfl rfl (by first|rfl|(simp;omega)) rfl ?_|refine d_off (.inl rfl) HQ HS rfl rfl rfl rfl (by (simp;omega)) rfl rfl ?_|refine d_off (.inr rfl) HQ HS rfl rfl rfl rfl (by (simp;omega)) rfl rfl ?_))
      have HM1:=cls_ack ((HM.pk (A:=own tInt 3 j.1 j.2 a.frm)).pk (A:=hol (tAck 3) 66 A c bs k [.int .i64 a.index,.slice j.1 a.frm.length j.2]))
      rw [hset] at HM1
      exact n_round (k + 1,d) (by repeat (first|exact trivial|refine And.intro (by first|rfl|exact look_int rfl (by omega)) ?_)) ⟨by dsimp only;omega,hstep.symm,hd0,hd1,HM1.sb⟩ (by dsimp only;omega)
    by_cases t4 : (rd tSlot x.ds (a.index - 1)).ballot = x.ballot
    rotate_left
    · rw [advK,if_neg (fun h=>t4 h.2.2.2)] at hstep hx
      repeat (first|(refine gR ?_;refine d_start [] [(0,0),(0,2),(0,3),(0,4),(1,1),(1,5),(0,6),(0,7),(0,8),(0,9),(0,13),(0,14),(0,15),(1,10),(0,11),(0,12),(1,16),(0,17),(0,18),(0,19),(0,20),(0,21),(0,22),(0,25),(1,23),(0,24),(1,26),(0,27),(0,28),(0,29),(0,30),(0,31),(0,32),(0,34),(0,40),(0,41),(0,42),(1,33),(1,35),(0,36),(0,37),(0,38),(1,39),(1,43),(0,44),(0,45)] HM (by kernel_rfl) (by kernel_rfl) (by repeat (first|exact qp_body|refine qp_then ?_|refine qp_block ?_)) (by kernel_rfl) rfl ?_;intro HQ HS W1 HM1;replace HM:=HM1;clear HM1)|(refine gGP ?_;first|refine gp (p_move rfl) ?_|refine gp (p_assign rfl) ?_|(refine gGB ?_;first|refine gp (p_lss rfl rfl) ?_|refine gp (p_eql rfl rfl) ?_|refine gp (p_gtr rfl rfl) ?_|refine gp (p_geq rfl rfl) ?_|refine gp (p_add rfl rfl (by first|exact wr (by omega) (by omega)|rfl)) ?_|refine gp (p_sub rfl rfl (by first|exact wr (by omega) (by omega)|rfl)) ?_|refine gp (p_mul rfl rfl (by exact wr (by omega) (by omega))) ?_)|refine gp (p_field rfl (by simp only [Nat.reduceAdd];rfl)) ?_|refine gp (p_fieldo rfl (by simp only [Nat.reduceAdd];rfl)) ?_|refine gp (p_indexo HM rfl (by first|with_reducible rfl|omega) rfl (by omega) (by omega)) ?_|refine gp (p_indexh HM rfl (by first|with_reducible rfl|omega) rfl (by omega) (by omega)) ?_|refine gp (p_len rfl) ?_|refine gp (p_pick1 rfl (by first|rfl|(simp;omega)) rfl) ?_|refine gp (p_nil rfl) ?_)|(refine gGV ?_;first|refine gv (p_load rfl) ?_|refine gv (p_loado rfl rfl (by omega) (by omega) rfl) ?_|refine gv (p_loadsh rfl rfl rfl) ?_)|(refine gL ?_;first|refine s_gp rfl rfl ?_|refine s_gv HM rfl ?_|refine s_pv (p_nil rfl) rfl ?_|(refine gStore ?_;(refine s_store HM rfl rfl rfl rfl ?_;clear HM;intro W1 HM))|(refine s_alloc HM rfl ?_;clear HM;intro g W1 HM)|refine l_nil ?_)|(refine gC ?_;first|refine c_seq ?_|refine c_region ?_|refine c_block ?_|refine c_skip ?_|refine c_yes rfl (by (simp;omega)) ?_|refine c_no rfl (by (simp;omega)) ?_)|(refine gN ?_;first|refine n_then ?_|refine n_block ?_)|(refine gD ?_;first|refine d_next rfl ?_|refine d_done ?_)|(refine gO ?_;first|refine d_gp HQ HS rfl ?_|refine d_gv HQ HS rfl ?_|refine d_gpg HQ HS rfl rfl rfl (by first|rfl|(simp;omega)) rfl ?_|refine d_gvg HQ HS rfl rfl rfl (by (simp;omega)) rfl ?_))
      have HM1:=cls_ack ((HM.pk (A:=own tInt 3 j.1 j.2 a.frm)).pk (A:=hol (tAck 3) 66 A c bs k [.int .i64 a.index,.slice j.1 a.frm.length j.2]))
      rw [hset] at HM1
      exact n_round (k + 1,d) (by repeat (first|exact trivial|refine And.intro (by first|rfl|exact look_int rfl (by omega)) ?_)) ⟨by dsimp only;omega,hstep.symm,hd0,hd1,HM1.sb⟩ (by dsimp only;omega)
    rw [advK,if_pos ⟨t1,t2,t3,t4⟩] at hstep hx
    repeat (first|(refine gR ?_;refine d_start [] [(0,0),(0,2),(0,3),(0,4),(1,1),(1,5),(0,6),(0,7),(0,8),(0,9),(0,13),(0,14),(0,15),(1,10),(0,11),(0,12),(1,16),(0,17),(0,18),(0,19),(0,20),(0,21),(0,22),(0,25),(1,23),(0,24),(1,26),(0,27),(0,28),(0,29),(0,30),(0,31),(0,32),(0,34),(0,40),(0,41),(0,42),(1,33),(1,35),(0,36),(0,37),(0,38),(1,39),(1,43),(0,44),(0,45)] HM (by kernel_rfl) (by kernel_rfl) (by repeat (first|exact qp_body|refine qp_then ?_|refine qp_block ?_)) (by kernel_rfl) rfl ?_;intro HQ HS W1 HM1;replace HM:=HM1;clear HM1)|(refine gGP ?_;first|refine gp (p_move rfl) ?_|refine gp (p_assign rfl) ?_|(refine gGB ?_;first|refine gp (p_lss rfl rfl) ?_|refine gp (p_eql rfl rfl) ?_|refine gp (p_gtr rfl rfl) ?_|refine gp (p_geq rfl rfl) ?_|refine gp (p_add rfl rfl (by first|exact wr (by omega) (by omega)|rfl)) ?_|refine gp (p_sub rfl rfl (by first|exact wr (by omega) (by omega)|rfl)) ?_|refine gp (p_mul rfl rfl (by exact wr (by omega) (by omega))) ?_)|refine gp (p_field rfl (by simp only [Nat.reduceAdd];rfl)) ?_|refine gp (p_fieldo rfl (by simp only [Nat.reduceAdd];rfl)) ?_|refine gp (p_indexo HM rfl (by first|with_reducible rfl|omega) rfl (by omega) (by omega)) ?_|refine gp (p_indexh HM rfl (by first|with_reducible rfl|omega) rfl (by omega) (by omega)) ?_|refine gp (p_len rfl) ?_|refine gp (p_pick1 rfl (by first|rfl|(simp;omega)) rfl) ?_|refine gp (p_nil rfl) ?_)|(refine gGV ?_;first|refine gv (p_load rfl) ?_|refine gv (p_loado rfl rfl (by omega) (by omega) rfl) ?_|refine gv (p_loadsh rfl rfl rfl) ?_)|(refine gL ?_;first|refine s_gp rfl rfl ?_|refine s_gv HM rfl ?_|refine s_pv (p_nil rfl) rfl ?_|(refine gStore ?_;(refine s_store HM rfl rfl rfl rfl ?_;clear HM;intro W1 HM))|(refine s_alloc HM rfl ?_;clear HM;intro g W1 HM)|refine l_nil ?_)|(refine gC ?_;first|refine c_seq ?_|refine c_region ?_|refine c_block ?_|refine c_skip ?_|refine c_yes rfl (by (simp;omega)) ?_)|(refine gN ?_;first|refine n_then ?_|refine n_block ?_)|(refine gD ?_;first|refine d_next rfl ?_|refine d_done ?_)|(refine gO ?_;first|refine d_gp HQ HS rfl ?_|refine d_gv HQ HS rfl ?_|refine d_gpg HQ HS rfl rfl rfl (by first|rfl|(simp;omega)) rfl ?_|refine d_gvg HQ HS rfl rfl rfl (by (simp;omega)) rfl ?_))
    have HM1:=cls_ack ((HM.pk (A:=own tInt 3 j.1 j.2 a.frm)).pk (A:=hol (tAck 3) 66 A c bs k [.int .i64 a.index,.slice j.1 a.frm.length j.2]))
    rw [hset] at HM1
    exact n_round (k + 1,a.index) (by repeat (first|exact trivial|refine And.intro (by first|rfl|exact look_int rfl (by omega)) ?_)) ⟨by dsimp only;omega,hstep.symm,hx.1,hx.2,HM1.sb⟩ (by dsimp only;omega)
  · obtain rfl : k = bs.length:=by omega
    rw [List.take_length] at hd
    repeat (first|(refine gGP ?_;(refine gGB ?_;refine gp (p_lss rfl rfl) ?_))|(refine gL ?_;first|refine s_gp rfl rfl ?_|refine l_nil ?_)|(refine gC ?_;first|refine c_seq ?_|refine c_region ?_|refine c_exit ?_|refine c_no rfl (by first|(simp;done)|fail) ?_)|(refine gN ?_;first|refine n_then ?_|refine x_then ?_|refine x_here ?_))
    exact end_none rfl ⟨⟨i.a0,i.a1,i.a2,i.a3,i.a4,i.a5,(A,c)⟩,rfl,rfl,rfl,by simp only [advL,← hd,boxR,partRcd,List.cons_append,List.nil_append];exact HM.sb⟩
theorem tookM (x : Rcd) (i : AtRcd) (gr : Nat) (f ix : Int) (hv : VR x) (hlead : x.lead = true) (hix : 1 ≤ ix ∧ ix ≤ 60) (hf : 1 ≤ f ∧ f ≤ x.of) (HM : Mem w0 W (boxR 91 40 9 3 66 31 gr x i ++ L)) : Calls Tryz.prog 69 #[.pointer (some ⟨gr,0,none⟩),.int .i64 f,.int .i64 ix] W fun e W'=>∃ j,e = .returned (.tuple #[]) ∧ Mem w0 W' (boxR 91 40 9 3 66 31 gr (ackL x ix f) j ++ L):=(tookM2 x i gr f ix hv hlead hix hf HM).mono fun e W' ⟨j,_,_,h⟩=>⟨j,h⟩
end Go.Proofs.YtampmicahnnebaaGreat.Sp
namespace Go.Proofs.YtampmicahnnebaaGreat.Sp
open Go Go.RowKit
set_option maxRecDepth 10000
set_option maxHeartbeats 4000000
variable {w0 W : World} {L : List Asn}
theorem p_min {P : Program} {E : Env} {x y : Operand} {ts : Array TypeId} {k : IntKind} {m q : Int} (hx : ev E x = some (.int k m)) (hy : ev E y = some (.int k q)) : PV P E (.call { callee:=.builtin .min,args:=#[x,y],argTypes:=ts }) (.int k (min m q)):=⟨fun n a ha dst ty pos after gd W=>by
  have : (if q < m then q else m) = min m q:=by split <;> omega
  simp [execOp,ha.eval hx,ha.eval hy,resolve,invoke,builtin,Builtin.min_,Builtin.min2,this]⟩
section
variable {P : Program} {n : Nat} {Q Q' : Exit → Act → World → Prop} {E : Env} {W : World} {σ : Type}
theorem then_mid {y : Code} {J : σ → Env} {M : σ → World → Prop} (h : ∀ s W,M s W → WC P n y Q (J s) W) : ∀ e a w,Exit.then (MidP n J M) Q' e a w → Exit.then (y.wp P Q) Q' e a w:=fun e a w hq=>by
  cases e with
  | normal=>exact mid_wp h hq
  | _=>exact hq
theorem c_cutn2 {c z y : Code} (J : σ → Env) (M : σ → World → Prop) (h1 : WC P n c (Exit.then (z.wp P (Exit.then (MidP n J M) Q')) (Exit.then (MidP n J M) Q')) E W) (h2 : ∀ s W,M s W → WC P n y Q (J s) W) : WC P n c (Exit.then (z.wp P (Exit.then (y.wp P Q) Q')) (Exit.then (y.wp P Q) Q')) E W:=⟨fun a ha=>by
  refine wp_mono (h1.out a ha) fun e a' w' hq=>?_
  cases e with
  | normal=>exact wp_mono (Q:=Exit.then (MidP n J M) Q') hq (then_mid h2)
  | exit k=>exact then_mid (Q':=Q') h2 (.exit k) a' w' hq
  | goto l=>exact then_mid (Q':=Q') h2 (.goto l) a' w' hq
  | ret=>exact then_mid (Q':=Q') h2 .ret a' w' hq
  | panic l=>exact then_mid (Q':=Q') h2 (.panic l) a' w' hq
  | outgrown=>exact then_mid (Q':=Q') h2 .outgrown a' w' hq⟩
end
theorem app_right {R : List Asn} (h : Mem w0 W (R ++ L)) : Mem w0 W L:=by
  obtain ⟨F,_,_,h3⟩:=SepIn.append h.sep
  exact ⟨h.below,h3.mono (fun k hk=>hk.1)⟩
theorem known_all {L' : List Asn} {e : Nat} (x : Rcd) (i : AtRcd) (gr : Nat) (hk0 : 0 ≤ x.dk) (hk1 : x.dk ≤ x.ds.length) (hc : x.ds.length ≤ i.a1.2) [hB : BoxAt L' gr 31 [.int .i64 x.number,.int .i64 x.of,.bool x.up,.int .i64 x.sp,.int .i64 x.sk,.slice i.a0.1 x.ss.length i.a0.2,.int .i64 x.dp,.int .i64 x.dk,.slice i.a1.1 x.ds.length i.a1.2,.slice i.a2.1 x.held.length i.a2.2,.slice i.a3.1 x.wishes.length i.a3.2,.bool x.lead,.bool x.trying,.int .i64 x.ballot,.slice i.a4.1 x.yes.length i.a4.2,.slice i.a5.1 x.best.length i.a5.2,.slice i.a6.1 x.acks.length i.a6.2,.int .i64 x.heard]] {c : Nat} [hO : OwnAt L' i.a1.1 c Slot tSlot e x.ds] : ∀ (R : List Asn) (t : ByteArray) (W' : World),Mem w0 W' (R ++ L') → Calls Tryz.prog 67 #[.pointer (some ⟨gr,0,none⟩),.string t] W' fun e W''=>e = .returned (.bool (knownB (x.ds.take x.dk.toNat) t)) ∧ Mem w0 W'' (R ++ L'):=fun R t W' h=>by
  have h':=app_right h
  obtain ⟨F1,hF1⟩:=h'.own (A:=i.a1.1)
  refine (knownM x i gr t hk0 hk1 hc (ro_slots hF1) (h'.heap (g:=gr)) (Mem.start _)).mono ?_
  rintro e W1 ⟨rfl,HM1⟩
  exact ⟨rfl,h.step HM1.below⟩
theorem set_app (y : Rcd) (s : Slot) : setL y ((y.ds.length : Int) + 1) s = { y with ds:=y.ds ++ [s] }:=by
  have h1 : ((y.ds.length : Int) + 1).toNat = y.ds.length + 1:=by omega
  have h2 : ((y.ds.length : Int) + 1 - 1).toNat = y.ds.length:=by omega
  simp only [setL,padL,h1,h2]
  rw [show y.ds.length + 1 - y.ds.length = 1 by omega,List.replicate_one,List.set_append,if_neg (by omega),Nat.sub_self]
  rfl
theorem tickOffM (x : Rcd) (i : AtRcd) (gr : Nat) (hu : x.up = false) (HM : Mem w0 W (boxR 91 40 9 3 66 31 gr x i ++ L)) : Calls Tryz.prog 22 #[.pointer (some ⟨gr,0,none⟩)] W fun e W'=>∃ j,e = .returned (.slice none 0 0) ∧ Mem w0 W' (boxR 91 40 9 3 66 31 gr x j ++ L):=by
  refine enter Tryz.func22 rfl Tryz.ntmps22 [(0,_)] rfl ⟨rfl,trivial⟩ ?_
  simp only [boxR,partRcd,List.cons_append,List.nil_append] at HM
  repeat (first|(refine gGP ?_;first|refine gp (p_assign rfl) ?_|refine gp (p_field rfl (by simp only [Nat.reduceAdd];rfl)) ?_|refine gp (p_not rfl) ?_)|(refine gGV ?_;refine gv (p_load rfl) ?_)|(refine gL ?_;first|refine s_gp rfl rfl ?_|refine s_gv HM rfl ?_|refine s_pv (p_nil rfl) rfl ?_|(refine s_box HM rfl rfl ?_;clear HM;intro g W1 HM)|refine l_nil ?_)|(refine gC ?_;first|refine c_seq ?_|refine c_region ?_|refine c_ret ?_|refine c_yes rfl (by (simp;omega)) ?_)|(refine gN ?_;first|refine n_then ?_|refine r_then ?_))
  exact ret_tmp rfl rfl ⟨i,rfl,by simp only [boxR,partRcd,List.cons_append,List.nil_append];exact HM.sb⟩
theorem tickM (x : Rcd) (i : AtRcd) (gr : Nat) (hv : VR x) (hu : x.up = true) (HM : Mem w0 W (boxR 91 40 9 3 66 31 gr x i ++ L)) : Calls Tryz.prog 22 #[.pointer (some ⟨gr,0,none⟩)] W fun e W'=>∃ j A c,e = .returned (.slice A (tickOut x).length c) ∧ Mem w0 W' (own (tMsg 91) 40 A c (tickOut x) :: (boxR 91 40 9 3 66 31 gr (tickL x) j ++ L)):=by
  refine enter Tryz.func22 rfl Tryz.ntmps22 [(0,_)] rfl ⟨rfl,trivial⟩ ?_
  have hdl:=hv.disk.slots.1
  have hdk0:=hv.disk.k0
  have hdk1:=hv.disk.k1
  have hhl:=hv.heldLen
  have hwl:=hv.wishes.len
  have hh0:=hv.h0
  have hh1:=hv.h1
  simp only [boxR,partRcd,List.cons_append,List.nil_append] at HM
  have hcd : x.ds.length ≤ i.a1.2:=by obtain ⟨F1,hF1⟩:=HM.own (A:=i.a1.1);exact (own_max hF1).2
  repeat (first|(refine gR ?_;refine d_start [8] [(1,0),(1,1),(0,2),(0,3),(1,4),(2,5),(0,6),(0,7),(3,8)] HM (by kernel_rfl) (by kernel_rfl) (by repeat (first|exact qp_body|refine qp_then ?_|refine qp_block ?_)) (by kernel_rfl) rfl ?_;intro HQ HS W1 HM1;replace HM:=HM1;clear HM1)|(refine gGP ?_;first|refine gp (p_assign rfl) ?_|refine gp (p_field rfl (by simp only [Nat.reduceAdd];rfl)) ?_|refine gp (p_not rfl) ?_|refine gp (p_nil rfl) ?_)|(refine gGV ?_;first|refine gv (p_load rfl) ?_|refine gv (p_loads rfl) ?_)|(refine gL ?_;first|refine s_gp rfl rfl ?_|refine s_gv HM rfl ?_|refine s_pv (p_nil rfl) rfl ?_|(refine gStore ?_;(refine s_store HM rfl rfl rfl rfl ?_;clear HM;intro W1 HM))|(refine gCall ?_;(refine s_fn rfl rfl ?_;(go_at_call 64;obtain ⟨F1,hF1⟩:=HM.own (A:=i.a1.1);refine (cloneDisk_c x.dp x.dk (ro_slots hF1) (by omega) (Mem.start _)).mono ?_;clear hF1;rintro e W1 ⟨A3,c3,rfl,HM1⟩;refine ⟨_,rfl,?_⟩;replace HM:=HM.join HM1;clear HM1;simp only [List.cons_append,List.nil_append] at HM)))|(refine s_box HM rfl rfl ?_;clear HM;intro g W1 HM)|(refine s_alloc HM rfl ?_;clear HM;intro g W1 HM)|refine l_nil ?_)|(refine gC ?_;first|refine c_seq ?_|refine c_region ?_|refine c_skip ?_|refine c_no rfl (by first|rfl|(simp;omega)) ?_)|(refine gN ?_;first|refine n_then ?_|refine d_back (by exact HM.drop) ?_|refine d_backT ?_)|(refine gD ?_;refine d_next rfl ?_)|(refine gO ?_;first|refine d_gp HQ HS rfl ?_|refine d_gv HQ HS rfl ?_|refine d_one ?_|refine d_last ?_)|(refine gT ?_;refine d_doneT ?_))
  have HM2:=(HM.nil (tMsg 91) 40).pk (A:=own tStr 9 i.a3.1 i.a3.2 x.wishes)
  clear HM
  have HM:=HM2
  clear HM2
  obtain ⟨g3,hg3⟩ : ∃ g3,g3 = g:=⟨_,rfl⟩
  subst hg3
  obtain ⟨g1,hg1⟩ : ∃ q,q = g:=⟨_,rfl⟩
  subst hg1
  repeat (first|(refine gGP ?_;refine gp (p_min rfl rfl) ?_)|(refine gO ?_;refine d_pv HQ HS (p_makeFunc rfl rfl) rfl ?_)|(refine gR ?_;refine d_startd [10] [(1,0),(1,1),(0,2),(0,3),(1,4),(1,5),(0,6),(2,7),(0,8),(0,9),(3,10)] HM (by kernel_rfl) (by kernel_rfl) (by repeat (first|exact qp_body|refine qp_then ?_|refine qp_block ?_)) (by kernel_rfl) rfl ?_;intro HQ HS W1 HM1;replace HM:=HM1;clear HM1)|(refine gR ?_;refine d_start [9] [(1,0),(1,1),(0,2),(0,3),(1,4),(0,5),(0,6),(0,7),(0,8),(3,9)] HM (by kernel_rfl) (by kernel_rfl) (by repeat (first|exact qp_body|refine qp_then ?_|refine qp_block ?_)) (by kernel_rfl) rfl ?_;intro HQ HS W1 HM1;replace HM:=HM1;clear HM1)|(refine gGP ?_;first|(refine gGB ?_;refine gp (p_add rfl rfl (by exact wr (by omega) (by omega))) ?_)|refine gp (p_field rfl (by simp only [Nat.reduceAdd];rfl)) ?_|refine gp (p_nil rfl) ?_)|(refine gGV ?_;refine gv (p_load rfl) ?_)|(refine gL ?_;first|(refine gStore ?_;(refine s_store HM rfl rfl rfl rfl ?_;clear HM;intro W1 HM))|(refine gCall ?_;(refine s_fn rfl rfl ?_;(go_at_call 66;refine (deleteStr (gr:=gr) (knownB (x.ds.take x.dk.toNat)) (known_all (e:=91) { x with sp:=x.dp,sk:=x.dk,ss:=x.ds,held:=[] } ⟨(A3,c3),i.a1,(none,0),i.a3,i.a4,i.a5,i.a6⟩ gr hdk0 hdk1 hcd) (by omega) (by exact HM)).mono ?_;rintro e W1 ⟨rfl,HM1⟩;refine ⟨_,rfl,?_⟩;replace HM:=HM1;clear HM1)))|refine l_nil ?_)|(refine gC ?_;refine c_seq ?_)|(refine gN ?_;first|refine n_then ?_|refine d_back (by exact HM.drop) ?_|refine d_backT ?_)|(refine gD ?_;refine d_next rfl ?_)|(refine gO ?_;first|refine d_gp HQ HS rfl ?_|refine d_gv HQ HS rfl ?_|refine d_one ?_|refine d_last ?_)|(refine gT ?_;refine d_doneT ?_))
  have eY : { x with sp:=x.dp,sk:=x.dk,ss:=x.ds,held:=[],wishes:=x.wishes.filter (fun w=>!knownB (x.ds.take x.dk.toNat) w),heard:=min (x.heard + 1) 1000000 } = tick1 x:=by
    unfold tick1
    have h1 : min (x.heard + 1) 1000000 = (if x.heard < 1000000 then x.heard + 1 else x.heard):=by split <;> omega
    have h2 : (fun w=>!knownB (x.ds.take x.dk.toNat) w) = (fun w=>!hasB (x.ds.take x.dk.toNat) w):=funext fun w=>by rw [known_eq (validB_iff.2 hv)]
    rw [h1,h2]
  have HMn:=(show Mem w0 _ (boxR 91 40 9 3 66 31 gr { x with sp:=x.dp,sk:=x.dk,ss:=x.ds,held:=[],wishes:=x.wishes.filter (fun w=>!knownB (x.ds.take x.dk.toNat) w),heard:=min (x.heard + 1) 1000000 } ⟨(A3,c3),i.a1,(none,0),i.a3,i.a4,i.a5,i.a6⟩ ++ (own (tMsg 91) 40 i.a2.1 i.a2.2 x.held :: box g3 26 [.slice i.a2.1 x.held.length i.a2.2] :: box g1 93 [.pointer (some ⟨gr,0,none⟩)] :: L)) from by simp only [boxR,partRcd,List.cons_append,List.nil_append];exact HM.sb).name
  clear HM
  obtain ⟨R,hR,HM⟩:=HMn
  rw [eY] at HM
  obtain ⟨J,hJ⟩ : ∃ J : AtRcd,J = ⟨(A3,c3),i.a1,(none,0),i.a3,i.a4,i.a5,i.a6⟩:=⟨_,rfl⟩
  rw [← hJ] at HM
  obtain ⟨hv1,k1⟩:=vr_tick1 hv hu
  have hO : tickOut x = (if (tick2 (tick1 x)).lead = true then leadOut (lead1 (tick2 (tick1 x))) x.held else x.held):=rfl
  have hT : tickL x = (if (tick2 (tick1 x)).lead = true then lead1 (tick2 (tick1 x)) else tick3 (tick2 (tick1 x))):=rfl
  rw [hO,hT]
  clear hO hT eY hJ
  generalize tick1 x = y at *
  refine c_cutn2 (σ:=AtRcd) (fun s=>[(1,.pointer (some ⟨g1,0,none⟩)),(3,.pointer (some ⟨g3,0,none⟩))]) (fun s W1=>Mem w0 W1 (boxR 91 40 9 3 66 31 gr (tick2 y) s ++ R)) ?_ ?_
  · subst hR
    simp only [boxR,partRcd,List.cons_append,List.nil_append] at HM
    by_cases c1 : y.trying = true
    rotate_left
    · have e : tick2 y = y:=if_neg (fun h=>c1 h.1)
      simp only [Bool.not_eq_true] at c1
      repeat (first|(refine gR ?_;refine d_start [] [(1,0),(0,1),(0,2),(1,3),(0,4),(1,5),(0,6),(0,7),(0,8),(1,9),(1,10),(0,11),(0,12),(1,13),(0,14),(0,15)] HM (by kernel_rfl) (by kernel_rfl) (by repeat (first|exact qp_body|refine qp_then ?_|refine qp_block ?_)) (by kernel_rfl) rfl ?_;intro HQ HS W1 HM1;replace HM:=HM1;clear HM1)|(refine gGP ?_;first|refine gp (p_move rfl) ?_|refine gp (p_field rfl (by simp only [Nat.reduceAdd];rfl)) ?_|refine gp (p_pick0 rfl (by first|rfl|assumption) rfl) ?_|refine gp (p_nil rfl) ?_)|(refine gGV ?_;refine gv (p_load rfl) ?_)|(refine gC ?_;first|refine c_skip ?_|refine c_no rfl (by rfl) ?_)|(refine gN ?_;refine n_then ?_)|(refine gD ?_;first|refine d_next rfl ?_|refine d_done ?_)|(refine gO ?_;first|refine d_gp HQ HS rfl ?_|refine d_gv HQ HS rfl ?_|refine d_off (.inl rfl) HQ HS rfl rfl rfl rfl (by assumption) rfl rfl ?_|refine d_off (.inr rfl) HQ HS rfl rfl rfl rfl (by assumption) rfl rfl ?_))
      exact n_mid J (by repeat (first|exact trivial|refine And.intro (by first|rfl|exact look_int rfl (by omega)) ?_)) (by rw [e];exact pk_boxr HM)
    by_cases c2 : y.sp = y.ballot
    rotate_left
    · have e : tick2 y = y:=if_neg (fun h=>c2 h.2)
      repeat (first|(refine gR ?_;refine d_start [] [(1,0),(0,1),(0,2),(1,3),(0,4),(1,5),(0,6),(0,7),(0,8),(1,9),(1,10),(0,11),(0,12),(1,13),(0,14),(0,15)] HM (by kernel_rfl) (by kernel_rfl) (by repeat (first|exact qp_body|refine qp_then ?_|refine qp_block ?_)) (by kernel_rfl) rfl ?_;intro HQ HS W1 HM1;replace HM:=HM1;clear HM1)|(refine gGP ?_;first|refine gp (p_move rfl) ?_|(refine gGB ?_;refine gp (p_eql rfl rfl) ?_)|refine gp (p_field rfl (by simp only [Nat.reduceAdd];rfl)) ?_|refine gp (p_pick1 rfl (by first|rfl|assumption) rfl) ?_|refine gp (p_nil rfl) ?_)|(refine gGV ?_;refine gv (p_load rfl) ?_)|(refine gC ?_;first|refine c_skip ?_|refine c_no rfl (by (simp;omega)) ?_)|(refine gN ?_;refine n_then ?_)|(refine gD ?_;first|refine d_next rfl ?_|refine d_done ?_)|(refine gO ?_;first|refine d_gp HQ HS rfl ?_|refine d_gv HQ HS rfl ?_|refine d_gpg HQ HS rfl rfl rfl (by first|rfl|assumption) rfl ?_|refine d_gvg HQ HS rfl rfl rfl (by assumption) rfl ?_))
      exact n_mid J (by repeat (first|exact trivial|refine And.intro (by first|rfl|exact look_int rfl (by omega)) ?_)) (by rw [e];exact pk_boxr HM)
    have e : tick2 y = promL y y.number y.ds:=if_pos ⟨c1,c2⟩
    have p0:=hv1.disk.k0
    have p1:=nums_len hv1.yes hv1.of5
    have p2:=hv1.best.1
    have p4:=hv1.disk.slots.1
    repeat (first|(refine gR ?_;refine d_start [] [(1,0),(0,1),(0,2),(1,3),(0,4),(1,5),(0,6),(0,7),(0,8),(1,9),(1,10),(0,11),(0,12),(1,13),(0,14),(0,15)] HM (by kernel_rfl) (by kernel_rfl) (by repeat (first|exact qp_body|refine qp_then ?_|refine qp_block ?_)) (by kernel_rfl) rfl ?_;intro HQ HS W1 HM1;replace HM:=HM1;clear HM1)|(refine gR ?_;refine d_start [10] [(1,0),(1,1),(0,2),(0,3),(1,4),(1,5),(0,6),(0,7),(0,8),(1,9),(3,10)] HM (by kernel_rfl) (by kernel_rfl) (by repeat (first|exact qp_body|refine qp_then ?_|refine qp_block ?_)) (by kernel_rfl) rfl ?_;intro HQ HS W1 HM1;replace HM:=HM1;clear HM1)|(refine gGP ?_;first|refine gp (p_move rfl) ?_|(refine gGB ?_;refine gp (p_eql rfl rfl) ?_)|refine gp (p_field rfl (by simp only [Nat.reduceAdd];rfl)) ?_|refine gp (p_pick1 rfl (by first|rfl|assumption) rfl) ?_|refine gp (p_nil rfl) ?_)|(refine gGV ?_;refine gv (p_load rfl) ?_)|(refine gL ?_;first|(refine gCall ?_;(refine s_fn rfl rfl ?_;(go_at_call 68;have HMp:=(show Mem w0 _ (boxR 91 40 9 3 66 31 gr y J ++ _) from pk_boxr HM);refine (promM y J gr y.number (b:=false) (fun W' h=>by obtain ⟨F1,hF1⟩:=h.own (A:=J.a1.1);exact ro_slots hF1) p0 hv1.yes.sorted (by omega) (by omega) (by omega) (by omega) HMp).mono ?_;clear HMp;rintro e W1 ⟨j3,rfl,HM1⟩;refine ⟨_,rfl,?_⟩;replace HM:=HM1;clear HM1;simp only [boxR,partRcd,List.cons_append,List.nil_append] at HM)))|refine l_nil ?_)|(refine gC ?_;refine c_yes rfl (by (simp;omega)) ?_)|(refine gN ?_;first|refine n_then ?_|refine d_backT ?_)|(refine gD ?_;first|refine d_next rfl ?_|refine d_done ?_)|(refine gO ?_;first|refine d_gp HQ HS rfl ?_|refine d_gv HQ HS rfl ?_|refine d_last ?_|refine d_gpg HQ HS rfl rfl rfl (by first|rfl|assumption) rfl ?_|refine d_gvg HQ HS rfl rfl rfl (by assumption) rfl ?_)|(refine gT ?_;refine d_doneT ?_))
    exact n_mid j3 (by repeat (first|exact trivial|refine And.intro (by first|rfl|exact look_int rfl (by omega)) ?_)) (by rw [e];exact pk_boxr HM)
  clear HM
  rintro jz W1 HM
  obtain ⟨hv2,k2⟩:=vr_tick2 hv1
  have k12:=k1.trans k2
  have hzu : (tick2 y).up = true:=k12.up.trans hu
  have hzo:=k12.of
  have hzn:=k12.number
  clear k1 k2 hv1
  generalize tick2 y = z at *
  have hof : 0 ≤ z.of ∧ z.of ≤ 5:=⟨by have:=hv2.of1;omega,hv2.of5⟩
  by_cases cl : z.lead = true
  · rw [if_pos cl,if_pos cl]
    have HM0:=HM
    rw [hR] at HM
    simp only [boxR,partRcd,List.cons_append,List.nil_append] at HM
    repeat (first|(refine gGP ?_;first|refine gp (p_move rfl) ?_|refine gp (p_field rfl (by simp only [Nat.reduceAdd];rfl)) ?_|refine gp (p_len rfl) ?_)|(refine gGV ?_;refine gv (p_load rfl) ?_)|(refine gL ?_;first|refine s_gp rfl rfl ?_|refine s_gv HM rfl ?_|refine s_pv (p_nil rfl) rfl ?_|refine l_nil ?_)|(refine gC ?_;first|refine c_seq ?_|refine c_region ?_|refine c_block ?_|refine c_yes rfl (by first|rfl|assumption) ?_)|(refine gN ?_;refine n_then ?_))
    clear HM
    refine c_cut (σ:=AtRcd) (fun s=>[(1,.pointer (some ⟨g1,0,none⟩)),(3,.pointer (some ⟨g3,0,none⟩))]) (fun s W1=>Mem w0 W1 (boxR 91 40 9 3 66 31 gr (ackAllL z.ballot z.number z.ss z.ss.length 0 z) s ++ R)) ?_ ?_
    · refine c_loop (σ:=Nat × Rcd) (fun s=>[(1,.pointer (some ⟨g1,0,none⟩)),(3,.pointer (some ⟨g3,0,none⟩)),(84,.slice jz.a0.1 z.ss.length jz.a0.2),(85,.int .i64 z.ss.length),(86,.int .i64 s.1)]) (fun s W1=>s.1 ≤ z.ss.length ∧ ackAllL z.ballot z.number z.ss (z.ss.length - s.1) s.1 s.2 = ackAllL z.ballot z.number z.ss z.ss.length 0 z ∧ VR s.2 ∧ s.2.lead = true ∧ s.2.ss = z.ss ∧ s.2.ballot = z.ballot ∧ s.2.number = z.number ∧ s.2.of = z.of ∧ ∃ j,j.a0 = jz.a0 ∧ Mem w0 W1 (boxR 91 40 9 3 66 31 gr s.2 j ++ R)) (fun s=>z.ss.length - s.1) (0,z) (by repeat (first|exact trivial|refine And.intro (by first|rfl|exact look_int rfl (by omega)) ?_)) ⟨Nat.zero_le _,rfl,hv2,cl,rfl,rfl,rfl,rfl,jz,rfl,HM0⟩ ?_
      clear HM0
      rintro ⟨k,y⟩ W1 ⟨hk,hz,hvy,hly,e1,e2,e3,e4,j,hj,HM⟩
      dsimp only at hk hz hvy hly e1 e2 e3 e4 HM ⊢
      rw [hR] at HM
      simp only [boxR,partRcd,List.cons_append,List.nil_append] at HM
      have hsl:=hv2.safe.slots.1
      have hn1:=hv2.n1
      have hno:=hv2.no
      have elen : z.ss.length = y.ss.length:=by rw [e1]
      rw [← hj]
      by_cases hlt : k < z.ss.length
      · by_cases c1 : (rd tSlot y.ss k).ballot = y.ballot
        · have hst : ackAllL z.ballot z.number z.ss (z.ss.length - (k + 1)) (k + 1) (ackL y ((k : Int) + 1) y.number) = ackAllL z.ballot z.number z.ss z.ss.length 0 z:=by
            rw [← hz,show z.ss.length - k = (z.ss.length - (k + 1)) + 1 by omega,ackAllL,if_pos (by rw [← e1,← e2];exact c1),e3]
          have hva:=(vr_ack hvy hly (ix:=(k : Int) + 1) (f:=y.number) ⟨by omega,by omega⟩ (by rw [e3,e4];exact ⟨hn1,hno⟩)).1
          repeat (first|(refine gL ?_;refine s_gv HM rfl ?_;refine gv (p_loadwo rfl rfl rfl (by omega) (by omega)) ?_;simp only [encSlot])|(refine gR ?_;refine d_start [] [(0,0),(1,1),(1,2),(0,3),(0,4),(1,5),(0,6)] HM (by kernel_rfl) (by kernel_rfl) (by repeat (first|exact qp_body|refine qp_then ?_|refine qp_block ?_)) (by kernel_rfl) rfl ?_;intro HQ HS W1 HM1;replace HM:=HM1;clear HM1)|(refine gR ?_;refine d_start [7] [(0,5),(0,6),(1,0),(1,1),(0,2),(0,3),(1,4),(3,7)] HM (by kernel_rfl) (by kernel_rfl) (by repeat (first|exact qp_body|refine qp_then ?_|refine qp_block ?_)) (by kernel_rfl) rfl ?_;intro HQ HS W1 HM1;replace HM:=HM1;clear HM1)|(refine gGP ?_;first|refine gp (p_move rfl) ?_|refine gp (p_assign rfl) ?_|(refine gGB ?_;first|refine gp (p_lss rfl rfl) ?_|refine gp (p_eql rfl rfl) ?_|refine gp (p_add rfl rfl (by exact wr (by omega) (by omega))) ?_)|refine gp (p_field rfl (by simp only [Nat.reduceAdd];rfl)) ?_|refine gp (p_indexo HM rfl (by first|with_reducible rfl|omega) rfl (by omega) (by omega)) ?_|refine gp (p_nil rfl) ?_)|(refine gGV ?_;refine gv (p_load rfl) ?_)|(refine gL ?_;first|refine s_gp rfl rfl ?_|(refine gStore ?_;(refine s_store HM rfl rfl rfl rfl ?_;clear HM;intro W1 HM))|(refine gCall ?_;(refine s_fn rfl rfl ?_;(go_at_call 69;have HMp:=(show Mem w0 _ (boxR 91 40 9 3 66 31 gr y j ++ _) from pk_boxr HM);refine (tookM2 y j gr y.number ((k : Int) + 1) hvy hly ⟨by omega,by omega⟩ (by rw [e3,e4];exact ⟨hn1,hno⟩) HMp).mono ?_;clear HMp;rintro e W1 ⟨j2,h2,_,rfl,HM1⟩;refine ⟨_,rfl,?_⟩;replace HM:=HM1;clear HM1;simp only [boxR,partRcd,List.cons_append,List.nil_append] at HM)))|(refine s_alloc HM rfl ?_;clear HM;intro g W1 HM)|refine l_nil ?_)|(refine gC ?_;first|refine c_seq ?_|refine c_region ?_|refine c_block ?_|refine c_skip ?_|refine c_yes rfl (by (simp;omega)) ?_)|(refine gN ?_;first|refine n_then ?_|refine n_block ?_|refine d_backT ?_)|(refine gD ?_;first|refine d_next rfl ?_|refine d_done ?_)|(refine gO ?_;first|refine d_gp HQ HS rfl ?_|refine d_gv HQ HS rfl ?_|refine d_last ?_)|(refine gT ?_;refine d_doneT ?_))
          exact n_round (k + 1,ackL y ((k : Int) + 1) y.number) (by repeat (first|exact trivial|refine And.intro (by first|rfl|exact look_int rfl (by omega)) ?_)) ⟨hlt,hst,hva,hly,e1,e2,e3,e4,j2,h2,by rw [hR];exact (by simp only [boxR,partRcd,List.cons_append,List.nil_append];exact HM.sb)⟩ (by dsimp only;omega)
        · have hst : ackAllL z.ballot z.number z.ss (z.ss.length - (k + 1)) (k + 1) y = ackAllL z.ballot z.number z.ss z.ss.length 0 z:=by
            rw [← hz,show z.ss.length - k = (z.ss.length - (k + 1)) + 1 by omega,ackAllL,if_neg (by rw [← e1,← e2];exact c1)]
          repeat (first|(refine gL ?_;refine s_gv HM rfl ?_;refine gv (p_loadwo rfl rfl rfl (by omega) (by omega)) ?_;simp only [encSlot])|(refine gR ?_;refine d_start [] [(0,0),(1,1),(1,2),(0,3),(0,4),(1,5),(0,6)] HM (by kernel_rfl) (by kernel_rfl) (by repeat (first|exact qp_body|refine qp_then ?_|refine qp_block ?_)) (by kernel_rfl) rfl ?_;intro HQ HS W1 HM1;replace HM:=HM1;clear HM1)|(refine gGP ?_;first|refine gp (p_move rfl) ?_|refine gp (p_assign rfl) ?_|(refine gGB ?_;first|refine gp (p_lss rfl rfl) ?_|refine gp (p_eql rfl rfl) ?_|refine gp (p_add rfl rfl (by exact wr (by omega) (by omega))) ?_)|refine gp (p_field rfl (by simp only [Nat.reduceAdd];rfl)) ?_|refine gp (p_indexo HM rfl (by first|with_reducible rfl|omega) rfl (by omega) (by omega)) ?_|refine gp (p_nil rfl) ?_)|(refine gGV ?_;refine gv (p_load rfl) ?_)|(refine gL ?_;first|refine s_gp rfl rfl ?_|(refine gStore ?_;(refine s_store HM rfl rfl rfl rfl ?_;clear HM;intro W1 HM))|(refine s_alloc HM rfl ?_;clear HM;intro g W1 HM)|refine l_nil ?_)|(refine gC ?_;first|refine c_seq ?_|refine c_region ?_|refine c_block ?_|refine c_skip ?_|refine c_yes rfl (by (simp;omega)) ?_|refine c_no rfl (by (simp;omega)) ?_)|(refine gN ?_;first|refine n_then ?_|refine n_block ?_)|(refine gD ?_;first|refine d_next rfl ?_|refine d_done ?_)|(refine gO ?_;first|refine d_gp HQ HS rfl ?_|refine d_gv HQ HS rfl ?_))
          exact n_round (k + 1,y) (by repeat (first|exact trivial|refine And.intro (by first|rfl|exact look_int rfl (by omega)) ?_)) ⟨hlt,hst,hvy,hly,e1,e2,e3,e4,j,rfl,by rw [hR];exact (by simp only [boxR,partRcd,List.cons_append,List.nil_append];exact HM.sb)⟩ (by dsimp only;omega)
      · rw [show z.ss.length - k = 0 by omega,ackAllL] at hz
        rw [← hz]
        repeat (first|(refine gGP ?_;(refine gGB ?_;refine gp (p_lss rfl rfl) ?_))|(refine gL ?_;first|refine s_gp rfl rfl ?_|refine l_nil ?_)|(refine gC ?_;first|refine c_seq ?_|refine c_region ?_|refine c_exit ?_|refine c_no rfl (by (simp;omega)) ?_)|(refine gN ?_;first|refine n_then ?_|refine x_then ?_|refine x_here ?_))
        exact n_mid j (by repeat (first|exact trivial|refine And.intro (by first|rfl|exact look_int rfl (by omega)) ?_)) (by rw [hR];exact pk_boxr HM)
    clear HM0
    rintro j W1 HM
    obtain ⟨hv3,hl3⟩:=vr_ackAll (b:=z.ballot) (num:=z.number) hv2.safe.slots.1 z.ss.length 0 z (by omega) hv2 cl ⟨hv2.n1,hv2.no⟩
    obtain ⟨k1,k2,k3,k4,k5,k6⟩:=ackAll_keep z.ballot z.number z.ss z.ss.length 0 z
    have hwx:=hv2.wishes
    have hlead1 : lead1 z = z.wishes.foldl layWish (ackAllL z.ballot z.number z.ss z.ss.length 0 z):=rfl
    rw [← k1] at hlead1 hwx
    rw [hlead1]
    obtain ⟨hv4,hl4⟩:=vr_layAll _ _ hv3 hl3 (fun w hw=>by have:=hwx.all w hw;omega)
    clear k1 k2 k3 k4 k5 k6 hv2 cl hlead1 hof hzu hzo hzn hv hu k12
    generalize ackAllL z.ballot z.number z.ss z.ss.length 0 z = y at *
    have HM0:=HM
    rw [hR] at HM
    simp only [boxR,partRcd,List.cons_append,List.nil_append] at HM
    repeat (first|(refine gGP ?_;first|refine gp (p_move rfl) ?_|refine gp (p_field rfl (by simp only [Nat.reduceAdd];rfl)) ?_|refine gp (p_len rfl) ?_)|(refine gGV ?_;refine gv (p_load rfl) ?_)|(refine gL ?_;first|refine s_gp rfl rfl ?_|refine s_gv HM rfl ?_|refine s_pv (p_nil rfl) rfl ?_|refine l_nil ?_)|(refine gC ?_;first|refine c_seq ?_|refine c_region ?_|refine c_block ?_)|(refine gN ?_;refine n_then ?_))
    clear HM
    refine c_cut (σ:=AtRcd) (fun s=>[(1,.pointer (some ⟨g1,0,none⟩)),(3,.pointer (some ⟨g3,0,none⟩))]) (fun s W1=>Mem w0 W1 (boxR 91 40 9 3 66 31 gr (y.wishes.foldl layWish y) s ++ R)) ?_ ?_
    · refine c_loop (σ:=Nat × Rcd) (fun s=>[(1,.pointer (some ⟨g1,0,none⟩)),(3,.pointer (some ⟨g3,0,none⟩)),(110,.slice j.a3.1 y.wishes.length j.a3.2),(111,.int .i64 y.wishes.length),(112,.int .i64 s.1)]) (fun s W1=>s.1 ≤ y.wishes.length ∧ (y.wishes.drop s.1).foldl layWish s.2 = y.wishes.foldl layWish y ∧ VR s.2 ∧ s.2.lead = true ∧ s.2.wishes = y.wishes ∧ ∃ ju,ju.a3 = j.a3 ∧ Mem w0 W1 (boxR 91 40 9 3 66 31 gr s.2 ju ++ R)) (fun s=>y.wishes.length - s.1) (0,y) (by repeat (first|exact trivial|refine And.intro (by first|rfl|exact look_int rfl (by omega)) ?_)) ⟨Nat.zero_le _,rfl,hv3,hl3,rfl,j,rfl,HM0⟩ ?_
      clear HM0
      rintro ⟨k,u⟩ W1 ⟨hk,hz,hvu,hlu,e1,ju,hj,HM⟩
      dsimp only at hk hz hvu hlu e1 HM ⊢
      rw [hR] at HM
      simp only [boxR,partRcd,List.cons_append,List.nil_append] at HM
      have hwl:=hwx.len
      have hdl:=hvu.disk.slots.1
      have elen : y.wishes.length = u.wishes.length:=by rw [e1]
      rw [← hj]
      by_cases hlt : k < y.wishes.length
      · have hlt2 : k < u.wishes.length:=by omega
        have e0 : rd tStr u.wishes k = y.wishes[k]:=by rw [rd_at hlt2];simp only [e1]
        have hst : (y.wishes.drop (k + 1)).foldl layWish (layWish u (rd tStr u.wishes k)) = y.wishes.foldl layWish y:=by
          rw [← hz,List.drop_eq_getElem_cons hlt,List.foldl_cons,e0]
        have hws:=(hwx.all _ (List.getElem_mem hlt)).2
        rw [← e0] at hws
        have hvn:=vr_layWish (w:=rd tStr u.wishes k) hvu hlu hws
        by_cases c1 : hasB u.ds (rd tStr u.wishes k) = true
        · have e : layWish u (rd tStr u.wishes k) = u:=if_neg (fun h=>by rw [c1] at h;cases h.1)
          rw [e] at hst
          repeat (first|(refine gL ?_;refine s_pv (p_makeFunc rfl rfl) rfl ?_)|(refine gGP ?_;first|refine gp (p_move rfl) ?_|(refine gGB ?_;first|refine gp (p_lss rfl rfl) ?_|refine gp (p_add rfl rfl (by exact wr (by omega) (by omega))) ?_)|refine gp (p_field rfl (by simp only [Nat.reduceAdd];rfl)) ?_|refine gp (p_indexo HM rfl (by first|with_reducible rfl|omega) rfl (by omega) (by omega)) ?_|refine gp (p_not rfl) ?_|refine gp (p_pick0 rfl (by (simp;omega)) rfl) ?_)|(refine gGV ?_;first|refine gv (p_load rfl) ?_|refine gv (p_loado rfl rfl (by omega) (by omega) rfl) ?_)|(refine gL ?_;first|refine s_gp rfl rfl ?_|refine s_gv HM rfl ?_|refine s_pv (p_nil rfl) rfl ?_|(refine gStore ?_;(refine s_store HM rfl rfl rfl rfl ?_;clear HM;intro W1 HM))|(refine gCall ?_;(refine s_fn rfl rfl ?_;(go_at_call 70;obtain ⟨F1,hF1⟩:=HM.own (A:=ju.a1.1);have HB:=(Mem.start _).robox (HM.heap (g:=g));refine (containsSlot g (rd tStr u.wishes k) (ro_slots hF1) (by omega) HB).mono ?_;clear hF1;rintro e W1 ⟨rfl,HM1⟩;refine ⟨_,rfl,?_⟩;have HM2:=HM.step HM1.below;clear HM HM1 HB;have HM:=HM2;clear HM2)))|(refine s_alloc HM rfl ?_;clear HM;intro g W1 HM)|refine l_nil ?_|refine s_guard_off rfl rfl rfl rfl (by (simp;omega)) rfl rfl ?_)|(refine gC ?_;first|refine c_seq ?_|refine c_region ?_|refine c_block ?_|refine c_skip ?_|refine c_yes rfl (by (simp;omega)) ?_|refine c_no rfl (by rfl) ?_)|(refine gN ?_;first|refine n_then ?_|refine n_block ?_))
          exact n_round (k + 1,u) (by repeat (first|exact trivial|refine And.intro (by first|rfl|exact look_int rfl (by omega)) ?_)) ⟨hlt,hst,hvu,hlu,e1,ju,rfl,by rw [hR];exact (by simp only [boxR,partRcd,List.cons_append,List.nil_append];exact HM.sb)⟩ (by dsimp only;omega)
        simp only [Bool.not_eq_true] at c1
        by_cases c2 : (u.ds.length : Int) < 60
        · have e : layWish u (rd tStr u.wishes k) = { u with ds:=u.ds ++ [⟨u.ballot,rd tStr u.wishes k⟩] }:=by rw [layWish,if_pos ⟨c1,c2⟩,set_app]
          rw [e] at hst hvn
          repeat (first|(refine gL ?_;refine s_pv (p_makeFunc rfl rfl) rfl ?_)|(refine gR ?_;have HM2:=HM.pk (A:=own tSlot 91 ju.a1.1 ju.a1.2 u.ds);clear HM;have HM:=HM2;clear HM2;(refine gR ?_;refine d_startd [17] [(1,0),(1,1),(0,2),(0,3),(0,4),(1,5),(1,6),(0,7),(0,8),(1,9),(1,10),(2,11),(2,12),(2,13),(0,14),(0,15),(0,16),(3,17)] HM (by kernel_rfl) (by kernel_rfl) (by repeat (first|exact qp_body|refine qp_then ?_|refine qp_block ?_)) (by kernel_rfl) rfl ?_;intro HQ HS W1 HM1;replace HM:=HM1;clear HM1))|(refine gGP ?_;first|refine gp (p_move rfl) ?_|(refine gGB ?_;first|refine gp (p_lss rfl rfl) ?_|refine gp (p_add rfl rfl (by exact wr (by omega) (by omega))) ?_)|refine gp (p_field rfl (by simp only [Nat.reduceAdd];rfl)) ?_|refine gp (p_indexo HM rfl (by first|with_reducible rfl|omega) rfl (by omega) (by omega)) ?_|refine gp (p_len rfl) ?_|refine gp (p_not rfl) ?_|refine gp (p_build rfl) ?_|refine gp (p_pick1 rfl (by first|rfl|(simp;omega)) rfl) ?_|refine gp (p_nil rfl) ?_)|(refine gGV ?_;first|refine gv (p_load rfl) ?_|refine gv (p_loado rfl rfl (by omega) (by omega) rfl) ?_)|(refine gL ?_;first|refine s_gp rfl rfl ?_|refine s_gv HM rfl ?_|refine s_pv (p_nil rfl) rfl ?_|(refine gStore ?_;(refine s_store HM rfl rfl rfl rfl ?_;clear HM;intro W1 HM))|(refine gCall ?_;first|(refine s_fn rfl rfl ?_;(go_at_call 70;obtain ⟨F1,hF1⟩:=HM.own (A:=ju.a1.1);have HB:=(Mem.start _).robox (HM.heap (g:=g));refine (containsSlot g (rd tStr u.wishes k) (ro_slots hF1) (by omega) HB).mono ?_;clear hF1;rintro e W1 ⟨rfl,HM1⟩;refine ⟨_,rfl,?_⟩;have HM2:=HM.step HM1.below;clear HM HM1 HB;have HM:=HM2;clear HM2))|(refine s_append1 HM rfl rfl (by first|with_reducible rfl|omega) rfl rfl (by omega) rfl ?_;intro A1 c1 W1 HM1;replace HM:=HM1;clear HM1))|(refine s_alloc HM rfl ?_;clear HM;intro g W1 HM)|(refine s_lit1 HM rfl rfl rfl ?_;clear HM;intro g W1 HM)|refine l_nil ?_|refine s_guard_on rfl rfl rfl rfl (by (simp;omega)) ?_)|(refine gC ?_;first|refine c_seq ?_|refine c_region ?_|refine c_block ?_|refine c_skip ?_|refine c_yes rfl (by (simp;omega)) ?_)|(refine gN ?_;first|refine n_then ?_|refine n_block ?_|refine d_back (by first|exact HM.drop|exact HM.drop.drop) ?_|refine d_backT ?_)|(refine gD ?_;refine d_next rfl ?_)|(refine gO ?_;first|refine d_gp HQ HS rfl ?_|refine d_gv HQ HS rfl ?_|refine d_one ?_|refine d_last ?_)|(refine gT ?_;refine d_doneT ?_))
          exact n_round (k + 1,{ u with ds:=u.ds ++ [⟨u.ballot,rd tStr u.wishes k⟩] }) (by repeat (first|exact trivial|refine And.intro (by first|rfl|exact look_int rfl (by omega)) ?_)) ⟨hlt,hst,hvn,hlu,e1,⟨ju.a0,(A1,c1),ju.a2,ju.a3,ju.a4,ju.a5,ju.a6⟩,rfl,by rw [hR];exact (by simp only [boxR,partRcd,List.cons_append,List.nil_append];exact HM.sb)⟩ (by dsimp only;omega)
        · have e : layWish u (rd tStr u.wishes k) = u:=if_neg (fun h=>c2 h.2)
          rw [e] at hst
          repeat (first|(refine gL ?_;refine s_pv (p_makeFunc rfl rfl) rfl ?_)|(refine gGP ?_;first|refine gp (p_move rfl) ?_|(refine gGB ?_;first|refine gp (p_lss rfl rfl) ?_|refine gp (p_add rfl rfl (by exact wr (by omega) (by omega))) ?_)|refine gp (p_field rfl (by simp only [Nat.reduceAdd];rfl)) ?_|refine gp (p_indexo HM rfl (by first|with_reducible rfl|omega) rfl (by omega) (by omega)) ?_|refine gp (p_len rfl) ?_|refine gp (p_not rfl) ?_|refine gp (p_pick1 rfl (by (simp;omega)) rfl) ?_)|(refine gGV ?_;first|refine gv (p_load rfl) ?_|refine gv (p_loado rfl rfl (by omega) (by omega) rfl) ?_)|(refine gL ?_;first|refine s_gp rfl rfl ?_|refine s_gv HM rfl ?_|refine s_pv (p_nil rfl) rfl ?_|(refine gStore ?_;(refine s_store HM rfl rfl rfl rfl ?_;clear HM;intro W1 HM))|(refine gCall ?_;(refine s_fn rfl rfl ?_;(go_at_call 70;obtain ⟨F1,hF1⟩:=HM.own (A:=ju.a1.1);have HB:=(Mem.start _).robox (HM.heap (g:=g));refine (containsSlot g (rd tStr u.wishes k) (ro_slots hF1) (by omega) HB).mono ?_;clear hF1;rintro e W1 ⟨rfl,HM1⟩;refine ⟨_,rfl,?_⟩;have HM2:=HM.step HM1.below;clear HM HM1 HB;have HM:=HM2;clear HM2)))|(refine s_alloc HM rfl ?_;clear HM;intro g W1 HM)|refine l_nil ?_|refine s_guard_on rfl rfl rfl rfl (by (simp;omega)) ?_)|(refine gC ?_;first|refine c_seq ?_|refine c_region ?_|refine c_block ?_|refine c_skip ?_|refine c_yes rfl (by (simp;omega)) ?_|refine c_no rfl (by (simp;omega)) ?_)|(refine gN ?_;first|refine n_then ?_|refine n_block ?_))
          exact n_round (k + 1,u) (by repeat (first|exact trivial|refine And.intro (by first|rfl|exact look_int rfl (by omega)) ?_)) ⟨hlt,hst,hvu,hlu,e1,ju,rfl,by rw [hR];exact (by simp only [boxR,partRcd,List.cons_append,List.nil_append];exact HM.sb)⟩ (by dsimp only;omega)
      · rw [List.drop_eq_nil_of_le (by omega),List.foldl_nil] at hz
        rw [← hz]
        repeat (first|(refine gGP ?_;(refine gGB ?_;refine gp (p_lss rfl rfl) ?_))|(refine gL ?_;first|refine s_gp rfl rfl ?_|refine l_nil ?_)|(refine gC ?_;first|refine c_seq ?_|refine c_region ?_|refine c_exit ?_|refine c_no rfl (by (simp;omega)) ?_)|(refine gN ?_;first|refine n_then ?_|refine x_then ?_|refine x_here ?_))
        exact n_mid ju (by repeat (first|exact trivial|refine And.intro (by first|rfl|exact look_int rfl (by omega)) ?_)) (by rw [hR];exact pk_boxr HM)
    clear HM0
    rintro ju W1 HM
    clear hv3 hl3 hwx
    generalize y.wishes.foldl layWish y = u at *
    have huo : 0 ≤ u.of ∧ u.of ≤ 5:=⟨by have:=hv4.of1;omega,hv4.of5⟩
    have hud0:=hv4.disk.k0
    have hud1:=hv4.disk.k1
    have hudl:=hv4.disk.slots.1
    have hnat : ((u.dk.toNat : Nat) : Int) = u.dk:=by omega
    have hlen1:=othersL_len u.number ⟨5,0,0,u.ballot,0,u.dk,⟨#[]⟩,[]⟩ u.of.toNat 1 x.held
    have hO1 : leadOut u x.held = accOut u (u.ds.length - u.dk.toNat) u.dk.toNat (othL u x.held ⟨5,0,0,u.ballot,0,u.dk,⟨#[]⟩,[]⟩):=rfl
    rw [hO1]
    clear hO1
    change (othL u x.held ⟨5,0,0,u.ballot,0,u.dk,⟨#[]⟩,[]⟩).length ≤ _ at hlen1
    obtain ⟨o1,ho1⟩ : ∃ o1,o1 = othL u x.held ⟨5,0,0,u.ballot,0,u.dk,⟨#[]⟩,[]⟩:=⟨_,rfl⟩
    rw [← ho1] at hlen1 ⊢
    rw [hR] at HM
    simp only [boxR,partRcd,List.cons_append,List.nil_append] at HM
    repeat (first|(refine gL ?_;refine s_pv (p_makeFunc rfl rfl) rfl ?_)|(refine gGP ?_;refine gp (p_field rfl (by simp only [Nat.reduceAdd];rfl)) ?_)|(refine gGV ?_;refine gv (p_load rfl) ?_)|(refine gL ?_;first|refine s_gp rfl rfl ?_|refine s_gv HM rfl ?_|refine s_pv (p_nil rfl) rfl ?_|(refine gStore ?_;(refine s_store HM rfl rfl rfl rfl ?_;clear HM;intro W1 HM))|(refine gCall ?_;(refine s_fn rfl rfl ?_;(go_at_call 72;refine (others2M (L:=L) u ju gr (g3:=g3) (g1:=g1) (A:=i.a2.1) (c:=i.a2.2) (o:=x.held) huo (by omega) (by simp only [boxR,partRcd,List.cons_append,List.nil_append];exact HM.sb)).mono ?_;rw [← ho1];rintro e W1 ⟨A1,c1,rfl,HM1⟩;refine ⟨_,rfl,?_⟩;replace HM:=HM1;clear HM1;simp only [boxR,partRcd,List.cons_append,List.nil_append] at HM)))|(refine s_alloc HM rfl ?_;clear HM;intro g W1 HM)|refine l_nil ?_)|(refine gC ?_;first|refine c_seq ?_|refine c_region ?_|refine c_block ?_)|(refine gN ?_;refine n_then ?_))
    obtain ⟨o2,ho2⟩ : ∃ o2,o2 = accOut u (u.ds.length - u.dk.toNat) u.dk.toNat o1:=⟨_,rfl⟩
    rw [← ho2]
    refine c_loop2 (σ:=Nat × List Msg × Nat) (fun s A c=>[(1,.pointer (some ⟨g1,0,none⟩)),(3,.pointer (some ⟨g3,0,none⟩)),(8,.pointer (some ⟨s.2.2,0,none⟩))]) (fun s A c W1=>s.1 ≤ u.ds.length ∧ accOut u (u.ds.length - s.1) s.1 s.2.1 = o2 ∧ s.2.1.length ≤ 1000 + 5 * s.1 ∧ Mem w0 W1 (own (tMsg 91) 40 A c s.2.1 :: box g3 26 [.slice A s.2.1.length c] :: box g1 93 [.pointer (some ⟨gr,0,none⟩)] :: box s.2.2 3 [.int .i64 s.1] :: (boxR 91 40 9 3 66 31 gr u ju ++ L))) (fun s=>u.ds.length - s.1) (u.dk.toNat,o1,g) A1 c1 (by repeat (first|exact trivial|refine And.intro (by first|rfl|exact look_int rfl (by omega)) ?_)) ⟨by dsimp only;omega,ho2.symm,by dsimp only;omega,by dsimp only;rw [hnat];exact (by simp only [boxR,partRcd,List.cons_append,List.nil_append];exact HM.sb)⟩ ?_
    clear HM
    rintro ⟨k,o,g8⟩ A c W1 ⟨hk,hz,hol,HM⟩
    dsimp only at hk hz hol HM ⊢
    simp only [boxR,partRcd,List.cons_append,List.nil_append] at HM
    by_cases hlt : k < u.ds.length
    · rw [show u.ds.length - k = (u.ds.length - (k + 1)) + 1 by omega,accOut] at hz
      have hlen2:=othersL_len u.number ⟨3,0,0,u.ballot,(k : Int) + 1,0,(rd tSlot u.ds k).text,[]⟩ u.of.toNat 1 o
      change (othL u o ⟨3,0,0,u.ballot,(k : Int) + 1,0,(rd tSlot u.ds k).text,[]⟩).length ≤ _ at hlen2
      obtain ⟨o3,ho3⟩ : ∃ o3,o3 = othL u o ⟨3,0,0,u.ballot,(k : Int) + 1,0,(rd tSlot u.ds k).text,[]⟩:=⟨_,rfl⟩
      rw [← ho3] at hz hlen2
      repeat (first|(refine gR ?_;refine d_start [] [(1,0),(1,1),(0,2),(0,3),(0,4),(1,5),(0,6),(0,7)] HM (by kernel_rfl) (by kernel_rfl) (by repeat (first|exact qp_body|refine qp_then ?_|refine qp_block ?_)) (by kernel_rfl) rfl ?_;intro HQ HS W1 HM1;replace HM:=HM1;clear HM1)|(refine gL ?_;refine s_pv (p_makeFunc rfl rfl) rfl ?_)|(refine gGP ?_;first|(refine gGB ?_;first|refine gp (p_lss rfl rfl) ?_|refine gp (p_add rfl rfl (by exact wr (by omega) (by omega))) ?_)|refine gp (p_field rfl (by simp only [Nat.reduceAdd];rfl)) ?_|refine gp (p_len rfl) ?_|refine gp (p_nil rfl) ?_)|(refine gGV ?_;refine gv (p_load rfl) ?_)|(refine gL ?_;first|refine s_gp rfl rfl ?_|refine s_gv HM rfl ?_|(refine gStore ?_;(refine s_store HM rfl rfl rfl rfl ?_;clear HM;intro W1 HM))|(refine gCall ?_;(refine s_fn rfl rfl ?_;(go_at_call 72;refine (others3M (L:=L) u ju gr (g8:=g8) k hlt hudl (g3:=g3) (g1:=g1) (A:=A) (c:=c) (o:=o) huo (by omega) (by simp only [boxR,partRcd,List.cons_append,List.nil_append];exact HM.sb)).mono ?_;rw [← ho3];rintro e W1 ⟨A1,c1,rfl,HM1⟩;refine ⟨_,rfl,?_⟩;replace HM:=HM1;clear HM1;simp only [boxR,partRcd,List.cons_append,List.nil_append] at HM)))|(refine s_alloc HM rfl ?_;clear HM;intro g W1 HM)|refine l_nil ?_)|(refine gC ?_;first|refine c_seq ?_|refine c_region ?_|refine c_block ?_|refine c_skip ?_|refine c_yes rfl (by (simp;omega)) ?_)|(refine gN ?_;first|refine n_then ?_|refine n_block ?_)|(refine gD ?_;first|refine d_next rfl ?_|refine d_done ?_)|(refine gO ?_;first|refine d_gp HQ HS rfl ?_|refine d_gv HQ HS rfl ?_))
      exact n_round2 (k + 1,o3,g) A1 c1 (by repeat (first|exact trivial|refine And.intro (by first|rfl|exact look_int rfl (by omega)) ?_)) ⟨by dsimp only;omega,hz,by dsimp only;omega,by dsimp only;simp only [Int.natCast_add,Int.natCast_one];exact (by simp only [boxR,partRcd,List.cons_append,List.nil_append];exact HM.sb)⟩ (by dsimp only;omega)
    · rw [show u.ds.length - k = 0 by omega,accOut] at hz
      subst hz
      repeat (first|(refine gR ?_;refine d_start [] [(1,0),(1,1),(0,2),(0,3),(0,4),(1,5),(0,6),(0,7)] HM (by kernel_rfl) (by kernel_rfl) (by repeat (first|exact qp_body|refine qp_then ?_|refine qp_block ?_)) (by kernel_rfl) rfl ?_;intro HQ HS W1 HM1;replace HM:=HM1;clear HM1)|(refine gGP ?_;first|refine gp (p_assign rfl) ?_|(refine gGB ?_;refine gp (p_lss rfl rfl) ?_)|refine gp (p_field rfl (by simp only [Nat.reduceAdd];rfl)) ?_|refine gp (p_len rfl) ?_|refine gp (p_nil rfl) ?_)|(refine gGV ?_;refine gv (p_load rfl) ?_)|(refine gL ?_;first|refine s_gp rfl rfl ?_|refine s_gv HM rfl ?_|refine l_nil ?_)|(refine gC ?_;first|refine c_seq ?_|refine c_region ?_|refine c_exit ?_|refine c_ret ?_|refine c_no rfl (by (simp;omega)) ?_)|(refine gN ?_;first|refine n_then ?_|refine x_then ?_|refine x_here ?_|refine r_then ?_)|(refine gD ?_;first|refine d_next rfl ?_|refine d_done ?_)|(refine gO ?_;first|refine d_gp HQ HS rfl ?_|refine d_gv HQ HS rfl ?_))
      exact ret_tmp rfl rfl ⟨ju,A,c,rfl,by simp only [boxR,partRcd,List.cons_append,List.nil_append];exact HM.sb⟩
  rw [if_neg cl,if_neg cl]
  simp only [Bool.not_eq_true] at cl
  have hzh0:=hv2.h0
  have hzh1:=hv2.h1
  have hzn1:=hv2.n1
  have hzn2:=hv2.no
  rw [hR] at HM
  simp only [boxR,partRcd,List.cons_append,List.nil_append] at HM
  by_cases c1 : 4 + 3 * z.number < z.heard
  rotate_left
  · have e : tick3 z = z:=if_neg c1
    rw [e]
    repeat (first|(refine gR ?_;refine d_start [] [(1,0),(0,1),(0,2),(1,3),(1,4),(0,5),(0,6),(1,7),(0,8),(0,9),(0,10)] HM (by kernel_rfl) (by kernel_rfl) (by repeat (first|exact qp_body|refine qp_then ?_|refine qp_block ?_)) (by kernel_rfl) rfl ?_;intro HQ HS W1 HM1;replace HM:=HM1;clear HM1)|(refine gGP ?_;first|refine gp (p_assign rfl) ?_|(refine gGB ?_;first|refine gp (p_gtr rfl rfl) ?_|refine gp (p_add rfl rfl (by first|exact wr (by omega) (by omega)|rfl)) ?_|refine gp (p_mul rfl rfl (by exact wr (by omega) (by omega))) ?_)|refine gp (p_field rfl (by simp only [Nat.reduceAdd];rfl)) ?_|refine gp (p_nil rfl) ?_)|(refine gGV ?_;refine gv (p_load rfl) ?_)|(refine gL ?_;first|refine s_gp rfl rfl ?_|refine s_gv HM rfl ?_|refine s_pv (p_nil rfl) rfl ?_|refine l_nil ?_)|(refine gC ?_;first|refine c_seq ?_|refine c_region ?_|refine c_skip ?_|refine c_ret ?_|refine c_no rfl (by first|assumption|(simp;omega)) ?_)|(refine gN ?_;refine n_then ?_)|(refine gD ?_;first|refine d_next rfl ?_|refine d_done ?_)|(refine gO ?_;first|refine d_gp HQ HS rfl ?_|refine d_gv HQ HS rfl ?_))
    exact ret_tmp rfl rfl ⟨jz,i.a2.1,i.a2.2,rfl,by simp only [boxR,partRcd,List.cons_append,List.nil_append];exact HM.sb⟩
  obtain ⟨b,hb⟩ : ∃ b,b = nextL z.dp z.number z.of:=⟨_,rfl⟩
  have hbr:=nextL_range (a:=z.dp) (n:=z.number) (o:=z.of)
  rw [← hb] at hbr
  have e : tick3 z = (if 0 < b then tick4 z b else { calmL z with heard:=0 }):=by rw [hb];exact if_pos c1
  rw [e]
  clear e
  repeat (first|(refine gR ?_;refine d_start [] [(1,0),(0,1),(0,2),(1,3),(1,4),(0,5),(0,6),(1,7),(0,8),(0,9),(0,10)] HM (by kernel_rfl) (by kernel_rfl) (by repeat (first|exact qp_body|refine qp_then ?_|refine qp_block ?_)) (by kernel_rfl) rfl ?_;intro HQ HS W1 HM1;replace HM:=HM1;clear HM1)|(refine gGP ?_;first|(refine gGB ?_;first|refine gp (p_gtr rfl rfl) ?_|refine gp (p_add rfl rfl (by first|exact wr (by omega) (by omega)|rfl)) ?_|refine gp (p_mul rfl rfl (by exact wr (by omega) (by omega))) ?_)|refine gp (p_field rfl (by simp only [Nat.reduceAdd];rfl)) ?_|refine gp (p_nil rfl) ?_)|(refine gGV ?_;refine gv (p_load rfl) ?_)|(refine gL ?_;first|refine s_gp rfl rfl ?_|refine s_gv HM rfl ?_|refine s_pv (p_nil rfl) rfl ?_|(refine gStore ?_;(refine s_store HM rfl rfl rfl rfl ?_;clear HM;intro W1 HM))|(refine gCall ?_;(refine s_fn rfl rfl ?_;(go_at_call 75;refine (quietM z jz gr (by exact pk_boxr HM)).mono ?_;rintro e W1 ⟨j2,rfl,HM1⟩;refine ⟨_,rfl,?_⟩;replace HM:=HM1;clear HM1;simp only [calmL,boxR,partRcd,List.cons_append,List.nil_append] at HM)))|refine l_nil ?_)|(refine gC ?_;first|refine c_seq ?_|refine c_region ?_|refine c_skip ?_|refine c_yes rfl (by first|rfl|(simp;omega)) ?_|refine c_no rfl (by first|rfl|assumption) ?_)|(refine gN ?_;refine n_then ?_)|(refine gD ?_;first|refine d_next rfl ?_|refine d_done ?_)|(refine gO ?_;first|refine d_gp HQ HS rfl ?_|refine d_gv HQ HS rfl ?_))
  refine c_cutn (σ:=Nat) (fun s=>[(1,.pointer (some ⟨g1,0,none⟩)),(3,.pointer (some ⟨g3,0,none⟩)),(9,.pointer (some ⟨s,0,none⟩))]) (fun s W1=>Mem w0 W1 (box s 3 [.int .i64 b] :: (boxR 91 40 9 3 66 31 gr { calmL z with heard:=0 } j2 ++ R))) ?_ ?_
  · have hbr0:=hbr.1
    refine gR ?_
    refine x_start (ds:=[]) HM (fun w hw=>hw) (by kernel_rfl) (by kernel_rfl) (by repeat (first|exact qp_body|refine qp_then ?_|refine qp_block ?_)) ?_
    intro HQ HS W1 HM1;replace HM:=HM1;clear HM1
    refine x_ld HQ HS 0 rfl (by kernel_rfl) (by kernel_rfl) (by kernel_rfl) (by kernel_rfl) (l':=#[true,false,false,false,false,false,false,false,false,false,false,false,false,false,false,false]) (by kernel_rfl) rfl ?_
    refine gGV ?_;refine gv (p_load rfl) ?_
    refine x_pv HQ HS 1 rfl (by kernel_rfl) (by kernel_rfl) (l':=#[true,true,false,false,false,false,false,false,false,false,false,false,false,false,false,false]) (by kernel_rfl) rfl ?_
    refine gGP ?_;refine gp (p_nil rfl) ?_
    refine x_pv HQ HS 2 rfl (by kernel_rfl) (by kernel_rfl) (l':=#[true,true,true,false,false,false,false,false,false,false,false,false,false,false,false,false]) (by kernel_rfl) rfl ?_
    refine gGP ?_;refine gp (p_field rfl (by simp only [Nat.reduceAdd];rfl)) ?_
    refine x_pv HQ HS 3 rfl (by kernel_rfl) (by kernel_rfl) (l':=#[true,true,true,true,false,false,false,false,false,false,false,false,false,false,false,false]) (by kernel_rfl) rfl ?_
    refine gGP ?_;refine gp (p_field rfl (by simp only [Nat.reduceAdd];rfl)) ?_
    refine x_ld HQ HS 4 rfl (by kernel_rfl) (by kernel_rfl) (by kernel_rfl) (by kernel_rfl) (l':=#[true,true,true,true,true,false,false,false,false,false,false,false,false,false,false,false]) (by kernel_rfl) rfl ?_
    refine gGV ?_;refine gv (p_load rfl) ?_
    refine x_ld HQ HS 5 rfl (by kernel_rfl) (by kernel_rfl) (by kernel_rfl) (by kernel_rfl) (l':=#[true,true,true,true,true,true,false,false,false,false,false,false,false,false,false,false]) (by kernel_rfl) rfl ?_
    refine gGV ?_;refine gv (p_load rfl) ?_
    refine x_pv HQ HS 6 rfl (by kernel_rfl) (by kernel_rfl) (l':=#[true,true,true,true,true,true,true,false,false,false,false,false,false,false,false,false]) (by kernel_rfl) rfl ?_
    refine gGP ?_;refine gp (p_nil rfl) ?_
    refine x_pv HQ HS 7 rfl (by kernel_rfl) (by kernel_rfl) (l':=#[true,true,true,true,true,true,true,true,false,false,false,false,false,false,false,false]) (by kernel_rfl) rfl ?_
    refine gGP ?_;refine gp (p_field rfl (by simp only [Nat.reduceAdd];rfl)) ?_
    refine x_ld HQ HS 8 rfl (by kernel_rfl) (by kernel_rfl) (by kernel_rfl) (by kernel_rfl) (l':=#[true,true,true,true,true,true,true,true,true,false,false,false,false,false,false,false]) (by kernel_rfl) rfl ?_
    refine gGV ?_;refine gv (p_load rfl) ?_
    refine x_ld HQ HS 9 rfl (by kernel_rfl) (by kernel_rfl) (by kernel_rfl) (by kernel_rfl) (l':=#[true,true,true,true,true,true,true,true,true,true,false,false,false,false,false,false]) (by kernel_rfl) rfl ?_
    refine gGV ?_;refine gv (p_load rfl) ?_
    refine x_pv HQ HS 10 rfl (by kernel_rfl) (by kernel_rfl) (l':=#[true,true,true,true,true,true,true,true,true,true,true,false,false,false,false,false]) (by kernel_rfl) rfl ?_
    refine gGP ?_;refine gp (p_nil rfl) ?_
    refine x_pv HQ HS 11 rfl (by kernel_rfl) (by kernel_rfl) (l':=#[true,true,true,true,true,true,true,true,true,true,true,true,false,false,false,false]) (by kernel_rfl) rfl ?_
    refine gGP ?_;refine gp (p_field rfl (by simp only [Nat.reduceAdd];rfl)) ?_
    refine x_ld HQ HS 12 rfl (by kernel_rfl) (by kernel_rfl) (by kernel_rfl) (by kernel_rfl) (l':=#[true,true,true,true,true,true,true,true,true,true,true,true,true,false,false,false]) (by kernel_rfl) rfl ?_
    refine gGV ?_;refine gv (p_load rfl) ?_
    refine x_two 13 14 (by kernel_rfl) rfl rfl (l':=#[true,true,true,true,true,true,true,true,true,true,true,true,true,true,false,false]) (l'':=#[true,true,true,true,true,true,true,true,true,true,true,true,true,false,true,false]) (by kernel_rfl) (by kernel_rfl) (x_go ?_) (x_go ?_)
    · repeat (first|(refine gL ?_;first|(refine gCall ?_;(refine s_fn rfl rfl ?_;(go_at_call 76;refine (nextM z.dp z.number z.of HM).mono ?_;rw [← hb];rintro e W1 ⟨rfl,HM1⟩;refine ⟨_,rfl,?_⟩;replace HM:=HM1;clear HM1)))|refine l_nil ?_)|(refine gN ?_;refine x_back (by exact HM) ?_))
      refine x_one 14 (by kernel_rfl) rfl (l':=#[true,true,true,true,true,true,true,true,true,true,true,true,true,true,true,false]) (by kernel_rfl) (x_go ?_)
      repeat (first|(refine gL ?_;first|(refine s_alloc HM rfl ?_;clear HM;intro g W1 HM)|refine l_nil ?_)|(refine gN ?_;refine x_back (by exact HM.drop) ?_))
      refine x_one 15 (by kernel_rfl) rfl (l':=#[true,true,true,true,true,true,true,true,true,true,true,true,true,true,true,true]) (by kernel_rfl) (x_go ?_)
      repeat (first|(refine gL ?_;first|(refine gStore ?_;(refine s_store HM rfl rfl rfl rfl ?_;clear HM;intro W1 HM))|refine l_nil ?_)|(refine gN ?_;refine x_back (by exact HM.drop) ?_))
      refine x_done (by kernel_rfl) ?_
      exact n_mid g (by repeat (first|exact trivial|refine And.intro (by first|rfl|exact look_int rfl (by omega)) ?_)) (by rw [hR];simp only [calmL,boxR,partRcd,List.cons_append,List.nil_append];exact HM.sb)
    · repeat (first|(refine gL ?_;first|(refine s_alloc HM rfl ?_;clear HM;intro g W1 HM)|refine l_nil ?_)|(refine gN ?_;refine x_back (by exact HM.drop) ?_))
      refine x_one 13 (by kernel_rfl) rfl (l':=#[true,true,true,true,true,true,true,true,true,true,true,true,true,true,true,false]) (by kernel_rfl) (x_go ?_)
      repeat (first|(refine gL ?_;first|(refine gCall ?_;(refine s_fn rfl rfl ?_;(go_at_call 76;refine (nextM z.dp z.number z.of HM).mono ?_;rw [← hb];rintro e W1 ⟨rfl,HM1⟩;refine ⟨_,rfl,?_⟩;replace HM:=HM1;clear HM1)))|refine l_nil ?_)|(refine gN ?_;refine x_back (by exact HM.drop) ?_))
      refine x_one 15 (by kernel_rfl) rfl (l':=#[true,true,true,true,true,true,true,true,true,true,true,true,true,true,true,true]) (by kernel_rfl) (x_go ?_)
      repeat (first|(refine gL ?_;first|(refine gStore ?_;(refine s_store HM rfl rfl rfl rfl ?_;clear HM;intro W1 HM))|refine l_nil ?_)|(refine gN ?_;refine x_back (by exact HM.drop) ?_))
      refine x_done (by kernel_rfl) ?_
      exact n_mid g (by repeat (first|exact trivial|refine And.intro (by first|rfl|exact look_int rfl (by omega)) ?_)) (by rw [hR];simp only [calmL,boxR,partRcd,List.cons_append,List.nil_append];exact HM.sb)
  clear HM
  rintro g9 W1 HM
  dsimp only at HM ⊢
  rw [hR] at HM
  simp only [calmL,boxR,partRcd,List.cons_append,List.nil_append] at HM
  by_cases c2 : 0 < b
  rotate_left
  · rw [if_neg c2]
    repeat (first|(refine gGP ?_;first|refine gp (p_assign rfl) ?_|(refine gGB ?_;refine gp (p_gtr rfl rfl) ?_))|(refine gGV ?_;refine gv (p_load rfl) ?_)|(refine gL ?_;first|refine s_gp rfl rfl ?_|refine s_gv HM rfl ?_|refine l_nil ?_)|(refine gC ?_;first|refine c_seq ?_|refine c_region ?_|refine c_skip ?_|refine c_ret ?_|refine c_no rfl (by (simp;omega)) ?_)|(refine gN ?_;refine n_then ?_))
    exact ret_tmp rfl rfl ⟨j2,i.a2.1,i.a2.2,rfl,by simp only [calmL,boxR,partRcd,List.cons_append,List.nil_append];exact HM.sb⟩
  rw [if_pos c2]
  obtain ⟨u,hu4⟩ : ∃ u,u = holdAll (othL { calmL z with heard:=0,dp:=b,ballot:=b,trying:=true } [] ⟨1,0,0,b,0,0,⟨#[]⟩,[]⟩) { calmL z with heard:=0,dp:=b,ballot:=b,trying:=true }:=⟨_,rfl⟩
  have e4 : tick4 z b = u:=hu4.symm
  rw [e4]
  clear e4
  have HM2:=HM.perm (List.Perm.swap ..)
  clear HM
  have HM:=HM2
  clear HM2
  repeat (first|(refine gR ?_;refine d_startd [14] [(1,0),(1,1),(1,2),(1,3),(1,4),(0,5),(0,6),(0,7),(2,8),(0,9),(0,10),(2,11),(0,12),(0,13),(3,14)] HM (by kernel_rfl) (by kernel_rfl) (by repeat (first|exact qp_body|refine qp_then ?_|refine qp_block ?_)) (by kernel_rfl) rfl ?_;intro HQ HS W1 HM1;replace HM:=HM1;clear HM1)|(refine gL ?_;refine s_pv (p_makeFunc rfl rfl) rfl ?_)|(refine gGP ?_;first|refine gp (p_assign rfl) ?_|(refine gGB ?_;refine gp (p_gtr rfl rfl) ?_)|refine gp (p_field rfl (by simp only [Nat.reduceAdd];rfl)) ?_|refine gp (p_nil rfl) ?_)|(refine gGV ?_;refine gv (p_load rfl) ?_)|(refine gL ?_;first|refine s_gp rfl rfl ?_|refine s_gv HM rfl ?_|(refine gStore ?_;(refine s_store HM rfl rfl rfl rfl ?_;clear HM;intro W1 HM))|(refine gCall ?_;(refine s_fn rfl rfl ?_;(go_at_call 72;refine (others4M (L:=own (tMsg 91) 40 i.a2.1 i.a2.2 x.held :: box g3 26 [.slice i.a2.1 x.held.length i.a2.2] :: L) { calmL z with heard:=0,dp:=b,ballot:=b,trying:=true } j2 gr b (g1:=g1) (g9:=g9) hof (by simp only [calmL,boxR,partRcd,List.cons_append,List.nil_append];exact HM.sb)).mono ?_;rw [← hu4];rintro e W1 ⟨j4,rfl,HM1⟩;refine ⟨_,rfl,?_⟩;replace HM:=HM1;clear HM1;simp only [boxR,partRcd,List.cons_append,List.nil_append] at HM)))|refine l_nil ?_)|(refine gC ?_;first|refine c_seq ?_|refine c_region ?_|refine c_ret ?_|refine c_yes rfl (by (simp;omega)) ?_)|(refine gN ?_;first|refine n_then ?_|refine d_back (by exact HM.drop) ?_|refine d_backT ?_)|(refine gD ?_;refine d_next rfl ?_)|(refine gO ?_;first|refine d_gp HQ HS rfl ?_|refine d_gv HQ HS rfl ?_|refine d_one ?_|refine d_last ?_)|(refine gT ?_;refine d_doneT ?_))
  exact ret_tmp rfl rfl ⟨j4,i.a2.1,i.a2.2,rfl,by simp only [boxR,partRcd,List.cons_append,List.nil_append];exact HM.sb⟩
end Go.Proofs.YtampmicahnnebaaGreat.Sp
namespace Go.Proofs.YtampmicahnnebaaGreat.Sp
open Go Go.RowKit
set_option maxRecDepth 10000
set_option maxHeartbeats 2000000
variable {w0 W : World} {L : List Asn}
theorem clone_l {b : Bool} (x : Rcd) (i : AtRcd) (h : RoRcd b w0 x i) (hn : SmallR x) (HM : Mem w0 W L) : Calls Tryz.prog 21 #[.agg ([.int .i64 x.number,.int .i64 x.of,.bool x.up,.int .i64 x.sp,.int .i64 x.sk,.slice i.a0.1 x.ss.length i.a0.2,.int .i64 x.dp,.int .i64 x.dk,.slice i.a1.1 x.ds.length i.a1.2,.slice i.a2.1 x.held.length i.a2.2,.slice i.a3.1 x.wishes.length i.a3.2,.bool x.lead,.bool x.trying,.int .i64 x.ballot,.slice i.a4.1 x.yes.length i.a4.2,.slice i.a5.1 x.best.length i.a5.2,.slice i.a6.1 x.acks.length i.a6.2,.int .i64 x.heard]).toArray] W fun e W'=>∃ j,e = .returned (.agg (encRcd x j).toArray) ∧ Mem w0 W' (partRcd 91 40 9 3 66 x j ++ L):=clone_c x i h hn HM
theorem implRecTick (x : Rcd) (i : AtRcd) (h : RoRcd false w0 x i) (hc : x.ds.length ≤ i.a1.2 ∧ x.wishes.length ≤ i.a3.2) (hn : SmallR x) (HM : Mem w0 W L) : Calls Tryz.prog 5 #[.agg (encRcd x i).toArray] W fun e W'=>∃ j A c,e = .returned (.tuple #[.agg (encRcd (recTickL x) j).toArray,.slice A (recTickO x).length c]) ∧ Mem w0 W' (own (tMsg 91) 40 A c (recTickO x) :: (partRcd 91 40 9 3 66 (recTickL x) j ++ L)):=by
  refine enter Tryz.func5 rfl Tryz.ntmps5 [(0,.agg (encRcd x i).toArray)] rfl ⟨rfl,trivial⟩ ?_
  have h0:=h
  have hw:=hc.2
  unfold encRcd
  by_cases hv : validB x = true
  rotate_left
  · simp only [Bool.not_eq_true] at hv
    have e : recTickL x = zeroR:=by simp [recTickL,hv]
    have e2 : recTickO x = []:=by simp [recTickO,hv]
    rw [e,e2]
    repeat (first|refine Y ?_|(refine qs ?_;clear HM;intro W1 HM)|(refine qf ?_;go_at_call 10;refine (implValid x i h0 hw hn HM).mono ?_;rintro e W1 ⟨rfl,HM1⟩;refine ⟨_,rfl,?_⟩;replace HM:=HM1;clear HM1)|(refine qg ?_;clear HM;intro g W1 HM))
    have HM2:=(HM.zeroR 91 40 9 3 66).nil (tMsg 91) 40
    simp only [partRcd,zeroR,atZ,List.cons_append,List.nil_append] at HM2
    exact ret_ct HM2 rfl rfl rfl rfl ⟨atZ,none,0,rfl,by simp only [partRcd,zeroR,atZ,List.cons_append,List.nil_append];exact HM2.sb⟩
  have hV:=validB_iff.1 hv
  by_cases hu : x.up = true
  rotate_left
  · simp only [Bool.not_eq_true] at hu
    have e : recTickL x = x:=by simp [recTickL,hv,hu]
    have e2 : recTickO x = []:=by simp [recTickO,hv,hu]
    rw [e,e2]
    repeat (first|refine Y ?_|(refine qs ?_;clear HM;intro W1 HM)|(refine qf ?_;first|(go_at_call 10;refine (implValid x i h0 hw hn HM).mono ?_;rintro e W1 ⟨rfl,HM1⟩;refine ⟨_,rfl,?_⟩;replace HM:=HM1;clear HM1)|(go_at_call 21;first|((with_reducible refine (clone_l x i h0 hn HM).mono ?_);rintro e W1 ⟨j2,rfl,HM1⟩;refine ⟨_,rfl,?_⟩;replace HM:=HM1;clear HM1;simp only [partRcd,List.cons_append,List.nil_append] at HM;simp only [encRcd])|(have hro:=ro_rec1 (eS:=91) (eM:=40) (eT:=9) (eI:=3) (eA:=66) (x:=x) (i:=j3) HM;with_reducible refine (clone_l x j3 hro hn (Mem.start _)).mono ?_;clear hro;rintro e W1 ⟨j4,rfl,HM1⟩;refine ⟨_,rfl,?_⟩;replace HM:=HM.join HM1;clear HM1;simp only [partRcd,List.cons_append,List.nil_append] at HM;simp only [encRcd]))|(go_at_call 22;refine (tickOffM x j2 _ hu (by exact pk_boxr HM)).mono ?_;rintro e W1 ⟨j3,rfl,HM1⟩;refine ⟨_,rfl,?_⟩;replace HM:=HM1;clear HM1;simp only [boxR,partRcd,List.cons_append,List.nil_append] at HM)|(go_at_call 23;have HM2:=HM.nil (tMsg 91) 40;clear HM;have HM:=HM2;clear HM2;obtain ⟨F1,hF1⟩:=HM.own (A:=none);refine (cloneMsgs_c (xs:=[]) (ro_msgs hF1) (by simp) (by simp) (Mem.start _)).mono ?_;clear hF1;rintro e W1 ⟨A5,c5,rfl,HM1⟩;refine ⟨_,rfl,?_⟩;replace HM:=HM.join HM1;clear HM1;simp only [List.cons_append,List.nil_append] at HM))|(refine qg ?_;clear HM;intro g W1 HM))
    exact ret_ct HM rfl rfl rfl rfl ⟨j4,A5,c5,rfl,by simp only [boxR,partRcd,List.cons_append,List.nil_append];exact HM.sb⟩
  have e : recTickL x = tickL x:=by simp [recTickL,hv,hu]
  have e2 : recTickO x = tickOut x:=by simp [recTickO,hv,hu]
  obtain ⟨hT,_,hO⟩:=vr_tick hV hu
  have hos : ∀ m ∈ tickOut x,m.slots.length ≤ 1048576:=fun m hm=>by have:=(hO m hm).1.slots.1;omega
  have hol:=tickOut_len hV hu
  rw [e,e2]
  repeat (first|refine Y ?_|(refine qs ?_;clear HM;intro W1 HM)|(refine qf ?_;first|(go_at_call 10;refine (implValid x i h0 hw hn HM).mono ?_;rintro e W1 ⟨rfl,HM1⟩;refine ⟨_,rfl,?_⟩;replace HM:=HM1;clear HM1)|(go_at_call 21;first|((with_reducible refine (clone_l x i h0 hn HM).mono ?_);rintro e W1 ⟨j2,rfl,HM1⟩;refine ⟨_,rfl,?_⟩;replace HM:=HM1;clear HM1;simp only [partRcd,List.cons_append,List.nil_append] at HM;simp only [encRcd])|(have hro:=ro_rec1 (eS:=91) (eM:=40) (eT:=9) (eI:=3) (eA:=66) (x:=tickL x) (i:=j3) HM;with_reducible refine (clone_l (tickL x) j3 hro (vr_small hT) (Mem.start _)).mono ?_;clear hro;rintro e W1 ⟨j4,rfl,HM1⟩;refine ⟨_,rfl,?_⟩;replace HM:=HM.join HM1;clear HM1;simp only [partRcd,List.cons_append,List.nil_append] at HM;simp only [encRcd]))|(go_at_call 22;refine (tickM x j2 _ hV hu (by exact pk_boxr HM)).mono ?_;rintro e W1 ⟨j3,A4,c4,rfl,HM1⟩;refine ⟨_,rfl,?_⟩;replace HM:=HM1;clear HM1;simp only [boxR,partRcd,List.cons_append,List.nil_append] at HM)|(go_at_call 23;obtain ⟨F1,hF1⟩:=HM.own (A:=A4);refine (cloneMsgs_c (xs:=tickOut x) (ro_msgs hF1) (by omega) hos (Mem.start _)).mono ?_;clear hF1;rintro e W1 ⟨A5,c5,rfl,HM1⟩;refine ⟨_,rfl,?_⟩;replace HM:=HM.join HM1;clear HM1;simp only [List.cons_append,List.nil_append] at HM))|(refine qg ?_;clear HM;intro g W1 HM))
  exact ret_ct HM rfl rfl rfl rfl ⟨j4,A5,c5,rfl,by simp only [boxR,partRcd,List.cons_append,List.nil_append];exact HM.sb⟩
end Go.Proofs.YtampmicahnnebaaGreat.Sp
