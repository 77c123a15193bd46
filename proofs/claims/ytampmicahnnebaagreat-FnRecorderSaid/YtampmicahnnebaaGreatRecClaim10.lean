/- Worlds of the reference: what anybody knows, what is fixed: a world that is ok stays so. No condition. -/
import Derived.Test.YtampmicahnnebaaGreatRecClaim8
import Derived.Test.YtampmicahnnebaaGreatRecClaim9
set_option linter.unusedVariables false
set_option linter.unusedSimpArgs false
namespace Go.Proofs.YtampmicahnnebaaGreat.Sp
open Go Go.RowKit
set_option maxRecDepth 10000
set_option maxHeartbeats 4000000
variable {w0 W : World} {L : List Asn}
def wldP (x : Wld) (i : AtW) : List Asn:=[own (tRec 91 40 9 3 66) 31 i.b0.1 i.b0.2 x.recs,flt 91 40 i.b1.1 i.b1.2 x.flight,own tFix 134 i.b2.1 i.b2.2 x.fixed]
theorem ro_w2 {eS eM eT eI eA eR eG eF : Nat} {x : Wld} {i : AtW} {R0 R1 R2 : List Asn} [h0 : Pk L (own (tRec eS eM eT eI eA) eR i.b0.1 i.b0.2 x.recs) R0] [h1 : Pk R0 (flt eS eG i.b1.1 i.b1.2 x.flight) R1] [h2 : Pk R1 (own tFix eF i.b2.1 i.b2.2 x.fixed) R2] (h : Mem w0 W L) : RoW false W x i:=by
  obtain ⟨F0,_,a0,s0⟩:=(h.perm h0.out).sep
  obtain ⟨F1,_,a1,s1⟩:=s0.perm h1.out
  obtain ⟨F2,_,a2,_⟩:=s1.perm h2.out
  exact ⟨ro_rcws a0,ro_flt a1,ro_fixs a2⟩
theorem ro_w3 (x : Wld) (i : AtW) {R0 R1 R2 : List Asn} [h0 : Pk L (own (tRec 91 40 9 3 66) 31 i.b0.1 i.b0.2 x.recs) R0] [h1 : Pk R0 (flt 91 40 i.b1.1 i.b1.2 x.flight) R1] [h2 : Pk R1 (own tFix 134 i.b2.1 i.b2.2 x.fixed) R2] (h : Mem w0 W L) : RoW false W x i:=ro_w2 (h0:=h0) (h1:=h1) (h2:=h2) h
theorem WP.safe {x : Wld} (h : WP x) : SafeP x:=by
  intro r hr s hs
  obtain ⟨k,hk,rfl⟩:=List.getElem_of_mem hr
  exact (h.recs k hk).1.safe.slots.2 s hs
theorem maj_size {x : Wld} {ix : Int} {t : ByteArray} {b : Bool} (h : WP x) (hm : IsMaj x ix t b) : t.size ≤ 100:=by
  cases b
  · rw [(hm.no rfl).1];decide
  · obtain ⟨s,hs,rfl⟩:=hm.yes rfl
    obtain ⟨j,hj,e⟩:=cntA_pos (x:=x) (ix:=ix) (s:=s) (k:=x.recs.length) (by have:=hs.2;omega)
    by_cases hi : 1 ≤ ix ∧ ix ≤ x.recs[j].ss.length
    · rw [slA_in hj hi.1 hi.2] at e
      cases e
      have:=(safe_at h.safe hj hi.1 hi.2).txt
      omega
    · rw [slA_out hj hi] at e;cases e
theorem knows_c (x : Wld) (i : AtW) (ix : Int) (hv : WP x) (h1 : 1 ≤ ix) (hr : RoRow (rRcw false) w0 i.b0.1 x.recs) (HM : Mem w0 W L) : Calls Tryz.prog 124 #[.agg (encW x i).toArray,.int .i64 ix] W fun e W'=>∃ t b,t.size ≤ 100 ∧ e = .returned (.tuple #[.string t,.bool b]) ∧ Mem w0 W' L:=by
  refine enter Tryz.func124 rfl Tryz.ntmps124 [(0,.agg (encW x i).toArray),(1,_)] rfl ⟨rfl,rfl,trivial⟩ ?_
  have hn5:=hv.n5
  unfold encW
  replace HM:=HM.rod hr
  repeat (first|refine Y ?_|(refine qg ?_;clear HM;intro g W1 HM))
  refine c_loop (σ:=Nat) (fun k=>[(1,.int .i64 ix),(2,.pointer (some ⟨g,0,none⟩)),(6,.int .i64 k)]) (fun k W1=>k ≤ x.recs.length ∧ Mem w0 W1 _) (fun k=>x.recs.length - k) 0 U ⟨Nat.zero_le _,HM⟩ ?_
  clear HM
  rintro k W1 ⟨hk,HM⟩
  by_cases hlt : k < x.recs.length
  rotate_left
  · repeat refine Y ?_
    exact ret_two rfl rfl rfl ⟨_,_,by decide,rfl,HM.sb⟩
  obtain ⟨cc,⟨j,rfl,hh⟩,HM⟩:=HM.roOpen (A:=i.b0.1) k hlt
  have hV:=(hv.recs k hlt).1
  have hk1:=hV.disk.k1
  have hdl:=hV.disk.slots.1
  have hds:=hh.ro.ds
  unfold encRcd at HM
  by_cases c1 : ix ≤ x.recs[k].dk
  · have hsz : (rdR (rSlot false) x.recs[k].ds (ix - 1)).text.size ≤ 100:=by
      rw [rdR_int (by omega) (by omega)]
      have:=(hV.disk.slots.2 _ (List.getElem_mem (n:=(ix - 1).toNat) (by omega))).txt
      omega
    replace HM:=HM.rod hds
    repeat (first|refine Y ?_|(refine qs ?_;clear HM;intro W1 HM)|(refine qg ?_;clear HM;intro g W1 HM))
    exact ret_two rfl rfl rfl ⟨_,_,hsz,rfl,HM.sb⟩
  · repeat (first|refine Y ?_|(refine qs ?_;clear HM;intro W1 HM)|(refine qg ?_;clear HM;intro g W1 HM))
    exact n_round (k + 1) U ⟨by omega,HM.sb⟩ (by omega)
theorem fix_c (x : Wld) (i : AtW) (hv : WP x) (HM : Mem w0 W (wldP x i ++ L)) : Calls Tryz.prog 117 #[.agg (encW x i).toArray] W fun e W'=>∃ fx q,FixP fx ∧ e = .returned (.agg (encW { x with fixed:=fx } ⟨i.b0,i.b1,q⟩).toArray) ∧ Mem w0 W' (wldP { x with fixed:=fx } ⟨i.b0,i.b1,q⟩ ++ L):=by
  refine enter Tryz.func117 rfl Tryz.ntmps117 [(0,.agg (encW x i).toArray)] rfl ⟨rfl,trivial⟩ ?_
  unfold encW
  simp only [wldP,List.cons_append,List.nil_append] at HM
  have hn5:=hv.n5
  repeat (first|refine Y ?_|(refine qg ?_;clear HM;intro g W1 HM))
  rename_i ga Wa
  refine c_loop2 (σ:=Nat × List Fix) (fun s A c=>[(1,.pointer (some ⟨ga,0,none⟩)),(2,.pointer (some ⟨g,0,none⟩)),(3,.int .i64 ((s.1 : Int) + 1))]) (fun s A c W1=>s.1 ≤ 60 ∧ FixP s.2 ∧ Mem w0 W1 (box g 78 [.slice none 0 0,.slice none 0 0,.slice none 0 0] :: box ga 78 [.slice i.b0.1 x.recs.length i.b0.2,.slice i.b1.1 x.flight.length i.b1.2,.slice A s.2.length c] :: own (tRec 91 40 9 3 66) 31 i.b0.1 i.b0.2 x.recs :: flt 91 40 i.b1.1 i.b1.2 x.flight :: own tFix 134 A c s.2 :: L)) (fun s=>60 - s.1) (0,x.fixed) i.b2.1 i.b2.2 (by dsimp only;simp only [Int.natCast_zero,Int.zero_add];exact U) ⟨Nat.zero_le _,hv.fix,HM⟩ ?_
  clear HM
  rintro ⟨m,fx⟩ A c W1 ⟨hm,hfx,HM⟩
  dsimp only at hm hfx HM ⊢
  have hfl:=fix_len hfx
  by_cases hlt : m < 60
  rotate_left
  · repeat (first|refine Y ?_|(refine qs ?_;clear HM;intro W1 HM))
    exact ret_cell HM rfl rfl rfl ⟨fx,(A,c),hfx,rfl,by simp only [wldP,List.cons_append,List.nil_append];exact HM.sb⟩
  repeat refine Y ?_
  refine c_loop (σ:=Nat) (fun k=>[(1,.pointer (some ⟨ga,0,none⟩)),(2,.pointer (some ⟨g,0,none⟩)),(3,.int .i64 ((m : Int) + 1)),(4,.int .i64 k)]) (fun k W1=>k ≤ fx.length ∧ (∀ j (h : j < fx.length),j < k → fx[j].index < (m : Int) + 1) ∧ Mem w0 W1 _) (fun k=>fx.length - k) 0 U ⟨Nat.zero_le _,fun j h hj=>by omega,HM⟩ ?_
  clear HM
  rintro k W1 ⟨hk,hlo,HM⟩
  have hcap : fx.length ≤ c:=by obtain ⟨F1,hF1⟩:=HM.own (A:=A);exact (own_max hF1).2
  have hwx : WP { x with fixed:=fx }:=wp_fixed hv hfx
  by_cases hlt2 : k < fx.length
  · have e0:=rd_at (d:=tFix) hlt2
    by_cases c1 : (rd tFix fx k).index < (m : Int) + 1
    · repeat refine Y ?_
      exact n_round (k + 1) U ⟨by omega,fun j h hj=>by
        by_cases e : j = k
        · subst e;rw [← e0];exact c1
        · exact hlo j h (by omega),HM⟩ (by omega)
    by_cases c2 : (rd tFix fx k).index = (m : Int) + 1
    · repeat refine Y ?_
      exact n_round2 (m + 1,fx) A c (by simp only [Int.natCast_add,Int.natCast_one];exact U) ⟨by dsimp only;omega,hfx,HM.sb⟩ (by dsimp only;omega)
    have hi:=fix_hi (ix:=(m : Int) + 1) hfx (k:=k) (fun _=>by rw [← e0];omega)
    repeat (first|refine Y ?_|(refine qf ?_;go_at_call 123;refine (specMaj { x with fixed:=fx } ⟨i.b0,i.b1,(A,c)⟩ ((m : Int) + 1) (ro_w3 { x with fixed:=fx } ⟨i.b0,i.b1,(A,c)⟩ HM) (by dsimp only;omega) hwx.safe (Mem.start _)).mono ?_;rintro e W1 ⟨t,b,rfl,hmaj,HM1⟩;refine ⟨_,rfl,?_⟩;have HM2:=HM.step HM1.below;clear HM HM1;have HM:=HM2;clear HM2))
    have hts:=maj_size hwx hmaj
    clear hmaj
    refine c_cutn (σ:=ByteArray × Bool) (fun s=>[(1,.pointer (some ⟨ga,0,none⟩)),(2,.pointer (some ⟨g,0,none⟩)),(3,.int .i64 ((m : Int) + 1)),(4,.int .i64 k),(5,.string s.1),(6,.bool s.2)]) (fun s W1=>s.1.size ≤ 100 ∧ Mem w0 W1 (box g 78 [.slice none 0 0,.slice none 0 0,.slice none 0 0] :: box ga 78 [.slice i.b0.1 x.recs.length i.b0.2,.slice i.b1.1 x.flight.length i.b1.2,.slice A fx.length c] :: own (tRec 91 40 9 3 66) 31 i.b0.1 i.b0.2 x.recs :: flt 91 40 i.b1.1 i.b1.2 x.flight :: own tFix 134 A c fx :: L)) ?_ ?_
    · by_cases hb : b = true
      · repeat ((refine gC ?_;first|refine c_skip ?_|refine c_no rfl (by (simp;omega)) ?_))
        exact n_mid (t,b) U ⟨hts,HM.sb⟩
      · simp only [Bool.not_eq_true] at hb
        repeat (first|refine Y ?_|(refine qf ?_;go_at_call 124;have hR:=(ro_w3 { x with fixed:=fx } ⟨i.b0,i.b1,(A,c)⟩ HM).recs;refine (knows_c { x with fixed:=fx } ⟨i.b0,i.b1,(A,c)⟩ ((m : Int) + 1) hwx (by omega) hR (Mem.start _)).mono ?_;rintro e W1 ⟨t2,b2,ht2,rfl,HM1⟩;refine ⟨_,rfl,?_⟩;have HM2:=HM.step HM1.below;clear HM HM1 hR;have HM:=HM2;clear HM2))
        exact n_mid (t2,b2) U ⟨ht2,HM.sb⟩
    clear HM hts
    rintro ⟨tt,bb⟩ W1 ⟨hts,HM⟩
    dsimp only at hts HM ⊢
    by_cases hb : bb = true
    rotate_left
    · simp only [Bool.not_eq_true] at hb
      repeat refine Y ?_
      exact n_round2 (m + 1,fx) A c (by simp only [Int.natCast_add,Int.natCast_one];exact U) ⟨by dsimp only;omega,hfx,HM.sb⟩ (by dsimp only;omega)
    have hnew : FixP ([] ++ fx.take k ++ [⟨(m : Int) + 1,tt⟩] ++ fx.drop k):=fixp_ins hfx ⟨by dsimp only;omega,hts⟩ hlo hi
    have htk : (fx.take k).length = k:=by simp only [List.length_take];omega
    repeat refine Y ?_
    refine gR ?_
    refine x_start (ds:=[17]) HM (fun w hw=>hw) (by kernel_rfl) (by kernel_rfl) qq ?_
    intro HQ HS W1 HM1;replace HM:=HM1;clear HM1
    refine x_pv HQ HS 1 rfl (by kernel_rfl) (by kernel_rfl) (l':=#[false,true,false,false,false,false,false,false,false,false,false,false,false,false,false,false,false,false]) (by kernel_rfl) rfl ?_
    refine Y ?_
    refine x_pv HQ HS 3 rfl (by kernel_rfl) (by kernel_rfl) (l':=#[false,true,false,true,false,false,false,false,false,false,false,false,false,false,false,false,false,false]) (by kernel_rfl) rfl ?_
    refine Y ?_
    refine x_pv HQ HS 6 rfl (by kernel_rfl) (by kernel_rfl) (l':=#[false,true,false,true,false,false,true,false,false,false,false,false,false,false,false,false,false,false]) (by kernel_rfl) rfl ?_
    refine Y ?_
    refine x_pv HQ HS 7 rfl (by kernel_rfl) (by kernel_rfl) (l':=#[false,true,false,true,false,false,true,true,false,false,false,false,false,false,false,false,false,false]) (by kernel_rfl) rfl ?_
    refine Y ?_
    refine x_pv HQ HS 11 rfl (by kernel_rfl) (by kernel_rfl) (l':=#[false,true,false,true,false,false,true,true,false,false,false,true,false,false,false,false,false,false]) (by kernel_rfl) rfl ?_
    refine Y ?_
    refine x_pv HQ HS 13 rfl (by kernel_rfl) (by kernel_rfl) (l':=#[false,true,false,true,false,false,true,true,false,false,false,true,false,true,false,false,false,false]) (by kernel_rfl) rfl ?_
    refine Y ?_
    refine x_ld HQ HS 2 rfl (by kernel_rfl) (by kernel_rfl) (by kernel_rfl) (by kernel_rfl) (l':=#[false,true,true,true,false,false,true,true,false,false,false,true,false,true,false,false,false,false]) (by kernel_rfl) rfl ?_
    refine Y ?_
    refine x_pv HQ HS 4 rfl (by kernel_rfl) (by kernel_rfl) (l':=#[false,true,true,true,true,false,true,true,false,false,false,true,false,true,false,false,false,false]) (by kernel_rfl) rfl ?_
    refine Y ?_
    refine x_ld HQ HS 12 rfl (by kernel_rfl) (by kernel_rfl) (by kernel_rfl) (by kernel_rfl) (l':=#[false,true,true,true,true,false,true,true,false,false,false,true,true,true,false,false,false,false]) (by kernel_rfl) rfl ?_
    refine Y ?_
    refine x_pv HQ HS 14 rfl (by kernel_rfl) (by kernel_rfl) (l':=#[false,true,true,true,true,false,true,true,false,false,false,true,true,true,true,false,false,false]) (by kernel_rfl) rfl ?_
    refine Y ?_
    refine x_two 0 8 (by kernel_rfl) rfl rfl (l':=#[true,true,true,true,true,false,true,true,false,false,false,true,true,true,true,false,false,false]) (l'':=#[false,true,true,true,true,false,true,true,true,false,false,true,true,true,true,false,false,false]) (by kernel_rfl) (by kernel_rfl) (x_go ?_) (x_go ?_)
    · repeat (first|(refine qz ?_;clear HM;intro A1 W1 HM)|refine Y ?_)
      refine x_two 5 8 (by kernel_rfl) rfl rfl (l':=#[true,true,true,true,true,true,true,true,false,false,false,true,true,true,true,false,false,false]) (l'':=#[true,true,true,true,true,false,true,true,true,false,false,true,true,true,true,false,false,false]) (by kernel_rfl) (by kernel_rfl) (x_go ?_) (x_go ?_)
      · repeat (first|(refine gCall ?_;obtain ⟨F1,hF1⟩:=HM.own (A:=A);(first|(refine s_appw (ys:=fx.take k) HM rfl rfl rfl rfl (ro_rdc (ro_take (ro_fixs hF1) k)) (by simp only [List.length_take];omega) (by simp only [List.length_take,List.length_drop,List.length_append,List.length_cons,List.length_nil];omega) rfl ?_)|(refine s_appw (ys:=fx.drop k) HM rfl rfl (by first|with_reducible rfl|(simp only [List.length_append,List.length_take,List.length_cons,List.length_nil];omega)) rfl (ro_rdc (ro_drop (ro_fixs hF1) hk hcap)) (by simp only [List.length_drop];omega) (by simp only [List.length_take,List.length_drop,List.length_append,List.length_cons,List.length_nil];omega) rfl ?_));clear hF1;intro A1 c1 W1 HM1;replace HM:=HM1;clear HM1)|refine Y ?_)
        refine x_one 8 (by kernel_rfl) rfl (l':=#[true,true,true,true,true,true,true,true,true,false,false,true,true,true,true,false,false,false]) (by kernel_rfl) (x_go ?_)
        repeat refine Y ?_
        refine x_one 9 (by kernel_rfl) rfl (l':=#[true,true,true,true,true,true,true,true,true,true,false,true,true,true,true,false,false,false]) (by kernel_rfl) (x_go ?_)
        repeat (first|(refine qg ?_;clear HM;intro g W1 HM)|refine Y ?_)
        refine x_one 10 (by kernel_rfl) rfl (l':=#[true,true,true,true,true,true,true,true,true,true,true,true,true,true,true,false,false,false]) (by kernel_rfl) (x_go ?_)
        repeat (first|(refine qa ?_;clear HM;intro A1 c1 W1 HM)|refine Y ?_)
        refine x_one 15 (by kernel_rfl) rfl (l':=#[true,true,true,true,true,true,true,true,true,true,true,true,true,true,true,true,false,false]) (by kernel_rfl) (x_go ?_)
        repeat (first|(refine gCall ?_;obtain ⟨F1,hF1⟩:=HM.own (A:=A);(first|(refine s_appw (ys:=fx.take k) HM rfl rfl rfl rfl (ro_rdc (ro_take (ro_fixs hF1) k)) (by simp only [List.length_take];omega) (by simp only [List.length_take,List.length_drop,List.length_append,List.length_cons,List.length_nil];omega) rfl ?_)|(refine s_appw (ys:=fx.drop k) HM rfl rfl (by first|with_reducible rfl|(simp only [List.length_append,List.length_take,List.length_cons,List.length_nil];omega)) rfl (ro_rdc (ro_drop (ro_fixs hF1) hk hcap)) (by simp only [List.length_drop];omega) (by simp only [List.length_take,List.length_drop,List.length_append,List.length_cons,List.length_nil];omega) rfl ?_));clear hF1;intro A1 c1 W1 HM1;replace HM:=HM1;clear HM1)|refine Y ?_)
        refine x_pv HQ HS 16 rfl (by kernel_rfl) (by kernel_rfl) (l':=#[true,true,true,true,true,true,true,true,true,true,true,true,true,true,true,true,true,false]) (by kernel_rfl) rfl ?_
        refine Y ?_
        refine x_last 17 (by kernel_rfl) rfl (l':=#[true,true,true,true,true,true,true,true,true,true,true,true,true,true,true,true,true,true]) (by kernel_rfl) (by kernel_rfl) rfl ?_
        repeat (first|refine Y ?_|(refine qs ?_;clear HM;intro W1 HM))
        exact n_round2 (m + 1,_) A1 c1 (by simp only [Int.natCast_add,Int.natCast_one];exact U) ⟨by dsimp only;omega,hnew,HM.sb⟩ (by dsimp only;omega)
      · repeat refine Y ?_
        refine x_two 5 9 (by kernel_rfl) rfl rfl (l':=#[true,true,true,true,true,true,true,true,true,false,false,true,true,true,true,false,false,false]) (l'':=#[true,true,true,true,true,false,true,true,true,true,false,true,true,true,true,false,false,false]) (by kernel_rfl) (by kernel_rfl) (x_go ?_) (x_go ?_)
        · repeat (first|(refine gCall ?_;obtain ⟨F1,hF1⟩:=HM.own (A:=A);(first|(refine s_appw (ys:=fx.take k) HM rfl rfl rfl rfl (ro_rdc (ro_take (ro_fixs hF1) k)) (by simp only [List.length_take];omega) (by simp only [List.length_take,List.length_drop,List.length_append,List.length_cons,List.length_nil];omega) rfl ?_)|(refine s_appw (ys:=fx.drop k) HM rfl rfl (by first|with_reducible rfl|(simp only [List.length_append,List.length_take,List.length_cons,List.length_nil];omega)) rfl (ro_rdc (ro_drop (ro_fixs hF1) hk hcap)) (by simp only [List.length_drop];omega) (by simp only [List.length_take,List.length_drop,List.length_append,List.length_cons,List.length_nil];omega) rfl ?_));clear hF1;intro A1 c1 W1 HM1;replace HM:=HM1;clear HM1)|refine Y ?_)
          refine x_one 9 (by kernel_rfl) rfl (l':=#[true,true,true,true,true,true,true,true,true,true,false,true,true,true,true,false,false,false]) (by kernel_rfl) (x_go ?_)
          repeat (first|(refine qg ?_;clear HM;intro g W1 HM)|refine Y ?_)
          refine x_one 10 (by kernel_rfl) rfl (l':=#[true,true,true,true,true,true,true,true,true,true,true,true,true,true,true,false,false,false]) (by kernel_rfl) (x_go ?_)
          repeat (first|(refine qa ?_;clear HM;intro A1 c1 W1 HM)|refine Y ?_)
          refine x_one 15 (by kernel_rfl) rfl (l':=#[true,true,true,true,true,true,true,true,true,true,true,true,true,true,true,true,false,false]) (by kernel_rfl) (x_go ?_)
          repeat (first|(refine gCall ?_;obtain ⟨F1,hF1⟩:=HM.own (A:=A);(first|(refine s_appw (ys:=fx.take k) HM rfl rfl rfl rfl (ro_rdc (ro_take (ro_fixs hF1) k)) (by simp only [List.length_take];omega) (by simp only [List.length_take,List.length_drop,List.length_append,List.length_cons,List.length_nil];omega) rfl ?_)|(refine s_appw (ys:=fx.drop k) HM rfl rfl (by first|with_reducible rfl|(simp only [List.length_append,List.length_take,List.length_cons,List.length_nil];omega)) rfl (ro_rdc (ro_drop (ro_fixs hF1) hk hcap)) (by simp only [List.length_drop];omega) (by simp only [List.length_take,List.length_drop,List.length_append,List.length_cons,List.length_nil];omega) rfl ?_));clear hF1;intro A1 c1 W1 HM1;replace HM:=HM1;clear HM1)|refine Y ?_)
          refine x_pv HQ HS 16 rfl (by kernel_rfl) (by kernel_rfl) (l':=#[true,true,true,true,true,true,true,true,true,true,true,true,true,true,true,true,true,false]) (by kernel_rfl) rfl ?_
          refine Y ?_
          refine x_last 17 (by kernel_rfl) rfl (l':=#[true,true,true,true,true,true,true,true,true,true,true,true,true,true,true,true,true,true]) (by kernel_rfl) (by kernel_rfl) rfl ?_
          repeat (first|refine Y ?_|(refine qs ?_;clear HM;intro W1 HM))
          exact n_round2 (m + 1,_) A1 c1 (by simp only [Int.natCast_add,Int.natCast_one];exact U) ⟨by dsimp only;omega,hnew,HM.sb⟩ (by dsimp only;omega)
        · repeat (first|(refine qg ?_;clear HM;intro g W1 HM)|refine Y ?_)
          refine x_one 5 (by kernel_rfl) rfl (l':=#[true,true,true,true,true,true,true,true,true,true,false,true,true,true,true,false,false,false]) (by kernel_rfl) (x_go ?_)
          repeat (first|(refine gCall ?_;obtain ⟨F1,hF1⟩:=HM.own (A:=A);(first|(refine s_appw (ys:=fx.take k) HM rfl rfl rfl rfl (ro_rdc (ro_take (ro_fixs hF1) k)) (by simp only [List.length_take];omega) (by simp only [List.length_take,List.length_drop,List.length_append,List.length_cons,List.length_nil];omega) rfl ?_)|(refine s_appw (ys:=fx.drop k) HM rfl rfl (by first|with_reducible rfl|(simp only [List.length_append,List.length_take,List.length_cons,List.length_nil];omega)) rfl (ro_rdc (ro_drop (ro_fixs hF1) hk hcap)) (by simp only [List.length_drop];omega) (by simp only [List.length_take,List.length_drop,List.length_append,List.length_cons,List.length_nil];omega) rfl ?_));clear hF1;intro A1 c1 W1 HM1;replace HM:=HM1;clear HM1)|refine Y ?_)
          refine x_one 10 (by kernel_rfl) rfl (l':=#[true,true,true,true,true,true,true,true,true,true,true,true,true,true,true,false,false,false]) (by kernel_rfl) (x_go ?_)
          repeat (first|(refine qa ?_;clear HM;intro A1 c1 W1 HM)|refine Y ?_)
          refine x_one 15 (by kernel_rfl) rfl (l':=#[true,true,true,true,true,true,true,true,true,true,true,true,true,true,true,true,false,false]) (by kernel_rfl) (x_go ?_)
          repeat (first|(refine gCall ?_;obtain ⟨F1,hF1⟩:=HM.own (A:=A);(first|(refine s_appw (ys:=fx.take k) HM rfl rfl rfl rfl (ro_rdc (ro_take (ro_fixs hF1) k)) (by simp only [List.length_take];omega) (by simp only [List.length_take,List.length_drop,List.length_append,List.length_cons,List.length_nil];omega) rfl ?_)|(refine s_appw (ys:=fx.drop k) HM rfl rfl (by first|with_reducible rfl|(simp only [List.length_append,List.length_take,List.length_cons,List.length_nil];omega)) rfl (ro_rdc (ro_drop (ro_fixs hF1) hk hcap)) (by simp only [List.length_drop];omega) (by simp only [List.length_take,List.length_drop,List.length_append,List.length_cons,List.length_nil];omega) rfl ?_));clear hF1;intro A1 c1 W1 HM1;replace HM:=HM1;clear HM1)|refine Y ?_)
          refine x_pv HQ HS 16 rfl (by kernel_rfl) (by kernel_rfl) (l':=#[true,true,true,true,true,true,true,true,true,true,true,true,true,true,true,true,true,false]) (by kernel_rfl) rfl ?_
          refine Y ?_
          refine x_last 17 (by kernel_rfl) rfl (l':=#[true,true,true,true,true,true,true,true,true,true,true,true,true,true,true,true,true,true]) (by kernel_rfl) (by kernel_rfl) rfl ?_
          repeat (first|refine Y ?_|(refine qs ?_;clear HM;intro W1 HM))
          exact n_round2 (m + 1,_) A1 c1 (by simp only [Int.natCast_add,Int.natCast_one];exact U) ⟨by dsimp only;omega,hnew,HM.sb⟩ (by dsimp only;omega)
    · repeat refine Y ?_
      refine x_two 0 9 (by kernel_rfl) rfl rfl (l':=#[true,true,true,true,true,false,true,true,true,false,false,true,true,true,true,false,false,false]) (l'':=#[false,true,true,true,true,false,true,true,true,true,false,true,true,true,true,false,false,false]) (by kernel_rfl) (by kernel_rfl) (x_go ?_) (x_go ?_)
      · repeat (first|(refine qz ?_;clear HM;intro A1 W1 HM)|refine Y ?_)
        refine x_two 5 9 (by kernel_rfl) rfl rfl (l':=#[true,true,true,true,true,true,true,true,true,false,false,true,true,true,true,false,false,false]) (l'':=#[true,true,true,true,true,false,true,true,true,true,false,true,true,true,true,false,false,false]) (by kernel_rfl) (by kernel_rfl) (x_go ?_) (x_go ?_)
        · repeat (first|(refine gCall ?_;obtain ⟨F1,hF1⟩:=HM.own (A:=A);(first|(refine s_appw (ys:=fx.take k) HM rfl rfl rfl rfl (ro_rdc (ro_take (ro_fixs hF1) k)) (by simp only [List.length_take];omega) (by simp only [List.length_take,List.length_drop,List.length_append,List.length_cons,List.length_nil];omega) rfl ?_)|(refine s_appw (ys:=fx.drop k) HM rfl rfl (by first|with_reducible rfl|(simp only [List.length_append,List.length_take,List.length_cons,List.length_nil];omega)) rfl (ro_rdc (ro_drop (ro_fixs hF1) hk hcap)) (by simp only [List.length_drop];omega) (by simp only [List.length_take,List.length_drop,List.length_append,List.length_cons,List.length_nil];omega) rfl ?_));clear hF1;intro A1 c1 W1 HM1;replace HM:=HM1;clear HM1)|refine Y ?_)
          refine x_one 9 (by kernel_rfl) rfl (l':=#[true,true,true,true,true,true,true,true,true,true,false,true,true,true,true,false,false,false]) (by kernel_rfl) (x_go ?_)
          repeat (first|(refine qg ?_;clear HM;intro g W1 HM)|refine Y ?_)
          refine x_one 10 (by kernel_rfl) rfl (l':=#[true,true,true,true,true,true,true,true,true,true,true,true,true,true,true,false,false,false]) (by kernel_rfl) (x_go ?_)
          repeat (first|(refine qa ?_;clear HM;intro A1 c1 W1 HM)|refine Y ?_)
          refine x_one 15 (by kernel_rfl) rfl (l':=#[true,true,true,true,true,true,true,true,true,true,true,true,true,true,true,true,false,false]) (by kernel_rfl) (x_go ?_)
          repeat (first|(refine gCall ?_;obtain ⟨F1,hF1⟩:=HM.own (A:=A);(first|(refine s_appw (ys:=fx.take k) HM rfl rfl rfl rfl (ro_rdc (ro_take (ro_fixs hF1) k)) (by simp only [List.length_take];omega) (by simp only [List.length_take,List.length_drop,List.length_append,List.length_cons,List.length_nil];omega) rfl ?_)|(refine s_appw (ys:=fx.drop k) HM rfl rfl (by first|with_reducible rfl|(simp only [List.length_append,List.length_take,List.length_cons,List.length_nil];omega)) rfl (ro_rdc (ro_drop (ro_fixs hF1) hk hcap)) (by simp only [List.length_drop];omega) (by simp only [List.length_take,List.length_drop,List.length_append,List.length_cons,List.length_nil];omega) rfl ?_));clear hF1;intro A1 c1 W1 HM1;replace HM:=HM1;clear HM1)|refine Y ?_)
          refine x_pv HQ HS 16 rfl (by kernel_rfl) (by kernel_rfl) (l':=#[true,true,true,true,true,true,true,true,true,true,true,true,true,true,true,true,true,false]) (by kernel_rfl) rfl ?_
          refine Y ?_
          refine x_last 17 (by kernel_rfl) rfl (l':=#[true,true,true,true,true,true,true,true,true,true,true,true,true,true,true,true,true,true]) (by kernel_rfl) (by kernel_rfl) rfl ?_
          repeat (first|refine Y ?_|(refine qs ?_;clear HM;intro W1 HM))
          exact n_round2 (m + 1,_) A1 c1 (by simp only [Int.natCast_add,Int.natCast_one];exact U) ⟨by dsimp only;omega,hnew,HM.sb⟩ (by dsimp only;omega)
        · repeat (first|(refine qg ?_;clear HM;intro g W1 HM)|refine Y ?_)
          refine x_one 5 (by kernel_rfl) rfl (l':=#[true,true,true,true,true,true,true,true,true,true,false,true,true,true,true,false,false,false]) (by kernel_rfl) (x_go ?_)
          repeat (first|(refine gCall ?_;obtain ⟨F1,hF1⟩:=HM.own (A:=A);(first|(refine s_appw (ys:=fx.take k) HM rfl rfl rfl rfl (ro_rdc (ro_take (ro_fixs hF1) k)) (by simp only [List.length_take];omega) (by simp only [List.length_take,List.length_drop,List.length_append,List.length_cons,List.length_nil];omega) rfl ?_)|(refine s_appw (ys:=fx.drop k) HM rfl rfl (by first|with_reducible rfl|(simp only [List.length_append,List.length_take,List.length_cons,List.length_nil];omega)) rfl (ro_rdc (ro_drop (ro_fixs hF1) hk hcap)) (by simp only [List.length_drop];omega) (by simp only [List.length_take,List.length_drop,List.length_append,List.length_cons,List.length_nil];omega) rfl ?_));clear hF1;intro A1 c1 W1 HM1;replace HM:=HM1;clear HM1)|refine Y ?_)
          refine x_one 10 (by kernel_rfl) rfl (l':=#[true,true,true,true,true,true,true,true,true,true,true,true,true,true,true,false,false,false]) (by kernel_rfl) (x_go ?_)
          repeat (first|(refine qa ?_;clear HM;intro A1 c1 W1 HM)|refine Y ?_)
          refine x_one 15 (by kernel_rfl) rfl (l':=#[true,true,true,true,true,true,true,true,true,true,true,true,true,true,true,true,false,false]) (by kernel_rfl) (x_go ?_)
          repeat (first|(refine gCall ?_;obtain ⟨F1,hF1⟩:=HM.own (A:=A);(first|(refine s_appw (ys:=fx.take k) HM rfl rfl rfl rfl (ro_rdc (ro_take (ro_fixs hF1) k)) (by simp only [List.length_take];omega) (by simp only [List.length_take,List.length_drop,List.length_append,List.length_cons,List.length_nil];omega) rfl ?_)|(refine s_appw (ys:=fx.drop k) HM rfl rfl (by first|with_reducible rfl|(simp only [List.length_append,List.length_take,List.length_cons,List.length_nil];omega)) rfl (ro_rdc (ro_drop (ro_fixs hF1) hk hcap)) (by simp only [List.length_drop];omega) (by simp only [List.length_take,List.length_drop,List.length_append,List.length_cons,List.length_nil];omega) rfl ?_));clear hF1;intro A1 c1 W1 HM1;replace HM:=HM1;clear HM1)|refine Y ?_)
          refine x_pv HQ HS 16 rfl (by kernel_rfl) (by kernel_rfl) (l':=#[true,true,true,true,true,true,true,true,true,true,true,true,true,true,true,true,true,false]) (by kernel_rfl) rfl ?_
          refine Y ?_
          refine x_last 17 (by kernel_rfl) rfl (l':=#[true,true,true,true,true,true,true,true,true,true,true,true,true,true,true,true,true,true]) (by kernel_rfl) (by kernel_rfl) rfl ?_
          repeat (first|refine Y ?_|(refine qs ?_;clear HM;intro W1 HM))
          exact n_round2 (m + 1,_) A1 c1 (by simp only [Int.natCast_add,Int.natCast_one];exact U) ⟨by dsimp only;omega,hnew,HM.sb⟩ (by dsimp only;omega)
      · repeat (first|(refine qg ?_;clear HM;intro g W1 HM)|refine Y ?_)
        refine x_one 0 (by kernel_rfl) rfl (l':=#[true,true,true,true,true,false,true,true,true,true,false,true,true,true,true,false,false,false]) (by kernel_rfl) (x_go ?_)
        repeat (first|(refine qz ?_;clear HM;intro A1 W1 HM)|refine Y ?_)
        refine x_one 5 (by kernel_rfl) rfl (l':=#[true,true,true,true,true,true,true,true,true,true,false,true,true,true,true,false,false,false]) (by kernel_rfl) (x_go ?_)
        repeat (first|(refine gCall ?_;obtain ⟨F1,hF1⟩:=HM.own (A:=A);(first|(refine s_appw (ys:=fx.take k) HM rfl rfl rfl rfl (ro_rdc (ro_take (ro_fixs hF1) k)) (by simp only [List.length_take];omega) (by simp only [List.length_take,List.length_drop,List.length_append,List.length_cons,List.length_nil];omega) rfl ?_)|(refine s_appw (ys:=fx.drop k) HM rfl rfl (by first|with_reducible rfl|(simp only [List.length_append,List.length_take,List.length_cons,List.length_nil];omega)) rfl (ro_rdc (ro_drop (ro_fixs hF1) hk hcap)) (by simp only [List.length_drop];omega) (by simp only [List.length_take,List.length_drop,List.length_append,List.length_cons,List.length_nil];omega) rfl ?_));clear hF1;intro A1 c1 W1 HM1;replace HM:=HM1;clear HM1)|refine Y ?_)
        refine x_one 10 (by kernel_rfl) rfl (l':=#[true,true,true,true,true,true,true,true,true,true,true,true,true,true,true,false,false,false]) (by kernel_rfl) (x_go ?_)
        repeat (first|(refine qa ?_;clear HM;intro A1 c1 W1 HM)|refine Y ?_)
        refine x_one 15 (by kernel_rfl) rfl (l':=#[true,true,true,true,true,true,true,true,true,true,true,true,true,true,true,true,false,false]) (by kernel_rfl) (x_go ?_)
        repeat (first|(refine gCall ?_;obtain ⟨F1,hF1⟩:=HM.own (A:=A);(first|(refine s_appw (ys:=fx.take k) HM rfl rfl rfl rfl (ro_rdc (ro_take (ro_fixs hF1) k)) (by simp only [List.length_take];omega) (by simp only [List.length_take,List.length_drop,List.length_append,List.length_cons,List.length_nil];omega) rfl ?_)|(refine s_appw (ys:=fx.drop k) HM rfl rfl (by first|with_reducible rfl|(simp only [List.length_append,List.length_take,List.length_cons,List.length_nil];omega)) rfl (ro_rdc (ro_drop (ro_fixs hF1) hk hcap)) (by simp only [List.length_drop];omega) (by simp only [List.length_take,List.length_drop,List.length_append,List.length_cons,List.length_nil];omega) rfl ?_));clear hF1;intro A1 c1 W1 HM1;replace HM:=HM1;clear HM1)|refine Y ?_)
        refine x_pv HQ HS 16 rfl (by kernel_rfl) (by kernel_rfl) (l':=#[true,true,true,true,true,true,true,true,true,true,true,true,true,true,true,true,true,false]) (by kernel_rfl) rfl ?_
        refine Y ?_
        refine x_last 17 (by kernel_rfl) rfl (l':=#[true,true,true,true,true,true,true,true,true,true,true,true,true,true,true,true,true,true]) (by kernel_rfl) (by kernel_rfl) rfl ?_
        repeat (first|refine Y ?_|(refine qs ?_;clear HM;intro W1 HM))
        exact n_round2 (m + 1,_) A1 c1 (by simp only [Int.natCast_add,Int.natCast_one];exact U) ⟨by dsimp only;omega,hnew,HM.sb⟩ (by dsimp only;omega)
  · obtain rfl : k = fx.length:=by omega
    repeat (first|refine Y ?_|(refine qf ?_;go_at_call 123;refine (specMaj { x with fixed:=fx } ⟨i.b0,i.b1,(A,c)⟩ ((m : Int) + 1) (ro_w3 { x with fixed:=fx } ⟨i.b0,i.b1,(A,c)⟩ HM) (by dsimp only;omega) hwx.safe (Mem.start _)).mono ?_;rintro e W1 ⟨t,b,rfl,hmaj,HM1⟩;refine ⟨_,rfl,?_⟩;have HM2:=HM.step HM1.below;clear HM HM1;have HM:=HM2;clear HM2))
    have hts:=maj_size hwx hmaj
    clear hmaj
    refine c_cutn (σ:=ByteArray × Bool) (fun s=>[(1,.pointer (some ⟨ga,0,none⟩)),(2,.pointer (some ⟨g,0,none⟩)),(3,.int .i64 ((m : Int) + 1)),(4,.int .i64 fx.length),(5,.string s.1),(6,.bool s.2)]) (fun s W1=>s.1.size ≤ 100 ∧ Mem w0 W1 (box g 78 [.slice none 0 0,.slice none 0 0,.slice none 0 0] :: box ga 78 [.slice i.b0.1 x.recs.length i.b0.2,.slice i.b1.1 x.flight.length i.b1.2,.slice A fx.length c] :: own (tRec 91 40 9 3 66) 31 i.b0.1 i.b0.2 x.recs :: flt 91 40 i.b1.1 i.b1.2 x.flight :: own tFix 134 A c fx :: L)) ?_ ?_
    · by_cases hb : b = true
      · repeat ((refine gC ?_;first|refine c_skip ?_|refine c_no rfl (by (simp;omega)) ?_))
        exact n_mid (t,b) U ⟨hts,HM.sb⟩
      · simp only [Bool.not_eq_true] at hb
        repeat (first|refine Y ?_|(refine qf ?_;go_at_call 124;have hR:=(ro_w3 { x with fixed:=fx } ⟨i.b0,i.b1,(A,c)⟩ HM).recs;refine (knows_c { x with fixed:=fx } ⟨i.b0,i.b1,(A,c)⟩ ((m : Int) + 1) hwx (by omega) hR (Mem.start _)).mono ?_;rintro e W1 ⟨t2,b2,ht2,rfl,HM1⟩;refine ⟨_,rfl,?_⟩;have HM2:=HM.step HM1.below;clear HM HM1 hR;have HM:=HM2;clear HM2))
        exact n_mid (t2,b2) U ⟨ht2,HM.sb⟩
    clear HM hts
    rintro ⟨tt,bb⟩ W1 ⟨hts,HM⟩
    dsimp only at hts HM ⊢
    by_cases hb : bb = true
    rotate_left
    · simp only [Bool.not_eq_true] at hb
      repeat refine Y ?_
      exact n_round2 (m + 1,fx) A c (by simp only [Int.natCast_add,Int.natCast_one];exact U) ⟨by dsimp only;omega,hfx,HM.sb⟩ (by dsimp only;omega)
    have hnew : FixP ([] ++ fx.take fx.length ++ [⟨(m : Int) + 1,tt⟩] ++ fx.drop fx.length):=fixp_ins hfx ⟨by dsimp only;omega,hts⟩ hlo (fun j h hj=>by omega)
    have htk : (fx.take fx.length).length = fx.length:=by simp only [List.length_take];omega
    repeat refine Y ?_
    refine gR ?_
    refine x_start (ds:=[17]) HM (fun w hw=>hw) (by kernel_rfl) (by kernel_rfl) qq ?_
    intro HQ HS W1 HM1;replace HM:=HM1;clear HM1
    refine x_pv HQ HS 1 rfl (by kernel_rfl) (by kernel_rfl) (l':=#[false,true,false,false,false,false,false,false,false,false,false,false,false,false,false,false,false,false]) (by kernel_rfl) rfl ?_
    refine Y ?_
    refine x_pv HQ HS 3 rfl (by kernel_rfl) (by kernel_rfl) (l':=#[false,true,false,true,false,false,false,false,false,false,false,false,false,false,false,false,false,false]) (by kernel_rfl) rfl ?_
    refine Y ?_
    refine x_pv HQ HS 6 rfl (by kernel_rfl) (by kernel_rfl) (l':=#[false,true,false,true,false,false,true,false,false,false,false,false,false,false,false,false,false,false]) (by kernel_rfl) rfl ?_
    refine Y ?_
    refine x_pv HQ HS 7 rfl (by kernel_rfl) (by kernel_rfl) (l':=#[false,true,false,true,false,false,true,true,false,false,false,false,false,false,false,false,false,false]) (by kernel_rfl) rfl ?_
    refine Y ?_
    refine x_pv HQ HS 11 rfl (by kernel_rfl) (by kernel_rfl) (l':=#[false,true,false,true,false,false,true,true,false,false,false,true,false,false,false,false,false,false]) (by kernel_rfl) rfl ?_
    refine Y ?_
    refine x_pv HQ HS 13 rfl (by kernel_rfl) (by kernel_rfl) (l':=#[false,true,false,true,false,false,true,true,false,false,false,true,false,true,false,false,false,false]) (by kernel_rfl) rfl ?_
    refine Y ?_
    refine x_ld HQ HS 2 rfl (by kernel_rfl) (by kernel_rfl) (by kernel_rfl) (by kernel_rfl) (l':=#[false,true,true,true,false,false,true,true,false,false,false,true,false,true,false,false,false,false]) (by kernel_rfl) rfl ?_
    refine Y ?_
    refine x_pv HQ HS 4 rfl (by kernel_rfl) (by kernel_rfl) (l':=#[false,true,true,true,true,false,true,true,false,false,false,true,false,true,false,false,false,false]) (by kernel_rfl) rfl ?_
    refine Y ?_
    refine x_ld HQ HS 12 rfl (by kernel_rfl) (by kernel_rfl) (by kernel_rfl) (by kernel_rfl) (l':=#[false,true,true,true,true,false,true,true,false,false,false,true,true,true,false,false,false,false]) (by kernel_rfl) rfl ?_
    refine Y ?_
    refine x_pv HQ HS 14 rfl (by kernel_rfl) (by kernel_rfl) (l':=#[false,true,true,true,true,false,true,true,false,false,false,true,true,true,true,false,false,false]) (by kernel_rfl) rfl ?_
    refine Y ?_
    refine x_two 0 8 (by kernel_rfl) rfl rfl (l':=#[true,true,true,true,true,false,true,true,false,false,false,true,true,true,true,false,false,false]) (l'':=#[false,true,true,true,true,false,true,true,true,false,false,true,true,true,true,false,false,false]) (by kernel_rfl) (by kernel_rfl) (x_go ?_) (x_go ?_)
    · repeat (first|(refine qz ?_;clear HM;intro A1 W1 HM)|refine Y ?_)
      refine x_two 5 8 (by kernel_rfl) rfl rfl (l':=#[true,true,true,true,true,true,true,true,false,false,false,true,true,true,true,false,false,false]) (l'':=#[true,true,true,true,true,false,true,true,true,false,false,true,true,true,true,false,false,false]) (by kernel_rfl) (by kernel_rfl) (x_go ?_) (x_go ?_)
      · repeat (first|(refine gCall ?_;obtain ⟨F1,hF1⟩:=HM.own (A:=A);(first|(refine s_appw (ys:=fx.take fx.length) HM rfl rfl rfl rfl (ro_rdc (ro_take (ro_fixs hF1) fx.length)) (by simp only [List.length_take];omega) (by simp only [List.length_take,List.length_drop,List.length_append,List.length_cons,List.length_nil];omega) rfl ?_)|(refine s_appw (ys:=fx.drop fx.length) HM rfl rfl (by first|with_reducible rfl|(simp only [List.length_append,List.length_take,List.length_cons,List.length_nil];omega)) rfl (ro_rdc (ro_drop (ro_fixs hF1) hk hcap)) (by simp only [List.length_drop];omega) (by simp only [List.length_take,List.length_drop,List.length_append,List.length_cons,List.length_nil];omega) rfl ?_));clear hF1;intro A1 c1 W1 HM1;replace HM:=HM1;clear HM1)|refine Y ?_)
        refine x_one 8 (by kernel_rfl) rfl (l':=#[true,true,true,true,true,true,true,true,true,false,false,true,true,true,true,false,false,false]) (by kernel_rfl) (x_go ?_)
        repeat refine Y ?_
        refine x_one 9 (by kernel_rfl) rfl (l':=#[true,true,true,true,true,true,true,true,true,true,false,true,true,true,true,false,false,false]) (by kernel_rfl) (x_go ?_)
        repeat (first|(refine qg ?_;clear HM;intro g W1 HM)|refine Y ?_)
        refine x_one 10 (by kernel_rfl) rfl (l':=#[true,true,true,true,true,true,true,true,true,true,true,true,true,true,true,false,false,false]) (by kernel_rfl) (x_go ?_)
        repeat (first|(refine qa ?_;clear HM;intro A1 c1 W1 HM)|refine Y ?_)
        refine x_one 15 (by kernel_rfl) rfl (l':=#[true,true,true,true,true,true,true,true,true,true,true,true,true,true,true,true,false,false]) (by kernel_rfl) (x_go ?_)
        repeat (first|(refine gCall ?_;obtain ⟨F1,hF1⟩:=HM.own (A:=A);(first|(refine s_appw (ys:=fx.take fx.length) HM rfl rfl rfl rfl (ro_rdc (ro_take (ro_fixs hF1) fx.length)) (by simp only [List.length_take];omega) (by simp only [List.length_take,List.length_drop,List.length_append,List.length_cons,List.length_nil];omega) rfl ?_)|(refine s_appw (ys:=fx.drop fx.length) HM rfl rfl (by first|with_reducible rfl|(simp only [List.length_append,List.length_take,List.length_cons,List.length_nil];omega)) rfl (ro_rdc (ro_drop (ro_fixs hF1) hk hcap)) (by simp only [List.length_drop];omega) (by simp only [List.length_take,List.length_drop,List.length_append,List.length_cons,List.length_nil];omega) rfl ?_));clear hF1;intro A1 c1 W1 HM1;replace HM:=HM1;clear HM1)|refine Y ?_)
        refine x_pv HQ HS 16 rfl (by kernel_rfl) (by kernel_rfl) (l':=#[true,true,true,true,true,true,true,true,true,true,true,true,true,true,true,true,true,false]) (by kernel_rfl) rfl ?_
        refine Y ?_
        refine x_last 17 (by kernel_rfl) rfl (l':=#[true,true,true,true,true,true,true,true,true,true,true,true,true,true,true,true,true,true]) (by kernel_rfl) (by kernel_rfl) rfl ?_
        repeat (first|refine Y ?_|(refine qs ?_;clear HM;intro W1 HM))
        exact n_round2 (m + 1,_) A1 c1 (by simp only [Int.natCast_add,Int.natCast_one];exact U) ⟨by dsimp only;omega,hnew,HM.sb⟩ (by dsimp only;omega)
      · repeat refine Y ?_
        refine x_two 5 9 (by kernel_rfl) rfl rfl (l':=#[true,true,true,true,true,true,true,true,true,false,false,true,true,true,true,false,false,false]) (l'':=#[true,true,true,true,true,false,true,true,true,true,false,true,true,true,true,false,false,false]) (by kernel_rfl) (by kernel_rfl) (x_go ?_) (x_go ?_)
        · repeat (first|(refine gCall ?_;obtain ⟨F1,hF1⟩:=HM.own (A:=A);(first|(refine s_appw (ys:=fx.take fx.length) HM rfl rfl rfl rfl (ro_rdc (ro_take (ro_fixs hF1) fx.length)) (by simp only [List.length_take];omega) (by simp only [List.length_take,List.length_drop,List.length_append,List.length_cons,List.length_nil];omega) rfl ?_)|(refine s_appw (ys:=fx.drop fx.length) HM rfl rfl (by first|with_reducible rfl|(simp only [List.length_append,List.length_take,List.length_cons,List.length_nil];omega)) rfl (ro_rdc (ro_drop (ro_fixs hF1) hk hcap)) (by simp only [List.length_drop];omega) (by simp only [List.length_take,List.length_drop,List.length_append,List.length_cons,List.length_nil];omega) rfl ?_));clear hF1;intro A1 c1 W1 HM1;replace HM:=HM1;clear HM1)|refine Y ?_)
          refine x_one 9 (by kernel_rfl) rfl (l':=#[true,true,true,true,true,true,true,true,true,true,false,true,true,true,true,false,false,false]) (by kernel_rfl) (x_go ?_)
          repeat (first|(refine qg ?_;clear HM;intro g W1 HM)|refine Y ?_)
          refine x_one 10 (by kernel_rfl) rfl (l':=#[true,true,true,true,true,true,true,true,true,true,true,true,true,true,true,false,false,false]) (by kernel_rfl) (x_go ?_)
          repeat (first|(refine qa ?_;clear HM;intro A1 c1 W1 HM)|refine Y ?_)
          refine x_one 15 (by kernel_rfl) rfl (l':=#[true,true,true,true,true,true,true,true,true,true,true,true,true,true,true,true,false,false]) (by kernel_rfl) (x_go ?_)
          repeat (first|(refine gCall ?_;obtain ⟨F1,hF1⟩:=HM.own (A:=A);(first|(refine s_appw (ys:=fx.take fx.length) HM rfl rfl rfl rfl (ro_rdc (ro_take (ro_fixs hF1) fx.length)) (by simp only [List.length_take];omega) (by simp only [List.length_take,List.length_drop,List.length_append,List.length_cons,List.length_nil];omega) rfl ?_)|(refine s_appw (ys:=fx.drop fx.length) HM rfl rfl (by first|with_reducible rfl|(simp only [List.length_append,List.length_take,List.length_cons,List.length_nil];omega)) rfl (ro_rdc (ro_drop (ro_fixs hF1) hk hcap)) (by simp only [List.length_drop];omega) (by simp only [List.length_take,List.length_drop,List.length_append,List.length_cons,List.length_nil];omega) rfl ?_));clear hF1;intro A1 c1 W1 HM1;replace HM:=HM1;clear HM1)|refine Y ?_)
          refine x_pv HQ HS 16 rfl (by kernel_rfl) (by kernel_rfl) (l':=#[true,true,true,true,true,true,true,true,true,true,true,true,true,true,true,true,true,false]) (by kernel_rfl) rfl ?_
          refine Y ?_
          refine x_last 17 (by kernel_rfl) rfl (l':=#[true,true,true,true,true,true,true,true,true,true,true,true,true,true,true,true,true,true]) (by kernel_rfl) (by kernel_rfl) rfl ?_
          repeat (first|refine Y ?_|(refine qs ?_;clear HM;intro W1 HM))
          exact n_round2 (m + 1,_) A1 c1 (by simp only [Int.natCast_add,Int.natCast_one];exact U) ⟨by dsimp only;omega,hnew,HM.sb⟩ (by dsimp only;omega)
        · repeat (first|(refine qg ?_;clear HM;intro g W1 HM)|refine Y ?_)
          refine x_one 5 (by kernel_rfl) rfl (l':=#[true,true,true,true,true,true,true,true,true,true,false,true,true,true,true,false,false,false]) (by kernel_rfl) (x_go ?_)
          repeat (first|(refine gCall ?_;obtain ⟨F1,hF1⟩:=HM.own (A:=A);(first|(refine s_appw (ys:=fx.take fx.length) HM rfl rfl rfl rfl (ro_rdc (ro_take (ro_fixs hF1) fx.length)) (by simp only [List.length_take];omega) (by simp only [List.length_take,List.length_drop,List.length_append,List.length_cons,List.length_nil];omega) rfl ?_)|(refine s_appw (ys:=fx.drop fx.length) HM rfl rfl (by first|with_reducible rfl|(simp only [List.length_append,List.length_take,List.length_cons,List.length_nil];omega)) rfl (ro_rdc (ro_drop (ro_fixs hF1) hk hcap)) (by simp only [List.length_drop];omega) (by simp only [List.length_take,List.length_drop,List.length_append,List.length_cons,List.length_nil];omega) rfl ?_));clear hF1;intro A1 c1 W1 HM1;replace HM:=HM1;clear HM1)|refine Y ?_)
          refine x_one 10 (by kernel_rfl) rfl (l':=#[true,true,true,true,true,true,true,true,true,true,true,true,true,true,true,false,false,false]) (by kernel_rfl) (x_go ?_)
          repeat (first|(refine qa ?_;clear HM;intro A1 c1 W1 HM)|refine Y ?_)
          refine x_one 15 (by kernel_rfl) rfl (l':=#[true,true,true,true,true,true,true,true,true,true,true,true,true,true,true,true,false,false]) (by kernel_rfl) (x_go ?_)
          repeat (first|(refine gCall ?_;obtain ⟨F1,hF1⟩:=HM.own (A:=A);(first|(refine s_appw (ys:=fx.take fx.length) HM rfl rfl rfl rfl (ro_rdc (ro_take (ro_fixs hF1) fx.length)) (by simp only [List.length_take];omega) (by simp only [List.length_take,List.length_drop,List.length_append,List.length_cons,List.length_nil];omega) rfl ?_)|(refine s_appw (ys:=fx.drop fx.length) HM rfl rfl (by first|with_reducible rfl|(simp only [List.length_append,List.length_take,List.length_cons,List.length_nil];omega)) rfl (ro_rdc (ro_drop (ro_fixs hF1) hk hcap)) (by simp only [List.length_drop];omega) (by simp only [List.length_take,List.length_drop,List.length_append,List.length_cons,List.length_nil];omega) rfl ?_));clear hF1;intro A1 c1 W1 HM1;replace HM:=HM1;clear HM1)|refine Y ?_)
          refine x_pv HQ HS 16 rfl (by kernel_rfl) (by kernel_rfl) (l':=#[true,true,true,true,true,true,true,true,true,true,true,true,true,true,true,true,true,false]) (by kernel_rfl) rfl ?_
          refine Y ?_
          refine x_last 17 (by kernel_rfl) rfl (l':=#[true,true,true,true,true,true,true,true,true,true,true,true,true,true,true,true,true,true]) (by kernel_rfl) (by kernel_rfl) rfl ?_
          repeat (first|refine Y ?_|(refine qs ?_;clear HM;intro W1 HM))
          exact n_round2 (m + 1,_) A1 c1 (by simp only [Int.natCast_add,Int.natCast_one];exact U) ⟨by dsimp only;omega,hnew,HM.sb⟩ (by dsimp only;omega)
    · repeat refine Y ?_
      refine x_two 0 9 (by kernel_rfl) rfl rfl (l':=#[true,true,true,true,true,false,true,true,true,false,false,true,true,true,true,false,false,false]) (l'':=#[false,true,true,true,true,false,true,true,true,true,false,true,true,true,true,false,false,false]) (by kernel_rfl) (by kernel_rfl) (x_go ?_) (x_go ?_)
      · repeat (first|(refine qz ?_;clear HM;intro A1 W1 HM)|refine Y ?_)
        refine x_two 5 9 (by kernel_rfl) rfl rfl (l':=#[true,true,true,true,true,true,true,true,true,false,false,true,true,true,true,false,false,false]) (l'':=#[true,true,true,true,true,false,true,true,true,true,false,true,true,true,true,false,false,false]) (by kernel_rfl) (by kernel_rfl) (x_go ?_) (x_go ?_)
        · repeat (first|(refine gCall ?_;obtain ⟨F1,hF1⟩:=HM.own (A:=A);(first|(refine s_appw (ys:=fx.take fx.length) HM rfl rfl rfl rfl (ro_rdc (ro_take (ro_fixs hF1) fx.length)) (by simp only [List.length_take];omega) (by simp only [List.length_take,List.length_drop,List.length_append,List.length_cons,List.length_nil];omega) rfl ?_)|(refine s_appw (ys:=fx.drop fx.length) HM rfl rfl (by first|with_reducible rfl|(simp only [List.length_append,List.length_take,List.length_cons,List.length_nil];omega)) rfl (ro_rdc (ro_drop (ro_fixs hF1) hk hcap)) (by simp only [List.length_drop];omega) (by simp only [List.length_take,List.length_drop,List.length_append,List.length_cons,List.length_nil];omega) rfl ?_));clear hF1;intro A1 c1 W1 HM1;replace HM:=HM1;clear HM1)|refine Y ?_)
          refine x_one 9 (by kernel_rfl) rfl (l':=#[true,true,true,true,true,true,true,true,true,true,false,true,true,true,true,false,false,false]) (by kernel_rfl) (x_go ?_)
          repeat (first|(refine qg ?_;clear HM;intro g W1 HM)|refine Y ?_)
          refine x_one 10 (by kernel_rfl) rfl (l':=#[true,true,true,true,true,true,true,true,true,true,true,true,true,true,true,false,false,false]) (by kernel_rfl) (x_go ?_)
          repeat (first|(refine qa ?_;clear HM;intro A1 c1 W1 HM)|refine Y ?_)
          refine x_one 15 (by kernel_rfl) rfl (l':=#[true,true,true,true,true,true,true,true,true,true,true,true,true,true,true,true,false,false]) (by kernel_rfl) (x_go ?_)
          repeat (first|(refine gCall ?_;obtain ⟨F1,hF1⟩:=HM.own (A:=A);(first|(refine s_appw (ys:=fx.take fx.length) HM rfl rfl rfl rfl (ro_rdc (ro_take (ro_fixs hF1) fx.length)) (by simp only [List.length_take];omega) (by simp only [List.length_take,List.length_drop,List.length_append,List.length_cons,List.length_nil];omega) rfl ?_)|(refine s_appw (ys:=fx.drop fx.length) HM rfl rfl (by first|with_reducible rfl|(simp only [List.length_append,List.length_take,List.length_cons,List.length_nil];omega)) rfl (ro_rdc (ro_drop (ro_fixs hF1) hk hcap)) (by simp only [List.length_drop];omega) (by simp only [List.length_take,List.length_drop,List.length_append,List.length_cons,List.length_nil];omega) rfl ?_));clear hF1;intro A1 c1 W1 HM1;replace HM:=HM1;clear HM1)|refine Y ?_)
          refine x_pv HQ HS 16 rfl (by kernel_rfl) (by kernel_rfl) (l':=#[true,true,true,true,true,true,true,true,true,true,true,true,true,true,true,true,true,false]) (by kernel_rfl) rfl ?_
          refine Y ?_
          refine x_last 17 (by kernel_rfl) rfl (l':=#[true,true,true,true,true,true,true,true,true,true,true,true,true,true,true,true,true,true]) (by kernel_rfl) (by kernel_rfl) rfl ?_
          repeat (first|refine Y ?_|(refine qs ?_;clear HM;intro W1 HM))
          exact n_round2 (m + 1,_) A1 c1 (by simp only [Int.natCast_add,Int.natCast_one];exact U) ⟨by dsimp only;omega,hnew,HM.sb⟩ (by dsimp only;omega)
        · repeat (first|(refine qg ?_;clear HM;intro g W1 HM)|refine Y ?_)
          refine x_one 5 (by kernel_rfl) rfl (l':=#[true,true,true,true,true,true,true,true,true,true,false,true,true,true,true,false,false,false]) (by kernel_rfl) (x_go ?_)
          repeat (first|(refine gCall ?_;obtain ⟨F1,hF1⟩:=HM.own (A:=A);(first|(refine s_appw (ys:=fx.take fx.length) HM rfl rfl rfl rfl (ro_rdc (ro_take (ro_fixs hF1) fx.length)) (by simp only [List.length_take];omega) (by simp only [List.length_take,List.length_drop,List.length_append,List.length_cons,List.length_nil];omega) rfl ?_)|(refine s_appw (ys:=fx.drop fx.length) HM rfl rfl (by first|with_reducible rfl|(simp only [List.length_append,List.length_take,List.length_cons,List.length_nil];omega)) rfl (ro_rdc (ro_drop (ro_fixs hF1) hk hcap)) (by simp only [List.length_drop];omega) (by simp only [List.length_take,List.length_drop,List.length_append,List.length_cons,List.length_nil];omega) rfl ?_));clear hF1;intro A1 c1 W1 HM1;replace HM:=HM1;clear HM1)|refine Y ?_)
          refine x_one 10 (by kernel_rfl) rfl (l':=#[true,true,true,true,true,true,true,true,true,true,true,true,true,true,true,false,false,false]) (by kernel_rfl) (x_go ?_)
          repeat (first|(refine qa ?_;clear HM;intro A1 c1 W1 HM)|refine Y ?_)
          refine x_one 15 (by kernel_rfl) rfl (l':=#[true,true,true,true,true,true,true,true,true,true,true,true,true,true,true,true,false,false]) (by kernel_rfl) (x_go ?_)
          repeat (first|(refine gCall ?_;obtain ⟨F1,hF1⟩:=HM.own (A:=A);(first|(refine s_appw (ys:=fx.take fx.length) HM rfl rfl rfl rfl (ro_rdc (ro_take (ro_fixs hF1) fx.length)) (by simp only [List.length_take];omega) (by simp only [List.length_take,List.length_drop,List.length_append,List.length_cons,List.length_nil];omega) rfl ?_)|(refine s_appw (ys:=fx.drop fx.length) HM rfl rfl (by first|with_reducible rfl|(simp only [List.length_append,List.length_take,List.length_cons,List.length_nil];omega)) rfl (ro_rdc (ro_drop (ro_fixs hF1) hk hcap)) (by simp only [List.length_drop];omega) (by simp only [List.length_take,List.length_drop,List.length_append,List.length_cons,List.length_nil];omega) rfl ?_));clear hF1;intro A1 c1 W1 HM1;replace HM:=HM1;clear HM1)|refine Y ?_)
          refine x_pv HQ HS 16 rfl (by kernel_rfl) (by kernel_rfl) (l':=#[true,true,true,true,true,true,true,true,true,true,true,true,true,true,true,true,true,false]) (by kernel_rfl) rfl ?_
          refine Y ?_
          refine x_last 17 (by kernel_rfl) rfl (l':=#[true,true,true,true,true,true,true,true,true,true,true,true,true,true,true,true,true,true]) (by kernel_rfl) (by kernel_rfl) rfl ?_
          repeat (first|refine Y ?_|(refine qs ?_;clear HM;intro W1 HM))
          exact n_round2 (m + 1,_) A1 c1 (by simp only [Int.natCast_add,Int.natCast_one];exact U) ⟨by dsimp only;omega,hnew,HM.sb⟩ (by dsimp only;omega)
      · repeat (first|(refine qg ?_;clear HM;intro g W1 HM)|refine Y ?_)
        refine x_one 0 (by kernel_rfl) rfl (l':=#[true,true,true,true,true,false,true,true,true,true,false,true,true,true,true,false,false,false]) (by kernel_rfl) (x_go ?_)
        repeat (first|(refine qz ?_;clear HM;intro A1 W1 HM)|refine Y ?_)
        refine x_one 5 (by kernel_rfl) rfl (l':=#[true,true,true,true,true,true,true,true,true,true,false,true,true,true,true,false,false,false]) (by kernel_rfl) (x_go ?_)
        repeat (first|(refine gCall ?_;obtain ⟨F1,hF1⟩:=HM.own (A:=A);(first|(refine s_appw (ys:=fx.take fx.length) HM rfl rfl rfl rfl (ro_rdc (ro_take (ro_fixs hF1) fx.length)) (by simp only [List.length_take];omega) (by simp only [List.length_take,List.length_drop,List.length_append,List.length_cons,List.length_nil];omega) rfl ?_)|(refine s_appw (ys:=fx.drop fx.length) HM rfl rfl (by first|with_reducible rfl|(simp only [List.length_append,List.length_take,List.length_cons,List.length_nil];omega)) rfl (ro_rdc (ro_drop (ro_fixs hF1) hk hcap)) (by simp only [List.length_drop];omega) (by simp only [List.length_take,List.length_drop,List.length_append,List.length_cons,List.length_nil];omega) rfl ?_));clear hF1;intro A1 c1 W1 HM1;replace HM:=HM1;clear HM1)|refine Y ?_)
        refine x_one 10 (by kernel_rfl) rfl (l':=#[true,true,true,true,true,true,true,true,true,true,true,true,true,true,true,false,false,false]) (by kernel_rfl) (x_go ?_)
        repeat (first|(refine qa ?_;clear HM;intro A1 c1 W1 HM)|refine Y ?_)
        refine x_one 15 (by kernel_rfl) rfl (l':=#[true,true,true,true,true,true,true,true,true,true,true,true,true,true,true,true,false,false]) (by kernel_rfl) (x_go ?_)
        repeat (first|(refine gCall ?_;obtain ⟨F1,hF1⟩:=HM.own (A:=A);(first|(refine s_appw (ys:=fx.take fx.length) HM rfl rfl rfl rfl (ro_rdc (ro_take (ro_fixs hF1) fx.length)) (by simp only [List.length_take];omega) (by simp only [List.length_take,List.length_drop,List.length_append,List.length_cons,List.length_nil];omega) rfl ?_)|(refine s_appw (ys:=fx.drop fx.length) HM rfl rfl (by first|with_reducible rfl|(simp only [List.length_append,List.length_take,List.length_cons,List.length_nil];omega)) rfl (ro_rdc (ro_drop (ro_fixs hF1) hk hcap)) (by simp only [List.length_drop];omega) (by simp only [List.length_take,List.length_drop,List.length_append,List.length_cons,List.length_nil];omega) rfl ?_));clear hF1;intro A1 c1 W1 HM1;replace HM:=HM1;clear HM1)|refine Y ?_)
        refine x_pv HQ HS 16 rfl (by kernel_rfl) (by kernel_rfl) (l':=#[true,true,true,true,true,true,true,true,true,true,true,true,true,true,true,true,true,false]) (by kernel_rfl) rfl ?_
        refine Y ?_
        refine x_last 17 (by kernel_rfl) rfl (l':=#[true,true,true,true,true,true,true,true,true,true,true,true,true,true,true,true,true,true]) (by kernel_rfl) (by kernel_rfl) rfl ?_
        repeat (first|refine Y ?_|(refine qs ?_;clear HM;intro W1 HM))
        exact n_round2 (m + 1,_) A1 c1 (by simp only [Int.natCast_add,Int.natCast_one];exact U) ⟨by dsimp only;omega,hnew,HM.sb⟩ (by dsimp only;omega)
end Go.Proofs.YtampmicahnnebaaGreat.Sp
namespace Go.Proofs.YtampmicahnnebaaGreat.Sp
open Go Go.RowKit Go.Proofs.YtampmicahnnebaaGreatW.PrintLast
set_option maxRecDepth 10000
set_option maxHeartbeats 4000000
section
variable {P : Program} {n : Nat} {ops : Array Oper} {ll : List Oper} {Q : Exit → Act → World → Prop} {S : World → Prop} {ds : List Nat} {E : Env} {W : World} {i j k d fuel : Nat} {l l' l'' l3 : Array Bool} {o o' o3 : Oper}
theorem x_three (i j k : Nat) (hr : Region.ready .any ll.toArray l = [i,j,k]) (ho : nthO ll i = some o) (ho2 : nthO ll j = some o') (ho3 : nthO ll k = some o3) (hl : l.setIfInBounds i true = l') (hl2 : l.setIfInBounds j true = l'') (hl3 : l.setIfInBounds k true = l3) (h : XO P n ll.toArray Q S ds l' fuel o E W) (h2 : XO P n ll.toArray Q S ds l'' fuel o' E W) (h3 : XO P n ll.toArray Q S ds l3 fuel o3 E W) : WX P n ll.toArray Q S ds l (fuel + 1) E W:=by
  have ho' : ll.toArray[i]? = some o:=by rw [nthO_eq] at ho;simpa using ho
  have ho2' : ll.toArray[j]? = some o':=by rw [nthO_eq] at ho2;simpa using ho2
  have ho3' : ll.toArray[k]? = some o3:=by rw [nthO_eq] at ho3;simpa using ho3
  refine ⟨fun a ha hS=>?_⟩
  refine wpAnyLast_all hr (by simp) (fun q hq=>?_)
  simp only [List.mem_cons,List.not_mem_nil,or_false] at hq
  rcases hq with rfl|rfl|rfl
  · have h4:=h.out.out a ha
    rw [← hl] at h4
    exact wpOp_mono (fun a' w' hk=>⟨fun _ _=>hk.1,hk.2⟩) (list_wpOp ho' h4)
  · have h4:=h2.out.out a ha
    rw [← hl2] at h4
    exact wpOp_mono (fun a' w' hk=>⟨fun _ _=>hk.1,hk.2⟩) (list_wpOp ho2' h4)
  · have h4:=h3.out.out a ha
    rw [← hl3] at h4
    exact wpOp_mono (fun a' w' hk=>⟨fun _ _=>hk.1,hk.2⟩) (list_wpOp ho3' h4)
end
variable {w0 W : World} {L : List Asn}
def rMA : TyR MA:=nestR (ι:=Unit) 8 (⟨0,0,0,0,0,0,⟨#[]⟩,[]⟩,(none,0)) encMA (fun _ _ _=>True) getMA (fun _ _=>rfl)
  (fun z j v i h=>by
    match j with
    | 0|1|2|3|4|5|6|7=>simpa [encMA,encMsg,getMA] using h
    | j + 8=>simp [getMA] at h)
instance : FlatR rMA (fun z=>encMsg z.1 z.2):=⟨by rintro w x c ⟨_,h,_⟩;exact h⟩
theorem ro_ma {x : MA} {c : List Value} {W : World} {F : Nat → Prop} (h : (tMA.A x c).H W F) : rMA.R W x c:=by obtain ⟨_,h,_⟩:=h;exact ⟨(),h,trivial⟩
theorem ro_mas {xs : List MA} {W : World} {F : Nat → Prop} {e q : Nat} {A : Option Addr} (h : (own tMA e A q xs).H W F) : RoRow rMA W A xs:=own_ro rfl ro_ma h
theorem nil_ma {eS e c : Nat} {A : Option Addr} (h : Mem w0 W (own (tMsg eS) e A c [] :: L)) : Mem w0 W (own tMA e A c [] :: L):=by
  obtain ⟨zs,e1,h⟩:=opn_bag h
  obtain rfl : zs = []:=by simpa using e1
  exact (h.perm (List.Perm.swap ..)).drop
instance {m : Msg} {i : At} {L : List Asn} : MkIn L tMA (encMsg m i) (m,i) L:=⟨fun W ok h=>⟨fun _=>False,fun _ h=>h.elim,⟨(),rfl,trivial⟩,h.mono (fun k hk=>⟨hk,fun h=>h⟩)⟩⟩
instance {m : Msg} {i : At} : Len (encMsg m i) 8:=⟨rfl⟩
theorem out_c {A : Option Addr} {c k : Nat} {zs : List MA} (hk : k < zs.length) (hn : zs.length ≤ 1000) (HM : Mem w0 W (own tMA 40 A c zs :: L)) : Calls Tryz.prog 109 #[.slice A zs.length c,.int .i64 k] W fun e W'=>∃ A' c',e = .returned (.slice A' (zs.take k ++ zs.drop (k + 1)).length c') ∧ Mem w0 W' (own tMA 40 A' c' (zs.take k ++ zs.drop (k + 1)) :: own tMA 40 A c zs :: L):=by
  refine enter Tryz.func109 rfl Tryz.ntmps109 [(0,_),(1,_)] rfl ⟨rfl,rfl,trivial⟩ ?_
  have hcap : zs.length ≤ c:=by obtain ⟨F1,hF1⟩:=HM.own (A:=A);exact (own_max hF1).2
  have hk1 : (k : Int) + 1 = ((k + 1 : Nat) : Int):=by omega
  repeat refine Y ?_
  refine gR ?_
  refine x_start (ds:=[]) HM (fun w hw=>hw) (by kernel_rfl) (by kernel_rfl) qq ?_
  intro HQ HS W1 HM1;replace HM:=HM1;clear HM1
  refine x_pv HQ HS 1 rfl (by kernel_rfl) (by kernel_rfl) (l':=#[false,true,false,false,false,false,false,false,false,false,false]) (by kernel_rfl) rfl ?_
  refine Y ?_
  refine x_pv HQ HS 2 rfl (by kernel_rfl) (by kernel_rfl) (l':=#[false,true,true,false,false,false,false,false,false,false,false]) (by kernel_rfl) rfl ?_
  refine Y ?_
  refine x_pv HQ HS 3 rfl (by kernel_rfl) (by kernel_rfl) (l':=#[false,true,true,true,false,false,false,false,false,false,false]) (by kernel_rfl) rfl ?_
  refine Y ?_
  refine x_pv HQ HS 5 rfl (by kernel_rfl) (by kernel_rfl) (l':=#[false,true,true,true,false,true,false,false,false,false,false]) (by kernel_rfl) rfl ?_
  refine Y ?_
  refine x_pv HQ HS 6 rfl (by kernel_rfl) (by kernel_rfl) (l':=#[false,true,true,true,false,true,true,false,false,false,false]) (by kernel_rfl) rfl ?_
  refine Y ?_
  refine x_pv HQ HS 7 rfl (by kernel_rfl) (by kernel_rfl) (l':=#[false,true,true,true,false,true,true,true,false,false,false]) (by kernel_rfl) rfl ?_
  refine Y ?_
  refine x_pv HQ HS 8 rfl (by kernel_rfl) (by kernel_rfl) (l':=#[false,true,true,true,false,true,true,true,true,false,false]) (by kernel_rfl) rfl ?_
  refine Y ?_
  refine x_one 0 (by kernel_rfl) rfl (l':=#[true,true,true,true,false,true,true,true,true,false,false]) (by kernel_rfl) (x_go ?_)
  repeat (first|(refine gL ?_;refine s_lit0a HM rfl rfl ?_;intro A1 W1 HM1;clear HM;have HM:=nil_ma HM1;clear HM1)|refine Y ?_)
  refine x_one 4 (by kernel_rfl) rfl (l':=#[true,true,true,true,true,true,true,true,true,false,false]) (by kernel_rfl) (x_go ?_)
  repeat (first|(refine gCall ?_;obtain ⟨F1,hF1⟩:=HM.own (A:=A);(first|(refine s_appw (ys:=zs.take k) HM rfl rfl rfl rfl (ro_rdc (ro_take (ro_mas hF1) k)) (by simp only [List.length_take];omega) (by simp only [List.length_take,List.length_drop,List.length_append,List.length_cons,List.length_nil];omega) rfl ?_)|(refine s_appw (ys:=zs.drop (k + 1)) HM rfl rfl (by first|with_reducible rfl|(simp only [List.length_append,List.length_take,List.length_cons,List.length_nil];omega)) rfl (ro_rdc (ro_drop (ro_mas hF1) (by omega) hcap)) (by simp only [List.length_drop];omega) (by simp only [List.length_take,List.length_drop,List.length_append,List.length_cons,List.length_nil];omega) rfl ?_));clear hF1;intro A1 c1 W1 HM1;replace HM:=HM1;clear HM1)|refine Y ?_)
  refine x_one 9 (by kernel_rfl) rfl (l':=#[true,true,true,true,true,true,true,true,true,true,false]) (by kernel_rfl) (x_go ?_)
  repeat (first|(refine gCall ?_;obtain ⟨F1,hF1⟩:=HM.own (A:=A);(first|(refine s_appw (ys:=zs.take k) HM rfl rfl rfl rfl (ro_rdc (ro_take (ro_mas hF1) k)) (by simp only [List.length_take];omega) (by simp only [List.length_take,List.length_drop,List.length_append,List.length_cons,List.length_nil];omega) rfl ?_)|(refine s_appw (ys:=zs.drop (k + 1)) HM rfl rfl (by first|with_reducible rfl|(simp only [List.length_append,List.length_take,List.length_cons,List.length_nil];omega)) rfl (ro_rdc (ro_drop (ro_mas hF1) (by omega) hcap)) (by simp only [List.length_drop];omega) (by simp only [List.length_take,List.length_drop,List.length_append,List.length_cons,List.length_nil];omega) rfl ?_));clear hF1;intro A1 c1 W1 HM1;replace HM:=HM1;clear HM1)|refine Y ?_)
  refine x_pv HQ HS 10 rfl (by kernel_rfl) (by kernel_rfl) (l':=#[true,true,true,true,true,true,true,true,true,true,true]) (by kernel_rfl) rfl ?_
  refine Y ?_
  refine x_done (by kernel_rfl) ?_
  repeat refine Y ?_
  rw [show zs.take k ++ zs.drop (k + 1) = [] ++ zs.take k ++ zs.drop (k + 1) from rfl]
  exact ret_tmp rfl rfl ⟨A1,c1,rfl,HM.sb⟩
theorem copy_c (x : Wld) (i : AtW) (h : RoW false w0 x i) (hn : SmallW x) (HM : Mem w0 W L) : Calls Tryz.prog 90 #[.agg (encW x i).toArray] W fun e W'=>∃ j,e = .returned (.agg (encW x j).toArray) ∧ Mem w0 W' (wldP x j ++ L):=by
  refine enter Tryz.func90 rfl Tryz.ntmps90 [(0,.agg (encW x i).toArray)] rfl ⟨rfl,trivial⟩ ?_
  have hr:=h.recs
  have hf:=h.fixed
  have hn1:=hn.recs
  have hn2:=hn.fixed
  unfold encW
  replace HM:=(HM.rod hr).rod hf
  repeat (first|(refine qg ?_;clear HM;intro g W1 HM)|refine Y ?_)
  rename_i ga Wa
  refine c_cutn (σ:=Nat × At × At) (fun s=>[(1,.pointer (some ⟨ga,0,none⟩)),(2,.pointer (some ⟨g,0,none⟩)),(3,.pointer (some ⟨s.1,0,none⟩))]) (fun s W1=>Mem w0 W1 (box g 78 [.slice none 0 0,.slice none 0 0,.slice none 0 0] :: box ga 78 [.slice i.b0.1 x.recs.length i.b0.2,.slice i.b1.1 x.flight.length i.b1.2,.slice i.b2.1 x.fixed.length i.b2.2] :: box s.1 78 [.slice none 0 0,.slice s.2.1.1 x.flight.length s.2.1.2,.slice s.2.2.1 x.fixed.length s.2.2.2] :: own (tMsg 91) 40 s.2.1.1 s.2.1.2 x.flight :: own tFix 134 s.2.2.1 s.2.2.2 x.fixed :: L)) ?_ ?_
  · have hz:=hn1
    refine gR ?_
    refine x_start (ds:=[]) HM (fun w hw=>hw) (by kernel_rfl) (by kernel_rfl) qq ?_
    intro HQ HS W1 HM1;replace HM:=HM1;clear HM1
    refine x_pv HQ HS 0 rfl (by kernel_rfl) (by kernel_rfl) (l':=#[true,false,false,false,false,false,false,false,false,false]) (by kernel_rfl) rfl ?_
    refine Y ?_
    refine x_pv HQ HS 4 rfl (by kernel_rfl) (by kernel_rfl) (l':=#[true,false,false,false,true,false,false,false,false,false]) (by kernel_rfl) rfl ?_
    refine Y ?_
    refine x_ld HQ HS 1 rfl (by kernel_rfl) (by kernel_rfl) (by kernel_rfl) (by kernel_rfl) (l':=#[true,true,false,false,true,false,false,false,false,false]) (by kernel_rfl) rfl ?_
    refine Y ?_
    refine x_ld HQ HS 5 rfl (by kernel_rfl) (by kernel_rfl) (by kernel_rfl) (by kernel_rfl) (l':=#[true,true,false,false,true,true,false,false,false,false]) (by kernel_rfl) rfl ?_
    refine Y ?_
    refine x_three 2 3 8 (by kernel_rfl) rfl rfl rfl (l':=#[true,true,true,false,true,true,false,false,false,false]) (l'':=#[true,true,false,true,true,true,false,false,false,false]) (l3:=#[true,true,false,false,true,true,false,false,true,false]) (by kernel_rfl) (by kernel_rfl) (by kernel_rfl) (x_go ?_) (x_go ?_) (x_go ?_)
    · repeat (first|(refine qf ?_;go_at_call 29;refine (l2Messages_c h.flight hn.flight hn.flights HM).mono ?_;rintro e W1 ⟨A5,c5,rfl,HM1⟩;refine ⟨_,rfl,?_⟩;replace HM:=HM1;clear HM1)|refine Y ?_)
      refine x_two 3 8 (by kernel_rfl) rfl rfl (l':=#[true,true,true,true,true,true,false,false,false,false]) (l'':=#[true,true,true,false,true,true,false,false,true,false]) (by kernel_rfl) (by kernel_rfl) (x_go ?_) (x_go ?_)
      · repeat (first|(refine qz ?_;clear HM;intro A1 W1 HM)|refine Y ?_)
        refine x_two 6 8 (by kernel_rfl) rfl rfl (l':=#[true,true,true,true,true,true,true,false,false,false]) (l'':=#[true,true,true,true,true,true,false,false,true,false]) (by kernel_rfl) (by kernel_rfl) (x_go ?_) (x_go ?_)
        · repeat (first|(refine qa ?_;clear HM;intro A1 c1 W1 HM)|refine Y ?_)
          refine x_two 7 8 (by kernel_rfl) rfl rfl (l':=#[true,true,true,true,true,true,true,true,false,false]) (l'':=#[true,true,true,true,true,true,true,false,true,false]) (by kernel_rfl) (by kernel_rfl) (x_go ?_) (x_go ?_)
          · repeat refine Y ?_
            refine x_one 8 (by kernel_rfl) rfl (l':=#[true,true,true,true,true,true,true,true,true,false]) (by kernel_rfl) (x_go ?_)
            repeat (first|(refine qg ?_;clear HM;intro g W1 HM)|refine Y ?_)
            refine x_one 9 (by kernel_rfl) rfl (l':=#[true,true,true,true,true,true,true,true,true,true]) (by kernel_rfl) (x_go ?_)
            repeat (first|(refine qs ?_;clear HM;intro W1 HM)|refine Y ?_)
            refine x_done (by kernel_rfl) ?_
            exact n_mid (g,(A5,c5),(A1,c1)) U HM.sb
          · repeat (first|(refine qg ?_;clear HM;intro g W1 HM)|refine Y ?_)
            refine x_one 7 (by kernel_rfl) rfl (l':=#[true,true,true,true,true,true,true,true,true,false]) (by kernel_rfl) (x_go ?_)
            repeat refine Y ?_
            refine x_one 9 (by kernel_rfl) rfl (l':=#[true,true,true,true,true,true,true,true,true,true]) (by kernel_rfl) (x_go ?_)
            repeat (first|(refine qs ?_;clear HM;intro W1 HM)|refine Y ?_)
            refine x_done (by kernel_rfl) ?_
            exact n_mid (g,(A5,c5),(A1,c1)) U HM.sb
        · repeat (first|(refine qg ?_;clear HM;intro g W1 HM)|refine Y ?_)
          refine x_one 6 (by kernel_rfl) rfl (l':=#[true,true,true,true,true,true,true,false,true,false]) (by kernel_rfl) (x_go ?_)
          repeat (first|(refine qa ?_;clear HM;intro A1 c1 W1 HM)|refine Y ?_)
          refine x_one 7 (by kernel_rfl) rfl (l':=#[true,true,true,true,true,true,true,true,true,false]) (by kernel_rfl) (x_go ?_)
          repeat refine Y ?_
          refine x_one 9 (by kernel_rfl) rfl (l':=#[true,true,true,true,true,true,true,true,true,true]) (by kernel_rfl) (x_go ?_)
          repeat (first|(refine qs ?_;clear HM;intro W1 HM)|refine Y ?_)
          refine x_done (by kernel_rfl) ?_
          exact n_mid (g,(A5,c5),(A1,c1)) U HM.sb
      · repeat (first|(refine qg ?_;clear HM;intro g W1 HM)|refine Y ?_)
        refine x_one 3 (by kernel_rfl) rfl (l':=#[true,true,true,true,true,true,false,false,true,false]) (by kernel_rfl) (x_go ?_)
        repeat (first|(refine qz ?_;clear HM;intro A1 W1 HM)|refine Y ?_)
        refine x_one 6 (by kernel_rfl) rfl (l':=#[true,true,true,true,true,true,true,false,true,false]) (by kernel_rfl) (x_go ?_)
        repeat (first|(refine qa ?_;clear HM;intro A1 c1 W1 HM)|refine Y ?_)
        refine x_one 7 (by kernel_rfl) rfl (l':=#[true,true,true,true,true,true,true,true,true,false]) (by kernel_rfl) (x_go ?_)
        repeat refine Y ?_
        refine x_one 9 (by kernel_rfl) rfl (l':=#[true,true,true,true,true,true,true,true,true,true]) (by kernel_rfl) (x_go ?_)
        repeat (first|(refine qs ?_;clear HM;intro W1 HM)|refine Y ?_)
        refine x_done (by kernel_rfl) ?_
        exact n_mid (g,(A5,c5),(A1,c1)) U HM.sb
    · repeat (first|(refine qz ?_;clear HM;intro A1 W1 HM)|refine Y ?_)
      refine x_two 2 8 (by kernel_rfl) rfl rfl (l':=#[true,true,true,true,true,true,false,false,false,false]) (l'':=#[true,true,false,true,true,true,false,false,true,false]) (by kernel_rfl) (by kernel_rfl) (x_go ?_) (x_go ?_)
      · repeat (first|(refine qf ?_;go_at_call 29;refine (l2Messages_c h.flight hn.flight hn.flights HM).mono ?_;rintro e W1 ⟨A5,c5,rfl,HM1⟩;refine ⟨_,rfl,?_⟩;replace HM:=HM1;clear HM1)|refine Y ?_)
        refine x_two 6 8 (by kernel_rfl) rfl rfl (l':=#[true,true,true,true,true,true,true,false,false,false]) (l'':=#[true,true,true,true,true,true,false,false,true,false]) (by kernel_rfl) (by kernel_rfl) (x_go ?_) (x_go ?_)
        · repeat (first|(refine qa ?_;clear HM;intro A1 c1 W1 HM)|refine Y ?_)
          refine x_two 7 8 (by kernel_rfl) rfl rfl (l':=#[true,true,true,true,true,true,true,true,false,false]) (l'':=#[true,true,true,true,true,true,true,false,true,false]) (by kernel_rfl) (by kernel_rfl) (x_go ?_) (x_go ?_)
          · repeat refine Y ?_
            refine x_one 8 (by kernel_rfl) rfl (l':=#[true,true,true,true,true,true,true,true,true,false]) (by kernel_rfl) (x_go ?_)
            repeat (first|(refine qg ?_;clear HM;intro g W1 HM)|refine Y ?_)
            refine x_one 9 (by kernel_rfl) rfl (l':=#[true,true,true,true,true,true,true,true,true,true]) (by kernel_rfl) (x_go ?_)
            repeat (first|(refine qs ?_;clear HM;intro W1 HM)|refine Y ?_)
            refine x_done (by kernel_rfl) ?_
            exact n_mid (g,(A5,c5),(A1,c1)) U HM.sb
          · repeat (first|(refine qg ?_;clear HM;intro g W1 HM)|refine Y ?_)
            refine x_one 7 (by kernel_rfl) rfl (l':=#[true,true,true,true,true,true,true,true,true,false]) (by kernel_rfl) (x_go ?_)
            repeat refine Y ?_
            refine x_one 9 (by kernel_rfl) rfl (l':=#[true,true,true,true,true,true,true,true,true,true]) (by kernel_rfl) (x_go ?_)
            repeat (first|(refine qs ?_;clear HM;intro W1 HM)|refine Y ?_)
            refine x_done (by kernel_rfl) ?_
            exact n_mid (g,(A5,c5),(A1,c1)) U HM.sb
        · repeat (first|(refine qg ?_;clear HM;intro g W1 HM)|refine Y ?_)
          refine x_one 6 (by kernel_rfl) rfl (l':=#[true,true,true,true,true,true,true,false,true,false]) (by kernel_rfl) (x_go ?_)
          repeat (first|(refine qa ?_;clear HM;intro A1 c1 W1 HM)|refine Y ?_)
          refine x_one 7 (by kernel_rfl) rfl (l':=#[true,true,true,true,true,true,true,true,true,false]) (by kernel_rfl) (x_go ?_)
          repeat refine Y ?_
          refine x_one 9 (by kernel_rfl) rfl (l':=#[true,true,true,true,true,true,true,true,true,true]) (by kernel_rfl) (x_go ?_)
          repeat (first|(refine qs ?_;clear HM;intro W1 HM)|refine Y ?_)
          refine x_done (by kernel_rfl) ?_
          exact n_mid (g,(A5,c5),(A1,c1)) U HM.sb
      · repeat (first|(refine qg ?_;clear HM;intro g W1 HM)|refine Y ?_)
        refine x_one 2 (by kernel_rfl) rfl (l':=#[true,true,true,true,true,true,false,false,true,false]) (by kernel_rfl) (x_go ?_)
        repeat (first|(refine qf ?_;go_at_call 29;refine (l2Messages_c h.flight hn.flight hn.flights HM).mono ?_;rintro e W1 ⟨A5,c5,rfl,HM1⟩;refine ⟨_,rfl,?_⟩;replace HM:=HM1;clear HM1)|refine Y ?_)
        refine x_one 6 (by kernel_rfl) rfl (l':=#[true,true,true,true,true,true,true,false,true,false]) (by kernel_rfl) (x_go ?_)
        repeat (first|(refine qa ?_;clear HM;intro A1 c1 W1 HM)|refine Y ?_)
        refine x_one 7 (by kernel_rfl) rfl (l':=#[true,true,true,true,true,true,true,true,true,false]) (by kernel_rfl) (x_go ?_)
        repeat refine Y ?_
        refine x_one 9 (by kernel_rfl) rfl (l':=#[true,true,true,true,true,true,true,true,true,true]) (by kernel_rfl) (x_go ?_)
        repeat (first|(refine qs ?_;clear HM;intro W1 HM)|refine Y ?_)
        refine x_done (by kernel_rfl) ?_
        exact n_mid (g,(A5,c5),(A1,c1)) U HM.sb
    · repeat (first|(refine qg ?_;clear HM;intro g W1 HM)|refine Y ?_)
      refine x_two 2 3 (by kernel_rfl) rfl rfl (l':=#[true,true,true,false,true,true,false,false,true,false]) (l'':=#[true,true,false,true,true,true,false,false,true,false]) (by kernel_rfl) (by kernel_rfl) (x_go ?_) (x_go ?_)
      · repeat (first|(refine qf ?_;go_at_call 29;refine (l2Messages_c h.flight hn.flight hn.flights HM).mono ?_;rintro e W1 ⟨A5,c5,rfl,HM1⟩;refine ⟨_,rfl,?_⟩;replace HM:=HM1;clear HM1)|refine Y ?_)
        refine x_one 3 (by kernel_rfl) rfl (l':=#[true,true,true,true,true,true,false,false,true,false]) (by kernel_rfl) (x_go ?_)
        repeat (first|(refine qz ?_;clear HM;intro A1 W1 HM)|refine Y ?_)
        refine x_one 6 (by kernel_rfl) rfl (l':=#[true,true,true,true,true,true,true,false,true,false]) (by kernel_rfl) (x_go ?_)
        repeat (first|(refine qa ?_;clear HM;intro A1 c1 W1 HM)|refine Y ?_)
        refine x_one 7 (by kernel_rfl) rfl (l':=#[true,true,true,true,true,true,true,true,true,false]) (by kernel_rfl) (x_go ?_)
        repeat refine Y ?_
        refine x_one 9 (by kernel_rfl) rfl (l':=#[true,true,true,true,true,true,true,true,true,true]) (by kernel_rfl) (x_go ?_)
        repeat (first|(refine qs ?_;clear HM;intro W1 HM)|refine Y ?_)
        refine x_done (by kernel_rfl) ?_
        exact n_mid (g,(A5,c5),(A1,c1)) U HM.sb
      · repeat (first|(refine qz ?_;clear HM;intro A1 W1 HM)|refine Y ?_)
        refine x_one 2 (by kernel_rfl) rfl (l':=#[true,true,true,true,true,true,false,false,true,false]) (by kernel_rfl) (x_go ?_)
        repeat (first|(refine qf ?_;go_at_call 29;refine (l2Messages_c h.flight hn.flight hn.flights HM).mono ?_;rintro e W1 ⟨A5,c5,rfl,HM1⟩;refine ⟨_,rfl,?_⟩;replace HM:=HM1;clear HM1)|refine Y ?_)
        refine x_one 6 (by kernel_rfl) rfl (l':=#[true,true,true,true,true,true,true,false,true,false]) (by kernel_rfl) (x_go ?_)
        repeat (first|(refine qa ?_;clear HM;intro A1 c1 W1 HM)|refine Y ?_)
        refine x_one 7 (by kernel_rfl) rfl (l':=#[true,true,true,true,true,true,true,true,true,false]) (by kernel_rfl) (x_go ?_)
        repeat refine Y ?_
        refine x_one 9 (by kernel_rfl) rfl (l':=#[true,true,true,true,true,true,true,true,true,true]) (by kernel_rfl) (x_go ?_)
        repeat (first|(refine qs ?_;clear HM;intro W1 HM)|refine Y ?_)
        refine x_done (by kernel_rfl) ?_
        exact n_mid (g,(A5,c5),(A1,c1)) U HM.sb
  clear HM
  rintro ⟨g3,q1,q2⟩ W1 HM
  dsimp only at HM ⊢
  replace HM:=(HM.nil (tRec 91 40 9 3 66) 31).rod hr
  repeat refine Y ?_
  refine c_loop2 (σ:=Nat) (fun s A c=>[(1,.pointer (some ⟨ga,0,none⟩)),(2,.pointer (some ⟨g,0,none⟩)),(3,.pointer (some ⟨g3,0,none⟩)),(4,.int .i64 s)]) (fun s A c W1=>s ≤ x.recs.length ∧ ∃ ys,ys = x.recs.take s ∧ Mem w0 W1 (box g 78 [.slice none 0 0,.slice none 0 0,.slice none 0 0] :: box ga 78 [.slice i.b0.1 x.recs.length i.b0.2,.slice i.b1.1 x.flight.length i.b1.2,.slice i.b2.1 x.fixed.length i.b2.2] :: box g3 78 [.slice A ys.length c,.slice q1.1 x.flight.length q1.2,.slice q2.1 x.fixed.length q2.2] :: own (tMsg 91) 40 q1.1 q1.2 x.flight :: own tFix 134 q2.1 q2.2 x.fixed :: own (tRec 91 40 9 3 66) 31 A c ys :: ro (rRcw false) w0 i.b0.1 x.recs :: L)) (fun s=>x.recs.length - s) 0 none 0 U ⟨Nat.zero_le _,[],rfl,HM.sb⟩ ?_
  clear HM
  rintro k A c W1 ⟨hk,ys,hys,HM⟩
  have hyl : ys.length = k:=by rw [hys,List.length_take];omega
  by_cases hlt : k < x.recs.length
  · obtain ⟨cc,⟨j,rfl,hh⟩,HM⟩:=HM.roOpen (A:=i.b0.1) k hlt
    have hsm:=hn.recss _ (List.getElem_mem hlt)
    unfold encRcd at HM
    repeat (first|(refine gR ?_;refine d_start [9,11] [(0,0),(0,2),(0,4),(1,1),(1,3),(0,5),(1,6),(2,7),(2,8),(3,9),(0,10),(3,11)] HM (by kernel_rfl) (by kernel_rfl) qq (by kernel_rfl) rfl ?_;intro HQ HS W1 HM1;replace HM:=HM1;clear HM1)|refine Y ?_|(refine qs ?_;clear HM;intro W1 HM)|(refine qf ?_;go_at_call 24;refine (l2Copy_c _ _ hh.ro hsm HM).mono ?_;rintro e W1 ⟨j2,rfl,HM1⟩;refine ⟨_,rfl,?_⟩;replace HM:=HM1;clear HM1;simp only [partRcd,List.cons_append,List.nil_append] at HM;simp only [encRcd])|(refine qa ?_;clear HM;intro A1 c1 W1 HM)|(refine qg ?_;clear HM;intro g W1 HM))
    exact n_round2 (k + 1) A1 c1 U ⟨by omega,ys ++ [x.recs[k]],by rw [hys];exact List.take_append_getElem hlt,HM.sb⟩ (by omega)
  · have hkl : k = x.recs.length:=by omega
    have hye : ys = x.recs:=by rw [hys,hkl,List.take_length]
    subst hye
    repeat (first|refine Y ?_|(refine qs ?_;clear HM;intro W1 HM))
    refine ret_cell HM rfl rfl rfl ⟨⟨(A,c),q1,q2⟩,rfl,?_⟩
    have h1:=flt_of (HM.pk (A:=own (tMsg 91) 40 q1.1 q1.2 x.flight))
    simp only [wldP,List.cons_append,List.nil_append]
    exact h1.sb
end Go.Proofs.YtampmicahnnebaaGreat.Sp
