/- l6Impatient, l6Reached of the reference: the worlds drawn are ok. No condition. -/
import Derived.Test.YtampmicahnnebaaGreatRecClaim12
set_option linter.unusedVariables false
set_option linter.unusedSimpArgs false
namespace Go.Proofs.YtampmicahnnebaaGreat.Sp
open Go Go.RowKit
set_option maxRecDepth 10000
set_option maxHeartbeats 4000000
variable {w0 W : World} {L : List Asn} {A : Option Addr} {c : Nat} {bs : List Int}
theorem vr_heard30 {x : Rcd} (h : VR x) (hu : x.up = true) : VR { x with heard:=30 }:=vr_heard h (by omega) (by omega) (fun e=>by rw [hu] at e;cases e)
theorem impat_c {gr q : Nat} {R : List Asn} (x : Wld) (i : AtW) (hb : RoRow rByte w0 A bs) (hl : bs.length ≤ 2000) (hv : WP x) [hrd : RdAt L A bs.length c gr q R] (hq : q ≤ 900000) (HM : Mem w0 W (wldP x i ++ L)) : Calls Tryz.prog 89 #[.pointer (some ⟨gr,0,none⟩),.agg (encW x i).toArray] W fun e W'=>∃ y,(WP y ∧ y.recs.length = x.recs.length) ∧ e = .returned (.agg (encW y i).toArray) ∧ Mem w0 W' (wldP y i ++ (rdr A bs.length c (q + 1) gr :: R)):=by
  refine enter Tryz.func89 rfl Tryz.ntmps89 [(0,_),(1,.agg (encW x i).toArray)] rfl ⟨rfl,rfl,trivial⟩ ?_
  obtain ⟨rs,fl,fx⟩:=x
  unfold encW
  simp only [wldP,List.cons_append,List.nil_append] at HM
  have hn1:=hv.n1
  have hn5:=hv.n5
  dsimp only at *
  repeat (first|refine Y ?_|(refine qf ?_;go_at_call 20;refine (pick_c hb hl _ (by omega) HM).mono ?_;rintro e W1 ⟨v,hv0,rfl,HM1⟩;obtain ⟨p,rfl⟩ : ∃ p : Nat,v = p:=⟨v.toNat,by omega⟩;refine ⟨_,rfl,?_⟩;replace HM:=HM1;clear HM1)|(refine qg ?_;clear HM;intro g W1 HM))
  have hpl : p < rs.length:=by omega
  have e0:=rd_at (d:=(tRec 91 40 9 3 66)) hpl
  by_cases cu : (rd (tRec 91 40 9 3 66) rs (p : Int)).up = true
  rotate_left
  · simp only [Bool.not_eq_true] at cu
    repeat (first|refine Y ?_|(refine qs ?_;clear HM;intro W1 HM))
    exact ret_cell HM rfl rfl rfl ⟨⟨rs,fl,fx⟩,⟨hv,rfl⟩,rfl,by simp only [wldP,List.cons_append,List.nil_append];exact HM.sb⟩
  by_cases cl : (rd (tRec 91 40 9 3 66) rs (p : Int)).lead = true
  · repeat (first|refine Y ?_|(refine qs ?_;clear HM;intro W1 HM))
    exact ret_cell HM rfl rfl rfl ⟨⟨rs,fl,fx⟩,⟨hv,rfl⟩,rfl,by simp only [wldP,List.cons_append,List.nil_append];exact HM.sb⟩
  · simp only [Bool.not_eq_true] at cl
    repeat (first|refine Y ?_|(refine qs ?_;clear HM;intro W1 HM)|(refine gStore ?_;refine s_storeo HM rfl rfl rfl (by omega) (by omega) rfl ?_;clear HM;intro W1 HM;(try dsimp only at HM)))
    obtain ⟨hV,hnum,hof⟩:=hv.recs p hpl
    dsimp only at hV hnum hof
    rw [e0] at cu
    have hr:=wp_set (r:={ rs[p] with heard:=30 }) hv hpl (vr_heard30 hV cu) hnum hof
    simp only [Int.toNat_natCast,e0] at HM
    dsimp only at hr
    have hsl : rs.length = (rs.set p { rs[p] with heard:=30 }).length:=(List.length_set ..).symm
    generalize rs.set p { rs[p] with heard:=30 } = rs2 at *
    rw [hsl] at HM ⊢
    exact ret_cell HM rfl rfl rfl ⟨⟨rs2,fl,fx⟩,⟨hr,rfl⟩,rfl,by simp only [wldP,List.cons_append,List.nil_append];exact HM.sb⟩
theorem Mem.rdr_first {n q g : Nat} {R : List Asn} [h : RdAt L A n c g q R] (hm : Mem w0 W L) : Mem w0 W (rdr A n c q g :: R):=hm.perm h.out
theorem lit5 {p : Nat} (h : p < 5) : 1 ≤ rd tInt [3,3,5,1,2] (p : Int) ∧ rd tInt [3,3,5,1,2] (p : Int) ≤ 5:=by
  have : p = 0 ∨ p = 1 ∨ p = 2 ∨ p = 3 ∨ p = 4:=by omega
  rcases this with rfl|rfl|rfl|rfl|rfl <;> decide
theorem reach_c {gr q : Nat} (hb : RoRow rByte w0 A bs) (hl : bs.length ≤ 2000) (hq : q ≤ 800000) (HM : Mem w0 W (rdr A bs.length c (q) gr :: L)) : Calls Tryz.prog 52 #[.pointer (some ⟨gr,0,none⟩)] W fun e W'=>∃ y j,WP y ∧ e = .returned (.agg (encW y j).toArray) ∧ Mem w0 W' (wldP y j ++ (rdr A bs.length c (q + 2000) gr :: L)):=by
  refine enter Tryz.func52 rfl Tryz.ntmps52 [(0,_)] rfl ⟨rfl,trivial⟩ ?_
  repeat (first|(refine gL ?_;refine s_litk (D:=tInt) (fun n=>.int .i64 n) (fun _=>rfl) (fun _=>rfl) (fun _=>rfl) rfl [3,3,5,1,2] HM rfl rfl (by decide) (by decide) ?_;clear HM;intro g W1 HM)|refine Y ?_|(refine qs ?_;clear HM;intro W1 HM)|(refine qf ?_;first|(go_at_call 20;refine (pick_c hb hl _ (by omega) HM).mono ?_;rintro e W1 ⟨v,hv0,rfl,HM1⟩;obtain ⟨p,rfl⟩ : ∃ p : Nat,v = p:=⟨v.toNat,by omega⟩;refine ⟨_,rfl,?_⟩;replace HM:=HM1;clear HM1;have hp5 : p < 5:=(by omega);have hl5:=lit5 hp5;have hll : ([3,3,5,1,2] : List Int).length = 5:=rfl)|(go_at_call 85;refine (neww_c _ hl5.1 hl5.2 HM).mono ?_;rintro e W1 ⟨y,j,hv,rfl,HM1⟩;refine ⟨_,rfl,?_⟩;replace HM:=HM1;clear HM1;simp only [wldP,List.cons_append,List.nil_append] at HM;simp only [encW]))|(refine qg ?_;clear HM;intro g W1 HM))
  rename_i gz Wa gl Wb Wc Wd We
  repeat (first|refine Y ?_|(refine qf ?_;go_at_call 20;refine (pick_c hb hl _ (by omega) HM).mono ?_;rintro e W1 ⟨v,hv0,rfl,HM1⟩;obtain ⟨p,rfl⟩ : ∃ p : Nat,v = p:=⟨v.toNat,by omega⟩;refine ⟨_,rfl,?_⟩;replace HM:=HM1;clear HM1))
  refine c_loop (σ:=Nat × Wld × AtW) (fun s=>[(0,.pointer (some ⟨gr,0,none⟩)),(2,.pointer (some ⟨gz,0,none⟩)),(3,.pointer (some ⟨g,0,none⟩)),(4,.int .i64 s.1)]) (fun s W1=>s.1 ≤ 5 ∧ WP s.2.1 ∧ Mem w0 W1 (box gz 78 [.slice none 0 0,.slice none 0 0,.slice none 0 0] :: box g 78 [.slice s.2.2.b0.1 s.2.1.recs.length s.2.2.b0.2,.slice s.2.2.b1.1 s.2.1.flight.length s.2.2.b1.2,.slice s.2.2.b2.1 s.2.1.fixed.length s.2.2.b2.2] :: own (tRec 91 40 9 3 66) 31 s.2.2.b0.1 s.2.2.b0.2 s.2.1.recs :: flt 91 40 s.2.2.b1.1 s.2.2.b1.2 s.2.1.flight :: own tFix 134 s.2.2.b2.1 s.2.2.b2.2 s.2.1.fixed :: rdr A bs.length c (q + 2 + (5 - s.1) * 80) gr :: L)) (fun s=>s.1) (p,y,j) U ⟨by dsimp only;omega,hv,(HM.rdr_to (g:=gr) (q':=q + 2 + (5 - p) * 80) (by omega)).sb⟩ ?_
  clear HM hv hv0 hl5 hll hp5
  clear p y j
  rintro ⟨m,y,j⟩ W1 ⟨hm,hv,HM⟩
  dsimp only at hm hv HM ⊢
  by_cases h0 : 0 < m
  rotate_left
  · repeat (first|refine Y ?_|(refine qs ?_;clear HM;intro W1 HM)|(refine qf ?_;go_at_call 90;refine (copy_c y j (ro_w3 y j HM) hv.small (Mem.start _)).mono ?_;rintro e W1 ⟨jc,rfl,HM1⟩;refine ⟨_,rfl,?_⟩;replace HM:=HM.join HM1;clear HM1;simp only [wldP,List.cons_append,List.nil_append] at HM;simp only [encW]))
    exact ret_cell HM rfl rfl rfl ⟨y,jc,hv,rfl,by simp only [wldP,List.cons_append,List.nil_append];exact (HM.rdr_to (g:=gr) (q':=q + 2000) (by omega)).sb⟩
  have hm1 : (m : Int) - 1 = ((m - 1 : Nat) : Int):=by omega
  repeat (first|refine Y ?_|(refine qf ?_;go_at_call 20;refine (pick_c hb hl _ (by omega) HM).mono ?_;rintro e W1 ⟨v,hv0,rfl,HM1⟩;obtain ⟨p,rfl⟩ : ∃ p : Nat,v = p:=⟨v.toNat,by omega⟩;refine ⟨_,rfl,?_⟩;replace HM:=HM1;clear HM1))
  refine c_loop (σ:=Nat × Wld × AtW) (fun s=>[(0,.pointer (some ⟨gr,0,none⟩)),(2,.pointer (some ⟨gz,0,none⟩)),(3,.pointer (some ⟨g,0,none⟩)),(4,.int .i64 m),(5,.int .i64 s.1)]) (fun s W1=>s.1 ≤ 11 ∧ WP s.2.1 ∧ Mem w0 W1 (box gz 78 [.slice none 0 0,.slice none 0 0,.slice none 0 0] :: box g 78 [.slice s.2.2.b0.1 s.2.1.recs.length s.2.2.b0.2,.slice s.2.2.b1.1 s.2.1.flight.length s.2.2.b1.2,.slice s.2.2.b2.1 s.2.1.fixed.length s.2.2.b2.2] :: own (tRec 91 40 9 3 66) 31 s.2.2.b0.1 s.2.2.b0.2 s.2.1.recs :: flt 91 40 s.2.2.b1.1 s.2.2.b1.2 s.2.1.flight :: own tFix 134 s.2.2.b2.1 s.2.2.b2.2 s.2.1.fixed :: rdr A bs.length c (q + 3 + (5 - m) * 80 + (11 - s.1) * 6) gr :: L)) (fun s=>s.1) (p,y,j) U ⟨by dsimp only;omega,hv,(HM.rdr_to (g:=gr) (q':=q + 3 + (5 - m) * 80 + (11 - p) * 6) (by omega)).sb⟩ ?_
  clear HM hv hv0
  clear p y j
  rintro ⟨k,u,ju⟩ W1 ⟨hk,hv,HM⟩
  dsimp only at hk hv HM ⊢
  by_cases hk0 : 0 < k
  · have hk1 : (k : Int) - 1 = ((k - 1 : Nat) : Int):=by omega
    repeat (first|(refine gR ?_;have HM2:=HM.rdr_first (g:=gr);clear HM;have HM:=HM2;clear HM2;(refine gR ?_;refine d_startd [6,7] [(0,1),(0,2),(1,0),(1,3),(0,4),(2,5),(3,6),(3,7)] HM (by kernel_rfl) (by kernel_rfl) qq (by kernel_rfl) rfl ?_;intro HQ HS W1 HM1;replace HM:=HM1;clear HM1))|refine Y ?_|(refine qs ?_;clear HM;intro W1 HM)|(refine qf ?_;first|(go_at_call 87;refine (event_c hb hl _ (by omega) HM).mono ?_;rintro e W1 ⟨kd,a,t,ht,rfl,HM1⟩;refine ⟨_,rfl,?_⟩;replace HM:=HM1;clear HM1)|(go_at_call 86;refine (do_c u ju kd a t hv (by omega) (pk_wld u ju HM)).mono ?_;rintro e W1 ⟨y2,j2,hy,rfl,HM1⟩;refine ⟨_,rfl,?_⟩;replace HM:=HM1;clear HM1;simp only [wldP,List.cons_append,List.nil_append] at HM;simp only [encW])))
    exact n_round (k - 1,y2,j2) (by dsimp only;rw [← hk1];exact U) ⟨by dsimp only;omega,hy.1,(HM.rdr_to (g:=gr) (q':=q + 3 + (5 - m) * 80 + (11 - (k - 1)) * 6) (by omega)).sb⟩ (by dsimp only;omega)
  repeat (first|refine Y ?_|(refine qf ?_;go_at_call 20;refine (pick_c hb hl _ (by omega) HM).mono ?_;rintro e W1 ⟨v,hv0,rfl,HM1⟩;obtain ⟨p,rfl⟩ : ∃ p : Nat,v = p:=⟨v.toNat,by omega⟩;refine ⟨_,rfl,?_⟩;replace HM:=HM1;clear HM1))
  have hp4 : p < 4:=by omega
  by_cases p0 : p = 0
  · subst p0
    repeat (first|(refine gR ?_;have HM2:=HM.rdr_first (g:=gr);clear HM;have HM:=HM2;clear HM2;(refine gR ?_;refine d_startd [3,4] [(0,1),(1,0),(2,2),(3,3),(3,4)] HM (by kernel_rfl) (by kernel_rfl) qq (by kernel_rfl) rfl ?_;intro HQ HS W1 HM1;replace HM:=HM1;clear HM1))|refine Y ?_|(refine qs ?_;clear HM;intro W1 HM)|(refine qf ?_;first|(go_at_call 20;refine (pick_c hb hl _ (by omega) HM).mono ?_;rintro e W1 ⟨v,hv0,rfl,HM1⟩;obtain ⟨p,rfl⟩ : ∃ p : Nat,v = p:=⟨v.toNat,by omega⟩;refine ⟨_,rfl,?_⟩;replace HM:=HM1;clear HM1)|(go_at_call 88;refine (calm_c u ju _ hv (pk_wld u ju HM)).mono ?_;rintro e W1 ⟨y2,j2,hy,rfl,HM1⟩;refine ⟨_,rfl,?_⟩;replace HM:=HM1;clear HM1;simp only [wldP,List.cons_append,List.nil_append] at HM;simp only [encW])))
    exact n_round (m - 1,y2,j2) (by dsimp only;rw [← hm1];exact U) ⟨by dsimp only;omega,hy,(HM.rdr_to (g:=gr) (q':=q + 2 + (5 - (m - 1)) * 80) (by omega)).sb⟩ (by dsimp only;omega)
  by_cases p3 : p = 3
  · subst p3
    repeat refine Y ?_
    exact n_round (m - 1,u,ju) (by dsimp only;rw [← hm1];exact U) ⟨by dsimp only;omega,hv,(HM.rdr_to (g:=gr) (q':=q + 2 + (5 - (m - 1)) * 80) (by omega)).sb⟩ (by dsimp only;omega)
  by_cases p1 : p = 1
  · subst p1
    repeat (first|(refine gR ?_;have HM2:=HM.rdr_first (g:=gr);clear HM;have HM:=HM2;clear HM2;(refine gR ?_;refine d_startd [3,4] [(0,1),(1,0),(2,2),(3,3),(3,4)] HM (by kernel_rfl) (by kernel_rfl) qq (by kernel_rfl) rfl ?_;intro HQ HS W1 HM1;replace HM:=HM1;clear HM1))|refine Y ?_|(refine qs ?_;clear HM;intro W1 HM)|(refine qf ?_;first|(go_at_call 20;refine (pick_c hb hl _ (by omega) HM).mono ?_;rintro e W1 ⟨v,hv0,rfl,HM1⟩;obtain ⟨p,rfl⟩ : ∃ p : Nat,v = p:=⟨v.toNat,by omega⟩;refine ⟨_,rfl,?_⟩;replace HM:=HM1;clear HM1)|(go_at_call 89;refine (impat_c u ju hb hl hv (by omega) (pk_wld u ju HM)).mono ?_;rintro e W1 ⟨y3,hy3,rfl,HM1⟩;refine ⟨_,rfl,?_⟩;replace HM:=HM1;clear HM1;simp only [wldP,List.cons_append,List.nil_append] at HM;simp only [encW])|(go_at_call 88;refine (calm_c y3 ju _ hy3.1 (pk_wld y3 ju HM)).mono ?_;rintro e W1 ⟨y2,j2,hy,rfl,HM1⟩;refine ⟨_,rfl,?_⟩;replace HM:=HM1;clear HM1;simp only [wldP,List.cons_append,List.nil_append] at HM;simp only [encW])))
    exact n_round (m - 1,y2,j2) (by dsimp only;rw [← hm1];exact U) ⟨by dsimp only;omega,hy,(HM.rdr_to (g:=gr) (q':=q + 2 + (5 - (m - 1)) * 80) (by omega)).sb⟩ (by dsimp only;omega)
  obtain rfl : p = 2:=by omega
  repeat (first|(refine gR ?_;have HM2:=HM.rdr_first (g:=gr);clear HM;have HM:=HM2;clear HM2;(refine gR ?_;refine d_startd [3,4] [(0,1),(1,0),(2,2),(3,3),(3,4)] HM (by kernel_rfl) (by kernel_rfl) qq (by kernel_rfl) rfl ?_;intro HQ HS W1 HM1;replace HM:=HM1;clear HM1))|refine Y ?_|(refine qs ?_;clear HM;intro W1 HM)|(refine qf ?_;first|(go_at_call 20;refine (pick_c hb hl _ (by omega) HM).mono ?_;rintro e W1 ⟨v,hv0,rfl,HM1⟩;obtain ⟨p,rfl⟩ : ∃ p : Nat,v = p:=⟨v.toNat,by omega⟩;refine ⟨_,rfl,?_⟩;replace HM:=HM1;clear HM1)|(go_at_call 89;refine (impat_c u ju hb hl hv (by omega) (pk_wld u ju HM)).mono ?_;rintro e W1 ⟨y3,hy3,rfl,HM1⟩;refine ⟨_,rfl,?_⟩;replace HM:=HM1;clear HM1;simp only [wldP,List.cons_append,List.nil_append] at HM;simp only [encW])|(go_at_call 88;refine (calm_c y3 ju _ hy3.1 (pk_wld y3 ju HM)).mono ?_;rintro e W1 ⟨y2,j2,hy,rfl,HM1⟩;refine ⟨_,rfl,?_⟩;replace HM:=HM1;clear HM1;simp only [wldP,List.cons_append,List.nil_append] at HM;simp only [encW])))
  exact n_round (m - 1,y2,j2) (by dsimp only;rw [← hm1];exact U) ⟨by dsimp only;omega,hy,(HM.rdr_to (g:=gr) (q':=q + 2 + (5 - (m - 1)) * 80) (by omega)).sb⟩ (by dsimp only;omega)
end Go.Proofs.YtampmicahnnebaaGreat.Sp
namespace Go.Proofs.YtampmicahnnebaaGreat.Sp
open Go Go.RowKit
set_option maxRecDepth 10000
set_option maxHeartbeats 4000000
variable {w0 W : World} {L : List Asn} {A : Option Addr} {c : Nat} {bs : List Int}
theorem draw_c {gr q : Nat} {R : List Asn} (hb : RoRow rByte w0 A bs) (hl : bs.length ≤ 2000) [hrd : RdAt L A bs.length c gr q R] (hq : q ≤ 800000) (HM : Mem w0 W L) : Calls Tryz.prog 62 #[.pointer (some ⟨gr,0,none⟩)] W fun e W'=>∃ y j,VR y ∧ e = .returned (.agg (encRcd y j).toArray) ∧ Mem w0 W' (partRcd 91 40 9 3 66 y j ++ (rdr A bs.length c (q + 2001) gr :: R)):=by
  refine enter Tryz.func62 rfl Tryz.ntmps62 [(0,_)] rfl ⟨rfl,trivial⟩ ?_
  replace HM:=HM.rdr_first (g:=gr)
  repeat (first|refine Y ?_|(refine qs ?_;clear HM;intro W1 HM)|(refine qf ?_;go_at_call 52;refine (reach_c hb hl hq (by exact HM.rdr_first (g:=gr))).mono ?_;rintro e W1 ⟨y,j,hv,rfl,HM1⟩;refine ⟨_,rfl,?_⟩;replace HM:=HM1;clear HM1;simp only [wldP,List.cons_append,List.nil_append] at HM;simp only [encW])|(refine qg ?_;clear HM;intro g W1 HM))
  have hn1:=hv.n1
  have hn5:=hv.n5
  repeat (first|(refine gR ?_;have HM2:=HM.rdr_first (g:=gr);clear HM;have HM:=HM2;clear HM2;(refine gR ?_;refine d_startd [8,9] [(0,0),(0,2),(0,3),(1,1),(1,4),(0,5),(2,6),(0,7),(3,8),(3,9)] HM (by kernel_rfl) (by kernel_rfl) qq (by kernel_rfl) rfl ?_;intro HQ HS W1 HM1;replace HM:=HM1;clear HM1))|(refine gL ?_;have hpl : p < y.recs.length:=(by omega);have HMa:=HM.pk (A:=own (tRec 91 40 9 3 66) 31 j.b0.1 j.b0.2 y.recs);obtain ⟨jr,HM2⟩:=opn_rec HMa p hpl;clear HMa HM;have HM:=HM2;clear HM2;simp only [encRcd,partRcd,List.cons_append,List.nil_append] at HM;refine s_gv HM rfl ?_;refine gv (p_loadsh rfl rfl rfl) ?_)|refine Y ?_|(refine qs ?_;clear HM;intro W1 HM)|(refine qf ?_;go_at_call 20;refine (pick_c hb hl _ (by omega) HM).mono ?_;rintro e W1 ⟨v,hv0,rfl,HM1⟩;obtain ⟨p,rfl⟩ : ∃ p : Nat,v = p:=⟨v.toNat,by omega⟩;refine ⟨_,rfl,?_⟩;replace HM:=HM1;clear HM1))
  have hpl : p < y.recs.length:=by omega
  exact ret_cell HM rfl rfl rfl ⟨y.recs[p],jr,(hv.recs p hpl).1,rfl,by simp only [partRcd,List.cons_append,List.nil_append];exact (HM.rdr_to (g:=gr) (q':=q + 2001) (by omega)).sb⟩
end Go.Proofs.YtampmicahnnebaaGreat.Sp
namespace Go.Proofs.YtampmicahnnebaaGreat.Sp
open Go Go.RowKit
set_option maxRecDepth 10000
set_option maxHeartbeats 4000000
variable {w0 W : World} {L R : List Asn} {A : Option Addr} {c : Nat} {bs : List Int}
theorem slots_c {gr q : Nat} (most : Int) (hb : RoRow rByte w0 A bs) (hl : bs.length ≤ 2000) (hm0 : 0 ≤ most) (hm1 : most ≤ 2000000) [hrd : RdAt L A bs.length c gr q R] (hq : q ≤ 850000) (HM : Mem w0 W L) : Calls Tryz.prog 91 #[.pointer (some ⟨gr,0,none⟩),.int .i64 most] W fun e W'=>∃ (out : List Slot) (A' : Option Addr) (c' : Nat),(out.length ≤ 5 ∧ ∀ s ∈ out,0 ≤ s.ballot ∧ s.ballot ≤ most ∧ s.text.size ≤ 20) ∧ e = .returned (.slice A' out.length c') ∧ Mem w0 W' (own tSlot 91 A' c' out :: rdr A bs.length c (q + 20) gr :: R):=by
  refine enter Tryz.func91 rfl Tryz.ntmps91 [(0,_),(1,_)] rfl ⟨rfl,rfl,trivial⟩ ?_
  replace HM:=HM.rdr_first (g:=gr)
  repeat (first|refine Y ?_|(refine qf ?_;go_at_call 20;refine (pick_c hb hl _ (by omega) HM).mono ?_;rintro e W1 ⟨v,hv0,rfl,HM1⟩;obtain ⟨p,rfl⟩ : ∃ p : Nat,v = p:=⟨v.toNat,by omega⟩;refine ⟨_,rfl,?_⟩;replace HM:=HM1;clear HM1)|(refine qz ?_;clear HM;intro A1 W1 HM))
  have hp : p < 6:=by omega
  refine c_loop2 (σ:=Nat × List Slot) (fun s A c=>[(0,.pointer (some ⟨gr,0,none⟩)),(1,.int .i64 most),(5,.slice A s.2.length c),(6,.int .i64 s.1)]) (fun s A' c' W1=>s.1 ≤ 5 ∧ (s.2.length + s.1 ≤ 5 ∧ ∀ y ∈ s.2,0 ≤ y.ballot ∧ y.ballot ≤ most ∧ y.text.size ≤ 20) ∧ Mem w0 W1 (own tSlot 91 A' c' s.2 :: rdr A bs.length c (q + 1 + (5 - s.1) * 3) gr :: R)) (fun s=>s.1) (p,[]) A1 0 U ⟨by dsimp only;omega,⟨by simp;omega,by simp⟩,(HM.rdr_to (g:=gr) (q':=q + 1 + (5 - p) * 3) (by omega)).sb⟩ ?_
  clear HM hv0 hp
  clear p
  rintro ⟨m,out⟩ A2 c2 W1 ⟨hm,⟨hol,hout⟩,HM⟩
  dsimp only at hm hol hout HM ⊢
  by_cases h0 : 0 < m
  rotate_left
  · repeat refine Y ?_
    exact ret_tmp rfl rfl ⟨out,A2,c2,⟨by omega,hout⟩,rfl,(HM.rdr_to (g:=gr) (q':=q + 20) (by omega)).sb⟩
  have hm1' : (m : Int) - 1 = ((m - 1 : Nat) : Int):=by omega
  have hz : (⟨#[]⟩ : ByteArray).size ≤ 20:=by decide
  have key : ∀ s : Slot,(0 ≤ s.ballot ∧ s.ballot ≤ most ∧ s.text.size ≤ 20) → ((out ++ [s]).length + (m - 1) ≤ 5 ∧ ∀ s' ∈ out ++ [s],0 ≤ s'.ballot ∧ s'.ballot ≤ most ∧ s'.text.size ≤ 20):=fun s hs=>⟨by simp;omega,fun s' h=>by
    rcases List.mem_append.1 h with h|h
    · exact hout s' h
    · rw [List.mem_singleton] at h;rw [h];exact hs⟩
  repeat (first|refine Y ?_|(refine qs ?_;clear HM;intro W1 HM)|(refine qf ?_;first|(go_at_call 20;refine (pick_c hb hl _ (by omega) HM).mono ?_;rintro e W1 ⟨v,hv0,rfl,HM1⟩;refine ⟨_,rfl,?_⟩;replace HM:=HM1;clear HM1)|(go_at_call 58;refine (text_c hb hl (by omega) HM).mono ?_;rintro e W1 ⟨t,ht,rfl,HM1⟩;refine ⟨_,rfl,?_⟩;replace HM:=HM1;clear HM1))|(refine qg ?_;clear HM;intro g W1 HM))
  have hv1 : v ≤ most:=by omega
  by_cases c1 : v = 0
  · repeat (first|refine Y ?_|(refine qs ?_;clear HM;intro W1 HM)|(refine qa ?_;clear HM;intro A1 c1 W1 HM)|(refine qg ?_;clear HM;intro g W1 HM))
    exact n_round2 (m - 1,out ++ [⟨v,⟨#[]⟩⟩]) A1 c1 (by dsimp only;rw [← hm1'];exact U) ⟨by dsimp only;omega,key _ ⟨hv0.1,hv1,hz⟩,(HM.rdr_to (g:=gr) (q':=q + 1 + (5 - (m - 1)) * 3) (by omega)).sb⟩ (by dsimp only;omega)
  repeat (first|refine Y ?_|(refine qf ?_;go_at_call 20;refine (pick_c hb hl _ (by omega) HM).mono ?_;rintro e W1 ⟨v2,hv2,rfl,HM1⟩;refine ⟨_,rfl,?_⟩;replace HM:=HM1;clear HM1))
  by_cases d1 : v2 = 0
  · repeat (first|refine Y ?_|(refine qs ?_;clear HM;intro W1 HM)|(refine qa ?_;clear HM;intro A1 c1 W1 HM)|(refine qg ?_;clear HM;intro g W1 HM))
    exact n_round2 (m - 1,out ++ [⟨v,⟨#[]⟩⟩]) A1 c1 (by dsimp only;rw [← hm1'];exact U) ⟨by dsimp only;omega,key _ ⟨hv0.1,hv1,hz⟩,(HM.rdr_to (g:=gr) (q':=q + 1 + (5 - (m - 1)) * 3) (by omega)).sb⟩ (by dsimp only;omega)
  · repeat (first|refine Y ?_|(refine qa ?_;clear HM;intro A1 c1 W1 HM)|(refine qg ?_;clear HM;intro g W1 HM))
    exact n_round2 (m - 1,out ++ [⟨v,t⟩]) A1 c1 (by dsimp only;rw [← hm1'];exact U) ⟨by dsimp only;omega,key _ ⟨hv0.1,hv1,ht⟩,(HM.rdr_to (g:=gr) (q':=q + 1 + (5 - (m - 1)) * 3) (by omega)).sb⟩ (by dsimp only;omega)
theorem many_c (s : ByteArray) (n : Int) (h0 : 0 ≤ n) (h1 : n ≤ 1000) (hs : s.size ≤ 1000) (HM : Mem w0 W L) : Calls Tryz.prog 59 #[.string s,.int .i64 n] W fun e W'=>∃ t : ByteArray,t.size ≤ 1000000 ∧ e = .returned (.string t) ∧ Mem w0 W' L:=by
  refine enter Tryz.func59 rfl Tryz.ntmps59 [(0,_),(1,_)] rfl ⟨rfl,rfl,trivial⟩ ?_
  obtain ⟨n,rfl⟩ : ∃ k : Nat,n = k:=⟨n.toNat,by omega⟩
  have hz0 : (⟨#[]⟩ : ByteArray).size = 0:=rfl
  repeat refine Y ?_
  refine c_loop (σ:=Nat × ByteArray × ByteArray) (fun z=>[(0,.string z.2.1),(1,.int .i64 z.1),(5,.string z.2.2)]) (fun z W1=>z.2.2.size + z.2.1.size * z.1 ≤ 1000000 ∧ (z.2.1.size ≤ 2000000 ∧ z.2.2.size ≤ 1000000 ∧ z.1 ≤ 1000) ∧ Mem w0 W1 L) (fun z=>z.1) (n,s,⟨#[]⟩) U ⟨by
    have : s.size * n ≤ 1000 * 1000:=Nat.mul_le_mul hs (by omega)
    dsimp only;rw [hz0];omega,⟨by dsimp only;omega,by dsimp only;rw [hz0];omega,by dsimp only;omega⟩,HM⟩ ?_
  clear HM
  rintro ⟨m,z,o⟩ W1 ⟨ht,⟨hz,ho,hm1⟩,HM⟩
  dsimp only at ht hz ho hm1 HM ⊢
  by_cases hm : 0 < m
  rotate_left
  · repeat refine Y ?_
    exact ret_tmp rfl rfl ⟨o,ho,rfl,HM⟩
  have hzm : z.size ≤ 1000000:=by
    have : z.size * 1 ≤ z.size * m:=Nat.mul_le_mul (Nat.le_refl _) hm
    omega
  have hd : (m : Int).tdiv 2 = ((m / 2 : Nat) : Int):=by rw [Int.tdiv_eq_ediv_of_nonneg (by omega)];omega
  have hr : (m : Int).tmod 2 = ((m % 2 : Nat) : Int):=by rw [Int.tmod_eq_emod_of_nonneg (by omega)];omega
  have hmod : m = 2 * (m / 2) + m % 2:=by omega
  have h2 : (z ++ z).size * (m / 2) = z.size * (2 * (m / 2)):=by rw [ByteArray.size_append,← Nat.two_mul,Nat.mul_comm 2 z.size,Nat.mul_assoc]
  by_cases hc : m % 2 = 1
  · have hsum : z.size * m = z.size * (2 * (m / 2)) + z.size:=by
      have e : m = 2 * (m / 2) + 1:=by omega
      rw [show z.size * m = z.size * (2 * (m / 2) + 1) by rw [← e],Nat.mul_add,Nat.mul_one]
    have hos : o.size + z.size ≤ 1000000:=by omega
    repeat (first|(refine gGP ?_;refine gGB ?_;first|refine gp (p_rem rfl rfl (by decide) hr) ?_|(refine gp (p_quo (r:=((m / 2 : Nat) : Int)) rfl rfl (by decide) (by rw [hd];exact wr (by omega) (by omega))) ?_))|refine Y ?_)
    exact n_round (m / 2,z ++ z,o ++ z) U ⟨by dsimp only;rw [h2,ByteArray.size_append];omega,⟨by dsimp only;rw [ByteArray.size_append];omega,by dsimp only;rw [ByteArray.size_append];omega,by dsimp only;omega⟩,HM⟩ (by dsimp only;omega)
  · have hsum : z.size * m = z.size * (2 * (m / 2)):=by
      have e : m = 2 * (m / 2):=by omega
      rw [← e]
    repeat (first|(refine gGP ?_;refine gGB ?_;first|refine gp (p_rem rfl rfl (by decide) hr) ?_|(refine gp (p_quo (r:=((m / 2 : Nat) : Int)) rfl rfl (by decide) (by rw [hd];exact wr (by omega) (by omega))) ?_))|refine Y ?_)
    exact n_round (m / 2,z ++ z,o) U ⟨by dsimp only;rw [h2];omega,⟨by dsimp only;rw [ByteArray.size_append];omega,ho,by dsimp only;omega⟩,HM⟩ (by dsimp only;omega)
end Go.Proofs.YtampmicahnnebaaGreat.Sp
namespace Go.Proofs.YtampmicahnnebaaGreat.Sp
open Go Go.RowKit
set_option maxRecDepth 10000
set_option maxHeartbeats 4000000
variable {w0 W : World} {L R : List Asn} {A : Option Addr} {c : Nat} {bs : List Int}
theorem rd_bd {ms : List Int} {lo hi : Int} (h : ∀ m ∈ ms,lo ≤ m ∧ m ≤ hi) (h0 : lo ≤ 0 ∧ 0 ≤ hi) (i : Int) : lo ≤ rd tInt ms i ∧ rd tInt ms i ≤ hi:=by
  unfold rd
  rw [List.getD_eq_getElem?_getD]
  by_cases hi : i.toNat < ms.length
  · rw [List.getElem?_eq_getElem hi];exact h _ (List.getElem_mem hi)
  · rw [List.getElem?_eq_none (by omega)];exact h0
theorem spoil_c {gr q cB e : Nat} {B : Option Addr} {ss : List Slot} (p k : Int) (hp : -10 ≤ p ∧ p ≤ 2000000) (hb : RoRow rByte w0 A bs) (hl : bs.length ≤ 2000) (hn : ss.length ≤ 60) [hO : OwnAt L B cB Slot tSlot e ss] [hrd : RdAt L A bs.length c gr q R] (hq : q ≤ 850000) (HM : Mem w0 W L) : Calls Tryz.prog 97 #[.pointer (some ⟨gr,0,none⟩),.agg #[.int .i64 p,.int .i64 k,.slice B ss.length cB]] W fun e W'=>∃ (p' k' : Int) (ss' : List Slot) (A' : Option Addr) (c' : Nat),((-10 ≤ p' ∧ p' ≤ 2000001) ∧ ss'.length ≤ 62 ∧ (-10 ≤ k ∧ k ≤ 1000 → -10 ≤ k' ∧ k' ≤ 1000)) ∧ e = .returned (.agg #[.int .i64 p',.int .i64 k',.slice A' ss'.length c']) ∧ Mem w0 W' (own tSlot 91 A' c' ss' :: rdr A bs.length c (q + 10) gr :: R):=by
  refine enter Tryz.func97 rfl Tryz.ntmps97 [(0,_),(1,.agg #[.int .i64 p,.int .i64 k,.slice B ss.length cB])] rfl ⟨rfl,rfl,trivial⟩ ?_
  repeat (first|refine Y ?_|(refine qs ?_;clear HM;intro W1 HM)|(refine qf ?_;first|(go_at_call 25;obtain ⟨F1,hF1⟩:=HM.own (A:=B);refine (l1Disk_c p k (ro_slots hF1) (by omega) (Mem.start _)).mono ?_;clear hF1;rintro e2 W1 ⟨A5,c5,rfl,HM1⟩;refine ⟨_,rfl,?_⟩;replace HM:=HM.join HM1;clear HM1;simp only [List.cons_append,List.nil_append] at HM)|(go_at_call 20;refine (pick_c hb hl _ (by omega) HM).mono ?_;rintro e W1 ⟨v,hp0,rfl,HM1⟩;obtain ⟨p0,rfl⟩ : ∃ k : Nat,v = k:=⟨v.toNat,(by omega)⟩;have hp0b : p0 < 6:=(by omega);refine ⟨_,rfl,?_⟩;replace HM:=HM1;clear HM1))|(refine qg ?_;clear HM;intro g W1 HM))
  by_cases p00 : p0 = 0
  · subst p00
    repeat (first|(refine gL ?_;refine s_litk (D:=tInt) (fun n=>.int .i64 n) (fun _=>rfl) (fun _=>rfl) (fun _=>rfl) rfl [-1,0,1000000,1000001] HM rfl rfl (by simp) (by simp) ?_;clear HM;intro g W1 HM)|refine Y ?_|(refine qs ?_;clear HM;intro W1 HM)|(refine qf ?_;go_at_call 20;refine (pick_c hb hl _ (by omega) HM).mono ?_;rintro e W1 ⟨v,hp1,rfl,HM1⟩;obtain ⟨p1,rfl⟩ : ∃ k : Nat,v = k:=⟨v.toNat,(by omega)⟩;have hp1b : p1 < 4:=(by omega);refine ⟨_,rfl,?_⟩;replace HM:=HM1;clear HM1))
    have hr:=rd_bd (ms:=[-1,0,1000000,1000001]) (lo:=-10) (hi:=2000000) (by simp) (by omega) (p1 : Int)
    exact ret_cell HM rfl rfl rfl ⟨rd tInt [-1,0,1000000,1000001] (p1 : Int),k,ss,A5,c5,⟨by omega,by first|omega|(simp only [List.length_append,List.length_cons,List.length_nil];omega),by intro hk;first|exact hk|omega⟩,rfl,(HM.rdr_to (g:=gr) (q':=q + 10) (by omega)).sb⟩
  by_cases p01 : p0 = 1
  · subst p01
    have hr2:=rd_bd (ms:=[-1,(ss.length : Int),(ss.length : Int) + 1]) (lo:=-10) (hi:=1000) (by intro m hm;simp only [List.mem_cons,List.not_mem_nil,or_false] at hm;omega) (by omega)
    replace HM:=HM.rdr_first (g:=gr)
    repeat refine Y ?_
    refine gR ?_
    refine x_start (ds:=[13]) HM (fun w hw=>hw.drop) (by kernel_rfl) (by kernel_rfl) qq ?_
    intro HQ HS W1 HM1;replace HM:=HM1;clear HM1
    refine x_pv HQ HS 0 rfl (by kernel_rfl) (by kernel_rfl) (l':=#[true,false,false,false,false,false,false,false,false,false,false,false,false,false]) (by kernel_rfl) rfl ?_
    refine Y ?_
    refine x_pv HQ HS 3 rfl (by kernel_rfl) (by kernel_rfl) (l':=#[true,false,false,true,false,false,false,false,false,false,false,false,false,false]) (by kernel_rfl) rfl ?_
    refine Y ?_
    refine x_pv HQ HS 8 rfl (by kernel_rfl) (by kernel_rfl) (l':=#[true,false,false,true,false,false,false,false,true,false,false,false,false,false]) (by kernel_rfl) rfl ?_
    refine Y ?_
    refine x_ld HQ HS 1 rfl (by kernel_rfl) (by kernel_rfl) (by kernel_rfl) (by kernel_rfl) (l':=#[true,true,false,true,false,false,false,false,true,false,false,false,false,false]) (by kernel_rfl) rfl ?_
    refine Y ?_
    refine x_pv HQ HS 2 rfl (by kernel_rfl) (by kernel_rfl) (l':=#[true,true,true,true,false,false,false,false,true,false,false,false,false,false]) (by kernel_rfl) rfl ?_
    refine Y ?_
    refine x_ld HQ HS 4 rfl (by kernel_rfl) (by kernel_rfl) (by kernel_rfl) (by kernel_rfl) (l':=#[true,true,true,true,true,false,false,false,true,false,false,false,false,false]) (by kernel_rfl) rfl ?_
    refine Y ?_
    refine x_pv HQ HS 5 rfl (by kernel_rfl) (by kernel_rfl) (l':=#[true,true,true,true,true,true,false,false,true,false,false,false,false,false]) (by kernel_rfl) rfl ?_
    refine Y ?_
    refine x_pv HQ HS 6 rfl (by kernel_rfl) (by kernel_rfl) (l':=#[true,true,true,true,true,true,true,false,true,false,false,false,false,false]) (by kernel_rfl) rfl ?_
    refine Y ?_
    refine x_two 7 9 (by kernel_rfl) rfl rfl (l':=#[true,true,true,true,true,true,true,true,true,false,false,false,false,false]) (l'':=#[true,true,true,true,true,true,true,false,true,true,false,false,false,false]) (by kernel_rfl) (by kernel_rfl) (x_go ?_) (x_go ?_)
    · repeat (first|(refine gL ?_;refine s_litk (D:=tInt) (fun n=>.int .i64 n) (fun _=>rfl) (fun _=>rfl) (fun _=>rfl) rfl [-1,(ss.length : Int),(ss.length : Int) + 1] HM rfl rfl (by simp) (by simp) ?_;clear HM;intro g W1 HM)|refine Y ?_)
      refine x_one 9 (by kernel_rfl) rfl (l':=#[true,true,true,true,true,true,true,true,true,true,false,false,false,false]) (by kernel_rfl) (x_go ?_)
      repeat (first|(refine qf ?_;go_at_call 20;refine (pick_c hb hl _ (by omega) HM).mono ?_;rintro e W1 ⟨v,hp1,rfl,HM1⟩;obtain ⟨p1,rfl⟩ : ∃ k : Nat,v = k:=⟨v.toNat,(by omega)⟩;have hp1b : p1 < 3:=(by omega);refine ⟨_,rfl,?_⟩;replace HM:=HM1;clear HM1)|refine Y ?_)
      refine x_pv HQ HS 10 rfl (by kernel_rfl) (by kernel_rfl) (l':=#[true,true,true,true,true,true,true,true,true,true,true,false,false,false]) (by kernel_rfl) rfl ?_
      refine Y ?_
      refine x_one 11 (by kernel_rfl) rfl (l':=#[true,true,true,true,true,true,true,true,true,true,true,true,false,false]) (by kernel_rfl) (x_go ?_)
      repeat refine Y ?_
      refine x_pv HQ HS 12 rfl (by kernel_rfl) (by kernel_rfl) (l':=#[true,true,true,true,true,true,true,true,true,true,true,true,true,false]) (by kernel_rfl) rfl ?_
      refine Y ?_
      refine x_last 13 (by kernel_rfl) rfl (l':=#[true,true,true,true,true,true,true,true,true,true,true,true,true,true]) (by kernel_rfl) (by kernel_rfl) rfl ?_
      repeat (first|refine Y ?_|(refine qs ?_;clear HM;intro W1 HM))
      have hr3:=hr2 (p1 : Int)
      exact ret_cell HM rfl rfl rfl ⟨p,rd tInt [-1,(ss.length : Int),(ss.length : Int) + 1] (p1 : Int),ss,A5,c5,⟨by omega,by first|omega|(simp only [List.length_append,List.length_cons,List.length_nil];omega),by intro hk;first|exact hk|omega⟩,rfl,(HM.rdr_to (g:=gr) (q':=q + 10) (by omega)).sb⟩
    · repeat (first|(refine qf ?_;go_at_call 20;refine (pick_c hb hl _ (by omega) HM).mono ?_;rintro e W1 ⟨v,hp1,rfl,HM1⟩;obtain ⟨p1,rfl⟩ : ∃ k : Nat,v = k:=⟨v.toNat,(by omega)⟩;have hp1b : p1 < 3:=(by omega);refine ⟨_,rfl,?_⟩;replace HM:=HM1;clear HM1)|refine Y ?_)
      refine x_one 7 (by kernel_rfl) rfl (l':=#[true,true,true,true,true,true,true,true,true,true,false,false,false,false]) (by kernel_rfl) (x_go ?_)
      repeat (first|(refine gL ?_;refine s_litk (D:=tInt) (fun n=>.int .i64 n) (fun _=>rfl) (fun _=>rfl) (fun _=>rfl) rfl [-1,(ss.length : Int),(ss.length : Int) + 1] HM rfl rfl (by simp) (by simp) ?_;clear HM;intro g W1 HM)|refine Y ?_)
      refine x_pv HQ HS 10 rfl (by kernel_rfl) (by kernel_rfl) (l':=#[true,true,true,true,true,true,true,true,true,true,true,false,false,false]) (by kernel_rfl) rfl ?_
      refine Y ?_
      refine x_one 11 (by kernel_rfl) rfl (l':=#[true,true,true,true,true,true,true,true,true,true,true,true,false,false]) (by kernel_rfl) (x_go ?_)
      repeat refine Y ?_
      refine x_pv HQ HS 12 rfl (by kernel_rfl) (by kernel_rfl) (l':=#[true,true,true,true,true,true,true,true,true,true,true,true,true,false]) (by kernel_rfl) rfl ?_
      refine Y ?_
      refine x_last 13 (by kernel_rfl) rfl (l':=#[true,true,true,true,true,true,true,true,true,true,true,true,true,true]) (by kernel_rfl) (by kernel_rfl) rfl ?_
      repeat (first|refine Y ?_|(refine qs ?_;clear HM;intro W1 HM))
      have hr3:=hr2 (p1 : Int)
      exact ret_cell HM rfl rfl rfl ⟨p,rd tInt [-1,(ss.length : Int),(ss.length : Int) + 1] (p1 : Int),ss,A5,c5,⟨by omega,by first|omega|(simp only [List.length_append,List.length_cons,List.length_nil];omega),by intro hk;first|exact hk|omega⟩,rfl,(HM.rdr_to (g:=gr) (q':=q + 10) (by omega)).sb⟩
  by_cases p02 : p0 = 2
  · subst p02
    have HM2:=HM.rdr_first (g:=gr)
    have HM3:=HM2.pk (A:=own tSlot 91 A5 c5 ss)
    clear HM HM2
    have HM:=HM3
    clear HM3
    repeat refine Y ?_
    refine gR ?_
    refine x_start (ds:=[11]) HM (fun w hw=>hw.drop.drop) (by kernel_rfl) (by kernel_rfl) qq ?_
    intro HQ HS W1 HM1;replace HM:=HM1;clear HM1
    refine x_pv HQ HS 0 rfl (by kernel_rfl) (by kernel_rfl) (l':=#[true,false,false,false,false,false,false,false,false,false,false,false]) (by kernel_rfl) rfl ?_
    refine Y ?_
    refine x_pv HQ HS 3 rfl (by kernel_rfl) (by kernel_rfl) (l':=#[true,false,false,true,false,false,false,false,false,false,false,false]) (by kernel_rfl) rfl ?_
    refine Y ?_
    refine x_ld HQ HS 1 rfl (by kernel_rfl) (by kernel_rfl) (by kernel_rfl) (by kernel_rfl) (l':=#[true,true,false,true,false,false,false,false,false,false,false,false]) (by kernel_rfl) rfl ?_
    refine Y ?_
    refine x_two 2 4 (by kernel_rfl) rfl rfl (l':=#[true,true,true,true,false,false,false,false,false,false,false,false]) (l'':=#[true,true,false,true,true,false,false,false,false,false,false,false]) (by kernel_rfl) (by kernel_rfl) (x_go ?_) (x_go ?_)
    · repeat (first|(refine gL ?_;refine s_litk (D:=tStr) (fun n=>.string n) (fun _=>rfl) (fun _=>rfl) (fun _=>rfl) rfl [⟨#[120]⟩,⟨#[]⟩] HM rfl rfl (by simp) (by simp) ?_;clear HM;intro g W1 HM)|refine Y ?_)
      refine x_one 4 (by kernel_rfl) rfl (l':=#[true,true,true,true,true,false,false,false,false,false,false,false]) (by kernel_rfl) (x_go ?_)
      repeat (first|(refine qf ?_;go_at_call 20;refine (pick_c hb hl _ (by omega) HM).mono ?_;rintro e W1 ⟨v,hp1,rfl,HM1⟩;obtain ⟨p1,rfl⟩ : ∃ k : Nat,v = k:=⟨v.toNat,(by omega)⟩;have hp1b : p1 < 2:=(by omega);refine ⟨_,rfl,?_⟩;replace HM:=HM1;clear HM1)|refine Y ?_)
      refine x_pv HQ HS 5 rfl (by kernel_rfl) (by kernel_rfl) (l':=#[true,true,true,true,true,true,false,false,false,false,false,false]) (by kernel_rfl) rfl ?_
      refine Y ?_
      refine x_one 6 (by kernel_rfl) rfl (l':=#[true,true,true,true,true,true,true,false,false,false,false,false]) (by kernel_rfl) (x_go ?_)
      repeat refine Y ?_
      refine x_one 7 (by kernel_rfl) rfl (l':=#[true,true,true,true,true,true,true,true,false,false,false,false]) (by kernel_rfl) (x_go ?_)
      repeat refine Y ?_
      refine x_one 8 (by kernel_rfl) rfl (l':=#[true,true,true,true,true,true,true,true,true,false,false,false]) (by kernel_rfl) (x_go ?_)
      repeat (first|(refine qg ?_;clear HM;intro g W1 HM)|refine Y ?_)
      refine x_one 9 (by kernel_rfl) rfl (l':=#[true,true,true,true,true,true,true,true,true,true,false,false]) (by kernel_rfl) (x_go ?_)
      repeat (first|(refine qa ?_;clear HM;intro A1 c1 W1 HM)|refine Y ?_)
      refine x_pv HQ HS 10 rfl (by kernel_rfl) (by kernel_rfl) (l':=#[true,true,true,true,true,true,true,true,true,true,true,false]) (by kernel_rfl) rfl ?_
      refine Y ?_
      refine x_last 11 (by kernel_rfl) rfl (l':=#[true,true,true,true,true,true,true,true,true,true,true,true]) (by kernel_rfl) (by kernel_rfl) rfl ?_
      repeat (first|refine Y ?_|(refine qs ?_;clear HM;intro W1 HM))
      exact ret_cell HM rfl rfl rfl ⟨p,k,ss ++ [_],A1,c1,⟨by omega,by first|omega|(simp only [List.length_append,List.length_cons,List.length_nil];omega),by intro hk;first|exact hk|omega⟩,rfl,(HM.rdr_to (g:=gr) (q':=q + 10) (by omega)).sb⟩
    · repeat (first|(refine qf ?_;go_at_call 20;refine (pick_c hb hl _ (by omega) HM).mono ?_;rintro e W1 ⟨v,hp1,rfl,HM1⟩;obtain ⟨p1,rfl⟩ : ∃ k : Nat,v = k:=⟨v.toNat,(by omega)⟩;have hp1b : p1 < 2:=(by omega);refine ⟨_,rfl,?_⟩;replace HM:=HM1;clear HM1)|refine Y ?_)
      refine x_one 2 (by kernel_rfl) rfl (l':=#[true,true,true,true,true,false,false,false,false,false,false,false]) (by kernel_rfl) (x_go ?_)
      repeat (first|(refine gL ?_;refine s_litk (D:=tStr) (fun n=>.string n) (fun _=>rfl) (fun _=>rfl) (fun _=>rfl) rfl [⟨#[120]⟩,⟨#[]⟩] HM rfl rfl (by simp) (by simp) ?_;clear HM;intro g W1 HM)|refine Y ?_)
      refine x_pv HQ HS 5 rfl (by kernel_rfl) (by kernel_rfl) (l':=#[true,true,true,true,true,true,false,false,false,false,false,false]) (by kernel_rfl) rfl ?_
      refine Y ?_
      refine x_one 6 (by kernel_rfl) rfl (l':=#[true,true,true,true,true,true,true,false,false,false,false,false]) (by kernel_rfl) (x_go ?_)
      repeat refine Y ?_
      refine x_one 7 (by kernel_rfl) rfl (l':=#[true,true,true,true,true,true,true,true,false,false,false,false]) (by kernel_rfl) (x_go ?_)
      repeat refine Y ?_
      refine x_one 8 (by kernel_rfl) rfl (l':=#[true,true,true,true,true,true,true,true,true,false,false,false]) (by kernel_rfl) (x_go ?_)
      repeat (first|(refine qg ?_;clear HM;intro g W1 HM)|refine Y ?_)
      refine x_one 9 (by kernel_rfl) rfl (l':=#[true,true,true,true,true,true,true,true,true,true,false,false]) (by kernel_rfl) (x_go ?_)
      repeat (first|(refine qa ?_;clear HM;intro A1 c1 W1 HM)|refine Y ?_)
      refine x_pv HQ HS 10 rfl (by kernel_rfl) (by kernel_rfl) (l':=#[true,true,true,true,true,true,true,true,true,true,true,false]) (by kernel_rfl) rfl ?_
      refine Y ?_
      refine x_last 11 (by kernel_rfl) rfl (l':=#[true,true,true,true,true,true,true,true,true,true,true,true]) (by kernel_rfl) (by kernel_rfl) rfl ?_
      repeat (first|refine Y ?_|(refine qs ?_;clear HM;intro W1 HM))
      exact ret_cell HM rfl rfl rfl ⟨p,k,ss ++ [_],A1,c1,⟨by omega,by first|omega|(simp only [List.length_append,List.length_cons,List.length_nil];omega),by intro hk;first|exact hk|omega⟩,rfl,(HM.rdr_to (g:=gr) (q':=q + 10) (by omega)).sb⟩
  by_cases p03 : p0 = 3
  · subst p03
    have HM2:=HM.rdr_first (g:=gr)
    have HM3:=HM2.pk (A:=own tSlot 91 A5 c5 ss)
    clear HM HM2
    have HM:=HM3
    clear HM3
    repeat refine Y ?_
    refine gR ?_
    refine x_start (ds:=[16]) HM (fun w hw=>hw.drop.drop) (by kernel_rfl) (by kernel_rfl) qq ?_
    intro HQ HS W1 HM1;replace HM:=HM1;clear HM1
    refine x_pv HQ HS 0 rfl (by kernel_rfl) (by kernel_rfl) (l':=#[true,false,false,false,false,false,false,false,false,false,false,false,false,false,false,false,false]) (by kernel_rfl) rfl ?_
    refine Y ?_
    refine x_pv HQ HS 2 rfl (by kernel_rfl) (by kernel_rfl) (l':=#[true,false,true,false,false,false,false,false,false,false,false,false,false,false,false,false,false]) (by kernel_rfl) rfl ?_
    refine Y ?_
    refine x_pv HQ HS 4 rfl (by kernel_rfl) (by kernel_rfl) (l':=#[true,false,true,false,true,false,false,false,false,false,false,false,false,false,false,false,false]) (by kernel_rfl) rfl ?_
    refine Y ?_
    refine x_pv HQ HS 8 rfl (by kernel_rfl) (by kernel_rfl) (l':=#[true,false,true,false,true,false,false,false,true,false,false,false,false,false,false,false,false]) (by kernel_rfl) rfl ?_
    refine Y ?_
    refine x_ld HQ HS 1 rfl (by kernel_rfl) (by kernel_rfl) (by kernel_rfl) (by kernel_rfl) (l':=#[true,true,true,false,true,false,false,false,true,false,false,false,false,false,false,false,false]) (by kernel_rfl) rfl ?_
    refine Y ?_
    refine x_ld HQ HS 3 rfl (by kernel_rfl) (by kernel_rfl) (by kernel_rfl) (by kernel_rfl) (l':=#[true,true,true,true,true,false,false,false,true,false,false,false,false,false,false,false,false]) (by kernel_rfl) rfl ?_
    refine Y ?_
    refine x_ld HQ HS 5 rfl (by kernel_rfl) (by kernel_rfl) (by kernel_rfl) (by kernel_rfl) (l':=#[true,true,true,true,true,true,false,false,true,false,false,false,false,false,false,false,false]) (by kernel_rfl) rfl ?_
    refine Y ?_
    refine x_pv HQ HS 6 rfl (by kernel_rfl) (by kernel_rfl) (l':=#[true,true,true,true,true,true,true,false,true,false,false,false,false,false,false,false,false]) (by kernel_rfl) rfl ?_
    refine Y ?_
    refine x_two 7 9 (by kernel_rfl) rfl rfl (l':=#[true,true,true,true,true,true,true,true,true,false,false,false,false,false,false,false,false]) (l'':=#[true,true,true,true,true,true,true,false,true,true,false,false,false,false,false,false,false]) (by kernel_rfl) (by kernel_rfl) (x_go ?_) (x_go ?_)
    · repeat (first|(refine gL ?_;refine s_litk (D:=tInt) (fun n=>.int .i64 n) (fun _=>rfl) (fun _=>rfl) (fun _=>rfl) rfl [-1,p,p + 1] HM rfl rfl (by simp) (by simp) ?_;clear HM;intro g W1 HM)|refine Y ?_)
      refine x_one 9 (by kernel_rfl) rfl (l':=#[true,true,true,true,true,true,true,true,true,true,false,false,false,false,false,false,false]) (by kernel_rfl) (x_go ?_)
      repeat (first|(refine qf ?_;go_at_call 20;refine (pick_c hb hl _ (by omega) HM).mono ?_;rintro e W1 ⟨v,hp1,rfl,HM1⟩;obtain ⟨p1,rfl⟩ : ∃ k : Nat,v = k:=⟨v.toNat,(by omega)⟩;have hp1b : p1 < 3:=(by omega);refine ⟨_,rfl,?_⟩;replace HM:=HM1;clear HM1)|refine Y ?_)
      refine x_pv HQ HS 10 rfl (by kernel_rfl) (by kernel_rfl) (l':=#[true,true,true,true,true,true,true,true,true,true,true,false,false,false,false,false,false]) (by kernel_rfl) rfl ?_
      refine Y ?_
      refine x_one 11 (by kernel_rfl) rfl (l':=#[true,true,true,true,true,true,true,true,true,true,true,true,false,false,false,false,false]) (by kernel_rfl) (x_go ?_)
      repeat refine Y ?_
      refine x_one 12 (by kernel_rfl) rfl (l':=#[true,true,true,true,true,true,true,true,true,true,true,true,true,false,false,false,false]) (by kernel_rfl) (x_go ?_)
      repeat refine Y ?_
      refine x_one 13 (by kernel_rfl) rfl (l':=#[true,true,true,true,true,true,true,true,true,true,true,true,true,true,false,false,false]) (by kernel_rfl) (x_go ?_)
      repeat (first|(refine qg ?_;clear HM;intro g W1 HM)|refine Y ?_)
      refine x_one 14 (by kernel_rfl) rfl (l':=#[true,true,true,true,true,true,true,true,true,true,true,true,true,true,true,false,false]) (by kernel_rfl) (x_go ?_)
      repeat (first|(refine qa ?_;clear HM;intro A1 c1 W1 HM)|refine Y ?_)
      refine x_pv HQ HS 15 rfl (by kernel_rfl) (by kernel_rfl) (l':=#[true,true,true,true,true,true,true,true,true,true,true,true,true,true,true,true,false]) (by kernel_rfl) rfl ?_
      refine Y ?_
      refine x_last 16 (by kernel_rfl) rfl (l':=#[true,true,true,true,true,true,true,true,true,true,true,true,true,true,true,true,true]) (by kernel_rfl) (by kernel_rfl) rfl ?_
      repeat (first|refine Y ?_|(refine qs ?_;clear HM;intro W1 HM))
      exact ret_cell HM rfl rfl rfl ⟨p,k,ss ++ [_],A1,c1,⟨by omega,by first|omega|(simp only [List.length_append,List.length_cons,List.length_nil];omega),by intro hk;first|exact hk|omega⟩,rfl,(HM.rdr_to (g:=gr) (q':=q + 10) (by omega)).sb⟩
    · repeat (first|(refine qf ?_;go_at_call 20;refine (pick_c hb hl _ (by omega) HM).mono ?_;rintro e W1 ⟨v,hp1,rfl,HM1⟩;obtain ⟨p1,rfl⟩ : ∃ k : Nat,v = k:=⟨v.toNat,(by omega)⟩;have hp1b : p1 < 3:=(by omega);refine ⟨_,rfl,?_⟩;replace HM:=HM1;clear HM1)|refine Y ?_)
      refine x_one 7 (by kernel_rfl) rfl (l':=#[true,true,true,true,true,true,true,true,true,true,false,false,false,false,false,false,false]) (by kernel_rfl) (x_go ?_)
      repeat (first|(refine gL ?_;refine s_litk (D:=tInt) (fun n=>.int .i64 n) (fun _=>rfl) (fun _=>rfl) (fun _=>rfl) rfl [-1,p,p + 1] HM rfl rfl (by simp) (by simp) ?_;clear HM;intro g W1 HM)|refine Y ?_)
      refine x_pv HQ HS 10 rfl (by kernel_rfl) (by kernel_rfl) (l':=#[true,true,true,true,true,true,true,true,true,true,true,false,false,false,false,false,false]) (by kernel_rfl) rfl ?_
      refine Y ?_
      refine x_one 11 (by kernel_rfl) rfl (l':=#[true,true,true,true,true,true,true,true,true,true,true,true,false,false,false,false,false]) (by kernel_rfl) (x_go ?_)
      repeat refine Y ?_
      refine x_one 12 (by kernel_rfl) rfl (l':=#[true,true,true,true,true,true,true,true,true,true,true,true,true,false,false,false,false]) (by kernel_rfl) (x_go ?_)
      repeat refine Y ?_
      refine x_one 13 (by kernel_rfl) rfl (l':=#[true,true,true,true,true,true,true,true,true,true,true,true,true,true,false,false,false]) (by kernel_rfl) (x_go ?_)
      repeat (first|(refine qg ?_;clear HM;intro g W1 HM)|refine Y ?_)
      refine x_one 14 (by kernel_rfl) rfl (l':=#[true,true,true,true,true,true,true,true,true,true,true,true,true,true,true,false,false]) (by kernel_rfl) (x_go ?_)
      repeat (first|(refine qa ?_;clear HM;intro A1 c1 W1 HM)|refine Y ?_)
      refine x_pv HQ HS 15 rfl (by kernel_rfl) (by kernel_rfl) (l':=#[true,true,true,true,true,true,true,true,true,true,true,true,true,true,true,true,false]) (by kernel_rfl) rfl ?_
      refine Y ?_
      refine x_last 16 (by kernel_rfl) rfl (l':=#[true,true,true,true,true,true,true,true,true,true,true,true,true,true,true,true,true]) (by kernel_rfl) (by kernel_rfl) rfl ?_
      repeat (first|refine Y ?_|(refine qs ?_;clear HM;intro W1 HM))
      exact ret_cell HM rfl rfl rfl ⟨p,k,ss ++ [_],A1,c1,⟨by omega,by first|omega|(simp only [List.length_append,List.length_cons,List.length_nil];omega),by intro hk;first|exact hk|omega⟩,rfl,(HM.rdr_to (g:=gr) (q':=q + 10) (by omega)).sb⟩
  by_cases p04 : p0 = 4
  · subst p04
    repeat (first|refine Y ?_|(refine qf ?_;go_at_call 20;refine (pick_c hb hl _ (by omega) HM).mono ?_;rintro e W1 ⟨v,hp1,rfl,HM1⟩;obtain ⟨p1,rfl⟩ : ∃ k : Nat,v = k:=⟨v.toNat,(by omega)⟩;have hp1b : p1 < 2:=(by omega);refine ⟨_,rfl,?_⟩;replace HM:=HM1;clear HM1))
    rename_i g3 Wa gz Wb Wc Wd We Wf
    refine c_loop2 (σ:=List Slot) (fun s A c=>[(4,.pointer (some ⟨gz,0,none⟩)),(5,.pointer (some ⟨g,0,none⟩)),(6,.int .i64 (60 + (p1 : Int)))]) (fun s A' c' W1=>s.length ≤ 61 ∧ Mem w0 W1 (box gz 25 [.int .i64 0,.int .i64 0,.slice none 0 0] :: box g 25 [.int .i64 p,.int .i64 k,.slice A' s.length c'] :: own tSlot 91 A' c' s :: rdr A bs.length c (q + 10) gr :: R)) (fun s=>62 - s.length) ss A5 c5 U ⟨by omega,(HM.rdr_to (g:=gr) (q':=q + 10) (by omega)).sb⟩ ?_
    clear HM
    rintro zs A6 c6 W1 ⟨hzl,HM⟩
    by_cases hlt : (zs.length : Int) < 60 + p1
    · repeat (first|refine Y ?_|(refine qs ?_;clear HM;intro W1 HM)|(refine qa ?_;clear HM;intro A1 c1 W1 HM)|(refine qg ?_;clear HM;intro g W1 HM))
      exact n_round2 (zs ++ [⟨0,⟨#[]⟩⟩]) A1 c1 U ⟨by simp only [List.length_append,List.length_cons,List.length_nil];omega,HM.sb⟩ (by simp only [List.length_append,List.length_cons,List.length_nil];omega)
    · repeat (first|refine Y ?_|(refine qs ?_;clear HM;intro W1 HM))
      exact ret_cell HM rfl rfl rfl ⟨p,k,zs,A6,c6,⟨by omega,by omega,fun hk=>hk⟩,rfl,HM.sb⟩
  · obtain rfl : p0 = 5:=by omega
    have HM2:=HM.rdr_first (g:=gr)
    have HM3:=HM2.pk (A:=own tSlot 91 A5 c5 ss)
    clear HM HM2
    have HM:=HM3
    clear HM3
    repeat refine Y ?_
    refine gR ?_
    refine x_start (ds:=[10]) HM (fun w hw=>hw.drop.drop) (by kernel_rfl) (by kernel_rfl) qq ?_
    intro HQ HS W1 HM1;replace HM:=HM1;clear HM1
    refine x_pv HQ HS 0 rfl (by kernel_rfl) (by kernel_rfl) (l':=#[true,false,false,false,false,false,false,false,false,false,false]) (by kernel_rfl) rfl ?_
    refine Y ?_
    refine x_pv HQ HS 2 rfl (by kernel_rfl) (by kernel_rfl) (l':=#[true,false,true,false,false,false,false,false,false,false,false]) (by kernel_rfl) rfl ?_
    refine Y ?_
    refine x_ld HQ HS 1 rfl (by kernel_rfl) (by kernel_rfl) (by kernel_rfl) (by kernel_rfl) (l':=#[true,true,true,false,false,false,false,false,false,false,false]) (by kernel_rfl) rfl ?_
    refine Y ?_
    refine x_one 3 (by kernel_rfl) rfl (l':=#[true,true,true,true,false,false,false,false,false,false,false]) (by kernel_rfl) (x_go ?_)
    repeat (first|(refine qf ?_;go_at_call 20;refine (pick_c hb hl _ (by omega) HM).mono ?_;rintro e W1 ⟨v,hp1,rfl,HM1⟩;obtain ⟨p1,rfl⟩ : ∃ k : Nat,v = k:=⟨v.toNat,(by omega)⟩;have hp1b : p1 < 2:=(by omega);refine ⟨_,rfl,?_⟩;replace HM:=HM1;clear HM1)|refine Y ?_)
    refine x_pv HQ HS 4 rfl (by kernel_rfl) (by kernel_rfl) (l':=#[true,true,true,true,true,false,false,false,false,false,false]) (by kernel_rfl) rfl ?_
    refine Y ?_
    refine x_one 5 (by kernel_rfl) rfl (l':=#[true,true,true,true,true,true,false,false,false,false,false]) (by kernel_rfl) (x_go ?_)
    repeat (first|(refine qf ?_;go_at_call 59;refine (many_c ⟨#[116]⟩ _ (by omega) (by omega) (by decide) HM).mono ?_;rintro e W1 ⟨t,ht,rfl,HM1⟩;refine ⟨_,rfl,?_⟩;replace HM:=HM1;clear HM1)|refine Y ?_)
    refine x_one 6 (by kernel_rfl) rfl (l':=#[true,true,true,true,true,true,true,false,false,false,false]) (by kernel_rfl) (x_go ?_)
    repeat refine Y ?_
    refine x_one 7 (by kernel_rfl) rfl (l':=#[true,true,true,true,true,true,true,true,false,false,false]) (by kernel_rfl) (x_go ?_)
    repeat (first|(refine qg ?_;clear HM;intro g W1 HM)|refine Y ?_)
    refine x_one 8 (by kernel_rfl) rfl (l':=#[true,true,true,true,true,true,true,true,true,false,false]) (by kernel_rfl) (x_go ?_)
    repeat (first|(refine qa ?_;clear HM;intro A1 c1 W1 HM)|refine Y ?_)
    refine x_pv HQ HS 9 rfl (by kernel_rfl) (by kernel_rfl) (l':=#[true,true,true,true,true,true,true,true,true,true,false]) (by kernel_rfl) rfl ?_
    refine Y ?_
    refine x_last 10 (by kernel_rfl) rfl (l':=#[true,true,true,true,true,true,true,true,true,true,true]) (by kernel_rfl) (by kernel_rfl) rfl ?_
    repeat (first|refine Y ?_|(refine qs ?_;clear HM;intro W1 HM))
    exact ret_cell HM rfl rfl rfl ⟨p,k,ss ++ [_],A1,c1,⟨by omega,by first|omega|(simp only [List.length_append,List.length_cons,List.length_nil];omega),by intro hk;first|exact hk|omega⟩,rfl,(HM.rdr_to (g:=gr) (q':=q + 10) (by omega)).sb⟩
theorem vr_ballot {x : Rcd} (h : VR x) : 0 ≤ x.ballot ∧ x.ballot ≤ 1000000:=by
  by_cases hl : x.lead = true ∨ x.trying = true
  · have h1:=h.lead hl
    have h2:=h.disk.p1
    omega
  · have h1 : x.lead = false:=by cases e : x.lead <;> simp_all
    have h2 : x.trying = false:=by cases e : x.trying <;> simp_all
    rw [(h.quiet h1 h2).ballot];omega
structure Bd (x : Rcd) : Prop where
  of0 : 0 ≤ x.of ∧ x.of ≤ 6
  n0 : 0 ≤ x.number ∧ x.number ≤ 6
  p0 : -10 ≤ x.dp ∧ x.dp ≤ 2000001
  k0 : -10 ≤ x.dk ∧ x.dk ≤ 1000
  dsl : x.ds.length ≤ 62
  b0 : -10 ≤ x.ballot ∧ x.ballot ≤ 2000002
  wl : x.wishes.length ≤ 1000
theorem VR.bd {x : Rcd} (hv : VR x) : Bd x:=by
  have hdp0:=hv.disk.p0
  have hdp1:=hv.disk.p1
  have hdk0:=hv.disk.k0
  have hdk1:=hv.disk.k1
  have hds:=hv.disk.slots.1
  have hwl:=hv.wishes.len
  have hof1:=hv.of1
  have hof5:=hv.of5
  have hn1:=hv.n1
  have hno:=hv.no
  have hvb:=vr_ballot hv
  constructor <;> omega
end Go.Proofs.YtampmicahnnebaaGreat.Sp
