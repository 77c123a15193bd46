/- Recorders that are spoilt. No condition. -/
import Derived.Test.YtampmicahnnebaaGreatRecClaim13
set_option linter.unusedVariables false
set_option linter.unusedSimpArgs false
namespace Go.Proofs.YtampmicahnnebaaGreat.Sp
open Go Go.RowKit
set_option maxRecDepth 10000
set_option maxHeartbeats 40000000
variable {w0 W : World} {L R : List Asn} {A : Option Addr} {c : Nat} {bs : List Int}
theorem spoilr_c {gr q : Nat} (x : Rcd) (i : AtRcd) (hv : VR x) (hb : RoRow rByte w0 A bs) (hl : bs.length ≤ 2000) [hrd : RdAt L A bs.length c gr q R] (hq : q ≤ 800000) (HM : Mem w0 W (partRcd 91 40 9 3 66 x i ++ L)) : Calls Tryz.prog 63 #[.pointer (some ⟨gr,0,none⟩),.agg (encRcd x i).toArray] W fun e W'=>∃ (y : Rcd) (j : AtRcd),SmallR y ∧ Bd y ∧ e = .returned (.agg (encRcd y j).toArray) ∧ Mem w0 W' (partRcd 91 40 9 3 66 y j ++ (rdr A bs.length c (q + 20) gr :: R)):=by
  refine enter Tryz.func63 rfl Tryz.ntmps63 [(0,_),(1,.agg (encRcd x i).toArray)] rfl ⟨rfl,rfl,trivial⟩ ?_
  have hn:=hv.small
  have hbd:=hv.bd
  have b1:=hbd.of0
  have b2:=hbd.n0
  have b3:=hbd.p0
  have b4:=hbd.k0
  have b5:=hbd.dsl
  have b6:=hbd.b0
  have b7:=hbd.wl
  have hdp0:=hv.disk.p0
  have hdp1:=hv.disk.p1
  have hsp0:=hv.safe.p0
  have hsp1:=hv.safe.p1
  have hss:=hv.safe.slots.1
  have hds:=hv.disk.slots.1
  have hhl:=hv.heldLen
  have hwl:=hv.wishes.len
  have hyl:=nums_len hv.yes hv.of5
  have hbl:=hv.best.1
  have hal:=acks_len hv.acks
  have hof1:=hv.of1
  have hof5:=hv.of5
  have hn1:=hv.n1
  have hno:=hv.no
  have hheld:=hn.helds
  have hacks:=hn.ackss
  unfold encRcd
  simp only [partRcd,List.cons_append,List.nil_append] at HM
  repeat (first|refine Y ?_|(refine qs ?_;clear HM;intro W1 HM)|(refine qf ?_;first|(go_at_call 24;refine (l2Copy_l x i (by exact ro_rec1 (eS:=91) (eM:=40) (eT:=9) (eI:=3) (eA:=66) HM) hn (Mem.start _)).mono ?_;rintro e2 W1 ⟨j,rfl,HM1⟩;refine ⟨_,rfl,?_⟩;replace HM:=HM.join HM1;clear HM1;simp only [partRcd,List.cons_append,List.nil_append] at HM;simp only [encRcd])|(go_at_call 20;refine (pick_c hb hl _ (by omega) HM).mono ?_;rintro e W1 ⟨v,hp0,rfl,HM1⟩;obtain ⟨p0,rfl⟩ : ∃ k : Nat,v = k:=⟨v.toNat,(by omega)⟩;have hp0b : p0 < 14:=(by omega);refine ⟨_,rfl,?_⟩;replace HM:=HM1;clear HM1))|(refine qg ?_;clear HM;intro g W1 HM))
  by_cases p00 : p0 = 0
  · subst p00
    replace HM:=HM.rdr_first (g:=gr)
    repeat ((refine gC ?_;refine c_yes rfl (by rfl) ?_))
    refine gR ?_
    refine x_start (ds:=[11]) HM (fun w hw=>hw.drop) (by kernel_rfl) (by kernel_rfl) qq ?_
    intro HQ HS W1 HM1;replace HM:=HM1;clear HM1
    refine x_pv HQ HS 0 rfl (by kernel_rfl) (by kernel_rfl) (l':=#[true,false,false,false,false,false,false,false,false,false,false,false]) (by kernel_rfl) rfl ?_
    refine Y ?_
    refine x_pv HQ HS 2 rfl (by kernel_rfl) (by kernel_rfl) (l':=#[true,false,true,false,false,false,false,false,false,false,false,false]) (by kernel_rfl) rfl ?_
    refine Y ?_
    refine x_pv HQ HS 6 rfl (by kernel_rfl) (by kernel_rfl) (l':=#[true,false,true,false,false,false,true,false,false,false,false,false]) (by kernel_rfl) rfl ?_
    refine Y ?_
    refine x_ld HQ HS 1 rfl (by kernel_rfl) (by kernel_rfl) (by kernel_rfl) (by kernel_rfl) (l':=#[true,true,true,false,false,false,true,false,false,false,false,false]) (by kernel_rfl) rfl ?_
    refine Y ?_
    refine x_ld HQ HS 3 rfl (by kernel_rfl) (by kernel_rfl) (by kernel_rfl) (by kernel_rfl) (l':=#[true,true,true,true,false,false,true,false,false,false,false,false]) (by kernel_rfl) rfl ?_
    refine Y ?_
    refine x_pv HQ HS 4 rfl (by kernel_rfl) (by kernel_rfl) (l':=#[true,true,true,true,true,false,true,false,false,false,false,false]) (by kernel_rfl) rfl ?_
    refine Y ?_
    refine x_two 5 7 (by kernel_rfl) rfl rfl (l':=#[true,true,true,true,true,true,true,false,false,false,false,false]) (l'':=#[true,true,true,true,true,false,true,true,false,false,false,false]) (by kernel_rfl) (by kernel_rfl) (x_go ?_) (x_go ?_)
    · repeat (first|(refine gL ?_;refine s_litk (D:=tInt) (fun n=>.int .i64 n) (fun _=>rfl) (fun _=>rfl) (fun _=>rfl) rfl [0,x.of,x.of + 1] HM rfl rfl (by simp) (by simp) ?_;clear HM;intro g W1 HM)|refine Y ?_)
      refine x_one 7 (by kernel_rfl) rfl (l':=#[true,true,true,true,true,true,true,true,false,false,false,false]) (by kernel_rfl) (x_go ?_)
      repeat (first|(refine qf ?_;go_at_call 20;refine (pick_c hb hl _ (by omega) HM).mono ?_;rintro e W1 ⟨v,hp1,rfl,HM1⟩;obtain ⟨p1,rfl⟩ : ∃ k : Nat,v = k:=⟨v.toNat,(by omega)⟩;have hp1b : p1 < 3:=(by omega);refine ⟨_,rfl,?_⟩;replace HM:=HM1;clear HM1)|refine Y ?_)
      refine x_pv HQ HS 8 rfl (by kernel_rfl) (by kernel_rfl) (l':=#[true,true,true,true,true,true,true,true,true,false,false,false]) (by kernel_rfl) rfl ?_
      refine Y ?_
      refine x_one 9 (by kernel_rfl) rfl (l':=#[true,true,true,true,true,true,true,true,true,true,false,false]) (by kernel_rfl) (x_go ?_)
      repeat refine Y ?_
      refine x_pv HQ HS 10 rfl (by kernel_rfl) (by kernel_rfl) (l':=#[true,true,true,true,true,true,true,true,true,true,true,false]) (by kernel_rfl) rfl ?_
      refine Y ?_
      refine x_last 11 (by kernel_rfl) rfl (l':=#[true,true,true,true,true,true,true,true,true,true,true,true]) (by kernel_rfl) (by kernel_rfl) rfl ?_
      repeat (first|refine Y ?_|(refine qs ?_;clear HM;intro W1 HM))
      have hr:=rd_bd (ms:=[0,x.of,x.of + 1]) (lo:=0) (hi:=6) (by intro m hm;simp only [List.mem_cons,List.not_mem_nil,or_false] at hm;omega) (by omega) (p1 : Int)
      exact ret_cell HM rfl rfl rfl ⟨{ x with number:=rd tInt [0,x.of,x.of + 1] (p1 : Int) },j,⟨by dsimp only;first|omega|(simp only [List.length_append,List.length_cons,List.length_nil];omega),by dsimp only;first|omega|(simp only [List.length_append,List.length_cons,List.length_nil];omega),by dsimp only;first|omega|(simp only [List.length_append,List.length_cons,List.length_nil];omega),hheld,by dsimp only;first|omega|(simp only [List.length_append,List.length_cons,List.length_nil];omega),by dsimp only;first|omega|(simp only [List.length_append,List.length_cons,List.length_nil];omega),by dsimp only;first|omega|(simp only [List.length_append,List.length_cons,List.length_nil];omega),by dsimp only;first|omega|(simp only [List.length_append,List.length_cons,List.length_nil];omega),hacks⟩,⟨by dsimp only;first|omega|(simp only [List.length_append,List.length_cons,List.length_nil];omega),by dsimp only;first|omega|(simp only [List.length_append,List.length_cons,List.length_nil];omega),by dsimp only;first|omega|(simp only [List.length_append,List.length_cons,List.length_nil];omega),by dsimp only;first|omega|(simp only [List.length_append,List.length_cons,List.length_nil];omega),by dsimp only;first|omega|(simp only [List.length_append,List.length_cons,List.length_nil];omega),by dsimp only;first|omega|(simp only [List.length_append,List.length_cons,List.length_nil];omega),by dsimp only;first|omega|(simp only [List.length_append,List.length_cons,List.length_nil];omega)⟩,rfl,by simp only [partRcd,List.cons_append,List.nil_append];exact (HM.rdr_to (g:=gr) (q':=q + 20) (by omega)).sb⟩
    · repeat (first|(refine qf ?_;go_at_call 20;refine (pick_c hb hl _ (by omega) HM).mono ?_;rintro e W1 ⟨v,hp1,rfl,HM1⟩;obtain ⟨p1,rfl⟩ : ∃ k : Nat,v = k:=⟨v.toNat,(by omega)⟩;have hp1b : p1 < 3:=(by omega);refine ⟨_,rfl,?_⟩;replace HM:=HM1;clear HM1)|refine Y ?_)
      refine x_one 5 (by kernel_rfl) rfl (l':=#[true,true,true,true,true,true,true,true,false,false,false,false]) (by kernel_rfl) (x_go ?_)
      repeat (first|(refine gL ?_;refine s_litk (D:=tInt) (fun n=>.int .i64 n) (fun _=>rfl) (fun _=>rfl) (fun _=>rfl) rfl [0,x.of,x.of + 1] HM rfl rfl (by simp) (by simp) ?_;clear HM;intro g W1 HM)|refine Y ?_)
      refine x_pv HQ HS 8 rfl (by kernel_rfl) (by kernel_rfl) (l':=#[true,true,true,true,true,true,true,true,true,false,false,false]) (by kernel_rfl) rfl ?_
      refine Y ?_
      refine x_one 9 (by kernel_rfl) rfl (l':=#[true,true,true,true,true,true,true,true,true,true,false,false]) (by kernel_rfl) (x_go ?_)
      repeat refine Y ?_
      refine x_pv HQ HS 10 rfl (by kernel_rfl) (by kernel_rfl) (l':=#[true,true,true,true,true,true,true,true,true,true,true,false]) (by kernel_rfl) rfl ?_
      refine Y ?_
      refine x_last 11 (by kernel_rfl) rfl (l':=#[true,true,true,true,true,true,true,true,true,true,true,true]) (by kernel_rfl) (by kernel_rfl) rfl ?_
      repeat (first|refine Y ?_|(refine qs ?_;clear HM;intro W1 HM))
      have hr:=rd_bd (ms:=[0,x.of,x.of + 1]) (lo:=0) (hi:=6) (by intro m hm;simp only [List.mem_cons,List.not_mem_nil,or_false] at hm;omega) (by omega) (p1 : Int)
      exact ret_cell HM rfl rfl rfl ⟨{ x with number:=rd tInt [0,x.of,x.of + 1] (p1 : Int) },j,⟨by dsimp only;first|omega|(simp only [List.length_append,List.length_cons,List.length_nil];omega),by dsimp only;first|omega|(simp only [List.length_append,List.length_cons,List.length_nil];omega),by dsimp only;first|omega|(simp only [List.length_append,List.length_cons,List.length_nil];omega),hheld,by dsimp only;first|omega|(simp only [List.length_append,List.length_cons,List.length_nil];omega),by dsimp only;first|omega|(simp only [List.length_append,List.length_cons,List.length_nil];omega),by dsimp only;first|omega|(simp only [List.length_append,List.length_cons,List.length_nil];omega),by dsimp only;first|omega|(simp only [List.length_append,List.length_cons,List.length_nil];omega),hacks⟩,⟨by dsimp only;first|omega|(simp only [List.length_append,List.length_cons,List.length_nil];omega),by dsimp only;first|omega|(simp only [List.length_append,List.length_cons,List.length_nil];omega),by dsimp only;first|omega|(simp only [List.length_append,List.length_cons,List.length_nil];omega),by dsimp only;first|omega|(simp only [List.length_append,List.length_cons,List.length_nil];omega),by dsimp only;first|omega|(simp only [List.length_append,List.length_cons,List.length_nil];omega),by dsimp only;first|omega|(simp only [List.length_append,List.length_cons,List.length_nil];omega),by dsimp only;first|omega|(simp only [List.length_append,List.length_cons,List.length_nil];omega)⟩,rfl,by simp only [partRcd,List.cons_append,List.nil_append];exact (HM.rdr_to (g:=gr) (q':=q + 20) (by omega)).sb⟩
  by_cases p01 : p0 = 1
  · subst p01
    repeat (first|(refine gL ?_;refine s_litk (D:=tInt) (fun n=>.int .i64 n) (fun _=>rfl) (fun _=>rfl) (fun _=>rfl) rfl [0,5,6] HM rfl rfl (by simp) (by simp) ?_;clear HM;intro g W1 HM)|refine Y ?_|(refine qs ?_;clear HM;intro W1 HM)|(refine qf ?_;go_at_call 20;refine (pick_c hb hl _ (by omega) HM).mono ?_;rintro e W1 ⟨v,hp1,rfl,HM1⟩;obtain ⟨p1,rfl⟩ : ∃ k : Nat,v = k:=⟨v.toNat,(by omega)⟩;have hp1b : p1 < 3:=(by omega);refine ⟨_,rfl,?_⟩;replace HM:=HM1;clear HM1))
    have hr:=rd_bd (ms:=[0,5,6]) (lo:=0) (hi:=6) (by simp) (by omega) (p1 : Int)
    exact ret_cell HM rfl rfl rfl ⟨{ x with of:=rd tInt [0,5,6] (p1 : Int) },j,⟨by dsimp only;first|omega|(simp only [List.length_append,List.length_cons,List.length_nil];omega),by dsimp only;first|omega|(simp only [List.length_append,List.length_cons,List.length_nil];omega),by dsimp only;first|omega|(simp only [List.length_append,List.length_cons,List.length_nil];omega),hheld,by dsimp only;first|omega|(simp only [List.length_append,List.length_cons,List.length_nil];omega),by dsimp only;first|omega|(simp only [List.length_append,List.length_cons,List.length_nil];omega),by dsimp only;first|omega|(simp only [List.length_append,List.length_cons,List.length_nil];omega),by dsimp only;first|omega|(simp only [List.length_append,List.length_cons,List.length_nil];omega),hacks⟩,⟨by dsimp only;first|omega|(simp only [List.length_append,List.length_cons,List.length_nil];omega),by dsimp only;first|omega|(simp only [List.length_append,List.length_cons,List.length_nil];omega),by dsimp only;first|omega|(simp only [List.length_append,List.length_cons,List.length_nil];omega),by dsimp only;first|omega|(simp only [List.length_append,List.length_cons,List.length_nil];omega),by dsimp only;first|omega|(simp only [List.length_append,List.length_cons,List.length_nil];omega),by dsimp only;first|omega|(simp only [List.length_append,List.length_cons,List.length_nil];omega),by dsimp only;first|omega|(simp only [List.length_append,List.length_cons,List.length_nil];omega)⟩,rfl,by simp only [partRcd,List.cons_append,List.nil_append];exact (HM.rdr_to (g:=gr) (q':=q + 20) (by omega)).sb⟩
  by_cases p02 : p0 = 2
  · subst p02
    repeat (first|refine Y ?_|(refine qs ?_;clear HM;intro W1 HM)|(refine qf ?_;go_at_call 97;refine (spoil_c x.sp x.sk (B:=j.a0.1) (by omega) hb hl (by omega) (by omega) HM).mono ?_;rintro e W1 ⟨p2,k2,ss2,A6,c6,hs2,rfl,HM1⟩;refine ⟨_,rfl,?_⟩;replace HM:=HM1;clear HM1))
    exact ret_cell HM rfl rfl rfl ⟨{ x with sp:=p2,sk:=k2,ss:=ss2 },⟨(A6,c6),j.a1,j.a2,j.a3,j.a4,j.a5,j.a6⟩,⟨by dsimp only;first|omega|(simp only [List.length_append,List.length_cons,List.length_nil];omega),by dsimp only;first|omega|(simp only [List.length_append,List.length_cons,List.length_nil];omega),by dsimp only;first|omega|(simp only [List.length_append,List.length_cons,List.length_nil];omega),hheld,by dsimp only;first|omega|(simp only [List.length_append,List.length_cons,List.length_nil];omega),by dsimp only;first|omega|(simp only [List.length_append,List.length_cons,List.length_nil];omega),by dsimp only;first|omega|(simp only [List.length_append,List.length_cons,List.length_nil];omega),by dsimp only;first|omega|(simp only [List.length_append,List.length_cons,List.length_nil];omega),hacks⟩,⟨by dsimp only;first|omega|(simp only [List.length_append,List.length_cons,List.length_nil];omega),by dsimp only;first|omega|(simp only [List.length_append,List.length_cons,List.length_nil];omega),by dsimp only;first|omega|(simp only [List.length_append,List.length_cons,List.length_nil];omega),by dsimp only;first|omega|(simp only [List.length_append,List.length_cons,List.length_nil];omega),by dsimp only;first|omega|(simp only [List.length_append,List.length_cons,List.length_nil];omega),by dsimp only;first|omega|(simp only [List.length_append,List.length_cons,List.length_nil];omega),by dsimp only;first|omega|(simp only [List.length_append,List.length_cons,List.length_nil];omega)⟩,rfl,by simp only [partRcd,List.cons_append,List.nil_append];exact (HM.rdr_to (g:=gr) (q':=q + 20) (by omega)).sb⟩
  by_cases p03 : p0 = 3
  · subst p03
    repeat (first|refine Y ?_|(refine qs ?_;clear HM;intro W1 HM)|(refine qf ?_;go_at_call 97;refine (spoil_c x.dp x.dk (B:=j.a1.1) (by omega) hb hl (by omega) (by omega) HM).mono ?_;rintro e W1 ⟨p2,k2,ss2,A6,c6,hs2,rfl,HM1⟩;refine ⟨_,rfl,?_⟩;replace HM:=HM1;clear HM1))
    exact ret_cell HM rfl rfl rfl ⟨{ x with dp:=p2,dk:=k2,ds:=ss2 },⟨j.a0,(A6,c6),j.a2,j.a3,j.a4,j.a5,j.a6⟩,⟨by dsimp only;first|omega|(simp only [List.length_append,List.length_cons,List.length_nil];omega),by dsimp only;first|omega|(simp only [List.length_append,List.length_cons,List.length_nil];omega),by dsimp only;first|omega|(simp only [List.length_append,List.length_cons,List.length_nil];omega),hheld,by dsimp only;first|omega|(simp only [List.length_append,List.length_cons,List.length_nil];omega),by dsimp only;first|omega|(simp only [List.length_append,List.length_cons,List.length_nil];omega),by dsimp only;first|omega|(simp only [List.length_append,List.length_cons,List.length_nil];omega),by dsimp only;first|omega|(simp only [List.length_append,List.length_cons,List.length_nil];omega),hacks⟩,⟨by dsimp only;first|omega|(simp only [List.length_append,List.length_cons,List.length_nil];omega),by dsimp only;first|omega|(simp only [List.length_append,List.length_cons,List.length_nil];omega),by dsimp only;first|omega|(simp only [List.length_append,List.length_cons,List.length_nil];omega),by dsimp only;first|omega|(simp only [List.length_append,List.length_cons,List.length_nil];omega),by dsimp only;first|omega|(simp only [List.length_append,List.length_cons,List.length_nil];omega),by dsimp only;first|omega|(simp only [List.length_append,List.length_cons,List.length_nil];omega),by dsimp only;first|omega|(simp only [List.length_append,List.length_cons,List.length_nil];omega)⟩,rfl,by simp only [partRcd,List.cons_append,List.nil_append];exact (HM.rdr_to (g:=gr) (q':=q + 20) (by omega)).sb⟩
  by_cases p04 : p0 = 4
  · subst p04
    have HMn:=HM.nil tSlot 91
    clear HM
    have HM:=HMn
    clear HMn
    have HM2:=HM.rdr_first (g:=gr)
    have HM3:=HM2.pk (A:=own (tMsg 91) 40 j.a2.1 j.a2.2 x.held)
    clear HM HM2
    have HM:=HM3
    clear HM3
    repeat refine Y ?_
    refine gR ?_
    refine x_start (ds:=[15]) HM (fun w hw=>hw.drop.drop) (by kernel_rfl) (by kernel_rfl) qq ?_
    intro HQ HS W1 HM1;replace HM:=HM1;clear HM1
    refine x_pv HQ HS 0 rfl (by kernel_rfl) (by kernel_rfl) (l':=#[true,false,false,false,false,false,false,false,false,false,false,false,false,false,false,false]) (by kernel_rfl) rfl ?_
    refine Y ?_
    refine x_pv HQ HS 2 rfl (by kernel_rfl) (by kernel_rfl) (l':=#[true,false,true,false,false,false,false,false,false,false,false,false,false,false,false,false]) (by kernel_rfl) rfl ?_
    refine Y ?_
    refine x_pv HQ HS 4 rfl (by kernel_rfl) (by kernel_rfl) (l':=#[true,false,true,false,true,false,false,false,false,false,false,false,false,false,false,false]) (by kernel_rfl) rfl ?_
    refine Y ?_
    refine x_pv HQ HS 7 rfl (by kernel_rfl) (by kernel_rfl) (l':=#[true,false,true,false,true,false,false,true,false,false,false,false,false,false,false,false]) (by kernel_rfl) rfl ?_
    refine Y ?_
    refine x_ld HQ HS 1 rfl (by kernel_rfl) (by kernel_rfl) (by kernel_rfl) (by kernel_rfl) (l':=#[true,true,true,false,true,false,false,true,false,false,false,false,false,false,false,false]) (by kernel_rfl) rfl ?_
    refine Y ?_
    refine x_ld HQ HS 5 rfl (by kernel_rfl) (by kernel_rfl) (by kernel_rfl) (by kernel_rfl) (l':=#[true,true,true,false,true,true,false,true,false,false,false,false,false,false,false,false]) (by kernel_rfl) rfl ?_
    refine Y ?_
    refine x_two 3 6 (by kernel_rfl) rfl rfl (l':=#[true,true,true,true,true,true,false,true,false,false,false,false,false,false,false,false]) (l'':=#[true,true,true,false,true,true,true,true,false,false,false,false,false,false,false,false]) (by kernel_rfl) (by kernel_rfl) (x_go ?_) (x_go ?_)
    · repeat (first|(refine qf ?_;go_at_call 20;first|((with_reducible refine (pick_c hb hl 3 ?_ HM).mono ?_);omega;rintro e W1 ⟨v,hp2,rfl,HM1⟩;obtain ⟨p2,rfl⟩ : ∃ k : Nat,v = k:=⟨v.toNat,(by omega)⟩;have hp2b : p2 < 3:=(by omega);refine ⟨_,rfl,?_⟩;replace HM:=HM1;clear HM1)|((with_reducible refine (pick_c hb hl 11 ?_ HM).mono ?_);omega;rintro e W1 ⟨v,hp1,rfl,HM1⟩;obtain ⟨p1,rfl⟩ : ∃ k : Nat,v = k:=⟨v.toNat,(by omega)⟩;have hp1b : p1 < 11:=(by omega);refine ⟨_,rfl,?_⟩;replace HM:=HM1;clear HM1))|refine Y ?_)
      refine x_two 6 8 (by kernel_rfl) rfl rfl (l':=#[true,true,true,true,true,true,true,true,false,false,false,false,false,false,false,false]) (l'':=#[true,true,true,true,true,true,false,true,true,false,false,false,false,false,false,false]) (by kernel_rfl) (by kernel_rfl) (x_go ?_) (x_go ?_)
      · repeat (first|(refine gL ?_;refine s_litk (D:=tInt) (fun n=>.int .i64 n) (fun _=>rfl) (fun _=>rfl) (fun _=>rfl) rfl [x.number,0,1] HM rfl rfl (by simp) (by simp) ?_;clear HM;intro g W1 HM)|refine Y ?_)
        refine x_one 8 (by kernel_rfl) rfl (l':=#[true,true,true,true,true,true,true,true,true,false,false,false,false,false,false,false]) (by kernel_rfl) (x_go ?_)
        repeat (first|(refine qf ?_;go_at_call 20;first|((with_reducible refine (pick_c hb hl 3 ?_ HM).mono ?_);omega;rintro e W1 ⟨v,hp2,rfl,HM1⟩;obtain ⟨p2,rfl⟩ : ∃ k : Nat,v = k:=⟨v.toNat,(by omega)⟩;have hp2b : p2 < 3:=(by omega);refine ⟨_,rfl,?_⟩;replace HM:=HM1;clear HM1)|((with_reducible refine (pick_c hb hl 11 ?_ HM).mono ?_);omega;rintro e W1 ⟨v,hp1,rfl,HM1⟩;obtain ⟨p1,rfl⟩ : ∃ k : Nat,v = k:=⟨v.toNat,(by omega)⟩;have hp1b : p1 < 11:=(by omega);refine ⟨_,rfl,?_⟩;replace HM:=HM1;clear HM1))|refine Y ?_)
        refine x_pv HQ HS 9 rfl (by kernel_rfl) (by kernel_rfl) (l':=#[true,true,true,true,true,true,true,true,true,true,false,false,false,false,false,false]) (by kernel_rfl) rfl ?_
        refine Y ?_
        refine x_one 10 (by kernel_rfl) rfl (l':=#[true,true,true,true,true,true,true,true,true,true,true,false,false,false,false,false]) (by kernel_rfl) (x_go ?_)
        repeat refine Y ?_
        refine x_one 11 (by kernel_rfl) rfl (l':=#[true,true,true,true,true,true,true,true,true,true,true,true,false,false,false,false]) (by kernel_rfl) (x_go ?_)
        repeat refine Y ?_
        refine x_one 12 (by kernel_rfl) rfl (l':=#[true,true,true,true,true,true,true,true,true,true,true,true,true,false,false,false]) (by kernel_rfl) (x_go ?_)
        repeat (first|(refine qg ?_;clear HM;intro g W1 HM)|refine Y ?_)
        refine x_one 13 (by kernel_rfl) rfl (l':=#[true,true,true,true,true,true,true,true,true,true,true,true,true,true,false,false]) (by kernel_rfl) (x_go ?_)
        repeat (first|(refine qa ?_;clear HM;intro A1 c1 W1 HM)|refine Y ?_)
        refine x_pv HQ HS 14 rfl (by kernel_rfl) (by kernel_rfl) (l':=#[true,true,true,true,true,true,true,true,true,true,true,true,true,true,true,false]) (by kernel_rfl) rfl ?_
        refine Y ?_
        refine x_last 15 (by kernel_rfl) rfl (l':=#[true,true,true,true,true,true,true,true,true,true,true,true,true,true,true,true]) (by kernel_rfl) (by kernel_rfl) rfl ?_
        repeat (first|refine Y ?_|(refine qs ?_;clear HM;intro W1 HM))
        exact ret_cell HM rfl rfl rfl ⟨{ x with held:=x.held ++ [⟨_,_,1,0,0,0,⟨#[]⟩,[]⟩] },⟨j.a0,j.a1,(A1,c1),j.a3,j.a4,j.a5,j.a6⟩,⟨by dsimp only;first|omega|(simp only [List.length_append,List.length_cons,List.length_nil];omega),by dsimp only;first|omega|(simp only [List.length_append,List.length_cons,List.length_nil];omega),by dsimp only;first|omega|(simp only [List.length_append,List.length_cons,List.length_nil];omega),(fun y hy=>by rcases List.mem_append.1 hy with hy|hy;exact hheld y hy;rw [List.mem_singleton] at hy;rw [hy];simp),by dsimp only;first|omega|(simp only [List.length_append,List.length_cons,List.length_nil];omega),by dsimp only;first|omega|(simp only [List.length_append,List.length_cons,List.length_nil];omega),by dsimp only;first|omega|(simp only [List.length_append,List.length_cons,List.length_nil];omega),by dsimp only;first|omega|(simp only [List.length_append,List.length_cons,List.length_nil];omega),hacks⟩,⟨by dsimp only;first|omega|(simp only [List.length_append,List.length_cons,List.length_nil];omega),by dsimp only;first|omega|(simp only [List.length_append,List.length_cons,List.length_nil];omega),by dsimp only;first|omega|(simp only [List.length_append,List.length_cons,List.length_nil];omega),by dsimp only;first|omega|(simp only [List.length_append,List.length_cons,List.length_nil];omega),by dsimp only;first|omega|(simp only [List.length_append,List.length_cons,List.length_nil];omega),by dsimp only;first|omega|(simp only [List.length_append,List.length_cons,List.length_nil];omega),by dsimp only;first|omega|(simp only [List.length_append,List.length_cons,List.length_nil];omega)⟩,rfl,by simp only [partRcd,List.cons_append,List.nil_append];exact (HM.rdr_to (g:=gr) (q':=q + 20) (by omega)).sb⟩
      · repeat (first|(refine qf ?_;go_at_call 20;first|((with_reducible refine (pick_c hb hl 3 ?_ HM).mono ?_);omega;rintro e W1 ⟨v,hp2,rfl,HM1⟩;obtain ⟨p2,rfl⟩ : ∃ k : Nat,v = k:=⟨v.toNat,(by omega)⟩;have hp2b : p2 < 3:=(by omega);refine ⟨_,rfl,?_⟩;replace HM:=HM1;clear HM1)|((with_reducible refine (pick_c hb hl 11 ?_ HM).mono ?_);omega;rintro e W1 ⟨v,hp1,rfl,HM1⟩;obtain ⟨p1,rfl⟩ : ∃ k : Nat,v = k:=⟨v.toNat,(by omega)⟩;have hp1b : p1 < 11:=(by omega);refine ⟨_,rfl,?_⟩;replace HM:=HM1;clear HM1))|refine Y ?_)
        refine x_one 6 (by kernel_rfl) rfl (l':=#[true,true,true,true,true,true,true,true,true,false,false,false,false,false,false,false]) (by kernel_rfl) (x_go ?_)
        repeat (first|(refine gL ?_;refine s_litk (D:=tInt) (fun n=>.int .i64 n) (fun _=>rfl) (fun _=>rfl) (fun _=>rfl) rfl [x.number,0,1] HM rfl rfl (by simp) (by simp) ?_;clear HM;intro g W1 HM)|refine Y ?_)
        refine x_pv HQ HS 9 rfl (by kernel_rfl) (by kernel_rfl) (l':=#[true,true,true,true,true,true,true,true,true,true,false,false,false,false,false,false]) (by kernel_rfl) rfl ?_
        refine Y ?_
        refine x_one 10 (by kernel_rfl) rfl (l':=#[true,true,true,true,true,true,true,true,true,true,true,false,false,false,false,false]) (by kernel_rfl) (x_go ?_)
        repeat refine Y ?_
        refine x_one 11 (by kernel_rfl) rfl (l':=#[true,true,true,true,true,true,true,true,true,true,true,true,false,false,false,false]) (by kernel_rfl) (x_go ?_)
        repeat refine Y ?_
        refine x_one 12 (by kernel_rfl) rfl (l':=#[true,true,true,true,true,true,true,true,true,true,true,true,true,false,false,false]) (by kernel_rfl) (x_go ?_)
        repeat (first|(refine qg ?_;clear HM;intro g W1 HM)|refine Y ?_)
        refine x_one 13 (by kernel_rfl) rfl (l':=#[true,true,true,true,true,true,true,true,true,true,true,true,true,true,false,false]) (by kernel_rfl) (x_go ?_)
        repeat (first|(refine qa ?_;clear HM;intro A1 c1 W1 HM)|refine Y ?_)
        refine x_pv HQ HS 14 rfl (by kernel_rfl) (by kernel_rfl) (l':=#[true,true,true,true,true,true,true,true,true,true,true,true,true,true,true,false]) (by kernel_rfl) rfl ?_
        refine Y ?_
        refine x_last 15 (by kernel_rfl) rfl (l':=#[true,true,true,true,true,true,true,true,true,true,true,true,true,true,true,true]) (by kernel_rfl) (by kernel_rfl) rfl ?_
        repeat (first|refine Y ?_|(refine qs ?_;clear HM;intro W1 HM))
        exact ret_cell HM rfl rfl rfl ⟨{ x with held:=x.held ++ [⟨_,_,1,0,0,0,⟨#[]⟩,[]⟩] },⟨j.a0,j.a1,(A1,c1),j.a3,j.a4,j.a5,j.a6⟩,⟨by dsimp only;first|omega|(simp only [List.length_append,List.length_cons,List.length_nil];omega),by dsimp only;first|omega|(simp only [List.length_append,List.length_cons,List.length_nil];omega),by dsimp only;first|omega|(simp only [List.length_append,List.length_cons,List.length_nil];omega),(fun y hy=>by rcases List.mem_append.1 hy with hy|hy;exact hheld y hy;rw [List.mem_singleton] at hy;rw [hy];simp),by dsimp only;first|omega|(simp only [List.length_append,List.length_cons,List.length_nil];omega),by dsimp only;first|omega|(simp only [List.length_append,List.length_cons,List.length_nil];omega),by dsimp only;first|omega|(simp only [List.length_append,List.length_cons,List.length_nil];omega),by dsimp only;first|omega|(simp only [List.length_append,List.length_cons,List.length_nil];omega),hacks⟩,⟨by dsimp only;first|omega|(simp only [List.length_append,List.length_cons,List.length_nil];omega),by dsimp only;first|omega|(simp only [List.length_append,List.length_cons,List.length_nil];omega),by dsimp only;first|omega|(simp only [List.length_append,List.length_cons,List.length_nil];omega),by dsimp only;first|omega|(simp only [List.length_append,List.length_cons,List.length_nil];omega),by dsimp only;first|omega|(simp only [List.length_append,List.length_cons,List.length_nil];omega),by dsimp only;first|omega|(simp only [List.length_append,List.length_cons,List.length_nil];omega),by dsimp only;first|omega|(simp only [List.length_append,List.length_cons,List.length_nil];omega)⟩,rfl,by simp only [partRcd,List.cons_append,List.nil_append];exact (HM.rdr_to (g:=gr) (q':=q + 20) (by omega)).sb⟩
    · repeat (first|(refine gL ?_;refine s_litk (D:=tInt) (fun n=>.int .i64 n) (fun _=>rfl) (fun _=>rfl) (fun _=>rfl) rfl [x.number,0,1] HM rfl rfl (by simp) (by simp) ?_;clear HM;intro g W1 HM)|refine Y ?_)
      refine x_one 3 (by kernel_rfl) rfl (l':=#[true,true,true,true,true,true,true,true,false,false,false,false,false,false,false,false]) (by kernel_rfl) (x_go ?_)
      repeat (first|(refine qf ?_;go_at_call 20;first|((with_reducible refine (pick_c hb hl 3 ?_ HM).mono ?_);omega;rintro e W1 ⟨v,hp2,rfl,HM1⟩;obtain ⟨p2,rfl⟩ : ∃ k : Nat,v = k:=⟨v.toNat,(by omega)⟩;have hp2b : p2 < 3:=(by omega);refine ⟨_,rfl,?_⟩;replace HM:=HM1;clear HM1)|((with_reducible refine (pick_c hb hl 11 ?_ HM).mono ?_);omega;rintro e W1 ⟨v,hp1,rfl,HM1⟩;obtain ⟨p1,rfl⟩ : ∃ k : Nat,v = k:=⟨v.toNat,(by omega)⟩;have hp1b : p1 < 11:=(by omega);refine ⟨_,rfl,?_⟩;replace HM:=HM1;clear HM1))|refine Y ?_)
      refine x_one 8 (by kernel_rfl) rfl (l':=#[true,true,true,true,true,true,true,true,true,false,false,false,false,false,false,false]) (by kernel_rfl) (x_go ?_)
      repeat (first|(refine qf ?_;go_at_call 20;first|((with_reducible refine (pick_c hb hl 3 ?_ HM).mono ?_);omega;rintro e W1 ⟨v,hp2,rfl,HM1⟩;obtain ⟨p2,rfl⟩ : ∃ k : Nat,v = k:=⟨v.toNat,(by omega)⟩;have hp2b : p2 < 3:=(by omega);refine ⟨_,rfl,?_⟩;replace HM:=HM1;clear HM1)|((with_reducible refine (pick_c hb hl 11 ?_ HM).mono ?_);omega;rintro e W1 ⟨v,hp1,rfl,HM1⟩;obtain ⟨p1,rfl⟩ : ∃ k : Nat,v = k:=⟨v.toNat,(by omega)⟩;have hp1b : p1 < 11:=(by omega);refine ⟨_,rfl,?_⟩;replace HM:=HM1;clear HM1))|refine Y ?_)
      refine x_pv HQ HS 9 rfl (by kernel_rfl) (by kernel_rfl) (l':=#[true,true,true,true,true,true,true,true,true,true,false,false,false,false,false,false]) (by kernel_rfl) rfl ?_
      refine Y ?_
      refine x_one 10 (by kernel_rfl) rfl (l':=#[true,true,true,true,true,true,true,true,true,true,true,false,false,false,false,false]) (by kernel_rfl) (x_go ?_)
      repeat refine Y ?_
      refine x_one 11 (by kernel_rfl) rfl (l':=#[true,true,true,true,true,true,true,true,true,true,true,true,false,false,false,false]) (by kernel_rfl) (x_go ?_)
      repeat refine Y ?_
      refine x_one 12 (by kernel_rfl) rfl (l':=#[true,true,true,true,true,true,true,true,true,true,true,true,true,false,false,false]) (by kernel_rfl) (x_go ?_)
      repeat (first|(refine qg ?_;clear HM;intro g W1 HM)|refine Y ?_)
      refine x_one 13 (by kernel_rfl) rfl (l':=#[true,true,true,true,true,true,true,true,true,true,true,true,true,true,false,false]) (by kernel_rfl) (x_go ?_)
      repeat (first|(refine qa ?_;clear HM;intro A1 c1 W1 HM)|refine Y ?_)
      refine x_pv HQ HS 14 rfl (by kernel_rfl) (by kernel_rfl) (l':=#[true,true,true,true,true,true,true,true,true,true,true,true,true,true,true,false]) (by kernel_rfl) rfl ?_
      refine Y ?_
      refine x_last 15 (by kernel_rfl) rfl (l':=#[true,true,true,true,true,true,true,true,true,true,true,true,true,true,true,true]) (by kernel_rfl) (by kernel_rfl) rfl ?_
      repeat (first|refine Y ?_|(refine qs ?_;clear HM;intro W1 HM))
      exact ret_cell HM rfl rfl rfl ⟨{ x with held:=x.held ++ [⟨_,_,1,0,0,0,⟨#[]⟩,[]⟩] },⟨j.a0,j.a1,(A1,c1),j.a3,j.a4,j.a5,j.a6⟩,⟨by dsimp only;first|omega|(simp only [List.length_append,List.length_cons,List.length_nil];omega),by dsimp only;first|omega|(simp only [List.length_append,List.length_cons,List.length_nil];omega),by dsimp only;first|omega|(simp only [List.length_append,List.length_cons,List.length_nil];omega),(fun y hy=>by rcases List.mem_append.1 hy with hy|hy;exact hheld y hy;rw [List.mem_singleton] at hy;rw [hy];simp),by dsimp only;first|omega|(simp only [List.length_append,List.length_cons,List.length_nil];omega),by dsimp only;first|omega|(simp only [List.length_append,List.length_cons,List.length_nil];omega),by dsimp only;first|omega|(simp only [List.length_append,List.length_cons,List.length_nil];omega),by dsimp only;first|omega|(simp only [List.length_append,List.length_cons,List.length_nil];omega),hacks⟩,⟨by dsimp only;first|omega|(simp only [List.length_append,List.length_cons,List.length_nil];omega),by dsimp only;first|omega|(simp only [List.length_append,List.length_cons,List.length_nil];omega),by dsimp only;first|omega|(simp only [List.length_append,List.length_cons,List.length_nil];omega),by dsimp only;first|omega|(simp only [List.length_append,List.length_cons,List.length_nil];omega),by dsimp only;first|omega|(simp only [List.length_append,List.length_cons,List.length_nil];omega),by dsimp only;first|omega|(simp only [List.length_append,List.length_cons,List.length_nil];omega),by dsimp only;first|omega|(simp only [List.length_append,List.length_cons,List.length_nil];omega)⟩,rfl,by simp only [partRcd,List.cons_append,List.nil_append];exact (HM.rdr_to (g:=gr) (q':=q + 20) (by omega)).sb⟩
  by_cases p05 : p0 = 5
  · subst p05
    have HM2:=HM.rdr_first (g:=gr)
    have HM3:=HM2.pk (A:=own tStr 9 j.a3.1 j.a3.2 x.wishes)
    clear HM HM2
    have HM:=HM3
    clear HM3
    repeat refine Y ?_
    refine gR ?_
    refine x_start (ds:=[10]) HM (fun w hw=>hw.drop.drop) (by kernel_rfl) (by kernel_rfl) qq ?_
    intro HQ HS W1 HM1;replace HM:=HM1;clear HM1
    refine x_pv HQ HS 0 rfl (by kernel_rfl) (by kernel_rfl) (l':=#[true,false,false,false,false,false,false,false,false,false,false]) (by kernel_rfl) rfl ?_
    refine Y ?_
    refine x_pv HQ HS 3 rfl (by kernel_rfl) (by kernel_rfl) (l':=#[true,false,false,true,false,false,false,false,false,false,false]) (by kernel_rfl) rfl ?_
    refine Y ?_
    refine x_ld HQ HS 1 rfl (by kernel_rfl) (by kernel_rfl) (by kernel_rfl) (by kernel_rfl) (l':=#[true,true,false,true,false,false,false,false,false,false,false]) (by kernel_rfl) rfl ?_
    refine Y ?_
    refine x_two 2 4 (by kernel_rfl) rfl rfl (l':=#[true,true,true,true,false,false,false,false,false,false,false]) (l'':=#[true,true,false,true,true,false,false,false,false,false,false]) (by kernel_rfl) (by kernel_rfl) (x_go ?_) (x_go ?_)
    · repeat (first|(refine gL ?_;refine s_litk (D:=tStr) (fun n=>.string n) (fun _=>rfl) (fun _=>rfl) (fun _=>rfl) rfl [⟨#[]⟩,⟨#[116,49]⟩,⟨#[116,50]⟩] HM rfl rfl (by simp) (by simp) ?_;clear HM;intro g W1 HM)|refine Y ?_)
      refine x_one 4 (by kernel_rfl) rfl (l':=#[true,true,true,true,true,false,false,false,false,false,false]) (by kernel_rfl) (x_go ?_)
      repeat (first|(refine qf ?_;go_at_call 20;refine (pick_c hb hl _ (by omega) HM).mono ?_;rintro e W1 ⟨v,hp1,rfl,HM1⟩;obtain ⟨p1,rfl⟩ : ∃ k : Nat,v = k:=⟨v.toNat,(by omega)⟩;have hp1b : p1 < 3:=(by omega);refine ⟨_,rfl,?_⟩;replace HM:=HM1;clear HM1)|refine Y ?_)
      refine x_pv HQ HS 5 rfl (by kernel_rfl) (by kernel_rfl) (l':=#[true,true,true,true,true,true,false,false,false,false,false]) (by kernel_rfl) rfl ?_
      refine Y ?_
      refine x_one 6 (by kernel_rfl) rfl (l':=#[true,true,true,true,true,true,true,false,false,false,false]) (by kernel_rfl) (x_go ?_)
      repeat refine Y ?_
      refine x_one 7 (by kernel_rfl) rfl (l':=#[true,true,true,true,true,true,true,true,false,false,false]) (by kernel_rfl) (x_go ?_)
      repeat (first|(refine qg ?_;clear HM;intro g W1 HM)|refine Y ?_)
      refine x_one 8 (by kernel_rfl) rfl (l':=#[true,true,true,true,true,true,true,true,true,false,false]) (by kernel_rfl) (x_go ?_)
      repeat (first|(refine qa ?_;clear HM;intro A1 c1 W1 HM)|refine Y ?_)
      refine x_pv HQ HS 9 rfl (by kernel_rfl) (by kernel_rfl) (l':=#[true,true,true,true,true,true,true,true,true,true,false]) (by kernel_rfl) rfl ?_
      refine Y ?_
      refine x_last 10 (by kernel_rfl) rfl (l':=#[true,true,true,true,true,true,true,true,true,true,true]) (by kernel_rfl) (by kernel_rfl) rfl ?_
      repeat (first|refine Y ?_|(refine qs ?_;clear HM;intro W1 HM))
      exact ret_cell HM rfl rfl rfl ⟨{ x with wishes:=x.wishes ++ [_] },⟨j.a0,j.a1,j.a2,(A1,c1),j.a4,j.a5,j.a6⟩,⟨by dsimp only;first|omega|(simp only [List.length_append,List.length_cons,List.length_nil];omega),by dsimp only;first|omega|(simp only [List.length_append,List.length_cons,List.length_nil];omega),by dsimp only;first|omega|(simp only [List.length_append,List.length_cons,List.length_nil];omega),hheld,by dsimp only;first|omega|(simp only [List.length_append,List.length_cons,List.length_nil];omega),by dsimp only;first|omega|(simp only [List.length_append,List.length_cons,List.length_nil];omega),by dsimp only;first|omega|(simp only [List.length_append,List.length_cons,List.length_nil];omega),by dsimp only;first|omega|(simp only [List.length_append,List.length_cons,List.length_nil];omega),hacks⟩,⟨by dsimp only;first|omega|(simp only [List.length_append,List.length_cons,List.length_nil];omega),by dsimp only;first|omega|(simp only [List.length_append,List.length_cons,List.length_nil];omega),by dsimp only;first|omega|(simp only [List.length_append,List.length_cons,List.length_nil];omega),by dsimp only;first|omega|(simp only [List.length_append,List.length_cons,List.length_nil];omega),by dsimp only;first|omega|(simp only [List.length_append,List.length_cons,List.length_nil];omega),by dsimp only;first|omega|(simp only [List.length_append,List.length_cons,List.length_nil];omega),by dsimp only;first|omega|(simp only [List.length_append,List.length_cons,List.length_nil];omega)⟩,rfl,by simp only [partRcd,List.cons_append,List.nil_append];exact (HM.rdr_to (g:=gr) (q':=q + 20) (by omega)).sb⟩
    · repeat (first|(refine qf ?_;go_at_call 20;refine (pick_c hb hl _ (by omega) HM).mono ?_;rintro e W1 ⟨v,hp1,rfl,HM1⟩;obtain ⟨p1,rfl⟩ : ∃ k : Nat,v = k:=⟨v.toNat,(by omega)⟩;have hp1b : p1 < 3:=(by omega);refine ⟨_,rfl,?_⟩;replace HM:=HM1;clear HM1)|refine Y ?_)
      refine x_one 2 (by kernel_rfl) rfl (l':=#[true,true,true,true,true,false,false,false,false,false,false]) (by kernel_rfl) (x_go ?_)
      repeat (first|(refine gL ?_;refine s_litk (D:=tStr) (fun n=>.string n) (fun _=>rfl) (fun _=>rfl) (fun _=>rfl) rfl [⟨#[]⟩,⟨#[116,49]⟩,⟨#[116,50]⟩] HM rfl rfl (by simp) (by simp) ?_;clear HM;intro g W1 HM)|refine Y ?_)
      refine x_pv HQ HS 5 rfl (by kernel_rfl) (by kernel_rfl) (l':=#[true,true,true,true,true,true,false,false,false,false,false]) (by kernel_rfl) rfl ?_
      refine Y ?_
      refine x_one 6 (by kernel_rfl) rfl (l':=#[true,true,true,true,true,true,true,false,false,false,false]) (by kernel_rfl) (x_go ?_)
      repeat refine Y ?_
      refine x_one 7 (by kernel_rfl) rfl (l':=#[true,true,true,true,true,true,true,true,false,false,false]) (by kernel_rfl) (x_go ?_)
      repeat (first|(refine qg ?_;clear HM;intro g W1 HM)|refine Y ?_)
      refine x_one 8 (by kernel_rfl) rfl (l':=#[true,true,true,true,true,true,true,true,true,false,false]) (by kernel_rfl) (x_go ?_)
      repeat (first|(refine qa ?_;clear HM;intro A1 c1 W1 HM)|refine Y ?_)
      refine x_pv HQ HS 9 rfl (by kernel_rfl) (by kernel_rfl) (l':=#[true,true,true,true,true,true,true,true,true,true,false]) (by kernel_rfl) rfl ?_
      refine Y ?_
      refine x_last 10 (by kernel_rfl) rfl (l':=#[true,true,true,true,true,true,true,true,true,true,true]) (by kernel_rfl) (by kernel_rfl) rfl ?_
      repeat (first|refine Y ?_|(refine qs ?_;clear HM;intro W1 HM))
      exact ret_cell HM rfl rfl rfl ⟨{ x with wishes:=x.wishes ++ [_] },⟨j.a0,j.a1,j.a2,(A1,c1),j.a4,j.a5,j.a6⟩,⟨by dsimp only;first|omega|(simp only [List.length_append,List.length_cons,List.length_nil];omega),by dsimp only;first|omega|(simp only [List.length_append,List.length_cons,List.length_nil];omega),by dsimp only;first|omega|(simp only [List.length_append,List.length_cons,List.length_nil];omega),hheld,by dsimp only;first|omega|(simp only [List.length_append,List.length_cons,List.length_nil];omega),by dsimp only;first|omega|(simp only [List.length_append,List.length_cons,List.length_nil];omega),by dsimp only;first|omega|(simp only [List.length_append,List.length_cons,List.length_nil];omega),by dsimp only;first|omega|(simp only [List.length_append,List.length_cons,List.length_nil];omega),hacks⟩,⟨by dsimp only;first|omega|(simp only [List.length_append,List.length_cons,List.length_nil];omega),by dsimp only;first|omega|(simp only [List.length_append,List.length_cons,List.length_nil];omega),by dsimp only;first|omega|(simp only [List.length_append,List.length_cons,List.length_nil];omega),by dsimp only;first|omega|(simp only [List.length_append,List.length_cons,List.length_nil];omega),by dsimp only;first|omega|(simp only [List.length_append,List.length_cons,List.length_nil];omega),by dsimp only;first|omega|(simp only [List.length_append,List.length_cons,List.length_nil];omega),by dsimp only;first|omega|(simp only [List.length_append,List.length_cons,List.length_nil];omega)⟩,rfl,by simp only [partRcd,List.cons_append,List.nil_append];exact (HM.rdr_to (g:=gr) (q':=q + 20) (by omega)).sb⟩
  by_cases p06 : p0 = 6
  · subst p06
    repeat (first|refine Y ?_|(refine qs ?_;clear HM;intro W1 HM))
    exact ret_cell HM rfl rfl rfl ⟨{ x with lead:=!x.lead },j,⟨by dsimp only;first|omega|(simp only [List.length_append,List.length_cons,List.length_nil];omega),by dsimp only;first|omega|(simp only [List.length_append,List.length_cons,List.length_nil];omega),by dsimp only;first|omega|(simp only [List.length_append,List.length_cons,List.length_nil];omega),hheld,by dsimp only;first|omega|(simp only [List.length_append,List.length_cons,List.length_nil];omega),by dsimp only;first|omega|(simp only [List.length_append,List.length_cons,List.length_nil];omega),by dsimp only;first|omega|(simp only [List.length_append,List.length_cons,List.length_nil];omega),by dsimp only;first|omega|(simp only [List.length_append,List.length_cons,List.length_nil];omega),hacks⟩,⟨by dsimp only;first|omega|(simp only [List.length_append,List.length_cons,List.length_nil];omega),by dsimp only;first|omega|(simp only [List.length_append,List.length_cons,List.length_nil];omega),by dsimp only;first|omega|(simp only [List.length_append,List.length_cons,List.length_nil];omega),by dsimp only;first|omega|(simp only [List.length_append,List.length_cons,List.length_nil];omega),by dsimp only;first|omega|(simp only [List.length_append,List.length_cons,List.length_nil];omega),by dsimp only;first|omega|(simp only [List.length_append,List.length_cons,List.length_nil];omega),by dsimp only;first|omega|(simp only [List.length_append,List.length_cons,List.length_nil];omega)⟩,rfl,by simp only [partRcd,List.cons_append,List.nil_append];exact (HM.rdr_to (g:=gr) (q':=q + 20) (by omega)).sb⟩
  by_cases p07 : p0 = 7
  · subst p07
    repeat (first|refine Y ?_|(refine qs ?_;clear HM;intro W1 HM))
    exact ret_cell HM rfl rfl rfl ⟨{ x with trying:=!x.trying },j,⟨by dsimp only;first|omega|(simp only [List.length_append,List.length_cons,List.length_nil];omega),by dsimp only;first|omega|(simp only [List.length_append,List.length_cons,List.length_nil];omega),by dsimp only;first|omega|(simp only [List.length_append,List.length_cons,List.length_nil];omega),hheld,by dsimp only;first|omega|(simp only [List.length_append,List.length_cons,List.length_nil];omega),by dsimp only;first|omega|(simp only [List.length_append,List.length_cons,List.length_nil];omega),by dsimp only;first|omega|(simp only [List.length_append,List.length_cons,List.length_nil];omega),by dsimp only;first|omega|(simp only [List.length_append,List.length_cons,List.length_nil];omega),hacks⟩,⟨by dsimp only;first|omega|(simp only [List.length_append,List.length_cons,List.length_nil];omega),by dsimp only;first|omega|(simp only [List.length_append,List.length_cons,List.length_nil];omega),by dsimp only;first|omega|(simp only [List.length_append,List.length_cons,List.length_nil];omega),by dsimp only;first|omega|(simp only [List.length_append,List.length_cons,List.length_nil];omega),by dsimp only;first|omega|(simp only [List.length_append,List.length_cons,List.length_nil];omega),by dsimp only;first|omega|(simp only [List.length_append,List.length_cons,List.length_nil];omega),by dsimp only;first|omega|(simp only [List.length_append,List.length_cons,List.length_nil];omega)⟩,rfl,by simp only [partRcd,List.cons_append,List.nil_append];exact (HM.rdr_to (g:=gr) (q':=q + 20) (by omega)).sb⟩
  by_cases p08 : p0 = 8
  · subst p08
    replace HM:=HM.rdr_first (g:=gr)
    repeat refine Y ?_
    refine gR ?_
    refine x_start (ds:=[13]) HM (fun w hw=>hw.drop) (by kernel_rfl) (by kernel_rfl) qq ?_
    intro HQ HS W1 HM1;replace HM:=HM1;clear HM1
    refine x_pv HQ HS 0 rfl (by kernel_rfl) (by kernel_rfl) (l':=#[true,false,false,false,false,false,false,false,false,false,false,false,false,false]) (by kernel_rfl) rfl ?_
    refine Y ?_
    refine x_pv HQ HS 1 rfl (by kernel_rfl) (by kernel_rfl) (l':=#[true,true,false,false,false,false,false,false,false,false,false,false,false,false]) (by kernel_rfl) rfl ?_
    refine Y ?_
    refine x_pv HQ HS 3 rfl (by kernel_rfl) (by kernel_rfl) (l':=#[true,true,false,true,false,false,false,false,false,false,false,false,false,false]) (by kernel_rfl) rfl ?_
    refine Y ?_
    refine x_pv HQ HS 4 rfl (by kernel_rfl) (by kernel_rfl) (l':=#[true,true,false,true,true,false,false,false,false,false,false,false,false,false]) (by kernel_rfl) rfl ?_
    refine Y ?_
    refine x_pv HQ HS 8 rfl (by kernel_rfl) (by kernel_rfl) (l':=#[true,true,false,true,true,false,false,false,true,false,false,false,false,false]) (by kernel_rfl) rfl ?_
    refine Y ?_
    refine x_ld HQ HS 2 rfl (by kernel_rfl) (by kernel_rfl) (by kernel_rfl) (by kernel_rfl) (l':=#[true,true,true,true,true,false,false,false,true,false,false,false,false,false]) (by kernel_rfl) rfl ?_
    refine Y ?_
    refine x_ld HQ HS 5 rfl (by kernel_rfl) (by kernel_rfl) (by kernel_rfl) (by kernel_rfl) (l':=#[true,true,true,true,true,true,false,false,true,false,false,false,false,false]) (by kernel_rfl) rfl ?_
    refine Y ?_
    refine x_pv HQ HS 6 rfl (by kernel_rfl) (by kernel_rfl) (l':=#[true,true,true,true,true,true,true,false,true,false,false,false,false,false]) (by kernel_rfl) rfl ?_
    refine Y ?_
    refine x_two 7 9 (by kernel_rfl) rfl rfl (l':=#[true,true,true,true,true,true,true,true,true,false,false,false,false,false]) (l'':=#[true,true,true,true,true,true,true,false,true,true,false,false,false,false]) (by kernel_rfl) (by kernel_rfl) (x_go ?_) (x_go ?_)
    · repeat (first|(refine gL ?_;refine s_litk (D:=tInt) (fun n=>.int .i64 n) (fun _=>rfl) (fun _=>rfl) (fun _=>rfl) rfl [0,x.dp,x.dp + 1] HM rfl rfl (by simp) (by simp) ?_;clear HM;intro g W1 HM)|refine Y ?_)
      refine x_one 9 (by kernel_rfl) rfl (l':=#[true,true,true,true,true,true,true,true,true,true,false,false,false,false]) (by kernel_rfl) (x_go ?_)
      repeat (first|(refine qf ?_;go_at_call 20;refine (pick_c hb hl _ (by omega) HM).mono ?_;rintro e W1 ⟨v,hp1,rfl,HM1⟩;obtain ⟨p1,rfl⟩ : ∃ k : Nat,v = k:=⟨v.toNat,(by omega)⟩;have hp1b : p1 < 3:=(by omega);refine ⟨_,rfl,?_⟩;replace HM:=HM1;clear HM1)|refine Y ?_)
      refine x_pv HQ HS 10 rfl (by kernel_rfl) (by kernel_rfl) (l':=#[true,true,true,true,true,true,true,true,true,true,true,false,false,false]) (by kernel_rfl) rfl ?_
      refine Y ?_
      refine x_one 11 (by kernel_rfl) rfl (l':=#[true,true,true,true,true,true,true,true,true,true,true,true,false,false]) (by kernel_rfl) (x_go ?_)
      repeat refine Y ?_
      refine x_pv HQ HS 12 rfl (by kernel_rfl) (by kernel_rfl) (l':=#[true,true,true,true,true,true,true,true,true,true,true,true,true,false]) (by kernel_rfl) rfl ?_
      refine Y ?_
      refine x_last 13 (by kernel_rfl) rfl (l':=#[true,true,true,true,true,true,true,true,true,true,true,true,true,true]) (by kernel_rfl) (by kernel_rfl) rfl ?_
      repeat (first|refine Y ?_|(refine qs ?_;clear HM;intro W1 HM))
      have hr:=rd_bd (ms:=[0,x.dp,x.dp + 1]) (lo:=-10) (hi:=2000002) (by intro m hm;simp only [List.mem_cons,List.not_mem_nil,or_false] at hm;omega) (by omega) (p1 : Int)
      exact ret_cell HM rfl rfl rfl ⟨{ x with ballot:=rd tInt [0,x.dp,x.dp + 1] (p1 : Int) },j,⟨by dsimp only;first|omega|(simp only [List.length_append,List.length_cons,List.length_nil];omega),by dsimp only;first|omega|(simp only [List.length_append,List.length_cons,List.length_nil];omega),by dsimp only;first|omega|(simp only [List.length_append,List.length_cons,List.length_nil];omega),hheld,by dsimp only;first|omega|(simp only [List.length_append,List.length_cons,List.length_nil];omega),by dsimp only;first|omega|(simp only [List.length_append,List.length_cons,List.length_nil];omega),by dsimp only;first|omega|(simp only [List.length_append,List.length_cons,List.length_nil];omega),by dsimp only;first|omega|(simp only [List.length_append,List.length_cons,List.length_nil];omega),hacks⟩,⟨by dsimp only;first|omega|(simp only [List.length_append,List.length_cons,List.length_nil];omega),by dsimp only;first|omega|(simp only [List.length_append,List.length_cons,List.length_nil];omega),by dsimp only;first|omega|(simp only [List.length_append,List.length_cons,List.length_nil];omega),by dsimp only;first|omega|(simp only [List.length_append,List.length_cons,List.length_nil];omega),by dsimp only;first|omega|(simp only [List.length_append,List.length_cons,List.length_nil];omega),by dsimp only;first|omega|(simp only [List.length_append,List.length_cons,List.length_nil];omega),by dsimp only;first|omega|(simp only [List.length_append,List.length_cons,List.length_nil];omega)⟩,rfl,by simp only [partRcd,List.cons_append,List.nil_append];exact (HM.rdr_to (g:=gr) (q':=q + 20) (by omega)).sb⟩
    · repeat (first|(refine qf ?_;go_at_call 20;refine (pick_c hb hl _ (by omega) HM).mono ?_;rintro e W1 ⟨v,hp1,rfl,HM1⟩;obtain ⟨p1,rfl⟩ : ∃ k : Nat,v = k:=⟨v.toNat,(by omega)⟩;have hp1b : p1 < 3:=(by omega);refine ⟨_,rfl,?_⟩;replace HM:=HM1;clear HM1)|refine Y ?_)
      refine x_one 7 (by kernel_rfl) rfl (l':=#[true,true,true,true,true,true,true,true,true,true,false,false,false,false]) (by kernel_rfl) (x_go ?_)
      repeat (first|(refine gL ?_;refine s_litk (D:=tInt) (fun n=>.int .i64 n) (fun _=>rfl) (fun _=>rfl) (fun _=>rfl) rfl [0,x.dp,x.dp + 1] HM rfl rfl (by simp) (by simp) ?_;clear HM;intro g W1 HM)|refine Y ?_)
      refine x_pv HQ HS 10 rfl (by kernel_rfl) (by kernel_rfl) (l':=#[true,true,true,true,true,true,true,true,true,true,true,false,false,false]) (by kernel_rfl) rfl ?_
      refine Y ?_
      refine x_one 11 (by kernel_rfl) rfl (l':=#[true,true,true,true,true,true,true,true,true,true,true,true,false,false]) (by kernel_rfl) (x_go ?_)
      repeat refine Y ?_
      refine x_pv HQ HS 12 rfl (by kernel_rfl) (by kernel_rfl) (l':=#[true,true,true,true,true,true,true,true,true,true,true,true,true,false]) (by kernel_rfl) rfl ?_
      refine Y ?_
      refine x_last 13 (by kernel_rfl) rfl (l':=#[true,true,true,true,true,true,true,true,true,true,true,true,true,true]) (by kernel_rfl) (by kernel_rfl) rfl ?_
      repeat (first|refine Y ?_|(refine qs ?_;clear HM;intro W1 HM))
      have hr:=rd_bd (ms:=[0,x.dp,x.dp + 1]) (lo:=-10) (hi:=2000002) (by intro m hm;simp only [List.mem_cons,List.not_mem_nil,or_false] at hm;omega) (by omega) (p1 : Int)
      exact ret_cell HM rfl rfl rfl ⟨{ x with ballot:=rd tInt [0,x.dp,x.dp + 1] (p1 : Int) },j,⟨by dsimp only;first|omega|(simp only [List.length_append,List.length_cons,List.length_nil];omega),by dsimp only;first|omega|(simp only [List.length_append,List.length_cons,List.length_nil];omega),by dsimp only;first|omega|(simp only [List.length_append,List.length_cons,List.length_nil];omega),hheld,by dsimp only;first|omega|(simp only [List.length_append,List.length_cons,List.length_nil];omega),by dsimp only;first|omega|(simp only [List.length_append,List.length_cons,List.length_nil];omega),by dsimp only;first|omega|(simp only [List.length_append,List.length_cons,List.length_nil];omega),by dsimp only;first|omega|(simp only [List.length_append,List.length_cons,List.length_nil];omega),hacks⟩,⟨by dsimp only;first|omega|(simp only [List.length_append,List.length_cons,List.length_nil];omega),by dsimp only;first|omega|(simp only [List.length_append,List.length_cons,List.length_nil];omega),by dsimp only;first|omega|(simp only [List.length_append,List.length_cons,List.length_nil];omega),by dsimp only;first|omega|(simp only [List.length_append,List.length_cons,List.length_nil];omega),by dsimp only;first|omega|(simp only [List.length_append,List.length_cons,List.length_nil];omega),by dsimp only;first|omega|(simp only [List.length_append,List.length_cons,List.length_nil];omega),by dsimp only;first|omega|(simp only [List.length_append,List.length_cons,List.length_nil];omega)⟩,rfl,by simp only [partRcd,List.cons_append,List.nil_append];exact (HM.rdr_to (g:=gr) (q':=q + 20) (by omega)).sb⟩
  by_cases p09 : p0 = 9
  · subst p09
    have HM2:=HM.rdr_first (g:=gr)
    have HM3:=HM2.pk (A:=own tInt 3 j.a4.1 j.a4.2 x.yes)
    clear HM HM2
    have HM:=HM3
    clear HM3
    repeat refine Y ?_
    refine gR ?_
    refine x_start (ds:=[7]) HM (fun w hw=>hw.drop.drop) (by kernel_rfl) (by kernel_rfl) qq ?_
    intro HQ HS W1 HM1;replace HM:=HM1;clear HM1
    refine x_pv HQ HS 0 rfl (by kernel_rfl) (by kernel_rfl) (l':=#[true,false,false,false,false,false,false,false]) (by kernel_rfl) rfl ?_
    refine Y ?_
    refine x_pv HQ HS 2 rfl (by kernel_rfl) (by kernel_rfl) (l':=#[true,false,true,false,false,false,false,false]) (by kernel_rfl) rfl ?_
    refine Y ?_
    refine x_ld HQ HS 1 rfl (by kernel_rfl) (by kernel_rfl) (by kernel_rfl) (by kernel_rfl) (l':=#[true,true,true,false,false,false,false,false]) (by kernel_rfl) rfl ?_
    refine Y ?_
    refine x_one 3 (by kernel_rfl) rfl (l':=#[true,true,true,true,false,false,false,false]) (by kernel_rfl) (x_go ?_)
    repeat (first|(refine qf ?_;go_at_call 20;refine (pick_c hb hl _ (by omega) HM).mono ?_;rintro e W1 ⟨v,hp1,rfl,HM1⟩;obtain ⟨p1,rfl⟩ : ∃ k : Nat,v = k:=⟨v.toNat,(by omega)⟩;have hp1b : p1 < 7:=(by omega);refine ⟨_,rfl,?_⟩;replace HM:=HM1;clear HM1)|refine Y ?_)
    refine x_one 4 (by kernel_rfl) rfl (l':=#[true,true,true,true,true,false,false,false]) (by kernel_rfl) (x_go ?_)
    repeat (first|(refine qg ?_;clear HM;intro g W1 HM)|refine Y ?_)
    refine x_one 5 (by kernel_rfl) rfl (l':=#[true,true,true,true,true,true,false,false]) (by kernel_rfl) (x_go ?_)
    repeat (first|(refine qa ?_;clear HM;intro A1 c1 W1 HM)|refine Y ?_)
    refine x_pv HQ HS 6 rfl (by kernel_rfl) (by kernel_rfl) (l':=#[true,true,true,true,true,true,true,false]) (by kernel_rfl) rfl ?_
    refine Y ?_
    refine x_last 7 (by kernel_rfl) rfl (l':=#[true,true,true,true,true,true,true,true]) (by kernel_rfl) (by kernel_rfl) rfl ?_
    repeat (first|refine Y ?_|(refine qs ?_;clear HM;intro W1 HM))
    exact ret_cell HM rfl rfl rfl ⟨{ x with yes:=x.yes ++ [_] },⟨j.a0,j.a1,j.a2,j.a3,(A1,c1),j.a5,j.a6⟩,⟨by dsimp only;first|omega|(simp only [List.length_append,List.length_cons,List.length_nil];omega),by dsimp only;first|omega|(simp only [List.length_append,List.length_cons,List.length_nil];omega),by dsimp only;first|omega|(simp only [List.length_append,List.length_cons,List.length_nil];omega),hheld,by dsimp only;first|omega|(simp only [List.length_append,List.length_cons,List.length_nil];omega),by dsimp only;first|omega|(simp only [List.length_append,List.length_cons,List.length_nil];omega),by dsimp only;first|omega|(simp only [List.length_append,List.length_cons,List.length_nil];omega),by dsimp only;first|omega|(simp only [List.length_append,List.length_cons,List.length_nil];omega),hacks⟩,⟨by dsimp only;first|omega|(simp only [List.length_append,List.length_cons,List.length_nil];omega),by dsimp only;first|omega|(simp only [List.length_append,List.length_cons,List.length_nil];omega),by dsimp only;first|omega|(simp only [List.length_append,List.length_cons,List.length_nil];omega),by dsimp only;first|omega|(simp only [List.length_append,List.length_cons,List.length_nil];omega),by dsimp only;first|omega|(simp only [List.length_append,List.length_cons,List.length_nil];omega),by dsimp only;first|omega|(simp only [List.length_append,List.length_cons,List.length_nil];omega),by dsimp only;first|omega|(simp only [List.length_append,List.length_cons,List.length_nil];omega)⟩,rfl,by simp only [partRcd,List.cons_append,List.nil_append];exact (HM.rdr_to (g:=gr) (q':=q + 20) (by omega)).sb⟩
  by_cases p010 : p0 = 10
  · subst p010
    have HM2:=HM.rdr_first (g:=gr)
    have HM3:=HM2.pk (A:=own (tAck 3) 66 j.a6.1 j.a6.2 x.acks)
    clear HM HM2
    have HM:=HM3
    clear HM3
    repeat refine Y ?_
    refine gR ?_
    refine x_start (ds:=[14]) HM (fun w hw=>hw.drop.drop) (by kernel_rfl) (by kernel_rfl) qq ?_
    intro HQ HS W1 HM1;replace HM:=HM1;clear HM1
    refine x_pv HQ HS 0 rfl (by kernel_rfl) (by kernel_rfl) (l':=#[true,false,false,false,false,false,false,false,false,false,false,false,false,false,false]) (by kernel_rfl) rfl ?_
    refine Y ?_
    refine x_pv HQ HS 3 rfl (by kernel_rfl) (by kernel_rfl) (l':=#[true,false,false,true,false,false,false,false,false,false,false,false,false,false,false]) (by kernel_rfl) rfl ?_
    refine Y ?_
    refine x_pv HQ HS 7 rfl (by kernel_rfl) (by kernel_rfl) (l':=#[true,false,false,true,false,false,false,true,false,false,false,false,false,false,false]) (by kernel_rfl) rfl ?_
    refine Y ?_
    refine x_ld HQ HS 1 rfl (by kernel_rfl) (by kernel_rfl) (by kernel_rfl) (by kernel_rfl) (l':=#[true,true,false,true,false,false,false,true,false,false,false,false,false,false,false]) (by kernel_rfl) rfl ?_
    refine Y ?_
    refine x_two 2 4 (by kernel_rfl) rfl rfl (l':=#[true,true,true,true,false,false,false,true,false,false,false,false,false,false,false]) (l'':=#[true,true,false,true,true,false,false,true,false,false,false,false,false,false,false]) (by kernel_rfl) (by kernel_rfl) (x_go ?_) (x_go ?_)
    · repeat (first|(refine gL ?_;refine s_litk (D:=tInt) (fun n=>.int .i64 n) (fun _=>rfl) (fun _=>rfl) (fun _=>rfl) rfl [0,1,60,61] HM rfl rfl (by simp) (by simp) ?_;clear HM;intro g W1 HM)|refine Y ?_)
      refine x_one 4 (by kernel_rfl) rfl (l':=#[true,true,true,true,true,false,false,true,false,false,false,false,false,false,false]) (by kernel_rfl) (x_go ?_)
      repeat (first|(refine qf ?_;go_at_call 20;first|((with_reducible refine (pick_c hb hl 6 ?_ HM).mono ?_);omega;rintro e W1 ⟨v,hp2,rfl,HM1⟩;obtain ⟨p2,rfl⟩ : ∃ k : Nat,v = k:=⟨v.toNat,(by omega)⟩;have hp2b : p2 < 6:=(by omega);refine ⟨_,rfl,?_⟩;replace HM:=HM1;clear HM1)|((with_reducible refine (pick_c hb hl 4 ?_ HM).mono ?_);omega;rintro e W1 ⟨v,hp1,rfl,HM1⟩;obtain ⟨p1,rfl⟩ : ∃ k : Nat,v = k:=⟨v.toNat,(by omega)⟩;have hp1b : p1 < 4:=(by omega);refine ⟨_,rfl,?_⟩;replace HM:=HM1;clear HM1))|refine Y ?_)
      refine x_pv HQ HS 5 rfl (by kernel_rfl) (by kernel_rfl) (l':=#[true,true,true,true,true,true,false,true,false,false,false,false,false,false,false]) (by kernel_rfl) rfl ?_
      refine Y ?_
      refine x_two 6 8 (by kernel_rfl) rfl rfl (l':=#[true,true,true,true,true,true,true,true,false,false,false,false,false,false,false]) (l'':=#[true,true,true,true,true,true,false,true,true,false,false,false,false,false,false]) (by kernel_rfl) (by kernel_rfl) (x_go ?_) (x_go ?_)
      · repeat refine Y ?_
        refine x_one 8 (by kernel_rfl) rfl (l':=#[true,true,true,true,true,true,true,true,true,false,false,false,false,false,false]) (by kernel_rfl) (x_go ?_)
        repeat (first|(refine qf ?_;go_at_call 20;first|((with_reducible refine (pick_c hb hl 6 ?_ HM).mono ?_);omega;rintro e W1 ⟨v,hp2,rfl,HM1⟩;obtain ⟨p2,rfl⟩ : ∃ k : Nat,v = k:=⟨v.toNat,(by omega)⟩;have hp2b : p2 < 6:=(by omega);refine ⟨_,rfl,?_⟩;replace HM:=HM1;clear HM1)|((with_reducible refine (pick_c hb hl 4 ?_ HM).mono ?_);omega;rintro e W1 ⟨v,hp1,rfl,HM1⟩;obtain ⟨p1,rfl⟩ : ∃ k : Nat,v = k:=⟨v.toNat,(by omega)⟩;have hp1b : p1 < 4:=(by omega);refine ⟨_,rfl,?_⟩;replace HM:=HM1;clear HM1))|refine Y ?_)
        refine x_one 9 (by kernel_rfl) rfl (l':=#[true,true,true,true,true,true,true,true,true,true,false,false,false,false,false]) (by kernel_rfl) (x_go ?_)
        repeat (first|(refine gL ?_;refine s_litk (D:=tInt) (fun n=>.int .i64 n) (fun _=>rfl) (fun _=>rfl) (fun _=>rfl) rfl [(p2 : Int)] HM rfl rfl (by simp) (by simp) ?_;clear HM;intro g W1 HM)|refine Y ?_)
        refine x_one 10 (by kernel_rfl) rfl (l':=#[true,true,true,true,true,true,true,true,true,true,true,false,false,false,false]) (by kernel_rfl) (x_go ?_)
        repeat refine Y ?_
        refine x_one 11 (by kernel_rfl) rfl (l':=#[true,true,true,true,true,true,true,true,true,true,true,true,false,false,false]) (by kernel_rfl) (x_go ?_)
        repeat (first|(refine qg ?_;clear HM;intro g W1 HM)|refine Y ?_)
        refine x_one 12 (by kernel_rfl) rfl (l':=#[true,true,true,true,true,true,true,true,true,true,true,true,true,false,false]) (by kernel_rfl) (x_go ?_)
        repeat (first|(refine qa ?_;clear HM;intro A1 c1 W1 HM)|refine Y ?_)
        refine x_pv HQ HS 13 rfl (by kernel_rfl) (by kernel_rfl) (l':=#[true,true,true,true,true,true,true,true,true,true,true,true,true,true,false]) (by kernel_rfl) rfl ?_
        refine Y ?_
        refine x_last 14 (by kernel_rfl) rfl (l':=#[true,true,true,true,true,true,true,true,true,true,true,true,true,true,true]) (by kernel_rfl) (by kernel_rfl) rfl ?_
        repeat (first|refine Y ?_|(refine qs ?_;clear HM;intro W1 HM))
        exact ret_cell HM rfl rfl rfl ⟨{ x with acks:=x.acks ++ [⟨_,[(p2 : Int)]⟩] },⟨j.a0,j.a1,j.a2,j.a3,j.a4,j.a5,(A1,c1)⟩,⟨by dsimp only;first|omega|(simp only [List.length_append,List.length_cons,List.length_nil];omega),by dsimp only;first|omega|(simp only [List.length_append,List.length_cons,List.length_nil];omega),by dsimp only;first|omega|(simp only [List.length_append,List.length_cons,List.length_nil];omega),hheld,by dsimp only;first|omega|(simp only [List.length_append,List.length_cons,List.length_nil];omega),by dsimp only;first|omega|(simp only [List.length_append,List.length_cons,List.length_nil];omega),by dsimp only;first|omega|(simp only [List.length_append,List.length_cons,List.length_nil];omega),by dsimp only;first|omega|(simp only [List.length_append,List.length_cons,List.length_nil];omega),(fun y hy=>by rcases List.mem_append.1 hy with hy|hy;exact hacks y hy;rw [List.mem_singleton] at hy;rw [hy];simp)⟩,⟨by dsimp only;first|omega|(simp only [List.length_append,List.length_cons,List.length_nil];omega),by dsimp only;first|omega|(simp only [List.length_append,List.length_cons,List.length_nil];omega),by dsimp only;first|omega|(simp only [List.length_append,List.length_cons,List.length_nil];omega),by dsimp only;first|omega|(simp only [List.length_append,List.length_cons,List.length_nil];omega),by dsimp only;first|omega|(simp only [List.length_append,List.length_cons,List.length_nil];omega),by dsimp only;first|omega|(simp only [List.length_append,List.length_cons,List.length_nil];omega),by dsimp only;first|omega|(simp only [List.length_append,List.length_cons,List.length_nil];omega)⟩,rfl,by simp only [partRcd,List.cons_append,List.nil_append];exact (HM.rdr_to (g:=gr) (q':=q + 20) (by omega)).sb⟩
      · repeat (first|(refine qf ?_;go_at_call 20;first|((with_reducible refine (pick_c hb hl 6 ?_ HM).mono ?_);omega;rintro e W1 ⟨v,hp2,rfl,HM1⟩;obtain ⟨p2,rfl⟩ : ∃ k : Nat,v = k:=⟨v.toNat,(by omega)⟩;have hp2b : p2 < 6:=(by omega);refine ⟨_,rfl,?_⟩;replace HM:=HM1;clear HM1)|((with_reducible refine (pick_c hb hl 4 ?_ HM).mono ?_);omega;rintro e W1 ⟨v,hp1,rfl,HM1⟩;obtain ⟨p1,rfl⟩ : ∃ k : Nat,v = k:=⟨v.toNat,(by omega)⟩;have hp1b : p1 < 4:=(by omega);refine ⟨_,rfl,?_⟩;replace HM:=HM1;clear HM1))|refine Y ?_)
        refine x_two 6 9 (by kernel_rfl) rfl rfl (l':=#[true,true,true,true,true,true,true,true,true,false,false,false,false,false,false]) (l'':=#[true,true,true,true,true,true,false,true,true,true,false,false,false,false,false]) (by kernel_rfl) (by kernel_rfl) (x_go ?_) (x_go ?_)
        · repeat refine Y ?_
          refine x_one 9 (by kernel_rfl) rfl (l':=#[true,true,true,true,true,true,true,true,true,true,false,false,false,false,false]) (by kernel_rfl) (x_go ?_)
          repeat (first|(refine gL ?_;refine s_litk (D:=tInt) (fun n=>.int .i64 n) (fun _=>rfl) (fun _=>rfl) (fun _=>rfl) rfl [(p2 : Int)] HM rfl rfl (by simp) (by simp) ?_;clear HM;intro g W1 HM)|refine Y ?_)
          refine x_one 10 (by kernel_rfl) rfl (l':=#[true,true,true,true,true,true,true,true,true,true,true,false,false,false,false]) (by kernel_rfl) (x_go ?_)
          repeat refine Y ?_
          refine x_one 11 (by kernel_rfl) rfl (l':=#[true,true,true,true,true,true,true,true,true,true,true,true,false,false,false]) (by kernel_rfl) (x_go ?_)
          repeat (first|(refine qg ?_;clear HM;intro g W1 HM)|refine Y ?_)
          refine x_one 12 (by kernel_rfl) rfl (l':=#[true,true,true,true,true,true,true,true,true,true,true,true,true,false,false]) (by kernel_rfl) (x_go ?_)
          repeat (first|(refine qa ?_;clear HM;intro A1 c1 W1 HM)|refine Y ?_)
          refine x_pv HQ HS 13 rfl (by kernel_rfl) (by kernel_rfl) (l':=#[true,true,true,true,true,true,true,true,true,true,true,true,true,true,false]) (by kernel_rfl) rfl ?_
          refine Y ?_
          refine x_last 14 (by kernel_rfl) rfl (l':=#[true,true,true,true,true,true,true,true,true,true,true,true,true,true,true]) (by kernel_rfl) (by kernel_rfl) rfl ?_
          repeat (first|refine Y ?_|(refine qs ?_;clear HM;intro W1 HM))
          exact ret_cell HM rfl rfl rfl ⟨{ x with acks:=x.acks ++ [⟨_,[(p2 : Int)]⟩] },⟨j.a0,j.a1,j.a2,j.a3,j.a4,j.a5,(A1,c1)⟩,⟨by dsimp only;first|omega|(simp only [List.length_append,List.length_cons,List.length_nil];omega),by dsimp only;first|omega|(simp only [List.length_append,List.length_cons,List.length_nil];omega),by dsimp only;first|omega|(simp only [List.length_append,List.length_cons,List.length_nil];omega),hheld,by dsimp only;first|omega|(simp only [List.length_append,List.length_cons,List.length_nil];omega),by dsimp only;first|omega|(simp only [List.length_append,List.length_cons,List.length_nil];omega),by dsimp only;first|omega|(simp only [List.length_append,List.length_cons,List.length_nil];omega),by dsimp only;first|omega|(simp only [List.length_append,List.length_cons,List.length_nil];omega),(fun y hy=>by rcases List.mem_append.1 hy with hy|hy;exact hacks y hy;rw [List.mem_singleton] at hy;rw [hy];simp)⟩,⟨by dsimp only;first|omega|(simp only [List.length_append,List.length_cons,List.length_nil];omega),by dsimp only;first|omega|(simp only [List.length_append,List.length_cons,List.length_nil];omega),by dsimp only;first|omega|(simp only [List.length_append,List.length_cons,List.length_nil];omega),by dsimp only;first|omega|(simp only [List.length_append,List.length_cons,List.length_nil];omega),by dsimp only;first|omega|(simp only [List.length_append,List.length_cons,List.length_nil];omega),by dsimp only;first|omega|(simp only [List.length_append,List.length_cons,List.length_nil];omega),by dsimp only;first|omega|(simp only [List.length_append,List.length_cons,List.length_nil];omega)⟩,rfl,by simp only [partRcd,List.cons_append,List.nil_append];exact (HM.rdr_to (g:=gr) (q':=q + 20) (by omega)).sb⟩
        · repeat (first|(refine gL ?_;refine s_litk (D:=tInt) (fun n=>.int .i64 n) (fun _=>rfl) (fun _=>rfl) (fun _=>rfl) rfl [(p2 : Int)] HM rfl rfl (by simp) (by simp) ?_;clear HM;intro g W1 HM)|refine Y ?_)
          refine x_one 6 (by kernel_rfl) rfl (l':=#[true,true,true,true,true,true,true,true,true,true,false,false,false,false,false]) (by kernel_rfl) (x_go ?_)
          repeat refine Y ?_
          refine x_one 10 (by kernel_rfl) rfl (l':=#[true,true,true,true,true,true,true,true,true,true,true,false,false,false,false]) (by kernel_rfl) (x_go ?_)
          repeat refine Y ?_
          refine x_one 11 (by kernel_rfl) rfl (l':=#[true,true,true,true,true,true,true,true,true,true,true,true,false,false,false]) (by kernel_rfl) (x_go ?_)
          repeat (first|(refine qg ?_;clear HM;intro g W1 HM)|refine Y ?_)
          refine x_one 12 (by kernel_rfl) rfl (l':=#[true,true,true,true,true,true,true,true,true,true,true,true,true,false,false]) (by kernel_rfl) (x_go ?_)
          repeat (first|(refine qa ?_;clear HM;intro A1 c1 W1 HM)|refine Y ?_)
          refine x_pv HQ HS 13 rfl (by kernel_rfl) (by kernel_rfl) (l':=#[true,true,true,true,true,true,true,true,true,true,true,true,true,true,false]) (by kernel_rfl) rfl ?_
          refine Y ?_
          refine x_last 14 (by kernel_rfl) rfl (l':=#[true,true,true,true,true,true,true,true,true,true,true,true,true,true,true]) (by kernel_rfl) (by kernel_rfl) rfl ?_
          repeat (first|refine Y ?_|(refine qs ?_;clear HM;intro W1 HM))
          exact ret_cell HM rfl rfl rfl ⟨{ x with acks:=x.acks ++ [⟨_,[(p2 : Int)]⟩] },⟨j.a0,j.a1,j.a2,j.a3,j.a4,j.a5,(A1,c1)⟩,⟨by dsimp only;first|omega|(simp only [List.length_append,List.length_cons,List.length_nil];omega),by dsimp only;first|omega|(simp only [List.length_append,List.length_cons,List.length_nil];omega),by dsimp only;first|omega|(simp only [List.length_append,List.length_cons,List.length_nil];omega),hheld,by dsimp only;first|omega|(simp only [List.length_append,List.length_cons,List.length_nil];omega),by dsimp only;first|omega|(simp only [List.length_append,List.length_cons,List.length_nil];omega),by dsimp only;first|omega|(simp only [List.length_append,List.length_cons,List.length_nil];omega),by dsimp only;first|omega|(simp only [List.length_append,List.length_cons,List.length_nil];omega),(fun y hy=>by rcases List.mem_append.1 hy with hy|hy;exact hacks y hy;rw [List.mem_singleton] at hy;rw [hy];simp)⟩,⟨by dsimp only;first|omega|(simp only [List.length_append,List.length_cons,List.length_nil];omega),by dsimp only;first|omega|(simp only [List.length_append,List.length_cons,List.length_nil];omega),by dsimp only;first|omega|(simp only [List.length_append,List.length_cons,List.length_nil];omega),by dsimp only;first|omega|(simp only [List.length_append,List.length_cons,List.length_nil];omega),by dsimp only;first|omega|(simp only [List.length_append,List.length_cons,List.length_nil];omega),by dsimp only;first|omega|(simp only [List.length_append,List.length_cons,List.length_nil];omega),by dsimp only;first|omega|(simp only [List.length_append,List.length_cons,List.length_nil];omega)⟩,rfl,by simp only [partRcd,List.cons_append,List.nil_append];exact (HM.rdr_to (g:=gr) (q':=q + 20) (by omega)).sb⟩
    · repeat (first|(refine qf ?_;go_at_call 20;first|((with_reducible refine (pick_c hb hl 6 ?_ HM).mono ?_);omega;rintro e W1 ⟨v,hp2,rfl,HM1⟩;obtain ⟨p2,rfl⟩ : ∃ k : Nat,v = k:=⟨v.toNat,(by omega)⟩;have hp2b : p2 < 6:=(by omega);refine ⟨_,rfl,?_⟩;replace HM:=HM1;clear HM1)|((with_reducible refine (pick_c hb hl 4 ?_ HM).mono ?_);omega;rintro e W1 ⟨v,hp1,rfl,HM1⟩;obtain ⟨p1,rfl⟩ : ∃ k : Nat,v = k:=⟨v.toNat,(by omega)⟩;have hp1b : p1 < 4:=(by omega);refine ⟨_,rfl,?_⟩;replace HM:=HM1;clear HM1))|refine Y ?_)
      refine x_two 2 8 (by kernel_rfl) rfl rfl (l':=#[true,true,true,true,true,false,false,true,false,false,false,false,false,false,false]) (l'':=#[true,true,false,true,true,false,false,true,true,false,false,false,false,false,false]) (by kernel_rfl) (by kernel_rfl) (x_go ?_) (x_go ?_)
      · repeat (first|(refine gL ?_;refine s_litk (D:=tInt) (fun n=>.int .i64 n) (fun _=>rfl) (fun _=>rfl) (fun _=>rfl) rfl [0,1,60,61] HM rfl rfl (by simp) (by simp) ?_;clear HM;intro g W1 HM)|refine Y ?_)
        refine x_pv HQ HS 5 rfl (by kernel_rfl) (by kernel_rfl) (l':=#[true,true,true,true,true,true,false,true,false,false,false,false,false,false,false]) (by kernel_rfl) rfl ?_
        refine Y ?_
        refine x_two 6 8 (by kernel_rfl) rfl rfl (l':=#[true,true,true,true,true,true,true,true,false,false,false,false,false,false,false]) (l'':=#[true,true,true,true,true,true,false,true,true,false,false,false,false,false,false]) (by kernel_rfl) (by kernel_rfl) (x_go ?_) (x_go ?_)
        · repeat refine Y ?_
          refine x_one 8 (by kernel_rfl) rfl (l':=#[true,true,true,true,true,true,true,true,true,false,false,false,false,false,false]) (by kernel_rfl) (x_go ?_)
          repeat (first|(refine qf ?_;go_at_call 20;first|((with_reducible refine (pick_c hb hl 6 ?_ HM).mono ?_);omega;rintro e W1 ⟨v,hp2,rfl,HM1⟩;obtain ⟨p2,rfl⟩ : ∃ k : Nat,v = k:=⟨v.toNat,(by omega)⟩;have hp2b : p2 < 6:=(by omega);refine ⟨_,rfl,?_⟩;replace HM:=HM1;clear HM1)|((with_reducible refine (pick_c hb hl 4 ?_ HM).mono ?_);omega;rintro e W1 ⟨v,hp1,rfl,HM1⟩;obtain ⟨p1,rfl⟩ : ∃ k : Nat,v = k:=⟨v.toNat,(by omega)⟩;have hp1b : p1 < 4:=(by omega);refine ⟨_,rfl,?_⟩;replace HM:=HM1;clear HM1))|refine Y ?_)
          refine x_one 9 (by kernel_rfl) rfl (l':=#[true,true,true,true,true,true,true,true,true,true,false,false,false,false,false]) (by kernel_rfl) (x_go ?_)
          repeat (first|(refine gL ?_;refine s_litk (D:=tInt) (fun n=>.int .i64 n) (fun _=>rfl) (fun _=>rfl) (fun _=>rfl) rfl [(p2 : Int)] HM rfl rfl (by simp) (by simp) ?_;clear HM;intro g W1 HM)|refine Y ?_)
          refine x_one 10 (by kernel_rfl) rfl (l':=#[true,true,true,true,true,true,true,true,true,true,true,false,false,false,false]) (by kernel_rfl) (x_go ?_)
          repeat refine Y ?_
          refine x_one 11 (by kernel_rfl) rfl (l':=#[true,true,true,true,true,true,true,true,true,true,true,true,false,false,false]) (by kernel_rfl) (x_go ?_)
          repeat (first|(refine qg ?_;clear HM;intro g W1 HM)|refine Y ?_)
          refine x_one 12 (by kernel_rfl) rfl (l':=#[true,true,true,true,true,true,true,true,true,true,true,true,true,false,false]) (by kernel_rfl) (x_go ?_)
          repeat (first|(refine qa ?_;clear HM;intro A1 c1 W1 HM)|refine Y ?_)
          refine x_pv HQ HS 13 rfl (by kernel_rfl) (by kernel_rfl) (l':=#[true,true,true,true,true,true,true,true,true,true,true,true,true,true,false]) (by kernel_rfl) rfl ?_
          refine Y ?_
          refine x_last 14 (by kernel_rfl) rfl (l':=#[true,true,true,true,true,true,true,true,true,true,true,true,true,true,true]) (by kernel_rfl) (by kernel_rfl) rfl ?_
          repeat (first|refine Y ?_|(refine qs ?_;clear HM;intro W1 HM))
          exact ret_cell HM rfl rfl rfl ⟨{ x with acks:=x.acks ++ [⟨_,[(p2 : Int)]⟩] },⟨j.a0,j.a1,j.a2,j.a3,j.a4,j.a5,(A1,c1)⟩,⟨by dsimp only;first|omega|(simp only [List.length_append,List.length_cons,List.length_nil];omega),by dsimp only;first|omega|(simp only [List.length_append,List.length_cons,List.length_nil];omega),by dsimp only;first|omega|(simp only [List.length_append,List.length_cons,List.length_nil];omega),hheld,by dsimp only;first|omega|(simp only [List.length_append,List.length_cons,List.length_nil];omega),by dsimp only;first|omega|(simp only [List.length_append,List.length_cons,List.length_nil];omega),by dsimp only;first|omega|(simp only [List.length_append,List.length_cons,List.length_nil];omega),by dsimp only;first|omega|(simp only [List.length_append,List.length_cons,List.length_nil];omega),(fun y hy=>by rcases List.mem_append.1 hy with hy|hy;exact hacks y hy;rw [List.mem_singleton] at hy;rw [hy];simp)⟩,⟨by dsimp only;first|omega|(simp only [List.length_append,List.length_cons,List.length_nil];omega),by dsimp only;first|omega|(simp only [List.length_append,List.length_cons,List.length_nil];omega),by dsimp only;first|omega|(simp only [List.length_append,List.length_cons,List.length_nil];omega),by dsimp only;first|omega|(simp only [List.length_append,List.length_cons,List.length_nil];omega),by dsimp only;first|omega|(simp only [List.length_append,List.length_cons,List.length_nil];omega),by dsimp only;first|omega|(simp only [List.length_append,List.length_cons,List.length_nil];omega),by dsimp only;first|omega|(simp only [List.length_append,List.length_cons,List.length_nil];omega)⟩,rfl,by simp only [partRcd,List.cons_append,List.nil_append];exact (HM.rdr_to (g:=gr) (q':=q + 20) (by omega)).sb⟩
        · repeat (first|(refine qf ?_;go_at_call 20;first|((with_reducible refine (pick_c hb hl 6 ?_ HM).mono ?_);omega;rintro e W1 ⟨v,hp2,rfl,HM1⟩;obtain ⟨p2,rfl⟩ : ∃ k : Nat,v = k:=⟨v.toNat,(by omega)⟩;have hp2b : p2 < 6:=(by omega);refine ⟨_,rfl,?_⟩;replace HM:=HM1;clear HM1)|((with_reducible refine (pick_c hb hl 4 ?_ HM).mono ?_);omega;rintro e W1 ⟨v,hp1,rfl,HM1⟩;obtain ⟨p1,rfl⟩ : ∃ k : Nat,v = k:=⟨v.toNat,(by omega)⟩;have hp1b : p1 < 4:=(by omega);refine ⟨_,rfl,?_⟩;replace HM:=HM1;clear HM1))|refine Y ?_)
          refine x_two 6 9 (by kernel_rfl) rfl rfl (l':=#[true,true,true,true,true,true,true,true,true,false,false,false,false,false,false]) (l'':=#[true,true,true,true,true,true,false,true,true,true,false,false,false,false,false]) (by kernel_rfl) (by kernel_rfl) (x_go ?_) (x_go ?_)
          · repeat refine Y ?_
            refine x_one 9 (by kernel_rfl) rfl (l':=#[true,true,true,true,true,true,true,true,true,true,false,false,false,false,false]) (by kernel_rfl) (x_go ?_)
            repeat (first|(refine gL ?_;refine s_litk (D:=tInt) (fun n=>.int .i64 n) (fun _=>rfl) (fun _=>rfl) (fun _=>rfl) rfl [(p2 : Int)] HM rfl rfl (by simp) (by simp) ?_;clear HM;intro g W1 HM)|refine Y ?_)
            refine x_one 10 (by kernel_rfl) rfl (l':=#[true,true,true,true,true,true,true,true,true,true,true,false,false,false,false]) (by kernel_rfl) (x_go ?_)
            repeat refine Y ?_
            refine x_one 11 (by kernel_rfl) rfl (l':=#[true,true,true,true,true,true,true,true,true,true,true,true,false,false,false]) (by kernel_rfl) (x_go ?_)
            repeat (first|(refine qg ?_;clear HM;intro g W1 HM)|refine Y ?_)
            refine x_one 12 (by kernel_rfl) rfl (l':=#[true,true,true,true,true,true,true,true,true,true,true,true,true,false,false]) (by kernel_rfl) (x_go ?_)
            repeat (first|(refine qa ?_;clear HM;intro A1 c1 W1 HM)|refine Y ?_)
            refine x_pv HQ HS 13 rfl (by kernel_rfl) (by kernel_rfl) (l':=#[true,true,true,true,true,true,true,true,true,true,true,true,true,true,false]) (by kernel_rfl) rfl ?_
            refine Y ?_
            refine x_last 14 (by kernel_rfl) rfl (l':=#[true,true,true,true,true,true,true,true,true,true,true,true,true,true,true]) (by kernel_rfl) (by kernel_rfl) rfl ?_
            repeat (first|refine Y ?_|(refine qs ?_;clear HM;intro W1 HM))
            exact ret_cell HM rfl rfl rfl ⟨{ x with acks:=x.acks ++ [⟨_,[(p2 : Int)]⟩] },⟨j.a0,j.a1,j.a2,j.a3,j.a4,j.a5,(A1,c1)⟩,⟨by dsimp only;first|omega|(simp only [List.length_append,List.length_cons,List.length_nil];omega),by dsimp only;first|omega|(simp only [List.length_append,List.length_cons,List.length_nil];omega),by dsimp only;first|omega|(simp only [List.length_append,List.length_cons,List.length_nil];omega),hheld,by dsimp only;first|omega|(simp only [List.length_append,List.length_cons,List.length_nil];omega),by dsimp only;first|omega|(simp only [List.length_append,List.length_cons,List.length_nil];omega),by dsimp only;first|omega|(simp only [List.length_append,List.length_cons,List.length_nil];omega),by dsimp only;first|omega|(simp only [List.length_append,List.length_cons,List.length_nil];omega),(fun y hy=>by rcases List.mem_append.1 hy with hy|hy;exact hacks y hy;rw [List.mem_singleton] at hy;rw [hy];simp)⟩,⟨by dsimp only;first|omega|(simp only [List.length_append,List.length_cons,List.length_nil];omega),by dsimp only;first|omega|(simp only [List.length_append,List.length_cons,List.length_nil];omega),by dsimp only;first|omega|(simp only [List.length_append,List.length_cons,List.length_nil];omega),by dsimp only;first|omega|(simp only [List.length_append,List.length_cons,List.length_nil];omega),by dsimp only;first|omega|(simp only [List.length_append,List.length_cons,List.length_nil];omega),by dsimp only;first|omega|(simp only [List.length_append,List.length_cons,List.length_nil];omega),by dsimp only;first|omega|(simp only [List.length_append,List.length_cons,List.length_nil];omega)⟩,rfl,by simp only [partRcd,List.cons_append,List.nil_append];exact (HM.rdr_to (g:=gr) (q':=q + 20) (by omega)).sb⟩
          · repeat (first|(refine gL ?_;refine s_litk (D:=tInt) (fun n=>.int .i64 n) (fun _=>rfl) (fun _=>rfl) (fun _=>rfl) rfl [(p2 : Int)] HM rfl rfl (by simp) (by simp) ?_;clear HM;intro g W1 HM)|refine Y ?_)
            refine x_one 6 (by kernel_rfl) rfl (l':=#[true,true,true,true,true,true,true,true,true,true,false,false,false,false,false]) (by kernel_rfl) (x_go ?_)
            repeat refine Y ?_
            refine x_one 10 (by kernel_rfl) rfl (l':=#[true,true,true,true,true,true,true,true,true,true,true,false,false,false,false]) (by kernel_rfl) (x_go ?_)
            repeat refine Y ?_
            refine x_one 11 (by kernel_rfl) rfl (l':=#[true,true,true,true,true,true,true,true,true,true,true,true,false,false,false]) (by kernel_rfl) (x_go ?_)
            repeat (first|(refine qg ?_;clear HM;intro g W1 HM)|refine Y ?_)
            refine x_one 12 (by kernel_rfl) rfl (l':=#[true,true,true,true,true,true,true,true,true,true,true,true,true,false,false]) (by kernel_rfl) (x_go ?_)
            repeat (first|(refine qa ?_;clear HM;intro A1 c1 W1 HM)|refine Y ?_)
            refine x_pv HQ HS 13 rfl (by kernel_rfl) (by kernel_rfl) (l':=#[true,true,true,true,true,true,true,true,true,true,true,true,true,true,false]) (by kernel_rfl) rfl ?_
            refine Y ?_
            refine x_last 14 (by kernel_rfl) rfl (l':=#[true,true,true,true,true,true,true,true,true,true,true,true,true,true,true]) (by kernel_rfl) (by kernel_rfl) rfl ?_
            repeat (first|refine Y ?_|(refine qs ?_;clear HM;intro W1 HM))
            exact ret_cell HM rfl rfl rfl ⟨{ x with acks:=x.acks ++ [⟨_,[(p2 : Int)]⟩] },⟨j.a0,j.a1,j.a2,j.a3,j.a4,j.a5,(A1,c1)⟩,⟨by dsimp only;first|omega|(simp only [List.length_append,List.length_cons,List.length_nil];omega),by dsimp only;first|omega|(simp only [List.length_append,List.length_cons,List.length_nil];omega),by dsimp only;first|omega|(simp only [List.length_append,List.length_cons,List.length_nil];omega),hheld,by dsimp only;first|omega|(simp only [List.length_append,List.length_cons,List.length_nil];omega),by dsimp only;first|omega|(simp only [List.length_append,List.length_cons,List.length_nil];omega),by dsimp only;first|omega|(simp only [List.length_append,List.length_cons,List.length_nil];omega),by dsimp only;first|omega|(simp only [List.length_append,List.length_cons,List.length_nil];omega),(fun y hy=>by rcases List.mem_append.1 hy with hy|hy;exact hacks y hy;rw [List.mem_singleton] at hy;rw [hy];simp)⟩,⟨by dsimp only;first|omega|(simp only [List.length_append,List.length_cons,List.length_nil];omega),by dsimp only;first|omega|(simp only [List.length_append,List.length_cons,List.length_nil];omega),by dsimp only;first|omega|(simp only [List.length_append,List.length_cons,List.length_nil];omega),by dsimp only;first|omega|(simp only [List.length_append,List.length_cons,List.length_nil];omega),by dsimp only;first|omega|(simp only [List.length_append,List.length_cons,List.length_nil];omega),by dsimp only;first|omega|(simp only [List.length_append,List.length_cons,List.length_nil];omega),by dsimp only;first|omega|(simp only [List.length_append,List.length_cons,List.length_nil];omega)⟩,rfl,by simp only [partRcd,List.cons_append,List.nil_append];exact (HM.rdr_to (g:=gr) (q':=q + 20) (by omega)).sb⟩
      · repeat (first|(refine qf ?_;go_at_call 20;first|((with_reducible refine (pick_c hb hl 6 ?_ HM).mono ?_);omega;rintro e W1 ⟨v,hp2,rfl,HM1⟩;obtain ⟨p2,rfl⟩ : ∃ k : Nat,v = k:=⟨v.toNat,(by omega)⟩;have hp2b : p2 < 6:=(by omega);refine ⟨_,rfl,?_⟩;replace HM:=HM1;clear HM1)|((with_reducible refine (pick_c hb hl 4 ?_ HM).mono ?_);omega;rintro e W1 ⟨v,hp1,rfl,HM1⟩;obtain ⟨p1,rfl⟩ : ∃ k : Nat,v = k:=⟨v.toNat,(by omega)⟩;have hp1b : p1 < 4:=(by omega);refine ⟨_,rfl,?_⟩;replace HM:=HM1;clear HM1))|refine Y ?_)
        refine x_two 2 9 (by kernel_rfl) rfl rfl (l':=#[true,true,true,true,true,false,false,true,true,false,false,false,false,false,false]) (l'':=#[true,true,false,true,true,false,false,true,true,true,false,false,false,false,false]) (by kernel_rfl) (by kernel_rfl) (x_go ?_) (x_go ?_)
        · repeat (first|(refine gL ?_;refine s_litk (D:=tInt) (fun n=>.int .i64 n) (fun _=>rfl) (fun _=>rfl) (fun _=>rfl) rfl [0,1,60,61] HM rfl rfl (by simp) (by simp) ?_;clear HM;intro g W1 HM)|refine Y ?_)
          refine x_pv HQ HS 5 rfl (by kernel_rfl) (by kernel_rfl) (l':=#[true,true,true,true,true,true,false,true,true,false,false,false,false,false,false]) (by kernel_rfl) rfl ?_
          refine Y ?_
          refine x_two 6 9 (by kernel_rfl) rfl rfl (l':=#[true,true,true,true,true,true,true,true,true,false,false,false,false,false,false]) (l'':=#[true,true,true,true,true,true,false,true,true,true,false,false,false,false,false]) (by kernel_rfl) (by kernel_rfl) (x_go ?_) (x_go ?_)
          · repeat refine Y ?_
            refine x_one 9 (by kernel_rfl) rfl (l':=#[true,true,true,true,true,true,true,true,true,true,false,false,false,false,false]) (by kernel_rfl) (x_go ?_)
            repeat (first|(refine gL ?_;refine s_litk (D:=tInt) (fun n=>.int .i64 n) (fun _=>rfl) (fun _=>rfl) (fun _=>rfl) rfl [(p2 : Int)] HM rfl rfl (by simp) (by simp) ?_;clear HM;intro g W1 HM)|refine Y ?_)
            refine x_one 10 (by kernel_rfl) rfl (l':=#[true,true,true,true,true,true,true,true,true,true,true,false,false,false,false]) (by kernel_rfl) (x_go ?_)
            repeat refine Y ?_
            refine x_one 11 (by kernel_rfl) rfl (l':=#[true,true,true,true,true,true,true,true,true,true,true,true,false,false,false]) (by kernel_rfl) (x_go ?_)
            repeat (first|(refine qg ?_;clear HM;intro g W1 HM)|refine Y ?_)
            refine x_one 12 (by kernel_rfl) rfl (l':=#[true,true,true,true,true,true,true,true,true,true,true,true,true,false,false]) (by kernel_rfl) (x_go ?_)
            repeat (first|(refine qa ?_;clear HM;intro A1 c1 W1 HM)|refine Y ?_)
            refine x_pv HQ HS 13 rfl (by kernel_rfl) (by kernel_rfl) (l':=#[true,true,true,true,true,true,true,true,true,true,true,true,true,true,false]) (by kernel_rfl) rfl ?_
            refine Y ?_
            refine x_last 14 (by kernel_rfl) rfl (l':=#[true,true,true,true,true,true,true,true,true,true,true,true,true,true,true]) (by kernel_rfl) (by kernel_rfl) rfl ?_
            repeat (first|refine Y ?_|(refine qs ?_;clear HM;intro W1 HM))
            exact ret_cell HM rfl rfl rfl ⟨{ x with acks:=x.acks ++ [⟨_,[(p2 : Int)]⟩] },⟨j.a0,j.a1,j.a2,j.a3,j.a4,j.a5,(A1,c1)⟩,⟨by dsimp only;first|omega|(simp only [List.length_append,List.length_cons,List.length_nil];omega),by dsimp only;first|omega|(simp only [List.length_append,List.length_cons,List.length_nil];omega),by dsimp only;first|omega|(simp only [List.length_append,List.length_cons,List.length_nil];omega),hheld,by dsimp only;first|omega|(simp only [List.length_append,List.length_cons,List.length_nil];omega),by dsimp only;first|omega|(simp only [List.length_append,List.length_cons,List.length_nil];omega),by dsimp only;first|omega|(simp only [List.length_append,List.length_cons,List.length_nil];omega),by dsimp only;first|omega|(simp only [List.length_append,List.length_cons,List.length_nil];omega),(fun y hy=>by rcases List.mem_append.1 hy with hy|hy;exact hacks y hy;rw [List.mem_singleton] at hy;rw [hy];simp)⟩,⟨by dsimp only;first|omega|(simp only [List.length_append,List.length_cons,List.length_nil];omega),by dsimp only;first|omega|(simp only [List.length_append,List.length_cons,List.length_nil];omega),by dsimp only;first|omega|(simp only [List.length_append,List.length_cons,List.length_nil];omega),by dsimp only;first|omega|(simp only [List.length_append,List.length_cons,List.length_nil];omega),by dsimp only;first|omega|(simp only [List.length_append,List.length_cons,List.length_nil];omega),by dsimp only;first|omega|(simp only [List.length_append,List.length_cons,List.length_nil];omega),by dsimp only;first|omega|(simp only [List.length_append,List.length_cons,List.length_nil];omega)⟩,rfl,by simp only [partRcd,List.cons_append,List.nil_append];exact (HM.rdr_to (g:=gr) (q':=q + 20) (by omega)).sb⟩
          · repeat (first|(refine gL ?_;refine s_litk (D:=tInt) (fun n=>.int .i64 n) (fun _=>rfl) (fun _=>rfl) (fun _=>rfl) rfl [(p2 : Int)] HM rfl rfl (by simp) (by simp) ?_;clear HM;intro g W1 HM)|refine Y ?_)
            refine x_one 6 (by kernel_rfl) rfl (l':=#[true,true,true,true,true,true,true,true,true,true,false,false,false,false,false]) (by kernel_rfl) (x_go ?_)
            repeat refine Y ?_
            refine x_one 10 (by kernel_rfl) rfl (l':=#[true,true,true,true,true,true,true,true,true,true,true,false,false,false,false]) (by kernel_rfl) (x_go ?_)
            repeat refine Y ?_
            refine x_one 11 (by kernel_rfl) rfl (l':=#[true,true,true,true,true,true,true,true,true,true,true,true,false,false,false]) (by kernel_rfl) (x_go ?_)
            repeat (first|(refine qg ?_;clear HM;intro g W1 HM)|refine Y ?_)
            refine x_one 12 (by kernel_rfl) rfl (l':=#[true,true,true,true,true,true,true,true,true,true,true,true,true,false,false]) (by kernel_rfl) (x_go ?_)
            repeat (first|(refine qa ?_;clear HM;intro A1 c1 W1 HM)|refine Y ?_)
            refine x_pv HQ HS 13 rfl (by kernel_rfl) (by kernel_rfl) (l':=#[true,true,true,true,true,true,true,true,true,true,true,true,true,true,false]) (by kernel_rfl) rfl ?_
            refine Y ?_
            refine x_last 14 (by kernel_rfl) rfl (l':=#[true,true,true,true,true,true,true,true,true,true,true,true,true,true,true]) (by kernel_rfl) (by kernel_rfl) rfl ?_
            repeat (first|refine Y ?_|(refine qs ?_;clear HM;intro W1 HM))
            exact ret_cell HM rfl rfl rfl ⟨{ x with acks:=x.acks ++ [⟨_,[(p2 : Int)]⟩] },⟨j.a0,j.a1,j.a2,j.a3,j.a4,j.a5,(A1,c1)⟩,⟨by dsimp only;first|omega|(simp only [List.length_append,List.length_cons,List.length_nil];omega),by dsimp only;first|omega|(simp only [List.length_append,List.length_cons,List.length_nil];omega),by dsimp only;first|omega|(simp only [List.length_append,List.length_cons,List.length_nil];omega),hheld,by dsimp only;first|omega|(simp only [List.length_append,List.length_cons,List.length_nil];omega),by dsimp only;first|omega|(simp only [List.length_append,List.length_cons,List.length_nil];omega),by dsimp only;first|omega|(simp only [List.length_append,List.length_cons,List.length_nil];omega),by dsimp only;first|omega|(simp only [List.length_append,List.length_cons,List.length_nil];omega),(fun y hy=>by rcases List.mem_append.1 hy with hy|hy;exact hacks y hy;rw [List.mem_singleton] at hy;rw [hy];simp)⟩,⟨by dsimp only;first|omega|(simp only [List.length_append,List.length_cons,List.length_nil];omega),by dsimp only;first|omega|(simp only [List.length_append,List.length_cons,List.length_nil];omega),by dsimp only;first|omega|(simp only [List.length_append,List.length_cons,List.length_nil];omega),by dsimp only;first|omega|(simp only [List.length_append,List.length_cons,List.length_nil];omega),by dsimp only;first|omega|(simp only [List.length_append,List.length_cons,List.length_nil];omega),by dsimp only;first|omega|(simp only [List.length_append,List.length_cons,List.length_nil];omega),by dsimp only;first|omega|(simp only [List.length_append,List.length_cons,List.length_nil];omega)⟩,rfl,by simp only [partRcd,List.cons_append,List.nil_append];exact (HM.rdr_to (g:=gr) (q':=q + 20) (by omega)).sb⟩
        · repeat (first|(refine gL ?_;refine s_litk (D:=tInt) (fun n=>.int .i64 n) (fun _=>rfl) (fun _=>rfl) (fun _=>rfl) rfl [(p2 : Int)] HM rfl rfl (by simp) (by simp) ?_;clear HM;intro g W1 HM)|refine Y ?_)
          refine x_one 2 (by kernel_rfl) rfl (l':=#[true,true,true,true,true,false,false,true,true,true,false,false,false,false,false]) (by kernel_rfl) (x_go ?_)
          repeat (first|(refine gL ?_;refine s_litk (D:=tInt) (fun n=>.int .i64 n) (fun _=>rfl) (fun _=>rfl) (fun _=>rfl) rfl [0,1,60,61] HM rfl rfl (by simp) (by simp) ?_;clear HM;intro g W1 HM)|refine Y ?_)
          refine x_pv HQ HS 5 rfl (by kernel_rfl) (by kernel_rfl) (l':=#[true,true,true,true,true,true,false,true,true,true,false,false,false,false,false]) (by kernel_rfl) rfl ?_
          refine Y ?_
          refine x_one 6 (by kernel_rfl) rfl (l':=#[true,true,true,true,true,true,true,true,true,true,false,false,false,false,false]) (by kernel_rfl) (x_go ?_)
          repeat refine Y ?_
          refine x_one 10 (by kernel_rfl) rfl (l':=#[true,true,true,true,true,true,true,true,true,true,true,false,false,false,false]) (by kernel_rfl) (x_go ?_)
          repeat refine Y ?_
          refine x_one 11 (by kernel_rfl) rfl (l':=#[true,true,true,true,true,true,true,true,true,true,true,true,false,false,false]) (by kernel_rfl) (x_go ?_)
          repeat (first|(refine qg ?_;clear HM;intro g W1 HM)|refine Y ?_)
          refine x_one 12 (by kernel_rfl) rfl (l':=#[true,true,true,true,true,true,true,true,true,true,true,true,true,false,false]) (by kernel_rfl) (x_go ?_)
          repeat (first|(refine qa ?_;clear HM;intro A1 c1 W1 HM)|refine Y ?_)
          refine x_pv HQ HS 13 rfl (by kernel_rfl) (by kernel_rfl) (l':=#[true,true,true,true,true,true,true,true,true,true,true,true,true,true,false]) (by kernel_rfl) rfl ?_
          refine Y ?_
          refine x_last 14 (by kernel_rfl) rfl (l':=#[true,true,true,true,true,true,true,true,true,true,true,true,true,true,true]) (by kernel_rfl) (by kernel_rfl) rfl ?_
          repeat (first|refine Y ?_|(refine qs ?_;clear HM;intro W1 HM))
          exact ret_cell HM rfl rfl rfl ⟨{ x with acks:=x.acks ++ [⟨_,[(p2 : Int)]⟩] },⟨j.a0,j.a1,j.a2,j.a3,j.a4,j.a5,(A1,c1)⟩,⟨by dsimp only;first|omega|(simp only [List.length_append,List.length_cons,List.length_nil];omega),by dsimp only;first|omega|(simp only [List.length_append,List.length_cons,List.length_nil];omega),by dsimp only;first|omega|(simp only [List.length_append,List.length_cons,List.length_nil];omega),hheld,by dsimp only;first|omega|(simp only [List.length_append,List.length_cons,List.length_nil];omega),by dsimp only;first|omega|(simp only [List.length_append,List.length_cons,List.length_nil];omega),by dsimp only;first|omega|(simp only [List.length_append,List.length_cons,List.length_nil];omega),by dsimp only;first|omega|(simp only [List.length_append,List.length_cons,List.length_nil];omega),(fun y hy=>by rcases List.mem_append.1 hy with hy|hy;exact hacks y hy;rw [List.mem_singleton] at hy;rw [hy];simp)⟩,⟨by dsimp only;first|omega|(simp only [List.length_append,List.length_cons,List.length_nil];omega),by dsimp only;first|omega|(simp only [List.length_append,List.length_cons,List.length_nil];omega),by dsimp only;first|omega|(simp only [List.length_append,List.length_cons,List.length_nil];omega),by dsimp only;first|omega|(simp only [List.length_append,List.length_cons,List.length_nil];omega),by dsimp only;first|omega|(simp only [List.length_append,List.length_cons,List.length_nil];omega),by dsimp only;first|omega|(simp only [List.length_append,List.length_cons,List.length_nil];omega),by dsimp only;first|omega|(simp only [List.length_append,List.length_cons,List.length_nil];omega)⟩,rfl,by simp only [partRcd,List.cons_append,List.nil_append];exact (HM.rdr_to (g:=gr) (q':=q + 20) (by omega)).sb⟩
  by_cases p011 : p0 = 11
  · subst p011
    repeat (first|(refine gL ?_;refine s_litk (D:=tInt) (fun n=>.int .i64 n) (fun _=>rfl) (fun _=>rfl) (fun _=>rfl) rfl [-1,1,1000000,1000001] HM rfl rfl (by simp) (by simp) ?_;clear HM;intro g W1 HM)|refine Y ?_|(refine qs ?_;clear HM;intro W1 HM)|(refine qf ?_;go_at_call 20;refine (pick_c hb hl _ (by omega) HM).mono ?_;rintro e W1 ⟨v,hp1,rfl,HM1⟩;obtain ⟨p1,rfl⟩ : ∃ k : Nat,v = k:=⟨v.toNat,(by omega)⟩;have hp1b : p1 < 4:=(by omega);refine ⟨_,rfl,?_⟩;replace HM:=HM1;clear HM1))
    exact ret_cell HM rfl rfl rfl ⟨{ x with heard:=rd tInt [-1,1,1000000,1000001] (p1 : Int) },j,⟨by dsimp only;first|omega|(simp only [List.length_append,List.length_cons,List.length_nil];omega),by dsimp only;first|omega|(simp only [List.length_append,List.length_cons,List.length_nil];omega),by dsimp only;first|omega|(simp only [List.length_append,List.length_cons,List.length_nil];omega),hheld,by dsimp only;first|omega|(simp only [List.length_append,List.length_cons,List.length_nil];omega),by dsimp only;first|omega|(simp only [List.length_append,List.length_cons,List.length_nil];omega),by dsimp only;first|omega|(simp only [List.length_append,List.length_cons,List.length_nil];omega),by dsimp only;first|omega|(simp only [List.length_append,List.length_cons,List.length_nil];omega),hacks⟩,⟨by dsimp only;first|omega|(simp only [List.length_append,List.length_cons,List.length_nil];omega),by dsimp only;first|omega|(simp only [List.length_append,List.length_cons,List.length_nil];omega),by dsimp only;first|omega|(simp only [List.length_append,List.length_cons,List.length_nil];omega),by dsimp only;first|omega|(simp only [List.length_append,List.length_cons,List.length_nil];omega),by dsimp only;first|omega|(simp only [List.length_append,List.length_cons,List.length_nil];omega),by dsimp only;first|omega|(simp only [List.length_append,List.length_cons,List.length_nil];omega),by dsimp only;first|omega|(simp only [List.length_append,List.length_cons,List.length_nil];omega)⟩,rfl,by simp only [partRcd,List.cons_append,List.nil_append];exact (HM.rdr_to (g:=gr) (q':=q + 20) (by omega)).sb⟩
  by_cases p012 : p0 = 12
  · subst p012
    repeat (first|refine Y ?_|(refine qs ?_;clear HM;intro W1 HM))
    exact ret_cell HM rfl rfl rfl ⟨{ x with up:=!x.up },j,⟨by dsimp only;first|omega|(simp only [List.length_append,List.length_cons,List.length_nil];omega),by dsimp only;first|omega|(simp only [List.length_append,List.length_cons,List.length_nil];omega),by dsimp only;first|omega|(simp only [List.length_append,List.length_cons,List.length_nil];omega),hheld,by dsimp only;first|omega|(simp only [List.length_append,List.length_cons,List.length_nil];omega),by dsimp only;first|omega|(simp only [List.length_append,List.length_cons,List.length_nil];omega),by dsimp only;first|omega|(simp only [List.length_append,List.length_cons,List.length_nil];omega),by dsimp only;first|omega|(simp only [List.length_append,List.length_cons,List.length_nil];omega),hacks⟩,⟨by dsimp only;first|omega|(simp only [List.length_append,List.length_cons,List.length_nil];omega),by dsimp only;first|omega|(simp only [List.length_append,List.length_cons,List.length_nil];omega),by dsimp only;first|omega|(simp only [List.length_append,List.length_cons,List.length_nil];omega),by dsimp only;first|omega|(simp only [List.length_append,List.length_cons,List.length_nil];omega),by dsimp only;first|omega|(simp only [List.length_append,List.length_cons,List.length_nil];omega),by dsimp only;first|omega|(simp only [List.length_append,List.length_cons,List.length_nil];omega),by dsimp only;first|omega|(simp only [List.length_append,List.length_cons,List.length_nil];omega)⟩,rfl,by simp only [partRcd,List.cons_append,List.nil_append];exact (HM.rdr_to (g:=gr) (q':=q + 20) (by omega)).sb⟩
  · obtain rfl : p0 = 13:=by omega
    have HM2:=HM.rdr_first (g:=gr)
    have HM3:=HM2.pk (A:=own tSlot 91 j.a5.1 j.a5.2 x.best)
    clear HM HM2
    have HM:=HM3
    clear HM3
    repeat refine Y ?_
    refine gR ?_
    refine x_start (ds:=[13]) HM (fun w hw=>hw.drop.drop) (by kernel_rfl) (by kernel_rfl) qq ?_
    intro HQ HS W1 HM1;replace HM:=HM1;clear HM1
    refine x_pv HQ HS 0 rfl (by kernel_rfl) (by kernel_rfl) (l':=#[true,false,false,false,false,false,false,false,false,false,false,false,false,false]) (by kernel_rfl) rfl ?_
    refine Y ?_
    refine x_pv HQ HS 2 rfl (by kernel_rfl) (by kernel_rfl) (l':=#[true,false,true,false,false,false,false,false,false,false,false,false,false,false]) (by kernel_rfl) rfl ?_
    refine Y ?_
    refine x_pv HQ HS 5 rfl (by kernel_rfl) (by kernel_rfl) (l':=#[true,false,true,false,false,true,false,false,false,false,false,false,false,false]) (by kernel_rfl) rfl ?_
    refine Y ?_
    refine x_ld HQ HS 1 rfl (by kernel_rfl) (by kernel_rfl) (by kernel_rfl) (by kernel_rfl) (l':=#[true,true,true,false,false,true,false,false,false,false,false,false,false,false]) (by kernel_rfl) rfl ?_
    refine Y ?_
    refine x_two 3 4 (by kernel_rfl) rfl rfl (l':=#[true,true,true,true,false,true,false,false,false,false,false,false,false,false]) (l'':=#[true,true,true,false,true,true,false,false,false,false,false,false,false,false]) (by kernel_rfl) (by kernel_rfl) (x_go ?_) (x_go ?_)
    · repeat (first|(refine qf ?_;go_at_call 20;first|((with_reducible refine (pick_c hb hl 2 ?_ HM).mono ?_);omega;rintro e W1 ⟨v,hp2,rfl,HM1⟩;obtain ⟨p2,rfl⟩ : ∃ k : Nat,v = k:=⟨v.toNat,(by omega)⟩;have hp2b : p2 < 2:=(by omega);refine ⟨_,rfl,?_⟩;replace HM:=HM1;clear HM1)|((with_reducible refine (pick_c hb hl 3 ?_ HM).mono ?_);omega;rintro e W1 ⟨v,hp1,rfl,HM1⟩;obtain ⟨p1,rfl⟩ : ∃ k : Nat,v = k:=⟨v.toNat,(by omega)⟩;have hp1b : p1 < 3:=(by omega);refine ⟨_,rfl,?_⟩;replace HM:=HM1;clear HM1))|refine Y ?_)
      refine x_two 4 6 (by kernel_rfl) rfl rfl (l':=#[true,true,true,true,true,true,false,false,false,false,false,false,false,false]) (l'':=#[true,true,true,true,false,true,true,false,false,false,false,false,false,false]) (by kernel_rfl) (by kernel_rfl) (x_go ?_) (x_go ?_)
      · repeat (first|(refine gL ?_;refine s_litk (D:=tStr) (fun n=>.string n) (fun _=>rfl) (fun _=>rfl) (fun _=>rfl) rfl [⟨#[]⟩,⟨#[116]⟩] HM rfl rfl (by simp) (by simp) ?_;clear HM;intro g W1 HM)|refine Y ?_)
        refine x_one 6 (by kernel_rfl) rfl (l':=#[true,true,true,true,true,true,true,false,false,false,false,false,false,false]) (by kernel_rfl) (x_go ?_)
        repeat (first|(refine qf ?_;go_at_call 20;first|((with_reducible refine (pick_c hb hl 2 ?_ HM).mono ?_);omega;rintro e W1 ⟨v,hp2,rfl,HM1⟩;obtain ⟨p2,rfl⟩ : ∃ k : Nat,v = k:=⟨v.toNat,(by omega)⟩;have hp2b : p2 < 2:=(by omega);refine ⟨_,rfl,?_⟩;replace HM:=HM1;clear HM1)|((with_reducible refine (pick_c hb hl 3 ?_ HM).mono ?_);omega;rintro e W1 ⟨v,hp1,rfl,HM1⟩;obtain ⟨p1,rfl⟩ : ∃ k : Nat,v = k:=⟨v.toNat,(by omega)⟩;have hp1b : p1 < 3:=(by omega);refine ⟨_,rfl,?_⟩;replace HM:=HM1;clear HM1))|refine Y ?_)
        refine x_pv HQ HS 7 rfl (by kernel_rfl) (by kernel_rfl) (l':=#[true,true,true,true,true,true,true,true,false,false,false,false,false,false]) (by kernel_rfl) rfl ?_
        refine Y ?_
        refine x_one 8 (by kernel_rfl) rfl (l':=#[true,true,true,true,true,true,true,true,true,false,false,false,false,false]) (by kernel_rfl) (x_go ?_)
        repeat refine Y ?_
        refine x_one 9 (by kernel_rfl) rfl (l':=#[true,true,true,true,true,true,true,true,true,true,false,false,false,false]) (by kernel_rfl) (x_go ?_)
        repeat refine Y ?_
        refine x_one 10 (by kernel_rfl) rfl (l':=#[true,true,true,true,true,true,true,true,true,true,true,false,false,false]) (by kernel_rfl) (x_go ?_)
        repeat (first|(refine qg ?_;clear HM;intro g W1 HM)|refine Y ?_)
        refine x_one 11 (by kernel_rfl) rfl (l':=#[true,true,true,true,true,true,true,true,true,true,true,true,false,false]) (by kernel_rfl) (x_go ?_)
        repeat (first|(refine qa ?_;clear HM;intro A1 c1 W1 HM)|refine Y ?_)
        refine x_pv HQ HS 12 rfl (by kernel_rfl) (by kernel_rfl) (l':=#[true,true,true,true,true,true,true,true,true,true,true,true,true,false]) (by kernel_rfl) rfl ?_
        refine Y ?_
        refine x_last 13 (by kernel_rfl) rfl (l':=#[true,true,true,true,true,true,true,true,true,true,true,true,true,true]) (by kernel_rfl) (by kernel_rfl) rfl ?_
        repeat (first|refine Y ?_|(refine qs ?_;clear HM;intro W1 HM))
        exact ret_cell HM rfl rfl rfl ⟨{ x with best:=x.best ++ [⟨_,_⟩] },⟨j.a0,j.a1,j.a2,j.a3,j.a4,(A1,c1),j.a6⟩,⟨by dsimp only;first|omega|(simp only [List.length_append,List.length_cons,List.length_nil];omega),by dsimp only;first|omega|(simp only [List.length_append,List.length_cons,List.length_nil];omega),by dsimp only;first|omega|(simp only [List.length_append,List.length_cons,List.length_nil];omega),hheld,by dsimp only;first|omega|(simp only [List.length_append,List.length_cons,List.length_nil];omega),by dsimp only;first|omega|(simp only [List.length_append,List.length_cons,List.length_nil];omega),by dsimp only;first|omega|(simp only [List.length_append,List.length_cons,List.length_nil];omega),by dsimp only;first|omega|(simp only [List.length_append,List.length_cons,List.length_nil];omega),hacks⟩,⟨by dsimp only;first|omega|(simp only [List.length_append,List.length_cons,List.length_nil];omega),by dsimp only;first|omega|(simp only [List.length_append,List.length_cons,List.length_nil];omega),by dsimp only;first|omega|(simp only [List.length_append,List.length_cons,List.length_nil];omega),by dsimp only;first|omega|(simp only [List.length_append,List.length_cons,List.length_nil];omega),by dsimp only;first|omega|(simp only [List.length_append,List.length_cons,List.length_nil];omega),by dsimp only;first|omega|(simp only [List.length_append,List.length_cons,List.length_nil];omega),by dsimp only;first|omega|(simp only [List.length_append,List.length_cons,List.length_nil];omega)⟩,rfl,by simp only [partRcd,List.cons_append,List.nil_append];exact (HM.rdr_to (g:=gr) (q':=q + 20) (by omega)).sb⟩
      · repeat (first|(refine qf ?_;go_at_call 20;first|((with_reducible refine (pick_c hb hl 2 ?_ HM).mono ?_);omega;rintro e W1 ⟨v,hp2,rfl,HM1⟩;obtain ⟨p2,rfl⟩ : ∃ k : Nat,v = k:=⟨v.toNat,(by omega)⟩;have hp2b : p2 < 2:=(by omega);refine ⟨_,rfl,?_⟩;replace HM:=HM1;clear HM1)|((with_reducible refine (pick_c hb hl 3 ?_ HM).mono ?_);omega;rintro e W1 ⟨v,hp1,rfl,HM1⟩;obtain ⟨p1,rfl⟩ : ∃ k : Nat,v = k:=⟨v.toNat,(by omega)⟩;have hp1b : p1 < 3:=(by omega);refine ⟨_,rfl,?_⟩;replace HM:=HM1;clear HM1))|refine Y ?_)
        refine x_one 4 (by kernel_rfl) rfl (l':=#[true,true,true,true,true,true,true,false,false,false,false,false,false,false]) (by kernel_rfl) (x_go ?_)
        repeat (first|(refine gL ?_;refine s_litk (D:=tStr) (fun n=>.string n) (fun _=>rfl) (fun _=>rfl) (fun _=>rfl) rfl [⟨#[]⟩,⟨#[116]⟩] HM rfl rfl (by simp) (by simp) ?_;clear HM;intro g W1 HM)|refine Y ?_)
        refine x_pv HQ HS 7 rfl (by kernel_rfl) (by kernel_rfl) (l':=#[true,true,true,true,true,true,true,true,false,false,false,false,false,false]) (by kernel_rfl) rfl ?_
        refine Y ?_
        refine x_one 8 (by kernel_rfl) rfl (l':=#[true,true,true,true,true,true,true,true,true,false,false,false,false,false]) (by kernel_rfl) (x_go ?_)
        repeat refine Y ?_
        refine x_one 9 (by kernel_rfl) rfl (l':=#[true,true,true,true,true,true,true,true,true,true,false,false,false,false]) (by kernel_rfl) (x_go ?_)
        repeat refine Y ?_
        refine x_one 10 (by kernel_rfl) rfl (l':=#[true,true,true,true,true,true,true,true,true,true,true,false,false,false]) (by kernel_rfl) (x_go ?_)
        repeat (first|(refine qg ?_;clear HM;intro g W1 HM)|refine Y ?_)
        refine x_one 11 (by kernel_rfl) rfl (l':=#[true,true,true,true,true,true,true,true,true,true,true,true,false,false]) (by kernel_rfl) (x_go ?_)
        repeat (first|(refine qa ?_;clear HM;intro A1 c1 W1 HM)|refine Y ?_)
        refine x_pv HQ HS 12 rfl (by kernel_rfl) (by kernel_rfl) (l':=#[true,true,true,true,true,true,true,true,true,true,true,true,true,false]) (by kernel_rfl) rfl ?_
        refine Y ?_
        refine x_last 13 (by kernel_rfl) rfl (l':=#[true,true,true,true,true,true,true,true,true,true,true,true,true,true]) (by kernel_rfl) (by kernel_rfl) rfl ?_
        repeat (first|refine Y ?_|(refine qs ?_;clear HM;intro W1 HM))
        exact ret_cell HM rfl rfl rfl ⟨{ x with best:=x.best ++ [⟨_,_⟩] },⟨j.a0,j.a1,j.a2,j.a3,j.a4,(A1,c1),j.a6⟩,⟨by dsimp only;first|omega|(simp only [List.length_append,List.length_cons,List.length_nil];omega),by dsimp only;first|omega|(simp only [List.length_append,List.length_cons,List.length_nil];omega),by dsimp only;first|omega|(simp only [List.length_append,List.length_cons,List.length_nil];omega),hheld,by dsimp only;first|omega|(simp only [List.length_append,List.length_cons,List.length_nil];omega),by dsimp only;first|omega|(simp only [List.length_append,List.length_cons,List.length_nil];omega),by dsimp only;first|omega|(simp only [List.length_append,List.length_cons,List.length_nil];omega),by dsimp only;first|omega|(simp only [List.length_append,List.length_cons,List.length_nil];omega),hacks⟩,⟨by dsimp only;first|omega|(simp only [List.length_append,List.length_cons,List.length_nil];omega),by dsimp only;first|omega|(simp only [List.length_append,List.length_cons,List.length_nil];omega),by dsimp only;first|omega|(simp only [List.length_append,List.length_cons,List.length_nil];omega),by dsimp only;first|omega|(simp only [List.length_append,List.length_cons,List.length_nil];omega),by dsimp only;first|omega|(simp only [List.length_append,List.length_cons,List.length_nil];omega),by dsimp only;first|omega|(simp only [List.length_append,List.length_cons,List.length_nil];omega),by dsimp only;first|omega|(simp only [List.length_append,List.length_cons,List.length_nil];omega)⟩,rfl,by simp only [partRcd,List.cons_append,List.nil_append];exact (HM.rdr_to (g:=gr) (q':=q + 20) (by omega)).sb⟩
    · repeat (first|(refine gL ?_;refine s_litk (D:=tStr) (fun n=>.string n) (fun _=>rfl) (fun _=>rfl) (fun _=>rfl) rfl [⟨#[]⟩,⟨#[116]⟩] HM rfl rfl (by simp) (by simp) ?_;clear HM;intro g W1 HM)|refine Y ?_)
      refine x_one 3 (by kernel_rfl) rfl (l':=#[true,true,true,true,true,true,false,false,false,false,false,false,false,false]) (by kernel_rfl) (x_go ?_)
      repeat (first|(refine qf ?_;go_at_call 20;first|((with_reducible refine (pick_c hb hl 2 ?_ HM).mono ?_);omega;rintro e W1 ⟨v,hp2,rfl,HM1⟩;obtain ⟨p2,rfl⟩ : ∃ k : Nat,v = k:=⟨v.toNat,(by omega)⟩;have hp2b : p2 < 2:=(by omega);refine ⟨_,rfl,?_⟩;replace HM:=HM1;clear HM1)|((with_reducible refine (pick_c hb hl 3 ?_ HM).mono ?_);omega;rintro e W1 ⟨v,hp1,rfl,HM1⟩;obtain ⟨p1,rfl⟩ : ∃ k : Nat,v = k:=⟨v.toNat,(by omega)⟩;have hp1b : p1 < 3:=(by omega);refine ⟨_,rfl,?_⟩;replace HM:=HM1;clear HM1))|refine Y ?_)
      refine x_one 6 (by kernel_rfl) rfl (l':=#[true,true,true,true,true,true,true,false,false,false,false,false,false,false]) (by kernel_rfl) (x_go ?_)
      repeat (first|(refine qf ?_;go_at_call 20;first|((with_reducible refine (pick_c hb hl 2 ?_ HM).mono ?_);omega;rintro e W1 ⟨v,hp2,rfl,HM1⟩;obtain ⟨p2,rfl⟩ : ∃ k : Nat,v = k:=⟨v.toNat,(by omega)⟩;have hp2b : p2 < 2:=(by omega);refine ⟨_,rfl,?_⟩;replace HM:=HM1;clear HM1)|((with_reducible refine (pick_c hb hl 3 ?_ HM).mono ?_);omega;rintro e W1 ⟨v,hp1,rfl,HM1⟩;obtain ⟨p1,rfl⟩ : ∃ k : Nat,v = k:=⟨v.toNat,(by omega)⟩;have hp1b : p1 < 3:=(by omega);refine ⟨_,rfl,?_⟩;replace HM:=HM1;clear HM1))|refine Y ?_)
      refine x_pv HQ HS 7 rfl (by kernel_rfl) (by kernel_rfl) (l':=#[true,true,true,true,true,true,true,true,false,false,false,false,false,false]) (by kernel_rfl) rfl ?_
      refine Y ?_
      refine x_one 8 (by kernel_rfl) rfl (l':=#[true,true,true,true,true,true,true,true,true,false,false,false,false,false]) (by kernel_rfl) (x_go ?_)
      repeat refine Y ?_
      refine x_one 9 (by kernel_rfl) rfl (l':=#[true,true,true,true,true,true,true,true,true,true,false,false,false,false]) (by kernel_rfl) (x_go ?_)
      repeat refine Y ?_
      refine x_one 10 (by kernel_rfl) rfl (l':=#[true,true,true,true,true,true,true,true,true,true,true,false,false,false]) (by kernel_rfl) (x_go ?_)
      repeat (first|(refine qg ?_;clear HM;intro g W1 HM)|refine Y ?_)
      refine x_one 11 (by kernel_rfl) rfl (l':=#[true,true,true,true,true,true,true,true,true,true,true,true,false,false]) (by kernel_rfl) (x_go ?_)
      repeat (first|(refine qa ?_;clear HM;intro A1 c1 W1 HM)|refine Y ?_)
      refine x_pv HQ HS 12 rfl (by kernel_rfl) (by kernel_rfl) (l':=#[true,true,true,true,true,true,true,true,true,true,true,true,true,false]) (by kernel_rfl) rfl ?_
      refine Y ?_
      refine x_last 13 (by kernel_rfl) rfl (l':=#[true,true,true,true,true,true,true,true,true,true,true,true,true,true]) (by kernel_rfl) (by kernel_rfl) rfl ?_
      repeat (first|refine Y ?_|(refine qs ?_;clear HM;intro W1 HM))
      exact ret_cell HM rfl rfl rfl ⟨{ x with best:=x.best ++ [⟨_,_⟩] },⟨j.a0,j.a1,j.a2,j.a3,j.a4,(A1,c1),j.a6⟩,⟨by dsimp only;first|omega|(simp only [List.length_append,List.length_cons,List.length_nil];omega),by dsimp only;first|omega|(simp only [List.length_append,List.length_cons,List.length_nil];omega),by dsimp only;first|omega|(simp only [List.length_append,List.length_cons,List.length_nil];omega),hheld,by dsimp only;first|omega|(simp only [List.length_append,List.length_cons,List.length_nil];omega),by dsimp only;first|omega|(simp only [List.length_append,List.length_cons,List.length_nil];omega),by dsimp only;first|omega|(simp only [List.length_append,List.length_cons,List.length_nil];omega),by dsimp only;first|omega|(simp only [List.length_append,List.length_cons,List.length_nil];omega),hacks⟩,⟨by dsimp only;first|omega|(simp only [List.length_append,List.length_cons,List.length_nil];omega),by dsimp only;first|omega|(simp only [List.length_append,List.length_cons,List.length_nil];omega),by dsimp only;first|omega|(simp only [List.length_append,List.length_cons,List.length_nil];omega),by dsimp only;first|omega|(simp only [List.length_append,List.length_cons,List.length_nil];omega),by dsimp only;first|omega|(simp only [List.length_append,List.length_cons,List.length_nil];omega),by dsimp only;first|omega|(simp only [List.length_append,List.length_cons,List.length_nil];omega),by dsimp only;first|omega|(simp only [List.length_append,List.length_cons,List.length_nil];omega)⟩,rfl,by simp only [partRcd,List.cons_append,List.nil_append];exact (HM.rdr_to (g:=gr) (q':=q + 20) (by omega)).sb⟩
end Go.Proofs.YtampmicahnnebaaGreat.Sp
