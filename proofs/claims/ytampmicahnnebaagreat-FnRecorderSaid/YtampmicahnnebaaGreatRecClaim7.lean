/- Draws of a recorder and a message. No condition. -/
import Derived.Test.YtampmicahnnebaaGreatRecClaim6
import Derived.Test.YtampmicahnnebaaGreatRecClaim5
import Derived.Test.YtampmicahnnebaaGreatRecClaim3
import Derived.Test.YtampmicahnnebaaGreatRecClaim2
import Derived.Test.YtampmicahnnebaaGreatRecClaim4
set_option linter.unusedVariables false
set_option linter.unusedSimpArgs false
namespace Go.Proofs.YtampmicahnnebaaGreat.Sp
open Go Go.RowKit
set_option maxRecDepth 10000
set_option maxHeartbeats 40000000
variable {w0 W : World} {L R : List Asn} {A : Option Addr} {c : Nat} {bs : List Int}
theorem ret_cc {P : Program} {n : Nat} {E : Env} {fn : Func} {R : Ending → World → Prop} {p u m k pt g t qt g' t' : Nat} {cs ds : List Value} [hB : BoxAt L g t cs] [hB' : BoxAt L g' t' ds] [hA : Agg P pt m] [hA' : Agg P qt k] (hm : Mem w0 W L) (hf : fn.results = #[.cell p pt,.cell u qt]) (hp : look E p = some (.pointer (some ⟨g,0,none⟩))) (hv : look E u = some (.pointer (some ⟨g',0,none⟩))) (hl : cs.length = m) (hl' : ds.length = k) (h : R (.returned (.tuple #[.agg cs.toArray,.agg ds.toArray])) W) : WN n .ret (bodyPost P fn R) E W:=⟨fun a ha=>by
  obtain ⟨d,hu,hu2,hi⟩:=hA.out
  obtain ⟨d',hu',hu2',hi'⟩:=hA'.out
  have hp' : a.tmps[p]?.getD undef = .pointer (some ⟨g,0,none⟩):=by simpa using ha.slots p _ hp
  have hv' : a.tmps[u]?.getD undef = .pointer (some ⟨g',0,none⟩):=by simpa using ha.slots u _ hv
  have hr:=run_loadVar_row (P:=P) W g t pt cs.toArray (0,0) d (hm.heap (g:=g)) hu (by cases d <;> first|rfl|(simp at hu2)) (by rw [hi];simp [hl])
  have hr':=run_loadVar_row (P:=P) W g' t' qt ds.toArray (0,0) d' (hm.heap (g:=g')) hu' (by cases d' <;> first|rfl|(simp at hu2')) (by rw [hi'];simp [hl'])
  exact ⟨ha.defers,_,by simp [results,hf,hp',hv',asAddr,hr,hr'],h⟩⟩
theorem drawk_c (hb : RoRow rByte w0 A bs) (hc : bs.length ≤ c) (HM : Mem w0 W L) : Calls Tryz.prog 12 #[.slice A bs.length c] W fun e W'=>∃ (y : Rcd) (j : AtRcd) (m : Msg) (am : At),(SmallR y ∧ m.slots.length ≤ 1048576) ∧ e = .returned (.tuple #[.agg (encRcd y j).toArray,.agg (encMsg m am).toArray]) ∧ Mem w0 W' (own tSlot 91 am.1 am.2 m.slots :: (partRcd 91 40 9 3 66 y j ++ L)):=by
  refine enter Tryz.func12 rfl Tryz.ntmps12 [(0,_)] rfl ⟨rfl,trivial⟩ ?_
  repeat (first|refine Y ?_|(refine qs ?_;clear HM;intro W1 HM)|(refine qf ?_;first|(go_at_call 18;refine (open_c hb hc HM).mono ?_;rintro e W1 ⟨gr,bs1,hb1,hl1,rfl,HM1⟩;refine ⟨_,rfl,?_⟩;replace HM:=HM1;clear HM1)|(go_at_call 52;refine (reach_c (q:=0) hb1 hl1 (by omega) HM).mono ?_;rintro e W1 ⟨y,j,hv,rfl,HM1⟩;refine ⟨_,rfl,?_⟩;replace HM:=HM1;clear HM1;simp only [wldP,List.cons_append,List.nil_append] at HM;simp only [encW]))|(refine qg ?_;clear HM;intro g W1 HM))
  have hn1:=hv.n1
  have hn5:=hv.n5
  have hmsg:=hv.msg
  rename_i g2 Wa g3 Wb Wc Wd We
  rename Nat=>gw
  refine c_cutn (σ:=Nat × Nat × AtRcd) (fun s=>[(2,.pointer (some ⟨g2,0,none⟩)),(3,.pointer (some ⟨g3,0,none⟩)),(4,.pointer (some ⟨gr,0,none⟩)),(5,.pointer (some ⟨gw,0,none⟩)),(6,.pointer (some ⟨s.1,0,none⟩))]) (fun s W1=>∃ h : s.2.1 < y.recs.length,Mem w0 W1 (hol (tRec 91 40 9 3 66) 31 j.b0.1 j.b0.2 y.recs s.2.1 (encRcd y.recs[s.2.1] s.2.2) :: (partRcd 91 40 9 3 66 y.recs[s.2.1] s.2.2 ++ (box gw 78 [.slice j.b0.1 y.recs.length j.b0.2,.slice j.b1.1 y.flight.length j.b1.2,.slice j.b2.1 y.fixed.length j.b2.2] :: box s.1 31 (encRcd y.recs[s.2.1] s.2.2) :: flt 91 40 j.b1.1 j.b1.2 y.flight :: rdr A bs1.length c 3000 gr :: box g3 40 [.int .i64 0,.int .i64 0,.int .i64 0,.int .i64 0,.int .i64 0,.int .i64 0,.string ⟨#[]⟩,.slice none 0 0] :: box g2 31 [.int .i64 0,.int .i64 0,.bool false,.int .i64 0,.int .i64 0,.slice none 0 0,.int .i64 0,.int .i64 0,.slice none 0 0,.slice none 0 0,.slice none 0 0,.bool false,.bool false,.int .i64 0,.slice none 0 0,.slice none 0 0,.slice none 0 0,.int .i64 0] :: L)))) ?_ ?_
  · skip
    refine gR ?_
    refine x_start (ds:=[10]) HM (fun w hw=>(hw.sb : Mem w0 w (box gw 78 [.slice j.b0.1 y.recs.length j.b0.2,.slice j.b1.1 y.flight.length j.b1.2,.slice j.b2.1 y.fixed.length j.b2.2] :: L))) (by kernel_rfl) (by kernel_rfl) qq ?_
    intro HQ HS W1 HM1;replace HM:=HM1;clear HM1
    refine x_pv HQ HS 0 rfl (by kernel_rfl) (by kernel_rfl) (l':=#[true,false,false,false,false,false,false,false,false,false,false]) (by kernel_rfl) rfl ?_
    refine Y ?_
    refine x_pv HQ HS 2 rfl (by kernel_rfl) (by kernel_rfl) (l':=#[true,false,true,false,false,false,false,false,false,false,false]) (by kernel_rfl) rfl ?_
    refine Y ?_
    refine x_pv HQ HS 3 rfl (by kernel_rfl) (by kernel_rfl) (l':=#[true,false,true,true,false,false,false,false,false,false,false]) (by kernel_rfl) rfl ?_
    refine Y ?_
    refine x_ld HQ HS 1 rfl (by kernel_rfl) (by kernel_rfl) (by kernel_rfl) (by kernel_rfl) (l':=#[true,true,true,true,false,false,false,false,false,false,false]) (by kernel_rfl) rfl ?_
    refine Y ?_
    refine x_ld HQ HS 4 rfl (by kernel_rfl) (by kernel_rfl) (by kernel_rfl) (by kernel_rfl) (l':=#[true,true,true,true,true,false,false,false,false,false,false]) (by kernel_rfl) rfl ?_
    refine Y ?_
    refine x_pv HQ HS 5 rfl (by kernel_rfl) (by kernel_rfl) (l':=#[true,true,true,true,true,true,false,false,false,false,false]) (by kernel_rfl) rfl ?_
    refine Y ?_
    refine x_two 6 9 (by kernel_rfl) rfl rfl (l':=#[true,true,true,true,true,true,true,false,false,false,false]) (l'':=#[true,true,true,true,true,true,false,false,false,true,false]) (by kernel_rfl) (by kernel_rfl) (x_go ?_) (x_go ?_)
    · repeat (first|(refine qf ?_;go_at_call 20;refine (pick_c hb1 hl1 _ (by omega) HM).mono ?_;rintro e W1 ⟨v,hp0,rfl,HM1⟩;obtain ⟨p0,rfl⟩ : ∃ k : Nat,v = k:=⟨v.toNat,(by omega)⟩;refine ⟨_,rfl,?_⟩;replace HM:=HM1;clear HM1)|refine Y ?_)
      refine x_pv HQ HS 7 rfl (by kernel_rfl) (by kernel_rfl) (l':=#[true,true,true,true,true,true,true,true,false,false,false]) (by kernel_rfl) rfl ?_
      refine Y ?_
      refine x_two 8 9 (by kernel_rfl) rfl rfl (l':=#[true,true,true,true,true,true,true,true,true,false,false]) (l'':=#[true,true,true,true,true,true,true,true,false,true,false]) (by kernel_rfl) (by kernel_rfl) (x_go ?_) (x_go ?_)
      · repeat (first|(refine gL ?_;have hpl : p0 < y.recs.length:=(by omega);have HMa:=HM.pk (A:=own (tRec 91 40 9 3 66) 31 j.b0.1 j.b0.2 y.recs);obtain ⟨jr,HM2⟩:=opn_rec HMa p0 hpl;clear HMa HM;have HM:=HM2;clear HM2;simp only [encRcd,partRcd,List.cons_append,List.nil_append] at HM;refine s_gv HM rfl ?_;refine gv (p_loadsh rfl rfl rfl) ?_)|refine Y ?_)
        refine x_one 9 (by kernel_rfl) rfl (l':=#[true,true,true,true,true,true,true,true,true,true,false]) (by kernel_rfl) (x_go ?_)
        repeat (first|(refine qg ?_;clear HM;intro g W1 HM)|refine Y ?_)
        refine x_last 10 (by kernel_rfl) rfl (l':=#[true,true,true,true,true,true,true,true,true,true,true]) (by kernel_rfl) (by kernel_rfl) rfl ?_
        repeat ((refine gL ?_;first|(refine gStore ?_;(refine s_store HM rfl rfl rfl rfl ?_;clear HM;intro W1 HM))|refine l_nil ?_))
        exact n_mid (g,p0,jr) U ⟨by dsimp only;omega,by dsimp only;simp only [encRcd,partRcd,List.cons_append,List.nil_append];exact (HM.rdr_to (g:=gr) (q':=3000) (by omega)).sb⟩
      · repeat (first|(refine qg ?_;clear HM;intro g W1 HM)|refine Y ?_)
        refine x_one 8 (by kernel_rfl) rfl (l':=#[true,true,true,true,true,true,true,true,true,true,false]) (by kernel_rfl) (x_go ?_)
        repeat (first|(refine gL ?_;have hpl : p0 < y.recs.length:=(by omega);have HMa:=HM.pk (A:=own (tRec 91 40 9 3 66) 31 j.b0.1 j.b0.2 y.recs);obtain ⟨jr,HM2⟩:=opn_rec HMa p0 hpl;clear HMa HM;have HM:=HM2;clear HM2;simp only [encRcd,partRcd,List.cons_append,List.nil_append] at HM;refine s_gv HM rfl ?_;refine gv (p_loadsh rfl rfl rfl) ?_)|refine Y ?_)
        refine x_last 10 (by kernel_rfl) rfl (l':=#[true,true,true,true,true,true,true,true,true,true,true]) (by kernel_rfl) (by kernel_rfl) rfl ?_
        repeat ((refine gL ?_;first|(refine gStore ?_;(refine s_store HM rfl rfl rfl rfl ?_;clear HM;intro W1 HM))|refine l_nil ?_))
        exact n_mid (g,p0,jr) U ⟨by dsimp only;omega,by dsimp only;simp only [encRcd,partRcd,List.cons_append,List.nil_append];exact (HM.rdr_to (g:=gr) (q':=3000) (by omega)).sb⟩
    · repeat (first|(refine qg ?_;clear HM;intro g W1 HM)|refine Y ?_)
      refine x_one 6 (by kernel_rfl) rfl (l':=#[true,true,true,true,true,true,true,false,false,true,false]) (by kernel_rfl) (x_go ?_)
      repeat (first|(refine qf ?_;go_at_call 20;refine (pick_c hb1 hl1 _ (by omega) HM).mono ?_;rintro e W1 ⟨v,hp0,rfl,HM1⟩;obtain ⟨p0,rfl⟩ : ∃ k : Nat,v = k:=⟨v.toNat,(by omega)⟩;refine ⟨_,rfl,?_⟩;replace HM:=HM1;clear HM1)|refine Y ?_)
      refine x_pv HQ HS 7 rfl (by kernel_rfl) (by kernel_rfl) (l':=#[true,true,true,true,true,true,true,true,false,true,false]) (by kernel_rfl) rfl ?_
      refine Y ?_
      refine x_one 8 (by kernel_rfl) rfl (l':=#[true,true,true,true,true,true,true,true,true,true,false]) (by kernel_rfl) (x_go ?_)
      repeat (first|(refine gL ?_;have hpl : p0 < y.recs.length:=(by omega);have HMa:=HM.pk (A:=own (tRec 91 40 9 3 66) 31 j.b0.1 j.b0.2 y.recs);obtain ⟨jr,HM2⟩:=opn_rec HMa p0 hpl;clear HMa HM;have HM:=HM2;clear HM2;simp only [encRcd,partRcd,List.cons_append,List.nil_append] at HM;refine s_gv HM rfl ?_;refine gv (p_loadsh rfl rfl rfl) ?_)|refine Y ?_)
      refine x_last 10 (by kernel_rfl) rfl (l':=#[true,true,true,true,true,true,true,true,true,true,true]) (by kernel_rfl) (by kernel_rfl) rfl ?_
      repeat ((refine gL ?_;first|(refine gStore ?_;(refine s_store HM rfl rfl rfl rfl ?_;clear HM;intro W1 HM))|refine l_nil ?_))
      exact n_mid (g,p0,jr) U ⟨by dsimp only;omega,by dsimp only;simp only [encRcd,partRcd,List.cons_append,List.nil_append];exact (HM.rdr_to (g:=gr) (q':=3000) (by omega)).sb⟩
  clear HM
  rintro ⟨g6,p,jr⟩ W1 ⟨hpl,HM⟩
  dsimp only at hpl HM ⊢
  simp only [encRcd,partRcd,List.cons_append,List.nil_append] at HM
  have hV:=(hv.recs p hpl).1
  refine c_seq ?_
  refine c_cutn (σ:=Nat × Rcd × AtRcd) (fun s=>[(2,.pointer (some ⟨g2,0,none⟩)),(3,.pointer (some ⟨g3,0,none⟩)),(4,.pointer (some ⟨gr,0,none⟩)),(6,.pointer (some ⟨s.1,0,none⟩))]) (fun s W1=>(SmallR s.2.1 ∧ Bd s.2.1) ∧ Mem w0 W1 (rdr A bs1.length c 4000 gr :: box g2 31 [.int .i64 0,.int .i64 0,.bool false,.int .i64 0,.int .i64 0,.slice none 0 0,.int .i64 0,.int .i64 0,.slice none 0 0,.slice none 0 0,.slice none 0 0,.bool false,.bool false,.int .i64 0,.slice none 0 0,.slice none 0 0,.slice none 0 0,.int .i64 0] :: box g3 40 [.int .i64 0,.int .i64 0,.int .i64 0,.int .i64 0,.int .i64 0,.int .i64 0,.string ⟨#[]⟩,.slice none 0 0] :: box s.1 31 [.int .i64 s.2.1.number,.int .i64 s.2.1.of,.bool s.2.1.up,.int .i64 s.2.1.sp,.int .i64 s.2.1.sk,.slice s.2.2.a0.1 s.2.1.ss.length s.2.2.a0.2,.int .i64 s.2.1.dp,.int .i64 s.2.1.dk,.slice s.2.2.a1.1 s.2.1.ds.length s.2.2.a1.2,.slice s.2.2.a2.1 s.2.1.held.length s.2.2.a2.2,.slice s.2.2.a3.1 s.2.1.wishes.length s.2.2.a3.2,.bool s.2.1.lead,.bool s.2.1.trying,.int .i64 s.2.1.ballot,.slice s.2.2.a4.1 s.2.1.yes.length s.2.2.a4.2,.slice s.2.2.a5.1 s.2.1.best.length s.2.2.a5.2,.slice s.2.2.a6.1 s.2.1.acks.length s.2.2.a6.2,.int .i64 s.2.1.heard] :: (partRcd 91 40 9 3 66 s.2.1 s.2.2 ++ L))) ?_ ?_
  · by_cases cf : 0 < y.flight.length
    rotate_left
    · have cg : decide ((0 : Int) < (y.flight.length : Int)) = false:=decide_eq_false (by omega)
      repeat refine Y ?_
      exact n_mid (g6,y.recs[p],jr) U ⟨⟨hV.small,hV.bd⟩,by dsimp only;simp only [partRcd,List.cons_append,List.nil_append];exact (HM.rdr_to (g:=gr) (q':=4000) (by omega)).sb⟩
    repeat (first|refine Y ?_|(refine qf ?_;go_at_call 20;refine (pick_c hb1 hl1 _ (by omega) HM).mono ?_;rintro e W1 ⟨v,hp1,rfl,HM1⟩;obtain ⟨p1,rfl⟩ : ∃ k : Nat,v = k:=⟨v.toNat,(by omega)⟩;have hp1b : p1 < 3:=(by omega);refine ⟨_,rfl,?_⟩;replace HM:=HM1;clear HM1))
    by_cases p10 : p1 = 0
    · subst p10
      repeat ((refine gC ?_;first|refine c_skip ?_|refine c_no rfl (by rfl) ?_))
      exact n_mid (g6,y.recs[p],jr) U ⟨⟨hV.small,hV.bd⟩,by dsimp only;simp only [partRcd,List.cons_append,List.nil_append];exact (HM.rdr_to (g:=gr) (q':=4000) (by omega)).sb⟩
    repeat ((refine gC ?_;first|refine c_seq ?_|refine c_yes rfl (by first|rfl|(simp;omega)) ?_))
    have HM2:=cls_rec (show Mem w0 _ (hol (tRec 91 40 9 3 66) 31 j.b0.1 j.b0.2 y.recs p (encRcd y.recs[p] jr) :: (partRcd 91 40 9 3 66 y.recs[p] jr ++ (flt 91 40 j.b1.1 j.b1.2 y.flight :: box gw 78 [.slice j.b0.1 y.recs.length j.b0.2,.slice j.b1.1 y.flight.length j.b1.2,.slice j.b2.1 y.fixed.length j.b2.2] :: rdr A bs1.length c 4000 gr :: box g3 40 [.int .i64 0,.int .i64 0,.int .i64 0,.int .i64 0,.int .i64 0,.int .i64 0,.string ⟨#[]⟩,.slice none 0 0] :: box g2 31 [.int .i64 0,.int .i64 0,.bool false,.int .i64 0,.int .i64 0,.slice none 0 0,.int .i64 0,.int .i64 0,.slice none 0 0,.slice none 0 0,.slice none 0 0,.bool false,.bool false,.int .i64 0,.slice none 0 0,.slice none 0 0,.slice none 0 0,.int .i64 0] :: L))) from by simp only [encRcd,partRcd,List.cons_append,List.nil_append];exact (HM.rdr_to (g:=gr) (q':=4000) (by omega)).sb)
    rw [List.set_getElem_self] at HM2
    have HMa:=HM2.pk (A:=flt 91 40 j.b1.1 j.b1.2 y.flight)
    clear HM2 HM
    obtain ⟨zs,ezf,HM⟩:=opn_flt HMa
    clear HMa
    have hzl : zs.length = y.flight.length:=by rw [← ezf,List.length_map]
    rw [← hzl] at HM cf
    refine c_cutn (σ:=Nat × Nat) (fun s=>[(2,.pointer (some ⟨g2,0,none⟩)),(3,.pointer (some ⟨g3,0,none⟩)),(5,.pointer (some ⟨gw,0,none⟩)),(7,.pointer (some ⟨s.1,0,none⟩))]) (fun s W1=>∃ h : s.2 < zs.length,Mem w0 W1 (own (tRec 91 40 9 3 66) 31 j.b0.1 j.b0.2 y.recs :: box gw 78 [.slice j.b0.1 y.recs.length j.b0.2,.slice j.b1.1 zs.length j.b1.2,.slice j.b2.1 y.fixed.length j.b2.2] :: box s.1 40 (encMsg zs[s.2].1 zs[s.2].2) :: bag 91 zs :: box g3 40 [.int .i64 0,.int .i64 0,.int .i64 0,.int .i64 0,.int .i64 0,.int .i64 0,.string ⟨#[]⟩,.slice none 0 0] :: box g2 31 [.int .i64 0,.int .i64 0,.bool false,.int .i64 0,.int .i64 0,.slice none 0 0,.int .i64 0,.int .i64 0,.slice none 0 0,.slice none 0 0,.slice none 0 0,.bool false,.bool false,.int .i64 0,.slice none 0 0,.slice none 0 0,.slice none 0 0,.int .i64 0] :: L)) ?_ ?_
    · skip
      refine gR ?_
      refine x_start (ds:=[10]) HM (fun w hw=>(hw.sb : Mem w0 w (box gw 78 [.slice j.b0.1 y.recs.length j.b0.2,.slice j.b1.1 zs.length j.b1.2,.slice j.b2.1 y.fixed.length j.b2.2] :: own tMA 40 j.b1.1 j.b1.2 zs :: L))) (by kernel_rfl) (by kernel_rfl) qq ?_
      intro HQ HS W1 HM1;replace HM:=HM1;clear HM1
      refine x_pv HQ HS 0 rfl (by kernel_rfl) (by kernel_rfl) (l':=#[true,false,false,false,false,false,false,false,false,false,false]) (by kernel_rfl) rfl ?_
      refine Y ?_
      refine x_pv HQ HS 2 rfl (by kernel_rfl) (by kernel_rfl) (l':=#[true,false,true,false,false,false,false,false,false,false,false]) (by kernel_rfl) rfl ?_
      refine Y ?_
      refine x_pv HQ HS 3 rfl (by kernel_rfl) (by kernel_rfl) (l':=#[true,false,true,true,false,false,false,false,false,false,false]) (by kernel_rfl) rfl ?_
      refine Y ?_
      refine x_ld HQ HS 1 rfl (by kernel_rfl) (by kernel_rfl) (by kernel_rfl) (by kernel_rfl) (l':=#[true,true,true,true,false,false,false,false,false,false,false]) (by kernel_rfl) rfl ?_
      refine Y ?_
      refine x_ld HQ HS 4 rfl (by kernel_rfl) (by kernel_rfl) (by kernel_rfl) (by kernel_rfl) (l':=#[true,true,true,true,true,false,false,false,false,false,false]) (by kernel_rfl) rfl ?_
      refine Y ?_
      refine x_pv HQ HS 5 rfl (by kernel_rfl) (by kernel_rfl) (l':=#[true,true,true,true,true,true,false,false,false,false,false]) (by kernel_rfl) rfl ?_
      refine Y ?_
      refine x_two 6 9 (by kernel_rfl) rfl rfl (l':=#[true,true,true,true,true,true,true,false,false,false,false]) (l'':=#[true,true,true,true,true,true,false,false,false,true,false]) (by kernel_rfl) (by kernel_rfl) (x_go ?_) (x_go ?_)
      · repeat (first|(refine qf ?_;go_at_call 20;refine (pick_c hb1 hl1 _ (by omega) HM).mono ?_;rintro e W1 ⟨v,hp2,rfl,HM1⟩;obtain ⟨p2,rfl⟩ : ∃ k : Nat,v = k:=⟨v.toNat,(by omega)⟩;refine ⟨_,rfl,?_⟩;replace HM:=HM1;clear HM1)|refine Y ?_)
        refine x_pv HQ HS 7 rfl (by kernel_rfl) (by kernel_rfl) (l':=#[true,true,true,true,true,true,true,true,false,false,false]) (by kernel_rfl) rfl ?_
        refine Y ?_
        refine x_ld HQ HS 8 rfl (by kernel_rfl) (by kernel_rfl) (by kernel_rfl) (by kernel_rfl) (l':=#[true,true,true,true,true,true,true,true,true,false,false]) (by kernel_rfl) rfl ?_
        refine Y ?_
        refine x_one 9 (by kernel_rfl) rfl (l':=#[true,true,true,true,true,true,true,true,true,true,false]) (by kernel_rfl) (x_go ?_)
        repeat (first|(refine qg ?_;clear HM;intro g W1 HM)|refine Y ?_)
        refine x_last 10 (by kernel_rfl) rfl (l':=#[true,true,true,true,true,true,true,true,true,true,true]) (by kernel_rfl) (by kernel_rfl) rfl ?_
        repeat (first|(refine gStore ?_;have hql : p2 < zs.length:=(by omega);have e0 : rd tMA zs (p2 : Int) = zs[p2]:=rd_at hql;simp only [encMsg,e0];refine s_store HM rfl rfl rfl rfl ?_;clear HM;intro W1 HM)|refine Y ?_)
        exact n_mid (g,p2) U ⟨by dsimp only;omega,by simp only [encMsg];exact HM.sb⟩
      · repeat (first|(refine qg ?_;clear HM;intro g W1 HM)|refine Y ?_)
        refine x_one 6 (by kernel_rfl) rfl (l':=#[true,true,true,true,true,true,true,false,false,true,false]) (by kernel_rfl) (x_go ?_)
        repeat (first|(refine qf ?_;go_at_call 20;refine (pick_c hb1 hl1 _ (by omega) HM).mono ?_;rintro e W1 ⟨v,hp2,rfl,HM1⟩;obtain ⟨p2,rfl⟩ : ∃ k : Nat,v = k:=⟨v.toNat,(by omega)⟩;refine ⟨_,rfl,?_⟩;replace HM:=HM1;clear HM1)|refine Y ?_)
        refine x_pv HQ HS 7 rfl (by kernel_rfl) (by kernel_rfl) (l':=#[true,true,true,true,true,true,true,true,false,true,false]) (by kernel_rfl) rfl ?_
        refine Y ?_
        refine x_ld HQ HS 8 rfl (by kernel_rfl) (by kernel_rfl) (by kernel_rfl) (by kernel_rfl) (l':=#[true,true,true,true,true,true,true,true,true,true,false]) (by kernel_rfl) rfl ?_
        refine Y ?_
        refine x_last 10 (by kernel_rfl) rfl (l':=#[true,true,true,true,true,true,true,true,true,true,true]) (by kernel_rfl) (by kernel_rfl) rfl ?_
        repeat (first|(refine gStore ?_;have hql : p2 < zs.length:=(by omega);have e0 : rd tMA zs (p2 : Int) = zs[p2]:=rd_at hql;simp only [encMsg,e0];refine s_store HM rfl rfl rfl rfl ?_;clear HM;intro W1 HM)|refine Y ?_)
        exact n_mid (g,p2) U ⟨by dsimp only;omega,by simp only [encMsg];exact HM.sb⟩
    clear HM
    rintro ⟨g7,q⟩ W1 ⟨hql,HM⟩
    dsimp only at hql HM ⊢
    have hM:=hmsg zs[q].1 (by rw [← ezf];exact List.mem_map_of_mem (List.getElem_mem hql))
    have hto:=hM.to
    obtain ⟨p4,hp4⟩ : ∃ p4 : Nat,zs[q].1.to = (p4 : Int) + 1:=⟨(zs[q].1.to - 1).toNat,by omega⟩
    have hp41 : zs[q].1.to - 1 = (p4 : Int):=by omega
    have hpl4 : p4 < y.recs.length:=by omega
    have hms:=hM.slots.1
    obtain ⟨jr4,HM2⟩:=opn_rec HM p4 hpl4
    clear HM
    have HM:=HM2
    clear HM2
    simp only [encMsg,encRcd,partRcd,List.cons_append,List.nil_append] at HM
    repeat (first|(refine gGP ?_;refine gGB ?_;refine gp (p_sub rfl rfl (r:=(p4 : Int)) (by rw [hp41];exact wr (by omega) (by omega))) ?_)|(refine gR ?_;refine d_start [9,10] [(0,0),(0,2),(1,1),(1,3),(0,4),(0,5),(1,6),(1,7),(2,8),(3,9),(3,10)] HM (by kernel_rfl) (by kernel_rfl) qq (by kernel_rfl) rfl ?_;intro HQ HS W1 HM1;replace HM:=HM1;clear HM1)|refine Y ?_|(refine qs ?_;clear HM;intro W1 HM)|(refine qf ?_;go_at_call 53;refine (l2Message_c zs[q].1 zs[q].2 (ro_bag (eS:=91) (List.getElem_mem hql) HM) (by omega) (Mem.start _)).mono ?_;rintro e W1 ⟨Am,cm,rfl,HM1⟩;refine ⟨_,rfl,?_⟩;replace HM:=HM.join HM1;clear HM1;simp only [List.cons_append,List.nil_append] at HM))
    exact ret_cc (g':=g3) HM rfl rfl rfl rfl rfl ⟨y.recs[p4],jr4,zs[q].1,(Am,cm),⟨(hv.recs p4 hpl4).1.small,by omega⟩,rfl,by simp only [partRcd,List.cons_append,List.nil_append];exact HM.sb⟩
  clear HM hpl hV
  clear p jr g6
  rintro ⟨g6,y2,j2⟩ W1 ⟨⟨hy,hyb⟩,HM⟩
  dsimp only at hy hyb HM ⊢
  simp only [partRcd,List.cons_append,List.nil_append] at HM
  refine c_seq ?_
  refine c_cutn (σ:=Nat × Rcd × AtRcd) (fun s=>[(2,.pointer (some ⟨g2,0,none⟩)),(3,.pointer (some ⟨g3,0,none⟩)),(4,.pointer (some ⟨gr,0,none⟩)),(6,.pointer (some ⟨s.1,0,none⟩))]) (fun s W1=>(SmallR s.2.1 ∧ Bd s.2.1) ∧ Mem w0 W1 (rdr A bs1.length c 7000 gr :: box g2 31 [.int .i64 0,.int .i64 0,.bool false,.int .i64 0,.int .i64 0,.slice none 0 0,.int .i64 0,.int .i64 0,.slice none 0 0,.slice none 0 0,.slice none 0 0,.bool false,.bool false,.int .i64 0,.slice none 0 0,.slice none 0 0,.slice none 0 0,.int .i64 0] :: box g3 40 [.int .i64 0,.int .i64 0,.int .i64 0,.int .i64 0,.int .i64 0,.int .i64 0,.string ⟨#[]⟩,.slice none 0 0] :: box s.1 31 [.int .i64 s.2.1.number,.int .i64 s.2.1.of,.bool s.2.1.up,.int .i64 s.2.1.sp,.int .i64 s.2.1.sk,.slice s.2.2.a0.1 s.2.1.ss.length s.2.2.a0.2,.int .i64 s.2.1.dp,.int .i64 s.2.1.dk,.slice s.2.2.a1.1 s.2.1.ds.length s.2.2.a1.2,.slice s.2.2.a2.1 s.2.1.held.length s.2.2.a2.2,.slice s.2.2.a3.1 s.2.1.wishes.length s.2.2.a3.2,.bool s.2.1.lead,.bool s.2.1.trying,.int .i64 s.2.1.ballot,.slice s.2.2.a4.1 s.2.1.yes.length s.2.2.a4.2,.slice s.2.2.a5.1 s.2.1.best.length s.2.2.a5.2,.slice s.2.2.a6.1 s.2.1.acks.length s.2.2.a6.2,.int .i64 s.2.1.heard] :: (partRcd 91 40 9 3 66 s.2.1 s.2.2 ++ L))) ?_ ?_
  · repeat (first|refine Y ?_|(refine qf ?_;go_at_call 20;refine (pick_c hb1 hl1 _ (by omega) HM).mono ?_;rintro e W1 ⟨v,hp1,rfl,HM1⟩;obtain ⟨p1,rfl⟩ : ∃ k : Nat,v = k:=⟨v.toNat,(by omega)⟩;have hp1b : p1 < 10:=(by omega);refine ⟨_,rfl,?_⟩;replace HM:=HM1;clear HM1))
    by_cases p10 : p1 = 0
    · subst p10
      repeat (first|refine Y ?_|(refine qs ?_;clear HM;intro W1 HM)|(refine qf ?_;go_at_call 19;refine (any_c hb1 hl1 (by omega) HM).mono ?_;rintro e W1 ⟨y3,j3,hy3,hyb2,rfl,HM1⟩;refine ⟨_,rfl,?_⟩;replace HM:=HM1;clear HM1;simp only [partRcd,List.cons_append,List.nil_append] at HM;simp only [encRcd]))
      exact n_mid (g6,y3,j3) U ⟨⟨hy3,hyb2⟩,by dsimp only;simp only [partRcd,List.cons_append,List.nil_append];exact (HM.rdr_to (g:=gr) (q':=7000) (by omega)).sb⟩
    · repeat ((refine gC ?_;first|refine c_skip ?_|refine c_no rfl (by (simp;omega)) ?_))
      exact n_mid (g6,y2,j2) U ⟨⟨hy,hyb⟩,by dsimp only;simp only [partRcd,List.cons_append,List.nil_append];exact (HM.rdr_to (g:=gr) (q':=7000) (by omega)).sb⟩
  clear HM hy hyb
  clear y2 j2 g6
  rintro ⟨g6,y2,j2⟩ W1 ⟨⟨hy,hyb⟩,HM⟩
  dsimp only at hy hyb HM ⊢
  simp only [partRcd,List.cons_append,List.nil_append] at HM
  repeat (first|refine Y ?_|(refine qs ?_;clear HM;intro W1 HM)|(refine qf ?_;first|(go_at_call 54;refine (msg_c y2 j2 hyb hb1 hl1 (by omega) HM).mono ?_;rintro e W1 ⟨m,am,hm,rfl,HM1⟩;refine ⟨_,rfl,?_⟩;replace HM:=HM1;clear HM1;simp only [encMsg])|(go_at_call 20;refine (pick_c hb1 hl1 _ (by omega) HM).mono ?_;rintro e W1 ⟨v,hp2,rfl,HM1⟩;obtain ⟨p2,rfl⟩ : ∃ k : Nat,v = k:=⟨v.toNat,(by omega)⟩;have hp2b : p2 < 16:=(by omega);refine ⟨_,rfl,?_⟩;replace HM:=HM1;clear HM1))|(refine qg ?_;clear HM;intro g W1 HM))
  by_cases p20 : p2 = 0
  · subst p20
    repeat (first|refine Y ?_|(refine qs ?_;clear HM;intro W1 HM))
    refine gR ?_
    refine x_start (ds:=[3]) HM (fun w hw=>(hw.sb : Mem w0 w (box g6 31 [.int .i64 y2.number,.int .i64 y2.of,.bool y2.up,.int .i64 y2.sp,.int .i64 y2.sk,.slice j2.a0.1 y2.ss.length j2.a0.2,.int .i64 y2.dp,.int .i64 y2.dk,.slice j2.a1.1 y2.ds.length j2.a1.2,.slice j2.a2.1 y2.held.length j2.a2.2,.slice j2.a3.1 y2.wishes.length j2.a3.2,.bool y2.lead,.bool y2.trying,.int .i64 y2.ballot,.slice j2.a4.1 y2.yes.length j2.a4.2,.slice j2.a5.1 y2.best.length j2.a5.2,.slice j2.a6.1 y2.acks.length j2.a6.2,.int .i64 y2.heard] :: box g 40 [.int .i64 m.kind,.int .i64 m.frm,.int .i64 1,.int .i64 m.ballot,.int .i64 m.index,.int .i64 m.known,.string m.text,.slice am.1 m.slots.length am.2] :: L))) (by kernel_rfl) (by kernel_rfl) qq ?_
    intro HQ HS W1 HM1;replace HM:=HM1;clear HM1
    refine x_ld HQ HS 0 rfl (by kernel_rfl) (by kernel_rfl) (by kernel_rfl) (by kernel_rfl) (l':=#[true,false,false,false]) (by kernel_rfl) rfl ?_
    refine Y ?_
    refine x_ld HQ HS 1 rfl (by kernel_rfl) (by kernel_rfl) (by kernel_rfl) (by kernel_rfl) (l':=#[true,true,false,false]) (by kernel_rfl) rfl ?_
    refine Y ?_
    refine x_one 2 (by kernel_rfl) rfl (l':=#[true,true,true,false]) (by kernel_rfl) (x_go ?_)
    repeat (first|(refine qs ?_;clear HM;intro W1 HM)|refine Y ?_)
    refine x_last 3 (by kernel_rfl) rfl (l':=#[true,true,true,true]) (by kernel_rfl) (by kernel_rfl) rfl ?_
    repeat (first|(refine qs ?_;clear HM;intro W1 HM)|refine Y ?_)
    exact ret_cc (g':=g3) HM rfl rfl rfl rfl rfl ⟨y2,j2,⟨m.kind,m.frm,1,m.ballot,m.index,m.known,m.text,m.slots⟩,am,⟨hy,by dsimp only;omega⟩,rfl,by simp only [partRcd,List.cons_append,List.nil_append];exact HM.sb⟩
  repeat refine Y ?_
  refine gR ?_
  refine x_start (ds:=[3]) HM (fun w hw=>(hw.sb : Mem w0 w (box g6 31 [.int .i64 y2.number,.int .i64 y2.of,.bool y2.up,.int .i64 y2.sp,.int .i64 y2.sk,.slice j2.a0.1 y2.ss.length j2.a0.2,.int .i64 y2.dp,.int .i64 y2.dk,.slice j2.a1.1 y2.ds.length j2.a1.2,.slice j2.a2.1 y2.held.length j2.a2.2,.slice j2.a3.1 y2.wishes.length j2.a3.2,.bool y2.lead,.bool y2.trying,.int .i64 y2.ballot,.slice j2.a4.1 y2.yes.length j2.a4.2,.slice j2.a5.1 y2.best.length j2.a5.2,.slice j2.a6.1 y2.acks.length j2.a6.2,.int .i64 y2.heard] :: box g 40 [.int .i64 m.kind,.int .i64 m.frm,.int .i64 m.to,.int .i64 m.ballot,.int .i64 m.index,.int .i64 m.known,.string m.text,.slice am.1 m.slots.length am.2] :: L))) (by kernel_rfl) (by kernel_rfl) qq ?_
  intro HQ HS W1 HM1;replace HM:=HM1;clear HM1
  refine x_ld HQ HS 0 rfl (by kernel_rfl) (by kernel_rfl) (by kernel_rfl) (by kernel_rfl) (l':=#[true,false,false,false]) (by kernel_rfl) rfl ?_
  refine Y ?_
  refine x_ld HQ HS 1 rfl (by kernel_rfl) (by kernel_rfl) (by kernel_rfl) (by kernel_rfl) (l':=#[true,true,false,false]) (by kernel_rfl) rfl ?_
  refine Y ?_
  refine x_one 2 (by kernel_rfl) rfl (l':=#[true,true,true,false]) (by kernel_rfl) (x_go ?_)
  repeat (first|(refine qs ?_;clear HM;intro W1 HM)|refine Y ?_)
  refine x_last 3 (by kernel_rfl) rfl (l':=#[true,true,true,true]) (by kernel_rfl) (by kernel_rfl) rfl ?_
  repeat (first|(refine qs ?_;clear HM;intro W1 HM)|refine Y ?_)
  exact ret_cc (g':=g3) HM rfl rfl rfl rfl rfl ⟨y2,j2,m,am,⟨hy,by omega⟩,rfl,by simp only [partRcd,List.cons_append,List.nil_append];exact HM.sb⟩
end Go.Proofs.YtampmicahnnebaaGreat.Sp
namespace Go.Proofs.YtampmicahnnebaaGreat.Sp
open Go Go.RowKit
set_option maxRecDepth 10000
set_option maxHeartbeats 2000000
variable {w0 W : World} {L : List Asn} {A B : Option Addr} {c d : Nat} {b b2 : Bool}
theorem recMergeM {xs ys : List Slot} (ha : RoRow (rSlot b) w0 A xs) (hb : RoRow (rSlot b2) w0 B ys) (hn : xs.length ≤ 1048576) (hm : ys.length ≤ 1048576) (HM : Mem w0 W L) : Calls Tryz.prog 100 #[.slice A xs.length c,.slice B ys.length d] W fun e W'=>∃ A' c',e = .returned (.slice A' (mergeL xs ys).length c') ∧ Mem w0 W' (own tSlot 91 A' c' (mergeL xs ys) :: L):=by
  refine enter Tryz.func100 rfl Tryz.ntmps100 [(0,_),(1,_)] rfl ⟨rfl,rfl,trivial⟩ ?_
  replace HM:=HM.rod ha
  repeat (first|refine Y ?_|(refine qa ?_;clear HM;intro A1 c1 W1 HM))
  replace HM:=HM.rod hb
  refine c_loop2 (σ:=Nat × List Slot) (fun s A1 c1=>[(10,.slice B ys.length d),(11,.int .i64 ys.length),(5,.slice A1 s.2.length c1),(12,.int .i64 s.1)]) (fun s A1 c1 W1=>s.1 ≤ ys.length ∧ s.2 = mergeL xs (ys.take s.1) ∧ Mem w0 W1 (own tSlot 91 A1 c1 s.2 :: ro (rSlot b2) w0 B ys :: L)) (fun s=>ys.length - s.1) (0,xs) A1 c1 U ⟨Nat.zero_le _,by simp [mergeL_nil],HM.sb⟩ ?_
  clear HM
  rintro ⟨k,zs⟩ A1 c1 W1 ⟨hk,hz,HM⟩
  dsimp only at hk hz HM ⊢
  have hzl : zs.length = max xs.length (min k ys.length):=by rw [hz,mergeL_len];simp
  by_cases hlt : k < ys.length
  · by_cases h1 : k = zs.length
    · have e1:=mergeL_app xs ys k hlt (by omega)
      rw [← hz,← rdR_at (D:=rSlot b2) hlt] at e1
      subst h1
      repeat (first|(refine gGV ?_;refine gv (p_loadwf rfl rfl rfl (by omega) (by omega)) ?_;simp only [encSlot])|refine Y ?_|(refine qs ?_;clear HM;intro W1 HM)|(refine qa ?_;clear HM;intro A1 c1 W1 HM)|(refine qg ?_;clear HM;intro g W1 HM))
      exact n_round2 (zs.length + 1,zs ++ [_]) A1 c1 U ⟨by dsimp only;omega,e1.symm,HM.sb⟩ (by dsimp only;omega)
    · have hkx : k < xs.length:=by omega
      have hkz : k < zs.length:=by omega
      have e0 : rd tSlot zs k = xs[k]:=by rw [rd_at (d:=tSlot) hkz];subst hz;exact mergeL_at xs ys k hkx hkz
      have e1:=mergeL_set xs ys k hlt hkx
      rw [← hz,← rdR_at (D:=rSlot b2) hlt,← e0] at e1
      by_cases h2 : (rd tSlot zs k).ballot < (rdR (rSlot b2) ys k).ballot
      · rw [mgS,if_pos h2] at e1
        repeat (first|(refine gR ?_;refine d_start [] [(0,0),(0,2),(0,3),(0,4),(0,5),(1,1),(1,6),(0,7),(0,8)] HM (by kernel_rfl) (by kernel_rfl) qq (by kernel_rfl) rfl ?_;intro HQ HS W1 HM1;replace HM:=HM1;clear HM1)|(refine gGV ?_;refine gv (p_loadwf rfl rfl rfl (by omega) (by omega)) ?_;simp only [encSlot])|refine Y ?_|(refine qs ?_;clear HM;intro W1 HM)|(refine gStore ?_;refine s_storew HM rfl rfl rfl (by omega) (by omega) rfl ?_;clear HM;intro W1 HM)|(refine qg ?_;clear HM;intro g W1 HM))
        simp only [Int.toNat_natCast] at HM
        exact n_round2 (k + 1,zs.set k _) A1 c1 (by simp only [List.length_set];exact U) ⟨by dsimp only;omega,e1.symm,HM.sb⟩ (by dsimp only;omega)
      · rw [mgS,if_neg h2,rd_at (d:=tSlot) hkz,List.set_getElem_self] at e1
        repeat (first|(refine gR ?_;refine d_start [] [(0,0),(0,2),(0,3),(0,4),(0,5),(1,1),(1,6),(0,7),(0,8)] HM (by kernel_rfl) (by kernel_rfl) qq (by kernel_rfl) rfl ?_;intro HQ HS W1 HM1;replace HM:=HM1;clear HM1)|(refine gGV ?_;refine gv (p_loadwf rfl rfl rfl (by omega) (by omega)) ?_;simp only [encSlot])|refine Y ?_|(refine qs ?_;clear HM;intro W1 HM)|(refine qg ?_;clear HM;intro g W1 HM))
        exact n_round2 (k + 1,zs) A1 c1 U ⟨by dsimp only;omega,e1.symm,HM.sb⟩ (by dsimp only;omega)
  · obtain rfl : k = ys.length:=by omega
    rw [List.take_length] at hz
    subst hz
    repeat refine Y ?_
    exact ret_tmp rfl rfl ⟨A1,c1,rfl,HM.sb⟩
theorem promM (x : Rcd) (i : AtRcd) (gr : Nat) (f : Int) {B : Option Addr} {d : Nat} {bs : List Slot} (hb : ∀ W',Mem w0 W' (own tSlot 91 i.a1.1 i.a1.2 x.ds :: L) → RoRow (rSlot b) W' B bs) (h0 : 0 ≤ x.dk) (hy : x.yes.Pairwise (· < ·)) (h1 : x.yes.length ≤ 1000) (h2 : x.best.length ≤ 1048576) (h3 : bs.length ≤ 1048576) (h4 : x.ds.length ≤ 1048576) (HM : Mem w0 W (boxR 91 40 9 3 66 31 gr x i ++ L)) : Calls Tryz.prog 68 #[.pointer (some ⟨gr,0,none⟩),.int .i64 f,.slice B bs.length d] W fun e W'=>∃ j,e = .returned (.tuple #[]) ∧ Mem w0 W' (boxR 91 40 9 3 66 31 gr (promL x f bs) j ++ L):=by
  refine enter Tryz.func68 rfl Tryz.ntmps68 [(0,_),(1,_),(2,_)] rfl ⟨rfl,rfl,rfl,trivial⟩ ?_
  have hal:=addL_len x.yes f
  have hml:=mergeL_len x.best bs
  simp only [boxR,partRcd,List.cons_append,List.nil_append] at HM
  by_cases hs : 2 * ((addL x.yes f).length : Int) ≤ x.of
  · have e : promL x f bs = gotL x f bs:=if_pos hs
    rw [e]
    repeat (first|(refine gR ?_;refine d_start [] [(0,0),(0,1),(0,2),(0,6),(0,7),(0,8),(1,3),(0,4),(0,5),(1,9),(0,10)] HM (by kernel_rfl) (by kernel_rfl) qq (by kernel_rfl) rfl ?_;intro HQ HS W1 HM1;replace HM:=HM1;clear HM1)|refine Y ?_|(refine qs ?_;clear HM;intro W1 HM)|(refine qf ?_;first|(go_at_call 99;refine (joinC (xs:=x.yes) (A:=i.a4.1) (c:=i.a4.2) f hy h1 (by exact HM.pk)).mono ?_;rintro e2 W2 ⟨A2,c2,rfl,HM1⟩;refine ⟨_,rfl,?_⟩;replace HM:=HM1;clear HM1)|(go_at_call 100;obtain ⟨F1,hF1⟩:=HM.own (A:=i.a5.1);have hbs:=hb _ (by exact HM.sb);refine (recMergeM (ro_slots hF1) hbs h2 h3 (Mem.start _)).mono ?_;clear hF1 hbs;rintro e W1 ⟨A3,c3,rfl,HM1⟩;refine ⟨_,rfl,?_⟩;replace HM:=HM.join HM1;clear HM1;simp only [List.cons_append,List.nil_append] at HM)))
    exact ret_none rfl ⟨⟨i.a0,i.a1,i.a2,i.a3,(A2,c2),(A3,c3),i.a6⟩,rfl,by simp only [gotL,boxR,partRcd,List.cons_append,List.nil_append];exact HM.sb⟩
  have hlead : True:=trivial
  repeat (first|(refine gR ?_;refine d_start [] [(0,0),(0,1),(0,2),(0,6),(0,7),(0,8),(1,3),(0,4),(0,5),(1,9),(0,10)] HM (by kernel_rfl) (by kernel_rfl) qq (by kernel_rfl) rfl ?_;intro HQ HS W1 HM1;replace HM:=HM1;clear HM1)|refine Y ?_|(refine qs ?_;clear HM;intro W1 HM)|(refine qf ?_;first|(go_at_call 99;refine (joinC (xs:=x.yes) (A:=i.a4.1) (c:=i.a4.2) f hy h1 (by exact HM.pk)).mono ?_;rintro e2 W2 ⟨A2,c2,rfl,HM1⟩;refine ⟨_,rfl,?_⟩;replace HM:=HM1;clear HM1)|(go_at_call 100;obtain ⟨F1,hF1⟩:=HM.own (A:=i.a5.1);have hbs:=hb _ (by exact HM.sb);refine (recMergeM (ro_slots hF1) hbs h2 h3 (Mem.start _)).mono ?_;clear hF1 hbs;rintro e W1 ⟨A3,c3,rfl,HM1⟩;refine ⟨_,rfl,?_⟩;replace HM:=HM.join HM1;clear HM1;simp only [List.cons_append,List.nil_append] at HM)))
  have hq : ((x.dk.toNat : Nat) : Int) = x.dk:=by omega
  have HM2:=(((HM.nil tInt 3).nil tSlot 91).nil (tAck 3) 66).pk (A:=own tSlot 91 A3 c3 (mergeL x.best bs))
  have HM0:=(show Mem w0 _ (boxR 91 40 9 3 66 31 gr (wonL (gotL x f bs)) ⟨i.a0,i.a1,i.a2,i.a3,(none,0),(none,0),(none,0)⟩ ++ _) from pk_boxr (x:={ x with lead:=true,trying:=false,ballot:=x.ballot,yes:=[],best:=[],acks:=[] }) (i:=⟨i.a0,i.a1,i.a2,i.a3,(none,0),(none,0),(none,0)⟩) HM2)
  clear HM HM2
  have ep : promL x f bs = layL x.ballot (mergeL x.best bs) ((mergeL x.best bs).length - x.dk.toNat) x.dk.toNat (wonL (gotL x f bs)):=if_neg hs
  rw [ep]
  generalize htg : layL x.ballot (mergeL x.best bs) ((mergeL x.best bs).length - x.dk.toNat) x.dk.toNat (wonL (gotL x f bs)) = tg
  have hbl : (mergeL x.best bs).length ≤ 1048576:=by omega
  have hy0 : (wonL (gotL x f bs)).ds.length ≤ 1048576:=h4
  have hb0 : (wonL (gotL x f bs)).ballot = x.ballot:=rfl
  generalize wonL (gotL x f bs) = y0 at HM0 htg hy0 hb0
  generalize mergeL x.best bs = best at *
  refine c_loop (σ:=Nat × Rcd) (fun s=>[(0,.pointer (some ⟨gr,0,none⟩)),(6,.slice A3 best.length c3),(7,.int .i64 s.1)]) (fun s W1=>layL x.ballot best (best.length - s.1) s.1 s.2 = tg ∧ s.2.ds.length ≤ 1048576 ∧ s.2.ballot = x.ballot ∧ ∃ j,Mem w0 W1 (boxR 91 40 9 3 66 31 gr s.2 j ++ (own tSlot 91 A3 c3 best :: _))) (fun s=>best.length - s.1) (x.dk.toNat,y0) (by simp only [hq];exact U) ⟨htg,hy0,hb0,_,HM0⟩ ?_
  clear HM0
  rintro ⟨k,y⟩ W1 ⟨hl,hy,hb1,j,HM⟩
  dsimp only at hl hy hb1 HM ⊢
  simp only [boxR,partRcd,List.cons_append,List.nil_append] at HM
  by_cases hlt : k < best.length
  · have hst : layL x.ballot best (best.length - (k + 1)) (k + 1) (setL y ((k : Int) + 1) ⟨y.ballot,(rd tSlot best k).text⟩) = tg:=by
      rw [← hl,show best.length - k = (best.length - (k + 1)) + 1 by omega,hb1];rfl
    have hds:=setL_ds y ((k : Int) + 1) ⟨y.ballot,(rd tSlot best k).text⟩
    repeat (first|(refine gR ?_;refine d_start [13] [(0,0),(0,1),(0,2),(0,3),(0,4),(0,5),(0,7),(0,8),(0,9),(0,10),(1,6),(1,11),(2,12),(3,13)] HM (by kernel_rfl) (by kernel_rfl) qq (by kernel_rfl) rfl ?_;intro HQ HS W1 HM1;replace HM:=HM1;clear HM1)|refine Y ?_|(refine qf ?_;go_at_call 94;refine (slotM y j gr ((k : Int) + 1) ⟨y.ballot,(rd tSlot best k).text⟩ (by omega) (by omega) hy (by exact pk_boxr HM)).mono ?_;rintro e W1 ⟨j2,rfl,HM1⟩;refine ⟨_,rfl,?_⟩;replace HM:=HM1;clear HM1;simp only [boxR,partRcd,List.cons_append,List.nil_append] at HM))
    exact n_round (k + 1,setL y ((k : Int) + 1) ⟨y.ballot,(rd tSlot best k).text⟩) U ⟨hst,by rw [hds];omega,hb1,j2,by exact pk_boxr HM⟩ (by dsimp only;omega)
  · rw [show best.length - k = 0 by omega] at hl
    subst hl
    repeat refine Y ?_
    exact end_none rfl ⟨j,rfl,by simp only [layL,boxR,partRcd,List.cons_append,List.nil_append];exact HM.sb⟩
end Go.Proofs.YtampmicahnnebaaGreat.Sp
namespace Go.Proofs.YtampmicahnnebaaGreat.Sp
open Go Go.RowKit
set_option maxRecDepth 10000
set_option maxHeartbeats 4000000
variable {w0 W : World} {L : List Asn} {A B : Option Addr} {c d : Nat} {b : Bool}
theorem p_slotNe {E : Env} {x y : Operand} {yt : TypeId} {s u : Slot} (hs : SlotK s) (hu : SlotK u) (hx : ev E x = some (.agg (encSlot s ()).toArray)) (hy : ev E y = some (.agg (encSlot u ()).toArray)) : PV Tryz.prog E (.binOp .neq 91 x y yt) (.bool (!decide (s = u))):=⟨fun n a ha dst ty pos after gd W=>by
  have h:=run_slotEq s u hs hu W
  have h2 : (binOp .neq 91 (.agg (encSlot s ()).toArray) (.agg (encSlot u ()).toArray)).run Tryz.prog W = .ok (.bool (!decide (s = u))) W:=by
    show ((Op.equal 91 _ _) >>= fun r=>pure (Value.bool (!r)) : Sem Value).run Tryz.prog W = _
    rw [Sem.run_bind,h,Result.andThen_ok,Sem.run_pure]
  simp [execOp,ha.eval hx,ha.eval hy,eqGuard,h2]⟩
theorem wSlots_c {xs : List Slot} (h1 : RoRow (rSlot false) w0 A xs) (h2 : RoRow (rSlot false) w0 B xs) (hn : xs.length ≤ 1048576) (hk : ∀ s ∈ xs,SlotK s) (HM : Mem w0 W L) : Calls Tryz.prog 37 #[.slice A xs.length c,.slice B xs.length d] W fun e W'=>e = .returned (.bool true) ∧ Mem w0 W' L:=by
  refine enter Tryz.func37 rfl Tryz.ntmps37 [(0,_),(1,_)] rfl ⟨rfl,rfl,trivial⟩ ?_
  replace HM:=(HM.rod h1).rod h2
  repeat refine Y ?_
  refine c_loop (σ:=Nat) (fun k=>[(0,.slice A xs.length c),(1,.slice B xs.length d),(5,.int .i64 k)]) (fun k W1=>k ≤ xs.length ∧ Mem w0 W1 _) (fun k=>xs.length - k) 0 U ⟨Nat.zero_le _,HM⟩ ?_
  clear HM
  rintro k W1 ⟨hk1,HM⟩
  by_cases hlt : k < xs.length
  · have hs : SlotK (rdR (rSlot false) xs (k : Int)):=by rw [rdR_at hlt];exact hk _ (List.getElem_mem hlt)
    repeat (first|(refine gGP ?_;refine gGB ?_;refine gp (p_slotNe hs hs rfl rfl) ?_)|(refine gR ?_;refine d_start [] [(0,0),(0,1),(0,2),(0,4),(0,5),(0,6),(1,3),(1,7),(0,8)] HM (by kernel_rfl) (by kernel_rfl) qq (by kernel_rfl) rfl ?_;intro HQ HS W1 HM1;replace HM:=HM1;clear HM1)|refine Y ?_)
    exact n_round (k + 1) U ⟨by omega,HM.sb⟩ (by omega)
  · repeat refine Y ?_
    exact ret_tmp rfl rfl ⟨rfl,HM.sb⟩
end Go.Proofs.YtampmicahnnebaaGreat.Sp
namespace Go.Proofs.YtampmicahnnebaaGreat.Sp
open Go Go.RowKit
set_option maxRecDepth 10000
set_option maxHeartbeats 20000000
variable {w0 W : World} {L : List Asn} {A B : Option Addr} {c c' : Nat}
theorem wNumbers_c {xs : List Int} (h1 : RoRow rInt w0 A xs) (h2 : RoRow rInt w0 B xs) (HM : Mem w0 W L) : Calls Tryz.prog 36 #[.slice A xs.length c,.slice B xs.length c'] W fun e W'=>e = .returned (.bool true) ∧ Mem w0 W' L:=by
  refine enter Tryz.func36 rfl Tryz.ntmps36 [(0,_),(1,_)] rfl ⟨rfl,rfl,trivial⟩ ?_
  have hmax:=h1.max
  replace HM:=(HM.pur h1).pur h2
  repeat refine Y ?_
  refine c_loop (σ:=Nat) (fun i=>[(0,.slice A xs.length c),(1,.slice B xs.length c'),(5,.int .i64 i)]) (fun i W1=>i ≤ xs.length ∧ Mem w0 W1 (ro rInt w0 B xs :: ro rInt w0 A xs :: L)) (fun i=>xs.length - i) 0 U ⟨Nat.zero_le _,HM⟩ ?_
  clear HM
  rintro i W1 ⟨hi,HM⟩
  by_cases hlt : i < xs.length
  · repeat (first|(refine gR ?_;refine d_start [] [(0,0),(0,1),(0,2),(0,4),(0,5),(0,6),(1,3),(1,7),(0,8)] HM (by kernel_rfl) (by kernel_rfl) qq (by kernel_rfl) rfl ?_;intro HQ HS W1 HM1;replace HM:=HM1;clear HM1)|refine Y ?_)
    exact n_round (i + 1) U ⟨by omega,HM.sb⟩ (by omega)
  · repeat refine Y ?_
    exact ret_tmp rfl rfl ⟨rfl,HM.sb⟩
theorem wTexts_c {xs : List ByteArray} (h1 : RoRow (rStr false) w0 A xs) (h2 : RoRow (rStr false) w0 B xs) (HM : Mem w0 W L) : Calls Tryz.prog 35 #[.slice A xs.length c,.slice B xs.length c'] W fun e W'=>e = .returned (.bool true) ∧ Mem w0 W' L:=by
  refine enter Tryz.func35 rfl Tryz.ntmps35 [(0,_),(1,_)] rfl ⟨rfl,rfl,trivial⟩ ?_
  have hmax:=h1.max
  replace HM:=(HM.pur h1).pur h2
  repeat refine Y ?_
  refine c_loop (σ:=Nat) (fun i=>[(0,.slice A xs.length c),(1,.slice B xs.length c'),(5,.int .i64 i)]) (fun i W1=>i ≤ xs.length ∧ Mem w0 W1 (ro (rStr false) w0 B xs :: ro (rStr false) w0 A xs :: L)) (fun i=>xs.length - i) 0 U ⟨Nat.zero_le _,HM⟩ ?_
  clear HM
  rintro i W1 ⟨hi,HM⟩
  by_cases hlt : i < xs.length
  · repeat (first|(refine gR ?_;refine d_start [] [(0,0),(0,1),(0,2),(0,4),(0,5),(0,6),(1,3),(1,7),(0,8)] HM (by kernel_rfl) (by kernel_rfl) qq (by kernel_rfl) rfl ?_;intro HQ HS W1 HM1;replace HM:=HM1;clear HM1)|refine Y ?_)
    exact n_round (i + 1) U ⟨by omega,HM.sb⟩ (by omega)
  · repeat refine Y ?_
    exact ret_tmp rfl rfl ⟨rfl,HM.sb⟩
theorem wMessage_c (x : Msg) (i j : At) (h1 : RoRow (rSlot false) w0 i.1 x.slots) (h2 : RoRow (rSlot false) w0 j.1 x.slots) (hn : x.slots.length ≤ 1048576) (hk : ∀ s ∈ x.slots,SlotK s) (HM : Mem w0 W L) : Calls Tryz.prog 38 #[.agg (encMsg x i).toArray,.agg (encMsg x j).toArray] W fun e W'=>e = .returned (.bool true) ∧ Mem w0 W' L:=by
  refine enter Tryz.func38 rfl Tryz.ntmps38 [(0,.agg (encMsg x i).toArray),(1,.agg (encMsg x j).toArray)] rfl ⟨rfl,rfl,trivial⟩ ?_
  unfold encMsg
  repeat (first|refine Y ?_|(refine qf ?_;go_at_call 37;refine (wSlots_c (xs:=x.slots) h1 h2 (by omega) hk HM).mono ?_;rintro e W1 ⟨rfl,HM1⟩;refine ⟨_,rfl,?_⟩;replace HM:=HM1;clear HM1)|(refine qg ?_;clear HM;intro g W1 HM))
  exact ret_tmp rfl rfl ⟨by simp,HM.sb⟩
theorem wMessages_c {xs : List Msg} (h1 : RoRow (rMsg false) w0 A xs) (h2 : RoRow (rMsg false) w0 B xs) (hn : ∀ m ∈ xs,m.slots.length ≤ 1048576) (hk : ∀ m ∈ xs,∀ s ∈ m.slots,SlotK s) (HM : Mem w0 W L) : Calls Tryz.prog 8 #[.slice A xs.length c,.slice B xs.length c'] W fun e W'=>e = .returned (.bool true) ∧ Mem w0 W' L:=by
  refine enter Tryz.func8 rfl Tryz.ntmps8 [(0,_),(1,_)] rfl ⟨rfl,rfl,trivial⟩ ?_
  have hmax:=h1.max
  replace HM:=(HM.pur h1).pur h2
  repeat refine Y ?_
  refine c_loop (σ:=Nat) (fun i=>[(0,.slice A xs.length c),(1,.slice B xs.length c'),(5,.int .i64 i)]) (fun i W1=>i ≤ xs.length ∧ Mem w0 W1 (ro (rMsg false) w0 B xs :: ro (rMsg false) w0 A xs :: L)) (fun i=>xs.length - i) 0 U ⟨Nat.zero_le _,HM⟩ ?_
  clear HM
  rintro i W1 ⟨hi,HM⟩
  by_cases hlt : i < xs.length
  · obtain ⟨cc,⟨j1,rfl,g1⟩,HM⟩:=HM.roOpen (A:=A) i hlt
    obtain ⟨cc,⟨j2,rfl,g2⟩,HM⟩:=HM.roOpen (A:=B) i hlt
    have hni:=hn _ (List.getElem_mem hlt)
    have hki:=hk _ (List.getElem_mem hlt)
    repeat (first|(refine gR ?_;refine d_start [] [(0,0),(0,1),(0,2),(0,4),(0,5),(0,6),(1,3),(1,7),(2,8),(0,9)] HM (by kernel_rfl) (by kernel_rfl) qq (by kernel_rfl) rfl ?_;intro HQ HS W1 HM1;replace HM:=HM1;clear HM1)|refine Y ?_|(refine qf ?_;go_at_call 38;refine (wMessage_c _ _ _ g1.2 g2.2 hni hki HM).mono ?_;rintro e W1 ⟨rfl,HM1⟩;refine ⟨_,rfl,?_⟩;replace HM:=HM1;clear HM1))
    exact n_round (i + 1) U ⟨by omega,HM.sb⟩ (by omega)
  · repeat refine Y ?_
    exact ret_tmp rfl rfl ⟨rfl,HM.sb⟩
theorem wDisk_c (p k : Int) {xs : List Slot} (h1 : RoRow (rSlot false) w0 A xs) (h2 : RoRow (rSlot false) w0 B xs) (hn : xs.length ≤ 1048576) (hk : ∀ s ∈ xs,SlotK s) (HM : Mem w0 W L) : Calls Tryz.prog 34 #[.agg #[.int .i64 p,.int .i64 k,.slice A xs.length c],.agg #[.int .i64 p,.int .i64 k,.slice B xs.length c']] W fun e W'=>e = .returned (.bool true) ∧ Mem w0 W' L:=by
  refine enter Tryz.func34 rfl Tryz.ntmps34 [(0,.agg #[.int .i64 p,.int .i64 k,.slice A xs.length c]),(1,.agg #[.int .i64 p,.int .i64 k,.slice B xs.length c'])] rfl ⟨rfl,rfl,trivial⟩ ?_
  repeat (first|refine Y ?_|(refine qf ?_;go_at_call 37;refine (wSlots_c (xs:=xs) h1 h2 (by omega) hk HM).mono ?_;rintro e W1 ⟨rfl,HM1⟩;refine ⟨_,rfl,?_⟩;replace HM:=HM1;clear HM1)|(refine qg ?_;clear HM;intro g W1 HM))
  exact ret_tmp rfl rfl ⟨by simp,HM.sb⟩
structure RcdK (x : Rcd) : Prop where
  ss : ∀ s ∈ x.ss,SlotK s
  ds : ∀ s ∈ x.ds,SlotK s
  best : ∀ s ∈ x.best,SlotK s
  held : ∀ m ∈ x.held,∀ s ∈ m.slots,SlotK s
theorem wRecorder_c (x : Rcd) (i j : AtRcd) (h1 : RoRcd false w0 x i) (h2 : RoRcd false w0 x j) (hn : SmallR x) (hk : RcdK x) (HM : Mem w0 W L) : Calls Tryz.prog 7 #[.agg (encRcd x i).toArray,.agg (encRcd x j).toArray] W fun e W'=>e = .returned (.bool true) ∧ Mem w0 W' L:=by
  refine enter Tryz.func7 rfl Tryz.ntmps7 [(0,.agg (encRcd x i).toArray),(1,.agg (encRcd x j).toArray)] rfl ⟨rfl,rfl,trivial⟩ ?_
  have g1:=h1.acks
  have g2:=h2.acks
  have gmax:=g1.max
  unfold encRcd
  replace HM:=(HM.rod g1).rod g2
  repeat (first|refine Y ?_|(refine qf ?_;first|(go_at_call 34;first|((with_reducible refine (wDisk_c x.sp x.sk h1.ss h2.ss hn.ss hk.ss HM).mono ?_);rintro e W1 ⟨rfl,HM1⟩;refine ⟨_,rfl,?_⟩;replace HM:=HM1;clear HM1)|((with_reducible refine (wDisk_c x.dp x.dk h1.ds h2.ds hn.ds hk.ds HM).mono ?_);rintro e W1 ⟨rfl,HM1⟩;refine ⟨_,rfl,?_⟩;replace HM:=HM1;clear HM1))|(go_at_call 8;refine (wMessages_c h1.held h2.held hn.helds hk.held HM).mono ?_;rintro e W1 ⟨rfl,HM1⟩;refine ⟨_,rfl,?_⟩;replace HM:=HM1;clear HM1)|(go_at_call 35;refine (wTexts_c h1.wishes h2.wishes HM).mono ?_;rintro e W1 ⟨rfl,HM1⟩;refine ⟨_,rfl,?_⟩;replace HM:=HM1;clear HM1)|(go_at_call 36;refine (wNumbers_c h1.yes h2.yes HM).mono ?_;rintro e W1 ⟨rfl,HM1⟩;refine ⟨_,rfl,?_⟩;replace HM:=HM1;clear HM1)|(go_at_call 37;refine (wSlots_c h1.best h2.best hn.best hk.best HM).mono ?_;rintro e W1 ⟨rfl,HM1⟩;refine ⟨_,rfl,?_⟩;replace HM:=HM1;clear HM1))|(refine qg ?_;clear HM;intro g W1 HM))
  rename_i gb Wz Wa Wb Wc Wd We Wf
  refine c_loop (σ:=Nat) (fun k=>[(2,.pointer (some ⟨gb,0,none⟩)),(3,.pointer (some ⟨g,0,none⟩)),(5,.int .i64 k)]) (fun k W1=>k ≤ x.acks.length ∧ Mem w0 W1 _) (fun k=>x.acks.length - k) 0 U ⟨Nat.zero_le _,HM⟩ ?_
  clear HM
  rintro k W1 ⟨hk1,HM⟩
  by_cases hlt : k < x.acks.length
  · obtain ⟨cc,⟨j1,rfl,q1⟩,HM⟩:=HM.roOpen (A:=i.a6.1) k hlt
    obtain ⟨cc,⟨j2,rfl,q2⟩,HM⟩:=HM.roOpen (A:=j.a6.1) k hlt
    unfold encAck at HM
    repeat (first|refine Y ?_|(refine gR ?_;refine d_start [] [(0,0),(0,2),(0,6),(0,8),(1,1),(0,3),(0,4),(1,5),(1,7),(0,9),(0,10),(1,11),(0,12),(0,13),(0,14),(0,16),(0,20),(0,22),(1,15),(0,17),(0,18),(1,19),(1,21),(0,23),(0,24),(1,25),(2,26),(0,27),(0,28)] HM (by kernel_rfl) (by kernel_rfl) qq (by kernel_rfl) rfl ?_;intro HQ HS W1 HM1;replace HM:=HM1;clear HM1)|(refine qf ?_;go_at_call 36;refine (wNumbers_c q1 q2 HM).mono ?_;rintro e W1 ⟨rfl,HM1⟩;refine ⟨_,rfl,?_⟩;replace HM:=HM1;clear HM1))
    exact n_round (k + 1) U ⟨by omega,HM.sb⟩ (by omega)
  · repeat refine Y ?_
    exact ret_tmp rfl rfl ⟨rfl,HM.sb⟩
end Go.Proofs.YtampmicahnnebaaGreat.Sp
namespace Go.Proofs.YtampmicahnnebaaGreat.Sp
open Go Go.RowKit
set_option maxRecDepth 10000
set_option maxHeartbeats 2000000
variable {w0 W : World} {L : List Asn} {A : Option Addr} {c : Nat}
theorem tick1Fn (s : Slot) (g7 : Nat) (w : ByteArray) [hB : RoBAt L g7 w0 9 [.string w]] (HM : Mem w0 W L) : Calls Tryz.prog 71 #[.agg (encSlot s ()).toArray,.pointer (some ⟨g7,0,none⟩)] W fun e W'=>e = .returned (.bool (decide (0 < s.ballot) && decide (s.text = w))) ∧ Mem w0 W' L:=by
  refine enter Tryz.func71 rfl Tryz.ntmps71 [(0,.agg (encSlot s ()).toArray),(1,_)] rfl ⟨rfl,rfl,trivial⟩ ?_
  unfold encSlot
  by_cases c1 : 0 < s.ballot
  · repeat (first|refine Y ?_|(refine qg ?_;clear HM;intro g W1 HM))
    exact ret_tmp rfl rfl ⟨by simp [c1],HM.sb⟩
  · repeat (first|refine Y ?_|(refine qg ?_;clear HM;intro g W1 HM))
    exact ret_tmp rfl rfl ⟨by simp [c1],HM.sb⟩
theorem indexSlot {zs : List Slot} (g7 : Nat) (w : ByteArray) [hB : RoBAt L g7 w0 9 [.string w]] (hr : RoRow (rSlot false) w0 A zs) (hn : zs.length ≤ 1048576) (HM : Mem w0 W L) : Calls Tryz.prog 104 #[.slice A zs.length c,.func (.func 71) #[] #[.pointer (some ⟨g7,0,none⟩)]] W fun e W'=>∃ r : Int,e = .returned (.int .i64 r) ∧ decide (0 ≤ r) = hasB zs w ∧ Mem w0 W' L:=by
  refine enter Tryz.func104 rfl Tryz.ntmps104 [(0,_),(1,_)] rfl ⟨rfl,rfl,trivial⟩ ?_
  repeat refine Y ?_
  refine c_loop (σ:=Nat) (fun k=>[(0,.slice A zs.length c),(1,.func (.func 71) #[] #[.pointer (some ⟨g7,0,none⟩)]),(7,.int .i64 zs.length),(8,.int .i64 k)]) (fun k W1=>k ≤ zs.length ∧ (zs.take k).any (fun s=>decide (0 < s.ballot) && decide (s.text = w)) = false ∧ Mem w0 W1 L) (fun k=>zs.length - k) 0 U ⟨Nat.zero_le _,by simp,HM⟩ ?_
  clear HM
  rintro k W1 ⟨hk,hp,HM⟩
  by_cases hlt : k < zs.length
  · replace HM:=HM.rod hr
    have e0:=rdR_at (D:=rSlot false) hlt
    by_cases c1 : (decide (0 < (rdR (rSlot false) zs k).ballot) && decide ((rdR (rSlot false) zs k).text = w)) = true
    · have hh : hasB zs w = true:=any_hit hlt (by rw [← e0];exact c1)
      repeat (first|(refine gCall ?_;refine s_callv (f:=71) (first:=[]) (captured:=[.pointer (some ⟨g7,0,none⟩)]) rfl rfl rfl ?_;refine (tick1Fn (rdR (rSlot false) zs k) g7 w HM).mono ?_;rintro e W1 ⟨rfl,HM1⟩;refine ⟨_,rfl,?_⟩;replace HM:=HM1;clear HM1)|refine Y ?_)
      exact ret_tmp rfl rfl ⟨k,rfl,by rw [hh];simp,HM.drop⟩
    · simp only [Bool.not_eq_true] at c1
      have hp2:=any_succ hlt hp (by rw [← e0];exact c1)
      repeat (first|(refine gCall ?_;refine s_callv (f:=71) (first:=[]) (captured:=[.pointer (some ⟨g7,0,none⟩)]) rfl rfl rfl ?_;refine (tick1Fn (rdR (rSlot false) zs k) g7 w HM).mono ?_;rintro e W1 ⟨rfl,HM1⟩;refine ⟨_,rfl,?_⟩;replace HM:=HM1;clear HM1)|refine Y ?_)
      exact n_round (k + 1) U ⟨by omega,hp2,HM.drop⟩ (by omega)
  · obtain rfl : k = zs.length:=by omega
    rw [List.take_length] at hp
    have hh : hasB zs w = false:=hp
    repeat refine Y ?_
    exact ret_tmp rfl rfl ⟨-1,rfl,by rw [hh];rfl,HM⟩
theorem containsSlot {zs : List Slot} (g7 : Nat) (w : ByteArray) [hB : RoBAt L g7 w0 9 [.string w]] (hr : RoRow (rSlot false) w0 A zs) (hn : zs.length ≤ 1048576) (HM : Mem w0 W L) : Calls Tryz.prog 70 #[.slice A zs.length c,.func (.func 71) #[] #[.pointer (some ⟨g7,0,none⟩)]] W fun e W'=>e = .returned (.bool (hasB zs w)) ∧ Mem w0 W' L:=by
  refine enter Tryz.func70 rfl Tryz.ntmps70 [(0,_),(1,_)] rfl ⟨rfl,rfl,trivial⟩ ?_
  repeat (first|refine Y ?_|(refine qf ?_;go_at_call 104;refine (indexSlot g7 w hr hn HM).mono ?_;rintro e W1 ⟨r,rfl,hr2,HM1⟩;refine ⟨_,rfl,?_⟩;replace HM:=HM1;clear HM1))
  exact ret_tmp rfl rfl ⟨by rw [hr2],HM⟩
end Go.Proofs.YtampmicahnnebaaGreat.Sp
namespace Go.Proofs.YtampmicahnnebaaGreat.Sp
open Go Go.RowKit
set_option maxRecDepth 10000
set_option maxHeartbeats 2000000
variable {w0 W : World} {L : List Asn}
theorem tickFn2 (x : Rcd) (i : AtRcd) (gr : Nat) (to : Int) {g3 g1 : Nat} {A : Option Addr} {c : Nat} {o : List Msg} (hl : o.length ≤ 100000) (HM : Mem w0 W (own (tMsg 91) 40 A c o :: box g3 26 [.slice A o.length c] :: box g1 93 [.pointer (some ⟨gr,0,none⟩)] :: (boxR 91 40 9 3 66 31 gr x i ++ L))) : Calls Tryz.prog 73 #[.int .i64 to,.pointer (some ⟨g3,0,none⟩),.pointer (some ⟨g1,0,none⟩)] W fun e W'=>∃ A' c',e = .returned (.tuple #[]) ∧ Mem w0 W' (own (tMsg 91) 40 A' c' (o ++ [(⟨5,x.number,to,x.ballot,0,x.dk,⟨#[]⟩,[]⟩ : Msg)]) :: box g3 26 [.slice A' (o ++ [(⟨5,x.number,to,x.ballot,0,x.dk,⟨#[]⟩,[]⟩ : Msg)]).length c'] :: box g1 93 [.pointer (some ⟨gr,0,none⟩)] :: (boxR 91 40 9 3 66 31 gr x i ++ L)):=by
  refine enter Tryz.func73 rfl Tryz.ntmps73 [(0,_),(1,_),(2,_)] rfl ⟨rfl,rfl,rfl,trivial⟩ ?_
  simp only [boxR,partRcd,List.cons_append,List.nil_append] at HM
  repeat (first|(refine gR ?_;refine d_start [17,18] [(0,5),(1,0),(1,1),(0,2),(0,3),(1,4),(1,6),(0,7),(0,8),(1,9),(1,10),(0,11),(0,12),(0,13),(1,14),(2,15),(2,16),(3,17),(3,18)] HM (by kernel_rfl) (by kernel_rfl) qq (by kernel_rfl) rfl ?_;intro HQ HS W1 HM1;replace HM:=HM1;clear HM1)|refine Y ?_|(refine qs ?_;clear HM;intro W1 HM)|(refine qa ?_;clear HM;intro A1 c1 W1 HM)|(refine qg ?_;clear HM;intro g W1 HM))
  exact end_none rfl ⟨A1,c1,rfl,by simp only [boxR,partRcd,List.cons_append,List.nil_append];exact HM.sb⟩
theorem others2M (x : Rcd) (i : AtRcd) (gr : Nat) {g3 g1 : Nat} {A : Option Addr} {c : Nat} {o : List Msg} (hof : 0 ≤ x.of ∧ x.of ≤ 5) (hl : o.length ≤ 90000) (HM : Mem w0 W (own (tMsg 91) 40 A c o :: box g3 26 [.slice A o.length c] :: box g1 93 [.pointer (some ⟨gr,0,none⟩)] :: (boxR 91 40 9 3 66 31 gr x i ++ L))) : Calls Tryz.prog 72 #[.pointer (some ⟨gr,0,none⟩),.func (.func 73) #[] #[.pointer (some ⟨g3,0,none⟩),.pointer (some ⟨g1,0,none⟩)]] W fun e W'=>∃ A' c',e = .returned (.tuple #[]) ∧ Mem w0 W' (own (tMsg 91) 40 A' c' (othL x o ⟨5,0,0,x.ballot,0,x.dk,⟨#[]⟩,[]⟩) :: box g3 26 [.slice A' (othL x o ⟨5,0,0,x.ballot,0,x.dk,⟨#[]⟩,[]⟩).length c'] :: box g1 93 [.pointer (some ⟨gr,0,none⟩)] :: (boxR 91 40 9 3 66 31 gr x i ++ L)):=by
  refine enter Tryz.func72 rfl Tryz.ntmps72 [(0,_),(1,_)] rfl ⟨rfl,rfl,trivial⟩ ?_
  simp only [boxR,partRcd,List.cons_append,List.nil_append] at HM
  repeat refine Y ?_
  generalize htg : othL x o ⟨5,0,0,x.ballot,0,x.dk,⟨#[]⟩,[]⟩ = tg
  unfold othL at htg
  refine c_loop2 (σ:=Nat × List Msg) (fun s A c=>[(0,.pointer (some ⟨gr,0,none⟩)),(1,.func (.func 73) #[] #[.pointer (some ⟨g3,0,none⟩),.pointer (some ⟨g1,0,none⟩)]),(4,.int .i64 ((s.1 : Int) + 1))]) (fun s A c W1=>(s.1 : Int) ≤ x.of ∧ othersL x.number ⟨5,0,0,x.ballot,0,x.dk,⟨#[]⟩,[]⟩ (x.of.toNat - s.1) ((s.1 : Int) + 1) s.2 = tg ∧ s.2.length ≤ 90000 + s.1 ∧ Mem w0 W1 (own (tMsg 91) 40 A c s.2 :: box g3 26 [.slice A s.2.length c] :: box g1 93 [.pointer (some ⟨gr,0,none⟩)] :: (boxR 91 40 9 3 66 31 gr x i ++ L))) (fun s=>x.of.toNat - s.1) (0,o) A c (by simp only [Int.natCast_zero,Int.zero_add];exact U) ⟨by omega,htg,by dsimp only;omega,by simp only [boxR,partRcd,List.cons_append,List.nil_append];exact HM.sb⟩ ?_
  clear HM
  rintro ⟨k,z⟩ A c W1 ⟨hk,hz,hzl,HM⟩
  dsimp only at hk hz hzl HM ⊢
  have HM0:=HM
  simp only [boxR,partRcd,List.cons_append,List.nil_append] at HM
  by_cases hlt : (k : Int) + 1 ≤ x.of
  · have hst:=hz
    rw [show x.of.toNat - k = (x.of.toNat - (k + 1)) + 1 by omega,othersL] at hst
    by_cases c1 : (k : Int) + 1 = x.number
    · rw [if_pos c1] at hst
      clear HM0
      repeat refine Y ?_
      exact n_round2 (k + 1,z) A c (by simp only [Int.natCast_add,Int.natCast_one];exact U) ⟨by dsimp only;omega,by simpa only [Int.natCast_add,Int.natCast_one] using hst,by dsimp only;omega,by simp only [boxR,partRcd,List.cons_append,List.nil_append];exact HM.sb⟩ (by dsimp only;omega)
    · rw [if_neg c1] at hst
      have hzl2 : ∀ m : Msg,(z ++ [m]).length = z.length + 1:=fun m=>by simp
      clear HM0
      repeat (first|(refine gCall ?_;refine s_callv (f:=73) (first:=[]) (captured:=[.pointer (some ⟨g3,0,none⟩),.pointer (some ⟨g1,0,none⟩)]) rfl rfl rfl ?_;refine (tickFn2 (L:=L) x i gr  ((k : Int) + 1) (o:=z) (A:=A) (c:=c) (by omega) (by simp only [boxR,partRcd,List.cons_append,List.nil_append];exact HM.sb)).mono ?_;rintro e W1 ⟨A1,c1,rfl,HM1⟩;refine ⟨_,rfl,?_⟩;replace HM:=HM1;clear HM1)|refine Y ?_)
      exact n_round2 (k + 1,z ++ [_]) A1 c1 (by simp only [Int.natCast_add,Int.natCast_one];exact U) ⟨by dsimp only;omega,by simpa only [Int.natCast_add,Int.natCast_one] using hst,by dsimp only;rw [hzl2];omega,HM⟩ (by dsimp only;omega)
  · rw [show x.of.toNat - k = 0 by omega,othersL] at hz
    subst hz
    repeat refine Y ?_
    exact end_none rfl ⟨A,c,rfl,HM0⟩
theorem tickFn3 (x : Rcd) (i : AtRcd) (gr : Nat) {g8 : Nat} (q : Nat) (hq : q < x.ds.length) (hql : x.ds.length ≤ 60) (to : Int) {g3 g1 : Nat} {A : Option Addr} {c : Nat} {o : List Msg} (hl : o.length ≤ 100000) (HM : Mem w0 W (own (tMsg 91) 40 A c o :: box g3 26 [.slice A o.length c] :: box g1 93 [.pointer (some ⟨gr,0,none⟩)] :: box g8 3 [.int .i64 q] :: (boxR 91 40 9 3 66 31 gr x i ++ L))) : Calls Tryz.prog 74 #[.int .i64 to,.pointer (some ⟨g3,0,none⟩),.pointer (some ⟨g1,0,none⟩),.pointer (some ⟨g8,0,none⟩)] W fun e W'=>∃ A' c',e = .returned (.tuple #[]) ∧ Mem w0 W' (own (tMsg 91) 40 A' c' (o ++ [(⟨3,x.number,to,x.ballot,(q : Int) + 1,0,(rd tSlot x.ds q).text,[]⟩ : Msg)]) :: box g3 26 [.slice A' (o ++ [(⟨3,x.number,to,x.ballot,(q : Int) + 1,0,(rd tSlot x.ds q).text,[]⟩ : Msg)]).length c'] :: box g1 93 [.pointer (some ⟨gr,0,none⟩)] :: box g8 3 [.int .i64 q] :: (boxR 91 40 9 3 66 31 gr x i ++ L)):=by
  refine enter Tryz.func74 rfl Tryz.ntmps74 [(0,_),(1,_),(2,_),(3,_)] rfl ⟨rfl,rfl,rfl,rfl,trivial⟩ ?_
  simp only [boxR,partRcd,List.cons_append,List.nil_append] at HM
  repeat (first|(refine gR ?_;refine d_start [23,24] [(0,5),(1,0),(1,1),(0,2),(0,3),(1,4),(1,6),(0,7),(0,8),(1,9),(1,10),(0,11),(1,12),(0,13),(0,14),(0,15),(1,16),(1,17),(0,18),(0,19),(1,20),(2,21),(2,22),(3,23),(3,24)] HM (by kernel_rfl) (by kernel_rfl) qq (by kernel_rfl) rfl ?_;intro HQ HS W1 HM1;replace HM:=HM1;clear HM1)|refine Y ?_|(refine qs ?_;clear HM;intro W1 HM)|(refine qa ?_;clear HM;intro A1 c1 W1 HM)|(refine qg ?_;clear HM;intro g W1 HM))
  exact end_none rfl ⟨A1,c1,rfl,by simp only [boxR,partRcd,List.cons_append,List.nil_append];exact HM.sb⟩
theorem others3M (x : Rcd) (i : AtRcd) (gr : Nat) {g8 : Nat} (q : Nat) (hq : q < x.ds.length) (hql : x.ds.length ≤ 60) {g3 g1 : Nat} {A : Option Addr} {c : Nat} {o : List Msg} (hof : 0 ≤ x.of ∧ x.of ≤ 5) (hl : o.length ≤ 90000) (HM : Mem w0 W (own (tMsg 91) 40 A c o :: box g3 26 [.slice A o.length c] :: box g1 93 [.pointer (some ⟨gr,0,none⟩)] :: box g8 3 [.int .i64 q] :: (boxR 91 40 9 3 66 31 gr x i ++ L))) : Calls Tryz.prog 72 #[.pointer (some ⟨gr,0,none⟩),.func (.func 74) #[] #[.pointer (some ⟨g3,0,none⟩),.pointer (some ⟨g1,0,none⟩),.pointer (some ⟨g8,0,none⟩)]] W fun e W'=>∃ A' c',e = .returned (.tuple #[]) ∧ Mem w0 W' (own (tMsg 91) 40 A' c' (othL x o ⟨3,0,0,x.ballot,(q : Int) + 1,0,(rd tSlot x.ds q).text,[]⟩) :: box g3 26 [.slice A' (othL x o ⟨3,0,0,x.ballot,(q : Int) + 1,0,(rd tSlot x.ds q).text,[]⟩).length c'] :: box g1 93 [.pointer (some ⟨gr,0,none⟩)] :: box g8 3 [.int .i64 q] :: (boxR 91 40 9 3 66 31 gr x i ++ L)):=by
  refine enter Tryz.func72 rfl Tryz.ntmps72 [(0,_),(1,_)] rfl ⟨rfl,rfl,trivial⟩ ?_
  simp only [boxR,partRcd,List.cons_append,List.nil_append] at HM
  repeat refine Y ?_
  generalize htg : othL x o ⟨3,0,0,x.ballot,(q : Int) + 1,0,(rd tSlot x.ds q).text,[]⟩ = tg
  unfold othL at htg
  refine c_loop2 (σ:=Nat × List Msg) (fun s A c=>[(0,.pointer (some ⟨gr,0,none⟩)),(1,.func (.func 74) #[] #[.pointer (some ⟨g3,0,none⟩),.pointer (some ⟨g1,0,none⟩),.pointer (some ⟨g8,0,none⟩)]),(4,.int .i64 ((s.1 : Int) + 1))]) (fun s A c W1=>(s.1 : Int) ≤ x.of ∧ othersL x.number ⟨3,0,0,x.ballot,(q : Int) + 1,0,(rd tSlot x.ds q).text,[]⟩ (x.of.toNat - s.1) ((s.1 : Int) + 1) s.2 = tg ∧ s.2.length ≤ 90000 + s.1 ∧ Mem w0 W1 (own (tMsg 91) 40 A c s.2 :: box g3 26 [.slice A s.2.length c] :: box g1 93 [.pointer (some ⟨gr,0,none⟩)] :: box g8 3 [.int .i64 q] :: (boxR 91 40 9 3 66 31 gr x i ++ L))) (fun s=>x.of.toNat - s.1) (0,o) A c (by simp only [Int.natCast_zero,Int.zero_add];exact U) ⟨by omega,htg,by dsimp only;omega,by simp only [boxR,partRcd,List.cons_append,List.nil_append];exact HM.sb⟩ ?_
  clear HM
  rintro ⟨k,z⟩ A c W1 ⟨hk,hz,hzl,HM⟩
  dsimp only at hk hz hzl HM ⊢
  have HM0:=HM
  simp only [boxR,partRcd,List.cons_append,List.nil_append] at HM
  by_cases hlt : (k : Int) + 1 ≤ x.of
  · have hst:=hz
    rw [show x.of.toNat - k = (x.of.toNat - (k + 1)) + 1 by omega,othersL] at hst
    by_cases c1 : (k : Int) + 1 = x.number
    · rw [if_pos c1] at hst
      clear HM0
      repeat refine Y ?_
      exact n_round2 (k + 1,z) A c (by simp only [Int.natCast_add,Int.natCast_one];exact U) ⟨by dsimp only;omega,by simpa only [Int.natCast_add,Int.natCast_one] using hst,by dsimp only;omega,by simp only [boxR,partRcd,List.cons_append,List.nil_append];exact HM.sb⟩ (by dsimp only;omega)
    · rw [if_neg c1] at hst
      have hzl2 : ∀ m : Msg,(z ++ [m]).length = z.length + 1:=fun m=>by simp
      clear HM0
      repeat (first|(refine gCall ?_;refine s_callv (f:=74) (first:=[]) (captured:=[.pointer (some ⟨g3,0,none⟩),.pointer (some ⟨g1,0,none⟩),.pointer (some ⟨g8,0,none⟩)]) rfl rfl rfl ?_;refine (tickFn3 (L:=L) x i gr q hq hql ((k : Int) + 1) (o:=z) (A:=A) (c:=c) (by omega) (by simp only [boxR,partRcd,List.cons_append,List.nil_append];exact HM.sb)).mono ?_;rintro e W1 ⟨A1,c1,rfl,HM1⟩;refine ⟨_,rfl,?_⟩;replace HM:=HM1;clear HM1)|refine Y ?_)
      exact n_round2 (k + 1,z ++ [_]) A1 c1 (by simp only [Int.natCast_add,Int.natCast_one];exact U) ⟨by dsimp only;omega,by simpa only [Int.natCast_add,Int.natCast_one] using hst,by dsimp only;rw [hzl2];omega,HM⟩ (by dsimp only;omega)
  · rw [show x.of.toNat - k = 0 by omega,othersL] at hz
    subst hz
    repeat refine Y ?_
    exact end_none rfl ⟨A,c,rfl,HM0⟩
def holdNums (num : Int) (m : Msg) : Nat → Int → Rcd → Rcd
  | 0,_,y=>y
  | n + 1,i,y=>holdNums num m n (i + 1) (if i = num then y else holdL y { m with to:=i })
theorem holdAll_app : ∀ (l : List Msg) (m : Msg) (y : Rcd),holdAll (l ++ [m]) y = holdL (holdAll l y) m
  | [],_,_=>rfl
  | q :: r,m,y=>by rw [List.cons_append,holdAll,holdAll_app r m,holdAll]
theorem holdAll_oth (num : Int) (m : Msg) (y : Rcd) : ∀ (n : Nat) (i : Int) (o : List Msg),holdAll (othersL num m n i o) y = holdNums num m n i (holdAll o y)
  | 0,_,o=>rfl
  | n + 1,i,o=>by
    rw [othersL,holdNums,holdAll_oth num m y n (i + 1)]
    split
    · rfl
    · rw [holdAll_app];rfl
theorem tickFn4 (y : Rcd) (j : AtRcd) (gr : Nat) (to b : Int) {g1 g9 : Nat} (HM : Mem w0 W (box g1 93 [.pointer (some ⟨gr,0,none⟩)] :: box g9 3 [.int .i64 b] :: (boxR 91 40 9 3 66 31 gr y j ++ L))) : Calls Tryz.prog 77 #[.int .i64 to,.pointer (some ⟨g1,0,none⟩),.pointer (some ⟨g9,0,none⟩)] W fun e W'=>∃ j',e = .returned (.tuple #[]) ∧ Mem w0 W' (box g1 93 [.pointer (some ⟨gr,0,none⟩)] :: box g9 3 [.int .i64 b] :: (boxR 91 40 9 3 66 31 gr (holdL y ⟨1,0,to,b,0,0,⟨#[]⟩,[]⟩) j' ++ L)):=by
  refine enter Tryz.func77 rfl Tryz.ntmps77 [(0,_),(1,_),(2,_)] rfl ⟨rfl,rfl,rfl,trivial⟩ ?_
  simp only [boxR,partRcd,List.cons_append,List.nil_append] at HM
  repeat (first|refine Y ?_|(refine qf ?_;go_at_call 78;have HM2:=HM.nil tSlot 91;refine (holdM y j _ ⟨1,0,to,b,0,0,⟨#[]⟩,[]⟩ (none,0) (by exact pk_hold HM2)).mono ?_;clear HM2;rintro e W1 ⟨j2,rfl,HM1⟩;refine ⟨_,rfl,?_⟩;replace HM:=HM1;clear HM1;simp only [boxR,partRcd,List.cons_append,List.nil_append] at HM))
  exact end_none rfl ⟨j2,rfl,by simp only [boxR,partRcd,List.cons_append,List.nil_append];exact HM.sb⟩
theorem others4M (x : Rcd) (i : AtRcd) (gr : Nat) (b : Int) {g1 g9 : Nat} (hof : 0 ≤ x.of ∧ x.of ≤ 5) (HM : Mem w0 W (box g1 93 [.pointer (some ⟨gr,0,none⟩)] :: box g9 3 [.int .i64 b] :: (boxR 91 40 9 3 66 31 gr x i ++ L))) : Calls Tryz.prog 72 #[.pointer (some ⟨gr,0,none⟩),.func (.func 77) #[] #[.pointer (some ⟨g1,0,none⟩),.pointer (some ⟨g9,0,none⟩)]] W fun e W'=>∃ j,e = .returned (.tuple #[]) ∧ Mem w0 W' (box g1 93 [.pointer (some ⟨gr,0,none⟩)] :: box g9 3 [.int .i64 b] :: (boxR 91 40 9 3 66 31 gr (holdAll (othL x [] ⟨1,0,0,b,0,0,⟨#[]⟩,[]⟩) x) j ++ L)):=by
  refine enter Tryz.func72 rfl Tryz.ntmps72 [(0,_),(1,_)] rfl ⟨rfl,rfl,trivial⟩ ?_
  have e : holdAll (othL x [] ⟨1,0,0,b,0,0,⟨#[]⟩,[]⟩) x = holdNums x.number ⟨1,0,0,b,0,0,⟨#[]⟩,[]⟩ x.of.toNat 1 x:=holdAll_oth _ _ _ _ _ _
  rw [e]
  clear e
  have HM0:=HM
  simp only [boxR,partRcd,List.cons_append,List.nil_append] at HM
  repeat refine Y ?_
  clear HM
  generalize htg : holdNums x.number ⟨1,0,0,b,0,0,⟨#[]⟩,[]⟩ x.of.toNat 1 x = tg
  refine c_loop (σ:=Nat × Rcd) (fun s=>[(0,.pointer (some ⟨gr,0,none⟩)),(1,.func (.func 77) #[] #[.pointer (some ⟨g1,0,none⟩),.pointer (some ⟨g9,0,none⟩)]),(4,.int .i64 ((s.1 : Int) + 1))]) (fun s W1=>(s.1 : Int) ≤ x.of ∧ holdNums x.number ⟨1,0,0,b,0,0,⟨#[]⟩,[]⟩ (x.of.toNat - s.1) ((s.1 : Int) + 1) s.2 = tg ∧ s.2.number = x.number ∧ s.2.of = x.of ∧ ∃ j,Mem w0 W1 (box g1 93 [.pointer (some ⟨gr,0,none⟩)] :: box g9 3 [.int .i64 b] :: (boxR 91 40 9 3 66 31 gr s.2 j ++ L))) (fun s=>x.of.toNat - s.1) (0,x) (by simp only [Int.natCast_zero,Int.zero_add];exact U) ⟨by omega,htg,rfl,rfl,i,HM0⟩ ?_
  clear HM0
  rintro ⟨k,y⟩ W1 ⟨hk,hz,e1,e2,j,HM⟩
  dsimp only at hk hz e1 e2 HM ⊢
  have HM0:=HM
  simp only [boxR,partRcd,List.cons_append,List.nil_append] at HM
  rw [← e2] at hk hof
  by_cases hlt : (k : Int) + 1 ≤ y.of
  · have hst:=hz
    rw [← e2,show y.of.toNat - k = (y.of.toNat - (k + 1)) + 1 by omega,holdNums] at hst
    by_cases c1 : (k : Int) + 1 = y.number
    · rw [if_pos (by rw [← e1];exact c1),e2] at hst
      clear HM0
      repeat refine Y ?_
      exact n_round (k + 1,y) (by simp only [Int.natCast_add,Int.natCast_one];exact U) ⟨by dsimp only;omega,by simpa only [Int.natCast_add,Int.natCast_one] using hst,e1,e2,j,by simp only [boxR,partRcd,List.cons_append,List.nil_append];exact HM.sb⟩ (by dsimp only;omega)
    · rw [if_neg (by rw [← e1];exact c1),e2] at hst
      have kp:=kp_hold y ⟨1,0,(k : Int) + 1,b,0,0,⟨#[]⟩,[]⟩
      clear HM0
      repeat (first|(refine gCall ?_;refine s_callv (f:=77) (first:=[]) (captured:=[.pointer (some ⟨g1,0,none⟩),.pointer (some ⟨g9,0,none⟩)]) rfl rfl rfl ?_;refine (tickFn4 (L:=L) y j gr ((k : Int) + 1) b (by simp only [boxR,partRcd,List.cons_append,List.nil_append];exact HM.sb)).mono ?_;rintro e W1 ⟨j2,rfl,HM1⟩;refine ⟨_,rfl,?_⟩;replace HM:=HM1;clear HM1)|refine Y ?_)
      exact n_round (k + 1,holdL y ⟨1,0,(k : Int) + 1,b,0,0,⟨#[]⟩,[]⟩) (by simp only [Int.natCast_add,Int.natCast_one];exact U) ⟨by dsimp only;omega,by simpa only [Int.natCast_add,Int.natCast_one] using hst,kp.number.trans e1,kp.of.trans e2,j2,HM⟩ (by dsimp only;omega)
  · rw [← e2,show y.of.toNat - k = 0 by omega,holdNums] at hz
    subst hz
    repeat refine Y ?_
    exact end_none rfl ⟨j,rfl,HM0⟩
end Go.Proofs.YtampmicahnnebaaGreat.Sp
namespace Go.Proofs.YtampmicahnnebaaGreat.Sp
open Go Go.RowKit
set_option maxRecDepth 10000
set_option maxHeartbeats 2000000
variable {w0 W : World} {L : List Asn} {A : Option Addr} {c : Nat}
theorem tookFn (a : Ack) (ja : At) (g5 : Nat) (ix : Int) [hB : RoBAt L g5 w0 3 [.int .i64 ix]] (HM : Mem w0 W L) : Calls Tryz.prog 102 #[.agg (encAck a ja).toArray,.pointer (some ⟨g5,0,none⟩)] W fun e W'=>e = .returned (.bool (decide (ix ≤ a.index))) ∧ Mem w0 W' L:=by
  refine enter Tryz.func102 rfl Tryz.ntmps102 [(0,.agg (encAck a ja).toArray),(1,_)] rfl ⟨rfl,rfl,trivial⟩ ?_
  unfold encAck
  repeat (first|refine Y ?_|(refine qg ?_;clear HM;intro g W1 HM))
  exact ret_tmp rfl rfl ⟨rfl,HM.sb⟩
theorem indexAck {xs : List Ack} (g5 : Nat) (ix : Int) [hB : RoBAt L g5 w0 3 [.int .i64 ix]] (hr : RoRow rAck w0 A xs) (hn : xs.length ≤ 1048576) (HM : Mem w0 W L) : Calls Tryz.prog 101 #[.slice A xs.length c,.func (.func 102) #[] #[.pointer (some ⟨g5,0,none⟩)]] W fun e W'=>∃ r : Int,e = .returned (.int .i64 r) ∧ ((r = -1 ∧ ∀ j (h : j < xs.length),xs[j].index < ix) ∨ ∃ k : Nat,r = k ∧ (∀ j (h : j < xs.length),j < k → xs[j].index < ix) ∧ ∃ h : k < xs.length,ix ≤ xs[k].index) ∧ Mem w0 W' L:=by
  refine enter Tryz.func101 rfl Tryz.ntmps101 [(0,_),(1,_)] rfl ⟨rfl,rfl,trivial⟩ ?_
  repeat refine Y ?_
  refine c_loop (σ:=Nat) (fun k=>[(0,.slice A xs.length c),(1,.func (.func 102) #[] #[.pointer (some ⟨g5,0,none⟩)]),(7,.int .i64 xs.length),(8,.int .i64 k)]) (fun k W1=>k ≤ xs.length ∧ (∀ j (h : j < xs.length),j < k → xs[j].index < ix) ∧ Mem w0 W1 L) (fun k=>xs.length - k) 0 U ⟨Nat.zero_le _,fun j h hj=>by omega,HM⟩ ?_
  clear HM
  rintro k W1 ⟨hk,hp,HM⟩
  by_cases hlt : k < xs.length
  · replace HM:=HM.rod hr
    obtain ⟨cc,⟨j,rfl,hs⟩,HM⟩:=HM.roOpen (A:=A) k hlt
    unfold encAck at HM
    by_cases c1 : ix ≤ xs[k].index
    · repeat (first|(refine gCall ?_;refine s_callv (f:=102) (first:=[]) (captured:=[.pointer (some ⟨g5,0,none⟩)]) rfl rfl rfl ?_;refine (tookFn xs[k] j g5 ix HM).mono ?_;rintro e W1 ⟨rfl,HM1⟩;refine ⟨_,rfl,?_⟩;replace HM:=HM1;clear HM1)|refine Y ?_)
      exact ret_tmp rfl rfl ⟨k,rfl,.inr ⟨k,rfl,hp,hlt,c1⟩,HM.drop.drop⟩
    · have hp2 : ∀ q (h : q < xs.length),q < k + 1 → xs[q].index < ix:=fun q hq hq2=>by
        by_cases e : q = k
        · subst e;omega
        · exact hp q hq (by omega)
      repeat (first|(refine gCall ?_;refine s_callv (f:=102) (first:=[]) (captured:=[.pointer (some ⟨g5,0,none⟩)]) rfl rfl rfl ?_;refine (tookFn xs[k] j g5 ix HM).mono ?_;rintro e W1 ⟨rfl,HM1⟩;refine ⟨_,rfl,?_⟩;replace HM:=HM1;clear HM1)|refine Y ?_)
      exact n_round (k + 1) U ⟨by omega,hp2,HM.drop.drop⟩ (by omega)
  · have hp2 : ∀ j (h : j < xs.length),xs[j].index < ix:=fun j h=>hp j h (by omega)
    repeat refine Y ?_
    exact ret_tmp rfl rfl ⟨-1,rfl,.inl ⟨rfl,hp2⟩,HM⟩
theorem tookM2 (x : Rcd) (i : AtRcd) (gr : Nat) (f ix : Int) (hv : VR x) (hlead : x.lead = true) (hix : 1 ≤ ix ∧ ix ≤ 60) (hf : 1 ≤ f ∧ f ≤ x.of) (HM : Mem w0 W (boxR 91 40 9 3 66 31 gr x i ++ L)) : Calls Tryz.prog 69 #[.pointer (some ⟨gr,0,none⟩),.int .i64 f,.int .i64 ix] W fun e W'=>∃ j,j.a0 = i.a0 ∧ j.a3 = i.a3 ∧ e = .returned (.tuple #[]) ∧ Mem w0 W' (boxR 91 40 9 3 66 31 gr (ackL x ix f) j ++ L):=by
  refine enter Tryz.func69 rfl Tryz.ntmps69 [(0,_),(1,_),(2,_)] rfl ⟨rfl,rfl,rfl,trivial⟩ ?_
  have ha:=acks_len hv.acks
  have hfr : ∀ a ∈ x.acks,a.frm.length ≤ 5 ∧ a.frm.Pairwise (· < ·):=fun a ha=>⟨nums_len (hv.acks.all a ha).2 hv.of5,(hv.acks.all a ha).2.sorted⟩
  simp only [boxR,partRcd,List.cons_append,List.nil_append] at HM
  repeat (first|(refine gL ?_;refine s_pv (p_makeFunc rfl rfl) rfl ?_)|refine Y ?_|(refine qf ?_;go_at_call 101;obtain ⟨F1,hF1⟩:=HM.own (A:=i.a6.1);have HB:=(Mem.start _).robox (HM.heap (g:=g));refine (indexAck g ix (ro_acks hF1) (by omega) HB).mono ?_;clear hF1;rintro e W1 ⟨r,rfl,hr,HM1⟩;refine ⟨_,rfl,?_⟩;have HM2:=HM.step HM1.below;clear HM HM1 HB;have HM:=HM2;clear HM2)|(refine qg ?_;clear HM;intro g W1 HM))
  obtain ⟨R,hR,HMn⟩:=HM.nam
  clear HM
  have HM:=HMn
  clear HMn
  refine c_cutn (σ:=Nat) (fun k=>[(0,.pointer (some ⟨gr,0,none⟩)),(1,.int .i64 f),(5,.pointer (some ⟨g,0,none⟩)),(6,.int .i64 k)]) (fun k W1=>k ≤ x.acks.length ∧ (∀ j (h : j < x.acks.length),j < k → x.acks[j].index < ix) ∧ (∀ h : k < x.acks.length,ix ≤ x.acks[k].index) ∧ Mem w0 W1 R) ?_ ?_
  · subst hR
    rcases hr with ⟨rfl,hp⟩|⟨k,rfl,hp,hk,hq⟩
    · repeat refine Y ?_
      exact n_mid x.acks.length U ⟨Nat.le_refl _,fun j h _=>hp j h,fun h=>absurd h (Nat.lt_irrefl _),HM⟩
    · repeat ((refine gC ?_;first|refine c_skip ?_|refine c_no rfl (by rfl) ?_))
      exact n_mid k U ⟨by omega,hp,fun _=>hq,HM⟩
  clear HM hr
  subst hR
  rintro k W1 ⟨hk,hp,hq,HM⟩
  refine c_seq ?_
  refine c_cutn (σ:=Nat × List Ack × Option Addr × Nat) (fun s=>[(0,.pointer (some ⟨gr,0,none⟩)),(1,.int .i64 f),(6,.int .i64 s.1)]) (fun s W1=>s.1 < s.2.1.length ∧ s.2.1.length ≤ 61 ∧ (∀ a ∈ s.2.1,a.frm.length ≤ 5 ∧ a.frm.Pairwise (· < ·)) ∧ (∀ h : s.1 < s.2.1.length,ackA x.acks ix f = s.2.1.set s.1 ⟨s.2.1[s.1].index,addL s.2.1[s.1].frm f⟩) ∧ Mem w0 W1 (box gr 31 [.int .i64 x.number,.int .i64 x.of,.bool x.up,.int .i64 x.sp,.int .i64 x.sk,.slice i.a0.1 x.ss.length i.a0.2,.int .i64 x.dp,.int .i64 x.dk,.slice i.a1.1 x.ds.length i.a1.2,.slice i.a2.1 x.held.length i.a2.2,.slice i.a3.1 x.wishes.length i.a3.2,.bool x.lead,.bool x.trying,.int .i64 x.ballot,.slice i.a4.1 x.yes.length i.a4.2,.slice i.a5.1 x.best.length i.a5.2,.slice s.2.2.1 s.2.1.length s.2.2.2,.int .i64 x.heard] :: own (tAck 3) 66 s.2.2.1 s.2.2.2 s.2.1 :: own tSlot 91 i.a0.1 i.a0.2 x.ss :: own tSlot 91 i.a1.1 i.a1.2 x.ds :: own (tMsg 91) 40 i.a2.1 i.a2.2 x.held :: own tStr 9 i.a3.1 i.a3.2 x.wishes :: own tInt 3 i.a4.1 i.a4.2 x.yes :: own tSlot 91 i.a5.1 i.a5.2 x.best :: L)) ?_ ?_
  · by_cases c1 : k < x.acks.length
    · by_cases c2 : x.acks[k].index = ix
      · have e0:=rd_at (d:=tAck 3) c1
        rw [← e0] at c2
        have e:=ackA_in (f:=f) c1 hp (by rw [← e0];exact c2)
        repeat (first|(refine gR ?_;refine d_start [] [(0,0),(0,1),(0,2),(0,3),(1,4),(0,5),(0,6),(0,7),(0,8),(0,9),(0,10),(0,12),(1,11),(0,13),(0,14),(1,15),(1,16),(0,17),(0,18)] HM (by kernel_rfl) (by kernel_rfl) qq (by kernel_rfl) rfl ?_;intro HQ HS W1 HM1;replace HM:=HM1;clear HM1)|refine Y ?_)
        exact n_mid (k,x.acks,i.a6.1,i.a6.2) U ⟨c1,by dsimp only;omega,hfr,fun _=>e,HM.sb⟩
      · have e0:=rd_at (d:=tAck 3) c1
        rw [← e0] at c2
        have e:=ackA_new (f:=f) hk hp (fun h=>by have:=hq h;rw [← e0] at this ⊢;omega)
        have hkl : k ≤ x.acks.length:=hk
        repeat (first|(refine gR ?_;first|(refine d_start [9,12] [(0,0),(0,1),(0,2),(0,3),(0,5),(1,4),(1,6),(2,7),(2,8),(3,9),(0,10),(0,11),(3,12)] HM (by kernel_rfl) (by kernel_rfl) qq (by kernel_rfl) rfl ?_;intro HQ HS W1 HM1;replace HM:=HM1;clear HM1)|(refine d_start [] [(0,0),(0,1),(0,2),(0,3),(1,4),(0,5),(0,6),(0,7),(0,8),(0,9),(0,10),(0,12),(1,11),(0,13),(0,14),(1,15),(1,16),(0,17),(0,18)] HM (by kernel_rfl) (by kernel_rfl) qq (by kernel_rfl) rfl ?_;intro HQ HS W1 HM1;replace HM:=HM1;clear HM1))|refine Y ?_|(refine qs ?_;clear HM;intro W1 HM)|(refine qf ?_;go_at_call 103;obtain ⟨css,hcl,HM2⟩:=opn_raw (HM.pk (A:=own (tAck 3) 66 i.a6.1 i.a6.2 x.acks));replace HM2:=(show Mem w0 _ (own (tRaw 2) 66 i.a6.1 i.a6.2 css :: _) from HM2);have HM3:=insertA (A:=i.a6.1) (c:=i.a6.2) (css:=css) (cv:=[.int .i64 ix,.slice none 0 0]) k (by rw [hcl];omega) (by rw [hcl];omega) rfl (fun u hu=>by simp only [List.mem_cons,List.not_mem_nil,or_false] at hu;rcases hu with rfl|rfl <;> rfl) ((HM2.pk (A:=box g 66 [.int .i64 ix,.slice none 0 0])).pk (A:=own (tRaw 2) 66 i.a6.1 i.a6.2 css));rw [hcl] at HM3;refine HM3.mono ?_;clear HM2 HM3;rintro e W1 ⟨A1,c1,rfl,HM1⟩;refine ⟨_,rfl,?_⟩;replace HM:=HM1;clear HM1)|(refine qg ?_;clear HM;intro g W1 HM))
        have HA : ∀ W : World,((tAck 3).A (⟨ix,[]⟩ : Ack) [.int .i64 ix,.slice none 0 0]).H W (fun _=>False):=fun W=>⟨(none,0),rfl,fun _=>False,fun _ h=>h.elim,own_nil tInt _,trivial⟩
        have hyl : (css.take k ++ [[Value.int .i64 ix,.slice none 0 0]] ++ css.drop k).length = (x.acks.take k ++ [(⟨ix,[]⟩ : Ack)] ++ x.acks.drop k).length:=by simp [hcl]
        have HM2:=lels_ins (a:=(⟨ix,[]⟩ : Ack)) (cv:=[.int .i64 ix,.slice none 0 0]) k HA (by omega) (HM.pk (A:=lels (tAck 3) x.acks css))
        have HM3:=cls_raw (D:=tAck 3) (HM2.pk (A:=own (tRaw 2) 66 A1 c1 (css.take k ++ [[Value.int .i64 ix,.slice none 0 0]] ++ css.drop k)))
        rw [hyl] at HM3
        clear HM HM2
        obtain ⟨hy1,hy2,hy3⟩:=ack_ins (l:=x.acks) (k:=k) ⟨ix,[]⟩ (by omega) (ys:=x.acks.take k ++ [(⟨ix,[]⟩ : Ack)] ++ x.acks.drop k) (by rw [List.nil_append])
        have hy4 : ∀ a ∈ x.acks.take k ++ [(⟨ix,[]⟩ : Ack)] ++ x.acks.drop k,a.frm.length ≤ 5 ∧ a.frm.Pairwise (· < ·):=fun a ha=>by
          simp only [List.mem_append,List.mem_singleton] at ha
          rcases ha with (ha|ha)|ha
          · exact hfr a (List.mem_of_mem_take ha)
          · subst ha;exact ⟨by simp,List.Pairwise.nil⟩
          · exact hfr a (List.mem_of_mem_drop ha)
        exact n_mid (k,x.acks.take k ++ [(⟨ix,[]⟩ : Ack)] ++ x.acks.drop k,A1,c1) U ⟨by rw [hy1];omega,by rw [hy1];omega,hy4,fun h=>by dsimp only;rw [hy3,hy2 h];exact e,HM3.sb⟩
    · have e:=ackA_new (f:=f) hk hp (fun h=>absurd h c1)
      obtain rfl : k = x.acks.length:=by omega
      repeat (first|(refine gR ?_;first|(refine d_start [9,12] [(0,0),(0,1),(0,2),(0,3),(0,5),(1,4),(1,6),(2,7),(2,8),(3,9),(0,10),(0,11),(3,12)] HM (by kernel_rfl) (by kernel_rfl) qq (by kernel_rfl) rfl ?_;intro HQ HS W1 HM1;replace HM:=HM1;clear HM1)|(refine d_start [] [(0,0),(0,1),(0,2),(0,3),(1,4),(0,5),(0,6),(0,7),(0,8),(0,9),(0,10),(0,12),(1,11),(0,13),(0,14),(1,15),(1,16),(0,17),(0,18)] HM (by kernel_rfl) (by kernel_rfl) qq (by kernel_rfl) rfl ?_;intro HQ HS W1 HM1;replace HM:=HM1;clear HM1))|refine Y ?_|(refine qs ?_;clear HM;intro W1 HM)|(refine qf ?_;go_at_call 103;obtain ⟨css,hcl,HM2⟩:=opn_raw (HM.pk (A:=own (tAck 3) 66 i.a6.1 i.a6.2 x.acks));replace HM2:=(show Mem w0 _ (own (tRaw 2) 66 i.a6.1 i.a6.2 css :: _) from HM2);have HM3:=insertA (A:=i.a6.1) (c:=i.a6.2) (css:=css) (cv:=[.int .i64 ix,.slice none 0 0]) x.acks.length (by rw [hcl];omega) (by rw [hcl];omega) rfl (fun u hu=>by simp only [List.mem_cons,List.not_mem_nil,or_false] at hu;rcases hu with rfl|rfl <;> rfl) ((HM2.pk (A:=box g 66 [.int .i64 ix,.slice none 0 0])).pk (A:=own (tRaw 2) 66 i.a6.1 i.a6.2 css));rw [hcl] at HM3;refine HM3.mono ?_;clear HM2 HM3;rintro e W1 ⟨A1,c1,rfl,HM1⟩;refine ⟨_,rfl,?_⟩;replace HM:=HM1;clear HM1)|(refine qg ?_;clear HM;intro g W1 HM))
      have HA : ∀ W : World,((tAck 3).A (⟨ix,[]⟩ : Ack) [.int .i64 ix,.slice none 0 0]).H W (fun _=>False):=fun W=>⟨(none,0),rfl,fun _=>False,fun _ h=>h.elim,own_nil tInt _,trivial⟩
      have hyl : (css.take x.acks.length ++ [[Value.int .i64 ix,.slice none 0 0]] ++ css.drop x.acks.length).length = (x.acks.take x.acks.length ++ [(⟨ix,[]⟩ : Ack)] ++ x.acks.drop x.acks.length).length:=by simp [hcl]
      have HM2:=lels_ins (a:=(⟨ix,[]⟩ : Ack)) (cv:=[.int .i64 ix,.slice none 0 0]) x.acks.length HA (by omega) (HM.pk (A:=lels (tAck 3) x.acks css))
      have HM3:=cls_raw (D:=tAck 3) (HM2.pk (A:=own (tRaw 2) 66 A1 c1 (css.take x.acks.length ++ [[Value.int .i64 ix,.slice none 0 0]] ++ css.drop x.acks.length)))
      rw [hyl] at HM3
      clear HM HM2
      obtain ⟨hy1,hy2,hy3⟩:=ack_ins (l:=x.acks) (k:=x.acks.length) ⟨ix,[]⟩ (by omega) (ys:=x.acks.take x.acks.length ++ [(⟨ix,[]⟩ : Ack)] ++ x.acks.drop x.acks.length) (by rw [List.nil_append])
      have hy4 : ∀ a ∈ x.acks.take x.acks.length ++ [(⟨ix,[]⟩ : Ack)] ++ x.acks.drop x.acks.length,a.frm.length ≤ 5 ∧ a.frm.Pairwise (· < ·):=fun a ha=>by
        simp only [List.mem_append,List.mem_singleton] at ha
        rcases ha with (ha|ha)|ha
        · exact hfr a (List.mem_of_mem_take ha)
        · subst ha;exact ⟨by simp,List.Pairwise.nil⟩
        · exact hfr a (List.mem_of_mem_drop ha)
      exact n_mid (x.acks.length,x.acks.take x.acks.length ++ [(⟨ix,[]⟩ : Ack)] ++ x.acks.drop x.acks.length,A1,c1) U ⟨by rw [hy1];omega,by rw [hy1];omega,hy4,fun h=>by dsimp only;rw [hy3,hy2 h];exact e,HM3.sb⟩
  clear HM
  rintro ⟨q,ys,A,c⟩ W1 ⟨hq1,hq2,hq3,hq4,HM⟩
  dsimp only at hq1 hq2 hq3 hq4 HM ⊢
  have hq5:=hq3 _ (List.getElem_mem hq1)
  have e:=hq4 hq1
  obtain ⟨j,HMo⟩:=opn_ack (HM.pk (A:=own (tAck 3) 66 A c ys)) q hq1
  clear HM
  have HM:=HMo.perm (List.Perm.swap ..)
  clear HMo
  repeat (first|(refine gR ?_;refine d_startd [17] [(0,0),(0,1),(0,2),(0,4),(0,5),(0,6),(0,7),(0,9),(0,13),(1,3),(1,8),(0,10),(0,11),(1,12),(2,14),(0,15),(0,16),(3,17)] HM (by kernel_rfl) (by kernel_rfl) qq (by kernel_rfl) rfl ?_;intro HQ HS W1 HM1;replace HM:=HM1;clear HM1)|refine Y ?_|(refine gStore ?_;refine s_storeh HM rfl rfl rfl rfl rfl rfl ?_;clear HM;intro W1 HM;(try dsimp only at HM))|(refine qf ?_;go_at_call 99;refine (joinC f hq5.2 (by omega) (by exact HM.pk)).mono ?_;rintro e2 W2 ⟨A2,c2,rfl,HM1⟩;refine ⟨_,rfl,?_⟩;replace HM:=HM1;clear HM1))
  have HM1:=cls_ack ((HM.pk (A:=own tInt 3 A2 c2 (addL ys[q].frm f))).pk (A:=hol (tAck 3) 66 A c ys q [.int .i64 ys[q].index,.slice A2 (addL ys[q].frm f).length c2]))
  replace HM:=HM1;clear HM1
  rw [← e] at HM
  have el : ys.length = (ackA x.acks ix f).length:=by rw [e,List.length_set]
  simp only [el] at HM ⊢
  have hl2:=ackA_frm x.acks ix f 5 (fun a ha=>(hfr a ha).1)
  have hl1 : (ackA x.acks ix f).length ≤ 61:=by omega
  rw [show ackL x ix f = advL { x with acks:=ackA x.acks ix f } from rfl]
  obtain ⟨bs,hA⟩ : ∃ bs,bs = ackA x.acks ix f:=⟨_,rfl⟩
  rw [← hA] at HM hl1 hl2 ⊢
  clear e el hA hq3 hq4 hq5 hp hq hfr ha
  have hk0:=hv.disk.k0
  have hk1:=hv.disk.k1
  have hdl:=hv.disk.slots.1
  have hof:=hv.of5
  have hof1:=hv.of1
  refine c_loop (σ:=Nat × Int) (fun s=>[(0,.pointer (some ⟨gr,0,none⟩)),(74,.slice A bs.length c),(75,.int .i64 bs.length),(76,.int .i64 s.1)]) (fun s W1=>s.1 ≤ bs.length ∧ s.2 = (bs.take s.1).foldl (advK { x with acks:=bs }) x.dk ∧ 0 ≤ s.2 ∧ s.2 ≤ x.ds.length ∧ Mem w0 W1 (box gr 31 [.int .i64 x.number,.int .i64 x.of,.bool x.up,.int .i64 x.sp,.int .i64 x.sk,.slice i.a0.1 x.ss.length i.a0.2,.int .i64 x.dp,.int .i64 s.2,.slice i.a1.1 x.ds.length i.a1.2,.slice i.a2.1 x.held.length i.a2.2,.slice i.a3.1 x.wishes.length i.a3.2,.bool x.lead,.bool x.trying,.int .i64 x.ballot,.slice i.a4.1 x.yes.length i.a4.2,.slice i.a5.1 x.best.length i.a5.2,.slice A bs.length c,.int .i64 x.heard] :: own (tAck 3) 66 A c bs :: own tSlot 91 i.a0.1 i.a0.2 x.ss :: own tSlot 91 i.a1.1 i.a1.2 x.ds :: own (tMsg 91) 40 i.a2.1 i.a2.2 x.held :: own tStr 9 i.a3.1 i.a3.2 x.wishes :: own tInt 3 i.a4.1 i.a4.2 x.yes :: own tSlot 91 i.a5.1 i.a5.2 x.best :: L)) (fun s=>bs.length - s.1) (0,x.dk) U ⟨Nat.zero_le _,rfl,hk0,hk1,HM.sb⟩ ?_
  clear HM
  rintro ⟨k,d⟩ W1 ⟨hk,hd,hd0,hd1,HM⟩
  dsimp only at hk hd hd0 hd1 HM ⊢
  by_cases hlt : k < bs.length
  · have hs1:=hl2 _ (List.getElem_mem hlt)
    have hstep : (bs.take (k + 1)).foldl (advK { x with acks:=bs }) x.dk = advK { x with acks:=bs } d bs[k]:=by rw [List.take_succ_eq_append_getElem hlt,List.foldl_append,← hd];rfl
    obtain ⟨j,HMo⟩:=opn_ack (HM.pk (A:=own (tAck 3) 66 A c bs)) k hlt
    clear HM
    have HM:=HMo
    clear HMo
    have hset : bs.set k ⟨bs[k].index,bs[k].frm⟩ = bs:=List.set_getElem_self hlt
    generalize bs[k] = a at *
    have hx:=advK_in (x:={ x with acks:=bs }) (a:=a) hd0 hd1
    by_cases t1 : a.index = d + 1
    rotate_left
    · rw [advK,if_neg (fun h=>t1 h.1)] at hstep hx
      repeat (first|(refine gR ?_;refine d_start [] [(0,0),(0,2),(0,3),(0,4),(1,1),(1,5),(0,6),(0,7),(0,8),(0,9),(0,13),(0,14),(0,15),(1,10),(0,11),(0,12),(1,16),(0,17),(0,18),(0,19),(0,20),(0,21),(0,22),(0,25),(1,23),(0,24),(1,26),(0,27),(0,28),(0,29),(0,30),(0,31),(0,32),(0,34),(0,40),(0,41),(0,42),(1,33),(1,35),(0,36),(0,37),(0,38),(1,39),(1,43),(0,44),(0,45)] HM (by kernel_rfl) (by kernel_rfl) qq (by kernel_rfl) rfl ?_;intro HQ HS W1 HM1;replace HM:=HM1;clear HM1)|refine Y ?_|(refine qs ?_;clear HM;intro W1 HM)|(refine qg ?_;clear HM;intro g W1 HM))
      have HM1:=cls_ack ((HM.pk (A:=own tInt 3 j.1 j.2 a.frm)).pk (A:=hol (tAck 3) 66 A c bs k [.int .i64 a.index,.slice j.1 a.frm.length j.2]))
      rw [hset] at HM1
      exact n_round (k + 1,d) U ⟨by dsimp only;omega,hstep.symm,hd0,hd1,HM1.sb⟩ (by dsimp only;omega)
    by_cases t2 : x.of < 2 * (a.frm.length : Int)
    rotate_left
    · rw [advK,if_neg (fun h=>t2 h.2.1)] at hstep hx
      repeat (first|(refine gR ?_;refine d_start [] [(0,0),(0,2),(0,3),(0,4),(1,1),(1,5),(0,6),(0,7),(0,8),(0,9),(0,13),(0,14),(0,15),(1,10),(0,11),(0,12),(1,16),(0,17),(0,18),(0,19),(0,20),(0,21),(0,22),(0,25),(1,23),(0,24),(1,26),(0,27),(0,28),(0,29),(0,30),(0,31),(0,32),(0,34),(0,40),(0,41),(0,42),(1,33),(1,35),(0,36),(0,37),(0,38),(1,39),(1,43),(0,44),(0,45)] HM (by kernel_rfl) (by kernel_rfl) qq (by kernel_rfl) rfl ?_;intro HQ HS W1 HM1;replace HM:=HM1;clear HM1)|refine Y ?_|(refine qs ?_;clear HM;intro W1 HM)|(refine qg ?_;clear HM;intro g W1 HM))
      have HM1:=cls_ack ((HM.pk (A:=own tInt 3 j.1 j.2 a.frm)).pk (A:=hol (tAck 3) 66 A c bs k [.int .i64 a.index,.slice j.1 a.frm.length j.2]))
      rw [hset] at HM1
      exact n_round (k + 1,d) U ⟨by dsimp only;omega,hstep.symm,hd0,hd1,HM1.sb⟩ (by dsimp only;omega)
    by_cases t3 : a.index ≤ x.ds.length
    rotate_left
    · rw [advK,if_neg (fun h=>t3 h.2.2.1)] at hstep hx
      repeat (first|(refine gR ?_;refine d_start [] [(0,0),(0,2),(0,3),(0,4),(1,1),(1,5),(0,6),(0,7),(0,8),(0,9),(0,13),(0,14),(0,15),(1,10),(0,11),(0,12),(1,16),(0,17),(0,18),(0,19),(0,20),(0,21),(0,22),(0,25),(1,23),(0,24),(1,26),(0,27),(0,28),(0,29),(0,30),(0,31),(0,32),(0,34),(0,40),(0,41),(0,42),(1,33),(1,35),(0,36),(0,37),(0,38),(1,39),(1,43),(0,44),(0,45)] HM (by kernel_rfl) (by kernel_rfl) qq (by kernel_rfl) rfl ?_;intro HQ HS W1 HM1;replace HM:=HM1;clear HM1)|refine Y ?_|(refine qs ?_;clear HM;intro W1 HM)|(refine qg ?_;clear HM;intro g W1 HM))
      have HM1:=cls_ack ((HM.pk (A:=own tInt 3 j.1 j.2 a.frm)).pk (A:=hol (tAck 3) 66 A c bs k [.int .i64 a.index,.slice j.1 a.frm.length j.2]))
      rw [hset] at HM1
      exact n_round (k + 1,d) U ⟨by dsimp only;omega,hstep.symm,hd0,hd1,HM1.sb⟩ (by dsimp only;omega)
    by_cases t4 : (rd tSlot x.ds (a.index - 1)).ballot = x.ballot
    rotate_left
    · rw [advK,if_neg (fun h=>t4 h.2.2.2)] at hstep hx
      repeat (first|(refine gR ?_;refine d_start [] [(0,0),(0,2),(0,3),(0,4),(1,1),(1,5),(0,6),(0,7),(0,8),(0,9),(0,13),(0,14),(0,15),(1,10),(0,11),(0,12),(1,16),(0,17),(0,18),(0,19),(0,20),(0,21),(0,22),(0,25),(1,23),(0,24),(1,26),(0,27),(0,28),(0,29),(0,30),(0,31),(0,32),(0,34),(0,40),(0,41),(0,42),(1,33),(1,35),(0,36),(0,37),(0,38),(1,39),(1,43),(0,44),(0,45)] HM (by kernel_rfl) (by kernel_rfl) qq (by kernel_rfl) rfl ?_;intro HQ HS W1 HM1;replace HM:=HM1;clear HM1)|refine Y ?_|(refine qs ?_;clear HM;intro W1 HM)|(refine qg ?_;clear HM;intro g W1 HM))
      have HM1:=cls_ack ((HM.pk (A:=own tInt 3 j.1 j.2 a.frm)).pk (A:=hol (tAck 3) 66 A c bs k [.int .i64 a.index,.slice j.1 a.frm.length j.2]))
      rw [hset] at HM1
      exact n_round (k + 1,d) U ⟨by dsimp only;omega,hstep.symm,hd0,hd1,HM1.sb⟩ (by dsimp only;omega)
    rw [advK,if_pos ⟨t1,t2,t3,t4⟩] at hstep hx
    repeat (first|(refine gR ?_;refine d_start [] [(0,0),(0,2),(0,3),(0,4),(1,1),(1,5),(0,6),(0,7),(0,8),(0,9),(0,13),(0,14),(0,15),(1,10),(0,11),(0,12),(1,16),(0,17),(0,18),(0,19),(0,20),(0,21),(0,22),(0,25),(1,23),(0,24),(1,26),(0,27),(0,28),(0,29),(0,30),(0,31),(0,32),(0,34),(0,40),(0,41),(0,42),(1,33),(1,35),(0,36),(0,37),(0,38),(1,39),(1,43),(0,44),(0,45)] HM (by kernel_rfl) (by kernel_rfl) qq (by kernel_rfl) rfl ?_;intro HQ HS W1 HM1;replace HM:=HM1;clear HM1)|refine Y ?_|(refine qs ?_;clear HM;intro W1 HM)|(refine qg ?_;clear HM;intro g W1 HM))
    have HM1:=cls_ack ((HM.pk (A:=own tInt 3 j.1 j.2 a.frm)).pk (A:=hol (tAck 3) 66 A c bs k [.int .i64 a.index,.slice j.1 a.frm.length j.2]))
    rw [hset] at HM1
    exact n_round (k + 1,a.index) U ⟨by dsimp only;omega,hstep.symm,hx.1,hx.2,HM1.sb⟩ (by dsimp only;omega)
  · obtain rfl : k = bs.length:=by omega
    rw [List.take_length] at hd
    repeat refine Y ?_
    exact end_none rfl ⟨⟨i.a0,i.a1,i.a2,i.a3,i.a4,i.a5,(A,c)⟩,rfl,rfl,rfl,by simp only [advL,← hd,boxR,partRcd,List.cons_append,List.nil_append];exact HM.sb⟩
theorem tookM (x : Rcd) (i : AtRcd) (gr : Nat) (f ix : Int) (hv : VR x) (hlead : x.lead = true) (hix : 1 ≤ ix ∧ ix ≤ 60) (hf : 1 ≤ f ∧ f ≤ x.of) (HM : Mem w0 W (boxR 91 40 9 3 66 31 gr x i ++ L)) : Calls Tryz.prog 69 #[.pointer (some ⟨gr,0,none⟩),.int .i64 f,.int .i64 ix] W fun e W'=>∃ j,e = .returned (.tuple #[]) ∧ Mem w0 W' (boxR 91 40 9 3 66 31 gr (ackL x ix f) j ++ L):=(tookM2 x i gr f ix hv hlead hix hf HM).mono fun e W' ⟨j,_,_,h⟩=>⟨j,h⟩
end Go.Proofs.YtampmicahnnebaaGreat.Sp
namespace Go.Proofs.YtampmicahnnebaaGreat.Sp
open Go Go.RowKit
set_option maxRecDepth 10000
set_option maxHeartbeats 4000000
variable {w0 W : World} {L : List Asn}
theorem p_min {P : Program} {E : Env} {x y : Operand} {ts : Array TypeId} {k : IntKind} {m q : Int} (hx : ev E x = some (.int k m)) (hy : ev E y = some (.int k q)) : PV P E (.call { callee:=.builtin .min,args:=#[x,y],argTypes:=ts }) (.int k (min m q)):=⟨fun n a ha dst ty pos after gd W=>by
  have : (if q < m then q else m) = min m q:=by split <;> omega
  simp [execOp,ha.eval hx,ha.eval hy,resolve,invoke,builtin,Builtin.min_,Builtin.min2,this]⟩
section
variable {P : Program} {n : Nat} {Q Q' : Exit → Act → World → Prop} {E : Env} {W : World} {σ : Type}
theorem then_mid {y : Code} {J : σ → Env} {M : σ → World → Prop} (h : ∀ s W,M s W → WC P n y Q (J s) W) : ∀ e a w,Exit.then (MidP n J M) Q' e a w → Exit.then (y.wp P Q) Q' e a w:=fun e a w hq=>by
  cases e with
  | normal=>exact mid_wp h hq
  | _=>exact hq
theorem c_cutn2 {c z y : Code} (J : σ → Env) (M : σ → World → Prop) (h1 : WC P n c (Exit.then (z.wp P (Exit.then (MidP n J M) Q')) (Exit.then (MidP n J M) Q')) E W) (h2 : ∀ s W,M s W → WC P n y Q (J s) W) : WC P n c (Exit.then (z.wp P (Exit.then (y.wp P Q) Q')) (Exit.then (y.wp P Q) Q')) E W:=⟨fun a ha=>by
  refine wp_mono (h1.out a ha) fun e a' w' hq=>?_
  cases e with
  | normal=>exact wp_mono (Q:=Exit.then (MidP n J M) Q') hq (then_mid h2)
  | exit k=>exact then_mid (Q':=Q') h2 (.exit k) a' w' hq
  | goto l=>exact then_mid (Q':=Q') h2 (.goto l) a' w' hq
  | ret=>exact then_mid (Q':=Q') h2 .ret a' w' hq
  | panic l=>exact then_mid (Q':=Q') h2 (.panic l) a' w' hq
  | outgrown=>exact then_mid (Q':=Q') h2 .outgrown a' w' hq⟩
end
theorem app_right {R : List Asn} (h : Mem w0 W (R ++ L)) : Mem w0 W L:=by
  obtain ⟨F,_,_,h3⟩:=SepIn.append h.sep
  exact ⟨h.below,h3.mono (fun k hk=>hk.1)⟩
theorem known_all {L' : List Asn} {e : Nat} (x : Rcd) (i : AtRcd) (gr : Nat) (hk0 : 0 ≤ x.dk) (hk1 : x.dk ≤ x.ds.length) (hc : x.ds.length ≤ i.a1.2) [hB : BoxAt L' gr 31 [.int .i64 x.number,.int .i64 x.of,.bool x.up,.int .i64 x.sp,.int .i64 x.sk,.slice i.a0.1 x.ss.length i.a0.2,.int .i64 x.dp,.int .i64 x.dk,.slice i.a1.1 x.ds.length i.a1.2,.slice i.a2.1 x.held.length i.a2.2,.slice i.a3.1 x.wishes.length i.a3.2,.bool x.lead,.bool x.trying,.int .i64 x.ballot,.slice i.a4.1 x.yes.length i.a4.2,.slice i.a5.1 x.best.length i.a5.2,.slice i.a6.1 x.acks.length i.a6.2,.int .i64 x.heard]] {c : Nat} [hO : OwnAt L' i.a1.1 c Slot tSlot e x.ds] : ∀ (R : List Asn) (t : ByteArray) (W' : World),Mem w0 W' (R ++ L') → Calls Tryz.prog 67 #[.pointer (some ⟨gr,0,none⟩),.string t] W' fun e W''=>e = .returned (.bool (knownB (x.ds.take x.dk.toNat) t)) ∧ Mem w0 W'' (R ++ L'):=fun R t W' h=>by
  have h':=app_right h
  obtain ⟨F1,hF1⟩:=h'.own (A:=i.a1.1)
  refine (knownM x i gr t hk0 hk1 hc (ro_slots hF1) (h'.heap (g:=gr)) (Mem.start _)).mono ?_
  rintro e W1 ⟨rfl,HM1⟩
  exact ⟨rfl,h.step HM1.below⟩
theorem set_app (y : Rcd) (s : Slot) : setL y ((y.ds.length : Int) + 1) s = { y with ds:=y.ds ++ [s] }:=by
  have h1 : ((y.ds.length : Int) + 1).toNat = y.ds.length + 1:=by omega
  have h2 : ((y.ds.length : Int) + 1 - 1).toNat = y.ds.length:=by omega
  simp only [setL,padL,h1,h2]
  rw [show y.ds.length + 1 - y.ds.length = 1 by omega,List.replicate_one,List.set_append,if_neg (by omega),Nat.sub_self]
  rfl
theorem tickOffM (x : Rcd) (i : AtRcd) (gr : Nat) (hu : x.up = false) (HM : Mem w0 W (boxR 91 40 9 3 66 31 gr x i ++ L)) : Calls Tryz.prog 22 #[.pointer (some ⟨gr,0,none⟩)] W fun e W'=>∃ j,e = .returned (.slice none 0 0) ∧ Mem w0 W' (boxR 91 40 9 3 66 31 gr x j ++ L):=by
  refine enter Tryz.func22 rfl Tryz.ntmps22 [(0,_)] rfl ⟨rfl,trivial⟩ ?_
  simp only [boxR,partRcd,List.cons_append,List.nil_append] at HM
  repeat (first|refine Y ?_|(refine qg ?_;clear HM;intro g W1 HM))
  exact ret_tmp rfl rfl ⟨i,rfl,by simp only [boxR,partRcd,List.cons_append,List.nil_append];exact HM.sb⟩
theorem tickM (x : Rcd) (i : AtRcd) (gr : Nat) (hv : VR x) (hu : x.up = true) (HM : Mem w0 W (boxR 91 40 9 3 66 31 gr x i ++ L)) : Calls Tryz.prog 22 #[.pointer (some ⟨gr,0,none⟩)] W fun e W'=>∃ j A c,e = .returned (.slice A (tickOut x).length c) ∧ Mem w0 W' (own (tMsg 91) 40 A c (tickOut x) :: (boxR 91 40 9 3 66 31 gr (tickL x) j ++ L)):=by
  refine enter Tryz.func22 rfl Tryz.ntmps22 [(0,_)] rfl ⟨rfl,trivial⟩ ?_
  have hdl:=hv.disk.slots.1
  have hdk0:=hv.disk.k0
  have hdk1:=hv.disk.k1
  have hhl:=hv.heldLen
  have hwl:=hv.wishes.len
  have hh0:=hv.h0
  have hh1:=hv.h1
  simp only [boxR,partRcd,List.cons_append,List.nil_append] at HM
  have hcd : x.ds.length ≤ i.a1.2:=by obtain ⟨F1,hF1⟩:=HM.own (A:=i.a1.1);exact (own_max hF1).2
  repeat (first|(refine gR ?_;refine d_start [8] [(1,0),(1,1),(0,2),(0,3),(1,4),(2,5),(0,6),(0,7),(3,8)] HM (by kernel_rfl) (by kernel_rfl) qq (by kernel_rfl) rfl ?_;intro HQ HS W1 HM1;replace HM:=HM1;clear HM1)|refine Y ?_|(refine qs ?_;clear HM;intro W1 HM)|(refine qf ?_;go_at_call 64;obtain ⟨F1,hF1⟩:=HM.own (A:=i.a1.1);refine (cloneDisk_c x.dp x.dk (ro_slots hF1) (by omega) (Mem.start _)).mono ?_;clear hF1;rintro e W1 ⟨A3,c3,rfl,HM1⟩;refine ⟨_,rfl,?_⟩;replace HM:=HM.join HM1;clear HM1;simp only [List.cons_append,List.nil_append] at HM)|(refine qg ?_;clear HM;intro g W1 HM))
  have HM2:=(HM.nil (tMsg 91) 40).pk (A:=own tStr 9 i.a3.1 i.a3.2 x.wishes)
  clear HM
  have HM:=HM2
  clear HM2
  obtain ⟨g3,hg3⟩ : ∃ g3,g3 = g:=⟨_,rfl⟩
  subst hg3
  obtain ⟨g1,hg1⟩ : ∃ q,q = g:=⟨_,rfl⟩
  subst hg1
  repeat (first|(refine gGP ?_;refine gp (p_min rfl rfl) ?_)|(refine gO ?_;refine d_pv HQ HS (p_makeFunc rfl rfl) rfl ?_)|(refine gR ?_;first|(refine d_startd [10] [(1,0),(1,1),(0,2),(0,3),(1,4),(1,5),(0,6),(2,7),(0,8),(0,9),(3,10)] HM (by kernel_rfl) (by kernel_rfl) qq (by kernel_rfl) rfl ?_;intro HQ HS W1 HM1;replace HM:=HM1;clear HM1)|(refine d_start [9] [(1,0),(1,1),(0,2),(0,3),(1,4),(0,5),(0,6),(0,7),(0,8),(3,9)] HM (by kernel_rfl) (by kernel_rfl) qq (by kernel_rfl) rfl ?_;intro HQ HS W1 HM1;replace HM:=HM1;clear HM1))|refine Y ?_|(refine qs ?_;clear HM;intro W1 HM)|(refine qf ?_;go_at_call 66;refine (deleteStr (gr:=gr) (knownB (x.ds.take x.dk.toNat)) (known_all (e:=91) { x with sp:=x.dp,sk:=x.dk,ss:=x.ds,held:=[] } ⟨(A3,c3),i.a1,(none,0),i.a3,i.a4,i.a5,i.a6⟩ gr hdk0 hdk1 hcd) (by omega) (by exact HM)).mono ?_;rintro e W1 ⟨rfl,HM1⟩;refine ⟨_,rfl,?_⟩;replace HM:=HM1;clear HM1))
  have eY : { x with sp:=x.dp,sk:=x.dk,ss:=x.ds,held:=[],wishes:=x.wishes.filter (fun w=>!knownB (x.ds.take x.dk.toNat) w),heard:=min (x.heard + 1) 1000000 } = tick1 x:=by
    unfold tick1
    have h1 : min (x.heard + 1) 1000000 = (if x.heard < 1000000 then x.heard + 1 else x.heard):=by split <;> omega
    have h2 : (fun w=>!knownB (x.ds.take x.dk.toNat) w) = (fun w=>!hasB (x.ds.take x.dk.toNat) w):=funext fun w=>by rw [known_eq (validB_iff.2 hv)]
    rw [h1,h2]
  have HMn:=(show Mem w0 _ (boxR 91 40 9 3 66 31 gr { x with sp:=x.dp,sk:=x.dk,ss:=x.ds,held:=[],wishes:=x.wishes.filter (fun w=>!knownB (x.ds.take x.dk.toNat) w),heard:=min (x.heard + 1) 1000000 } ⟨(A3,c3),i.a1,(none,0),i.a3,i.a4,i.a5,i.a6⟩ ++ (own (tMsg 91) 40 i.a2.1 i.a2.2 x.held :: box g3 26 [.slice i.a2.1 x.held.length i.a2.2] :: box g1 93 [.pointer (some ⟨gr,0,none⟩)] :: L)) from by simp only [boxR,partRcd,List.cons_append,List.nil_append];exact HM.sb).name
  clear HM
  obtain ⟨R,hR,HM⟩:=HMn
  rw [eY] at HM
  obtain ⟨J,hJ⟩ : ∃ J : AtRcd,J = ⟨(A3,c3),i.a1,(none,0),i.a3,i.a4,i.a5,i.a6⟩:=⟨_,rfl⟩
  rw [← hJ] at HM
  obtain ⟨hv1,k1⟩:=vr_tick1 hv hu
  have hO : tickOut x = (if (tick2 (tick1 x)).lead = true then leadOut (lead1 (tick2 (tick1 x))) x.held else x.held):=rfl
  have hT : tickL x = (if (tick2 (tick1 x)).lead = true then lead1 (tick2 (tick1 x)) else tick3 (tick2 (tick1 x))):=rfl
  rw [hO,hT]
  clear hO hT eY hJ
  generalize tick1 x = y at *
  refine c_cutn2 (σ:=AtRcd) (fun s=>[(1,.pointer (some ⟨g1,0,none⟩)),(3,.pointer (some ⟨g3,0,none⟩))]) (fun s W1=>Mem w0 W1 (boxR 91 40 9 3 66 31 gr (tick2 y) s ++ R)) ?_ ?_
  · subst hR
    simp only [boxR,partRcd,List.cons_append,List.nil_append] at HM
    by_cases c1 : y.trying = true
    rotate_left
    · have e : tick2 y = y:=if_neg (fun h=>c1 h.1)
      simp only [Bool.not_eq_true] at c1
      repeat (first|(refine gR ?_;refine d_start [] [(1,0),(0,1),(0,2),(1,3),(0,4),(1,5),(0,6),(0,7),(0,8),(1,9),(1,10),(0,11),(0,12),(1,13),(0,14),(0,15)] HM (by kernel_rfl) (by kernel_rfl) qq (by kernel_rfl) rfl ?_;intro HQ HS W1 HM1;replace HM:=HM1;clear HM1)|refine Y ?_)
      exact n_mid J U (by rw [e];exact pk_boxr HM)
    by_cases c2 : y.sp = y.ballot
    rotate_left
    · have e : tick2 y = y:=if_neg (fun h=>c2 h.2)
      repeat (first|(refine gR ?_;refine d_start [] [(1,0),(0,1),(0,2),(1,3),(0,4),(1,5),(0,6),(0,7),(0,8),(1,9),(1,10),(0,11),(0,12),(1,13),(0,14),(0,15)] HM (by kernel_rfl) (by kernel_rfl) qq (by kernel_rfl) rfl ?_;intro HQ HS W1 HM1;replace HM:=HM1;clear HM1)|refine Y ?_)
      exact n_mid J U (by rw [e];exact pk_boxr HM)
    have e : tick2 y = promL y y.number y.ds:=if_pos ⟨c1,c2⟩
    have p0:=hv1.disk.k0
    have p1:=nums_len hv1.yes hv1.of5
    have p2:=hv1.best.1
    have p4:=hv1.disk.slots.1
    repeat (first|(refine gR ?_;first|(refine d_start [] [(1,0),(0,1),(0,2),(1,3),(0,4),(1,5),(0,6),(0,7),(0,8),(1,9),(1,10),(0,11),(0,12),(1,13),(0,14),(0,15)] HM (by kernel_rfl) (by kernel_rfl) qq (by kernel_rfl) rfl ?_;intro HQ HS W1 HM1;replace HM:=HM1;clear HM1)|(refine d_start [10] [(1,0),(1,1),(0,2),(0,3),(1,4),(1,5),(0,6),(0,7),(0,8),(1,9),(3,10)] HM (by kernel_rfl) (by kernel_rfl) qq (by kernel_rfl) rfl ?_;intro HQ HS W1 HM1;replace HM:=HM1;clear HM1))|refine Y ?_|(refine qf ?_;go_at_call 68;have HMp:=(show Mem w0 _ (boxR 91 40 9 3 66 31 gr y J ++ _) from pk_boxr HM);refine (promM y J gr y.number (b:=false) (fun W' h=>by obtain ⟨F1,hF1⟩:=h.own (A:=J.a1.1);exact ro_slots hF1) p0 hv1.yes.sorted (by omega) (by omega) (by omega) (by omega) HMp).mono ?_;clear HMp;rintro e W1 ⟨j3,rfl,HM1⟩;refine ⟨_,rfl,?_⟩;replace HM:=HM1;clear HM1;simp only [boxR,partRcd,List.cons_append,List.nil_append] at HM))
    exact n_mid j3 U (by rw [e];exact pk_boxr HM)
  clear HM
  rintro jz W1 HM
  obtain ⟨hv2,k2⟩:=vr_tick2 hv1
  have k12:=k1.trans k2
  have hzu : (tick2 y).up = true:=k12.up.trans hu
  have hzo:=k12.of
  have hzn:=k12.number
  clear k1 k2 hv1
  generalize tick2 y = z at *
  have hof : 0 ≤ z.of ∧ z.of ≤ 5:=⟨by have:=hv2.of1;omega,hv2.of5⟩
  by_cases cl : z.lead = true
  · rw [if_pos cl,if_pos cl]
    have HM0:=HM
    rw [hR] at HM
    simp only [boxR,partRcd,List.cons_append,List.nil_append] at HM
    repeat refine Y ?_
    clear HM
    refine c_cut (σ:=AtRcd) (fun s=>[(1,.pointer (some ⟨g1,0,none⟩)),(3,.pointer (some ⟨g3,0,none⟩))]) (fun s W1=>Mem w0 W1 (boxR 91 40 9 3 66 31 gr (ackAllL z.ballot z.number z.ss z.ss.length 0 z) s ++ R)) ?_ ?_
    · refine c_loop (σ:=Nat × Rcd) (fun s=>[(1,.pointer (some ⟨g1,0,none⟩)),(3,.pointer (some ⟨g3,0,none⟩)),(84,.slice jz.a0.1 z.ss.length jz.a0.2),(85,.int .i64 z.ss.length),(86,.int .i64 s.1)]) (fun s W1=>s.1 ≤ z.ss.length ∧ ackAllL z.ballot z.number z.ss (z.ss.length - s.1) s.1 s.2 = ackAllL z.ballot z.number z.ss z.ss.length 0 z ∧ VR s.2 ∧ s.2.lead = true ∧ s.2.ss = z.ss ∧ s.2.ballot = z.ballot ∧ s.2.number = z.number ∧ s.2.of = z.of ∧ ∃ j,j.a0 = jz.a0 ∧ Mem w0 W1 (boxR 91 40 9 3 66 31 gr s.2 j ++ R)) (fun s=>z.ss.length - s.1) (0,z) U ⟨Nat.zero_le _,rfl,hv2,cl,rfl,rfl,rfl,rfl,jz,rfl,HM0⟩ ?_
      clear HM0
      rintro ⟨k,y⟩ W1 ⟨hk,hz,hvy,hly,e1,e2,e3,e4,j,hj,HM⟩
      dsimp only at hk hz hvy hly e1 e2 e3 e4 HM ⊢
      rw [hR] at HM
      simp only [boxR,partRcd,List.cons_append,List.nil_append] at HM
      have hsl:=hv2.safe.slots.1
      have hn1:=hv2.n1
      have hno:=hv2.no
      have elen : z.ss.length = y.ss.length:=by rw [e1]
      rw [← hj]
      by_cases hlt : k < z.ss.length
      · by_cases c1 : (rd tSlot y.ss k).ballot = y.ballot
        · have hst : ackAllL z.ballot z.number z.ss (z.ss.length - (k + 1)) (k + 1) (ackL y ((k : Int) + 1) y.number) = ackAllL z.ballot z.number z.ss z.ss.length 0 z:=by
            rw [← hz,show z.ss.length - k = (z.ss.length - (k + 1)) + 1 by omega,ackAllL,if_pos (by rw [← e1,← e2];exact c1),e3]
          have hva:=(vr_ack hvy hly (ix:=(k : Int) + 1) (f:=y.number) ⟨by omega,by omega⟩ (by rw [e3,e4];exact ⟨hn1,hno⟩)).1
          repeat (first|(refine gL ?_;refine s_gv HM rfl ?_;refine gv (p_loadwo rfl rfl rfl (by omega) (by omega)) ?_;simp only [encSlot])|(refine gR ?_;first|(refine d_start [] [(0,0),(1,1),(1,2),(0,3),(0,4),(1,5),(0,6)] HM (by kernel_rfl) (by kernel_rfl) qq (by kernel_rfl) rfl ?_;intro HQ HS W1 HM1;replace HM:=HM1;clear HM1)|(refine d_start [7] [(0,5),(0,6),(1,0),(1,1),(0,2),(0,3),(1,4),(3,7)] HM (by kernel_rfl) (by kernel_rfl) qq (by kernel_rfl) rfl ?_;intro HQ HS W1 HM1;replace HM:=HM1;clear HM1))|refine Y ?_|(refine qs ?_;clear HM;intro W1 HM)|(refine qf ?_;go_at_call 69;have HMp:=(show Mem w0 _ (boxR 91 40 9 3 66 31 gr y j ++ _) from pk_boxr HM);refine (tookM2 y j gr y.number ((k : Int) + 1) hvy hly ⟨by omega,by omega⟩ (by rw [e3,e4];exact ⟨hn1,hno⟩) HMp).mono ?_;clear HMp;rintro e W1 ⟨j2,h2,_,rfl,HM1⟩;refine ⟨_,rfl,?_⟩;replace HM:=HM1;clear HM1;simp only [boxR,partRcd,List.cons_append,List.nil_append] at HM)|(refine qg ?_;clear HM;intro g W1 HM))
          exact n_round (k + 1,ackL y ((k : Int) + 1) y.number) U ⟨hlt,hst,hva,hly,e1,e2,e3,e4,j2,h2,by rw [hR];exact (by simp only [boxR,partRcd,List.cons_append,List.nil_append];exact HM.sb)⟩ (by dsimp only;omega)
        · have hst : ackAllL z.ballot z.number z.ss (z.ss.length - (k + 1)) (k + 1) y = ackAllL z.ballot z.number z.ss z.ss.length 0 z:=by
            rw [← hz,show z.ss.length - k = (z.ss.length - (k + 1)) + 1 by omega,ackAllL,if_neg (by rw [← e1,← e2];exact c1)]
          repeat (first|(refine gL ?_;refine s_gv HM rfl ?_;refine gv (p_loadwo rfl rfl rfl (by omega) (by omega)) ?_;simp only [encSlot])|(refine gR ?_;refine d_start [] [(0,0),(1,1),(1,2),(0,3),(0,4),(1,5),(0,6)] HM (by kernel_rfl) (by kernel_rfl) qq (by kernel_rfl) rfl ?_;intro HQ HS W1 HM1;replace HM:=HM1;clear HM1)|refine Y ?_|(refine qs ?_;clear HM;intro W1 HM)|(refine qg ?_;clear HM;intro g W1 HM))
          exact n_round (k + 1,y) U ⟨hlt,hst,hvy,hly,e1,e2,e3,e4,j,rfl,by rw [hR];exact (by simp only [boxR,partRcd,List.cons_append,List.nil_append];exact HM.sb)⟩ (by dsimp only;omega)
      · rw [show z.ss.length - k = 0 by omega,ackAllL] at hz
        rw [← hz]
        repeat refine Y ?_
        exact n_mid j U (by rw [hR];exact pk_boxr HM)
    clear HM0
    rintro j W1 HM
    obtain ⟨hv3,hl3⟩:=vr_ackAll (b:=z.ballot) (num:=z.number) hv2.safe.slots.1 z.ss.length 0 z (by omega) hv2 cl ⟨hv2.n1,hv2.no⟩
    obtain ⟨k1,k2,k3,k4,k5,k6⟩:=ackAll_keep z.ballot z.number z.ss z.ss.length 0 z
    have hwx:=hv2.wishes
    have hlead1 : lead1 z = z.wishes.foldl layWish (ackAllL z.ballot z.number z.ss z.ss.length 0 z):=rfl
    rw [← k1] at hlead1 hwx
    rw [hlead1]
    obtain ⟨hv4,hl4⟩:=vr_layAll _ _ hv3 hl3 (fun w hw=>by have:=hwx.all w hw;omega)
    clear k1 k2 k3 k4 k5 k6 hv2 cl hlead1 hof hzu hzo hzn hv hu k12
    generalize ackAllL z.ballot z.number z.ss z.ss.length 0 z = y at *
    have HM0:=HM
    rw [hR] at HM
    simp only [boxR,partRcd,List.cons_append,List.nil_append] at HM
    repeat refine Y ?_
    clear HM
    refine c_cut (σ:=AtRcd) (fun s=>[(1,.pointer (some ⟨g1,0,none⟩)),(3,.pointer (some ⟨g3,0,none⟩))]) (fun s W1=>Mem w0 W1 (boxR 91 40 9 3 66 31 gr (y.wishes.foldl layWish y) s ++ R)) ?_ ?_
    · refine c_loop (σ:=Nat × Rcd) (fun s=>[(1,.pointer (some ⟨g1,0,none⟩)),(3,.pointer (some ⟨g3,0,none⟩)),(110,.slice j.a3.1 y.wishes.length j.a3.2),(111,.int .i64 y.wishes.length),(112,.int .i64 s.1)]) (fun s W1=>s.1 ≤ y.wishes.length ∧ (y.wishes.drop s.1).foldl layWish s.2 = y.wishes.foldl layWish y ∧ VR s.2 ∧ s.2.lead = true ∧ s.2.wishes = y.wishes ∧ ∃ ju,ju.a3 = j.a3 ∧ Mem w0 W1 (boxR 91 40 9 3 66 31 gr s.2 ju ++ R)) (fun s=>y.wishes.length - s.1) (0,y) U ⟨Nat.zero_le _,rfl,hv3,hl3,rfl,j,rfl,HM0⟩ ?_
      clear HM0
      rintro ⟨k,u⟩ W1 ⟨hk,hz,hvu,hlu,e1,ju,hj,HM⟩
      dsimp only at hk hz hvu hlu e1 HM ⊢
      rw [hR] at HM
      simp only [boxR,partRcd,List.cons_append,List.nil_append] at HM
      have hwl:=hwx.len
      have hdl:=hvu.disk.slots.1
      have elen : y.wishes.length = u.wishes.length:=by rw [e1]
      rw [← hj]
      by_cases hlt : k < y.wishes.length
      · have hlt2 : k < u.wishes.length:=by omega
        have e0 : rd tStr u.wishes k = y.wishes[k]:=by rw [rd_at hlt2];simp only [e1]
        have hst : (y.wishes.drop (k + 1)).foldl layWish (layWish u (rd tStr u.wishes k)) = y.wishes.foldl layWish y:=by
          rw [← hz,List.drop_eq_getElem_cons hlt,List.foldl_cons,e0]
        have hws:=(hwx.all _ (List.getElem_mem hlt)).2
        rw [← e0] at hws
        have hvn:=vr_layWish (w:=rd tStr u.wishes k) hvu hlu hws
        by_cases c1 : hasB u.ds (rd tStr u.wishes k) = true
        · have e : layWish u (rd tStr u.wishes k) = u:=if_neg (fun h=>by rw [c1] at h;cases h.1)
          rw [e] at hst
          repeat (first|(refine gL ?_;refine s_pv (p_makeFunc rfl rfl) rfl ?_)|refine Y ?_|(refine qs ?_;clear HM;intro W1 HM)|(refine qf ?_;go_at_call 70;obtain ⟨F1,hF1⟩:=HM.own (A:=ju.a1.1);have HB:=(Mem.start _).robox (HM.heap (g:=g));refine (containsSlot g (rd tStr u.wishes k) (ro_slots hF1) (by omega) HB).mono ?_;clear hF1;rintro e W1 ⟨rfl,HM1⟩;refine ⟨_,rfl,?_⟩;have HM2:=HM.step HM1.below;clear HM HM1 HB;have HM:=HM2;clear HM2)|(refine qg ?_;clear HM;intro g W1 HM))
          exact n_round (k + 1,u) U ⟨hlt,hst,hvu,hlu,e1,ju,rfl,by rw [hR];exact (by simp only [boxR,partRcd,List.cons_append,List.nil_append];exact HM.sb)⟩ (by dsimp only;omega)
        simp only [Bool.not_eq_true] at c1
        by_cases c2 : (u.ds.length : Int) < 60
        · have e : layWish u (rd tStr u.wishes k) = { u with ds:=u.ds ++ [⟨u.ballot,rd tStr u.wishes k⟩] }:=by rw [layWish,if_pos ⟨c1,c2⟩,set_app]
          rw [e] at hst hvn
          repeat (first|(refine gL ?_;refine s_pv (p_makeFunc rfl rfl) rfl ?_)|(refine gR ?_;have HM2:=HM.pk (A:=own tSlot 91 ju.a1.1 ju.a1.2 u.ds);clear HM;have HM:=HM2;clear HM2;(refine gR ?_;refine d_startd [17] [(1,0),(1,1),(0,2),(0,3),(0,4),(1,5),(1,6),(0,7),(0,8),(1,9),(1,10),(2,11),(2,12),(2,13),(0,14),(0,15),(0,16),(3,17)] HM (by kernel_rfl) (by kernel_rfl) qq (by kernel_rfl) rfl ?_;intro HQ HS W1 HM1;replace HM:=HM1;clear HM1))|refine Y ?_|(refine qs ?_;clear HM;intro W1 HM)|(refine qf ?_;go_at_call 70;obtain ⟨F1,hF1⟩:=HM.own (A:=ju.a1.1);have HB:=(Mem.start _).robox (HM.heap (g:=g));refine (containsSlot g (rd tStr u.wishes k) (ro_slots hF1) (by omega) HB).mono ?_;clear hF1;rintro e W1 ⟨rfl,HM1⟩;refine ⟨_,rfl,?_⟩;have HM2:=HM.step HM1.below;clear HM HM1 HB;have HM:=HM2;clear HM2)|(refine qa ?_;clear HM;intro A1 c1 W1 HM)|(refine qg ?_;clear HM;intro g W1 HM))
          exact n_round (k + 1,{ u with ds:=u.ds ++ [⟨u.ballot,rd tStr u.wishes k⟩] }) U ⟨hlt,hst,hvn,hlu,e1,⟨ju.a0,(A1,c1),ju.a2,ju.a3,ju.a4,ju.a5,ju.a6⟩,rfl,by rw [hR];exact (by simp only [boxR,partRcd,List.cons_append,List.nil_append];exact HM.sb)⟩ (by dsimp only;omega)
        · have e : layWish u (rd tStr u.wishes k) = u:=if_neg (fun h=>c2 h.2)
          rw [e] at hst
          repeat (first|(refine gL ?_;refine s_pv (p_makeFunc rfl rfl) rfl ?_)|refine Y ?_|(refine qs ?_;clear HM;intro W1 HM)|(refine qf ?_;go_at_call 70;obtain ⟨F1,hF1⟩:=HM.own (A:=ju.a1.1);have HB:=(Mem.start _).robox (HM.heap (g:=g));refine (containsSlot g (rd tStr u.wishes k) (ro_slots hF1) (by omega) HB).mono ?_;clear hF1;rintro e W1 ⟨rfl,HM1⟩;refine ⟨_,rfl,?_⟩;have HM2:=HM.step HM1.below;clear HM HM1 HB;have HM:=HM2;clear HM2)|(refine qg ?_;clear HM;intro g W1 HM))
          exact n_round (k + 1,u) U ⟨hlt,hst,hvu,hlu,e1,ju,rfl,by rw [hR];exact (by simp only [boxR,partRcd,List.cons_append,List.nil_append];exact HM.sb)⟩ (by dsimp only;omega)
      · rw [List.drop_eq_nil_of_le (by omega),List.foldl_nil] at hz
        rw [← hz]
        repeat refine Y ?_
        exact n_mid ju U (by rw [hR];exact pk_boxr HM)
    clear HM0
    rintro ju W1 HM
    clear hv3 hl3 hwx
    generalize y.wishes.foldl layWish y = u at *
    have huo : 0 ≤ u.of ∧ u.of ≤ 5:=⟨by have:=hv4.of1;omega,hv4.of5⟩
    have hud0:=hv4.disk.k0
    have hud1:=hv4.disk.k1
    have hudl:=hv4.disk.slots.1
    have hnat : ((u.dk.toNat : Nat) : Int) = u.dk:=by omega
    have hlen1:=othersL_len u.number ⟨5,0,0,u.ballot,0,u.dk,⟨#[]⟩,[]⟩ u.of.toNat 1 x.held
    have hO1 : leadOut u x.held = accOut u (u.ds.length - u.dk.toNat) u.dk.toNat (othL u x.held ⟨5,0,0,u.ballot,0,u.dk,⟨#[]⟩,[]⟩):=rfl
    rw [hO1]
    clear hO1
    change (othL u x.held ⟨5,0,0,u.ballot,0,u.dk,⟨#[]⟩,[]⟩).length ≤ _ at hlen1
    obtain ⟨o1,ho1⟩ : ∃ o1,o1 = othL u x.held ⟨5,0,0,u.ballot,0,u.dk,⟨#[]⟩,[]⟩:=⟨_,rfl⟩
    rw [← ho1] at hlen1 ⊢
    rw [hR] at HM
    simp only [boxR,partRcd,List.cons_append,List.nil_append] at HM
    repeat (first|(refine gL ?_;refine s_pv (p_makeFunc rfl rfl) rfl ?_)|refine Y ?_|(refine qs ?_;clear HM;intro W1 HM)|(refine qf ?_;go_at_call 72;refine (others2M (L:=L) u ju gr (g3:=g3) (g1:=g1) (A:=i.a2.1) (c:=i.a2.2) (o:=x.held) huo (by omega) (by simp only [boxR,partRcd,List.cons_append,List.nil_append];exact HM.sb)).mono ?_;rw [← ho1];rintro e W1 ⟨A1,c1,rfl,HM1⟩;refine ⟨_,rfl,?_⟩;replace HM:=HM1;clear HM1;simp only [boxR,partRcd,List.cons_append,List.nil_append] at HM)|(refine qg ?_;clear HM;intro g W1 HM))
    obtain ⟨o2,ho2⟩ : ∃ o2,o2 = accOut u (u.ds.length - u.dk.toNat) u.dk.toNat o1:=⟨_,rfl⟩
    rw [← ho2]
    refine c_loop2 (σ:=Nat × List Msg × Nat) (fun s A c=>[(1,.pointer (some ⟨g1,0,none⟩)),(3,.pointer (some ⟨g3,0,none⟩)),(8,.pointer (some ⟨s.2.2,0,none⟩))]) (fun s A c W1=>s.1 ≤ u.ds.length ∧ accOut u (u.ds.length - s.1) s.1 s.2.1 = o2 ∧ s.2.1.length ≤ 1000 + 5 * s.1 ∧ Mem w0 W1 (own (tMsg 91) 40 A c s.2.1 :: box g3 26 [.slice A s.2.1.length c] :: box g1 93 [.pointer (some ⟨gr,0,none⟩)] :: box s.2.2 3 [.int .i64 s.1] :: (boxR 91 40 9 3 66 31 gr u ju ++ L))) (fun s=>u.ds.length - s.1) (u.dk.toNat,o1,g) A1 c1 U ⟨by dsimp only;omega,ho2.symm,by dsimp only;omega,by dsimp only;rw [hnat];exact (by simp only [boxR,partRcd,List.cons_append,List.nil_append];exact HM.sb)⟩ ?_
    clear HM
    rintro ⟨k,o,g8⟩ A c W1 ⟨hk,hz,hol,HM⟩
    dsimp only at hk hz hol HM ⊢
    simp only [boxR,partRcd,List.cons_append,List.nil_append] at HM
    by_cases hlt : k < u.ds.length
    · rw [show u.ds.length - k = (u.ds.length - (k + 1)) + 1 by omega,accOut] at hz
      have hlen2:=othersL_len u.number ⟨3,0,0,u.ballot,(k : Int) + 1,0,(rd tSlot u.ds k).text,[]⟩ u.of.toNat 1 o
      change (othL u o ⟨3,0,0,u.ballot,(k : Int) + 1,0,(rd tSlot u.ds k).text,[]⟩).length ≤ _ at hlen2
      obtain ⟨o3,ho3⟩ : ∃ o3,o3 = othL u o ⟨3,0,0,u.ballot,(k : Int) + 1,0,(rd tSlot u.ds k).text,[]⟩:=⟨_,rfl⟩
      rw [← ho3] at hz hlen2
      repeat (first|(refine gR ?_;refine d_start [] [(1,0),(1,1),(0,2),(0,3),(0,4),(1,5),(0,6),(0,7)] HM (by kernel_rfl) (by kernel_rfl) qq (by kernel_rfl) rfl ?_;intro HQ HS W1 HM1;replace HM:=HM1;clear HM1)|(refine gL ?_;refine s_pv (p_makeFunc rfl rfl) rfl ?_)|refine Y ?_|(refine qs ?_;clear HM;intro W1 HM)|(refine qf ?_;go_at_call 72;refine (others3M (L:=L) u ju gr (g8:=g8) k hlt hudl (g3:=g3) (g1:=g1) (A:=A) (c:=c) (o:=o) huo (by omega) (by simp only [boxR,partRcd,List.cons_append,List.nil_append];exact HM.sb)).mono ?_;rw [← ho3];rintro e W1 ⟨A1,c1,rfl,HM1⟩;refine ⟨_,rfl,?_⟩;replace HM:=HM1;clear HM1;simp only [boxR,partRcd,List.cons_append,List.nil_append] at HM)|(refine qg ?_;clear HM;intro g W1 HM))
      exact n_round2 (k + 1,o3,g) A1 c1 U ⟨by dsimp only;omega,hz,by dsimp only;omega,by dsimp only;simp only [Int.natCast_add,Int.natCast_one];exact (by simp only [boxR,partRcd,List.cons_append,List.nil_append];exact HM.sb)⟩ (by dsimp only;omega)
    · rw [show u.ds.length - k = 0 by omega,accOut] at hz
      subst hz
      repeat (first|(refine gR ?_;refine d_start [] [(1,0),(1,1),(0,2),(0,3),(0,4),(1,5),(0,6),(0,7)] HM (by kernel_rfl) (by kernel_rfl) qq (by kernel_rfl) rfl ?_;intro HQ HS W1 HM1;replace HM:=HM1;clear HM1)|refine Y ?_)
      exact ret_tmp rfl rfl ⟨ju,A,c,rfl,by simp only [boxR,partRcd,List.cons_append,List.nil_append];exact HM.sb⟩
  rw [if_neg cl,if_neg cl]
  simp only [Bool.not_eq_true] at cl
  have hzh0:=hv2.h0
  have hzh1:=hv2.h1
  have hzn1:=hv2.n1
  have hzn2:=hv2.no
  rw [hR] at HM
  simp only [boxR,partRcd,List.cons_append,List.nil_append] at HM
  by_cases c1 : 4 + 3 * z.number < z.heard
  rotate_left
  · have e : tick3 z = z:=if_neg c1
    rw [e]
    repeat (first|(refine gR ?_;refine d_start [] [(1,0),(0,1),(0,2),(1,3),(1,4),(0,5),(0,6),(1,7),(0,8),(0,9),(0,10)] HM (by kernel_rfl) (by kernel_rfl) qq (by kernel_rfl) rfl ?_;intro HQ HS W1 HM1;replace HM:=HM1;clear HM1)|refine Y ?_)
    exact ret_tmp rfl rfl ⟨jz,i.a2.1,i.a2.2,rfl,by simp only [boxR,partRcd,List.cons_append,List.nil_append];exact HM.sb⟩
  obtain ⟨b,hb⟩ : ∃ b,b = nextL z.dp z.number z.of:=⟨_,rfl⟩
  have hbr:=nextL_range (a:=z.dp) (n:=z.number) (o:=z.of)
  rw [← hb] at hbr
  have e : tick3 z = (if 0 < b then tick4 z b else { calmL z with heard:=0 }):=by rw [hb];exact if_pos c1
  rw [e]
  clear e
  repeat (first|(refine gR ?_;refine d_start [] [(1,0),(0,1),(0,2),(1,3),(1,4),(0,5),(0,6),(1,7),(0,8),(0,9),(0,10)] HM (by kernel_rfl) (by kernel_rfl) qq (by kernel_rfl) rfl ?_;intro HQ HS W1 HM1;replace HM:=HM1;clear HM1)|refine Y ?_|(refine qs ?_;clear HM;intro W1 HM)|(refine qf ?_;go_at_call 75;refine (quietM z jz gr (by exact pk_boxr HM)).mono ?_;rintro e W1 ⟨j2,rfl,HM1⟩;refine ⟨_,rfl,?_⟩;replace HM:=HM1;clear HM1;simp only [calmL,boxR,partRcd,List.cons_append,List.nil_append] at HM))
  refine c_cutn (σ:=Nat) (fun s=>[(1,.pointer (some ⟨g1,0,none⟩)),(3,.pointer (some ⟨g3,0,none⟩)),(9,.pointer (some ⟨s,0,none⟩))]) (fun s W1=>Mem w0 W1 (box s 3 [.int .i64 b] :: (boxR 91 40 9 3 66 31 gr { calmL z with heard:=0 } j2 ++ R))) ?_ ?_
  · have hbr0:=hbr.1
    refine gR ?_
    refine x_start (ds:=[]) HM (fun w hw=>hw) (by kernel_rfl) (by kernel_rfl) qq ?_
    intro HQ HS W1 HM1;replace HM:=HM1;clear HM1
    refine x_ld HQ HS 0 rfl (by kernel_rfl) (by kernel_rfl) (by kernel_rfl) (by kernel_rfl) (l':=#[true,false,false,false,false,false,false,false,false,false,false,false,false,false,false,false]) (by kernel_rfl) rfl ?_
    refine Y ?_
    refine x_pv HQ HS 1 rfl (by kernel_rfl) (by kernel_rfl) (l':=#[true,true,false,false,false,false,false,false,false,false,false,false,false,false,false,false]) (by kernel_rfl) rfl ?_
    refine Y ?_
    refine x_pv HQ HS 2 rfl (by kernel_rfl) (by kernel_rfl) (l':=#[true,true,true,false,false,false,false,false,false,false,false,false,false,false,false,false]) (by kernel_rfl) rfl ?_
    refine Y ?_
    refine x_pv HQ HS 3 rfl (by kernel_rfl) (by kernel_rfl) (l':=#[true,true,true,true,false,false,false,false,false,false,false,false,false,false,false,false]) (by kernel_rfl) rfl ?_
    refine Y ?_
    refine x_ld HQ HS 4 rfl (by kernel_rfl) (by kernel_rfl) (by kernel_rfl) (by kernel_rfl) (l':=#[true,true,true,true,true,false,false,false,false,false,false,false,false,false,false,false]) (by kernel_rfl) rfl ?_
    refine Y ?_
    refine x_ld HQ HS 5 rfl (by kernel_rfl) (by kernel_rfl) (by kernel_rfl) (by kernel_rfl) (l':=#[true,true,true,true,true,true,false,false,false,false,false,false,false,false,false,false]) (by kernel_rfl) rfl ?_
    refine Y ?_
    refine x_pv HQ HS 6 rfl (by kernel_rfl) (by kernel_rfl) (l':=#[true,true,true,true,true,true,true,false,false,false,false,false,false,false,false,false]) (by kernel_rfl) rfl ?_
    refine Y ?_
    refine x_pv HQ HS 7 rfl (by kernel_rfl) (by kernel_rfl) (l':=#[true,true,true,true,true,true,true,true,false,false,false,false,false,false,false,false]) (by kernel_rfl) rfl ?_
    refine Y ?_
    refine x_ld HQ HS 8 rfl (by kernel_rfl) (by kernel_rfl) (by kernel_rfl) (by kernel_rfl) (l':=#[true,true,true,true,true,true,true,true,true,false,false,false,false,false,false,false]) (by kernel_rfl) rfl ?_
    refine Y ?_
    refine x_ld HQ HS 9 rfl (by kernel_rfl) (by kernel_rfl) (by kernel_rfl) (by kernel_rfl) (l':=#[true,true,true,true,true,true,true,true,true,true,false,false,false,false,false,false]) (by kernel_rfl) rfl ?_
    refine Y ?_
    refine x_pv HQ HS 10 rfl (by kernel_rfl) (by kernel_rfl) (l':=#[true,true,true,true,true,true,true,true,true,true,true,false,false,false,false,false]) (by kernel_rfl) rfl ?_
    refine Y ?_
    refine x_pv HQ HS 11 rfl (by kernel_rfl) (by kernel_rfl) (l':=#[true,true,true,true,true,true,true,true,true,true,true,true,false,false,false,false]) (by kernel_rfl) rfl ?_
    refine Y ?_
    refine x_ld HQ HS 12 rfl (by kernel_rfl) (by kernel_rfl) (by kernel_rfl) (by kernel_rfl) (l':=#[true,true,true,true,true,true,true,true,true,true,true,true,true,false,false,false]) (by kernel_rfl) rfl ?_
    refine Y ?_
    refine x_two 13 14 (by kernel_rfl) rfl rfl (l':=#[true,true,true,true,true,true,true,true,true,true,true,true,true,true,false,false]) (l'':=#[true,true,true,true,true,true,true,true,true,true,true,true,true,false,true,false]) (by kernel_rfl) (by kernel_rfl) (x_go ?_) (x_go ?_)
    · repeat (first|(refine qf ?_;go_at_call 76;refine (nextM z.dp z.number z.of HM).mono ?_;rw [← hb];rintro e W1 ⟨rfl,HM1⟩;refine ⟨_,rfl,?_⟩;replace HM:=HM1;clear HM1)|refine Y ?_)
      refine x_one 14 (by kernel_rfl) rfl (l':=#[true,true,true,true,true,true,true,true,true,true,true,true,true,true,true,false]) (by kernel_rfl) (x_go ?_)
      repeat (first|(refine qg ?_;clear HM;intro g W1 HM)|refine Y ?_)
      refine x_one 15 (by kernel_rfl) rfl (l':=#[true,true,true,true,true,true,true,true,true,true,true,true,true,true,true,true]) (by kernel_rfl) (x_go ?_)
      repeat (first|(refine qs ?_;clear HM;intro W1 HM)|refine Y ?_)
      refine x_done (by kernel_rfl) ?_
      exact n_mid g U (by rw [hR];simp only [calmL,boxR,partRcd,List.cons_append,List.nil_append];exact HM.sb)
    · repeat (first|(refine qg ?_;clear HM;intro g W1 HM)|refine Y ?_)
      refine x_one 13 (by kernel_rfl) rfl (l':=#[true,true,true,true,true,true,true,true,true,true,true,true,true,true,true,false]) (by kernel_rfl) (x_go ?_)
      repeat (first|(refine qf ?_;go_at_call 76;refine (nextM z.dp z.number z.of HM).mono ?_;rw [← hb];rintro e W1 ⟨rfl,HM1⟩;refine ⟨_,rfl,?_⟩;replace HM:=HM1;clear HM1)|refine Y ?_)
      refine x_one 15 (by kernel_rfl) rfl (l':=#[true,true,true,true,true,true,true,true,true,true,true,true,true,true,true,true]) (by kernel_rfl) (x_go ?_)
      repeat (first|(refine qs ?_;clear HM;intro W1 HM)|refine Y ?_)
      refine x_done (by kernel_rfl) ?_
      exact n_mid g U (by rw [hR];simp only [calmL,boxR,partRcd,List.cons_append,List.nil_append];exact HM.sb)
  clear HM
  rintro g9 W1 HM
  dsimp only at HM ⊢
  rw [hR] at HM
  simp only [calmL,boxR,partRcd,List.cons_append,List.nil_append] at HM
  by_cases c2 : 0 < b
  rotate_left
  · rw [if_neg c2]
    repeat refine Y ?_
    exact ret_tmp rfl rfl ⟨j2,i.a2.1,i.a2.2,rfl,by simp only [calmL,boxR,partRcd,List.cons_append,List.nil_append];exact HM.sb⟩
  rw [if_pos c2]
  obtain ⟨u,hu4⟩ : ∃ u,u = holdAll (othL { calmL z with heard:=0,dp:=b,ballot:=b,trying:=true } [] ⟨1,0,0,b,0,0,⟨#[]⟩,[]⟩) { calmL z with heard:=0,dp:=b,ballot:=b,trying:=true }:=⟨_,rfl⟩
  have e4 : tick4 z b = u:=hu4.symm
  rw [e4]
  clear e4
  have HM2:=HM.perm (List.Perm.swap ..)
  clear HM
  have HM:=HM2
  clear HM2
  repeat (first|(refine gR ?_;refine d_startd [14] [(1,0),(1,1),(1,2),(1,3),(1,4),(0,5),(0,6),(0,7),(2,8),(0,9),(0,10),(2,11),(0,12),(0,13),(3,14)] HM (by kernel_rfl) (by kernel_rfl) qq (by kernel_rfl) rfl ?_;intro HQ HS W1 HM1;replace HM:=HM1;clear HM1)|(refine gL ?_;refine s_pv (p_makeFunc rfl rfl) rfl ?_)|refine Y ?_|(refine qs ?_;clear HM;intro W1 HM)|(refine qf ?_;go_at_call 72;refine (others4M (L:=own (tMsg 91) 40 i.a2.1 i.a2.2 x.held :: box g3 26 [.slice i.a2.1 x.held.length i.a2.2] :: L) { calmL z with heard:=0,dp:=b,ballot:=b,trying:=true } j2 gr b (g1:=g1) (g9:=g9) hof (by simp only [calmL,boxR,partRcd,List.cons_append,List.nil_append];exact HM.sb)).mono ?_;rw [← hu4];rintro e W1 ⟨j4,rfl,HM1⟩;refine ⟨_,rfl,?_⟩;replace HM:=HM1;clear HM1;simp only [boxR,partRcd,List.cons_append,List.nil_append] at HM))
  exact ret_tmp rfl rfl ⟨j4,i.a2.1,i.a2.2,rfl,by simp only [boxR,partRcd,List.cons_append,List.nil_append];exact HM.sb⟩
end Go.Proofs.YtampmicahnnebaaGreat.Sp
namespace Go.Proofs.YtampmicahnnebaaGreat.Sp
open Go Go.RowKit
set_option maxRecDepth 10000
set_option maxHeartbeats 2000000
variable {w0 W : World} {L : List Asn}
theorem clone_l {b : Bool} (x : Rcd) (i : AtRcd) (h : RoRcd b w0 x i) (hn : SmallR x) (HM : Mem w0 W L) : Calls Tryz.prog 21 #[.agg ([.int .i64 x.number,.int .i64 x.of,.bool x.up,.int .i64 x.sp,.int .i64 x.sk,.slice i.a0.1 x.ss.length i.a0.2,.int .i64 x.dp,.int .i64 x.dk,.slice i.a1.1 x.ds.length i.a1.2,.slice i.a2.1 x.held.length i.a2.2,.slice i.a3.1 x.wishes.length i.a3.2,.bool x.lead,.bool x.trying,.int .i64 x.ballot,.slice i.a4.1 x.yes.length i.a4.2,.slice i.a5.1 x.best.length i.a5.2,.slice i.a6.1 x.acks.length i.a6.2,.int .i64 x.heard]).toArray] W fun e W'=>∃ j,e = .returned (.agg (encRcd x j).toArray) ∧ Mem w0 W' (partRcd 91 40 9 3 66 x j ++ L):=clone_c x i h hn HM
theorem implRecTick (x : Rcd) (i : AtRcd) (h : RoRcd false w0 x i) (hc : x.ds.length ≤ i.a1.2 ∧ x.wishes.length ≤ i.a3.2) (hn : SmallR x) (HM : Mem w0 W L) : Calls Tryz.prog 5 #[.agg (encRcd x i).toArray] W fun e W'=>∃ j A c,e = .returned (.tuple #[.agg (encRcd (recTickL x) j).toArray,.slice A (recTickO x).length c]) ∧ Mem w0 W' (own (tMsg 91) 40 A c (recTickO x) :: (partRcd 91 40 9 3 66 (recTickL x) j ++ L)):=by
  refine enter Tryz.func5 rfl Tryz.ntmps5 [(0,.agg (encRcd x i).toArray)] rfl ⟨rfl,trivial⟩ ?_
  have h0:=h
  have hw:=hc.2
  unfold encRcd
  by_cases hv : validB x = true
  rotate_left
  · simp only [Bool.not_eq_true] at hv
    have e : recTickL x = zeroR:=by simp [recTickL,hv]
    have e2 : recTickO x = []:=by simp [recTickO,hv]
    rw [e,e2]
    repeat (first|refine Y ?_|(refine qs ?_;clear HM;intro W1 HM)|(refine qf ?_;go_at_call 10;refine (implValid x i h0 hw hn HM).mono ?_;rintro e W1 ⟨rfl,HM1⟩;refine ⟨_,rfl,?_⟩;replace HM:=HM1;clear HM1)|(refine qg ?_;clear HM;intro g W1 HM))
    have HM2:=(HM.zeroR 91 40 9 3 66).nil (tMsg 91) 40
    simp only [partRcd,zeroR,atZ,List.cons_append,List.nil_append] at HM2
    exact ret_ct HM2 rfl rfl rfl rfl ⟨atZ,none,0,rfl,by simp only [partRcd,zeroR,atZ,List.cons_append,List.nil_append];exact HM2.sb⟩
  have hV:=validB_iff.1 hv
  by_cases hu : x.up = true
  rotate_left
  · simp only [Bool.not_eq_true] at hu
    have e : recTickL x = x:=by simp [recTickL,hv,hu]
    have e2 : recTickO x = []:=by simp [recTickO,hv,hu]
    rw [e,e2]
    repeat (first|refine Y ?_|(refine qs ?_;clear HM;intro W1 HM)|(refine qf ?_;first|(go_at_call 10;refine (implValid x i h0 hw hn HM).mono ?_;rintro e W1 ⟨rfl,HM1⟩;refine ⟨_,rfl,?_⟩;replace HM:=HM1;clear HM1)|(go_at_call 21;first|((with_reducible refine (clone_l x i h0 hn HM).mono ?_);rintro e W1 ⟨j2,rfl,HM1⟩;refine ⟨_,rfl,?_⟩;replace HM:=HM1;clear HM1;simp only [partRcd,List.cons_append,List.nil_append] at HM;simp only [encRcd])|(have hro:=ro_rec1 (eS:=91) (eM:=40) (eT:=9) (eI:=3) (eA:=66) (x:=x) (i:=j3) HM;with_reducible refine (clone_l x j3 hro hn (Mem.start _)).mono ?_;clear hro;rintro e W1 ⟨j4,rfl,HM1⟩;refine ⟨_,rfl,?_⟩;replace HM:=HM.join HM1;clear HM1;simp only [partRcd,List.cons_append,List.nil_append] at HM;simp only [encRcd]))|(go_at_call 22;refine (tickOffM x j2 _ hu (by exact pk_boxr HM)).mono ?_;rintro e W1 ⟨j3,rfl,HM1⟩;refine ⟨_,rfl,?_⟩;replace HM:=HM1;clear HM1;simp only [boxR,partRcd,List.cons_append,List.nil_append] at HM)|(go_at_call 23;have HM2:=HM.nil (tMsg 91) 40;clear HM;have HM:=HM2;clear HM2;obtain ⟨F1,hF1⟩:=HM.own (A:=none);refine (cloneMsgs_c (xs:=[]) (ro_msgs hF1) (by simp) (by simp) (Mem.start _)).mono ?_;clear hF1;rintro e W1 ⟨A5,c5,rfl,HM1⟩;refine ⟨_,rfl,?_⟩;replace HM:=HM.join HM1;clear HM1;simp only [List.cons_append,List.nil_append] at HM))|(refine qg ?_;clear HM;intro g W1 HM))
    exact ret_ct HM rfl rfl rfl rfl ⟨j4,A5,c5,rfl,by simp only [boxR,partRcd,List.cons_append,List.nil_append];exact HM.sb⟩
  have e : recTickL x = tickL x:=by simp [recTickL,hv,hu]
  have e2 : recTickO x = tickOut x:=by simp [recTickO,hv,hu]
  obtain ⟨hT,_,hO⟩:=vr_tick hV hu
  have hos : ∀ m ∈ tickOut x,m.slots.length ≤ 1048576:=fun m hm=>by have:=(hO m hm).1.slots.1;omega
  have hol:=tickOut_len hV hu
  rw [e,e2]
  repeat (first|refine Y ?_|(refine qs ?_;clear HM;intro W1 HM)|(refine qf ?_;first|(go_at_call 10;refine (implValid x i h0 hw hn HM).mono ?_;rintro e W1 ⟨rfl,HM1⟩;refine ⟨_,rfl,?_⟩;replace HM:=HM1;clear HM1)|(go_at_call 21;first|((with_reducible refine (clone_l x i h0 hn HM).mono ?_);rintro e W1 ⟨j2,rfl,HM1⟩;refine ⟨_,rfl,?_⟩;replace HM:=HM1;clear HM1;simp only [partRcd,List.cons_append,List.nil_append] at HM;simp only [encRcd])|(have hro:=ro_rec1 (eS:=91) (eM:=40) (eT:=9) (eI:=3) (eA:=66) (x:=tickL x) (i:=j3) HM;with_reducible refine (clone_l (tickL x) j3 hro (vr_small hT) (Mem.start _)).mono ?_;clear hro;rintro e W1 ⟨j4,rfl,HM1⟩;refine ⟨_,rfl,?_⟩;replace HM:=HM.join HM1;clear HM1;simp only [partRcd,List.cons_append,List.nil_append] at HM;simp only [encRcd]))|(go_at_call 22;refine (tickM x j2 _ hV hu (by exact pk_boxr HM)).mono ?_;rintro e W1 ⟨j3,A4,c4,rfl,HM1⟩;refine ⟨_,rfl,?_⟩;replace HM:=HM1;clear HM1;simp only [boxR,partRcd,List.cons_append,List.nil_append] at HM)|(go_at_call 23;obtain ⟨F1,hF1⟩:=HM.own (A:=A4);refine (cloneMsgs_c (xs:=tickOut x) (ro_msgs hF1) (by omega) hos (Mem.start _)).mono ?_;clear hF1;rintro e W1 ⟨A5,c5,rfl,HM1⟩;refine ⟨_,rfl,?_⟩;replace HM:=HM.join HM1;clear HM1;simp only [List.cons_append,List.nil_append] at HM))|(refine qg ?_;clear HM;intro g W1 HM))
  exact ret_ct HM rfl rfl rfl rfl ⟨j4,A5,c5,rfl,by simp only [boxR,partRcd,List.cons_append,List.nil_append];exact HM.sb⟩
end Go.Proofs.YtampmicahnnebaaGreat.Sp
namespace Go.Proofs.YtampmicahnnebaaGreat.Sp
open Go Go.RowKit
set_option maxRecDepth 10000
set_option maxHeartbeats 2000000
variable {w0 W : World} {L : List Asn}
theorem holdM2 (x : Rcd) (i : AtRcd) (g : Nat) (m : Msg) (am : At) (HM : Mem w0 W (boxR 91 40 9 3 66 31 g x i ++ own tSlot 91 am.1 am.2 m.slots :: L)) : Calls Tryz.prog 78 #[.pointer (some ⟨g,0,none⟩),.agg (encMsg m am).toArray] W fun e W'=>∃ j,j.a3 = i.a3 ∧ e = .returned (.tuple #[]) ∧ Mem w0 W' (boxR 91 40 9 3 66 31 g (holdL x m) j ++ L):=by
  refine enter Tryz.func78 rfl Tryz.ntmps78 [(0,_),(1,.agg (encMsg m am).toArray)] rfl ⟨rfl,rfl,trivial⟩ ?_
  unfold encMsg
  simp only [boxR,partRcd,List.cons_append,List.nil_append] at HM
  by_cases c1 : (x.held.length : Int) < 400
  · have e : holdL x m = { x with held:=x.held ++ [{ m with frm:=x.number }] }:=if_pos c1
    repeat (first|(refine gR ?_;refine d_start [7,10] [(0,0),(0,1),(0,2),(0,3),(1,4),(1,5),(2,6),(3,7),(0,8),(0,9),(3,10)] HM (by kernel_rfl) (by kernel_rfl) qq (by kernel_rfl) rfl ?_;intro HQ HS W1 HM1;replace HM:=HM1;clear HM1)|refine Y ?_|(refine qs ?_;clear HM;intro W1 HM)|(refine qa ?_;clear HM;intro A1 c1 W1 HM)|(refine qg ?_;clear HM;intro g W1 HM))
    rw [e]
    exact end_none rfl ⟨⟨i.a0,i.a1,(A1,c1),i.a3,i.a4,i.a5,i.a6⟩,rfl,rfl,by simp only [boxR,partRcd,List.cons_append,List.nil_append];exact HM.sb⟩
  · have e : holdL x m = x:=if_neg c1
    repeat (first|refine Y ?_|(refine qs ?_;clear HM;intro W1 HM)|(refine qg ?_;clear HM;intro g W1 HM))
    rw [e]
    exact end_none rfl ⟨i,rfl,rfl,by simp only [boxR,partRcd,List.cons_append,List.nil_append];exact HM.sb⟩
theorem takeBeatM (x : Rcd) (i : AtRcd) (gr : Nat) (m : Msg) (am : At) (hv : VR x) (hu : x.up = true) (hm : MsgP m x.of) (ht : m.to = x.number) (hk : m.kind = 5) (HM : Mem w0 W (boxR 91 40 9 3 66 31 gr x i ++ L)) : Calls Tryz.prog 55 #[.pointer (some ⟨gr,0,none⟩),.agg (encMsg m am).toArray] W fun e W'=>∃ j,e = .returned (.tuple #[]) ∧ Mem w0 W' (boxR 91 40 9 3 66 31 gr (if m.ballot < x.dp then refuseL x m.frm else beatL x m) j ++ L):=by
  refine enter Tryz.func55 rfl Tryz.ntmps55 [(0,_),(1,.agg (encMsg m am).toArray)] rfl ⟨rfl,rfl,trivial⟩ ?_
  unfold encMsg
  simp only [boxR,partRcd,List.cons_append,List.nil_append] at HM
  by_cases c1 : m.ballot < x.dp
  · rw [if_pos c1]
    unfold refuseL
    repeat (first|(refine gR ?_;first|(refine d_start [] [(0,0),(0,1),(0,2),(1,3),(0,4),(0,5),(0,6),(0,8),(0,9),(0,10),(1,7),(1,11),(0,12),(0,13)] HM (by kernel_rfl) (by kernel_rfl) qq (by kernel_rfl) rfl ?_;intro HQ HS W1 HM1;replace HM:=HM1;clear HM1)|(refine d_start [] [(0,0),(0,2),(0,3),(0,4),(1,1),(1,5),(0,6)] HM (by kernel_rfl) (by kernel_rfl) qq (by kernel_rfl) rfl ?_;intro HQ HS W1 HM1;replace HM:=HM1;clear HM1))|refine Y ?_|(refine qf ?_;go_at_call 92;refine (refuseM x i gr m.frm (by exact pk_boxr HM)).mono ?_;rintro e W1 ⟨j2,rfl,HM1⟩;refine ⟨_,rfl,?_⟩;replace HM:=HM1;clear HM1;simp only [boxR,partRcd,List.cons_append,List.nil_append] at HM)|(refine qg ?_;clear HM;intro g W1 HM))
    exact ret_none rfl ⟨j2,rfl,by simp only [boxR,partRcd,List.cons_append,List.nil_append];exact HM.sb⟩
  rw [if_neg c1]
  by_cases c2 : m.ballot < 1
  · have e : beatL x m = x:=by rw [beatL,if_pos (.inr c2)]
    rw [e]
    repeat (first|(refine gR ?_;first|(refine d_start [] [(0,0),(0,1),(0,2),(1,3),(0,4),(0,5),(0,6),(0,8),(0,9),(0,10),(1,7),(1,11),(0,12),(0,13)] HM (by kernel_rfl) (by kernel_rfl) qq (by kernel_rfl) rfl ?_;intro HQ HS W1 HM1;replace HM:=HM1;clear HM1)|(refine d_start [] [(0,0),(0,2),(0,3),(0,4),(1,1),(1,5),(0,6)] HM (by kernel_rfl) (by kernel_rfl) qq (by kernel_rfl) rfl ?_;intro HQ HS W1 HM1;replace HM:=HM1;clear HM1)|(refine d_start [] [(0,0),(1,1),(0,2),(0,3),(0,4),(0,6),(0,7),(0,8),(1,5),(1,9),(0,10),(0,11)] HM (by kernel_rfl) (by kernel_rfl) qq (by kernel_rfl) rfl ?_;intro HQ HS W1 HM1;replace HM:=HM1;clear HM1))|refine Y ?_|(refine qg ?_;clear HM;intro g W1 HM))
    exact ret_none rfl ⟨i,rfl,by simp only [boxR,partRcd,List.cons_append,List.nil_append];exact HM.sb⟩
  by_cases c3 : m.frm = x.number
  · have e : beatL x m = x:=by rw [beatL,if_pos (.inl c3)]
    rw [e]
    repeat (first|(refine gR ?_;first|(refine d_start [] [(0,0),(0,1),(0,2),(1,3),(0,4),(0,5),(0,6),(0,8),(0,9),(0,10),(1,7),(1,11),(0,12),(0,13)] HM (by kernel_rfl) (by kernel_rfl) qq (by kernel_rfl) rfl ?_;intro HQ HS W1 HM1;replace HM:=HM1;clear HM1)|(refine d_start [] [(0,0),(0,2),(0,3),(0,4),(1,1),(1,5),(0,6)] HM (by kernel_rfl) (by kernel_rfl) qq (by kernel_rfl) rfl ?_;intro HQ HS W1 HM1;replace HM:=HM1;clear HM1)|(refine d_start [] [(0,0),(1,1),(0,2),(0,3),(0,4),(0,6),(0,7),(0,8),(1,5),(1,9),(0,10),(0,11)] HM (by kernel_rfl) (by kernel_rfl) qq (by kernel_rfl) rfl ?_;intro HQ HS W1 HM1;replace HM:=HM1;clear HM1))|refine Y ?_|(refine qg ?_;clear HM;intro g W1 HM))
    exact ret_none rfl ⟨i,rfl,by simp only [boxR,partRcd,List.cons_append,List.nil_append];exact HM.sb⟩
  have ew : (followL x m.ballot).wishes = x.wishes:=by unfold followL;split <;> rfl
  have e : beatL x m = wishedL m.frm (followL x m.ballot).wishes (beat2 (beat1 (followL x m.ballot) m) m):=by rw [beatL,if_neg (by omega),ew]
  have hvy:=vr_follow (b:=m.ballot) hv hm.ballot.2
  rw [e]
  clear e ew
  repeat (first|(refine gR ?_;first|(refine d_start [] [(0,0),(0,1),(0,2),(1,3),(0,4),(0,5),(0,6),(0,8),(0,9),(0,10),(1,7),(1,11),(0,12),(0,13)] HM (by kernel_rfl) (by kernel_rfl) qq (by kernel_rfl) rfl ?_;intro HQ HS W1 HM1;replace HM:=HM1;clear HM1)|(refine d_start [] [(0,0),(0,2),(0,3),(0,4),(1,1),(1,5),(0,6)] HM (by kernel_rfl) (by kernel_rfl) qq (by kernel_rfl) rfl ?_;intro HQ HS W1 HM1;replace HM:=HM1;clear HM1)|(refine d_start [] [(0,0),(1,1),(0,2),(0,3),(0,4),(0,6),(0,7),(0,8),(1,5),(1,9),(0,10),(0,11)] HM (by kernel_rfl) (by kernel_rfl) qq (by kernel_rfl) rfl ?_;intro HQ HS W1 HM1;replace HM:=HM1;clear HM1))|refine Y ?_|(refine qf ?_;go_at_call 93;refine (followM x i gr m.ballot (by exact pk_boxr HM)).mono ?_;rintro e W1 ⟨j2,rfl,HM1⟩;refine ⟨_,rfl,?_⟩;replace HM:=HM1;clear HM1;simp only [boxR,partRcd,List.cons_append,List.nil_append] at HM)|(refine qg ?_;clear HM;intro g W1 HM))
  clear c1 c3 hv hu ht
  generalize followL x m.ballot = y at *
  have hd:=hvy.disk
  have hdl:=hd.slots.1
  have hdk0:=hd.k0
  have hdk1:=hd.k1
  have hkn:=hm.known
  have hwl:=hvy.wishes.len
  clear hvy hd
  have HMn:=(show Mem w0 _ (boxR 91 40 9 3 66 31 gr y j2 ++ _) from pk_boxr HM).name
  clear HM
  obtain ⟨R,hR,HM⟩:=HMn
  refine c_cut (σ:=Rcd × AtRcd) (fun s=>[(0,.pointer (some ⟨gr,0,none⟩)),(3,.pointer (some ⟨g,0,none⟩)),(4,.pointer (some ⟨gr,6,none⟩))]) (fun s W1=>s.1 = beat1 y m ∧ Mem w0 W1 (boxR 91 40 9 3 66 31 gr s.1 s.2 ++ R)) ?_ ?_
  · refine c_loop (σ:=Nat × Int) (fun s=>[(0,.pointer (some ⟨gr,0,none⟩)),(3,.pointer (some ⟨g,0,none⟩)),(4,.pointer (some ⟨gr,6,none⟩))]) (fun s W1=>knowL y.ds m.ballot m.known s.1 s.2 = knowL y.ds m.ballot m.known y.ds.length y.dk ∧ 0 ≤ s.2 ∧ s.2 ≤ y.ds.length ∧ (y.ds.length : Int) ≤ s.1 + s.2 ∧ Mem w0 W1 (boxR 91 40 9 3 66 31 gr { y with dk:=s.2 } j2 ++ _)) (fun s=>s.1) (y.ds.length,y.dk) U ⟨rfl,hdk0,hdk1,by dsimp only;omega,HM⟩ ?_
    clear HM
    subst hR
    rintro ⟨fu,d⟩ W1 ⟨hl,hd0,hd1,hf,HM⟩
    dsimp only at hl hd0 hd1 hf HM ⊢
    simp only [boxR,partRcd,List.cons_append,List.nil_append] at HM
    by_cases t1 : d < m.known
    rotate_left
    · have hb1 : ({ y with dk:=d } : Rcd) = beat1 y m:=by rw [beat1,← hl,knowL_stop (fun h=>t1 h.1)]
      repeat (first|(refine gR ?_;refine d_start [] [(0,0),(0,1),(0,2),(0,4),(1,3),(1,5),(0,6),(0,7),(0,8),(0,9),(0,10),(0,12),(0,13),(0,14),(1,11),(1,15),(0,16),(0,17),(0,18),(0,19),(0,20),(0,21),(0,22),(0,24),(0,25),(0,26),(0,31),(1,23),(1,27),(0,28),(0,29),(1,30),(1,32),(0,33),(0,34)] HM (by kernel_rfl) (by kernel_rfl) qq (by kernel_rfl) rfl ?_;intro HQ HS W1 HM1;replace HM:=HM1;clear HM1)|refine Y ?_)
      exact n_mid ({ y with dk:=d },j2) U ⟨hb1,by exact pk_boxr (x:={ y with dk:=d }) HM⟩
    by_cases t2 : d < y.ds.length
    rotate_left
    · have hb1 : ({ y with dk:=d } : Rcd) = beat1 y m:=by rw [beat1,← hl,knowL_stop (fun h=>t2 h.2.1)]
      repeat (first|(refine gR ?_;refine d_start [] [(0,0),(0,1),(0,2),(0,4),(1,3),(1,5),(0,6),(0,7),(0,8),(0,9),(0,10),(0,12),(0,13),(0,14),(1,11),(1,15),(0,16),(0,17),(0,18),(0,19),(0,20),(0,21),(0,22),(0,24),(0,25),(0,26),(0,31),(1,23),(1,27),(0,28),(0,29),(1,30),(1,32),(0,33),(0,34)] HM (by kernel_rfl) (by kernel_rfl) qq (by kernel_rfl) rfl ?_;intro HQ HS W1 HM1;replace HM:=HM1;clear HM1)|refine Y ?_)
      exact n_mid ({ y with dk:=d },j2) U ⟨hb1,by exact pk_boxr (x:={ y with dk:=d }) HM⟩
    by_cases t3 : (rd tSlot y.ds d).ballot = m.ballot
    rotate_left
    · have hb1 : ({ y with dk:=d } : Rcd) = beat1 y m:=by rw [beat1,← hl,knowL_stop (fun h=>t3 h.2.2)]
      repeat (first|(refine gR ?_;refine d_start [] [(0,0),(0,1),(0,2),(0,4),(1,3),(1,5),(0,6),(0,7),(0,8),(0,9),(0,10),(0,12),(0,13),(0,14),(1,11),(1,15),(0,16),(0,17),(0,18),(0,19),(0,20),(0,21),(0,22),(0,24),(0,25),(0,26),(0,31),(1,23),(1,27),(0,28),(0,29),(1,30),(1,32),(0,33),(0,34)] HM (by kernel_rfl) (by kernel_rfl) qq (by kernel_rfl) rfl ?_;intro HQ HS W1 HM1;replace HM:=HM1;clear HM1)|refine Y ?_)
      exact n_mid ({ y with dk:=d },j2) U ⟨hb1,by exact pk_boxr (x:={ y with dk:=d }) HM⟩
    obtain ⟨n,rfl⟩ : ∃ n,fu = n + 1:=⟨fu - 1,by omega⟩
    have hst : knowL y.ds m.ballot m.known n (d + 1) = knowL y.ds m.ballot m.known y.ds.length y.dk:=by rw [← hl,knowL,if_pos ⟨t1,t2,t3⟩]
    repeat (first|(refine gR ?_;refine d_start [] [(0,0),(0,1),(0,2),(0,4),(1,3),(1,5),(0,6),(0,7),(0,8),(0,9),(0,10),(0,12),(0,13),(0,14),(1,11),(1,15),(0,16),(0,17),(0,18),(0,19),(0,20),(0,21),(0,22),(0,24),(0,25),(0,26),(0,31),(1,23),(1,27),(0,28),(0,29),(1,30),(1,32),(0,33),(0,34)] HM (by kernel_rfl) (by kernel_rfl) qq (by kernel_rfl) rfl ?_;intro HQ HS W1 HM1;replace HM:=HM1;clear HM1)|refine Y ?_|(refine qs ?_;clear HM;intro W1 HM))
    exact n_round (n,d + 1) U ⟨hst,by dsimp only;omega,by dsimp only;omega,by dsimp only;omega,by exact pk_boxr (x:={ y with dk:=d + 1 }) HM⟩ (by dsimp only;omega)
  clear HM
  subst hR
  rintro ⟨z,jz⟩ W1 ⟨hz,HM⟩
  dsimp only at hz HM ⊢
  rw [← hz]
  have hzd : 0 ≤ z.dk ∧ z.dk ≤ 1000:=by
    rw [hz]
    exact ⟨knowL_ge _ _ hdk0,knowL_le hdl _ _ (by omega)⟩
  have hzw : (beat2 z m).wishes = y.wishes:=by rw [beat2];split <;> (try unfold holdL) <;> (try split) <;> rw [hz] <;> rfl
  simp only [boxR,partRcd,List.cons_append,List.nil_append] at HM
  rw [← hzw]
  rw [← hzw] at hwl
  clear hz hzw
  have HMn:=(show Mem w0 _ (boxR 91 40 9 3 66 31 gr z jz ++ _) from pk_boxr HM).name
  clear HM
  obtain ⟨R,hR,HM⟩:=HMn
  refine c_seq ?_
  refine c_cutn (σ:=Rcd × AtRcd) (fun s=>[(0,.pointer (some ⟨gr,0,none⟩)),(3,.pointer (some ⟨g,0,none⟩)),(4,.pointer (some ⟨gr,6,none⟩))]) (fun s W1=>s.1 = beat2 z m ∧ Mem w0 W1 (boxR 91 40 9 3 66 31 gr s.1 s.2 ++ R)) ?_ ?_
  · subst hR
    simp only [boxR,partRcd,List.cons_append,List.nil_append] at HM
    by_cases t1 : z.dk < m.known
    · have e : beat2 z m = holdL z ⟨7,0,m.frm,m.ballot,z.dk + 1,0,⟨#[]⟩,[]⟩:=if_pos t1
      repeat (first|(refine gR ?_;first|(refine d_start [11] [(0,0),(0,1),(0,3),(0,5),(0,6),(0,7),(1,2),(1,4),(1,8),(0,9),(2,10),(3,11)] HM (by kernel_rfl) (by kernel_rfl) qq (by kernel_rfl) rfl ?_;intro HQ HS W1 HM1;replace HM:=HM1;clear HM1)|(refine d_start [] [(0,0),(0,1),(0,2),(0,4),(1,3),(1,5),(0,6)] HM (by kernel_rfl) (by kernel_rfl) qq (by kernel_rfl) rfl ?_;intro HQ HS W1 HM1;replace HM:=HM1;clear HM1))|refine Y ?_|(refine qf ?_;go_at_call 78;have HM2:=HM.nil tSlot 91;refine (holdM z jz _ ⟨7,0,m.frm,m.ballot,z.dk + 1,0,⟨#[]⟩,[]⟩ (none,0) (by exact pk_hold HM2)).mono ?_;clear HM2;rintro e W1 ⟨j2,rfl,HM1⟩;refine ⟨_,rfl,?_⟩;replace HM:=HM1;clear HM1;simp only [boxR,partRcd,List.cons_append,List.nil_append] at HM))
      exact n_mid (beat2 z m,j2) U ⟨rfl,by rw [e];exact pk_boxr HM⟩
    · have e : beat2 z m = z:=if_neg t1
      repeat (first|(refine gR ?_;refine d_start [] [(0,0),(0,1),(0,2),(0,4),(1,3),(1,5),(0,6)] HM (by kernel_rfl) (by kernel_rfl) qq (by kernel_rfl) rfl ?_;intro HQ HS W1 HM1;replace HM:=HM1;clear HM1)|refine Y ?_)
      exact n_mid (z,jz) U ⟨e.symm,by exact pk_boxr HM⟩
  clear HM
  subst hR
  rintro ⟨q,jq⟩ W1 ⟨hq,HM⟩
  dsimp only at hq HM ⊢
  rw [← hq]
  rw [← hq] at hwl
  clear hq hzd
  simp only [boxR,partRcd,List.cons_append,List.nil_append] at HM
  repeat refine Y ?_
  have HM0:=(show Mem w0 _ (boxR 91 40 9 3 66 31 gr q jq ++ _) from pk_boxr HM)
  clear HM
  refine c_loop (σ:=Nat × Rcd) (fun s=>[(0,.pointer (some ⟨gr,0,none⟩)),(3,.pointer (some ⟨g,0,none⟩)),(255,.slice jq.a3.1 q.wishes.length jq.a3.2),(256,.int .i64 q.wishes.length),(257,.int .i64 s.1)]) (fun s W1=>s.1 ≤ q.wishes.length ∧ wishedL m.frm (q.wishes.drop s.1) s.2 = wishedL m.frm q.wishes q ∧ s.2.wishes = q.wishes ∧ ∃ j,j.a3 = jq.a3 ∧ Mem w0 W1 (boxR 91 40 9 3 66 31 gr s.2 j ++ _)) (fun s=>q.wishes.length - s.1) (0,q) U ⟨Nat.zero_le _,rfl,rfl,jq,rfl,HM0⟩ ?_
  clear HM0
  rintro ⟨k,u⟩ W1 ⟨hk,hl,hw,ju,hj,HM⟩
  dsimp only at hk hl hw HM ⊢
  simp only [boxR,partRcd,List.cons_append,List.nil_append] at HM
  have hwlen : q.wishes.length = u.wishes.length:=by rw [hw]
  rw [hwlen] at hk hwl
  rw [← hj]
  simp only [hwlen]
  by_cases hlt : k < u.wishes.length
  · have hlt2 : k < q.wishes.length:=by rw [← hw];exact hlt
    have hst : wishedL m.frm (q.wishes.drop (k + 1)) (holdL u ⟨8,0,m.frm,0,0,0,rd tStr u.wishes k,[]⟩) = wishedL m.frm q.wishes q:=by
      rw [← hl,List.drop_eq_getElem_cons hlt2,wishedL,rd_at hlt];simp only [hw]
    have hst2 : (holdL u ⟨8,0,m.frm,0,0,0,rd tStr u.wishes k,[]⟩).wishes = q.wishes:=by rw [← hw];unfold holdL;split <;> rfl
    repeat (first|refine Y ?_|(refine qf ?_;go_at_call 78;have HM2:=HM.nil tSlot 91;refine (holdM2 u ju gr ⟨8,0,m.frm,0,0,0,rd tStr u.wishes k,[]⟩ (none,0) (by exact pk_hold HM2)).mono ?_;clear HM2;rintro e W1 ⟨j3,h3,rfl,HM1⟩;refine ⟨_,rfl,?_⟩;replace HM:=HM1;clear HM1;simp only [boxR,partRcd,List.cons_append,List.nil_append] at HM))
    rw [← hwlen] at *
    exact n_round (k + 1,holdL u ⟨8,0,m.frm,0,0,0,rd tStr u.wishes k,[]⟩) U ⟨by dsimp only;omega,hst,hst2,j3,by rw [h3,hj],by exact pk_boxr HM⟩ (by dsimp only;omega)
  · rw [List.drop_eq_nil_of_le (by omega)] at hl
    rw [← hl]
    repeat refine Y ?_
    exact end_none rfl ⟨ju,rfl,by simp only [wishedL,boxR,partRcd,List.cons_append,List.nil_append];exact HM.sb⟩
end Go.Proofs.YtampmicahnnebaaGreat.Sp
namespace Go.Proofs.YtampmicahnnebaaGreat.Sp
open Go Go.RowKit
set_option maxRecDepth 10000
set_option maxHeartbeats 2000000
variable {w0 W : World} {L : List Asn}
theorem takePrepM (x : Rcd) (i : AtRcd) (gr : Nat) (m : Msg) (am : At) (hv : VR x) (hu : x.up = true) (hm : MsgP m x.of) (ht : m.to = x.number) (hk : m.kind = 1) (HM : Mem w0 W (boxR 91 40 9 3 66 31 gr x i ++ L)) : Calls Tryz.prog 55 #[.pointer (some ⟨gr,0,none⟩),.agg (encMsg m am).toArray] W fun e W'=>∃ j,e = .returned (.tuple #[]) ∧ Mem w0 W' (boxR 91 40 9 3 66 31 gr (prepL x m) j ++ L):=by
  refine enter Tryz.func55 rfl Tryz.ntmps55 [(0,_),(1,.agg (encMsg m am).toArray)] rfl ⟨rfl,rfl,trivial⟩ ?_
  unfold encMsg
  simp only [boxR,partRcd,List.cons_append,List.nil_append] at HM
  by_cases c1 : m.ballot ≤ x.dp
  · have e : prepL x m = holdL x ⟨9,0,m.frm,x.dp,0,0,⟨#[]⟩,[]⟩:=if_pos c1
    rw [e]
    repeat (first|(refine gR ?_;first|(refine d_start [] [(0,0),(0,1),(0,2),(1,3),(0,4),(0,5),(0,6),(0,8),(0,9),(0,10),(1,7),(1,11),(0,12),(0,13)] HM (by kernel_rfl) (by kernel_rfl) qq (by kernel_rfl) rfl ?_;intro HQ HS W1 HM1;replace HM:=HM1;clear HM1)|(refine d_start (id:=5) [] [(0,0),(0,2),(0,3),(0,4),(1,1),(1,5),(0,6)] HM (by kernel_rfl) (by kernel_rfl) qq (by kernel_rfl) rfl ?_;intro HQ HS W1 HM1;replace HM:=HM1;clear HM1))|refine Y ?_|(refine qf ?_;go_at_call 92;refine (refuseM x i gr m.frm (by exact pk_boxr HM)).mono ?_;rintro e W1 ⟨j2,rfl,HM1⟩;refine ⟨_,rfl,?_⟩;replace HM:=HM1;clear HM1;simp only [boxR,partRcd,List.cons_append,List.nil_append] at HM)|(refine qg ?_;clear HM;intro g W1 HM))
    exact ret_none rfl ⟨j2,rfl,by simp only [boxR,partRcd,List.cons_append,List.nil_append];exact HM.sb⟩
  · have e : prepL x m = holdL (followL x m.ballot) ⟨2,0,m.frm,m.ballot,0,0,⟨#[]⟩,(followL x m.ballot).ds⟩:=if_neg c1
    have hds : (followL x m.ballot).ds = x.ds:=by unfold followL;split <;> rfl
    have hd:=hv.disk.slots.1
    rw [← hds] at hd
    rw [e]
    repeat (first|(refine gR ?_;first|(refine d_start [11] [(0,0),(0,1),(0,3),(0,5),(0,6),(0,7),(1,2),(1,4),(1,8),(2,9),(2,10),(3,11)] HM (by kernel_rfl) (by kernel_rfl) qq (by kernel_rfl) rfl ?_;intro HQ HS W1 HM1;replace HM:=HM1;clear HM1)|(refine d_start [] [(0,0),(0,1),(0,2),(1,3),(0,4),(0,5),(0,6),(0,8),(0,9),(0,10),(1,7),(1,11),(0,12),(0,13)] HM (by kernel_rfl) (by kernel_rfl) qq (by kernel_rfl) rfl ?_;intro HQ HS W1 HM1;replace HM:=HM1;clear HM1)|(refine d_start (id:=5) [] [(0,0),(0,2),(0,3),(0,4),(1,1),(1,5),(0,6)] HM (by kernel_rfl) (by kernel_rfl) qq (by kernel_rfl) rfl ?_;intro HQ HS W1 HM1;replace HM:=HM1;clear HM1))|refine Y ?_|(refine qf ?_;first|(go_at_call 93;refine (followM x i gr m.ballot (by exact pk_boxr HM)).mono ?_;rintro e W1 ⟨j2,rfl,HM1⟩;refine ⟨_,rfl,?_⟩;replace HM:=HM1;clear HM1;simp only [boxR,partRcd,List.cons_append,List.nil_append] at HM;clear e hds c1;generalize followL x m.ballot = y at *)|(go_at_call 65;obtain ⟨F1,hF1⟩:=HM.own (A:=j2.a1.1);refine (cloneSlots_c (ro_slots hF1) (by omega) (Mem.start _)).mono ?_;clear hF1;rintro e W1 ⟨A3,c3,rfl,HM1⟩;refine ⟨_,rfl,?_⟩;replace HM:=HM.join HM1;clear HM1;simp only [List.cons_append,List.nil_append] at HM)|(go_at_call 78;refine (holdM y j2 gr ⟨2,0,m.frm,m.ballot,0,0,⟨#[]⟩,y.ds⟩ (A3,c3) (by exact pk_hold HM)).mono ?_;rintro e W1 ⟨j3,rfl,HM1⟩;refine ⟨_,rfl,?_⟩;replace HM:=HM1;clear HM1;simp only [boxR,partRcd,List.cons_append,List.nil_append] at HM))|(refine qg ?_;clear HM;intro g W1 HM))
    exact end_none rfl ⟨j3,rfl,by simp only [boxR,partRcd,List.cons_append,List.nil_append];exact HM.sb⟩
theorem takePromisedM (x : Rcd) (i : AtRcd) (gr : Nat) (m : Msg) (am : At) (hv : VR x) (hu : x.up = true) (hm : MsgP m x.of) (ht : m.to = x.number) (hk : m.kind = 2) {b : Bool} (hb : ∀ W',Mem w0 W' L → RoRow (rSlot b) W' am.1 m.slots) (HM : Mem w0 W (boxR 91 40 9 3 66 31 gr x i ++ L)) : Calls Tryz.prog 55 #[.pointer (some ⟨gr,0,none⟩),.agg (encMsg m am).toArray] W fun e W'=>∃ j,e = .returned (.tuple #[]) ∧ Mem w0 W' (boxR 91 40 9 3 66 31 gr (if x.trying = true ∧ m.ballot = x.ballot then promL x m.frm m.slots else x) j ++ L):=by
  refine enter Tryz.func55 rfl Tryz.ntmps55 [(0,_),(1,.agg (encMsg m am).toArray)] rfl ⟨rfl,rfl,trivial⟩ ?_
  unfold encMsg
  simp only [boxR,partRcd,List.cons_append,List.nil_append] at HM
  by_cases c1 : x.trying = true
  rotate_left
  · rw [if_neg (fun h=>c1 h.1)]
    simp only [Bool.not_eq_true] at c1
    repeat (first|(refine gR ?_;first|(refine d_start [] [(0,0),(0,1),(0,2),(1,3),(0,4),(0,5),(0,6),(0,8),(0,9),(0,10),(1,7),(1,11),(0,12),(0,13)] HM (by kernel_rfl) (by kernel_rfl) qq (by kernel_rfl) rfl ?_;intro HQ HS W1 HM1;replace HM:=HM1;clear HM1)|(refine d_start [] [(0,0),(0,1),(0,2),(1,3),(0,4),(0,5),(0,7),(0,8),(0,9),(1,6),(1,10),(0,11),(0,12)] HM (by kernel_rfl) (by kernel_rfl) qq (by kernel_rfl) rfl ?_;intro HQ HS W1 HM1;replace HM:=HM1;clear HM1))|refine Y ?_|(refine qg ?_;clear HM;intro g W1 HM))
    exact end_none rfl ⟨i,rfl,by simp only [boxR,partRcd,List.cons_append,List.nil_append];exact HM.sb⟩
  by_cases c2 : m.ballot = x.ballot
  rotate_left
  · rw [if_neg (fun h=>c2 h.2)]
    repeat (first|(refine gR ?_;first|(refine d_start [] [(0,0),(0,1),(0,2),(1,3),(0,4),(0,5),(0,6),(0,8),(0,9),(0,10),(1,7),(1,11),(0,12),(0,13)] HM (by kernel_rfl) (by kernel_rfl) qq (by kernel_rfl) rfl ?_;intro HQ HS W1 HM1;replace HM:=HM1;clear HM1)|(refine d_start [] [(0,0),(0,1),(0,2),(1,3),(0,4),(0,5),(0,7),(0,8),(0,9),(1,6),(1,10),(0,11),(0,12)] HM (by kernel_rfl) (by kernel_rfl) qq (by kernel_rfl) rfl ?_;intro HQ HS W1 HM1;replace HM:=HM1;clear HM1))|refine Y ?_|(refine qg ?_;clear HM;intro g W1 HM))
    exact end_none rfl ⟨i,rfl,by simp only [boxR,partRcd,List.cons_append,List.nil_append];exact HM.sb⟩
  rw [if_pos ⟨c1,c2⟩]
  have h0:=hv.disk.k0
  have h1:=nums_len hv.yes hv.of5
  have h2:=hv.best.1
  have h3:=hm.slots.1
  have h4:=hv.disk.slots.1
  repeat (first|(refine gR ?_;first|(refine d_start [] [(0,0),(0,1),(0,2),(1,3),(0,4),(0,5),(0,6),(0,8),(0,9),(0,10),(1,7),(1,11),(0,12),(0,13)] HM (by kernel_rfl) (by kernel_rfl) qq (by kernel_rfl) rfl ?_;intro HQ HS W1 HM1;replace HM:=HM1;clear HM1)|(refine d_start [] [(0,0),(0,1),(0,2),(1,3),(0,4),(0,5),(0,7),(0,8),(0,9),(1,6),(1,10),(0,11),(0,12)] HM (by kernel_rfl) (by kernel_rfl) qq (by kernel_rfl) rfl ?_;intro HQ HS W1 HM1;replace HM:=HM1;clear HM1))|refine Y ?_|(refine qf ?_;go_at_call 68;have HMp:=(show Mem w0 _ (boxR 91 40 9 3 66 31 gr x i ++ _) from pk_boxr HM);refine (promM x i gr m.frm (fun W' h=>hb W' (by exact h.sb)) h0 hv.yes.sorted (by omega) (by omega) (by omega) (by omega) HMp).mono ?_;clear HMp;rintro e W1 ⟨j2,rfl,HM1⟩;refine ⟨_,rfl,?_⟩;replace HM:=HM1;clear HM1;simp only [boxR,partRcd,List.cons_append,List.nil_append] at HM)|(refine qg ?_;clear HM;intro g W1 HM))
  exact end_none rfl ⟨j2,rfl,by simp only [boxR,partRcd,List.cons_append,List.nil_append];exact HM.sb⟩
theorem takeAcceptM (x : Rcd) (i : AtRcd) (gr : Nat) (m : Msg) (am : At) (hv : VR x) (hu : x.up = true) (hm : MsgP m x.of) (ht : m.to = x.number) (hk : m.kind = 3) (HM : Mem w0 W (boxR 91 40 9 3 66 31 gr x i ++ L)) : Calls Tryz.prog 55 #[.pointer (some ⟨gr,0,none⟩),.agg (encMsg m am).toArray] W fun e W'=>∃ j,e = .returned (.tuple #[]) ∧ Mem w0 W' (boxR 91 40 9 3 66 31 gr (accL x m) j ++ L):=by
  refine enter Tryz.func55 rfl Tryz.ntmps55 [(0,_),(1,.agg (encMsg m am).toArray)] rfl ⟨rfl,rfl,trivial⟩ ?_
  unfold encMsg
  simp only [boxR,partRcd,List.cons_append,List.nil_append] at HM
  by_cases c1 : m.ballot < x.dp
  · have e : accL x m = holdL x ⟨9,0,m.frm,x.dp,0,0,⟨#[]⟩,[]⟩:=if_pos c1
    rw [e]
    repeat (first|(refine gR ?_;first|(refine d_start [] [(0,0),(0,1),(0,2),(1,3),(0,4),(0,5),(0,6),(0,8),(0,9),(0,10),(1,7),(1,11),(0,12),(0,13)] HM (by kernel_rfl) (by kernel_rfl) qq (by kernel_rfl) rfl ?_;intro HQ HS W1 HM1;replace HM:=HM1;clear HM1)|(refine d_start (id:=13) [] [(0,0),(0,2),(0,3),(0,4),(1,1),(1,5),(0,6)] HM (by kernel_rfl) (by kernel_rfl) qq (by kernel_rfl) rfl ?_;intro HQ HS W1 HM1;replace HM:=HM1;clear HM1))|refine Y ?_|(refine qf ?_;go_at_call 92;refine (refuseM x i gr m.frm (by exact pk_boxr HM)).mono ?_;rintro e W1 ⟨j2,rfl,HM1⟩;refine ⟨_,rfl,?_⟩;replace HM:=HM1;clear HM1;simp only [boxR,partRcd,List.cons_append,List.nil_append] at HM)|(refine qg ?_;clear HM;intro g W1 HM))
    exact ret_none rfl ⟨j2,rfl,by simp only [boxR,partRcd,List.cons_append,List.nil_append];exact HM.sb⟩
  by_cases c2 : m.index < 1
  · have e : accL x m = x:=by rw [accL,if_neg c1,if_pos (.inl c2)]
    rw [e]
    repeat (first|(refine gR ?_;first|(refine d_start [] [(0,0),(0,1),(0,2),(1,3),(0,4),(0,5),(0,6),(0,8),(0,9),(0,10),(1,7),(1,11),(0,12),(0,13)] HM (by kernel_rfl) (by kernel_rfl) qq (by kernel_rfl) rfl ?_;intro HQ HS W1 HM1;replace HM:=HM1;clear HM1)|(refine d_start (id:=13) [] [(0,0),(0,2),(0,3),(0,4),(1,1),(1,5),(0,6)] HM (by kernel_rfl) (by kernel_rfl) qq (by kernel_rfl) rfl ?_;intro HQ HS W1 HM1;replace HM:=HM1;clear HM1)|(refine d_start [] [(0,0),(1,1),(0,2),(0,3),(0,4),(1,5),(0,6),(0,7),(0,8),(0,9),(0,11),(0,12),(0,13),(1,10),(1,14),(0,15),(0,16)] HM (by kernel_rfl) (by kernel_rfl) qq (by kernel_rfl) rfl ?_;intro HQ HS W1 HM1;replace HM:=HM1;clear HM1))|refine Y ?_|(refine qg ?_;clear HM;intro g W1 HM))
    exact ret_none rfl ⟨i,rfl,by simp only [boxR,partRcd,List.cons_append,List.nil_append];exact HM.sb⟩
  by_cases c3 : m.ballot < 1
  · have e : accL x m = x:=by rw [accL,if_neg c1,if_pos (.inr (.inl c3))]
    rw [e]
    repeat (first|(refine gR ?_;first|(refine d_start [] [(0,0),(0,1),(0,2),(1,3),(0,4),(0,5),(0,6),(0,8),(0,9),(0,10),(1,7),(1,11),(0,12),(0,13)] HM (by kernel_rfl) (by kernel_rfl) qq (by kernel_rfl) rfl ?_;intro HQ HS W1 HM1;replace HM:=HM1;clear HM1)|(refine d_start (id:=13) [] [(0,0),(0,2),(0,3),(0,4),(1,1),(1,5),(0,6)] HM (by kernel_rfl) (by kernel_rfl) qq (by kernel_rfl) rfl ?_;intro HQ HS W1 HM1;replace HM:=HM1;clear HM1)|(refine d_start [] [(0,0),(1,1),(0,2),(0,3),(0,4),(1,5),(0,6),(0,7),(0,8),(0,9),(0,11),(0,12),(0,13),(1,10),(1,14),(0,15),(0,16)] HM (by kernel_rfl) (by kernel_rfl) qq (by kernel_rfl) rfl ?_;intro HQ HS W1 HM1;replace HM:=HM1;clear HM1))|refine Y ?_|(refine qg ?_;clear HM;intro g W1 HM))
    exact ret_none rfl ⟨i,rfl,by simp only [boxR,partRcd,List.cons_append,List.nil_append];exact HM.sb⟩
  by_cases c4 : m.frm = x.number
  · have e : accL x m = x:=by rw [accL,if_neg c1,if_pos (.inr (.inr c4))]
    rw [e]
    repeat (first|(refine gR ?_;first|(refine d_start [] [(0,0),(0,1),(0,2),(1,3),(0,4),(0,5),(0,6),(0,8),(0,9),(0,10),(1,7),(1,11),(0,12),(0,13)] HM (by kernel_rfl) (by kernel_rfl) qq (by kernel_rfl) rfl ?_;intro HQ HS W1 HM1;replace HM:=HM1;clear HM1)|(refine d_start (id:=13) [] [(0,0),(0,2),(0,3),(0,4),(1,1),(1,5),(0,6)] HM (by kernel_rfl) (by kernel_rfl) qq (by kernel_rfl) rfl ?_;intro HQ HS W1 HM1;replace HM:=HM1;clear HM1)|(refine d_start [] [(0,0),(1,1),(0,2),(0,3),(0,4),(1,5),(0,6),(0,7),(0,8),(0,9),(0,11),(0,12),(0,13),(1,10),(1,14),(0,15),(0,16)] HM (by kernel_rfl) (by kernel_rfl) qq (by kernel_rfl) rfl ?_;intro HQ HS W1 HM1;replace HM:=HM1;clear HM1))|refine Y ?_|(refine qg ?_;clear HM;intro g W1 HM))
    exact ret_none rfl ⟨i,rfl,by simp only [boxR,partRcd,List.cons_append,List.nil_append];exact HM.sb⟩
  have e : accL x m = holdL (acc1 (followL x m.ballot) m) ⟨4,0,m.frm,m.ballot,m.index,0,⟨#[]⟩,[]⟩:=by rw [accL,if_neg c1,if_neg (by omega)]
  have hds : (followL x m.ballot).ds = x.ds:=by unfold followL;split <;> rfl
  have hd:=hv.disk.slots.1
  have hix:=hm.index
  rw [← hds] at hd
  rw [e]
  by_cases c5 : (followL x m.ballot).dk < m.index
  · have e1 : acc1 (followL x m.ballot) m = setL (followL x m.ballot) m.index ⟨m.ballot,m.text⟩:=if_pos c5
    rw [e1]
    repeat (first|(refine gR ?_;first|(refine d_start [] [(0,0),(0,1),(0,2),(1,3),(0,4),(0,5),(0,6),(0,8),(0,9),(0,10),(1,7),(1,11),(0,12),(0,13)] HM (by kernel_rfl) (by kernel_rfl) qq (by kernel_rfl) rfl ?_;intro HQ HS W1 HM1;replace HM:=HM1;clear HM1)|(refine d_start (id:=13) [] [(0,0),(0,2),(0,3),(0,4),(1,1),(1,5),(0,6)] HM (by kernel_rfl) (by kernel_rfl) qq (by kernel_rfl) rfl ?_;intro HQ HS W1 HM1;replace HM:=HM1;clear HM1)|(refine d_start [] [(0,0),(1,1),(0,2),(0,3),(0,4),(1,5),(0,6),(0,7),(0,8),(0,9),(0,11),(0,12),(0,13),(1,10),(1,14),(0,15),(0,16)] HM (by kernel_rfl) (by kernel_rfl) qq (by kernel_rfl) rfl ?_;intro HQ HS W1 HM1;replace HM:=HM1;clear HM1)|(refine d_start (id:=17) [] [(0,0),(0,2),(0,3),(0,4),(1,1),(1,5),(0,6)] HM (by kernel_rfl) (by kernel_rfl) qq (by kernel_rfl) rfl ?_;intro HQ HS W1 HM1;replace HM:=HM1;clear HM1))|refine Y ?_|(refine qf ?_;first|(go_at_call 93;refine (followM x i gr m.ballot (by exact pk_boxr HM)).mono ?_;rintro e W1 ⟨j2,rfl,HM1⟩;refine ⟨_,rfl,?_⟩;replace HM:=HM1;clear HM1;simp only [boxR,partRcd,List.cons_append,List.nil_append] at HM;clear e hds e1;generalize followL x m.ballot = y at *)|(go_at_call 94;refine (slotM y j2 gr m.index ⟨m.ballot,m.text⟩ (by omega) (by omega) (by omega) (by exact pk_boxr HM)).mono ?_;rintro e W1 ⟨j3,rfl,HM1⟩;refine ⟨_,rfl,?_⟩;replace HM:=HM1;clear HM1;simp only [boxR,partRcd,List.cons_append,List.nil_append] at HM)|(go_at_call 78;have HM2:=HM.nil tSlot 91;refine (holdM (setL y m.index ⟨m.ballot,m.text⟩) j3 gr ⟨4,0,m.frm,m.ballot,m.index,0,⟨#[]⟩,[]⟩ (none,0) (by exact pk_hold HM2)).mono ?_;clear HM2;rintro e W1 ⟨j4,rfl,HM1⟩;refine ⟨_,rfl,?_⟩;replace HM:=HM1;clear HM1;simp only [boxR,partRcd,List.cons_append,List.nil_append] at HM))|(refine qg ?_;clear HM;intro g W1 HM))
    exact end_none rfl ⟨j4,rfl,by simp only [boxR,partRcd,List.cons_append,List.nil_append];exact HM.sb⟩
  · have e1 : acc1 (followL x m.ballot) m = followL x m.ballot:=if_neg c5
    rw [e1]
    repeat (first|(refine gR ?_;first|(refine d_start [] [(0,0),(0,1),(0,2),(1,3),(0,4),(0,5),(0,6),(0,8),(0,9),(0,10),(1,7),(1,11),(0,12),(0,13)] HM (by kernel_rfl) (by kernel_rfl) qq (by kernel_rfl) rfl ?_;intro HQ HS W1 HM1;replace HM:=HM1;clear HM1)|(refine d_start (id:=13) [] [(0,0),(0,2),(0,3),(0,4),(1,1),(1,5),(0,6)] HM (by kernel_rfl) (by kernel_rfl) qq (by kernel_rfl) rfl ?_;intro HQ HS W1 HM1;replace HM:=HM1;clear HM1)|(refine d_start [] [(0,0),(1,1),(0,2),(0,3),(0,4),(1,5),(0,6),(0,7),(0,8),(0,9),(0,11),(0,12),(0,13),(1,10),(1,14),(0,15),(0,16)] HM (by kernel_rfl) (by kernel_rfl) qq (by kernel_rfl) rfl ?_;intro HQ HS W1 HM1;replace HM:=HM1;clear HM1)|(refine d_start (id:=17) [] [(0,0),(0,2),(0,3),(0,4),(1,1),(1,5),(0,6)] HM (by kernel_rfl) (by kernel_rfl) qq (by kernel_rfl) rfl ?_;intro HQ HS W1 HM1;replace HM:=HM1;clear HM1))|refine Y ?_|(refine qf ?_;first|(go_at_call 93;refine (followM x i gr m.ballot (by exact pk_boxr HM)).mono ?_;rintro e W1 ⟨j2,rfl,HM1⟩;refine ⟨_,rfl,?_⟩;replace HM:=HM1;clear HM1;simp only [boxR,partRcd,List.cons_append,List.nil_append] at HM;clear e hds e1;generalize followL x m.ballot = y at *)|(go_at_call 78;have HM2:=HM.nil tSlot 91;refine (holdM y j2 gr ⟨4,0,m.frm,m.ballot,m.index,0,⟨#[]⟩,[]⟩ (none,0) (by exact pk_hold HM2)).mono ?_;clear HM2;rintro e W1 ⟨j4,rfl,HM1⟩;refine ⟨_,rfl,?_⟩;replace HM:=HM1;clear HM1;simp only [boxR,partRcd,List.cons_append,List.nil_append] at HM))|(refine qg ?_;clear HM;intro g W1 HM))
    exact end_none rfl ⟨j4,rfl,by simp only [boxR,partRcd,List.cons_append,List.nil_append];exact HM.sb⟩
end Go.Proofs.YtampmicahnnebaaGreat.Sp
