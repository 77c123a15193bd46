/- Draws of a recorder and a message. No condition. -/
import Derived.Test.YtampmicahnnebaaGreatRecClaim15
import Derived.Test.YtampmicahnnebaaGreatRecClaim12
import Derived.Test.YtampmicahnnebaaGreatRecClaim7
import Derived.Test.YtampmicahnnebaaGreatRecClaim4
import Derived.Test.YtampmicahnnebaaGreatRecClaim9
import Derived.Test.YtampmicahnnebaaGreatRecClaim6
import Derived.Test.YtampmicahnnebaaGreatRecClaim3
set_option linter.unusedVariables false
set_option linter.unusedSimpArgs false
namespace Go.Proofs.YtampmicahnnebaaGreat.Sp
open Go Go.RowKit
set_option maxRecDepth 10000
set_option maxHeartbeats 40000000
variable {w0 W : World} {L R : List Asn} {A : Option Addr} {c : Nat} {bs : List Int}
theorem ret_cc {P : Program} {n : Nat} {E : Env} {fn : Func} {R : Ending → World → Prop} {p u m k pt g t qt g' t' : Nat} {cs ds : List Value} [hB : BoxAt L g t cs] [hB' : BoxAt L g' t' ds] [hA : Agg P pt m] [hA' : Agg P qt k] (hm : Mem w0 W L) (hf : fn.results = #[.cell p pt,.cell u qt]) (hp : look E p = some (.pointer (some ⟨g,0,none⟩))) (hv : look E u = some (.pointer (some ⟨g',0,none⟩))) (hl : cs.length = m) (hl' : ds.length = k) (h : R (.returned (.tuple #[.agg cs.toArray,.agg ds.toArray])) W) : WN n .ret (bodyPost P fn R) E W:=⟨fun a ha=>by
  obtain ⟨d,hu,hu2,hi⟩:=hA.out
  obtain ⟨d',hu',hu2',hi'⟩:=hA'.out
  have hp' : a.tmps[p]?.getD undef = .pointer (some ⟨g,0,none⟩):=by simpa using ha.slots p _ hp
  have hv' : a.tmps[u]?.getD undef = .pointer (some ⟨g',0,none⟩):=by simpa using ha.slots u _ hv
  have hr:=run_loadVar_row (P:=P) W g t pt cs.toArray (0,0) d (hm.heap (g:=g)) hu (by cases d <;> first|rfl|(simp at hu2)) (by rw [hi];simp [hl])
  have hr':=run_loadVar_row (P:=P) W g' t' qt ds.toArray (0,0) d' (hm.heap (g:=g')) hu' (by cases d' <;> first|rfl|(simp at hu2')) (by rw [hi'];simp [hl'])
  exact ⟨ha.defers,_,by simp [results,hf,hp',hv',asAddr,hr,hr'],h⟩⟩
theorem drawk_c (hb : RoRow rByte w0 A bs) (hc : bs.length ≤ c) (HM : Mem w0 W L) : Calls Tryz.prog 12 #[.slice A bs.length c] W fun e W'=>∃ (y : Rcd) (j : AtRcd) (m : Msg) (am : At),(SmallR y ∧ m.slots.length ≤ 1048576) ∧ e = .returned (.tuple #[.agg (encRcd y j).toArray,.agg (encMsg m am).toArray]) ∧ Mem w0 W' (own tSlot 91 am.1 am.2 m.slots :: (partRcd 91 40 9 3 66 y j ++ L)):=by
  refine enter Tryz.func12 rfl Tryz.ntmps12 [(0,_)] rfl ⟨rfl,trivial⟩ ?_
  repeat (first|refine Y ?_|(refine qs ?_;clear HM;intro W1 HM)|(refine qf ?_;first|(go_at_call 18;refine (open_c hb hc HM).mono ?_;rintro e W1 ⟨gr,bs1,hb1,hl1,rfl,HM1⟩;refine ⟨_,rfl,?_⟩;replace HM:=HM1;clear HM1)|(go_at_call 52;refine (reach_c (q:=0) hb1 hl1 (by omega) HM).mono ?_;rintro e W1 ⟨y,j,hv,rfl,HM1⟩;refine ⟨_,rfl,?_⟩;replace HM:=HM1;clear HM1;simp only [wldP,List.cons_append,List.nil_append] at HM;simp only [encW]))|(refine qg ?_;clear HM;intro g W1 HM))
  have hn1:=hv.n1
  have hn5:=hv.n5
  have hmsg:=hv.msg
  rename_i g2 Wa g3 Wb Wc Wd We
  rename Nat=>gw
  refine c_cutn (σ:=Nat × Nat × AtRcd) (fun s=>[(2,.pointer (some ⟨g2,0,none⟩)),(3,.pointer (some ⟨g3,0,none⟩)),(4,.pointer (some ⟨gr,0,none⟩)),(5,.pointer (some ⟨gw,0,none⟩)),(6,.pointer (some ⟨s.1,0,none⟩))]) (fun s W1=>∃ h : s.2.1 < y.recs.length,Mem w0 W1 (hol (tRec 91 40 9 3 66) 31 j.b0.1 j.b0.2 y.recs s.2.1 (encRcd y.recs[s.2.1] s.2.2) :: (partRcd 91 40 9 3 66 y.recs[s.2.1] s.2.2 ++ (box gw 78 [.slice j.b0.1 y.recs.length j.b0.2,.slice j.b1.1 y.flight.length j.b1.2,.slice j.b2.1 y.fixed.length j.b2.2] :: box s.1 31 (encRcd y.recs[s.2.1] s.2.2) :: flt 91 40 j.b1.1 j.b1.2 y.flight :: rdr A bs1.length c 3000 gr :: box g3 40 [.int .i64 0,.int .i64 0,.int .i64 0,.int .i64 0,.int .i64 0,.int .i64 0,.string ⟨#[]⟩,.slice none 0 0] :: box g2 31 [.int .i64 0,.int .i64 0,.bool false,.int .i64 0,.int .i64 0,.slice none 0 0,.int .i64 0,.int .i64 0,.slice none 0 0,.slice none 0 0,.slice none 0 0,.bool false,.bool false,.int .i64 0,.slice none 0 0,.slice none 0 0,.slice none 0 0,.int .i64 0] :: L)))) ?_ ?_
  · skip
    refine gR ?_
    refine x_start (ds:=[10]) HM (fun w hw=>(hw.sb : Mem w0 w (box gw 78 [.slice j.b0.1 y.recs.length j.b0.2,.slice j.b1.1 y.flight.length j.b1.2,.slice j.b2.1 y.fixed.length j.b2.2] :: L))) (by kernel_rfl) (by kernel_rfl) qq ?_
    intro HQ HS W1 HM1;replace HM:=HM1;clear HM1
    refine x_pv HQ HS 0 rfl (by kernel_rfl) (by kernel_rfl) (l':=#[true,false,false,false,false,false,false,false,false,false,false]) (by kernel_rfl) rfl ?_
    refine Y ?_
    refine x_pv HQ HS 2 rfl (by kernel_rfl) (by kernel_rfl) (l':=#[true,false,true,false,false,false,false,false,false,false,false]) (by kernel_rfl) rfl ?_
    refine Y ?_
    refine x_pv HQ HS 3 rfl (by kernel_rfl) (by kernel_rfl) (l':=#[true,false,true,true,false,false,false,false,false,false,false]) (by kernel_rfl) rfl ?_
    refine Y ?_
    refine x_ld HQ HS 1 rfl (by kernel_rfl) (by kernel_rfl) (by kernel_rfl) (by kernel_rfl) (l':=#[true,true,true,true,false,false,false,false,false,false,false]) (by kernel_rfl) rfl ?_
    refine Y ?_
    refine x_ld HQ HS 4 rfl (by kernel_rfl) (by kernel_rfl) (by kernel_rfl) (by kernel_rfl) (l':=#[true,true,true,true,true,false,false,false,false,false,false]) (by kernel_rfl) rfl ?_
    refine Y ?_
    refine x_pv HQ HS 5 rfl (by kernel_rfl) (by kernel_rfl) (l':=#[true,true,true,true,true,true,false,false,false,false,false]) (by kernel_rfl) rfl ?_
    refine Y ?_
    refine x_two 6 9 (by kernel_rfl) rfl rfl (l':=#[true,true,true,true,true,true,true,false,false,false,false]) (l'':=#[true,true,true,true,true,true,false,false,false,true,false]) (by kernel_rfl) (by kernel_rfl) (x_go ?_) (x_go ?_)
    · repeat (first|(refine qf ?_;go_at_call 20;refine (pick_c hb1 hl1 _ (by omega) HM).mono ?_;rintro e W1 ⟨v,hp0,rfl,HM1⟩;obtain ⟨p0,rfl⟩ : ∃ k : Nat,v = k:=⟨v.toNat,(by omega)⟩;refine ⟨_,rfl,?_⟩;replace HM:=HM1;clear HM1)|refine Y ?_)
      refine x_pv HQ HS 7 rfl (by kernel_rfl) (by kernel_rfl) (l':=#[true,true,true,true,true,true,true,true,false,false,false]) (by kernel_rfl) rfl ?_
      refine Y ?_
      refine x_two 8 9 (by kernel_rfl) rfl rfl (l':=#[true,true,true,true,true,true,true,true,true,false,false]) (l'':=#[true,true,true,true,true,true,true,true,false,true,false]) (by kernel_rfl) (by kernel_rfl) (x_go ?_) (x_go ?_)
      · repeat (first|(refine gL ?_;have hpl : p0 < y.recs.length:=(by omega);have HMa:=HM.pk (A:=own (tRec 91 40 9 3 66) 31 j.b0.1 j.b0.2 y.recs);obtain ⟨jr,HM2⟩:=opn_rec HMa p0 hpl;clear HMa HM;have HM:=HM2;clear HM2;simp only [encRcd,partRcd,List.cons_append,List.nil_append] at HM;refine s_gv HM rfl ?_;refine gv (p_loadsh rfl rfl rfl) ?_)|refine Y ?_)
        refine x_one 9 (by kernel_rfl) rfl (l':=#[true,true,true,true,true,true,true,true,true,true,false]) (by kernel_rfl) (x_go ?_)
        repeat (first|(refine qg ?_;clear HM;intro g W1 HM)|refine Y ?_)
        refine x_last 10 (by kernel_rfl) rfl (l':=#[true,true,true,true,true,true,true,true,true,true,true]) (by kernel_rfl) (by kernel_rfl) rfl ?_
        repeat ((refine gL ?_;first|(refine gStore ?_;(refine s_store HM rfl rfl rfl rfl ?_;clear HM;intro W1 HM))|refine l_nil ?_))
        exact n_mid (g,p0,jr) U ⟨by dsimp only;omega,by dsimp only;simp only [encRcd,partRcd,List.cons_append,List.nil_append];exact (HM.rdr_to (g:=gr) (q':=3000) (by omega)).sb⟩
      · repeat (first|(refine qg ?_;clear HM;intro g W1 HM)|refine Y ?_)
        refine x_one 8 (by kernel_rfl) rfl (l':=#[true,true,true,true,true,true,true,true,true,true,false]) (by kernel_rfl) (x_go ?_)
        repeat (first|(refine gL ?_;have hpl : p0 < y.recs.length:=(by omega);have HMa:=HM.pk (A:=own (tRec 91 40 9 3 66) 31 j.b0.1 j.b0.2 y.recs);obtain ⟨jr,HM2⟩:=opn_rec HMa p0 hpl;clear HMa HM;have HM:=HM2;clear HM2;simp only [encRcd,partRcd,List.cons_append,List.nil_append] at HM;refine s_gv HM rfl ?_;refine gv (p_loadsh rfl rfl rfl) ?_)|refine Y ?_)
        refine x_last 10 (by kernel_rfl) rfl (l':=#[true,true,true,true,true,true,true,true,true,true,true]) (by kernel_rfl) (by kernel_rfl) rfl ?_
        repeat ((refine gL ?_;first|(refine gStore ?_;(refine s_store HM rfl rfl rfl rfl ?_;clear HM;intro W1 HM))|refine l_nil ?_))
        exact n_mid (g,p0,jr) U ⟨by dsimp only;omega,by dsimp only;simp only [encRcd,partRcd,List.cons_append,List.nil_append];exact (HM.rdr_to (g:=gr) (q':=3000) (by omega)).sb⟩
    · repeat (first|(refine qg ?_;clear HM;intro g W1 HM)|refine Y ?_)
      refine x_one 6 (by kernel_rfl) rfl (l':=#[true,true,true,true,true,true,true,false,false,true,false]) (by kernel_rfl) (x_go ?_)
      repeat (first|(refine qf ?_;go_at_call 20;refine (pick_c hb1 hl1 _ (by omega) HM).mono ?_;rintro e W1 ⟨v,hp0,rfl,HM1⟩;obtain ⟨p0,rfl⟩ : ∃ k : Nat,v = k:=⟨v.toNat,(by omega)⟩;refine ⟨_,rfl,?_⟩;replace HM:=HM1;clear HM1)|refine Y ?_)
      refine x_pv HQ HS 7 rfl (by kernel_rfl) (by kernel_rfl) (l':=#[true,true,true,true,true,true,true,true,false,true,false]) (by kernel_rfl) rfl ?_
      refine Y ?_
      refine x_one 8 (by kernel_rfl) rfl (l':=#[true,true,true,true,true,true,true,true,true,true,false]) (by kernel_rfl) (x_go ?_)
      repeat (first|(refine gL ?_;have hpl : p0 < y.recs.length:=(by omega);have HMa:=HM.pk (A:=own (tRec 91 40 9 3 66) 31 j.b0.1 j.b0.2 y.recs);obtain ⟨jr,HM2⟩:=opn_rec HMa p0 hpl;clear HMa HM;have HM:=HM2;clear HM2;simp only [encRcd,partRcd,List.cons_append,List.nil_append] at HM;refine s_gv HM rfl ?_;refine gv (p_loadsh rfl rfl rfl) ?_)|refine Y ?_)
      refine x_last 10 (by kernel_rfl) rfl (l':=#[true,true,true,true,true,true,true,true,true,true,true]) (by kernel_rfl) (by kernel_rfl) rfl ?_
      repeat ((refine gL ?_;first|(refine gStore ?_;(refine s_store HM rfl rfl rfl rfl ?_;clear HM;intro W1 HM))|refine l_nil ?_))
      exact n_mid (g,p0,jr) U ⟨by dsimp only;omega,by dsimp only;simp only [encRcd,partRcd,List.cons_append,List.nil_append];exact (HM.rdr_to (g:=gr) (q':=3000) (by omega)).sb⟩
  clear HM
  rintro ⟨g6,p,jr⟩ W1 ⟨hpl,HM⟩
  dsimp only at hpl HM ⊢
  simp only [encRcd,partRcd,List.cons_append,List.nil_append] at HM
  have hV:=(hv.recs p hpl).1
  refine c_seq ?_
  refine c_cutn (σ:=Nat × Rcd × AtRcd) (fun s=>[(2,.pointer (some ⟨g2,0,none⟩)),(3,.pointer (some ⟨g3,0,none⟩)),(4,.pointer (some ⟨gr,0,none⟩)),(6,.pointer (some ⟨s.1,0,none⟩))]) (fun s W1=>(SmallR s.2.1 ∧ Bd s.2.1) ∧ Mem w0 W1 (rdr A bs1.length c 4000 gr :: box g2 31 [.int .i64 0,.int .i64 0,.bool false,.int .i64 0,.int .i64 0,.slice none 0 0,.int .i64 0,.int .i64 0,.slice none 0 0,.slice none 0 0,.slice none 0 0,.bool false,.bool false,.int .i64 0,.slice none 0 0,.slice none 0 0,.slice none 0 0,.int .i64 0] :: box g3 40 [.int .i64 0,.int .i64 0,.int .i64 0,.int .i64 0,.int .i64 0,.int .i64 0,.string ⟨#[]⟩,.slice none 0 0] :: box s.1 31 [.int .i64 s.2.1.number,.int .i64 s.2.1.of,.bool s.2.1.up,.int .i64 s.2.1.sp,.int .i64 s.2.1.sk,.slice s.2.2.a0.1 s.2.1.ss.length s.2.2.a0.2,.int .i64 s.2.1.dp,.int .i64 s.2.1.dk,.slice s.2.2.a1.1 s.2.1.ds.length s.2.2.a1.2,.slice s.2.2.a2.1 s.2.1.held.length s.2.2.a2.2,.slice s.2.2.a3.1 s.2.1.wishes.length s.2.2.a3.2,.bool s.2.1.lead,.bool s.2.1.trying,.int .i64 s.2.1.ballot,.slice s.2.2.a4.1 s.2.1.yes.length s.2.2.a4.2,.slice s.2.2.a5.1 s.2.1.best.length s.2.2.a5.2,.slice s.2.2.a6.1 s.2.1.acks.length s.2.2.a6.2,.int .i64 s.2.1.heard] :: (partRcd 91 40 9 3 66 s.2.1 s.2.2 ++ L))) ?_ ?_
  · by_cases cf : 0 < y.flight.length
    rotate_left
    · have cg : decide ((0 : Int) < (y.flight.length : Int)) = false:=decide_eq_false (by omega)
      repeat refine Y ?_
      exact n_mid (g6,y.recs[p],jr) U ⟨⟨hV.small,hV.bd⟩,by dsimp only;simp only [partRcd,List.cons_append,List.nil_append];exact (HM.rdr_to (g:=gr) (q':=4000) (by omega)).sb⟩
    repeat (first|refine Y ?_|(refine qf ?_;go_at_call 20;refine (pick_c hb1 hl1 _ (by omega) HM).mono ?_;rintro e W1 ⟨v,hp1,rfl,HM1⟩;obtain ⟨p1,rfl⟩ : ∃ k : Nat,v = k:=⟨v.toNat,(by omega)⟩;have hp1b : p1 < 3:=(by omega);refine ⟨_,rfl,?_⟩;replace HM:=HM1;clear HM1))
    by_cases p10 : p1 = 0
    · subst p10
      repeat ((refine gC ?_;first|refine c_skip ?_|refine c_no rfl (by rfl) ?_))
      exact n_mid (g6,y.recs[p],jr) U ⟨⟨hV.small,hV.bd⟩,by dsimp only;simp only [partRcd,List.cons_append,List.nil_append];exact (HM.rdr_to (g:=gr) (q':=4000) (by omega)).sb⟩
    repeat ((refine gC ?_;first|refine c_seq ?_|refine c_yes rfl (by first|rfl|(simp;omega)) ?_))
    have HM2:=cls_rec (show Mem w0 _ (hol (tRec 91 40 9 3 66) 31 j.b0.1 j.b0.2 y.recs p (encRcd y.recs[p] jr) :: (partRcd 91 40 9 3 66 y.recs[p] jr ++ (flt 91 40 j.b1.1 j.b1.2 y.flight :: box gw 78 [.slice j.b0.1 y.recs.length j.b0.2,.slice j.b1.1 y.flight.length j.b1.2,.slice j.b2.1 y.fixed.length j.b2.2] :: rdr A bs1.length c 4000 gr :: box g3 40 [.int .i64 0,.int .i64 0,.int .i64 0,.int .i64 0,.int .i64 0,.int .i64 0,.string ⟨#[]⟩,.slice none 0 0] :: box g2 31 [.int .i64 0,.int .i64 0,.bool false,.int .i64 0,.int .i64 0,.slice none 0 0,.int .i64 0,.int .i64 0,.slice none 0 0,.slice none 0 0,.slice none 0 0,.bool false,.bool false,.int .i64 0,.slice none 0 0,.slice none 0 0,.slice none 0 0,.int .i64 0] :: L))) from by simp only [encRcd,partRcd,List.cons_append,List.nil_append];exact (HM.rdr_to (g:=gr) (q':=4000) (by omega)).sb)
    rw [List.set_getElem_self] at HM2
    have HMa:=HM2.pk (A:=flt 91 40 j.b1.1 j.b1.2 y.flight)
    clear HM2 HM
    obtain ⟨zs,ezf,HM⟩:=opn_flt HMa
    clear HMa
    have hzl : zs.length = y.flight.length:=by rw [← ezf,List.length_map]
    rw [← hzl] at HM cf
    refine c_cutn (σ:=Nat × Nat) (fun s=>[(2,.pointer (some ⟨g2,0,none⟩)),(3,.pointer (some ⟨g3,0,none⟩)),(5,.pointer (some ⟨gw,0,none⟩)),(7,.pointer (some ⟨s.1,0,none⟩))]) (fun s W1=>∃ h : s.2 < zs.length,Mem w0 W1 (own (tRec 91 40 9 3 66) 31 j.b0.1 j.b0.2 y.recs :: box gw 78 [.slice j.b0.1 y.recs.length j.b0.2,.slice j.b1.1 zs.length j.b1.2,.slice j.b2.1 y.fixed.length j.b2.2] :: box s.1 40 (encMsg zs[s.2].1 zs[s.2].2) :: bag 91 zs :: box g3 40 [.int .i64 0,.int .i64 0,.int .i64 0,.int .i64 0,.int .i64 0,.int .i64 0,.string ⟨#[]⟩,.slice none 0 0] :: box g2 31 [.int .i64 0,.int .i64 0,.bool false,.int .i64 0,.int .i64 0,.slice none 0 0,.int .i64 0,.int .i64 0,.slice none 0 0,.slice none 0 0,.slice none 0 0,.bool false,.bool false,.int .i64 0,.slice none 0 0,.slice none 0 0,.slice none 0 0,.int .i64 0] :: L)) ?_ ?_
    · skip
      refine gR ?_
      refine x_start (ds:=[10]) HM (fun w hw=>(hw.sb : Mem w0 w (box gw 78 [.slice j.b0.1 y.recs.length j.b0.2,.slice j.b1.1 zs.length j.b1.2,.slice j.b2.1 y.fixed.length j.b2.2] :: own tMA 40 j.b1.1 j.b1.2 zs :: L))) (by kernel_rfl) (by kernel_rfl) qq ?_
      intro HQ HS W1 HM1;replace HM:=HM1;clear HM1
      refine x_pv HQ HS 0 rfl (by kernel_rfl) (by kernel_rfl) (l':=#[true,false,false,false,false,false,false,false,false,false,false]) (by kernel_rfl) rfl ?_
      refine Y ?_
      refine x_pv HQ HS 2 rfl (by kernel_rfl) (by kernel_rfl) (l':=#[true,false,true,false,false,false,false,false,false,false,false]) (by kernel_rfl) rfl ?_
      refine Y ?_
      refine x_pv HQ HS 3 rfl (by kernel_rfl) (by kernel_rfl) (l':=#[true,false,true,true,false,false,false,false,false,false,false]) (by kernel_rfl) rfl ?_
      refine Y ?_
      refine x_ld HQ HS 1 rfl (by kernel_rfl) (by kernel_rfl) (by kernel_rfl) (by kernel_rfl) (l':=#[true,true,true,true,false,false,false,false,false,false,false]) (by kernel_rfl) rfl ?_
      refine Y ?_
      refine x_ld HQ HS 4 rfl (by kernel_rfl) (by kernel_rfl) (by kernel_rfl) (by kernel_rfl) (l':=#[true,true,true,true,true,false,false,false,false,false,false]) (by kernel_rfl) rfl ?_
      refine Y ?_
      refine x_pv HQ HS 5 rfl (by kernel_rfl) (by kernel_rfl) (l':=#[true,true,true,true,true,true,false,false,false,false,false]) (by kernel_rfl) rfl ?_
      refine Y ?_
      refine x_two 6 9 (by kernel_rfl) rfl rfl (l':=#[true,true,true,true,true,true,true,false,false,false,false]) (l'':=#[true,true,true,true,true,true,false,false,false,true,false]) (by kernel_rfl) (by kernel_rfl) (x_go ?_) (x_go ?_)
      · repeat (first|(refine qf ?_;go_at_call 20;refine (pick_c hb1 hl1 _ (by omega) HM).mono ?_;rintro e W1 ⟨v,hp2,rfl,HM1⟩;obtain ⟨p2,rfl⟩ : ∃ k : Nat,v = k:=⟨v.toNat,(by omega)⟩;refine ⟨_,rfl,?_⟩;replace HM:=HM1;clear HM1)|refine Y ?_)
        refine x_pv HQ HS 7 rfl (by kernel_rfl) (by kernel_rfl) (l':=#[true,true,true,true,true,true,true,true,false,false,false]) (by kernel_rfl) rfl ?_
        refine Y ?_
        refine x_ld HQ HS 8 rfl (by kernel_rfl) (by kernel_rfl) (by kernel_rfl) (by kernel_rfl) (l':=#[true,true,true,true,true,true,true,true,true,false,false]) (by kernel_rfl) rfl ?_
        refine Y ?_
        refine x_one 9 (by kernel_rfl) rfl (l':=#[true,true,true,true,true,true,true,true,true,true,false]) (by kernel_rfl) (x_go ?_)
        repeat (first|(refine qg ?_;clear HM;intro g W1 HM)|refine Y ?_)
        refine x_last 10 (by kernel_rfl) rfl (l':=#[true,true,true,true,true,true,true,true,true,true,true]) (by kernel_rfl) (by kernel_rfl) rfl ?_
        repeat (first|(refine gStore ?_;have hql : p2 < zs.length:=(by omega);have e0 : rd tMA zs (p2 : Int) = zs[p2]:=rd_at hql;simp only [encMsg,e0];refine s_store HM rfl rfl rfl rfl ?_;clear HM;intro W1 HM)|refine Y ?_)
        exact n_mid (g,p2) U ⟨by dsimp only;omega,by simp only [encMsg];exact HM.sb⟩
      · repeat (first|(refine qg ?_;clear HM;intro g W1 HM)|refine Y ?_)
        refine x_one 6 (by kernel_rfl) rfl (l':=#[true,true,true,true,true,true,true,false,false,true,false]) (by kernel_rfl) (x_go ?_)
        repeat (first|(refine qf ?_;go_at_call 20;refine (pick_c hb1 hl1 _ (by omega) HM).mono ?_;rintro e W1 ⟨v,hp2,rfl,HM1⟩;obtain ⟨p2,rfl⟩ : ∃ k : Nat,v = k:=⟨v.toNat,(by omega)⟩;refine ⟨_,rfl,?_⟩;replace HM:=HM1;clear HM1)|refine Y ?_)
        refine x_pv HQ HS 7 rfl (by kernel_rfl) (by kernel_rfl) (l':=#[true,true,true,true,true,true,true,true,false,true,false]) (by kernel_rfl) rfl ?_
        refine Y ?_
        refine x_ld HQ HS 8 rfl (by kernel_rfl) (by kernel_rfl) (by kernel_rfl) (by kernel_rfl) (l':=#[true,true,true,true,true,true,true,true,true,true,false]) (by kernel_rfl) rfl ?_
        refine Y ?_
        refine x_last 10 (by kernel_rfl) rfl (l':=#[true,true,true,true,true,true,true,true,true,true,true]) (by kernel_rfl) (by kernel_rfl) rfl ?_
        repeat (first|(refine gStore ?_;have hql : p2 < zs.length:=(by omega);have e0 : rd tMA zs (p2 : Int) = zs[p2]:=rd_at hql;simp only [encMsg,e0];refine s_store HM rfl rfl rfl rfl ?_;clear HM;intro W1 HM)|refine Y ?_)
        exact n_mid (g,p2) U ⟨by dsimp only;omega,by simp only [encMsg];exact HM.sb⟩
    clear HM
    rintro ⟨g7,q⟩ W1 ⟨hql,HM⟩
    dsimp only at hql HM ⊢
    have hM:=hmsg zs[q].1 (by rw [← ezf];exact List.mem_map_of_mem (List.getElem_mem hql))
    have hto:=hM.to
    obtain ⟨p4,hp4⟩ : ∃ p4 : Nat,zs[q].1.to = (p4 : Int) + 1:=⟨(zs[q].1.to - 1).toNat,by omega⟩
    have hp41 : zs[q].1.to - 1 = (p4 : Int):=by omega
    have hpl4 : p4 < y.recs.length:=by omega
    have hms:=hM.slots.1
    obtain ⟨jr4,HM2⟩:=opn_rec HM p4 hpl4
    clear HM
    have HM:=HM2
    clear HM2
    simp only [encMsg,encRcd,partRcd,List.cons_append,List.nil_append] at HM
    repeat (first|(refine gGP ?_;refine gGB ?_;refine gp (p_sub rfl rfl (r:=(p4 : Int)) (by rw [hp41];exact wr (by omega) (by omega))) ?_)|(refine gR ?_;refine d_start [9,10] [(0,0),(0,2),(1,1),(1,3),(0,4),(0,5),(1,6),(1,7),(2,8),(3,9),(3,10)] HM (by kernel_rfl) (by kernel_rfl) qq (by kernel_rfl) rfl ?_;intro HQ HS W1 HM1;replace HM:=HM1;clear HM1)|refine Y ?_|(refine qs ?_;clear HM;intro W1 HM)|(refine qf ?_;go_at_call 53;refine (l2Message_c zs[q].1 zs[q].2 (ro_bag (eS:=91) (List.getElem_mem hql) HM) (by omega) (Mem.start _)).mono ?_;rintro e W1 ⟨Am,cm,rfl,HM1⟩;refine ⟨_,rfl,?_⟩;replace HM:=HM.join HM1;clear HM1;simp only [List.cons_append,List.nil_append] at HM))
    exact ret_cc (g':=g3) HM rfl rfl rfl rfl rfl ⟨y.recs[p4],jr4,zs[q].1,(Am,cm),⟨(hv.recs p4 hpl4).1.small,by omega⟩,rfl,by simp only [partRcd,List.cons_append,List.nil_append];exact HM.sb⟩
  clear HM hpl hV
  clear p jr g6
  rintro ⟨g6,y2,j2⟩ W1 ⟨⟨hy,hyb⟩,HM⟩
  dsimp only at hy hyb HM ⊢
  simp only [partRcd,List.cons_append,List.nil_append] at HM
  refine c_seq ?_
  refine c_cutn (σ:=Nat × Rcd × AtRcd) (fun s=>[(2,.pointer (some ⟨g2,0,none⟩)),(3,.pointer (some ⟨g3,0,none⟩)),(4,.pointer (some ⟨gr,0,none⟩)),(6,.pointer (some ⟨s.1,0,none⟩))]) (fun s W1=>(SmallR s.2.1 ∧ Bd s.2.1) ∧ Mem w0 W1 (rdr A bs1.length c 7000 gr :: box g2 31 [.int .i64 0,.int .i64 0,.bool false,.int .i64 0,.int .i64 0,.slice none 0 0,.int .i64 0,.int .i64 0,.slice none 0 0,.slice none 0 0,.slice none 0 0,.bool false,.bool false,.int .i64 0,.slice none 0 0,.slice none 0 0,.slice none 0 0,.int .i64 0] :: box g3 40 [.int .i64 0,.int .i64 0,.int .i64 0,.int .i64 0,.int .i64 0,.int .i64 0,.string ⟨#[]⟩,.slice none 0 0] :: box s.1 31 [.int .i64 s.2.1.number,.int .i64 s.2.1.of,.bool s.2.1.up,.int .i64 s.2.1.sp,.int .i64 s.2.1.sk,.slice s.2.2.a0.1 s.2.1.ss.length s.2.2.a0.2,.int .i64 s.2.1.dp,.int .i64 s.2.1.dk,.slice s.2.2.a1.1 s.2.1.ds.length s.2.2.a1.2,.slice s.2.2.a2.1 s.2.1.held.length s.2.2.a2.2,.slice s.2.2.a3.1 s.2.1.wishes.length s.2.2.a3.2,.bool s.2.1.lead,.bool s.2.1.trying,.int .i64 s.2.1.ballot,.slice s.2.2.a4.1 s.2.1.yes.length s.2.2.a4.2,.slice s.2.2.a5.1 s.2.1.best.length s.2.2.a5.2,.slice s.2.2.a6.1 s.2.1.acks.length s.2.2.a6.2,.int .i64 s.2.1.heard] :: (partRcd 91 40 9 3 66 s.2.1 s.2.2 ++ L))) ?_ ?_
  · repeat (first|refine Y ?_|(refine qf ?_;go_at_call 20;refine (pick_c hb1 hl1 _ (by omega) HM).mono ?_;rintro e W1 ⟨v,hp1,rfl,HM1⟩;obtain ⟨p1,rfl⟩ : ∃ k : Nat,v = k:=⟨v.toNat,(by omega)⟩;have hp1b : p1 < 10:=(by omega);refine ⟨_,rfl,?_⟩;replace HM:=HM1;clear HM1))
    by_cases p10 : p1 = 0
    · subst p10
      repeat (first|refine Y ?_|(refine qs ?_;clear HM;intro W1 HM)|(refine qf ?_;go_at_call 19;refine (any_c hb1 hl1 (by omega) HM).mono ?_;rintro e W1 ⟨y3,j3,hy3,hyb2,rfl,HM1⟩;refine ⟨_,rfl,?_⟩;replace HM:=HM1;clear HM1;simp only [partRcd,List.cons_append,List.nil_append] at HM;simp only [encRcd]))
      exact n_mid (g6,y3,j3) U ⟨⟨hy3,hyb2⟩,by dsimp only;simp only [partRcd,List.cons_append,List.nil_append];exact (HM.rdr_to (g:=gr) (q':=7000) (by omega)).sb⟩
    · repeat ((refine gC ?_;first|refine c_skip ?_|refine c_no rfl (by (simp;omega)) ?_))
      exact n_mid (g6,y2,j2) U ⟨⟨hy,hyb⟩,by dsimp only;simp only [partRcd,List.cons_append,List.nil_append];exact (HM.rdr_to (g:=gr) (q':=7000) (by omega)).sb⟩
  clear HM hy hyb
  clear y2 j2 g6
  rintro ⟨g6,y2,j2⟩ W1 ⟨⟨hy,hyb⟩,HM⟩
  dsimp only at hy hyb HM ⊢
  simp only [partRcd,List.cons_append,List.nil_append] at HM
  repeat (first|refine Y ?_|(refine qs ?_;clear HM;intro W1 HM)|(refine qf ?_;first|(go_at_call 54;refine (msg_c y2 j2 hyb hb1 hl1 (by omega) HM).mono ?_;rintro e W1 ⟨m,am,hm,rfl,HM1⟩;refine ⟨_,rfl,?_⟩;replace HM:=HM1;clear HM1;simp only [encMsg])|(go_at_call 20;refine (pick_c hb1 hl1 _ (by omega) HM).mono ?_;rintro e W1 ⟨v,hp2,rfl,HM1⟩;obtain ⟨p2,rfl⟩ : ∃ k : Nat,v = k:=⟨v.toNat,(by omega)⟩;have hp2b : p2 < 16:=(by omega);refine ⟨_,rfl,?_⟩;replace HM:=HM1;clear HM1))|(refine qg ?_;clear HM;intro g W1 HM))
  by_cases p20 : p2 = 0
  · subst p20
    repeat (first|refine Y ?_|(refine qs ?_;clear HM;intro W1 HM))
    refine gR ?_
    refine x_start (ds:=[3]) HM (fun w hw=>(hw.sb : Mem w0 w (box g6 31 [.int .i64 y2.number,.int .i64 y2.of,.bool y2.up,.int .i64 y2.sp,.int .i64 y2.sk,.slice j2.a0.1 y2.ss.length j2.a0.2,.int .i64 y2.dp,.int .i64 y2.dk,.slice j2.a1.1 y2.ds.length j2.a1.2,.slice j2.a2.1 y2.held.length j2.a2.2,.slice j2.a3.1 y2.wishes.length j2.a3.2,.bool y2.lead,.bool y2.trying,.int .i64 y2.ballot,.slice j2.a4.1 y2.yes.length j2.a4.2,.slice j2.a5.1 y2.best.length j2.a5.2,.slice j2.a6.1 y2.acks.length j2.a6.2,.int .i64 y2.heard] :: box g 40 [.int .i64 m.kind,.int .i64 m.frm,.int .i64 1,.int .i64 m.ballot,.int .i64 m.index,.int .i64 m.known,.string m.text,.slice am.1 m.slots.length am.2] :: L))) (by kernel_rfl) (by kernel_rfl) qq ?_
    intro HQ HS W1 HM1;replace HM:=HM1;clear HM1
    refine x_ld HQ HS 0 rfl (by kernel_rfl) (by kernel_rfl) (by kernel_rfl) (by kernel_rfl) (l':=#[true,false,false,false]) (by kernel_rfl) rfl ?_
    refine Y ?_
    refine x_ld HQ HS 1 rfl (by kernel_rfl) (by kernel_rfl) (by kernel_rfl) (by kernel_rfl) (l':=#[true,true,false,false]) (by kernel_rfl) rfl ?_
    refine Y ?_
    refine x_one 2 (by kernel_rfl) rfl (l':=#[true,true,true,false]) (by kernel_rfl) (x_go ?_)
    repeat (first|(refine qs ?_;clear HM;intro W1 HM)|refine Y ?_)
    refine x_last 3 (by kernel_rfl) rfl (l':=#[true,true,true,true]) (by kernel_rfl) (by kernel_rfl) rfl ?_
    repeat (first|(refine qs ?_;clear HM;intro W1 HM)|refine Y ?_)
    exact ret_cc (g':=g3) HM rfl rfl rfl rfl rfl ⟨y2,j2,⟨m.kind,m.frm,1,m.ballot,m.index,m.known,m.text,m.slots⟩,am,⟨hy,by dsimp only;omega⟩,rfl,by simp only [partRcd,List.cons_append,List.nil_append];exact HM.sb⟩
  repeat refine Y ?_
  refine gR ?_
  refine x_start (ds:=[3]) HM (fun w hw=>(hw.sb : Mem w0 w (box g6 31 [.int .i64 y2.number,.int .i64 y2.of,.bool y2.up,.int .i64 y2.sp,.int .i64 y2.sk,.slice j2.a0.1 y2.ss.length j2.a0.2,.int .i64 y2.dp,.int .i64 y2.dk,.slice j2.a1.1 y2.ds.length j2.a1.2,.slice j2.a2.1 y2.held.length j2.a2.2,.slice j2.a3.1 y2.wishes.length j2.a3.2,.bool y2.lead,.bool y2.trying,.int .i64 y2.ballot,.slice j2.a4.1 y2.yes.length j2.a4.2,.slice j2.a5.1 y2.best.length j2.a5.2,.slice j2.a6.1 y2.acks.length j2.a6.2,.int .i64 y2.heard] :: box g 40 [.int .i64 m.kind,.int .i64 m.frm,.int .i64 m.to,.int .i64 m.ballot,.int .i64 m.index,.int .i64 m.known,.string m.text,.slice am.1 m.slots.length am.2] :: L))) (by kernel_rfl) (by kernel_rfl) qq ?_
  intro HQ HS W1 HM1;replace HM:=HM1;clear HM1
  refine x_ld HQ HS 0 rfl (by kernel_rfl) (by kernel_rfl) (by kernel_rfl) (by kernel_rfl) (l':=#[true,false,false,false]) (by kernel_rfl) rfl ?_
  refine Y ?_
  refine x_ld HQ HS 1 rfl (by kernel_rfl) (by kernel_rfl) (by kernel_rfl) (by kernel_rfl) (l':=#[true,true,false,false]) (by kernel_rfl) rfl ?_
  refine Y ?_
  refine x_one 2 (by kernel_rfl) rfl (l':=#[true,true,true,false]) (by kernel_rfl) (x_go ?_)
  repeat (first|(refine qs ?_;clear HM;intro W1 HM)|refine Y ?_)
  refine x_last 3 (by kernel_rfl) rfl (l':=#[true,true,true,true]) (by kernel_rfl) (by kernel_rfl) rfl ?_
  repeat (first|(refine qs ?_;clear HM;intro W1 HM)|refine Y ?_)
  exact ret_cc (g':=g3) HM rfl rfl rfl rfl rfl ⟨y2,j2,m,am,⟨hy,by omega⟩,rfl,by simp only [partRcd,List.cons_append,List.nil_append];exact HM.sb⟩
end Go.Proofs.YtampmicahnnebaaGreat.Sp
namespace Go.Proofs.YtampmicahnnebaaGreat.Sp
open Go Go.RowKit
set_option maxRecDepth 10000
set_option maxHeartbeats 2000000
variable {w0 W : World} {L : List Asn} {A B : Option Addr} {c d : Nat} {b b2 : Bool}
theorem recMergeM {xs ys : List Slot} (ha : RoRow (rSlot b) w0 A xs) (hb : RoRow (rSlot b2) w0 B ys) (hn : xs.length ≤ 1048576) (hm : ys.length ≤ 1048576) (HM : Mem w0 W L) : Calls Tryz.prog 100 #[.slice A xs.length c,.slice B ys.length d] W fun e W'=>∃ A' c',e = .returned (.slice A' (mergeL xs ys).length c') ∧ Mem w0 W' (own tSlot 91 A' c' (mergeL xs ys) :: L):=by
  refine enter Tryz.func100 rfl Tryz.ntmps100 [(0,_),(1,_)] rfl ⟨rfl,rfl,trivial⟩ ?_
  replace HM:=HM.rod ha
  repeat (first|refine Y ?_|(refine qa ?_;clear HM;intro A1 c1 W1 HM))
  replace HM:=HM.rod hb
  refine c_loop2 (σ:=Nat × List Slot) (fun s A1 c1=>[(10,.slice B ys.length d),(11,.int .i64 ys.length),(5,.slice A1 s.2.length c1),(12,.int .i64 s.1)]) (fun s A1 c1 W1=>s.1 ≤ ys.length ∧ s.2 = mergeL xs (ys.take s.1) ∧ Mem w0 W1 (own tSlot 91 A1 c1 s.2 :: ro (rSlot b2) w0 B ys :: L)) (fun s=>ys.length - s.1) (0,xs) A1 c1 U ⟨Nat.zero_le _,by simp [mergeL_nil],HM.sb⟩ ?_
  clear HM
  rintro ⟨k,zs⟩ A1 c1 W1 ⟨hk,hz,HM⟩
  dsimp only at hk hz HM ⊢
  have hzl : zs.length = max xs.length (min k ys.length):=by rw [hz,mergeL_len];simp
  by_cases hlt : k < ys.length
  · by_cases h1 : k = zs.length
    · have e1:=mergeL_app xs ys k hlt (by omega)
      rw [← hz,← rdR_at (D:=rSlot b2) hlt] at e1
      subst h1
      repeat (first|(refine gGV ?_;refine gv (p_loadwf rfl rfl rfl (by omega) (by omega)) ?_;simp only [encSlot])|refine Y ?_|(refine qs ?_;clear HM;intro W1 HM)|(refine qa ?_;clear HM;intro A1 c1 W1 HM)|(refine qg ?_;clear HM;intro g W1 HM))
      exact n_round2 (zs.length + 1,zs ++ [_]) A1 c1 U ⟨by dsimp only;omega,e1.symm,HM.sb⟩ (by dsimp only;omega)
    · have hkx : k < xs.length:=by omega
      have hkz : k < zs.length:=by omega
      have e0 : rd tSlot zs k = xs[k]:=by rw [rd_at (d:=tSlot) hkz];subst hz;exact mergeL_at xs ys k hkx hkz
      have e1:=mergeL_set xs ys k hlt hkx
      rw [← hz,← rdR_at (D:=rSlot b2) hlt,← e0] at e1
      by_cases h2 : (rd tSlot zs k).ballot < (rdR (rSlot b2) ys k).ballot
      · rw [mgS,if_pos h2] at e1
        repeat (first|(refine gR ?_;refine d_start [] [(0,0),(0,2),(0,3),(0,4),(0,5),(1,1),(1,6),(0,7),(0,8)] HM (by kernel_rfl) (by kernel_rfl) qq (by kernel_rfl) rfl ?_;intro HQ HS W1 HM1;replace HM:=HM1;clear HM1)|(refine gGV ?_;refine gv (p_loadwf rfl rfl rfl (by omega) (by omega)) ?_;simp only [encSlot])|refine Y ?_|(refine qs ?_;clear HM;intro W1 HM)|(refine gStore ?_;refine s_storew HM rfl rfl rfl (by omega) (by omega) rfl ?_;clear HM;intro W1 HM)|(refine qg ?_;clear HM;intro g W1 HM))
        simp only [Int.toNat_natCast] at HM
        exact n_round2 (k + 1,zs.set k _) A1 c1 (by simp only [List.length_set];exact U) ⟨by dsimp only;omega,e1.symm,HM.sb⟩ (by dsimp only;omega)
      · rw [mgS,if_neg h2,rd_at (d:=tSlot) hkz,List.set_getElem_self] at e1
        repeat (first|(refine gR ?_;refine d_start [] [(0,0),(0,2),(0,3),(0,4),(0,5),(1,1),(1,6),(0,7),(0,8)] HM (by kernel_rfl) (by kernel_rfl) qq (by kernel_rfl) rfl ?_;intro HQ HS W1 HM1;replace HM:=HM1;clear HM1)|(refine gGV ?_;refine gv (p_loadwf rfl rfl rfl (by omega) (by omega)) ?_;simp only [encSlot])|refine Y ?_|(refine qs ?_;clear HM;intro W1 HM)|(refine qg ?_;clear HM;intro g W1 HM))
        exact n_round2 (k + 1,zs) A1 c1 U ⟨by dsimp only;omega,e1.symm,HM.sb⟩ (by dsimp only;omega)
  · obtain rfl : k = ys.length:=by omega
    rw [List.take_length] at hz
    subst hz
    repeat refine Y ?_
    exact ret_tmp rfl rfl ⟨A1,c1,rfl,HM.sb⟩
theorem promM (x : Rcd) (i : AtRcd) (gr : Nat) (f : Int) {B : Option Addr} {d : Nat} {bs : List Slot} (hb : ∀ W',Mem w0 W' (own tSlot 91 i.a1.1 i.a1.2 x.ds :: L) → RoRow (rSlot b) W' B bs) (h0 : 0 ≤ x.dk) (hy : x.yes.Pairwise (· < ·)) (h1 : x.yes.length ≤ 1000) (h2 : x.best.length ≤ 1048576) (h3 : bs.length ≤ 1048576) (h4 : x.ds.length ≤ 1048576) (HM : Mem w0 W (boxR 91 40 9 3 66 31 gr x i ++ L)) : Calls Tryz.prog 68 #[.pointer (some ⟨gr,0,none⟩),.int .i64 f,.slice B bs.length d] W fun e W'=>∃ j,e = .returned (.tuple #[]) ∧ Mem w0 W' (boxR 91 40 9 3 66 31 gr (promL x f bs) j ++ L):=by
  refine enter Tryz.func68 rfl Tryz.ntmps68 [(0,_),(1,_),(2,_)] rfl ⟨rfl,rfl,rfl,trivial⟩ ?_
  have hal:=addL_len x.yes f
  have hml:=mergeL_len x.best bs
  simp only [boxR,partRcd,List.cons_append,List.nil_append] at HM
  by_cases hs : 2 * ((addL x.yes f).length : Int) ≤ x.of
  · have e : promL x f bs = gotL x f bs:=if_pos hs
    rw [e]
    repeat (first|(refine gR ?_;refine d_start [] [(0,0),(0,1),(0,2),(0,6),(0,7),(0,8),(1,3),(0,4),(0,5),(1,9),(0,10)] HM (by kernel_rfl) (by kernel_rfl) qq (by kernel_rfl) rfl ?_;intro HQ HS W1 HM1;replace HM:=HM1;clear HM1)|refine Y ?_|(refine qs ?_;clear HM;intro W1 HM)|(refine qf ?_;first|(go_at_call 99;refine (joinC (xs:=x.yes) (A:=i.a4.1) (c:=i.a4.2) f hy h1 (by exact HM.pk)).mono ?_;rintro e2 W2 ⟨A2,c2,rfl,HM1⟩;refine ⟨_,rfl,?_⟩;replace HM:=HM1;clear HM1)|(go_at_call 100;obtain ⟨F1,hF1⟩:=HM.own (A:=i.a5.1);have hbs:=hb _ (by exact HM.sb);refine (recMergeM (ro_slots hF1) hbs h2 h3 (Mem.start _)).mono ?_;clear hF1 hbs;rintro e W1 ⟨A3,c3,rfl,HM1⟩;refine ⟨_,rfl,?_⟩;replace HM:=HM.join HM1;clear HM1;simp only [List.cons_append,List.nil_append] at HM)))
    exact ret_none rfl ⟨⟨i.a0,i.a1,i.a2,i.a3,(A2,c2),(A3,c3),i.a6⟩,rfl,by simp only [gotL,boxR,partRcd,List.cons_append,List.nil_append];exact HM.sb⟩
  have hlead : True:=trivial
  repeat (first|(refine gR ?_;refine d_start [] [(0,0),(0,1),(0,2),(0,6),(0,7),(0,8),(1,3),(0,4),(0,5),(1,9),(0,10)] HM (by kernel_rfl) (by kernel_rfl) qq (by kernel_rfl) rfl ?_;intro HQ HS W1 HM1;replace HM:=HM1;clear HM1)|refine Y ?_|(refine qs ?_;clear HM;intro W1 HM)|(refine qf ?_;first|(go_at_call 99;refine (joinC (xs:=x.yes) (A:=i.a4.1) (c:=i.a4.2) f hy h1 (by exact HM.pk)).mono ?_;rintro e2 W2 ⟨A2,c2,rfl,HM1⟩;refine ⟨_,rfl,?_⟩;replace HM:=HM1;clear HM1)|(go_at_call 100;obtain ⟨F1,hF1⟩:=HM.own (A:=i.a5.1);have hbs:=hb _ (by exact HM.sb);refine (recMergeM (ro_slots hF1) hbs h2 h3 (Mem.start _)).mono ?_;clear hF1 hbs;rintro e W1 ⟨A3,c3,rfl,HM1⟩;refine ⟨_,rfl,?_⟩;replace HM:=HM.join HM1;clear HM1;simp only [List.cons_append,List.nil_append] at HM)))
  have hq : ((x.dk.toNat : Nat) : Int) = x.dk:=by omega
  have HM2:=(((HM.nil tInt 3).nil tSlot 91).nil (tAck 3) 66).pk (A:=own tSlot 91 A3 c3 (mergeL x.best bs))
  have HM0:=(show Mem w0 _ (boxR 91 40 9 3 66 31 gr (wonL (gotL x f bs)) ⟨i.a0,i.a1,i.a2,i.a3,(none,0),(none,0),(none,0)⟩ ++ _) from pk_boxr (x:={ x with lead:=true,trying:=false,ballot:=x.ballot,yes:=[],best:=[],acks:=[] }) (i:=⟨i.a0,i.a1,i.a2,i.a3,(none,0),(none,0),(none,0)⟩) HM2)
  clear HM HM2
  have ep : promL x f bs = layL x.ballot (mergeL x.best bs) ((mergeL x.best bs).length - x.dk.toNat) x.dk.toNat (wonL (gotL x f bs)):=if_neg hs
  rw [ep]
  generalize htg : layL x.ballot (mergeL x.best bs) ((mergeL x.best bs).length - x.dk.toNat) x.dk.toNat (wonL (gotL x f bs)) = tg
  have hbl : (mergeL x.best bs).length ≤ 1048576:=by omega
  have hy0 : (wonL (gotL x f bs)).ds.length ≤ 1048576:=h4
  have hb0 : (wonL (gotL x f bs)).ballot = x.ballot:=rfl
  generalize wonL (gotL x f bs) = y0 at HM0 htg hy0 hb0
  generalize mergeL x.best bs = best at *
  refine c_loop (σ:=Nat × Rcd) (fun s=>[(0,.pointer (some ⟨gr,0,none⟩)),(6,.slice A3 best.length c3),(7,.int .i64 s.1)]) (fun s W1=>layL x.ballot best (best.length - s.1) s.1 s.2 = tg ∧ s.2.ds.length ≤ 1048576 ∧ s.2.ballot = x.ballot ∧ ∃ j,Mem w0 W1 (boxR 91 40 9 3 66 31 gr s.2 j ++ (own tSlot 91 A3 c3 best :: _))) (fun s=>best.length - s.1) (x.dk.toNat,y0) (by simp only [hq];exact U) ⟨htg,hy0,hb0,_,HM0⟩ ?_
  clear HM0
  rintro ⟨k,y⟩ W1 ⟨hl,hy,hb1,j,HM⟩
  dsimp only at hl hy hb1 HM ⊢
  simp only [boxR,partRcd,List.cons_append,List.nil_append] at HM
  by_cases hlt : k < best.length
  · have hst : layL x.ballot best (best.length - (k + 1)) (k + 1) (setL y ((k : Int) + 1) ⟨y.ballot,(rd tSlot best k).text⟩) = tg:=by
      rw [← hl,show best.length - k = (best.length - (k + 1)) + 1 by omega,hb1];rfl
    have hds:=setL_ds y ((k : Int) + 1) ⟨y.ballot,(rd tSlot best k).text⟩
    repeat (first|(refine gR ?_;refine d_start [13] [(0,0),(0,1),(0,2),(0,3),(0,4),(0,5),(0,7),(0,8),(0,9),(0,10),(1,6),(1,11),(2,12),(3,13)] HM (by kernel_rfl) (by kernel_rfl) qq (by kernel_rfl) rfl ?_;intro HQ HS W1 HM1;replace HM:=HM1;clear HM1)|refine Y ?_|(refine qf ?_;go_at_call 94;refine (slotM y j gr ((k : Int) + 1) ⟨y.ballot,(rd tSlot best k).text⟩ (by omega) (by omega) hy (by exact pk_boxr HM)).mono ?_;rintro e W1 ⟨j2,rfl,HM1⟩;refine ⟨_,rfl,?_⟩;replace HM:=HM1;clear HM1;simp only [boxR,partRcd,List.cons_append,List.nil_append] at HM))
    exact n_round (k + 1,setL y ((k : Int) + 1) ⟨y.ballot,(rd tSlot best k).text⟩) U ⟨hst,by rw [hds];omega,hb1,j2,by exact pk_boxr HM⟩ (by dsimp only;omega)
  · rw [show best.length - k = 0 by omega] at hl
    subst hl
    repeat refine Y ?_
    exact end_none rfl ⟨j,rfl,by simp only [layL,boxR,partRcd,List.cons_append,List.nil_append];exact HM.sb⟩
end Go.Proofs.YtampmicahnnebaaGreat.Sp
namespace Go.Proofs.YtampmicahnnebaaGreat.Sp
open Go Go.RowKit
set_option maxRecDepth 10000
set_option maxHeartbeats 4000000
variable {w0 W : World} {L : List Asn} {A B : Option Addr} {c d : Nat} {b : Bool}
theorem p_slotNe {E : Env} {x y : Operand} {yt : TypeId} {s u : Slot} (hs : SlotK s) (hu : SlotK u) (hx : ev E x = some (.agg (encSlot s ()).toArray)) (hy : ev E y = some (.agg (encSlot u ()).toArray)) : PV Tryz.prog E (.binOp .neq 91 x y yt) (.bool (!decide (s = u))):=⟨fun n a ha dst ty pos after gd W=>by
  have h:=run_slotEq s u hs hu W
  have h2 : (binOp .neq 91 (.agg (encSlot s ()).toArray) (.agg (encSlot u ()).toArray)).run Tryz.prog W = .ok (.bool (!decide (s = u))) W:=by
    show ((Op.equal 91 _ _) >>= fun r=>pure (Value.bool (!r)) : Sem Value).run Tryz.prog W = _
    rw [Sem.run_bind,h,Result.andThen_ok,Sem.run_pure]
  simp [execOp,ha.eval hx,ha.eval hy,eqGuard,h2]⟩
theorem wSlots_c {xs : List Slot} (h1 : RoRow (rSlot false) w0 A xs) (h2 : RoRow (rSlot false) w0 B xs) (hn : xs.length ≤ 1048576) (hk : ∀ s ∈ xs,SlotK s) (HM : Mem w0 W L) : Calls Tryz.prog 37 #[.slice A xs.length c,.slice B xs.length d] W fun e W'=>e = .returned (.bool true) ∧ Mem w0 W' L:=by
  refine enter Tryz.func37 rfl Tryz.ntmps37 [(0,_),(1,_)] rfl ⟨rfl,rfl,trivial⟩ ?_
  replace HM:=(HM.rod h1).rod h2
  repeat refine Y ?_
  refine c_loop (σ:=Nat) (fun k=>[(0,.slice A xs.length c),(1,.slice B xs.length d),(5,.int .i64 k)]) (fun k W1=>k ≤ xs.length ∧ Mem w0 W1 _) (fun k=>xs.length - k) 0 U ⟨Nat.zero_le _,HM⟩ ?_
  clear HM
  rintro k W1 ⟨hk1,HM⟩
  by_cases hlt : k < xs.length
  · have hs : SlotK (rdR (rSlot false) xs (k : Int)):=by rw [rdR_at hlt];exact hk _ (List.getElem_mem hlt)
    repeat (first|(refine gGP ?_;refine gGB ?_;refine gp (p_slotNe hs hs rfl rfl) ?_)|(refine gR ?_;refine d_start [] [(0,0),(0,1),(0,2),(0,4),(0,5),(0,6),(1,3),(1,7),(0,8)] HM (by kernel_rfl) (by kernel_rfl) qq (by kernel_rfl) rfl ?_;intro HQ HS W1 HM1;replace HM:=HM1;clear HM1)|refine Y ?_)
    exact n_round (k + 1) U ⟨by omega,HM.sb⟩ (by omega)
  · repeat refine Y ?_
    exact ret_tmp rfl rfl ⟨rfl,HM.sb⟩
end Go.Proofs.YtampmicahnnebaaGreat.Sp
namespace Go.Proofs.YtampmicahnnebaaGreat.Sp
open Go Go.RowKit
set_option maxRecDepth 10000
set_option maxHeartbeats 20000000
variable {w0 W : World} {L : List Asn} {A B : Option Addr} {c c' : Nat}
theorem wNumbers_c {xs : List Int} (h1 : RoRow rInt w0 A xs) (h2 : RoRow rInt w0 B xs) (HM : Mem w0 W L) : Calls Tryz.prog 36 #[.slice A xs.length c,.slice B xs.length c'] W fun e W'=>e = .returned (.bool true) ∧ Mem w0 W' L:=by
  refine enter Tryz.func36 rfl Tryz.ntmps36 [(0,_),(1,_)] rfl ⟨rfl,rfl,trivial⟩ ?_
  have hmax:=h1.max
  replace HM:=(HM.pur h1).pur h2
  repeat refine Y ?_
  refine c_loop (σ:=Nat) (fun i=>[(0,.slice A xs.length c),(1,.slice B xs.length c'),(5,.int .i64 i)]) (fun i W1=>i ≤ xs.length ∧ Mem w0 W1 (ro rInt w0 B xs :: ro rInt w0 A xs :: L)) (fun i=>xs.length - i) 0 U ⟨Nat.zero_le _,HM⟩ ?_
  clear HM
  rintro i W1 ⟨hi,HM⟩
  by_cases hlt : i < xs.length
  · repeat (first|(refine gR ?_;refine d_start [] [(0,0),(0,1),(0,2),(0,4),(0,5),(0,6),(1,3),(1,7),(0,8)] HM (by kernel_rfl) (by kernel_rfl) qq (by kernel_rfl) rfl ?_;intro HQ HS W1 HM1;replace HM:=HM1;clear HM1)|refine Y ?_)
    exact n_round (i + 1) U ⟨by omega,HM.sb⟩ (by omega)
  · repeat refine Y ?_
    exact ret_tmp rfl rfl ⟨rfl,HM.sb⟩
theorem wTexts_c {xs : List ByteArray} (h1 : RoRow (rStr false) w0 A xs) (h2 : RoRow (rStr false) w0 B xs) (HM : Mem w0 W L) : Calls Tryz.prog 35 #[.slice A xs.length c,.slice B xs.length c'] W fun e W'=>e = .returned (.bool true) ∧ Mem w0 W' L:=by
  refine enter Tryz.func35 rfl Tryz.ntmps35 [(0,_),(1,_)] rfl ⟨rfl,rfl,trivial⟩ ?_
  have hmax:=h1.max
  replace HM:=(HM.pur h1).pur h2
  repeat refine Y ?_
  refine c_loop (σ:=Nat) (fun i=>[(0,.slice A xs.length c),(1,.slice B xs.length c'),(5,.int .i64 i)]) (fun i W1=>i ≤ xs.length ∧ Mem w0 W1 (ro (rStr false) w0 B xs :: ro (rStr false) w0 A xs :: L)) (fun i=>xs.length - i) 0 U ⟨Nat.zero_le _,HM⟩ ?_
  clear HM
  rintro i W1 ⟨hi,HM⟩
  by_cases hlt : i < xs.length
  · repeat (first|(refine gR ?_;refine d_start [] [(0,0),(0,1),(0,2),(0,4),(0,5),(0,6),(1,3),(1,7),(0,8)] HM (by kernel_rfl) (by kernel_rfl) qq (by kernel_rfl) rfl ?_;intro HQ HS W1 HM1;replace HM:=HM1;clear HM1)|refine Y ?_)
    exact n_round (i + 1) U ⟨by omega,HM.sb⟩ (by omega)
  · repeat refine Y ?_
    exact ret_tmp rfl rfl ⟨rfl,HM.sb⟩
theorem wMessage_c (x : Msg) (i j : At) (h1 : RoRow (rSlot false) w0 i.1 x.slots) (h2 : RoRow (rSlot false) w0 j.1 x.slots) (hn : x.slots.length ≤ 1048576) (hk : ∀ s ∈ x.slots,SlotK s) (HM : Mem w0 W L) : Calls Tryz.prog 38 #[.agg (encMsg x i).toArray,.agg (encMsg x j).toArray] W fun e W'=>e = .returned (.bool true) ∧ Mem w0 W' L:=by
  refine enter Tryz.func38 rfl Tryz.ntmps38 [(0,.agg (encMsg x i).toArray),(1,.agg (encMsg x j).toArray)] rfl ⟨rfl,rfl,trivial⟩ ?_
  unfold encMsg
  repeat (first|refine Y ?_|(refine qf ?_;go_at_call 37;refine (wSlots_c (xs:=x.slots) h1 h2 (by omega) hk HM).mono ?_;rintro e W1 ⟨rfl,HM1⟩;refine ⟨_,rfl,?_⟩;replace HM:=HM1;clear HM1)|(refine qg ?_;clear HM;intro g W1 HM))
  exact ret_tmp rfl rfl ⟨by simp,HM.sb⟩
theorem wMessages_c {xs : List Msg} (h1 : RoRow (rMsg false) w0 A xs) (h2 : RoRow (rMsg false) w0 B xs) (hn : ∀ m ∈ xs,m.slots.length ≤ 1048576) (hk : ∀ m ∈ xs,∀ s ∈ m.slots,SlotK s) (HM : Mem w0 W L) : Calls Tryz.prog 8 #[.slice A xs.length c,.slice B xs.length c'] W fun e W'=>e = .returned (.bool true) ∧ Mem w0 W' L:=by
  refine enter Tryz.func8 rfl Tryz.ntmps8 [(0,_),(1,_)] rfl ⟨rfl,rfl,trivial⟩ ?_
  have hmax:=h1.max
  replace HM:=(HM.pur h1).pur h2
  repeat refine Y ?_
  refine c_loop (σ:=Nat) (fun i=>[(0,.slice A xs.length c),(1,.slice B xs.length c'),(5,.int .i64 i)]) (fun i W1=>i ≤ xs.length ∧ Mem w0 W1 (ro (rMsg false) w0 B xs :: ro (rMsg false) w0 A xs :: L)) (fun i=>xs.length - i) 0 U ⟨Nat.zero_le _,HM⟩ ?_
  clear HM
  rintro i W1 ⟨hi,HM⟩
  by_cases hlt : i < xs.length
  · obtain ⟨cc,⟨j1,rfl,g1⟩,HM⟩:=HM.roOpen (A:=A) i hlt
    obtain ⟨cc,⟨j2,rfl,g2⟩,HM⟩:=HM.roOpen (A:=B) i hlt
    have hni:=hn _ (List.getElem_mem hlt)
    have hki:=hk _ (List.getElem_mem hlt)
    repeat (first|(refine gR ?_;refine d_start [] [(0,0),(0,1),(0,2),(0,4),(0,5),(0,6),(1,3),(1,7),(2,8),(0,9)] HM (by kernel_rfl) (by kernel_rfl) qq (by kernel_rfl) rfl ?_;intro HQ HS W1 HM1;replace HM:=HM1;clear HM1)|refine Y ?_|(refine qf ?_;go_at_call 38;refine (wMessage_c _ _ _ g1.2 g2.2 hni hki HM).mono ?_;rintro e W1 ⟨rfl,HM1⟩;refine ⟨_,rfl,?_⟩;replace HM:=HM1;clear HM1))
    exact n_round (i + 1) U ⟨by omega,HM.sb⟩ (by omega)
  · repeat refine Y ?_
    exact ret_tmp rfl rfl ⟨rfl,HM.sb⟩
theorem wDisk_c (p k : Int) {xs : List Slot} (h1 : RoRow (rSlot false) w0 A xs) (h2 : RoRow (rSlot false) w0 B xs) (hn : xs.length ≤ 1048576) (hk : ∀ s ∈ xs,SlotK s) (HM : Mem w0 W L) : Calls Tryz.prog 34 #[.agg #[.int .i64 p,.int .i64 k,.slice A xs.length c],.agg #[.int .i64 p,.int .i64 k,.slice B xs.length c']] W fun e W'=>e = .returned (.bool true) ∧ Mem w0 W' L:=by
  refine enter Tryz.func34 rfl Tryz.ntmps34 [(0,.agg #[.int .i64 p,.int .i64 k,.slice A xs.length c]),(1,.agg #[.int .i64 p,.int .i64 k,.slice B xs.length c'])] rfl ⟨rfl,rfl,trivial⟩ ?_
  repeat (first|refine Y ?_|(refine qf ?_;go_at_call 37;refine (wSlots_c (xs:=xs) h1 h2 (by omega) hk HM).mono ?_;rintro e W1 ⟨rfl,HM1⟩;refine ⟨_,rfl,?_⟩;replace HM:=HM1;clear HM1)|(refine qg ?_;clear HM;intro g W1 HM))
  exact ret_tmp rfl rfl ⟨by simp,HM.sb⟩
structure RcdK (x : Rcd) : Prop where
  ss : ∀ s ∈ x.ss,SlotK s
  ds : ∀ s ∈ x.ds,SlotK s
  best : ∀ s ∈ x.best,SlotK s
  held : ∀ m ∈ x.held,∀ s ∈ m.slots,SlotK s
theorem wRecorder_c (x : Rcd) (i j : AtRcd) (h1 : RoRcd false w0 x i) (h2 : RoRcd false w0 x j) (hn : SmallR x) (hk : RcdK x) (HM : Mem w0 W L) : Calls Tryz.prog 7 #[.agg (encRcd x i).toArray,.agg (encRcd x j).toArray] W fun e W'=>e = .returned (.bool true) ∧ Mem w0 W' L:=by
  refine enter Tryz.func7 rfl Tryz.ntmps7 [(0,.agg (encRcd x i).toArray),(1,.agg (encRcd x j).toArray)] rfl ⟨rfl,rfl,trivial⟩ ?_
  have g1:=h1.acks
  have g2:=h2.acks
  have gmax:=g1.max
  unfold encRcd
  replace HM:=(HM.rod g1).rod g2
  repeat (first|refine Y ?_|(refine qf ?_;first|(go_at_call 34;first|((with_reducible refine (wDisk_c x.sp x.sk h1.ss h2.ss hn.ss hk.ss HM).mono ?_);rintro e W1 ⟨rfl,HM1⟩;refine ⟨_,rfl,?_⟩;replace HM:=HM1;clear HM1)|((with_reducible refine (wDisk_c x.dp x.dk h1.ds h2.ds hn.ds hk.ds HM).mono ?_);rintro e W1 ⟨rfl,HM1⟩;refine ⟨_,rfl,?_⟩;replace HM:=HM1;clear HM1))|(go_at_call 8;refine (wMessages_c h1.held h2.held hn.helds hk.held HM).mono ?_;rintro e W1 ⟨rfl,HM1⟩;refine ⟨_,rfl,?_⟩;replace HM:=HM1;clear HM1)|(go_at_call 35;refine (wTexts_c h1.wishes h2.wishes HM).mono ?_;rintro e W1 ⟨rfl,HM1⟩;refine ⟨_,rfl,?_⟩;replace HM:=HM1;clear HM1)|(go_at_call 36;refine (wNumbers_c h1.yes h2.yes HM).mono ?_;rintro e W1 ⟨rfl,HM1⟩;refine ⟨_,rfl,?_⟩;replace HM:=HM1;clear HM1)|(go_at_call 37;refine (wSlots_c h1.best h2.best hn.best hk.best HM).mono ?_;rintro e W1 ⟨rfl,HM1⟩;refine ⟨_,rfl,?_⟩;replace HM:=HM1;clear HM1))|(refine qg ?_;clear HM;intro g W1 HM))
  rename_i gb Wz Wa Wb Wc Wd We Wf
  refine c_loop (σ:=Nat) (fun k=>[(2,.pointer (some ⟨gb,0,none⟩)),(3,.pointer (some ⟨g,0,none⟩)),(5,.int .i64 k)]) (fun k W1=>k ≤ x.acks.length ∧ Mem w0 W1 _) (fun k=>x.acks.length - k) 0 U ⟨Nat.zero_le _,HM⟩ ?_
  clear HM
  rintro k W1 ⟨hk1,HM⟩
  by_cases hlt : k < x.acks.length
  · obtain ⟨cc,⟨j1,rfl,q1⟩,HM⟩:=HM.roOpen (A:=i.a6.1) k hlt
    obtain ⟨cc,⟨j2,rfl,q2⟩,HM⟩:=HM.roOpen (A:=j.a6.1) k hlt
    unfold encAck at HM
    repeat (first|refine Y ?_|(refine gR ?_;refine d_start [] [(0,0),(0,2),(0,6),(0,8),(1,1),(0,3),(0,4),(1,5),(1,7),(0,9),(0,10),(1,11),(0,12),(0,13),(0,14),(0,16),(0,20),(0,22),(1,15),(0,17),(0,18),(1,19),(1,21),(0,23),(0,24),(1,25),(2,26),(0,27),(0,28)] HM (by kernel_rfl) (by kernel_rfl) qq (by kernel_rfl) rfl ?_;intro HQ HS W1 HM1;replace HM:=HM1;clear HM1)|(refine qf ?_;go_at_call 36;refine (wNumbers_c q1 q2 HM).mono ?_;rintro e W1 ⟨rfl,HM1⟩;refine ⟨_,rfl,?_⟩;replace HM:=HM1;clear HM1))
    exact n_round (k + 1) U ⟨by omega,HM.sb⟩ (by omega)
  · repeat refine Y ?_
    exact ret_tmp rfl rfl ⟨rfl,HM.sb⟩
end Go.Proofs.YtampmicahnnebaaGreat.Sp
namespace Go.Proofs.YtampmicahnnebaaGreat.Sp
open Go Go.RowKit
set_option maxRecDepth 10000
set_option maxHeartbeats 2000000
variable {w0 W : World} {L : List Asn} {A : Option Addr} {c : Nat}
theorem tick1Fn (s : Slot) (g7 : Nat) (w : ByteArray) [hB : RoBAt L g7 w0 9 [.string w]] (HM : Mem w0 W L) : Calls Tryz.prog 71 #[.agg (encSlot s ()).toArray,.pointer (some ⟨g7,0,none⟩)] W fun e W'=>e = .returned (.bool (decide (0 < s.ballot) && decide (s.text = w))) ∧ Mem w0 W' L:=by
  refine enter Tryz.func71 rfl Tryz.ntmps71 [(0,.agg (encSlot s ()).toArray),(1,_)] rfl ⟨rfl,rfl,trivial⟩ ?_
  unfold encSlot
  by_cases c1 : 0 < s.ballot
  · repeat (first|refine Y ?_|(refine qg ?_;clear HM;intro g W1 HM))
    exact ret_tmp rfl rfl ⟨by simp [c1],HM.sb⟩
  · repeat (first|refine Y ?_|(refine qg ?_;clear HM;intro g W1 HM))
    exact ret_tmp rfl rfl ⟨by simp [c1],HM.sb⟩
theorem indexSlot {zs : List Slot} (g7 : Nat) (w : ByteArray) [hB : RoBAt L g7 w0 9 [.string w]] (hr : RoRow (rSlot false) w0 A zs) (hn : zs.length ≤ 1048576) (HM : Mem w0 W L) : Calls Tryz.prog 104 #[.slice A zs.length c,.func (.func 71) #[] #[.pointer (some ⟨g7,0,none⟩)]] W fun e W'=>∃ r : Int,e = .returned (.int .i64 r) ∧ decide (0 ≤ r) = hasB zs w ∧ Mem w0 W' L:=by
  refine enter Tryz.func104 rfl Tryz.ntmps104 [(0,_),(1,_)] rfl ⟨rfl,rfl,trivial⟩ ?_
  repeat refine Y ?_
  refine c_loop (σ:=Nat) (fun k=>[(0,.slice A zs.length c),(1,.func (.func 71) #[] #[.pointer (some ⟨g7,0,none⟩)]),(7,.int .i64 zs.length),(8,.int .i64 k)]) (fun k W1=>k ≤ zs.length ∧ (zs.take k).any (fun s=>decide (0 < s.ballot) && decide (s.text = w)) = false ∧ Mem w0 W1 L) (fun k=>zs.length - k) 0 U ⟨Nat.zero_le _,by simp,HM⟩ ?_
  clear HM
  rintro k W1 ⟨hk,hp,HM⟩
  by_cases hlt : k < zs.length
  · replace HM:=HM.rod hr
    have e0:=rdR_at (D:=rSlot false) hlt
    by_cases c1 : (decide (0 < (rdR (rSlot false) zs k).ballot) && decide ((rdR (rSlot false) zs k).text = w)) = true
    · have hh : hasB zs w = true:=any_hit hlt (by rw [← e0];exact c1)
      repeat (first|(refine gCall ?_;refine s_callv (f:=71) (first:=[]) (captured:=[.pointer (some ⟨g7,0,none⟩)]) rfl rfl rfl ?_;refine (tick1Fn (rdR (rSlot false) zs k) g7 w HM).mono ?_;rintro e W1 ⟨rfl,HM1⟩;refine ⟨_,rfl,?_⟩;replace HM:=HM1;clear HM1)|refine Y ?_)
      exact ret_tmp rfl rfl ⟨k,rfl,by rw [hh];simp,HM.drop⟩
    · simp only [Bool.not_eq_true] at c1
      have hp2:=any_succ hlt hp (by rw [← e0];exact c1)
      repeat (first|(refine gCall ?_;refine s_callv (f:=71) (first:=[]) (captured:=[.pointer (some ⟨g7,0,none⟩)]) rfl rfl rfl ?_;refine (tick1Fn (rdR (rSlot false) zs k) g7 w HM).mono ?_;rintro e W1 ⟨rfl,HM1⟩;refine ⟨_,rfl,?_⟩;replace HM:=HM1;clear HM1)|refine Y ?_)
      exact n_round (k + 1) U ⟨by omega,hp2,HM.drop⟩ (by omega)
  · obtain rfl : k = zs.length:=by omega
    rw [List.take_length] at hp
    have hh : hasB zs w = false:=hp
    repeat refine Y ?_
    exact ret_tmp rfl rfl ⟨-1,rfl,by rw [hh];rfl,HM⟩
theorem containsSlot {zs : List Slot} (g7 : Nat) (w : ByteArray) [hB : RoBAt L g7 w0 9 [.string w]] (hr : RoRow (rSlot false) w0 A zs) (hn : zs.length ≤ 1048576) (HM : Mem w0 W L) : Calls Tryz.prog 70 #[.slice A zs.length c,.func (.func 71) #[] #[.pointer (some ⟨g7,0,none⟩)]] W fun e W'=>e = .returned (.bool (hasB zs w)) ∧ Mem w0 W' L:=by
  refine enter Tryz.func70 rfl Tryz.ntmps70 [(0,_),(1,_)] rfl ⟨rfl,rfl,trivial⟩ ?_
  repeat (first|refine Y ?_|(refine qf ?_;go_at_call 104;refine (indexSlot g7 w hr hn HM).mono ?_;rintro e W1 ⟨r,rfl,hr2,HM1⟩;refine ⟨_,rfl,?_⟩;replace HM:=HM1;clear HM1))
  exact ret_tmp rfl rfl ⟨by rw [hr2],HM⟩
end Go.Proofs.YtampmicahnnebaaGreat.Sp
namespace Go.Proofs.YtampmicahnnebaaGreat.Sp
open Go Go.RowKit
set_option maxRecDepth 10000
set_option maxHeartbeats 2000000
variable {w0 W : World} {L : List Asn}
theorem tickFn2 (x : Rcd) (i : AtRcd) (gr : Nat) (to : Int) {g3 g1 : Nat} {A : Option Addr} {c : Nat} {o : List Msg} (hl : o.length ≤ 100000) (HM : Mem w0 W (own (tMsg 91) 40 A c o :: box g3 26 [.slice A o.length c] :: box g1 93 [.pointer (some ⟨gr,0,none⟩)] :: (boxR 91 40 9 3 66 31 gr x i ++ L))) : Calls Tryz.prog 73 #[.int .i64 to,.pointer (some ⟨g3,0,none⟩),.pointer (some ⟨g1,0,none⟩)] W fun e W'=>∃ A' c',e = .returned (.tuple #[]) ∧ Mem w0 W' (own (tMsg 91) 40 A' c' (o ++ [(⟨5,x.number,to,x.ballot,0,x.dk,⟨#[]⟩,[]⟩ : Msg)]) :: box g3 26 [.slice A' (o ++ [(⟨5,x.number,to,x.ballot,0,x.dk,⟨#[]⟩,[]⟩ : Msg)]).length c'] :: box g1 93 [.pointer (some ⟨gr,0,none⟩)] :: (boxR 91 40 9 3 66 31 gr x i ++ L)):=by
  refine enter Tryz.func73 rfl Tryz.ntmps73 [(0,_),(1,_),(2,_)] rfl ⟨rfl,rfl,rfl,trivial⟩ ?_
  simp only [boxR,partRcd,List.cons_append,List.nil_append] at HM
  repeat (first|(refine gR ?_;refine d_start [17,18] [(0,5),(1,0),(1,1),(0,2),(0,3),(1,4),(1,6),(0,7),(0,8),(1,9),(1,10),(0,11),(0,12),(0,13),(1,14),(2,15),(2,16),(3,17),(3,18)] HM (by kernel_rfl) (by kernel_rfl) qq (by kernel_rfl) rfl ?_;intro HQ HS W1 HM1;replace HM:=HM1;clear HM1)|refine Y ?_|(refine qs ?_;clear HM;intro W1 HM)|(refine qa ?_;clear HM;intro A1 c1 W1 HM)|(refine qg ?_;clear HM;intro g W1 HM))
  exact end_none rfl ⟨A1,c1,rfl,by simp only [boxR,partRcd,List.cons_append,List.nil_append];exact HM.sb⟩
theorem others2M (x : Rcd) (i : AtRcd) (gr : Nat) {g3 g1 : Nat} {A : Option Addr} {c : Nat} {o : List Msg} (hof : 0 ≤ x.of ∧ x.of ≤ 5) (hl : o.length ≤ 90000) (HM : Mem w0 W (own (tMsg 91) 40 A c o :: box g3 26 [.slice A o.length c] :: box g1 93 [.pointer (some ⟨gr,0,none⟩)] :: (boxR 91 40 9 3 66 31 gr x i ++ L))) : Calls Tryz.prog 72 #[.pointer (some ⟨gr,0,none⟩),.func (.func 73) #[] #[.pointer (some ⟨g3,0,none⟩),.pointer (some ⟨g1,0,none⟩)]] W fun e W'=>∃ A' c',e = .returned (.tuple #[]) ∧ Mem w0 W' (own (tMsg 91) 40 A' c' (othL x o ⟨5,0,0,x.ballot,0,x.dk,⟨#[]⟩,[]⟩) :: box g3 26 [.slice A' (othL x o ⟨5,0,0,x.ballot,0,x.dk,⟨#[]⟩,[]⟩).length c'] :: box g1 93 [.pointer (some ⟨gr,0,none⟩)] :: (boxR 91 40 9 3 66 31 gr x i ++ L)):=by
  refine enter Tryz.func72 rfl Tryz.ntmps72 [(0,_),(1,_)] rfl ⟨rfl,rfl,trivial⟩ ?_
  simp only [boxR,partRcd,List.cons_append,List.nil_append] at HM
  repeat refine Y ?_
  generalize htg : othL x o ⟨5,0,0,x.ballot,0,x.dk,⟨#[]⟩,[]⟩ = tg
  unfold othL at htg
  refine c_loop2 (σ:=Nat × List Msg) (fun s A c=>[(0,.pointer (some ⟨gr,0,none⟩)),(1,.func (.func 73) #[] #[.pointer (some ⟨g3,0,none⟩),.pointer (some ⟨g1,0,none⟩)]),(4,.int .i64 ((s.1 : Int) + 1))]) (fun s A c W1=>(s.1 : Int) ≤ x.of ∧ othersL x.number ⟨5,0,0,x.ballot,0,x.dk,⟨#[]⟩,[]⟩ (x.of.toNat - s.1) ((s.1 : Int) + 1) s.2 = tg ∧ s.2.length ≤ 90000 + s.1 ∧ Mem w0 W1 (own (tMsg 91) 40 A c s.2 :: box g3 26 [.slice A s.2.length c] :: box g1 93 [.pointer (some ⟨gr,0,none⟩)] :: (boxR 91 40 9 3 66 31 gr x i ++ L))) (fun s=>x.of.toNat - s.1) (0,o) A c (by simp only [Int.natCast_zero,Int.zero_add];exact U) ⟨by omega,htg,by dsimp only;omega,by simp only [boxR,partRcd,List.cons_append,List.nil_append];exact HM.sb⟩ ?_
  clear HM
  rintro ⟨k,z⟩ A c W1 ⟨hk,hz,hzl,HM⟩
  dsimp only at hk hz hzl HM ⊢
  have HM0:=HM
  simp only [boxR,partRcd,List.cons_append,List.nil_append] at HM
  by_cases hlt : (k : Int) + 1 ≤ x.of
  · have hst:=hz
    rw [show x.of.toNat - k = (x.of.toNat - (k + 1)) + 1 by omega,othersL] at hst
    by_cases c1 : (k : Int) + 1 = x.number
    · rw [if_pos c1] at hst
      clear HM0
      repeat refine Y ?_
      exact n_round2 (k + 1,z) A c (by simp only [Int.natCast_add,Int.natCast_one];exact U) ⟨by dsimp only;omega,by simpa only [Int.natCast_add,Int.natCast_one] using hst,by dsimp only;omega,by simp only [boxR,partRcd,List.cons_append,List.nil_append];exact HM.sb⟩ (by dsimp only;omega)
    · rw [if_neg c1] at hst
      have hzl2 : ∀ m : Msg,(z ++ [m]).length = z.length + 1:=fun m=>by simp
      clear HM0
      repeat (first|(refine gCall ?_;refine s_callv (f:=73) (first:=[]) (captured:=[.pointer (some ⟨g3,0,none⟩),.pointer (some ⟨g1,0,none⟩)]) rfl rfl rfl ?_;refine (tickFn2 (L:=L) x i gr  ((k : Int) + 1) (o:=z) (A:=A) (c:=c) (by omega) (by simp only [boxR,partRcd,List.cons_append,List.nil_append];exact HM.sb)).mono ?_;rintro e W1 ⟨A1,c1,rfl,HM1⟩;refine ⟨_,rfl,?_⟩;replace HM:=HM1;clear HM1)|refine Y ?_)
      exact n_round2 (k + 1,z ++ [_]) A1 c1 (by simp only [Int.natCast_add,Int.natCast_one];exact U) ⟨by dsimp only;omega,by simpa only [Int.natCast_add,Int.natCast_one] using hst,by dsimp only;rw [hzl2];omega,HM⟩ (by dsimp only;omega)
  · rw [show x.of.toNat - k = 0 by omega,othersL] at hz
    subst hz
    repeat refine Y ?_
    exact end_none rfl ⟨A,c,rfl,HM0⟩
theorem tickFn3 (x : Rcd) (i : AtRcd) (gr : Nat) {g8 : Nat} (q : Nat) (hq : q < x.ds.length) (hql : x.ds.length ≤ 60) (to : Int) {g3 g1 : Nat} {A : Option Addr} {c : Nat} {o : List Msg} (hl : o.length ≤ 100000) (HM : Mem w0 W (own (tMsg 91) 40 A c o :: box g3 26 [.slice A o.length c] :: box g1 93 [.pointer (some ⟨gr,0,none⟩)] :: box g8 3 [.int .i64 q] :: (boxR 91 40 9 3 66 31 gr x i ++ L))) : Calls Tryz.prog 74 #[.int .i64 to,.pointer (some ⟨g3,0,none⟩),.pointer (some ⟨g1,0,none⟩),.pointer (some ⟨g8,0,none⟩)] W fun e W'=>∃ A' c',e = .returned (.tuple #[]) ∧ Mem w0 W' (own (tMsg 91) 40 A' c' (o ++ [(⟨3,x.number,to,x.ballot,(q : Int) + 1,0,(rd tSlot x.ds q).text,[]⟩ : Msg)]) :: box g3 26 [.slice A' (o ++ [(⟨3,x.number,to,x.ballot,(q : Int) + 1,0,(rd tSlot x.ds q).text,[]⟩ : Msg)]).length c'] :: box g1 93 [.pointer (some ⟨gr,0,none⟩)] :: box g8 3 [.int .i64 q] :: (boxR 91 40 9 3 66 31 gr x i ++ L)):=by
  refine enter Tryz.func74 rfl Tryz.ntmps74 [(0,_),(1,_),(2,_),(3,_)] rfl ⟨rfl,rfl,rfl,rfl,trivial⟩ ?_
  simp only [boxR,partRcd,List.cons_append,List.nil_append] at HM
  repeat (first|(refine gR ?_;refine d_start [23,24] [(0,5),(1,0),(1,1),(0,2),(0,3),(1,4),(1,6),(0,7),(0,8),(1,9),(1,10),(0,11),(1,12),(0,13),(0,14),(0,15),(1,16),(1,17),(0,18),(0,19),(1,20),(2,21),(2,22),(3,23),(3,24)] HM (by kernel_rfl) (by kernel_rfl) qq (by kernel_rfl) rfl ?_;intro HQ HS W1 HM1;replace HM:=HM1;clear HM1)|refine Y ?_|(refine qs ?_;clear HM;intro W1 HM)|(refine qa ?_;clear HM;intro A1 c1 W1 HM)|(refine qg ?_;clear HM;intro g W1 HM))
  exact end_none rfl ⟨A1,c1,rfl,by simp only [boxR,partRcd,List.cons_append,List.nil_append];exact HM.sb⟩
theorem others3M (x : Rcd) (i : AtRcd) (gr : Nat) {g8 : Nat} (q : Nat) (hq : q < x.ds.length) (hql : x.ds.length ≤ 60) {g3 g1 : Nat} {A : Option Addr} {c : Nat} {o : List Msg} (hof : 0 ≤ x.of ∧ x.of ≤ 5) (hl : o.length ≤ 90000) (HM : Mem w0 W (own (tMsg 91) 40 A c o :: box g3 26 [.slice A o.length c] :: box g1 93 [.pointer (some ⟨gr,0,none⟩)] :: box g8 3 [.int .i64 q] :: (boxR 91 40 9 3 66 31 gr x i ++ L))) : Calls Tryz.prog 72 #[.pointer (some ⟨gr,0,none⟩),.func (.func 74) #[] #[.pointer (some ⟨g3,0,none⟩),.pointer (some ⟨g1,0,none⟩),.pointer (some ⟨g8,0,none⟩)]] W fun e W'=>∃ A' c',e = .returned (.tuple #[]) ∧ Mem w0 W' (own (tMsg 91) 40 A' c' (othL x o ⟨3,0,0,x.ballot,(q : Int) + 1,0,(rd tSlot x.ds q).text,[]⟩) :: box g3 26 [.slice A' (othL x o ⟨3,0,0,x.ballot,(q : Int) + 1,0,(rd tSlot x.ds q).text,[]⟩).length c'] :: box g1 93 [.pointer (some ⟨gr,0,none⟩)] :: box g8 3 [.int .i64 q] :: (boxR 91 40 9 3 66 31 gr x i ++ L)):=by
  refine enter Tryz.func72 rfl Tryz.ntmps72 [(0,_),(1,_)] rfl ⟨rfl,rfl,trivial⟩ ?_
  simp only [boxR,partRcd,List.cons_append,List.nil_append] at HM
  repeat refine Y ?_
  generalize htg : othL x o ⟨3,0,0,x.ballot,(q : Int) + 1,0,(rd tSlot x.ds q).text,[]⟩ = tg
  unfold othL at htg
  refine c_loop2 (σ:=Nat × List Msg) (fun s A c=>[(0,.pointer (some ⟨gr,0,none⟩)),(1,.func (.func 74) #[] #[.pointer (some ⟨g3,0,none⟩),.pointer (some ⟨g1,0,none⟩),.pointer (some ⟨g8,0,none⟩)]),(4,.int .i64 ((s.1 : Int) + 1))]) (fun s A c W1=>(s.1 : Int) ≤ x.of ∧ othersL x.number ⟨3,0,0,x.ballot,(q : Int) + 1,0,(rd tSlot x.ds q).text,[]⟩ (x.of.toNat - s.1) ((s.1 : Int) + 1) s.2 = tg ∧ s.2.length ≤ 90000 + s.1 ∧ Mem w0 W1 (own (tMsg 91) 40 A c s.2 :: box g3 26 [.slice A s.2.length c] :: box g1 93 [.pointer (some ⟨gr,0,none⟩)] :: box g8 3 [.int .i64 q] :: (boxR 91 40 9 3 66 31 gr x i ++ L))) (fun s=>x.of.toNat - s.1) (0,o) A c (by simp only [Int.natCast_zero,Int.zero_add];exact U) ⟨by omega,htg,by dsimp only;omega,by simp only [boxR,partRcd,List.cons_append,List.nil_append];exact HM.sb⟩ ?_
  clear HM
  rintro ⟨k,z⟩ A c W1 ⟨hk,hz,hzl,HM⟩
  dsimp only at hk hz hzl HM ⊢
  have HM0:=HM
  simp only [boxR,partRcd,List.cons_append,List.nil_append] at HM
  by_cases hlt : (k : Int) + 1 ≤ x.of
  · have hst:=hz
    rw [show x.of.toNat - k = (x.of.toNat - (k + 1)) + 1 by omega,othersL] at hst
    by_cases c1 : (k : Int) + 1 = x.number
    · rw [if_pos c1] at hst
      clear HM0
      repeat refine Y ?_
      exact n_round2 (k + 1,z) A c (by simp only [Int.natCast_add,Int.natCast_one];exact U) ⟨by dsimp only;omega,by simpa only [Int.natCast_add,Int.natCast_one] using hst,by dsimp only;omega,by simp only [boxR,partRcd,List.cons_append,List.nil_append];exact HM.sb⟩ (by dsimp only;omega)
    · rw [if_neg c1] at hst
      have hzl2 : ∀ m : Msg,(z ++ [m]).length = z.length + 1:=fun m=>by simp
      clear HM0
      repeat (first|(refine gCall ?_;refine s_callv (f:=74) (first:=[]) (captured:=[.pointer (some ⟨g3,0,none⟩),.pointer (some ⟨g1,0,none⟩),.pointer (some ⟨g8,0,none⟩)]) rfl rfl rfl ?_;refine (tickFn3 (L:=L) x i gr q hq hql ((k : Int) + 1) (o:=z) (A:=A) (c:=c) (by omega) (by simp only [boxR,partRcd,List.cons_append,List.nil_append];exact HM.sb)).mono ?_;rintro e W1 ⟨A1,c1,rfl,HM1⟩;refine ⟨_,rfl,?_⟩;replace HM:=HM1;clear HM1)|refine Y ?_)
      exact n_round2 (k + 1,z ++ [_]) A1 c1 (by simp only [Int.natCast_add,Int.natCast_one];exact U) ⟨by dsimp only;omega,by simpa only [Int.natCast_add,Int.natCast_one] using hst,by dsimp only;rw [hzl2];omega,HM⟩ (by dsimp only;omega)
  · rw [show x.of.toNat - k = 0 by omega,othersL] at hz
    subst hz
    repeat refine Y ?_
    exact end_none rfl ⟨A,c,rfl,HM0⟩
def holdNums (num : Int) (m : Msg) : Nat → Int → Rcd → Rcd
  | 0,_,y=>y
  | n + 1,i,y=>holdNums num m n (i + 1) (if i = num then y else holdL y { m with to:=i })
theorem holdAll_app : ∀ (l : List Msg) (m : Msg) (y : Rcd),holdAll (l ++ [m]) y = holdL (holdAll l y) m
  | [],_,_=>rfl
  | q :: r,m,y=>by rw [List.cons_append,holdAll,holdAll_app r m,holdAll]
theorem holdAll_oth (num : Int) (m : Msg) (y : Rcd) : ∀ (n : Nat) (i : Int) (o : List Msg),holdAll (othersL num m n i o) y = holdNums num m n i (holdAll o y)
  | 0,_,o=>rfl
  | n + 1,i,o=>by
    rw [othersL,holdNums,holdAll_oth num m y n (i + 1)]
    split
    · rfl
    · rw [holdAll_app];rfl
theorem tickFn4 (y : Rcd) (j : AtRcd) (gr : Nat) (to b : Int) {g1 g9 : Nat} (HM : Mem w0 W (box g1 93 [.pointer (some ⟨gr,0,none⟩)] :: box g9 3 [.int .i64 b] :: (boxR 91 40 9 3 66 31 gr y j ++ L))) : Calls Tryz.prog 77 #[.int .i64 to,.pointer (some ⟨g1,0,none⟩),.pointer (some ⟨g9,0,none⟩)] W fun e W'=>∃ j',e = .returned (.tuple #[]) ∧ Mem w0 W' (box g1 93 [.pointer (some ⟨gr,0,none⟩)] :: box g9 3 [.int .i64 b] :: (boxR 91 40 9 3 66 31 gr (holdL y ⟨1,0,to,b,0,0,⟨#[]⟩,[]⟩) j' ++ L)):=by
  refine enter Tryz.func77 rfl Tryz.ntmps77 [(0,_),(1,_),(2,_)] rfl ⟨rfl,rfl,rfl,trivial⟩ ?_
  simp only [boxR,partRcd,List.cons_append,List.nil_append] at HM
  repeat (first|refine Y ?_|(refine qf ?_;go_at_call 78;have HM2:=HM.nil tSlot 91;refine (holdM y j _ ⟨1,0,to,b,0,0,⟨#[]⟩,[]⟩ (none,0) (by exact pk_hold HM2)).mono ?_;clear HM2;rintro e W1 ⟨j2,rfl,HM1⟩;refine ⟨_,rfl,?_⟩;replace HM:=HM1;clear HM1;simp only [boxR,partRcd,List.cons_append,List.nil_append] at HM))
  exact end_none rfl ⟨j2,rfl,by simp only [boxR,partRcd,List.cons_append,List.nil_append];exact HM.sb⟩
theorem others4M (x : Rcd) (i : AtRcd) (gr : Nat) (b : Int) {g1 g9 : Nat} (hof : 0 ≤ x.of ∧ x.of ≤ 5) (HM : Mem w0 W (box g1 93 [.pointer (some ⟨gr,0,none⟩)] :: box g9 3 [.int .i64 b] :: (boxR 91 40 9 3 66 31 gr x i ++ L))) : Calls Tryz.prog 72 #[.pointer (some ⟨gr,0,none⟩),.func (.func 77) #[] #[.pointer (some ⟨g1,0,none⟩),.pointer (some ⟨g9,0,none⟩)]] W fun e W'=>∃ j,e = .returned (.tuple #[]) ∧ Mem w0 W' (box g1 93 [.pointer (some ⟨gr,0,none⟩)] :: box g9 3 [.int .i64 b] :: (boxR 91 40 9 3 66 31 gr (holdAll (othL x [] ⟨1,0,0,b,0,0,⟨#[]⟩,[]⟩) x) j ++ L)):=by
  refine enter Tryz.func72 rfl Tryz.ntmps72 [(0,_),(1,_)] rfl ⟨rfl,rfl,trivial⟩ ?_
  have e : holdAll (othL x [] ⟨1,0,0,b,0,0,⟨#[]⟩,[]⟩) x = holdNums x.number ⟨1,0,0,b,0,0,⟨#[]⟩,[]⟩ x.of.toNat 1 x:=holdAll_oth _ _ _ _ _ _
  rw [e]
  clear e
  have HM0:=HM
  simp only [boxR,partRcd,List.cons_append,List.nil_append] at HM
  repeat refine Y ?_
  clear HM
  generalize htg : holdNums x.number ⟨1,0,0,b,0,0,⟨#[]⟩,[]⟩ x.of.toNat 1 x = tg
  refine c_loop (σ:=Nat × Rcd) (fun s=>[(0,.pointer (some ⟨gr,0,none⟩)),(1,.func (.func 77) #[] #[.pointer (some ⟨g1,0,none⟩),.pointer (some ⟨g9,0,none⟩)]),(4,.int .i64 ((s.1 : Int) + 1))]) (fun s W1=>(s.1 : Int) ≤ x.of ∧ holdNums x.number ⟨1,0,0,b,0,0,⟨#[]⟩,[]⟩ (x.of.toNat - s.1) ((s.1 : Int) + 1) s.2 = tg ∧ s.2.number = x.number ∧ s.2.of = x.of ∧ ∃ j,Mem w0 W1 (box g1 93 [.pointer (some ⟨gr,0,none⟩)] :: box g9 3 [.int .i64 b] :: (boxR 91 40 9 3 66 31 gr s.2 j ++ L))) (fun s=>x.of.toNat - s.1) (0,x) (by simp only [Int.natCast_zero,Int.zero_add];exact U) ⟨by omega,htg,rfl,rfl,i,HM0⟩ ?_
  clear HM0
  rintro ⟨k,y⟩ W1 ⟨hk,hz,e1,e2,j,HM⟩
  dsimp only at hk hz e1 e2 HM ⊢
  have HM0:=HM
  simp only [boxR,partRcd,List.cons_append,List.nil_append] at HM
  rw [← e2] at hk hof
  by_cases hlt : (k : Int) + 1 ≤ y.of
  · have hst:=hz
    rw [← e2,show y.of.toNat - k = (y.of.toNat - (k + 1)) + 1 by omega,holdNums] at hst
    by_cases c1 : (k : Int) + 1 = y.number
    · rw [if_pos (by rw [← e1];exact c1),e2] at hst
      clear HM0
      repeat refine Y ?_
      exact n_round (k + 1,y) (by simp only [Int.natCast_add,Int.natCast_one];exact U) ⟨by dsimp only;omega,by simpa only [Int.natCast_add,Int.natCast_one] using hst,e1,e2,j,by simp only [boxR,partRcd,List.cons_append,List.nil_append];exact HM.sb⟩ (by dsimp only;omega)
    · rw [if_neg (by rw [← e1];exact c1),e2] at hst
      have kp:=kp_hold y ⟨1,0,(k : Int) + 1,b,0,0,⟨#[]⟩,[]⟩
      clear HM0
      repeat (first|(refine gCall ?_;refine s_callv (f:=77) (first:=[]) (captured:=[.pointer (some ⟨g1,0,none⟩),.pointer (some ⟨g9,0,none⟩)]) rfl rfl rfl ?_;refine (tickFn4 (L:=L) y j gr ((k : Int) + 1) b (by simp only [boxR,partRcd,List.cons_append,List.nil_append];exact HM.sb)).mono ?_;rintro e W1 ⟨j2,rfl,HM1⟩;refine ⟨_,rfl,?_⟩;replace HM:=HM1;clear HM1)|refine Y ?_)
      exact n_round (k + 1,holdL y ⟨1,0,(k : Int) + 1,b,0,0,⟨#[]⟩,[]⟩) (by simp only [Int.natCast_add,Int.natCast_one];exact U) ⟨by dsimp only;omega,by simpa only [Int.natCast_add,Int.natCast_one] using hst,kp.number.trans e1,kp.of.trans e2,j2,HM⟩ (by dsimp only;omega)
  · rw [← e2,show y.of.toNat - k = 0 by omega,holdNums] at hz
    subst hz
    repeat refine Y ?_
    exact end_none rfl ⟨j,rfl,HM0⟩
end Go.Proofs.YtampmicahnnebaaGreat.Sp
