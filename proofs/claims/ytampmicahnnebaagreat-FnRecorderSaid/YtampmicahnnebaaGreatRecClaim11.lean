/- Worlds of the reference: a tick of all, a message is brought: a world that is ok stays so. No condition. -/
import Derived.Test.YtampmicahnnebaaGreatRecClaim10
import Derived.Test.YtampmicahnnebaaGreatRecClaim6
import Derived.Test.YtampmicahnnebaaGreatRecClaim2
import Derived.Test.YtampmicahnnebaaGreatRecClaim4
import Derived.Laws.BytesArg
set_option linter.unusedVariables false
set_option linter.unusedSimpArgs false
namespace Go.Proofs.YtampmicahnnebaaGreat.Sp
open Go Go.RowKit
set_option maxRecDepth 10000
set_option maxHeartbeats 4000000
variable {w0 W : World} {L : List Asn}
theorem opn_rec {eS eM eT eI eA e c : Nat} {A : Option Addr} {xs : List Rcd} (h : Mem w0 W (own (tRec eS eM eT eI eA) e A c xs :: L)) (i : Nat) (hi : i < xs.length) : ∃ j : AtRcd,Mem w0 W (hol (tRec eS eM eT eI eA) e A c xs i (encRcd xs[i] j) :: (partRcd eS eM eT eI eA xs[i] j ++ L)):=opn_nest h i hi
theorem cls_rec {eS eM eT eI eA e c i : Nat} {A : Option Addr} {xs : List Rcd} {x : Rcd} {j : AtRcd} (h : Mem w0 W (hol (tRec eS eM eT eI eA) e A c xs i (encRcd x j) :: (partRcd eS eM eT eI eA x j ++ L))) : Mem w0 W (own (tRec eS eM eT eI eA) e A c (xs.set i x) :: L):=cls_nest h
theorem tick_c (x : Wld) (i : AtW) (hv : WP x) (HM : Mem w0 W (wldP x i ++ L)) : Calls Tryz.prog 107 #[.agg (encW x i).toArray] W fun e W'=>∃ y j,(WP y ∧ y.recs.length = x.recs.length) ∧ e = .returned (.agg (encW y j).toArray) ∧ Mem w0 W' (wldP y j ++ L):=by
  refine enter Tryz.func107 rfl Tryz.ntmps107 [(0,.agg (encW x i).toArray)] rfl ⟨rfl,trivial⟩ ?_
  unfold encW
  simp only [wldP,List.cons_append,List.nil_append] at HM
  repeat (first|refine Y ?_|(refine qg ?_;clear HM;intro g W1 HM))
  rename_i ga Wa
  obtain ⟨gz,hgz⟩ : ∃ q,q = g:=⟨_,rfl⟩
  subst hgz
  refine c_loop (σ:=Nat × Wld × AtW) (fun s=>[(1,.pointer (some ⟨ga,0,none⟩)),(2,.pointer (some ⟨gz,0,none⟩)),(3,.int .i64 s.1)]) (fun s W1=>s.1 ≤ x.recs.length ∧ (WP s.2.1 ∧ s.2.1.recs.length = x.recs.length) ∧ Mem w0 W1 (box gz 78 [.slice none 0 0,.slice none 0 0,.slice none 0 0] :: box ga 78 [.slice s.2.2.b0.1 s.2.1.recs.length s.2.2.b0.2,.slice s.2.2.b1.1 s.2.1.flight.length s.2.2.b1.2,.slice s.2.2.b2.1 s.2.1.fixed.length s.2.2.b2.2] :: own (tRec 91 40 9 3 66) 31 s.2.2.b0.1 s.2.2.b0.2 s.2.1.recs :: flt 91 40 s.2.2.b1.1 s.2.2.b1.2 s.2.1.flight :: own tFix 134 s.2.2.b2.1 s.2.2.b2.2 s.2.1.fixed :: L)) (fun s=>x.recs.length - s.1) (0,x,i) U ⟨Nat.zero_le _,⟨hv,rfl⟩,HM⟩ ?_
  clear HM hv
  rintro ⟨k,y,j⟩ W1 ⟨hk,⟨hv,hl⟩,HM⟩
  dsimp only at hk hv hl HM ⊢
  have hn5:=hv.n5
  by_cases hlt : k < y.recs.length
  rotate_left
  · repeat (first|refine Y ?_|(refine qs ?_;clear HM;intro W1 HM))
    exact ret_cell HM rfl rfl rfl ⟨y,j,⟨hv,hl⟩,rfl,by simp only [wldP,List.cons_append,List.nil_append];exact HM.sb⟩
  have HMa:=HM.pk (A:=own (tRec 91 40 9 3 66) 31 j.b0.1 j.b0.2 y.recs)
  clear HM
  obtain ⟨jr,HM⟩:=opn_rec HMa k hlt
  clear HMa
  obtain ⟨hV,hnum,hof⟩:=hv.recs k hlt
  have hvb:=validB_iff.2 hV
  obtain ⟨hT,hKp,hO⟩:=vr_recTick hvb
  have hsm:=hV.small
  have hoL:=recTickO_len hvb
  simp only [encRcd,partRcd,List.cons_append,List.nil_append] at HM
  repeat (first|refine Y ?_|(refine qs ?_;clear HM;intro W1 HM)|(refine gStore ?_;refine s_storeh HM rfl rfl rfl rfl rfl rfl ?_;clear HM;intro W1 HM;(try dsimp only at HM))|(refine qf ?_;go_at_call 6;refine (specRecTick y.recs[k] jr (by exact ro_rec1 (eS:=91) (eM:=40) (eT:=9) (eI:=3) (eA:=66) HM) hsm (Mem.start _)).mono ?_;rintro e W1 ⟨jw,Aw,cw,rfl,HM1⟩;refine ⟨_,rfl,?_⟩;replace HM:=HM.join HM1;clear HM1;simp only [partRcd,List.cons_append,List.nil_append] at HM;simp only [encRcd])|(refine qg ?_;clear HM;intro g W1 HM))
  have HM2:=cls_rec (show Mem w0 _ (hol (tRec 91 40 9 3 66) 31 j.b0.1 j.b0.2 y.recs k (encRcd (recTickL y.recs[k]) jw) :: (partRcd 91 40 9 3 66 (recTickL y.recs[k]) jw ++ (box gz 78 [.slice none 0 0,.slice none 0 0,.slice none 0 0] :: box ga 78 [.slice j.b0.1 y.recs.length j.b0.2,.slice j.b1.1 y.flight.length j.b1.2,.slice j.b2.1 y.fixed.length j.b2.2] :: own (tMsg 91) 40 Aw cw (recTickO y.recs[k]) :: flt 91 40 j.b1.1 j.b1.2 y.flight :: own tFix 134 j.b2.1 j.b2.2 y.fixed :: L))) from by simp only [encRcd,partRcd,List.cons_append,List.nil_append];exact HM.sb)
  clear HM
  have HM:=HM2
  clear HM2
  (try simp only [List.cons_append,List.nil_append] at HM)
  have hr:=wp_setK hv hlt ⟨hT,hKp⟩
  rw [hof] at hO
  replace hO : ∀ m ∈ recTickO y.recs[k],MsgP m y.recs.length:=fun m hm=>(hO m hm).1
  have hsl : (y.recs.set k (recTickL y.recs[k])).length = y.recs.length:=List.length_set ..
  generalize y.recs.set k (recTickL y.recs[k]) = rs at *
  generalize recTickO y.recs[k] = out at *
  rw [← hsl] at HM
  have HMa:=HM.pk (A:=own (tMsg 91) 40 Aw cw out)
  clear HM
  obtain ⟨zo,ezo,HM⟩:=opn_bag HMa
  clear HMa
  have HMa:=HM.pk (A:=flt 91 40 j.b1.1 j.b1.2 y.flight)
  clear HM
  obtain ⟨zf,ezf,HM⟩:=opn_flt HMa
  clear HMa
  subst ezo
  have hfl : y.flight.length = zf.length:=by rw [← ezf,List.length_map]
  rw [hfl] at HM
  rw [List.length_map] at hoL ⊢
  have hfl6:=hv.fl
  rw [hfl] at hfl6
  have hfm : ∀ z ∈ zf ++ zo,MsgP z.1 rs.length:=by
    rw [hsl]
    intro z hz
    rcases List.mem_append.1 hz with hz|hz
    · exact hv.msg _ (by rw [← ezf];exact List.mem_map_of_mem hz)
    · exact hO _ (List.mem_map_of_mem hz)
  have HM1:=HM.pk (A:=bag 91 zo)
  have HM0:=HM1.pk (A:=bag 91 zf)
  have HM2:=HM0.bag_join
  clear HM0 HM1
  clear HM
  have HM:=HM2
  clear HM2
  refine c_loop2 (σ:=Nat × List MA) (fun s A c=>[(1,.pointer (some ⟨ga,0,none⟩)),(2,.pointer (some ⟨gz,0,none⟩)),(3,.int .i64 k),(5,.slice Aw zo.length cw),(6,.int .i64 s.1)]) (fun s A c W1=>s.1 ≤ zo.length ∧ s.2.length ≤ 600 ∧ (∀ z ∈ s.2,z ∈ zf ++ zo) ∧ Mem w0 W1 (box gz 78 [.slice none 0 0,.slice none 0 0,.slice none 0 0] :: box ga 78 [.slice j.b0.1 rs.length j.b0.2,.slice A s.2.length c,.slice j.b2.1 y.fixed.length j.b2.2] :: own (tRec 91 40 9 3 66) 31 j.b0.1 j.b0.2 rs :: own tMA 40 A c s.2 :: own tMA 40 Aw cw zo :: bag 91 (zf ++ zo) :: own tFix 134 j.b2.1 j.b2.2 y.fixed :: L)) (fun s=>zo.length - s.1) (0,zf) j.b1.1 j.b1.2 U ⟨Nat.zero_le _,hfl6,fun z hz=>List.mem_append_left _ hz,HM.sb⟩ ?_
  clear HM
  rintro ⟨q,zs⟩ A c W1 ⟨hq,hzl,hzm,HM⟩
  dsimp only at hq hzl hzm HM ⊢
  by_cases h1 : q < zo.length ∧ (zs.length : Int) < 600
  · obtain ⟨h1,h2⟩:=h1
    have e0 : rd tMA zo (q : Int) = zo[q]:=rd_at h1
    repeat (first|(refine gR ?_;refine d_start [7,9] [(0,0),(0,2),(0,3),(0,4),(1,1),(1,5),(2,6),(3,7),(0,8),(3,9)] HM (by kernel_rfl) (by kernel_rfl) qq (by kernel_rfl) rfl ?_;intro HQ HS W1 HM1;replace HM:=HM1;clear HM1)|refine Y ?_|(refine qs ?_;clear HM;intro W1 HM)|(refine qa ?_;clear HM;intro A1 c1 W1 HM)|(refine qg ?_;clear HM;intro g W1 HM))
    exact n_round2 (q + 1,zs ++ [rd tMA zo (q : Int)]) A1 c1 U ⟨h1,by simp only [List.length_append,List.length_cons,List.length_nil];omega,fun z hz=>by
      rcases List.mem_append.1 hz with hz|hz
      · exact hzm z hz
      · rw [List.mem_singleton] at hz;rw [hz,e0];exact List.mem_append_right _ (List.getElem_mem h1),HM.sb⟩ (by dsimp only;omega)
  have HM1:=HM.pk (A:=bag 91 (zf ++ zo))
  have HM0:=HM1.pk (A:=own tMA 40 A c zs)
  have HM2:=cls_flt (ms:=zs.map Prod.fst) rfl hzm HM0
  clear HM0 HM1
  clear HM
  have HM:=HM2
  clear HM2
  have hml : zs.length = (zs.map Prod.fst).length:=by rw [List.length_map]
  have hzms : ∀ m ∈ zs.map Prod.fst,MsgP m rs.length:=fun m hm=>by
    obtain ⟨z,hz,rfl⟩:=List.mem_map.1 hm
    exact hfm z (hzm z hz)
  have hq2 : ¬ (q < zo.length ∧ ((zs.map Prod.fst).length : Int) < 600):=by rw [← hml];exact h1
  rw [hml] at HM hzl
  clear hml h1
  generalize zs.map Prod.fst = fl at *
  have hv1 : WP ⟨rs,fl,y.fixed⟩:=⟨hr.n1,hr.n5,hzl,hr.recs,hzms,hv.fix⟩
  have HM3 : Mem w0 W1 (wldP ⟨rs,fl,y.fixed⟩ ⟨j.b0,(A,c),j.b2⟩ ++ (box gz 78 [.slice none 0 0,.slice none 0 0,.slice none 0 0] :: box ga 78 [.slice j.b0.1 rs.length j.b0.2,.slice A fl.length c,.slice j.b2.1 y.fixed.length j.b2.2] :: L)):=by simp only [wldP,List.cons_append,List.nil_append];exact HM.sb
  clear HM
  have HM:=HM3
  clear HM3
  simp only [wldP,List.cons_append,List.nil_append] at HM
  by_cases hq3 : q < zo.length
  · have hq4 : ¬ ((fl.length : Int) < 600):=fun h=>hq2 ⟨hq3,h⟩
    repeat (first|refine Y ?_|(refine qs ?_;clear HM;intro W1 HM)|(refine qf ?_;go_at_call 117;refine (fix_c ⟨rs,fl,y.fixed⟩ ⟨j.b0,(A,c),j.b2⟩ hv1 (L:=box gz 78 [.slice none 0 0,.slice none 0 0,.slice none 0 0] :: box ga 78 [.slice j.b0.1 rs.length j.b0.2,.slice A fl.length c,.slice j.b2.1 y.fixed.length j.b2.2] :: L) (by simp only [wldP,List.cons_append,List.nil_append];exact HM.sb)).mono ?_;rintro e W1 ⟨fx,qx,hfx,rfl,HM1⟩;refine ⟨_,rfl,?_⟩;replace HM:=HM1;clear HM1;simp only [wldP,List.cons_append,List.nil_append] at HM;simp only [encW]))
    exact n_round (k + 1,⟨rs,fl,fx⟩,⟨j.b0,(A,c),qx⟩) U ⟨by dsimp only;omega,⟨wp_fixed hv1 hfx,by dsimp only;omega⟩,HM.sb⟩ (by dsimp only;omega)
  · repeat (first|refine Y ?_|(refine qs ?_;clear HM;intro W1 HM)|(refine qf ?_;go_at_call 117;refine (fix_c ⟨rs,fl,y.fixed⟩ ⟨j.b0,(A,c),j.b2⟩ hv1 (L:=box gz 78 [.slice none 0 0,.slice none 0 0,.slice none 0 0] :: box ga 78 [.slice j.b0.1 rs.length j.b0.2,.slice A fl.length c,.slice j.b2.1 y.fixed.length j.b2.2] :: L) (by simp only [wldP,List.cons_append,List.nil_append];exact HM.sb)).mono ?_;rintro e W1 ⟨fx,qx,hfx,rfl,HM1⟩;refine ⟨_,rfl,?_⟩;replace HM:=HM1;clear HM1;simp only [wldP,List.cons_append,List.nil_append] at HM;simp only [encW]))
    exact n_round (k + 1,⟨rs,fl,fx⟩,⟨j.b0,(A,c),qx⟩) U ⟨by dsimp only;omega,⟨wp_fixed hv1 hfx,by dsimp only;omega⟩,HM.sb⟩ (by dsimp only;omega)
end Go.Proofs.YtampmicahnnebaaGreat.Sp
namespace Go.Proofs.YtampmicahnnebaaGreat.Sp
open Go Go.RowKit
set_option maxRecDepth 10000
set_option maxHeartbeats 4000000
variable {w0 W : World} {L : List Asn}
theorem ro_bag {eS : Nat} {zs : List MA} {z : MA} {R : List Asn} [h0 : Pk L (bag eS zs) R] (hz : z ∈ zs) (h : Mem w0 W L) : RoRow (rSlot false) W z.2.1 z.1.slots:=by
  obtain ⟨F0,_,a0,s0⟩:=(h.perm h0.out).sep
  exact ro_slots (a0 z hz)
theorem bring_c (x : Wld) (i : AtW) (k : Nat) (hv : WP x) (hk : k < x.flight.length) (HM : Mem w0 W (wldP x i ++ L)) : Calls Tryz.prog 108 #[.agg (encW x i).toArray,.int .i64 k] W fun e W'=>∃ y j,(WP y ∧ y.recs.length = x.recs.length ∧ y.flight.length + 1 = x.flight.length) ∧ e = .returned (.agg (encW y j).toArray) ∧ Mem w0 W' (wldP y j ++ L):=by
  refine enter Tryz.func108 rfl Tryz.ntmps108 [(0,.agg (encW x i).toArray),(1,_)] rfl ⟨rfl,rfl,trivial⟩ ?_
  obtain ⟨rs,fl,fx⟩:=x
  unfold encW
  simp only [wldP,List.cons_append,List.nil_append] at HM
  have hn5:=hv.n5
  have hfl6:=hv.fl
  have hmsg:=hv.msg
  dsimp only at hk hn5 hfl6 hmsg HM ⊢
  have HMa:=HM.pk (A:=flt 91 40 i.b1.1 i.b1.2 fl)
  clear HM
  obtain ⟨zs,ezf,HM⟩:=opn_flt HMa
  clear HMa
  subst ezf
  simp only [List.length_map] at *
  have e0 : rd tMA zs (k : Int) = zs[k]:=rd_at hk
  have hM:=hmsg _ (List.mem_map_of_mem (List.getElem_mem hk))
  have hto:=hM.to
  obtain ⟨p,hp⟩ : ∃ p : Nat,zs[k].1.to = (p : Int) + 1:=⟨(zs[k].1.to - 1).toNat,by omega⟩
  have hp1 : zs[k].1.to - 1 = (p : Int):=by omega
  have hpl : p < rs.length:=by omega
  obtain ⟨hV,hnum,hof⟩:=hv.recs p hpl
  dsimp only at hV hnum hof
  have hvb:=validB_iff.2 hV
  have hT:=vr_recTake (m:=zs[k].1) hvb
  have hsm:=hV.small
  have hms:=hM.slots.1
  repeat (first|(refine gL ?_;refine s_gv HM rfl ?_;refine gv (p_loadwo rfl rfl rfl (by omega) (by omega)) ?_;simp only [encMsg,e0])|refine Y ?_|(refine qs ?_;clear HM;intro W1 HM)|(refine qf ?_;go_at_call 109;refine (out_c hk (by omega) (by exact HM.pk)).mono ?_;rintro e W1 ⟨A6,c6,rfl,HM1⟩;refine ⟨_,rfl,?_⟩;replace HM:=HM1;clear HM1)|(refine qg ?_;clear HM;intro g W1 HM))
  rename_i ga Wa gz Wb Wc Wd We
  have HMa:=HM.pk (A:=own (tRec 91 40 9 3 66) 31 i.b0.1 i.b0.2 rs)
  clear HM
  obtain ⟨jr,HM⟩:=opn_rec HMa p hpl
  clear HMa
  simp only [encRcd,partRcd,List.cons_append,List.nil_append] at HM
  repeat (first|(refine gGP ?_;refine gGB ?_;refine gp (p_sub rfl rfl (r:=(p : Int)) (by rw [hp1];exact wr (by omega) (by omega))) ?_)|(refine gN ?_;refine d_back (by exact HM.drop.drop.drop.drop.drop.drop.drop) ?_)|(refine gR ?_;refine d_start [15] [(0,0),(0,2),(0,5),(0,7),(1,1),(1,3),(0,4),(1,6),(1,8),(0,9),(0,10),(1,11),(1,12),(2,13),(0,14),(3,15)] HM (by kernel_rfl) (by kernel_rfl) qq (by kernel_rfl) rfl ?_;intro HQ HS W1 HM1;replace HM:=HM1;clear HM1)|refine Y ?_|(refine gStore ?_;refine s_storeh HM rfl rfl rfl rfl rfl rfl ?_;clear HM;intro W1 HM;(try dsimp only at HM))|(refine qf ?_;go_at_call 14;refine (specRecTake rs[p] jr zs[k].1 zs[k].2 (by exact ro_rec1 (eS:=91) (eM:=40) (eT:=9) (eI:=3) (eA:=66) HM) hsm (ro_bag (eS:=91) (List.getElem_mem hk) HM) (by omega) (Mem.start _)).mono ?_;rintro e W1 ⟨jw,rfl,HM1⟩;refine ⟨_,rfl,?_⟩;replace HM:=HM.join HM1;clear HM1;simp only [partRcd,List.cons_append,List.nil_append] at HM;simp only [encRcd]))
  have HM2:=cls_rec (show Mem w0 _ (hol (tRec 91 40 9 3 66) 31 i.b0.1 i.b0.2 rs p (encRcd (recTakeL rs[p] zs[k].1) jw) :: (partRcd 91 40 9 3 66 (recTakeL rs[p] zs[k].1) jw ++ (box gz 78 [.slice none 0 0,.slice none 0 0,.slice none 0 0] :: box ga 78 [.slice i.b0.1 rs.length i.b0.2,.slice (A6,c6).1 (zs.take k ++ zs.drop (k + 1)).length (A6,c6).2,.slice i.b2.1 fx.length i.b2.2] :: own tMA 40 A6 c6 (zs.take k ++ zs.drop (k + 1)) :: bag 91 zs :: own tFix 134 i.b2.1 i.b2.2 fx :: L))) from by simp only [encRcd,partRcd,List.cons_append,List.nil_append];exact HM.sb)
  clear HM
  have HM:=HM2
  clear HM2
  have hr:=wp_setK (r:=recTakeL rs[p] zs[k].1) hv hpl hT
  have hsl : rs.length = (rs.set p (recTakeL rs[p] zs[k].1)).length:=(List.length_set ..).symm
  generalize rs.set p (recTakeL rs[p] zs[k].1) = rs2 at *
  rw [hsl] at HM ⊢
  have hsub : ∀ z ∈ zs.take k ++ zs.drop (k + 1),z ∈ zs:=fun z hz=>(List.mem_append.1 hz).elim (fun h=>List.mem_of_mem_take h) (fun h=>List.mem_of_mem_drop h)
  have hdl : (zs.take k ++ zs.drop (k + 1)).length + 1 = zs.length:=by simp only [List.length_append,List.length_take,List.length_drop];omega
  have HM1:=HM.pk (A:=bag 91 zs)
  have HM0:=HM1.pk (A:=own tMA 40 A6 c6 (zs.take k ++ zs.drop (k + 1)))
  have HM2:=cls_flt (ms:=(zs.take k ++ zs.drop (k + 1)).map Prod.fst) rfl hsub HM0
  clear HM0 HM1 HM
  have HM:=HM2
  clear HM2
  have hml : (zs.take k ++ zs.drop (k + 1)).length = ((zs.take k ++ zs.drop (k + 1)).map Prod.fst).length:=(List.length_map ..).symm
  rw [hml] at HM hdl ⊢
  obtain ⟨fl2,hfl2⟩ : ∃ q,q = (zs.take k ++ zs.drop (k + 1)).map Prod.fst:=⟨_,rfl⟩
  rw [← hfl2] at HM hdl ⊢
  clear hml
  have hv1 : WP ⟨rs2,fl2,fx⟩:=⟨hr.n1,hr.n5,by dsimp only;omega,hr.recs,fun m hm=>by
    obtain ⟨z,hz,rfl⟩:=List.mem_map.1 (hfl2 ▸ hm)
    rw [show (⟨rs2,fl2,fx⟩ : Wld).recs.length = rs.length from hsl.symm]
    exact hmsg _ (List.mem_map_of_mem (hsub z hz)),hr.fix⟩
  repeat (first|(refine qs ?_;clear HM;intro W1 HM)|(refine qf ?_;go_at_call 117;refine (fix_c ⟨rs2,fl2,fx⟩ ⟨i.b0,(A6,c6),i.b2⟩ hv1 (L:=box gz 78 [.slice none 0 0,.slice none 0 0,.slice none 0 0] :: box ga 78 [.slice i.b0.1 rs2.length i.b0.2,.slice (A6,c6).1 fl2.length (A6,c6).2,.slice i.b2.1 fx.length i.b2.2] :: L) (by simp only [wldP,List.cons_append,List.nil_append];exact HM.sb)).mono ?_;rintro e W1 ⟨fx2,qx,hfx,rfl,HM1⟩;refine ⟨_,rfl,?_⟩;replace HM:=HM1;clear HM1;simp only [wldP,List.cons_append,List.nil_append] at HM;simp only [encW])|refine Y ?_)
  exact ret_cell HM rfl rfl rfl ⟨⟨rs2,fl2,fx2⟩,⟨i.b0,(A6,c6),qx⟩,⟨wp_fixed hv1 hfx,rfl,hdl⟩,rfl,by simp only [wldP,List.cons_append,List.nil_append];exact HM.sb⟩
end Go.Proofs.YtampmicahnnebaaGreat.Sp
namespace Go.Proofs.YtampmicahnnebaaGreat.Sp
open Go Go.RowKit
set_option maxRecDepth 10000
set_option maxHeartbeats 1000000
variable {w0 W : World} {L : List Asn}
theorem wishM (x : Rcd) (i : AtRcd) (g : Nat) (t : ByteArray) (hv : validB x = true) (hn : SmallR x) (ht : t.size ≤ 1048576) (HM : Mem w0 W (boxR 91 40 9 3 66 31 g x i ++ L)) : Calls Tryz.prog 60 #[.pointer (some ⟨g,0,none⟩),.string t] W fun e W'=>∃ j,e = .returned (.tuple #[]) ∧ Mem w0 W' (boxR 91 40 9 3 66 31 g (wish1 x t) j ++ L):=by
  refine enter Tryz.func60 rfl Tryz.ntmps60 [(0,_),(1,_)] rfl ⟨rfl,rfl,trivial⟩ ?_
  obtain ⟨⟨hk0,hk1⟩,hd⟩:=disk_of_valid2 hv
  have hw:=hn.wishes
  simp only [boxR,partRcd,List.cons_append,List.nil_append] at HM
  have hcd : x.ds.length ≤ i.a1.2:=by obtain ⟨F1,hF1⟩:=HM.own (A:=i.a1.1);exact (own_max hF1).2
  by_cases c1 : 1 ≤ (t.size : Int) ∧ (t.size : Int) ≤ 100
  rotate_left
  · have e : wish1 x t = x:=if_neg (by simp only [wishOk,Bool.and_eq_true,decide_eq_true_eq];omega)
    repeat (first|refine Y ?_|(refine qf ?_;go_at_call 47;refine (within_c _ _ _ _).mono ?_;rintro e W1 ⟨rfl,rfl⟩;refine ⟨_,rfl,?_⟩))
    rw [e]
    exact end_none rfl ⟨i,rfl,by simp only [boxR,partRcd,List.cons_append,List.nil_append];exact HM.sb⟩
  by_cases c2 : newB x.wishes x.wishes.length t = true
  rotate_left
  · have e : wish1 x t = x:=if_neg (by simp [wishOk,c2])
    simp only [Bool.not_eq_true] at c2
    repeat (first|refine Y ?_|(refine qf ?_;first|(go_at_call 47;refine (within_c _ _ _ _).mono ?_;rintro e W1 ⟨rfl,rfl⟩;refine ⟨_,rfl,?_⟩)|(go_at_call 51;obtain ⟨F1,hF1⟩:=HM.own (A:=i.a3.1);refine (has_c rfl t (ro_strs hF1) (Mem.start _)).mono ?_;clear hF1;rintro e W1 ⟨rfl,HM1⟩;refine ⟨_,rfl,?_⟩;have HM2:=HM.step HM1.below;clear HM HM1;have HM:=HM2;clear HM2)))
    rw [e]
    exact end_none rfl ⟨i,rfl,by simp only [boxR,partRcd,List.cons_append,List.nil_append];exact HM.sb⟩
  by_cases c3 : (x.wishes.length : Int) < 20
  rotate_left
  · have e : wish1 x t = x:=if_neg (by simp only [wishOk,Bool.and_eq_true,decide_eq_true_eq];omega)
    repeat (first|refine Y ?_|(refine qf ?_;first|(go_at_call 47;refine (within_c _ _ _ _).mono ?_;rintro e W1 ⟨rfl,rfl⟩;refine ⟨_,rfl,?_⟩)|(go_at_call 51;obtain ⟨F1,hF1⟩:=HM.own (A:=i.a3.1);refine (has_c rfl t (ro_strs hF1) (Mem.start _)).mono ?_;clear hF1;rintro e W1 ⟨rfl,HM1⟩;refine ⟨_,rfl,?_⟩;have HM2:=HM.step HM1.below;clear HM HM1;have HM:=HM2;clear HM2)))
    rw [e]
    exact end_none rfl ⟨i,rfl,by simp only [boxR,partRcd,List.cons_append,List.nil_append];exact HM.sb⟩
  by_cases c4 : knownB (x.ds.take x.dk.toNat) t = true
  · have e : wish1 x t = x:=if_neg (by simp [wishOk,c4])
    repeat (first|refine Y ?_|(refine qf ?_;first|(go_at_call 47;refine (within_c _ _ _ _).mono ?_;rintro e W1 ⟨rfl,rfl⟩;refine ⟨_,rfl,?_⟩)|(go_at_call 51;obtain ⟨F1,hF1⟩:=HM.own (A:=i.a3.1);refine (has_c rfl t (ro_strs hF1) (Mem.start _)).mono ?_;clear hF1;rintro e W1 ⟨rfl,HM1⟩;refine ⟨_,rfl,?_⟩;have HM2:=HM.step HM1.below;clear HM HM1;have HM:=HM2;clear HM2)|(go_at_call 67;obtain ⟨F1,hF1⟩:=HM.own (A:=i.a1.1);refine (knownM x i _ t hk0 hk1 hcd (ro_slots hF1) HM.heap (Mem.start _)).mono ?_;clear hF1;rintro e W1 ⟨rfl,HM1⟩;refine ⟨_,rfl,?_⟩;have HM2:=HM.step HM1.below;clear HM HM1;have HM:=HM2;clear HM2)))
    rw [e]
    exact end_none rfl ⟨i,rfl,by simp only [boxR,partRcd,List.cons_append,List.nil_append];exact HM.sb⟩
  have e : wish1 x t = { x with wishes:=x.wishes ++ [t] }:=if_pos (by simp only [wishOk,c2,Bool.and_eq_true,decide_eq_true_eq,Bool.not_eq_true'];simp only [Bool.not_eq_true] at c4;exact ⟨⟨⟨c1,trivial⟩,c3⟩,c4⟩)
  simp only [Bool.not_eq_true] at c4
  repeat (first|refine Y ?_|(refine qs ?_;clear HM;intro W1 HM)|(refine qf ?_;first|(go_at_call 47;refine (within_c _ _ _ _).mono ?_;rintro e W1 ⟨rfl,rfl⟩;refine ⟨_,rfl,?_⟩)|(go_at_call 51;obtain ⟨F1,hF1⟩:=HM.own (A:=i.a3.1);refine (has_c rfl t (ro_strs hF1) (Mem.start _)).mono ?_;clear hF1;rintro e W1 ⟨rfl,HM1⟩;refine ⟨_,rfl,?_⟩;have HM2:=HM.step HM1.below;clear HM HM1;have HM:=HM2;clear HM2)|(go_at_call 67;obtain ⟨F1,hF1⟩:=HM.own (A:=i.a1.1);refine (knownM x i _ t hk0 hk1 hcd (ro_slots hF1) HM.heap (Mem.start _)).mono ?_;clear hF1;rintro e W1 ⟨rfl,HM1⟩;refine ⟨_,rfl,?_⟩;have HM2:=HM.step HM1.below;clear HM HM1;have HM:=HM2;clear HM2))|(refine qa ?_;clear HM;intro A1 c1 W1 HM)|(refine qg ?_;clear HM;intro g W1 HM))
  rw [e]
  exact end_none rfl ⟨⟨i.a0,i.a1,i.a2,(A1,c1),i.a4,i.a5,i.a6⟩,rfl,by simp only [boxR,partRcd,List.cons_append,List.nil_append];exact HM.sb⟩
end Go.Proofs.YtampmicahnnebaaGreat.Sp
namespace Go.Proofs.YtampmicahnnebaaGreat.Sp
open Go Go.RowKit
set_option maxRecDepth 10000
set_option maxHeartbeats 1000000
variable {w0 W : World} {L : List Asn}
theorem specRecWish (x : Rcd) (i : AtRcd) (t : ByteArray) (h : RoRcd false w0 x i) (hn : SmallR x) (ht : t.size ≤ 1048576) (HM : Mem w0 W L) : Calls Tryz.prog 17 #[.agg (encRcd x i).toArray,.string t] W fun e W'=>∃ j,e = .returned (.agg (encRcd (wishL x t) j).toArray) ∧ Mem w0 W' (partRcd 91 40 9 3 66 (wishL x t) j ++ L):=by
  refine enter Tryz.func17 rfl Tryz.ntmps17 [(0,.agg (encRcd x i).toArray),(1,_)] rfl ⟨rfl,rfl,trivial⟩ ?_
  have h0:=h
  unfold encRcd
  by_cases hv : validB x = true
  rotate_left
  · simp only [Bool.not_eq_true] at hv
    repeat (first|refine Y ?_|(refine qs ?_;clear HM;intro W1 HM)|(refine qf ?_;go_at_call 9;refine (specValid x i h0 hn HM).mono ?_;rintro e W1 ⟨rfl,HM1⟩;refine ⟨_,rfl,?_⟩;replace HM:=HM1;clear HM1)|(refine qg ?_;clear HM;intro g W1 HM))
    have HM2:=HM.zeroR 91 40 9 3 66
    simp only [partRcd,zeroR,atZ,List.cons_append,List.nil_append] at HM2
    have e : wishL x t = zeroR:=by simp [wishL,hv]
    rw [e]
    exact ret_cell HM2 rfl rfl rfl ⟨atZ,rfl,by simp only [partRcd,zeroR,atZ,List.cons_append,List.nil_append];exact HM2.sb⟩
  by_cases hu : x.up = true
  rotate_left
  · simp only [Bool.not_eq_true] at hu
    repeat (first|refine Y ?_|(refine qs ?_;clear HM;intro W1 HM)|(refine qf ?_;first|(go_at_call 9;refine (specValid x i h0 hn HM).mono ?_;rintro e W1 ⟨rfl,HM1⟩;refine ⟨_,rfl,?_⟩;replace HM:=HM1;clear HM1)|(go_at_call 24;refine (l2Copy_c x _ h0 hn HM).mono ?_;rintro e W1 ⟨j,rfl,HM1⟩;refine ⟨_,rfl,?_⟩;replace HM:=HM1;clear HM1;simp only [partRcd,List.cons_append,List.nil_append] at HM;simp only [encRcd]))|(refine qg ?_;clear HM;intro g W1 HM))
    have e : wishL x t = x:=by simp [wishL,hv,hu]
    rw [e]
    exact ret_cell HM rfl rfl rfl ⟨⟨(_,_),(_,_),(_,_),(_,_),(_,_),(_,_),(_,_)⟩,rfl,by simp only [partRcd,List.cons_append,List.nil_append];exact HM.sb⟩
  have hn1:=small_wish1 x t hn
  repeat (first|refine Y ?_|(refine qf ?_;first|(go_at_call 9;refine (specValid x i h0 hn HM).mono ?_;rintro e W1 ⟨rfl,HM1⟩;refine ⟨_,rfl,?_⟩;replace HM:=HM1;clear HM1)|(go_at_call 24;(with_reducible refine (l2Copy_l x _ h0 hn HM).mono ?_);rintro e W1 ⟨j,rfl,HM1⟩;refine ⟨_,rfl,?_⟩;replace HM:=HM1;clear HM1;simp only [encRcd])|(go_at_call 61;refine (l3Wish_c x j t hv hn ht HM).mono ?_;rintro e W1 ⟨j2,rfl,HM1⟩;refine ⟨_,rfl,?_⟩;replace HM:=HM1;clear HM1))|(refine qg ?_;clear HM;intro g W1 HM))
  have hro:=ro_parts HM
  repeat (first|(refine qs ?_;clear HM;intro W1 HM)|(refine qf ?_;go_at_call 24;refine (l2Copy_c (wish1 x t) _ hro hn1 (Mem.start _)).mono ?_;rintro e W1 ⟨j3,rfl,HM1⟩;refine ⟨_,rfl,?_⟩;replace HM:=HM.join HM1;clear HM1;simp only [partRcd,List.cons_append,List.nil_append] at HM;simp only [encRcd])|refine Y ?_)
  have e : wishL x t = wish1 x t:=by simp [wishL,hv,hu]
  rw [e]
  exact ret_cell HM rfl rfl rfl ⟨⟨(_,_),(_,_),(_,_),(_,_),(_,_),(_,_),(_,_)⟩,rfl,by simp only [partRcd,List.cons_append,List.nil_append];exact HM.sb⟩
theorem implRecWish (x : Rcd) (i : AtRcd) (t : ByteArray) (h : RoRcd false w0 x i) (hc : x.ds.length ≤ i.a1.2 ∧ x.wishes.length ≤ i.a3.2) (hn : SmallR x) (ht : t.size ≤ 1048576) (HM : Mem w0 W L) : Calls Tryz.prog 16 #[.agg (encRcd x i).toArray,.string t] W fun e W'=>∃ j,e = .returned (.agg (encRcd (wishL x t) j).toArray) ∧ Mem w0 W' (partRcd 91 40 9 3 66 (wishL x t) j ++ L):=by
  refine enter Tryz.func16 rfl Tryz.ntmps16 [(0,.agg (encRcd x i).toArray),(1,_)] rfl ⟨rfl,rfl,trivial⟩ ?_
  have h0:=h
  have hw:=hc.2
  unfold encRcd
  by_cases hv : validB x = true
  rotate_left
  · simp only [Bool.not_eq_true] at hv
    repeat (first|refine Y ?_|(refine qs ?_;clear HM;intro W1 HM)|(refine qf ?_;go_at_call 10;refine (implValid x i h0 hw hn HM).mono ?_;rintro e W1 ⟨rfl,HM1⟩;refine ⟨_,rfl,?_⟩;replace HM:=HM1;clear HM1)|(refine qg ?_;clear HM;intro g W1 HM))
    have HM2:=HM.zeroR 91 40 9 3 66
    simp only [partRcd,zeroR,atZ,List.cons_append,List.nil_append] at HM2
    have e : wishL x t = zeroR:=by simp [wishL,hv]
    rw [e]
    exact ret_cell HM2 rfl rfl rfl ⟨atZ,rfl,by simp only [partRcd,zeroR,atZ,List.cons_append,List.nil_append];exact HM2.sb⟩
  by_cases hu : x.up = true
  rotate_left
  · simp only [Bool.not_eq_true] at hu
    repeat (first|refine Y ?_|(refine qs ?_;clear HM;intro W1 HM)|(refine qf ?_;first|(go_at_call 10;refine (implValid x i h0 hw hn HM).mono ?_;rintro e W1 ⟨rfl,HM1⟩;refine ⟨_,rfl,?_⟩;replace HM:=HM1;clear HM1)|(go_at_call 21;refine (clone_c x _ h0 hn HM).mono ?_;rintro e W1 ⟨j,rfl,HM1⟩;refine ⟨_,rfl,?_⟩;replace HM:=HM1;clear HM1;simp only [partRcd,List.cons_append,List.nil_append] at HM;simp only [encRcd]))|(refine qg ?_;clear HM;intro g W1 HM))
    have e : wishL x t = x:=by simp [wishL,hv,hu]
    rw [e]
    exact ret_cell HM rfl rfl rfl ⟨⟨(_,_),(_,_),(_,_),(_,_),(_,_),(_,_),(_,_)⟩,rfl,by simp only [partRcd,List.cons_append,List.nil_append];exact HM.sb⟩
  repeat (first|refine Y ?_|(refine qs ?_;clear HM;intro W1 HM)|(refine qf ?_;first|(go_at_call 10;refine (implValid x i h0 hw hn HM).mono ?_;rintro e W1 ⟨rfl,HM1⟩;refine ⟨_,rfl,?_⟩;replace HM:=HM1;clear HM1)|(go_at_call 21;refine (clone_c x _ h0 hn HM).mono ?_;rintro e W1 ⟨j,rfl,HM1⟩;refine ⟨_,rfl,?_⟩;replace HM:=HM1;clear HM1;simp only [partRcd,List.cons_append,List.nil_append] at HM;simp only [encRcd])|(go_at_call 60;refine (wishM x j _ t hv hn ht (by exact pk_boxr HM)).mono ?_;rintro e W1 ⟨j2,rfl,HM1⟩;refine ⟨_,rfl,?_⟩;replace HM:=HM1;clear HM1;simp only [boxR,partRcd,List.cons_append,List.nil_append] at HM))|(refine qg ?_;clear HM;intro g W1 HM))
  have e : wishL x t = wish1 x t:=by simp [wishL,hv,hu]
  rw [e]
  exact ret_cell HM rfl rfl rfl ⟨⟨(_,_),(_,_),(_,_),(_,_),(_,_),(_,_),(_,_)⟩,rfl,by simp only [partRcd,List.cons_append,List.nil_append];exact HM.sb⟩
end Go.Proofs.YtampmicahnnebaaGreat.Sp
namespace Go.Proofs.YtampmicahnnebaaGreat.Sp
open Go Go.RowKit
set_option maxRecDepth 10000
set_option maxHeartbeats 4000000
variable {w0 W : World} {L : List Asn}
theorem pk_wld (x : Wld) (i : AtW) {R0 R1 R2 : List Asn} [h0 : Pk L (own (tRec 91 40 9 3 66) 31 i.b0.1 i.b0.2 x.recs) R0] [h1 : Pk R0 (flt 91 40 i.b1.1 i.b1.2 x.flight) R1] [h2 : Pk R1 (own tFix 134 i.b2.1 i.b2.2 x.fixed) R2] (h : Mem w0 W L) : Mem w0 W (wldP x i ++ R2):=h.perm (h0.out.trans (List.Perm.cons _ (h1.out.trans (List.Perm.cons _ h2.out))))
theorem do_tick (x : Wld) (i : AtW) (kd a : Int) (t : ByteArray) (hv : WP x) (ht : t.size ≤ 1048576) (hk : kd = 1) (HM : Mem w0 W (wldP x i ++ L)) : Calls Tryz.prog 86 #[.agg (encW x i).toArray,.agg #[.int .i64 kd,.int .i64 a,.string t]] W fun e W'=>∃ y j,(WP y ∧ y.recs.length = x.recs.length) ∧ e = .returned (.agg (encW y j).toArray) ∧ Mem w0 W' (wldP y j ++ L):=by
  refine enter Tryz.func86 rfl Tryz.ntmps86 [(0,.agg (encW x i).toArray),(1,.agg #[.int .i64 kd,.int .i64 a,.string t])] rfl ⟨rfl,rfl,trivial⟩ ?_
  obtain ⟨rs,fl,fx⟩:=x
  unfold encW
  simp only [wldP,List.cons_append,List.nil_append] at HM
  have hn5:=hv.n5
  have hfl6:=hv.fl
  have hmsg:=hv.msg
  dsimp only at *
  subst hk
  repeat (first|refine Y ?_|(refine qs ?_;clear HM;intro W1 HM)|(refine qf ?_;first|(go_at_call 39;refine (l1In_c _ _ _ _).mono ?_;rintro e W1 ⟨rfl,rfl⟩;refine ⟨_,rfl,?_⟩)|(go_at_call 107;refine (tick_c ⟨rs,fl,fx⟩ i hv (pk_wld ⟨rs,fl,fx⟩ i HM)).mono ?_;rintro e W1 ⟨y,j,hy,rfl,HM1⟩;refine ⟨_,rfl,?_⟩;replace HM:=HM1;clear HM1;simp only [wldP,List.cons_append,List.nil_append] at HM;simp only [encW]))|(refine qg ?_;clear HM;intro g W1 HM))
  exact ret_cell HM rfl rfl rfl ⟨y,j,hy,rfl,by simp only [wldP,List.cons_append,List.nil_append];exact HM.sb⟩
theorem do_bring (x : Wld) (i : AtW) (kd a : Int) (t : ByteArray) (hv : WP x) (ht : t.size ≤ 1048576) (hk : kd = 2) (hf : 0 ≤ a ∧ a < x.flight.length) (HM : Mem w0 W (wldP x i ++ L)) : Calls Tryz.prog 86 #[.agg (encW x i).toArray,.agg #[.int .i64 kd,.int .i64 a,.string t]] W fun e W'=>∃ y j,(WP y ∧ y.recs.length = x.recs.length) ∧ e = .returned (.agg (encW y j).toArray) ∧ Mem w0 W' (wldP y j ++ L):=by
  refine enter Tryz.func86 rfl Tryz.ntmps86 [(0,.agg (encW x i).toArray),(1,.agg #[.int .i64 kd,.int .i64 a,.string t])] rfl ⟨rfl,rfl,trivial⟩ ?_
  obtain ⟨rs,fl,fx⟩:=x
  unfold encW
  simp only [wldP,List.cons_append,List.nil_append] at HM
  have hn5:=hv.n5
  have hfl6:=hv.fl
  have hmsg:=hv.msg
  dsimp only at *
  subst hk
  obtain ⟨k,rfl⟩ : ∃ k : Nat,a = k:=⟨a.toNat,by omega⟩
  repeat (first|refine Y ?_|(refine qs ?_;clear HM;intro W1 HM)|(refine qf ?_;first|(go_at_call 39;refine (l1In_c _ _ _ _).mono ?_;rintro e W1 ⟨rfl,rfl⟩;refine ⟨_,rfl,?_⟩)|(go_at_call 108;refine (bring_c ⟨rs,fl,fx⟩ i k hv (by dsimp only;omega) (pk_wld ⟨rs,fl,fx⟩ i HM)).mono ?_;rintro e W1 ⟨y,j,hy,rfl,HM1⟩;refine ⟨_,rfl,?_⟩;replace HM:=HM1;clear HM1;simp only [wldP,List.cons_append,List.nil_append] at HM;simp only [encW]))|(refine qg ?_;clear HM;intro g W1 HM))
  exact ret_cell HM rfl rfl rfl ⟨y,j,⟨hy.1,hy.2.1⟩,rfl,by simp only [wldP,List.cons_append,List.nil_append];exact HM.sb⟩
theorem do_double (x : Wld) (i : AtW) (kd a : Int) (t : ByteArray) (hv : WP x) (ht : t.size ≤ 1048576) (hk : kd = 3) (hf : 0 ≤ a ∧ a < x.flight.length) (HM : Mem w0 W (wldP x i ++ L)) : Calls Tryz.prog 86 #[.agg (encW x i).toArray,.agg #[.int .i64 kd,.int .i64 a,.string t]] W fun e W'=>∃ y j,(WP y ∧ y.recs.length = x.recs.length) ∧ e = .returned (.agg (encW y j).toArray) ∧ Mem w0 W' (wldP y j ++ L):=by
  refine enter Tryz.func86 rfl Tryz.ntmps86 [(0,.agg (encW x i).toArray),(1,.agg #[.int .i64 kd,.int .i64 a,.string t])] rfl ⟨rfl,rfl,trivial⟩ ?_
  obtain ⟨rs,fl,fx⟩:=x
  unfold encW
  simp only [wldP,List.cons_append,List.nil_append] at HM
  have hn5:=hv.n5
  have hfl6:=hv.fl
  have hmsg:=hv.msg
  dsimp only at *
  subst hk
  obtain ⟨k,rfl⟩ : ∃ k : Nat,a = k:=⟨a.toNat,by omega⟩
  by_cases h6 : (fl.length : Int) < 600
  rotate_left
  · repeat (first|refine Y ?_|(refine qs ?_;clear HM;intro W1 HM)|(refine qf ?_;go_at_call 39;refine (l1In_c _ _ _ _).mono ?_;rintro e W1 ⟨rfl,rfl⟩;refine ⟨_,rfl,?_⟩)|(refine qg ?_;clear HM;intro g W1 HM))
    exact ret_cell HM rfl rfl rfl ⟨⟨rs,fl,fx⟩,i,⟨hv,rfl⟩,rfl,by simp only [wldP,List.cons_append,List.nil_append];exact HM.sb⟩
  have HMa:=HM.pk (A:=flt 91 40 i.b1.1 i.b1.2 fl)
  clear HM
  obtain ⟨zs,ezf,HM⟩:=opn_flt HMa
  clear HMa
  subst ezf
  simp only [List.length_map] at *
  have hkl : k < zs.length:=by omega
  have e0 : rd tMA zs (k : Int) = zs[k]:=rd_at hkl
  repeat (first|(refine gR ?_;refine d_start [9,11] [(0,0),(0,2),(0,4),(1,1),(1,3),(1,5),(0,6),(1,7),(2,8),(3,9),(0,10),(3,11)] HM (by kernel_rfl) (by kernel_rfl) qq (by kernel_rfl) rfl ?_;intro HQ HS W1 HM1;replace HM:=HM1;clear HM1)|refine Y ?_|(refine qs ?_;clear HM;intro W1 HM)|(refine qf ?_;go_at_call 39;refine (l1In_c _ _ _ _).mono ?_;rintro e W1 ⟨rfl,rfl⟩;refine ⟨_,rfl,?_⟩)|(refine qa ?_;clear HM;intro A1 c1 W1 HM)|(refine qg ?_;clear HM;intro g W1 HM))
  have hsub : ∀ z ∈ zs ++ [rd tMA zs (k : Int)],z ∈ zs:=fun z hz=>by
    rcases List.mem_append.1 hz with hz|hz
    · exact hz
    · rw [List.mem_singleton] at hz;rw [hz,e0];exact List.getElem_mem hkl
  have hdl : (zs ++ [rd tMA zs (k : Int)]).length = zs.length + 1:=by simp
  have HM1:=HM.pk (A:=bag 91 zs)
  have HM0:=HM1.pk (A:=own tMA 40 A1 c1 (zs ++ [rd tMA zs (k : Int)]))
  have HM2:=cls_flt (ms:=(zs ++ [rd tMA zs (k : Int)]).map Prod.fst) rfl hsub HM0
  clear HM0 HM1 HM
  have HM:=HM2
  clear HM2
  have hml : (zs ++ [rd tMA zs (k : Int)]).length = ((zs ++ [rd tMA zs (k : Int)]).map Prod.fst).length:=(List.length_map ..).symm
  rw [hml] at HM hdl ⊢
  obtain ⟨fl2,hfl2⟩ : ∃ q,q = (zs ++ [rd tMA zs (k : Int)]).map Prod.fst:=⟨_,rfl⟩
  rw [← hfl2] at HM hdl ⊢
  clear hml
  have hv1 : WP ⟨rs,fl2,fx⟩:=⟨hv.n1,hv.n5,by dsimp only;omega,hv.recs,fun m hm=>by
    obtain ⟨z,hz,rfl⟩:=List.mem_map.1 (hfl2 ▸ hm)
    exact hmsg _ (List.mem_map_of_mem (hsub z hz)),hv.fix⟩
  exact ret_cell HM rfl rfl rfl ⟨⟨rs,fl2,fx⟩,⟨i.b0,(A1,c1),i.b2⟩,⟨hv1,rfl⟩,rfl,by simp only [wldP,List.cons_append,List.nil_append];exact HM.sb⟩
theorem do_lose (x : Wld) (i : AtW) (kd a : Int) (t : ByteArray) (hv : WP x) (ht : t.size ≤ 1048576) (hk : kd = 4) (hf : 0 ≤ a ∧ a < x.flight.length) (HM : Mem w0 W (wldP x i ++ L)) : Calls Tryz.prog 86 #[.agg (encW x i).toArray,.agg #[.int .i64 kd,.int .i64 a,.string t]] W fun e W'=>∃ y j,(WP y ∧ y.recs.length = x.recs.length) ∧ e = .returned (.agg (encW y j).toArray) ∧ Mem w0 W' (wldP y j ++ L):=by
  refine enter Tryz.func86 rfl Tryz.ntmps86 [(0,.agg (encW x i).toArray),(1,.agg #[.int .i64 kd,.int .i64 a,.string t])] rfl ⟨rfl,rfl,trivial⟩ ?_
  obtain ⟨rs,fl,fx⟩:=x
  unfold encW
  simp only [wldP,List.cons_append,List.nil_append] at HM
  have hn5:=hv.n5
  have hfl6:=hv.fl
  have hmsg:=hv.msg
  dsimp only at *
  subst hk
  obtain ⟨k,rfl⟩ : ∃ k : Nat,a = k:=⟨a.toNat,by omega⟩
  have HMa:=HM.pk (A:=flt 91 40 i.b1.1 i.b1.2 fl)
  clear HM
  obtain ⟨zs,ezf,HM⟩:=opn_flt HMa
  clear HMa
  subst ezf
  simp only [List.length_map] at *
  have hkl : k < zs.length:=by omega
  repeat (first|refine Y ?_|(refine qs ?_;clear HM;intro W1 HM)|(refine qf ?_;first|(go_at_call 39;refine (l1In_c _ _ _ _).mono ?_;rintro e W1 ⟨rfl,rfl⟩;refine ⟨_,rfl,?_⟩)|(go_at_call 109;refine (out_c hkl (by omega) (by exact HM.pk)).mono ?_;rintro e W1 ⟨A6,c6,rfl,HM1⟩;refine ⟨_,rfl,?_⟩;replace HM:=HM1;clear HM1))|(refine qg ?_;clear HM;intro g W1 HM))
  have hsub : ∀ z ∈ zs.take k ++ zs.drop (k + 1),z ∈ zs:=fun z hz=>(List.mem_append.1 hz).elim (fun h=>List.mem_of_mem_take h) (fun h=>List.mem_of_mem_drop h)
  have hdl : (zs.take k ++ zs.drop (k + 1)).length + 1 = zs.length:=by simp only [List.length_append,List.length_take,List.length_drop];omega
  have HM1:=HM.pk (A:=bag 91 zs)
  have HM0:=HM1.pk (A:=own tMA 40 A6 c6 (zs.take k ++ zs.drop (k + 1)))
  have HM2:=cls_flt (ms:=(zs.take k ++ zs.drop (k + 1)).map Prod.fst) rfl hsub HM0
  clear HM0 HM1 HM
  have HM:=HM2
  clear HM2
  have hml : (zs.take k ++ zs.drop (k + 1)).length = ((zs.take k ++ zs.drop (k + 1)).map Prod.fst).length:=(List.length_map ..).symm
  rw [hml] at HM hdl ⊢
  obtain ⟨fl2,hfl2⟩ : ∃ q,q = (zs.take k ++ zs.drop (k + 1)).map Prod.fst:=⟨_,rfl⟩
  rw [← hfl2] at HM hdl ⊢
  clear hml
  have hv1 : WP ⟨rs,fl2,fx⟩:=⟨hv.n1,hv.n5,by dsimp only;omega,hv.recs,fun m hm=>by
    obtain ⟨z,hz,rfl⟩:=List.mem_map.1 (hfl2 ▸ hm)
    exact hmsg _ (List.mem_map_of_mem (hsub z hz)),hv.fix⟩
  exact ret_cell HM rfl rfl rfl ⟨⟨rs,fl2,fx⟩,⟨i.b0,(A6,c6),i.b2⟩,⟨hv1,rfl⟩,rfl,by simp only [wldP,List.cons_append,List.nil_append];exact HM.sb⟩
theorem do_fall (x : Wld) (i : AtW) (kd a : Int) (t : ByteArray) (hv : WP x) (ht : t.size ≤ 1048576) (hk : kd = 5) (hf : 0 ≤ a ∧ a < x.recs.length) (HM : Mem w0 W (wldP x i ++ L)) : Calls Tryz.prog 86 #[.agg (encW x i).toArray,.agg #[.int .i64 kd,.int .i64 a,.string t]] W fun e W'=>∃ y j,(WP y ∧ y.recs.length = x.recs.length) ∧ e = .returned (.agg (encW y j).toArray) ∧ Mem w0 W' (wldP y j ++ L):=by
  refine enter Tryz.func86 rfl Tryz.ntmps86 [(0,.agg (encW x i).toArray),(1,.agg #[.int .i64 kd,.int .i64 a,.string t])] rfl ⟨rfl,rfl,trivial⟩ ?_
  obtain ⟨rs,fl,fx⟩:=x
  unfold encW
  simp only [wldP,List.cons_append,List.nil_append] at HM
  have hn5:=hv.n5
  have hfl6:=hv.fl
  have hmsg:=hv.msg
  dsimp only at *
  subst hk
  obtain ⟨p,rfl⟩ : ∃ p : Nat,a = p:=⟨a.toNat,by omega⟩
  have hpl : p < rs.length:=by omega
  obtain ⟨hV,hnum,hof⟩:=hv.recs p hpl
  dsimp only at hV hnum hof
  have hT:=vr_fall hV
  have hsm:=hV.small
  have HMa:=HM.pk (A:=own (tRec 91 40 9 3 66) 31 i.b0.1 i.b0.2 rs)
  clear HM
  obtain ⟨jr,HM⟩:=opn_rec HMa p hpl
  clear HMa
  simp only [encRcd,partRcd,List.cons_append,List.nil_append] at HM
  repeat (first|(refine gN ?_;refine d_back (by exact HM.drop.drop.drop.drop.drop.drop.drop) ?_)|(refine gR ?_;refine d_start [12] [(0,0),(0,2),(0,4),(0,6),(1,1),(1,3),(1,5),(1,7),(0,8),(1,9),(2,10),(0,11),(3,12)] HM (by kernel_rfl) (by kernel_rfl) qq (by kernel_rfl) rfl ?_;intro HQ HS W1 HM1;replace HM:=HM1;clear HM1)|refine Y ?_|(refine qs ?_;clear HM;intro W1 HM)|(refine gStore ?_;refine s_storeh HM rfl rfl rfl rfl rfl rfl ?_;clear HM;intro W1 HM;(try dsimp only at HM))|(refine qf ?_;first|(go_at_call 39;refine (l1In_c _ _ _ _).mono ?_;rintro e W1 ⟨rfl,rfl⟩;refine ⟨_,rfl,?_⟩)|(go_at_call 110;refine (specRecFall rs[p] jr (by exact ro_rec1 (eS:=91) (eM:=40) (eT:=9) (eI:=3) (eA:=66) HM) hsm (Mem.start _)).mono ?_;rintro e W1 ⟨jw,rfl,HM1⟩;refine ⟨_,rfl,?_⟩;replace HM:=HM.join HM1;clear HM1;simp only [partRcd,List.cons_append,List.nil_append] at HM;simp only [encRcd]))|(refine qg ?_;clear HM;intro g W1 HM))
  rename_i ga Wa ge Wb Wc Wd We Wf
  have HM2:=cls_rec (show Mem w0 _ (hol (tRec 91 40 9 3 66) 31 i.b0.1 i.b0.2 rs p (encRcd (fallL rs[p]) jw) :: (partRcd 91 40 9 3 66 (fallL rs[p]) jw ++ (box g 78 [.slice i.b0.1 rs.length i.b0.2,.slice i.b1.1 fl.length i.b1.2,.slice i.b2.1 fx.length i.b2.2] :: box ga 78 [.slice i.b0.1 rs.length i.b0.2,.slice i.b1.1 fl.length i.b1.2,.slice i.b2.1 fx.length i.b2.2] :: flt 91 40 i.b1.1 i.b1.2 fl :: own tFix 134 i.b2.1 i.b2.2 fx :: L))) from by simp only [encRcd,partRcd,List.cons_append,List.nil_append];exact HM.sb)
  clear HM
  have HM:=HM2
  clear HM2
  have hr:=wp_set (r:=fallL rs[p]) hv hpl hT.1 (hT.2.1.trans hnum) (hT.2.2.trans hof)
  have hsl : rs.length = (rs.set p (fallL rs[p])).length:=(List.length_set ..).symm
  generalize rs.set p (fallL rs[p]) = rs2 at *
  rw [hsl] at HM ⊢
  exact ret_cell HM rfl rfl rfl ⟨⟨rs2,fl,fx⟩,i,⟨hr,rfl⟩,rfl,by simp only [wldP,List.cons_append,List.nil_append];exact HM.sb⟩
theorem do_rise (x : Wld) (i : AtW) (kd a : Int) (t : ByteArray) (hv : WP x) (ht : t.size ≤ 1048576) (hk : kd = 6) (hf : 0 ≤ a ∧ a < x.recs.length) (HM : Mem w0 W (wldP x i ++ L)) : Calls Tryz.prog 86 #[.agg (encW x i).toArray,.agg #[.int .i64 kd,.int .i64 a,.string t]] W fun e W'=>∃ y j,(WP y ∧ y.recs.length = x.recs.length) ∧ e = .returned (.agg (encW y j).toArray) ∧ Mem w0 W' (wldP y j ++ L):=by
  refine enter Tryz.func86 rfl Tryz.ntmps86 [(0,.agg (encW x i).toArray),(1,.agg #[.int .i64 kd,.int .i64 a,.string t])] rfl ⟨rfl,rfl,trivial⟩ ?_
  obtain ⟨rs,fl,fx⟩:=x
  unfold encW
  simp only [wldP,List.cons_append,List.nil_append] at HM
  have hn5:=hv.n5
  have hfl6:=hv.fl
  have hmsg:=hv.msg
  dsimp only at *
  subst hk
  obtain ⟨p,rfl⟩ : ∃ p : Nat,a = p:=⟨a.toNat,by omega⟩
  have hpl : p < rs.length:=by omega
  obtain ⟨hV,hnum,hof⟩:=hv.recs p hpl
  dsimp only at hV hnum hof
  have hT:=vr_rise hV
  have hsm:=hV.small
  have HMa:=HM.pk (A:=own (tRec 91 40 9 3 66) 31 i.b0.1 i.b0.2 rs)
  clear HM
  obtain ⟨jr,HM⟩:=opn_rec HMa p hpl
  clear HMa
  simp only [encRcd,partRcd,List.cons_append,List.nil_append] at HM
  repeat (first|(refine gN ?_;refine d_back (by exact HM.drop.drop.drop.drop.drop.drop.drop) ?_)|(refine gR ?_;refine d_start [12] [(0,0),(0,2),(0,4),(0,6),(1,1),(1,3),(1,5),(1,7),(0,8),(1,9),(2,10),(0,11),(3,12)] HM (by kernel_rfl) (by kernel_rfl) qq (by kernel_rfl) rfl ?_;intro HQ HS W1 HM1;replace HM:=HM1;clear HM1)|refine Y ?_|(refine qs ?_;clear HM;intro W1 HM)|(refine gStore ?_;refine s_storeh HM rfl rfl rfl rfl rfl rfl ?_;clear HM;intro W1 HM;(try dsimp only at HM))|(refine qf ?_;first|(go_at_call 39;refine (l1In_c _ _ _ _).mono ?_;rintro e W1 ⟨rfl,rfl⟩;refine ⟨_,rfl,?_⟩)|(go_at_call 111;refine (specRecRise rs[p] jr (by exact ro_rec1 (eS:=91) (eM:=40) (eT:=9) (eI:=3) (eA:=66) HM) hsm (Mem.start _)).mono ?_;rintro e W1 ⟨jw,rfl,HM1⟩;refine ⟨_,rfl,?_⟩;replace HM:=HM.join HM1;clear HM1;simp only [partRcd,List.cons_append,List.nil_append] at HM;simp only [encRcd]))|(refine qg ?_;clear HM;intro g W1 HM))
  rename_i ga Wa ge Wb Wc Wd We Wf
  have HM2:=cls_rec (show Mem w0 _ (hol (tRec 91 40 9 3 66) 31 i.b0.1 i.b0.2 rs p (encRcd (riseL rs[p]) jw) :: (partRcd 91 40 9 3 66 (riseL rs[p]) jw ++ (box g 78 [.slice i.b0.1 rs.length i.b0.2,.slice i.b1.1 fl.length i.b1.2,.slice i.b2.1 fx.length i.b2.2] :: box ga 78 [.slice i.b0.1 rs.length i.b0.2,.slice i.b1.1 fl.length i.b1.2,.slice i.b2.1 fx.length i.b2.2] :: flt 91 40 i.b1.1 i.b1.2 fl :: own tFix 134 i.b2.1 i.b2.2 fx :: L))) from by simp only [encRcd,partRcd,List.cons_append,List.nil_append];exact HM.sb)
  clear HM
  have HM:=HM2
  clear HM2
  have hr:=wp_set (r:=riseL rs[p]) hv hpl hT.1 (hT.2.1.trans hnum) (hT.2.2.trans hof)
  have hsl : rs.length = (rs.set p (riseL rs[p])).length:=(List.length_set ..).symm
  generalize rs.set p (riseL rs[p]) = rs2 at *
  rw [hsl] at HM ⊢
  exact ret_cell HM rfl rfl rfl ⟨⟨rs2,fl,fx⟩,i,⟨hr,rfl⟩,rfl,by simp only [wldP,List.cons_append,List.nil_append];exact HM.sb⟩
theorem do_wish (x : Wld) (i : AtW) (kd a : Int) (t : ByteArray) (hv : WP x) (ht : t.size ≤ 1048576) (hk : kd = 7) (hf : 0 ≤ a ∧ a < x.recs.length) (HM : Mem w0 W (wldP x i ++ L)) : Calls Tryz.prog 86 #[.agg (encW x i).toArray,.agg #[.int .i64 kd,.int .i64 a,.string t]] W fun e W'=>∃ y j,(WP y ∧ y.recs.length = x.recs.length) ∧ e = .returned (.agg (encW y j).toArray) ∧ Mem w0 W' (wldP y j ++ L):=by
  refine enter Tryz.func86 rfl Tryz.ntmps86 [(0,.agg (encW x i).toArray),(1,.agg #[.int .i64 kd,.int .i64 a,.string t])] rfl ⟨rfl,rfl,trivial⟩ ?_
  obtain ⟨rs,fl,fx⟩:=x
  unfold encW
  simp only [wldP,List.cons_append,List.nil_append] at HM
  have hn5:=hv.n5
  have hfl6:=hv.fl
  have hmsg:=hv.msg
  dsimp only at *
  subst hk
  obtain ⟨p,rfl⟩ : ∃ p : Nat,a = p:=⟨a.toNat,by omega⟩
  have hpl : p < rs.length:=by omega
  obtain ⟨hV,hnum,hof⟩:=hv.recs p hpl
  dsimp only at hV hnum hof
  have hT:=vr_wishL hV (t:=t)
  have hsm:=hV.small
  have HMa:=HM.pk (A:=own (tRec 91 40 9 3 66) 31 i.b0.1 i.b0.2 rs)
  clear HM
  obtain ⟨jr,HM⟩:=opn_rec HMa p hpl
  clear HMa
  simp only [encRcd,partRcd,List.cons_append,List.nil_append] at HM
  repeat (first|(refine gN ?_;refine d_back (by exact HM.drop.drop.drop.drop.drop.drop.drop) ?_)|(refine gR ?_;refine d_start [14] [(0,0),(0,2),(0,4),(0,6),(0,10),(1,1),(1,3),(1,5),(1,7),(0,8),(1,9),(1,11),(2,12),(0,13),(3,14)] HM (by kernel_rfl) (by kernel_rfl) qq (by kernel_rfl) rfl ?_;intro HQ HS W1 HM1;replace HM:=HM1;clear HM1)|refine Y ?_|(refine qs ?_;clear HM;intro W1 HM)|(refine gStore ?_;refine s_storeh HM rfl rfl rfl rfl rfl rfl ?_;clear HM;intro W1 HM;(try dsimp only at HM))|(refine qf ?_;first|(go_at_call 39;refine (l1In_c _ _ _ _).mono ?_;rintro e W1 ⟨rfl,rfl⟩;refine ⟨_,rfl,?_⟩)|(go_at_call 17;refine (specRecWish rs[p] jr t (by exact ro_rec1 (eS:=91) (eM:=40) (eT:=9) (eI:=3) (eA:=66) HM) hsm ht (Mem.start _)).mono ?_;rintro e W1 ⟨jw,rfl,HM1⟩;refine ⟨_,rfl,?_⟩;replace HM:=HM.join HM1;clear HM1;simp only [partRcd,List.cons_append,List.nil_append] at HM;simp only [encRcd]))|(refine qg ?_;clear HM;intro g W1 HM))
  rename_i ga Wa ge Wb Wc Wd We Wf
  have HM2:=cls_rec (show Mem w0 _ (hol (tRec 91 40 9 3 66) 31 i.b0.1 i.b0.2 rs p (encRcd (wishL rs[p] t) jw) :: (partRcd 91 40 9 3 66 (wishL rs[p] t) jw ++ (box g 78 [.slice i.b0.1 rs.length i.b0.2,.slice i.b1.1 fl.length i.b1.2,.slice i.b2.1 fx.length i.b2.2] :: box ga 78 [.slice i.b0.1 rs.length i.b0.2,.slice i.b1.1 fl.length i.b1.2,.slice i.b2.1 fx.length i.b2.2] :: flt 91 40 i.b1.1 i.b1.2 fl :: own tFix 134 i.b2.1 i.b2.2 fx :: L))) from by simp only [encRcd,partRcd,List.cons_append,List.nil_append];exact HM.sb)
  clear HM
  have HM:=HM2
  clear HM2
  have hr:=wp_setK (r:=wishL rs[p] t) hv hpl hT
  have hsl : rs.length = (rs.set p (wishL rs[p] t)).length:=(List.length_set ..).symm
  generalize rs.set p (wishL rs[p] t) = rs2 at *
  rw [hsl] at HM ⊢
  exact ret_cell HM rfl rfl rfl ⟨⟨rs2,fl,fx⟩,i,⟨hr,rfl⟩,rfl,by simp only [wldP,List.cons_append,List.nil_append];exact HM.sb⟩
end Go.Proofs.YtampmicahnnebaaGreat.Sp
namespace Go.Proofs.YtampmicahnnebaaGreat.Sp
open Go Go.RowKit
set_option maxRecDepth 10000
set_option maxHeartbeats 4000000
section
variable {P : Program} {n : Nat} {ops : Array Oper} {Q : Exit → Act → World → Prop} {rest : List Oper} {E : Env} {w0 W : World} {L : List Asn} {d src dst e g t : Nat} {ty : TypeId} {pos : String} {after : Array Edge} {x y : Operand} {s s' : ByteArray} {xt yt : TypeId} {k k' : IntKind} {m q r : Int} {us : TypeDesc}
theorem p_concat2 (hx : ev E x = some (.string s)) (hy : ev E y = some (.string s')) (hl : (s.size : Int) + s'.size ≤ 9223372036854775807) : PV P E (.binOp .add xt x y yt) (.string (s ++ s')):=⟨fun n a ha dst ty pos after gd W=>by simp [execOp,ha.eval hx,ha.eval hy,eqGuard,binOp,Op.stringOp,hl]⟩
theorem p_conv2 [hs : Und P src us] [hd : Und P dst (.int k')] (hx : ev E x = some (.int k m)) (hr : k'.wrap m = r) : PV P E (.convert src dst x) (.int k' r):=⟨fun n a ha dst ty pos after gd W=>by
  simp [execOp,ha.eval hx,convert,underlying,hs.out,hd.out,Conv.intToInt,hr]⟩
theorem s_convb2 [hs : Und P src (.slice e)] [he : Und P e (.int .u8)] [hd : Und P dst .string] [hB : BoxAt L g t [.int .u8 m]] (hm : Mem w0 W L) (hx : ev E x = some (.slice (some ⟨g,0,none⟩) 1 1)) (hn : Nat.blt d n = true)
    (h : WL P n ops Q rest ((d,.string (strOfNums [m])) :: E) W) : WL P n ops Q (⟨some d,.convert src dst x,ty,pos,after,none⟩ :: rest) E W:=by
  have hrun:=run_convert_bytes_arg (P:=P) W src e hs.out he.out g 0 1 1 [m] rfl (fun i hi=>by
    obtain rfl : i = 0:=by omega
    rw [cell_of_row W g _ _ t (0,0) hm.heap];rfl) dst hd.out
  exact s_run rfl rfl hn (fun a ha=>by simp [execOp,ha.eval hx,hrun]) h
def xorI (a b : Int) : Int:=IntKind.i64.wrap ((BitVec.ofInt 64 a ^^^ BitVec.ofInt 64 b).toNat : Int)
theorem p_xor (hx : ev E x = some (.int .i64 m)) (hy : ev E y = some (.int .i64 q)) : PV P E (.binOp .xor xt x y yt) (.int .i64 (xorI m q)):=⟨fun n a ha dst ty pos after gd W=>by
  simp [execOp,ha.eval hx,ha.eval hy,eqGuard,binOp,Op.intBits,xorI]
  exact congrArg (fun k : Nat=>IntKind.i64.wrap (k : Int)) rfl⟩
theorem xorI_range {a b : Int} (ha : 0 ≤ a) (ha1 : a < 1000000000000) (hb : 0 ≤ b) (hb1 : b < 1000000000000) : 0 ≤ xorI a b ∧ xorI a b < 1099511627776:=by
  obtain ⟨x,rfl⟩:=Int.eq_ofNat_of_zero_le ha
  obtain ⟨y,rfl⟩:=Int.eq_ofNat_of_zero_le hb
  have h1 : (BitVec.ofInt 64 (x : Int) ^^^ BitVec.ofInt 64 (y : Int)).toNat = x ^^^ y:=by
    rw [BitVec.toNat_xor]
    have e1 : (BitVec.ofInt 64 (x : Int)).toNat = x:=by rw [BitVec.toNat_ofInt];omega
    have e2 : (BitVec.ofInt 64 (y : Int)).toNat = y:=by rw [BitVec.toNat_ofInt];omega
    rw [e1,e2]
  have h2 : x ^^^ y < 2 ^ 40:=Nat.xor_lt_two_pow (by omega) (by omega)
  have h3 : (2 : Nat) ^ 40 = 1099511627776:=by decide
  unfold xorI
  rw [h1,wr (by omega) (by omega)]
  omega
end
def rByte : TyR Int:=nestR (ι:=Unit) 1 0 (fun n _=>[.int .u8 n]) (fun _ n _=>0 ≤ n ∧ n < 256) (fun n j=>match j with|0=>some (.int .u8 n)|_=>none) (fun _ _=>rfl)
  (fun x j v i h=>by match j with|0=>simpa using h|j + 1=>simp at h)
theorem byte_at_ {w : World} {A : Option Addr} {bs : List Int} (h : RoRow rByte w A bs) (i : Int) : 0 ≤ rdR rByte bs i ∧ rdR rByte bs i < 256:=by
  unfold rdR
  rw [List.getD_eq_getElem?_getD]
  by_cases hi : i.toNat < bs.length
  · rw [List.getElem?_eq_getElem hi]
    obtain ⟨c,⟨_,_,h2⟩,_⟩:=h.cell i.toNat hi
    exact h2
  · rw [List.getElem?_eq_none (by omega)]
    exact ⟨by decide,by decide⟩
variable {w0 W : World} {L R : List Asn} {A : Option Addr} {c : Nat} {bs : List Int}
theorem tdiv_range {a b : Int} (ha : 0 ≤ a) (hb : 0 < b) : 0 ≤ a.tdiv b ∧ a.tdiv b ≤ a:=⟨Int.tdiv_nonneg ha (by omega),by rw [Int.tdiv_eq_ediv_of_nonneg ha];exact Int.ediv_le_self _ ha⟩
theorem tmod_range {a b : Int} (ha : 0 ≤ a) (hb : 0 < b) : 0 ≤ a.tmod b ∧ a.tmod b < b:=⟨Int.tmod_nonneg _ ha,Int.tmod_lt_of_pos _ hb⟩
theorem pick_p {g : Nat} (hb : RoRow rByte w0 A bs) (hl : bs.length ≤ 2000) (n p : Int) (h0 : 0 ≤ p) (h1 : p ≤ 1000000) (HM : Mem w0 W (box g 88 [.slice A bs.length c,.int .i64 p] :: L)) : Calls Tryz.prog 20 #[.pointer (some ⟨g,0,none⟩),.int .i64 n] W fun e W'=>∃ v : Int,(0 ≤ v ∧ (n < 1 → v = 0) ∧ (1 ≤ n → v < n)) ∧ e = .returned (.int .i64 v) ∧ Mem w0 W' (box g 88 [.slice A bs.length c,.int .i64 (p + 1)] :: L):=by
  refine enter Tryz.func20 rfl Tryz.ntmps20 [(0,_),(1,_)] rfl ⟨rfl,rfl,trivial⟩ ?_
  replace HM:=HM.rod hb
  by_cases c1 : n < 1
  · repeat (first|refine Y ?_|(refine qs ?_;clear HM;intro W1 HM))
    exact ret_tmp rfl rfl ⟨0,⟨by omega,fun _=>rfl,fun h=>by omega⟩,rfl,HM.drop⟩
  by_cases c2 : bs.length = 0
  · have c2d : decide ((bs.length : Int) = 0) = true:=decide_eq_true (by omega)
    repeat (first|refine Y ?_|(refine qs ?_;clear HM;intro W1 HM))
    exact ret_tmp rfl rfl ⟨0,⟨by omega,fun _=>rfl,fun h=>by omega⟩,rfl,HM.drop⟩
  have c2d : decide ((bs.length : Int) = 0) = false:=decide_eq_false (by omega)
  by_cases c3 : p < bs.length
  · have hw:=fun i=>(byte_at_ hb i)
    have hr:=hw (p + 1 - 1)
    have hm:=tmod_range (a:=rdR rByte bs (p + 1 - 1)) (b:=n) hr.1 (by omega)
    repeat (first|(refine gL ?_;refine s_pv (p_conv2 rfl (wr (by omega) (by omega))) rfl ?_)|refine Y ?_|(refine qs ?_;clear HM;intro W1 HM))
    exact ret_tmp rfl rfl ⟨_,⟨hm.1,fun h=>by omega,fun _=>hm.2⟩,rfl,HM.drop⟩
  have hw:=fun i=>(byte_at_ hb i)
  have hk0 : 0 ≤ p + 1 - 1:=by omega
  have hL : (0 : Int) < bs.length:=by omega
  have hd:=tdiv_range (a:=p + 1 - 1) (b:=bs.length) hk0 hL
  have hm1:=tmod_range (a:=p + 1 - 1) (b:=bs.length) hk0 hL
  have hm2:=tmod_range (a:=(p + 1 - 1) * 7 + 3) (b:=bs.length) (by omega) hL
  have hb1:=hw ((p + 1 - 1).tmod bs.length)
  have hb2:=hw (((p + 1 - 1) * 7 + 3).tmod bs.length)
  generalize hk : p + 1 - 1 = k at *
  repeat (first|(refine gGP ?_;refine gGB ?_;refine gp (p_sub rfl rfl (r:=k) (by rw [hk];exact wr (by omega) (by omega))) ?_)|refine Y ?_|(refine qs ?_;clear HM;intro W1 HM))
  refine gR ?_
  refine x_start (ds:=[]) HM (fun w hw=>hw) (by kernel_rfl) (by kernel_rfl) qq ?_
  intro HQ HS W1 HM1;replace HM:=HM1;clear HM1
  refine x_pv HQ HS 0 rfl (by kernel_rfl) (by kernel_rfl) (l':=#[true,false,false,false,false,false,false,false,false,false,false,false,false,false,false,false,false,false,false,false,false,false,false,false,false,false,false,false,false,false,false,false,false,false,false,false,false,false,false,false,false,false,false,false,false,false]) (by kernel_rfl) rfl ?_
  refine Y ?_
  refine x_pv HQ HS 1 rfl (by kernel_rfl) (by kernel_rfl) (l':=#[true,true,false,false,false,false,false,false,false,false,false,false,false,false,false,false,false,false,false,false,false,false,false,false,false,false,false,false,false,false,false,false,false,false,false,false,false,false,false,false,false,false,false,false,false,false]) (by kernel_rfl) rfl ?_
  refine Y ?_
  refine x_pv HQ HS 2 rfl (by kernel_rfl) (by kernel_rfl) (l':=#[true,true,true,false,false,false,false,false,false,false,false,false,false,false,false,false,false,false,false,false,false,false,false,false,false,false,false,false,false,false,false,false,false,false,false,false,false,false,false,false,false,false,false,false,false,false]) (by kernel_rfl) rfl ?_
  refine Y ?_
  refine x_pv HQ HS 4 rfl (by kernel_rfl) (by kernel_rfl) (l':=#[true,true,true,false,true,false,false,false,false,false,false,false,false,false,false,false,false,false,false,false,false,false,false,false,false,false,false,false,false,false,false,false,false,false,false,false,false,false,false,false,false,false,false,false,false,false]) (by kernel_rfl) rfl ?_
  refine Y ?_
  refine x_pv HQ HS 5 rfl (by kernel_rfl) (by kernel_rfl) (l':=#[true,true,true,false,true,true,false,false,false,false,false,false,false,false,false,false,false,false,false,false,false,false,false,false,false,false,false,false,false,false,false,false,false,false,false,false,false,false,false,false,false,false,false,false,false,false]) (by kernel_rfl) rfl ?_
  refine Y ?_
  refine x_pv HQ HS 6 rfl (by kernel_rfl) (by kernel_rfl) (l':=#[true,true,true,false,true,true,true,false,false,false,false,false,false,false,false,false,false,false,false,false,false,false,false,false,false,false,false,false,false,false,false,false,false,false,false,false,false,false,false,false,false,false,false,false,false,false]) (by kernel_rfl) rfl ?_
  refine Y ?_
  refine x_pv HQ HS 7 rfl (by kernel_rfl) (by kernel_rfl) (l':=#[true,true,true,false,true,true,true,true,false,false,false,false,false,false,false,false,false,false,false,false,false,false,false,false,false,false,false,false,false,false,false,false,false,false,false,false,false,false,false,false,false,false,false,false,false,false]) (by kernel_rfl) rfl ?_
  refine Y ?_
  refine x_pv HQ HS 15 rfl (by kernel_rfl) (by kernel_rfl) (l':=#[true,true,true,false,true,true,true,true,false,false,false,false,false,false,false,true,false,false,false,false,false,false,false,false,false,false,false,false,false,false,false,false,false,false,false,false,false,false,false,false,false,false,false,false,false,false]) (by kernel_rfl) rfl ?_
  refine Y ?_
  refine x_pv HQ HS 16 rfl (by kernel_rfl) (by kernel_rfl) (l':=#[true,true,true,false,true,true,true,true,false,false,false,false,false,false,false,true,true,false,false,false,false,false,false,false,false,false,false,false,false,false,false,false,false,false,false,false,false,false,false,false,false,false,false,false,false,false]) (by kernel_rfl) rfl ?_
  refine Y ?_
  refine x_pv HQ HS 17 rfl (by kernel_rfl) (by kernel_rfl) (l':=#[true,true,true,false,true,true,true,true,false,false,false,false,false,false,false,true,true,true,false,false,false,false,false,false,false,false,false,false,false,false,false,false,false,false,false,false,false,false,false,false,false,false,false,false,false,false]) (by kernel_rfl) rfl ?_
  refine Y ?_
  refine x_pv HQ HS 19 rfl (by kernel_rfl) (by kernel_rfl) (l':=#[true,true,true,false,true,true,true,true,false,false,false,false,false,false,false,true,true,true,false,true,false,false,false,false,false,false,false,false,false,false,false,false,false,false,false,false,false,false,false,false,false,false,false,false,false,false]) (by kernel_rfl) rfl ?_
  refine Y ?_
  refine x_pv HQ HS 20 rfl (by kernel_rfl) (by kernel_rfl) (l':=#[true,true,true,false,true,true,true,true,false,false,false,false,false,false,false,true,true,true,false,true,true,false,false,false,false,false,false,false,false,false,false,false,false,false,false,false,false,false,false,false,false,false,false,false,false,false]) (by kernel_rfl) rfl ?_
  refine Y ?_
  refine x_pv HQ HS 21 rfl (by kernel_rfl) (by kernel_rfl) (l':=#[true,true,true,false,true,true,true,true,false,false,false,false,false,false,false,true,true,true,false,true,true,true,false,false,false,false,false,false,false,false,false,false,false,false,false,false,false,false,false,false,false,false,false,false,false,false]) (by kernel_rfl) rfl ?_
  refine Y ?_
  refine x_pv HQ HS 22 rfl (by kernel_rfl) (by kernel_rfl) (l':=#[true,true,true,false,true,true,true,true,false,false,false,false,false,false,false,true,true,true,false,true,true,true,true,false,false,false,false,false,false,false,false,false,false,false,false,false,false,false,false,false,false,false,false,false,false,false]) (by kernel_rfl) rfl ?_
  refine Y ?_
  refine x_pv HQ HS 23 rfl (by kernel_rfl) (by kernel_rfl) (l':=#[true,true,true,false,true,true,true,true,false,false,false,false,false,false,false,true,true,true,false,true,true,true,true,true,false,false,false,false,false,false,false,false,false,false,false,false,false,false,false,false,false,false,false,false,false,false]) (by kernel_rfl) rfl ?_
  refine Y ?_
  refine x_pv HQ HS 24 rfl (by kernel_rfl) (by kernel_rfl) (l':=#[true,true,true,false,true,true,true,true,false,false,false,false,false,false,false,true,true,true,false,true,true,true,true,true,true,false,false,false,false,false,false,false,false,false,false,false,false,false,false,false,false,false,false,false,false,false]) (by kernel_rfl) rfl ?_
  refine Y ?_
  refine x_pv HQ HS 33 rfl (by kernel_rfl) (by kernel_rfl) (l':=#[true,true,true,false,true,true,true,true,false,false,false,false,false,false,false,true,true,true,false,true,true,true,true,true,true,false,false,false,false,false,false,false,false,true,false,false,false,false,false,false,false,false,false,false,false,false]) (by kernel_rfl) rfl ?_
  refine Y ?_
  refine x_pv HQ HS 34 rfl (by kernel_rfl) (by kernel_rfl) (l':=#[true,true,true,false,true,true,true,true,false,false,false,false,false,false,false,true,true,true,false,true,true,true,true,true,true,false,false,false,false,false,false,false,false,true,true,false,false,false,false,false,false,false,false,false,false,false]) (by kernel_rfl) rfl ?_
  refine Y ?_
  refine x_pv HQ HS 36 rfl (by kernel_rfl) (by kernel_rfl) (l':=#[true,true,true,false,true,true,true,true,false,false,false,false,false,false,false,true,true,true,false,true,true,true,true,true,true,false,false,false,false,false,false,false,false,true,true,false,true,false,false,false,false,false,false,false,false,false]) (by kernel_rfl) rfl ?_
  refine Y ?_
  refine x_pv HQ HS 37 rfl (by kernel_rfl) (by kernel_rfl) (l':=#[true,true,true,false,true,true,true,true,false,false,false,false,false,false,false,true,true,true,false,true,true,true,true,true,true,false,false,false,false,false,false,false,false,true,true,false,true,true,false,false,false,false,false,false,false,false]) (by kernel_rfl) rfl ?_
  refine Y ?_
  refine x_pv HQ HS 38 rfl (by kernel_rfl) (by kernel_rfl) (l':=#[true,true,true,false,true,true,true,true,false,false,false,false,false,false,false,true,true,true,false,true,true,true,true,true,true,false,false,false,false,false,false,false,false,true,true,false,true,true,true,false,false,false,false,false,false,false]) (by kernel_rfl) rfl ?_
  refine Y ?_
  refine x_pv HQ HS 39 rfl (by kernel_rfl) (by kernel_rfl) (l':=#[true,true,true,false,true,true,true,true,false,false,false,false,false,false,false,true,true,true,false,true,true,true,true,true,true,false,false,false,false,false,false,false,false,true,true,false,true,true,true,true,false,false,false,false,false,false]) (by kernel_rfl) rfl ?_
  refine Y ?_
  refine x_ld HQ HS 3 rfl (by kernel_rfl) (by kernel_rfl) (by kernel_rfl) (by kernel_rfl) (l':=#[true,true,true,true,true,true,true,true,false,false,false,false,false,false,false,true,true,true,false,true,true,true,true,true,true,false,false,false,false,false,false,false,false,true,true,false,true,true,true,true,false,false,false,false,false,false]) (by kernel_rfl) rfl ?_
  refine Y ?_
  refine x_ld HQ HS 8 rfl (by kernel_rfl) (by kernel_rfl) (by kernel_rfl) (by kernel_rfl) (l':=#[true,true,true,true,true,true,true,true,true,false,false,false,false,false,false,true,true,true,false,true,true,true,true,true,true,false,false,false,false,false,false,false,false,true,true,false,true,true,true,true,false,false,false,false,false,false]) (by kernel_rfl) rfl ?_
  refine Y ?_
  refine x_pv HQ HS 9 rfl (by kernel_rfl) (by kernel_rfl) (l':=#[true,true,true,true,true,true,true,true,true,true,false,false,false,false,false,true,true,true,false,true,true,true,true,true,true,false,false,false,false,false,false,false,false,true,true,false,true,true,true,true,false,false,false,false,false,false]) (by kernel_rfl) rfl ?_
  refine Y ?_
  refine x_pv HQ HS 10 rfl (by kernel_rfl) (by kernel_rfl) (l':=#[true,true,true,true,true,true,true,true,true,true,true,false,false,false,false,true,true,true,false,true,true,true,true,true,true,false,false,false,false,false,false,false,false,true,true,false,true,true,true,true,false,false,false,false,false,false]) (by kernel_rfl) rfl ?_
  refine Y ?_
  refine x_pv HQ HS 11 rfl (by kernel_rfl) (by kernel_rfl) (l':=#[true,true,true,true,true,true,true,true,true,true,true,true,false,false,false,true,true,true,false,true,true,true,true,true,true,false,false,false,false,false,false,false,false,true,true,false,true,true,true,true,false,false,false,false,false,false]) (by kernel_rfl) rfl ?_
  refine Y ?_
  refine x_ld HQ HS 12 rfl (by kernel_rfl) (by kernel_rfl) (by kernel_rfl) (by kernel_rfl) (l':=#[true,true,true,true,true,true,true,true,true,true,true,true,true,false,false,true,true,true,false,true,true,true,true,true,true,false,false,false,false,false,false,false,false,true,true,false,true,true,true,true,false,false,false,false,false,false]) (by kernel_rfl) rfl ?_
  refine Y ?_
  refine x_ld HQ HS 18 rfl (by kernel_rfl) (by kernel_rfl) (by kernel_rfl) (by kernel_rfl) (l':=#[true,true,true,true,true,true,true,true,true,true,true,true,true,false,false,true,true,true,true,true,true,true,true,true,true,false,false,false,false,false,false,false,false,true,true,false,true,true,true,true,false,false,false,false,false,false]) (by kernel_rfl) rfl ?_
  refine Y ?_
  refine x_ld HQ HS 25 rfl (by kernel_rfl) (by kernel_rfl) (by kernel_rfl) (by kernel_rfl) (l':=#[true,true,true,true,true,true,true,true,true,true,true,true,true,false,false,true,true,true,true,true,true,true,true,true,true,true,false,false,false,false,false,false,false,true,true,false,true,true,true,true,false,false,false,false,false,false]) (by kernel_rfl) rfl ?_
  refine Y ?_
  refine x_pv HQ HS 26 rfl (by kernel_rfl) (by kernel_rfl) (l':=#[true,true,true,true,true,true,true,true,true,true,true,true,true,false,false,true,true,true,true,true,true,true,true,true,true,true,true,false,false,false,false,false,false,true,true,false,true,true,true,true,false,false,false,false,false,false]) (by kernel_rfl) rfl ?_
  refine Y ?_
  refine x_pv HQ HS 27 rfl (by kernel_rfl) (by kernel_rfl) (l':=#[true,true,true,true,true,true,true,true,true,true,true,true,true,false,false,true,true,true,true,true,true,true,true,true,true,true,true,true,false,false,false,false,false,true,true,false,true,true,true,true,false,false,false,false,false,false]) (by kernel_rfl) rfl ?_
  refine Y ?_
  refine x_pv HQ HS 28 rfl (by kernel_rfl) (by kernel_rfl) (l':=#[true,true,true,true,true,true,true,true,true,true,true,true,true,false,false,true,true,true,true,true,true,true,true,true,true,true,true,true,true,false,false,false,false,true,true,false,true,true,true,true,false,false,false,false,false,false]) (by kernel_rfl) rfl ?_
  refine Y ?_
  refine x_ld HQ HS 29 rfl (by kernel_rfl) (by kernel_rfl) (by kernel_rfl) (by kernel_rfl) (l':=#[true,true,true,true,true,true,true,true,true,true,true,true,true,false,false,true,true,true,true,true,true,true,true,true,true,true,true,true,true,true,false,false,false,true,true,false,true,true,true,true,false,false,false,false,false,false]) (by kernel_rfl) rfl ?_
  refine Y ?_
  refine x_ld HQ HS 40 rfl (by kernel_rfl) (by kernel_rfl) (by kernel_rfl) (by kernel_rfl) (l':=#[true,true,true,true,true,true,true,true,true,true,true,true,true,false,false,true,true,true,true,true,true,true,true,true,true,true,true,true,true,true,false,false,false,true,true,false,true,true,true,true,true,false,false,false,false,false]) (by kernel_rfl) rfl ?_
  refine Y ?_
  refine x_pv HQ HS 41 rfl (by kernel_rfl) (by kernel_rfl) (l':=#[true,true,true,true,true,true,true,true,true,true,true,true,true,false,false,true,true,true,true,true,true,true,true,true,true,true,true,true,true,true,false,false,false,true,true,false,true,true,true,true,true,true,false,false,false,false]) (by kernel_rfl) rfl ?_
  refine Y ?_
  refine x_pv HQ HS 42 rfl (by kernel_rfl) (by kernel_rfl) (l':=#[true,true,true,true,true,true,true,true,true,true,true,true,true,false,false,true,true,true,true,true,true,true,true,true,true,true,true,true,true,true,false,false,false,true,true,false,true,true,true,true,true,true,true,false,false,false]) (by kernel_rfl) rfl ?_
  refine Y ?_
  refine x_pv HQ HS 43 rfl (by kernel_rfl) (by kernel_rfl) (l':=#[true,true,true,true,true,true,true,true,true,true,true,true,true,false,false,true,true,true,true,true,true,true,true,true,true,true,true,true,true,true,false,false,false,true,true,false,true,true,true,true,true,true,true,true,false,false]) (by kernel_rfl) rfl ?_
  refine Y ?_
  refine x_two 13 30 (by kernel_rfl) rfl rfl (l':=#[true,true,true,true,true,true,true,true,true,true,true,true,true,true,false,true,true,true,true,true,true,true,true,true,true,true,true,true,true,true,false,false,false,true,true,false,true,true,true,true,true,true,true,true,false,false]) (l'':=#[true,true,true,true,true,true,true,true,true,true,true,true,true,false,false,true,true,true,true,true,true,true,true,true,true,true,true,true,true,true,true,false,false,true,true,false,true,true,true,true,true,true,true,true,false,false]) (by kernel_rfl) (by kernel_rfl) (x_go ?_) (x_go ?_)
  · repeat (first|(refine gL ?_;refine s_pv (p_conv2 rfl (wr (by omega) (by omega))) rfl ?_)|refine Y ?_)
    refine x_pv HQ HS 14 rfl (by kernel_rfl) (by kernel_rfl) (l':=#[true,true,true,true,true,true,true,true,true,true,true,true,true,true,true,true,true,true,true,true,true,true,true,true,true,true,true,true,true,true,false,false,false,true,true,false,true,true,true,true,true,true,true,true,false,false]) (by kernel_rfl) rfl ?_
    refine Y ?_
    refine x_one 30 (by kernel_rfl) rfl (l':=#[true,true,true,true,true,true,true,true,true,true,true,true,true,true,true,true,true,true,true,true,true,true,true,true,true,true,true,true,true,true,true,false,false,true,true,false,true,true,true,true,true,true,true,true,false,false]) (by kernel_rfl) (x_go ?_)
    repeat (first|(refine gL ?_;refine s_pv (p_conv2 rfl (wr (by omega) (by omega))) rfl ?_)|refine Y ?_)
    refine x_pv HQ HS 31 rfl (by kernel_rfl) (by kernel_rfl) (l':=#[true,true,true,true,true,true,true,true,true,true,true,true,true,true,true,true,true,true,true,true,true,true,true,true,true,true,true,true,true,true,true,true,false,true,true,false,true,true,true,true,true,true,true,true,false,false]) (by kernel_rfl) rfl ?_
    refine Y ?_
    refine x_pv HQ HS 32 rfl (by kernel_rfl) (by kernel_rfl) (l':=#[true,true,true,true,true,true,true,true,true,true,true,true,true,true,true,true,true,true,true,true,true,true,true,true,true,true,true,true,true,true,true,true,true,true,true,false,true,true,true,true,true,true,true,true,false,false]) (by kernel_rfl) rfl ?_
    refine Y ?_
    refine x_pv HQ HS 35 rfl (by kernel_rfl) (by kernel_rfl) (l':=#[true,true,true,true,true,true,true,true,true,true,true,true,true,true,true,true,true,true,true,true,true,true,true,true,true,true,true,true,true,true,true,true,true,true,true,true,true,true,true,true,true,true,true,true,false,false]) (by kernel_rfl) rfl ?_
    refine Y ?_
    refine x_pv HQ HS 44 rfl (by kernel_rfl) (by kernel_rfl) (l':=#[true,true,true,true,true,true,true,true,true,true,true,true,true,true,true,true,true,true,true,true,true,true,true,true,true,true,true,true,true,true,true,true,true,true,true,true,true,true,true,true,true,true,true,true,true,false]) (by kernel_rfl) rfl ?_
    refine Y ?_
    refine x_pv HQ HS 45 rfl (by kernel_rfl) (by kernel_rfl) (l':=#[true,true,true,true,true,true,true,true,true,true,true,true,true,true,true,true,true,true,true,true,true,true,true,true,true,true,true,true,true,true,true,true,true,true,true,true,true,true,true,true,true,true,true,true,true,true]) (by kernel_rfl) rfl ?_
    refine Y ?_
    refine x_done (by kernel_rfl) ?_
    have hX : 0 ≤ rdR rByte bs (k.tmod bs.length) * 131 + rdR rByte bs ((k * 7 + 3).tmod bs.length) * 1117 + k * 29 + k.tdiv bs.length * 53 ∧ rdR rByte bs (k.tmod bs.length) * 131 + rdR rByte bs ((k * 7 + 3).tmod bs.length) * 1117 + k * 29 + k.tdiv bs.length * 53 < 1000000000:=by omega
    generalize rdR rByte bs (k.tmod bs.length) * 131 + rdR rByte bs ((k * 7 + 3).tmod bs.length) * 1117 + k * 29 + k.tdiv bs.length * 53 = X at *
    have hq:=tdiv_range (a:=X) (b:=64) hX.1 (by decide)
    have hx:=xorI_range (a:=X) (b:=X.tdiv 64) hX.1 (by omega) hq.1 (by omega)
    have hm:=tmod_range (a:=xorI X (X.tdiv 64)) (b:=n) hx.1 (by omega)
    repeat (first|(refine gL ?_;refine s_pv (p_xor rfl rfl) rfl ?_)|refine Y ?_)
    exact ret_tmp rfl rfl ⟨_,⟨hm.1,fun h=>by omega,fun _=>hm.2⟩,rfl,HM.drop⟩
  · repeat (first|(refine gL ?_;refine s_pv (p_conv2 rfl (wr (by omega) (by omega))) rfl ?_)|refine Y ?_)
    refine x_pv HQ HS 31 rfl (by kernel_rfl) (by kernel_rfl) (l':=#[true,true,true,true,true,true,true,true,true,true,true,true,true,false,false,true,true,true,true,true,true,true,true,true,true,true,true,true,true,true,true,true,false,true,true,false,true,true,true,true,true,true,true,true,false,false]) (by kernel_rfl) rfl ?_
    refine Y ?_
    refine x_one 13 (by kernel_rfl) rfl (l':=#[true,true,true,true,true,true,true,true,true,true,true,true,true,true,false,true,true,true,true,true,true,true,true,true,true,true,true,true,true,true,true,true,false,true,true,false,true,true,true,true,true,true,true,true,false,false]) (by kernel_rfl) (x_go ?_)
    repeat (first|(refine gL ?_;refine s_pv (p_conv2 rfl (wr (by omega) (by omega))) rfl ?_)|refine Y ?_)
    refine x_pv HQ HS 14 rfl (by kernel_rfl) (by kernel_rfl) (l':=#[true,true,true,true,true,true,true,true,true,true,true,true,true,true,true,true,true,true,true,true,true,true,true,true,true,true,true,true,true,true,true,true,false,true,true,false,true,true,true,true,true,true,true,true,false,false]) (by kernel_rfl) rfl ?_
    refine Y ?_
    refine x_pv HQ HS 32 rfl (by kernel_rfl) (by kernel_rfl) (l':=#[true,true,true,true,true,true,true,true,true,true,true,true,true,true,true,true,true,true,true,true,true,true,true,true,true,true,true,true,true,true,true,true,true,true,true,false,true,true,true,true,true,true,true,true,false,false]) (by kernel_rfl) rfl ?_
    refine Y ?_
    refine x_pv HQ HS 35 rfl (by kernel_rfl) (by kernel_rfl) (l':=#[true,true,true,true,true,true,true,true,true,true,true,true,true,true,true,true,true,true,true,true,true,true,true,true,true,true,true,true,true,true,true,true,true,true,true,true,true,true,true,true,true,true,true,true,false,false]) (by kernel_rfl) rfl ?_
    refine Y ?_
    refine x_pv HQ HS 44 rfl (by kernel_rfl) (by kernel_rfl) (l':=#[true,true,true,true,true,true,true,true,true,true,true,true,true,true,true,true,true,true,true,true,true,true,true,true,true,true,true,true,true,true,true,true,true,true,true,true,true,true,true,true,true,true,true,true,true,false]) (by kernel_rfl) rfl ?_
    refine Y ?_
    refine x_pv HQ HS 45 rfl (by kernel_rfl) (by kernel_rfl) (l':=#[true,true,true,true,true,true,true,true,true,true,true,true,true,true,true,true,true,true,true,true,true,true,true,true,true,true,true,true,true,true,true,true,true,true,true,true,true,true,true,true,true,true,true,true,true,true]) (by kernel_rfl) rfl ?_
    refine Y ?_
    refine x_done (by kernel_rfl) ?_
    have hX : 0 ≤ rdR rByte bs (k.tmod bs.length) * 131 + rdR rByte bs ((k * 7 + 3).tmod bs.length) * 1117 + k * 29 + k.tdiv bs.length * 53 ∧ rdR rByte bs (k.tmod bs.length) * 131 + rdR rByte bs ((k * 7 + 3).tmod bs.length) * 1117 + k * 29 + k.tdiv bs.length * 53 < 1000000000:=by omega
    generalize rdR rByte bs (k.tmod bs.length) * 131 + rdR rByte bs ((k * 7 + 3).tmod bs.length) * 1117 + k * 29 + k.tdiv bs.length * 53 = X at *
    have hq:=tdiv_range (a:=X) (b:=64) hX.1 (by decide)
    have hx:=xorI_range (a:=X) (b:=X.tdiv 64) hX.1 (by omega) hq.1 (by omega)
    have hm:=tmod_range (a:=xorI X (X.tdiv 64)) (b:=n) hx.1 (by omega)
    repeat (first|(refine gL ?_;refine s_pv (p_xor rfl rfl) rfl ?_)|refine Y ?_)
    exact ret_tmp rfl rfl ⟨_,⟨hm.1,fun h=>by omega,fun _=>hm.2⟩,rfl,HM.drop⟩
def rdr (A : Option Addr) (n c q g : Nat) : Asn:=exP (fun p : Int=>0 ≤ p ∧ p ≤ q) (fun p=>[box g 88 [.slice A n c,.int .i64 p]])
class RdAt (L : List Asn) (A : outParam (Option Addr)) (n c : outParam Nat) (g : Nat) (q : outParam Nat) (R : outParam (List Asn)) : Prop where out : L.Perm (rdr A n c q g :: R)
instance RdAt.here {A : Option Addr} {n c g q : Nat} {L : List Asn} : RdAt (rdr A n c q g :: L) A n c g q L:=⟨List.Perm.refl _⟩
instance (priority:=low) RdAt.there {A : Option Addr} {n c g q : Nat} {B : Asn} {L R : List Asn} [h : RdAt L A n c g q R] : RdAt (B :: L) A n c g q (B :: R):=⟨(List.Perm.cons B h.out).trans (List.Perm.swap ..)⟩
theorem Mem.rdr_up {q q' n g : Nat} (hq : q ≤ q') (h : Mem w0 W (rdr A n c q g :: L)) : Mem w0 W (rdr A n c q' g :: L):=by
  obtain ⟨p,hp,h⟩:=h.ex
  exact Mem.mkx p (by omega) h
theorem pick_c {g q : Nat} (hb : RoRow rByte w0 A bs) (hl : bs.length ≤ 2000) (n : Int) [hr : RdAt L A bs.length c g q R] (hq : q ≤ 1000000) (HM : Mem w0 W L) : Calls Tryz.prog 20 #[.pointer (some ⟨g,0,none⟩),.int .i64 n] W fun e W'=>∃ v : Int,(0 ≤ v ∧ (n < 1 → v = 0) ∧ (1 ≤ n → v < n)) ∧ e = .returned (.int .i64 v) ∧ Mem w0 W' (rdr A bs.length c (q + 1) g :: R):=by
  obtain ⟨p,hp,h⟩:=(HM.perm hr.out).ex
  refine (pick_p hb hl n p hp.1 (by omega) h).mono ?_
  rintro e W1 ⟨v,hv,rfl,HM1⟩
  exact ⟨v,hv,rfl,Mem.mkx (p + 1) (by omega) HM1⟩
theorem open_c (hb : RoRow rByte w0 A bs) (hc : bs.length ≤ c) (HM : Mem w0 W L) : Calls Tryz.prog 18 #[.slice A bs.length c] W fun e W'=>∃ (g : Nat) (bs' : List Int),RoRow rByte w0 A bs' ∧ bs'.length ≤ 2000 ∧ e = .returned (.pointer (some ⟨g,0,none⟩)) ∧ Mem w0 W' (rdr A bs'.length c 0 g :: L):=by
  refine enter Tryz.func18 rfl Tryz.ntmps18 [(0,_)] rfl ⟨rfl,trivial⟩ ?_
  by_cases c1 : (2000 : Int) < bs.length
  · repeat (first|refine Y ?_|(refine qg ?_;clear HM;intro g W1 HM))
    refine ret_tmp rfl rfl ⟨g,bs.take 2000,ro_take hb 2000,by rw [List.length_take];omega,rfl,?_⟩
    rw [show (bs.take 2000).length = 2000 by rw [List.length_take];omega]
    exact Mem.mkx 0 (by omega) HM
  · repeat (first|refine Y ?_|(refine qg ?_;clear HM;intro g W1 HM))
    exact ret_tmp rfl rfl ⟨g,bs,hb,by omega,rfl,Mem.mkx 0 (by omega) HM⟩
theorem nums1 (m : Int) : (strOfNums [m]).size = 1:=rfl
theorem dec_c : ∀ (k : Nat) (n : Int),n ≤ k → 0 ≤ n → n ≤ 100000 → ∀ {W : World} {L : List Asn},Mem w0 W L → Calls Tryz.prog 57 #[.int .i64 n] W fun e W'=>∃ t : ByteArray,(1 ≤ t.size ∧ (t.size : Int) ≤ n + 1) ∧ e = .returned (.string t) ∧ Mem w0 W' L
  | k,n,hk,h0,h1,W,L,HM=>by
    refine enter Tryz.func57 rfl Tryz.ntmps57 [(0,_)] rfl ⟨rfl,trivial⟩ ?_
    by_cases c1 : n < 10
    · repeat (first|(refine gL ?_;first|refine s_pv (p_conv2 rfl rfl) rfl ?_|refine s_convb2 HM rfl rfl ?_)|refine Y ?_|(refine qg ?_;clear HM;intro g W1 HM))
      exact ret_tmp rfl rfl ⟨_,⟨by rw [nums1];exact Nat.le_refl _,by rw [nums1];omega⟩,rfl,HM.drop⟩
    · have hd:=tdiv_range (a:=n) (b:=10) h0 (by decide)
      have hd2 : n.tdiv 10 < n:=by rw [Int.tdiv_eq_ediv_of_nonneg h0];omega
      have hk1 : (n.tdiv 10) ≤ ((k - 1 : Nat) : Int):=by omega
      have hm:=tmod_range (a:=n) (b:=10) h0 (by decide)
      obtain ⟨k',rfl⟩ : ∃ k',k = k' + 1:=⟨k - 1,by omega⟩
      repeat refine Y ?_
      refine gR ?_
      refine x_start (ds:=[]) HM (fun w hw=>hw) (by kernel_rfl) (by kernel_rfl) qq ?_
      intro HQ HS W1 HM1;replace HM:=HM1;clear HM1
      refine x_pv HQ HS 0 rfl (by kernel_rfl) (by kernel_rfl) (l':=#[true,false,false,false,false,false,false,false,false,false,false]) (by kernel_rfl) rfl ?_
      refine Y ?_
      refine x_pv HQ HS 1 rfl (by kernel_rfl) (by kernel_rfl) (l':=#[true,true,false,false,false,false,false,false,false,false,false]) (by kernel_rfl) rfl ?_
      refine Y ?_
      refine x_pv HQ HS 3 rfl (by kernel_rfl) (by kernel_rfl) (l':=#[true,true,false,true,false,false,false,false,false,false,false]) (by kernel_rfl) rfl ?_
      refine Y ?_
      refine x_pv HQ HS 4 rfl (by kernel_rfl) (by kernel_rfl) (l':=#[true,true,false,true,true,false,false,false,false,false,false]) (by kernel_rfl) rfl ?_
      refine Y ?_
      refine x_pv HQ HS 5 rfl (by kernel_rfl) (by kernel_rfl) (l':=#[true,true,false,true,true,true,false,false,false,false,false]) (by kernel_rfl) rfl ?_
      refine Y ?_
      refine x_two 2 6 (by kernel_rfl) rfl rfl (l':=#[true,true,true,true,true,true,false,false,false,false,false]) (l'':=#[true,true,false,true,true,true,true,false,false,false,false]) (by kernel_rfl) (by kernel_rfl) (x_go ?_) (x_go ?_)
      · repeat (first|(refine qf ?_;go_at_call 57;refine (dec_c k' (n.tdiv 10) (by omega) hd.1 (by omega) HM).mono ?_;rintro e W1 ⟨t,ht,rfl,HM1⟩;refine ⟨_,rfl,?_⟩;replace HM:=HM1;clear HM1)|refine Y ?_)
        refine x_one 6 (by kernel_rfl) rfl (l':=#[true,true,true,true,true,true,true,false,false,false,false]) (by kernel_rfl) (x_go ?_)
        repeat (first|(refine gL ?_;refine s_pv (p_conv2 rfl rfl) rfl ?_)|refine Y ?_)
        refine x_one 7 (by kernel_rfl) rfl (l':=#[true,true,true,true,true,true,true,true,false,false,false]) (by kernel_rfl) (x_go ?_)
        repeat (first|(refine qg ?_;clear HM;intro g W1 HM)|refine Y ?_)
        refine x_one 8 (by kernel_rfl) rfl (l':=#[true,true,true,true,true,true,true,true,true,false,false]) (by kernel_rfl) (x_go ?_)
        repeat (first|(refine gL ?_;refine s_convb2 HM rfl rfl ?_)|refine Y ?_)
        refine x_pv HQ HS 9 rfl (by kernel_rfl) (by kernel_rfl) (l':=#[true,true,true,true,true,true,true,true,true,true,false]) (by kernel_rfl) rfl ?_
        refine Y ?_
        refine x_pv HQ HS 10 rfl (by kernel_rfl) (by kernel_rfl) (l':=#[true,true,true,true,true,true,true,true,true,true,true]) (by kernel_rfl) rfl ?_
        refine Y ?_
        refine x_done (by kernel_rfl) ?_
        repeat refine Y ?_
        exact ret_tmp rfl rfl ⟨_,⟨by rw [ByteArray.size_append,nums1];omega,by rw [ByteArray.size_append,nums1];omega⟩,rfl,by first|exact HM|exact HM.drop⟩
      · repeat (first|(refine gL ?_;refine s_pv (p_conv2 rfl rfl) rfl ?_)|refine Y ?_)
        refine x_two 2 7 (by kernel_rfl) rfl rfl (l':=#[true,true,true,true,true,true,true,false,false,false,false]) (l'':=#[true,true,false,true,true,true,true,true,false,false,false]) (by kernel_rfl) (by kernel_rfl) (x_go ?_) (x_go ?_)
        · repeat (first|(refine qf ?_;go_at_call 57;refine (dec_c k' (n.tdiv 10) (by omega) hd.1 (by omega) HM).mono ?_;rintro e W1 ⟨t,ht,rfl,HM1⟩;refine ⟨_,rfl,?_⟩;replace HM:=HM1;clear HM1)|refine Y ?_)
          refine x_one 7 (by kernel_rfl) rfl (l':=#[true,true,true,true,true,true,true,true,false,false,false]) (by kernel_rfl) (x_go ?_)
          repeat (first|(refine qg ?_;clear HM;intro g W1 HM)|refine Y ?_)
          refine x_one 8 (by kernel_rfl) rfl (l':=#[true,true,true,true,true,true,true,true,true,false,false]) (by kernel_rfl) (x_go ?_)
          repeat (first|(refine gL ?_;refine s_convb2 HM rfl rfl ?_)|refine Y ?_)
          refine x_pv HQ HS 9 rfl (by kernel_rfl) (by kernel_rfl) (l':=#[true,true,true,true,true,true,true,true,true,true,false]) (by kernel_rfl) rfl ?_
          refine Y ?_
          refine x_pv HQ HS 10 rfl (by kernel_rfl) (by kernel_rfl) (l':=#[true,true,true,true,true,true,true,true,true,true,true]) (by kernel_rfl) rfl ?_
          refine Y ?_
          refine x_done (by kernel_rfl) ?_
          repeat refine Y ?_
          exact ret_tmp rfl rfl ⟨_,⟨by rw [ByteArray.size_append,nums1];omega,by rw [ByteArray.size_append,nums1];omega⟩,rfl,by first|exact HM|exact HM.drop⟩
        · repeat (first|(refine qg ?_;clear HM;intro g W1 HM)|refine Y ?_)
          refine x_two 2 8 (by kernel_rfl) rfl rfl (l':=#[true,true,true,true,true,true,true,true,false,false,false]) (l'':=#[true,true,false,true,true,true,true,true,true,false,false]) (by kernel_rfl) (by kernel_rfl) (x_go ?_) (x_go ?_)
          · repeat (first|(refine qf ?_;go_at_call 57;refine (dec_c k' (n.tdiv 10) (by omega) hd.1 (by omega) HM).mono ?_;rintro e W1 ⟨t,ht,rfl,HM1⟩;refine ⟨_,rfl,?_⟩;replace HM:=HM1;clear HM1)|refine Y ?_)
            refine x_one 8 (by kernel_rfl) rfl (l':=#[true,true,true,true,true,true,true,true,true,false,false]) (by kernel_rfl) (x_go ?_)
            repeat (first|(refine gL ?_;refine s_convb2 HM rfl rfl ?_)|refine Y ?_)
            refine x_pv HQ HS 9 rfl (by kernel_rfl) (by kernel_rfl) (l':=#[true,true,true,true,true,true,true,true,true,true,false]) (by kernel_rfl) rfl ?_
            refine Y ?_
            refine x_pv HQ HS 10 rfl (by kernel_rfl) (by kernel_rfl) (l':=#[true,true,true,true,true,true,true,true,true,true,true]) (by kernel_rfl) rfl ?_
            refine Y ?_
            refine x_done (by kernel_rfl) ?_
            repeat refine Y ?_
            exact ret_tmp rfl rfl ⟨_,⟨by rw [ByteArray.size_append,nums1];omega,by rw [ByteArray.size_append,nums1];omega⟩,rfl,by first|exact HM|exact HM.drop⟩
          · repeat (first|(refine gL ?_;refine s_convb2 HM rfl rfl ?_)|refine Y ?_)
            refine x_one 2 (by kernel_rfl) rfl (l':=#[true,true,true,true,true,true,true,true,true,false,false]) (by kernel_rfl) (x_go ?_)
            repeat (first|(refine qf ?_;go_at_call 57;refine (dec_c k' (n.tdiv 10) (by omega) hd.1 (by omega) HM).mono ?_;rintro e W1 ⟨t,ht,rfl,HM1⟩;refine ⟨_,rfl,?_⟩;replace HM:=HM1;clear HM1)|refine Y ?_)
            refine x_pv HQ HS 9 rfl (by kernel_rfl) (by kernel_rfl) (l':=#[true,true,true,true,true,true,true,true,true,true,false]) (by kernel_rfl) rfl ?_
            refine Y ?_
            refine x_pv HQ HS 10 rfl (by kernel_rfl) (by kernel_rfl) (l':=#[true,true,true,true,true,true,true,true,true,true,true]) (by kernel_rfl) rfl ?_
            refine Y ?_
            refine x_done (by kernel_rfl) ?_
            repeat refine Y ?_
            exact ret_tmp rfl rfl ⟨_,⟨by rw [ByteArray.size_append,nums1];omega,by rw [ByteArray.size_append,nums1];omega⟩,rfl,by first|exact HM|exact HM.drop⟩
termination_by k=>k
theorem text_c {g q : Nat} (hb : RoRow rByte w0 A bs) (hl : bs.length ≤ 2000) [hr : RdAt L A bs.length c g q R] (hq : q ≤ 1000000) (HM : Mem w0 W L) : Calls Tryz.prog 58 #[.pointer (some ⟨g,0,none⟩)] W fun e W'=>∃ t : ByteArray,t.size ≤ 20 ∧ e = .returned (.string t) ∧ Mem w0 W' (rdr A bs.length c (q + 1) g :: R):=by
  refine enter Tryz.func58 rfl Tryz.ntmps58 [(0,_)] rfl ⟨rfl,trivial⟩ ?_
  repeat (first|(refine gL ?_;refine s_pv (p_concat2 rfl rfl (by rw [show (ByteArray.mk #[116]).size = 1 from rfl];omega)) rfl ?_)|refine Y ?_|(refine qf ?_;first|(go_at_call 20;refine (pick_c hb hl 9 hq HM).mono ?_;rintro e W1 ⟨v,hv,rfl,HM1⟩;refine ⟨_,rfl,?_⟩;replace HM:=HM1;clear HM1;have hv2:=hv.2.2 (by decide))|(go_at_call 57;refine (dec_c 9 v (by omega) hv.1 (by omega) HM).mono ?_;rintro e W1 ⟨t,ht,rfl,HM1⟩;refine ⟨_,rfl,?_⟩;replace HM:=HM1;clear HM1;have ht2 : t.size ≤ 10:=by omega)))
  exact ret_tmp rfl rfl ⟨_,by rw [ByteArray.size_append,show (ByteArray.mk #[116]).size = 1 from rfl];omega,rfl,HM⟩
end Go.Proofs.YtampmicahnnebaaGreat.Sp
