/- The law FnRecorder. No condition. -/
import Derived.Test.YtampmicahnnebaaGreatRecClaim16
import Derived.Test.YtampmicahnnebaaGreatRecClaim17
import Derived.Test.YtampmicahnnebaaGreatRecClaim18
import Derived.Test.YtampmicahnnebaaGreatRecClaim11
import Derived.Test.YtampmicahnnebaaGreatRecClaim3
import Derived.Test.YtampmicahnnebaaGreatRecClaim9
import Derived.Test.YtampmicahnnebaaGreatRecClaim1
set_option linter.unusedVariables false
set_option linter.unusedSimpArgs false
namespace Go.Proofs.YtampmicahnnebaaGreat.Sp
open Go Go.RowKit
set_option maxRecDepth 10000
set_option maxHeartbeats 4000000
theorem ro_slot_at2 {w0 W : World} {L : List Asn} {A : Option Addr} {c e : Nat} {xs : List Slot} [h : OwnAt L A c Slot tSlot e xs] (hm : Mem w0 W L) : RoRow (rSlot false) W A xs:=by
  obtain ⟨F,hF⟩:=hm.own (A:=A)
  exact ro_slots hF
theorem ro_msg_at2 {w0 W : World} {L : List Asn} {A : Option Addr} {c e eS : Nat} {xs : List Msg} [h : OwnAt L A c Msg (tMsg eS) e xs] (hm : Mem w0 W L) : RoRow (rMsg false) W A xs:=by
  obtain ⟨F,hF⟩:=hm.own (A:=A)
  exact ro_msgs hF
theorem wRecorder_l {w0 W : World} {L : List Asn} (x : Rcd) (i j : AtRcd) (h1 : RoRcd false w0 x i) (h2 : RoRcd false w0 x j) (hn : SmallR x) (hk : RcdK x) (HM : Mem w0 W L) : Calls Tryz.prog 7 #[.agg ([.int .i64 x.number,.int .i64 x.of,.bool x.up,.int .i64 x.sp,.int .i64 x.sk,.slice i.a0.1 x.ss.length i.a0.2,.int .i64 x.dp,.int .i64 x.dk,.slice i.a1.1 x.ds.length i.a1.2,.slice i.a2.1 x.held.length i.a2.2,.slice i.a3.1 x.wishes.length i.a3.2,.bool x.lead,.bool x.trying,.int .i64 x.ballot,.slice i.a4.1 x.yes.length i.a4.2,.slice i.a5.1 x.best.length i.a5.2,.slice i.a6.1 x.acks.length i.a6.2,.int .i64 x.heard]).toArray,.agg ([.int .i64 x.number,.int .i64 x.of,.bool x.up,.int .i64 x.sp,.int .i64 x.sk,.slice j.a0.1 x.ss.length j.a0.2,.int .i64 x.dp,.int .i64 x.dk,.slice j.a1.1 x.ds.length j.a1.2,.slice j.a2.1 x.held.length j.a2.2,.slice j.a3.1 x.wishes.length j.a3.2,.bool x.lead,.bool x.trying,.int .i64 x.ballot,.slice j.a4.1 x.yes.length j.a4.2,.slice j.a5.1 x.best.length j.a5.2,.slice j.a6.1 x.acks.length j.a6.2,.int .i64 x.heard]).toArray] W fun e W'=>e = .returned (.bool true) ∧ Mem w0 W' L:=wRecorder_c x i j h1 h2 hn hk HM
theorem implValid_l {w0 W : World} {L : List Asn} (x : Rcd) (i : AtRcd) (h : RoRcd false w0 x i) (hc : x.wishes.length ≤ i.a3.2) (hn : SmallR x) (HM : Mem w0 W L) : Calls Tryz.prog 10 #[.agg ([.int .i64 x.number,.int .i64 x.of,.bool x.up,.int .i64 x.sp,.int .i64 x.sk,.slice i.a0.1 x.ss.length i.a0.2,.int .i64 x.dp,.int .i64 x.dk,.slice i.a1.1 x.ds.length i.a1.2,.slice i.a2.1 x.held.length i.a2.2,.slice i.a3.1 x.wishes.length i.a3.2,.bool x.lead,.bool x.trying,.int .i64 x.ballot,.slice i.a4.1 x.yes.length i.a4.2,.slice i.a5.1 x.best.length i.a5.2,.slice i.a6.1 x.acks.length i.a6.2,.int .i64 x.heard]).toArray] W fun e W'=>e = .returned (.bool (validB x)) ∧ Mem w0 W' L:=implValid x i h hc hn HM
theorem specValid_l {w0 W : World} {L : List Asn} (x : Rcd) (i : AtRcd) (h : RoRcd false w0 x i) (hn : SmallR x) (HM : Mem w0 W L) : Calls Tryz.prog 9 #[.agg ([.int .i64 x.number,.int .i64 x.of,.bool x.up,.int .i64 x.sp,.int .i64 x.sk,.slice i.a0.1 x.ss.length i.a0.2,.int .i64 x.dp,.int .i64 x.dk,.slice i.a1.1 x.ds.length i.a1.2,.slice i.a2.1 x.held.length i.a2.2,.slice i.a3.1 x.wishes.length i.a3.2,.bool x.lead,.bool x.trying,.int .i64 x.ballot,.slice i.a4.1 x.yes.length i.a4.2,.slice i.a5.1 x.best.length i.a5.2,.slice i.a6.1 x.acks.length i.a6.2,.int .i64 x.heard]).toArray] W fun e W'=>e = .returned (.bool (validB x)) ∧ Mem w0 W' L:=specValid x i h hn HM
theorem Mem.emp {w0 W : World} {L : List Asn} (h : Mem w0 W L) : Mem w0 W []:=⟨h.below,trivial⟩
theorem c_cutc {P : Program} {n : Nat} {Q Q' : Exit → Act → World → Prop} {E : Env} {W : World} {σ : Type} {a x y : Code} (J : σ → Env) (M : σ → World → Prop) (h1 : WC P n a (Exit.then (x.wp P (Exit.then (MidP n J M) Q')) (Exit.then (MidP n J M) Q')) E W) (h2 : ∀ s W,M s W → WC P n y Q (J s) W) : WC P n a (Exit.then (x.wp P (Exit.then (y.wp P Q) Q')) (Exit.then (y.wp P Q) Q')) E W:=by
  have st : ∀ e s w,Exit.then (MidP n J M) Q' e s w → Exit.then (y.wp P Q) Q' e s w:=by
    intro e s w h
    cases e with
    | normal=>exact mid_wp h2 h
    | _=>exact h
  refine ⟨fun s hs=>wp_mono (h1.out s hs) fun e a' w' hq=>?_⟩
  cases e with
  | normal=>exact wp_mono hq st
  | _=>exact hq
theorem rcdk_vr {x : Rcd} (h : VR x) : RcdK x:=⟨fun s hs=>slotK_of (h.safe.slots.2 s hs),fun s hs=>slotK_of (h.disk.slots.2 s hs),fun s hs=>slotK_of (h.best.2 s hs),fun m hm s hs=>slotK_of ((h.held m hm).1.slots.2 s hs)⟩
theorem zero_facts : SmallR zeroR ∧ RcdK zeroR:=⟨by constructor <;> simp [zeroR],by constructor <;> simp [zeroR]⟩
theorem vr_facts {x : Rcd} (h : VR x) : SmallR x ∧ RcdK x:=⟨h.small,rcdk_vr h⟩
theorem tick_facts (x : Rcd) : (SmallR (recTickL x) ∧ RcdK (recTickL x)) ∧ (recTickO x).length ≤ 1048576 ∧ (∀ m ∈ recTickO x,m.slots.length ≤ 1048576) ∧ ∀ m ∈ recTickO x,∀ s ∈ m.slots,SlotK s:=by
  by_cases h : validB x = true
  · obtain ⟨a,b,c⟩:=vr_recTick h
    exact ⟨vr_facts a,recTickO_len h,fun m hm=>by have:=(c m hm).1.slots.1;omega,fun m hm s hs=>slotK_of ((c m hm).1.slots.2 s hs)⟩
  · rw [recTickL,recTickO,if_neg h,if_neg h]
    exact ⟨zero_facts,by simp,by simp,by simp⟩
theorem take_facts (x : Rcd) (m : Msg) : SmallR (recTakeL x m) ∧ RcdK (recTakeL x m):=by
  by_cases h : validB x = true
  · exact vr_facts (vr_recTake h).1
  · rw [recTakeL,if_neg h];exact zero_facts
theorem wish_facts (x : Rcd) (t : ByteArray) : SmallR (wishL x t) ∧ RcdK (wishL x t):=by
  by_cases h : validB x = true
  · exact vr_facts (vr_wishL (validB_iff.1 h)).1
  · rw [wishL,if_neg h];exact zero_facts
theorem law {A : Option Addr} {c : Nat} {bs : List Int} (w : World) (hb : RoRow rByte w A bs) (hc : bs.length ≤ c) : Calls Tryz.prog 3 #[.slice A bs.length c] w fun e w'=>e = .returned (.bool true) ∧ Below w.heap.size w w':=by
  refine enter Tryz.func3 rfl Tryz.ntmps3 [(0,_)] rfl ⟨rfl,trivial⟩ ?_
  have HM:=Mem.start w
  by_cases hz : (1048576 : Int) < bs.length
  · repeat refine Y ?_
    exact ret_tmp rfl rfl ⟨rfl,HM.below⟩
  repeat (first|refine Y ?_|(refine qs ?_;clear HM;intro W1 HM)|(refine qf ?_;go_at_call 4;refine (drawt_c hb hc HM).mono ?_;rintro e W1 ⟨x,j,hn,rfl,HM1⟩;refine ⟨_,rfl,?_⟩;replace HM:=HM1;clear HM1;simp only [partRcd,List.cons_append,List.nil_append] at HM;simp only [encRcd])|(refine qg ?_;clear HM;intro g W1 HM))
  obtain ⟨⟨nT,kT⟩,oL,oS,oK⟩:=tick_facts x
  obtain ⟨g3,hg3⟩ : ∃ z,z = g:=⟨_,rfl⟩
  repeat (first|refine Y ?_|(refine qs ?_;clear HM;intro W1 HM)|(refine qf ?_;first|(go_at_call 5;refine (implRecTick x j (by exact ro_rec1 (eS:=91) (eM:=40) (eT:=9) (eI:=3) (eA:=66) HM) (by exact ro_cap1 (eS:=91) (eM:=40) (eT:=9) (eI:=3) (eA:=66) HM) hn (Mem.start _)).mono ?_;rintro e W1 ⟨jg,Ag,cg,rfl,HM1⟩;refine ⟨_,rfl,?_⟩;replace HM:=HM.join HM1;clear HM1;simp only [partRcd,List.cons_append,List.nil_append] at HM;simp only [encRcd])|(go_at_call 6;refine (specRecTick x j (by exact ro_rec1 (eS:=91) (eM:=40) (eT:=9) (eI:=3) (eA:=66) HM) hn (Mem.start _)).mono ?_;rintro e W1 ⟨jw,Aw,cw,rfl,HM1⟩;refine ⟨_,rfl,?_⟩;replace HM:=HM.join HM1;clear HM1;simp only [partRcd,List.cons_append,List.nil_append] at HM;simp only [encRcd])|(go_at_call 7;(with_reducible refine (wRecorder_l (recTickL x) jg jw ?_ ?_ nT kT (Mem.start _)).mono ?_);exact ro_rec1 (eS:=91) (eM:=40) (eT:=9) (eI:=3) (eA:=66) HM;exact ro_rec1 (eS:=91) (eM:=40) (eT:=9) (eI:=3) (eA:=66) HM;rintro e W1 ⟨rfl,HM1⟩;refine ⟨_,rfl,?_⟩;have HM2:=HM.step HM1.below;clear HM HM1;have HM:=HM2;clear HM2)|(go_at_call 8;(with_reducible refine (wMessages_c (xs:=recTickO x) ?_ ?_ oS oK (Mem.start _)).mono ?_);exact ro_msg_at2 HM;exact ro_msg_at2 HM;rintro e W1 ⟨rfl,HM1⟩;refine ⟨_,rfl,?_⟩;have HM2:=HM.step HM1.below;clear HM HM1;have HM:=HM2;clear HM2)|(go_at_call 9;(with_reducible refine (specValid_l x j ?_ hn (Mem.start _)).mono ?_);exact ro_rec1 (eS:=91) (eM:=40) (eT:=9) (eI:=3) (eA:=66) HM;rintro e W1 ⟨rfl,HM1⟩;refine ⟨_,rfl,?_⟩;have HM2:=HM.step HM1.below;clear HM HM1;have HM:=HM2;clear HM2))|(refine qg ?_;clear HM;intro g W1 HM))
  by_cases hv : validB x = true
  rotate_left
  · have hof : (recTickL x).of = 0:=by rw [recTickL,if_neg hv];rfl
    have hol : decide (((recTickO x).length : Int) = 0) = true:=by rw [recTickO,if_neg hv];rfl
    simp only [Bool.not_eq_true] at hv
    repeat (first|refine Y ?_|(refine qf ?_;go_at_call 10;(with_reducible refine (implValid_l x j ?_ ?_ hn (Mem.start _)).mono ?_);exact ro_rec1 (eS:=91) (eM:=40) (eT:=9) (eI:=3) (eA:=66) HM;exact (show x.ds.length ≤ j.a1.2 ∧ x.wishes.length ≤ j.a3.2 from ro_cap1 (eS:=91) (eM:=40) (eT:=9) (eI:=3) (eA:=66) HM).2;rw [hv];rintro e W1 ⟨rfl,HM1⟩;refine ⟨_,rfl,?_⟩;have HM2:=HM.step HM1.below;clear HM HM1;have HM:=HM2;clear HM2))
    exact ret_tmp rfl rfl ⟨by simp,HM.below⟩
  obtain ⟨vT,kp,oP⟩:=vr_recTick hv
  have bT:=validB_iff.2 vT
  have hd1 : decide ((recTickL x).dp < x.dp) = false:=decide_eq_false (by have:=kp.dp;omega)
  repeat (first|refine Y ?_|(refine qf ?_;first|(go_at_call 10;(with_reducible refine (implValid_l (recTickL x) jg ?_ ?_ nT (Mem.start _)).mono ?_);exact ro_rec1 (eS:=91) (eM:=40) (eT:=9) (eI:=3) (eA:=66) HM;exact (show (recTickL x).ds.length ≤ jg.a1.2 ∧ (recTickL x).wishes.length ≤ jg.a3.2 from ro_cap1 (eS:=91) (eM:=40) (eT:=9) (eI:=3) (eA:=66) HM).2;rw [bT];rintro e W1 ⟨rfl,HM1⟩;refine ⟨_,rfl,?_⟩;have HM2:=HM.step HM1.below;clear HM HM1;have HM:=HM2;clear HM2)|(go_at_call 9;(with_reducible refine (specValid_l (recTickL x) jg ?_ nT (Mem.start _)).mono ?_);exact ro_rec1 (eS:=91) (eM:=40) (eT:=9) (eI:=3) (eA:=66) HM;rw [bT];rintro e W1 ⟨rfl,HM1⟩;refine ⟨_,rfl,?_⟩;have HM2:=HM.step HM1.below;clear HM HM1;have HM:=HM2;clear HM2)))
  subst hg3
  rename World=>Wc
  rename Nat=>gj
  have hro:=ro_msg_at2 (A:=Ag) HM
  have HB:=((Mem.start Wc).robox (HM.heap (g:=g3))).pur hro
  have HN:=HM
  clear HM
  have HM:=HB
  clear HB
  refine c_loop (σ:=Nat) (fun k=>[(0,.slice A bs.length c),(3,.pointer (some ⟨g3,0,none⟩)),(5,.slice Ag (recTickO x).length cg),(8,.int .i64 k)]) (fun k W1=>k ≤ (recTickO x).length ∧ Mem Wc W1 [ro (rMsg false) Wc Ag (recTickO x),roB Wc g3 31 [.int .i64 x.number,.int .i64 x.of,.bool x.up,.int .i64 x.sp,.int .i64 x.sk,.slice j.a0.1 x.ss.length j.a0.2,.int .i64 x.dp,.int .i64 x.dk,.slice j.a1.1 x.ds.length j.a1.2,.slice j.a2.1 x.held.length j.a2.2,.slice j.a3.1 x.wishes.length j.a3.2,.bool x.lead,.bool x.trying,.int .i64 x.ballot,.slice j.a4.1 x.yes.length j.a4.2,.slice j.a5.1 x.best.length j.a5.2,.slice j.a6.1 x.acks.length j.a6.2,.int .i64 x.heard]]) (fun k=>(recTickO x).length - k) 0 U ⟨Nat.zero_le _,HM⟩ ?_
  clear HM
  rintro k W1 ⟨hk,HM⟩
  by_cases hlt : k < (recTickO x).length
  · obtain ⟨cc,⟨j1,rfl,g1⟩,HM⟩:=HM.roOpen (A:=Ag) k hlt
    obtain ⟨mp,mf⟩:=oP _ (List.getElem_mem hlt)
    have mb:=msgB_iff.2 mp
    have hd2 : (!decide ((rdR (rMsg false) (recTickO x) (k : Int)).frm = x.number)) = false:=by rw [rdR_at hlt,mf];simp
    repeat (first|(refine gR ?_;refine d_start [] [(0,0),(0,1),(0,2),(0,4),(1,3),(1,5),(2,6),(0,7),(0,8),(0,9),(0,10),(0,11),(0,12),(0,14),(1,13),(1,15),(0,16),(0,17)] HM (by kernel_rfl) (by kernel_rfl) qq (by kernel_rfl) rfl ?_;intro HQ HS W1 HM1;replace HM:=HM1;clear HM1)|refine Y ?_|(refine qf ?_;go_at_call 11;refine (implMsg (recTickO x)[k] j1 x.of g1.2 HM).mono ?_;rw [mb];rintro e W1 ⟨rfl,HM1⟩;refine ⟨_,rfl,?_⟩;replace HM:=HM1;clear HM1))
    exact n_round (k + 1) U ⟨by omega,HM.sb⟩ (by omega)
  have HM2:=(HN.step HM.below).emp
  clear HM HN hro
  have HM:=HM2
  clear HM2
  repeat (first|refine Y ?_|(refine qs ?_;clear HM;intro W1 HM)|(refine qf ?_;first|(go_at_call 12;refine (drawk_c hb hc HM).mono ?_;rintro e W1 ⟨s,js,m,am,⟨hns,hms⟩,rfl,HM1⟩;refine ⟨_,rfl,?_⟩;replace HM:=HM1;clear HM1;simp only [partRcd,List.cons_append,List.nil_append] at HM;simp only [encRcd,encMsg])|(go_at_call 13;refine (implRecTake s js m am (by exact ro_rec1 (eS:=91) (eM:=40) (eT:=9) (eI:=3) (eA:=66) HM) (by exact ro_cap1 (eS:=91) (eM:=40) (eT:=9) (eI:=3) (eA:=66) HM) hns (by exact ro_slot_at2 HM) (Mem.start _)).mono ?_;rintro e W1 ⟨jy,rfl,HM1⟩;refine ⟨_,rfl,?_⟩;replace HM:=HM.join HM1;clear HM1;simp only [partRcd,List.cons_append,List.nil_append] at HM;simp only [encRcd]))|(refine qg ?_;clear HM;intro g W1 HM))
  obtain ⟨nY,kY⟩:=take_facts s m
  refine c_cutc (σ:=Unit) (fun _=>[(0,.slice A bs.length c)]) (fun _ W1=>Mem w W1 []) ?_ ?_
  · by_cases hvs : validB s = true
    · obtain ⟨vY,kp2⟩:=vr_recTake (m:=m) hvs
      have bY:=validB_iff.2 vY
      have hd3 : decide ((recTakeL s m).dp < s.dp) = false:=decide_eq_false (by have:=kp2.dp;omega)
      have hd4 : decide ((recTakeL s m).dk < s.dk) = false:=decide_eq_false (by have:=kp2.dk;omega)
      repeat (first|(refine gN ?_;refine d_back (by first|exact HM|exact HM.drop.drop.drop.drop.drop.drop.drop) ?_)|(refine gR ?_;refine d_start [] [(1,0),(1,1),(1,2),(2,3),(2,4),(0,5),(0,6),(1,7),(2,8),(0,9),(1,10),(2,11),(0,12),(0,13),(0,14),(0,15),(0,17),(0,18),(1,16),(1,19),(0,20),(0,21),(0,22),(0,23),(0,24),(0,26),(0,27),(1,25),(1,28),(0,29),(0,30),(0,31),(0,32)] HM (by kernel_rfl) (by kernel_rfl) qq (by kernel_rfl) rfl ?_;intro HQ HS W1 HM1;replace HM:=HM1;clear HM1)|refine Y ?_|(refine qf ?_;first|(go_at_call 14;refine (specRecTake s js m am (by exact ro_rec1 (eS:=91) (eM:=40) (eT:=9) (eI:=3) (eA:=66) HM) hns (by exact ro_slot_at2 HM) hms (Mem.start _)).mono ?_;rintro e W1 ⟨jz,rfl,HM1⟩;refine ⟨_,rfl,?_⟩;replace HM:=HM.join HM1;clear HM1;simp only [partRcd,List.cons_append,List.nil_append] at HM;simp only [encRcd])|(go_at_call 7;(with_reducible refine (wRecorder_l (recTakeL s m) jy jz ?_ ?_ nY kY (Mem.start _)).mono ?_);exact ro_rec1 (eS:=91) (eM:=40) (eT:=9) (eI:=3) (eA:=66) HM;exact ro_rec1 (eS:=91) (eM:=40) (eT:=9) (eI:=3) (eA:=66) HM;rintro e W1 ⟨rfl,HM1⟩;refine ⟨_,rfl,?_⟩;have HM2:=HM.step HM1.below;clear HM HM1;have HM:=HM2;clear HM2)|(go_at_call 9;(with_reducible refine (specValid_l s js ?_ hns (Mem.start _)).mono ?_);exact ro_rec1 (eS:=91) (eM:=40) (eT:=9) (eI:=3) (eA:=66) HM;rw [hvs];rintro e W1 ⟨rfl,HM1⟩;refine ⟨_,rfl,?_⟩;have HM2:=HM.step HM1.below;clear HM HM1;have HM:=HM2;clear HM2)|(go_at_call 10;(with_reducible refine (implValid_l (recTakeL s m) jy ?_ ?_ nY (Mem.start _)).mono ?_);exact ro_rec1 (eS:=91) (eM:=40) (eT:=9) (eI:=3) (eA:=66) HM;exact (show (recTakeL s m).ds.length ≤ jy.a1.2 ∧ (recTakeL s m).wishes.length ≤ jy.a3.2 from ro_cap1 (eS:=91) (eM:=40) (eT:=9) (eI:=3) (eA:=66) HM).2;rw [bY];rintro e W1 ⟨rfl,HM1⟩;refine ⟨_,rfl,?_⟩;have HM2:=HM.step HM1.below;clear HM HM1;have HM:=HM2;clear HM2)))
      exact n_mid () U HM.emp
    · simp only [Bool.not_eq_true] at hvs
      repeat (first|(refine gN ?_;refine d_back (by first|exact HM|exact HM.drop.drop.drop.drop.drop.drop.drop) ?_)|(refine gR ?_;refine d_start [] [(1,0),(1,1),(1,2),(2,3),(2,4),(0,5),(0,6),(1,7),(2,8),(0,9),(1,10),(2,11),(0,12),(0,13),(0,14),(0,15),(0,17),(0,18),(1,16),(1,19),(0,20),(0,21),(0,22),(0,23),(0,24),(0,26),(0,27),(1,25),(1,28),(0,29),(0,30),(0,31),(0,32)] HM (by kernel_rfl) (by kernel_rfl) qq (by kernel_rfl) rfl ?_;intro HQ HS W1 HM1;replace HM:=HM1;clear HM1)|refine Y ?_|(refine qf ?_;first|(go_at_call 14;refine (specRecTake s js m am (by exact ro_rec1 (eS:=91) (eM:=40) (eT:=9) (eI:=3) (eA:=66) HM) hns (by exact ro_slot_at2 HM) hms (Mem.start _)).mono ?_;rintro e W1 ⟨jz,rfl,HM1⟩;refine ⟨_,rfl,?_⟩;replace HM:=HM.join HM1;clear HM1;simp only [partRcd,List.cons_append,List.nil_append] at HM;simp only [encRcd])|(go_at_call 7;(with_reducible refine (wRecorder_l (recTakeL s m) jy jz ?_ ?_ nY kY (Mem.start _)).mono ?_);exact ro_rec1 (eS:=91) (eM:=40) (eT:=9) (eI:=3) (eA:=66) HM;exact ro_rec1 (eS:=91) (eM:=40) (eT:=9) (eI:=3) (eA:=66) HM;rintro e W1 ⟨rfl,HM1⟩;refine ⟨_,rfl,?_⟩;have HM2:=HM.step HM1.below;clear HM HM1;have HM:=HM2;clear HM2)|(go_at_call 9;(with_reducible refine (specValid_l s js ?_ hns (Mem.start _)).mono ?_);exact ro_rec1 (eS:=91) (eM:=40) (eT:=9) (eI:=3) (eA:=66) HM;rw [hvs];rintro e W1 ⟨rfl,HM1⟩;refine ⟨_,rfl,?_⟩;have HM2:=HM.step HM1.below;clear HM HM1;have HM:=HM2;clear HM2)))
      exact n_mid () U HM.emp
  clear HM
  rintro ⟨⟩ W1 HM
  repeat (first|refine Y ?_|(refine qs ?_;clear HM;intro W1 HM)|(refine qf ?_;first|(go_at_call 15;refine (draww_c hb hc HM).mono ?_;rintro e W1 ⟨t,jt,tx,hnt,htx,rfl,HM1⟩;refine ⟨_,rfl,?_⟩;replace HM:=HM1;clear HM1;simp only [partRcd,List.cons_append,List.nil_append] at HM;simp only [encRcd])|(go_at_call 16;refine (implRecWish t jt tx (by exact ro_rec1 (eS:=91) (eM:=40) (eT:=9) (eI:=3) (eA:=66) HM) (by exact ro_cap1 (eS:=91) (eM:=40) (eT:=9) (eI:=3) (eA:=66) HM) hnt htx (Mem.start _)).mono ?_;rintro e W1 ⟨jz,rfl,HM1⟩;refine ⟨_,rfl,?_⟩;replace HM:=HM.join HM1;clear HM1;simp only [partRcd,List.cons_append,List.nil_append] at HM;simp only [encRcd]))|(refine qg ?_;clear HM;intro g W1 HM))
  obtain ⟨nZ,kZ⟩:=wish_facts t tx
  by_cases hvt : validB t = true
  · have bZ:=validB_iff.2 (vr_wishL (t:=tx) (validB_iff.1 hvt)).1
    repeat (first|(refine gN ?_;refine d_back (by first|exact HM|exact HM.drop.drop.drop.drop.drop.drop.drop) ?_)|(refine gR ?_;refine d_start [] [(0,2),(1,0),(1,1),(2,3),(2,4),(0,5),(1,6),(2,7),(0,8),(0,9),(1,10),(2,11),(0,12),(0,13),(0,14)] HM (by kernel_rfl) (by kernel_rfl) qq (by kernel_rfl) rfl ?_;intro HQ HS W1 HM1;replace HM:=HM1;clear HM1)|refine Y ?_|(refine qf ?_;first|(go_at_call 17;refine (specRecWish t jt tx (by exact ro_rec1 (eS:=91) (eM:=40) (eT:=9) (eI:=3) (eA:=66) HM) hnt htx (Mem.start _)).mono ?_;rintro e W1 ⟨jw2,rfl,HM1⟩;refine ⟨_,rfl,?_⟩;replace HM:=HM.join HM1;clear HM1;simp only [partRcd,List.cons_append,List.nil_append] at HM;simp only [encRcd])|(go_at_call 7;(with_reducible refine (wRecorder_l (wishL t tx) jz jw2 ?_ ?_ nZ kZ (Mem.start _)).mono ?_);exact ro_rec1 (eS:=91) (eM:=40) (eT:=9) (eI:=3) (eA:=66) HM;exact ro_rec1 (eS:=91) (eM:=40) (eT:=9) (eI:=3) (eA:=66) HM;rintro e W1 ⟨rfl,HM1⟩;refine ⟨_,rfl,?_⟩;have HM2:=HM.step HM1.below;clear HM HM1;have HM:=HM2;clear HM2)|(go_at_call 9;(with_reducible refine (specValid_l t jt ?_ hnt (Mem.start _)).mono ?_);exact ro_rec1 (eS:=91) (eM:=40) (eT:=9) (eI:=3) (eA:=66) HM;rw [hvt];rintro e W1 ⟨rfl,HM1⟩;refine ⟨_,rfl,?_⟩;have HM2:=HM.step HM1.below;clear HM HM1;have HM:=HM2;clear HM2)|(go_at_call 10;(with_reducible refine (implValid_l (wishL t tx) jz ?_ ?_ nZ (Mem.start _)).mono ?_);exact ro_rec1 (eS:=91) (eM:=40) (eT:=9) (eI:=3) (eA:=66) HM;exact (show (wishL t tx).ds.length ≤ jz.a1.2 ∧ (wishL t tx).wishes.length ≤ jz.a3.2 from ro_cap1 (eS:=91) (eM:=40) (eT:=9) (eI:=3) (eA:=66) HM).2;rw [bZ];rintro e W1 ⟨rfl,HM1⟩;refine ⟨_,rfl,?_⟩;have HM2:=HM.step HM1.below;clear HM HM1;have HM:=HM2;clear HM2)))
    exact ret_tmp rfl rfl ⟨by simp,HM.below⟩
  · simp only [Bool.not_eq_true] at hvt
    repeat (first|(refine gN ?_;refine d_back (by first|exact HM|exact HM.drop.drop.drop.drop.drop.drop.drop) ?_)|(refine gR ?_;refine d_start [] [(0,2),(1,0),(1,1),(2,3),(2,4),(0,5),(1,6),(2,7),(0,8),(0,9),(1,10),(2,11),(0,12),(0,13),(0,14)] HM (by kernel_rfl) (by kernel_rfl) qq (by kernel_rfl) rfl ?_;intro HQ HS W1 HM1;replace HM:=HM1;clear HM1)|refine Y ?_|(refine qf ?_;first|(go_at_call 17;refine (specRecWish t jt tx (by exact ro_rec1 (eS:=91) (eM:=40) (eT:=9) (eI:=3) (eA:=66) HM) hnt htx (Mem.start _)).mono ?_;rintro e W1 ⟨jw2,rfl,HM1⟩;refine ⟨_,rfl,?_⟩;replace HM:=HM.join HM1;clear HM1;simp only [partRcd,List.cons_append,List.nil_append] at HM;simp only [encRcd])|(go_at_call 7;(with_reducible refine (wRecorder_l (wishL t tx) jz jw2 ?_ ?_ nZ kZ (Mem.start _)).mono ?_);exact ro_rec1 (eS:=91) (eM:=40) (eT:=9) (eI:=3) (eA:=66) HM;exact ro_rec1 (eS:=91) (eM:=40) (eT:=9) (eI:=3) (eA:=66) HM;rintro e W1 ⟨rfl,HM1⟩;refine ⟨_,rfl,?_⟩;have HM2:=HM.step HM1.below;clear HM HM1;have HM:=HM2;clear HM2)|(go_at_call 9;(with_reducible refine (specValid_l t jt ?_ hnt (Mem.start _)).mono ?_);exact ro_rec1 (eS:=91) (eM:=40) (eT:=9) (eI:=3) (eA:=66) HM;rw [hvt];rintro e W1 ⟨rfl,HM1⟩;refine ⟨_,rfl,?_⟩;have HM2:=HM.step HM1.below;clear HM HM1;have HM:=HM2;clear HM2)))
    exact ret_tmp rfl rfl ⟨by simp,HM.below⟩
end Go.Proofs.YtampmicahnnebaaGreat.Sp
namespace Go.Proofs.YtampmicahnnebaaGreat.Sp
open Go Go.RowKit Go.ChangeShapes Go.WideShapes
structure OpP (P : Program) (t sz : Nat) (R : World → List Value → Prop) : Prop where
  out : ∀ {H : Type} (enc : TypeId × Value → H) (w : World) (fuel : Nat) (cs : List Value) (x : DataW H × List MemPlace),DataW.trod enc P w 0 (fun _=>true) true fuel t cs = some x → R w cs
theorem choose_list {α : Type} {P : Nat → α → Prop} : ∀ n,(∀ i,i < n → ∃ y,P i y) → ∃ ys : List α,ys.length = n ∧ ∀ i (h : i < ys.length),P i ys[i]
  | 0,_=>⟨[],rfl,fun i h=>by simp at h⟩
  | n + 1,h=>by
    obtain ⟨ys,hl,hp⟩:=choose_list n (fun i hi=>h i (by omega))
    obtain ⟨y,hy⟩:=h n (by omega)
    refine ⟨ys ++ [y],by simp [hl],fun i hi=>?_⟩
    rcases Nat.lt_or_ge i n with h1|h1
    · rw [List.getElem_append_left (by omega)];exact hp i (by omega)
    · have : i = n:=by simp at hi;omega
      subst this
      rw [List.getElem_append_right (by omega)]
      simpa [hl] using hy
theorem opSlice {α : Type} {P : Program} {t e : Nat} {D : TyR α} (ht : P.underlying t = some (.slice e)) (hc : P.cellsOf e = D.sz) (he : OpP P e D.sz (fun w cs=>∃ x,D.R w x cs)) :
    OpP P t 1 (fun w cs=>∃ (xs : List α) (A : Option Addr) (c : Nat),cs = [.slice A xs.length c] ∧ RoRow D w A xs):=⟨fun enc w fuel cs x hx=>by
  rcases DataW.trod_slice ht hx with ⟨rfl,_⟩|⟨a,len,cap,elems,rest,n,_,rfl,_,_,hlc,hcm,hlen,hel,_,_⟩
  · exact ⟨[],none,0,rfl,by simp,fun h=>by simp at h,fun i h=>by simp at h⟩
  · obtain ⟨ys,hyl,hys⟩:=choose_list (P:=fun i y=>∃ c,w.cells? 0 (a.add (i * P.cellsOf e)) (P.cellsOf e) = some c ∧ D.R w y c) len (fun i hi=>by
      have h1:=hel i hi
      rw [List.getElem?_eq_getElem (by omega : i < elems.length)] at h1
      obtain ⟨c,hc1,hc2⟩:=Option.bind_eq_some_iff.1 h1
      obtain ⟨y,hy1⟩:=he.out enc w n c _ hc2
      exact ⟨y,c,hc1,hy1⟩)
    have hml : len ≤ maxLen:=Nat.le_trans hlc hcm
    refine ⟨ys,some a,cap,by rw [hyl],by unfold maxLen at hml;omega,fun _=>rfl,fun i hi=>?_⟩
    obtain ⟨c,hc1,hR⟩:=hys i hi
    obtain ⟨_,hcl,hcell⟩:=World.cells?_some hc1
    refine ⟨c,hR,fun j v hv=>?_⟩
    have hjl : j < P.cellsOf e:=by rw [← hcl];exact (List.getElem?_eq_some_iff.1 hv).1
    show w.cell? (a.add (i * D.sz + j)) = some v
    rw [← hc,← addr_add_add,hcell j hjl]
    exact hv⟩
structure OpFs (P : Program) (fs : List Field) (off sz : Nat) (R : World → List Value → Prop) : Prop where
  out : ∀ {H : Type} (enc : TypeId × Value → H) (w : World) (n : Nat) (cs : List Value),cs.length = sz →
    (∀ (i : Nat) (f : Field),fs[i]? = some f → ∃ x,DataW.trod enc P w 0 (fun _=>true) true n f.type ((cs.drop (f.offset - off)).take (P.cellsOf f.type)) = some x) → R w cs
end Go.Proofs.YtampmicahnnebaaGreat.Sp
