/- A leader's tick, of the reference. No condition. -/
import Derived.Test.YtampmicahnnebaaGreatRecClaim6
import Derived.Test.YtampmicahnnebaaGreatRecClaim4
set_option linter.unusedVariables false
set_option linter.unusedSimpArgs false
namespace Go.Proofs.YtampmicahnnebaaGreat.Sp
open Go Go.RowKit
set_option maxRecDepth 10000
set_option maxHeartbeats 2000000
variable {w0 W : World} {L : List Asn}
theorem vr_ackAll {b num : Int} {ss : List Slot} (hs : ss.length ≤ 60) : ∀ (n k : Nat) (y : Rcd),k + n ≤ ss.length → VR y → y.lead = true → 1 ≤ num ∧ num ≤ y.of → VR (ackAllL b num ss n k y) ∧ (ackAllL b num ss n k y).lead = true
  | 0,k,y,_,h,hl,_=>⟨h,hl⟩
  | n + 1,k,y,hk,h,hl,hn=>by
    rw [ackAllL]
    split
    · exact vr_ackAll hs n (k + 1) _ (by omega) (vr_ack h hl ⟨by omega,by omega⟩ hn).1 hl hn
    · exact vr_ackAll hs n (k + 1) _ (by omega) h hl hn
theorem vr_layWish {y : Rcd} {w : ByteArray} (h : VR y) (hl : y.lead = true) (hw : w.size ≤ 100) : VR (layWish y w):=by
  unfold layWish
  split
  · rename_i hc
    have hb:=h.lead (.inl hl)
    have hp:=h.disk.p1
    exact vr_set h (by omega) (by omega) ⟨by show 0 ≤ y.ballot;omega,by show y.ballot ≤ 1000000;omega,hw,fun e=>by have : y.ballot = 0:=e;omega⟩ hb.2 (fun _=>by show y.ballot ≠ 0;omega)
  · exact h
theorem layWish_keep (y : Rcd) (w : ByteArray) : (layWish y w).wishes = y.wishes ∧ (layWish y w).lead = y.lead ∧ (layWish y w).of = y.of ∧ (layWish y w).number = y.number ∧ (layWish y w).ballot = y.ballot ∧ (layWish y w).up = y.up ∧ (layWish y w).dk = y.dk:=by
  unfold layWish;split <;> exact ⟨rfl,rfl,rfl,rfl,rfl,rfl,rfl⟩
theorem vr_layAll : ∀ (ws : List ByteArray) (y : Rcd),VR y → y.lead = true → (∀ w ∈ ws,w.size ≤ 100) → VR (ws.foldl layWish y) ∧ (ws.foldl layWish y).lead = true
  | [],y,h,hl,_=>⟨h,hl⟩
  | w :: r,y,h,hl,hw=>by
    rw [List.foldl_cons]
    exact vr_layAll r _ (vr_layWish h hl (hw w (by simp))) (by rw [(layWish_keep y w).2.1];exact hl) (fun v hv=>hw v (List.mem_cons_of_mem _ hv))
theorem vr_lead1 {x : Rcd} (h : VR x) (hl : x.lead = true) : VR (lead1 x) ∧ (lead1 x).lead = true:=by
  obtain ⟨a1,a2⟩:=vr_ackAll (b:=x.ballot) (num:=x.number) h.safe.slots.1 x.ss.length 0 x (by omega) h hl ⟨h.n1,h.no⟩
  exact vr_layAll x.wishes _ a1 a2 (fun w hw=>by have:=h.wishes.all w hw;omega)
theorem ackAll_keep (b num : Int) (ss : List Slot) : ∀ (n k : Nat) (y : Rcd),(ackAllL b num ss n k y).wishes = y.wishes ∧ (ackAllL b num ss n k y).number = y.number ∧ (ackAllL b num ss n k y).of = y.of ∧ (ackAllL b num ss n k y).ballot = y.ballot ∧ (ackAllL b num ss n k y).ss = y.ss ∧ (ackAllL b num ss n k y).lead = y.lead
  | 0,k,y=>⟨rfl,rfl,rfl,rfl,rfl,rfl⟩
  | n + 1,k,y=>by
    rw [ackAllL]
    obtain ⟨a1,a2,a3,a4,a5,a6⟩:=ackAll_keep b num ss n (k + 1) (if (rd tSlot ss k).ballot = b then ackL y ((k : Int) + 1) num else y)
    rw [a1,a2,a3,a4,a5,a6]
    split <;> exact ⟨rfl,rfl,rfl,rfl,rfl,rfl⟩
theorem accOut_len (x : Rcd) : ∀ (n k : Nat) (o : List Msg),(accOut x n k o).length ≤ o.length + n * x.of.toNat
  | 0,k,o=>by simp [accOut]
  | n + 1,k,o=>by
    rw [accOut]
    refine Nat.le_trans (accOut_len x n (k + 1) _) ?_
    have:=othersL_len x.number ⟨3,0,0,x.ballot,(k : Int) + 1,0,(rd tSlot x.ds k).text,[]⟩ x.of.toNat 1 o
    unfold othL
    rw [Nat.add_mul]
    omega
theorem leadS (x : Rcd) (i : AtRcd) {A : Option Addr} {c : Nat} {o : List Msg} (hv : VR x) (hl : x.lead = true) (hu : x.up = true) (ho : o.length ≤ 400) (HM : Mem w0 W (own (tMsg 91) 40 A c o :: (partRcd 91 40 9 3 66 x i ++ L))) : Calls Tryz.prog 28 #[.agg (encRcd x i).toArray,.slice A o.length c] W fun e W'=>∃ j A' c',e = .returned (.tuple #[.agg (encRcd (lead1 x) j).toArray,.slice A' (leadOut (lead1 x) o).length c']) ∧ Mem w0 W' (own (tMsg 91) 40 A' c' (leadOut (lead1 x) o) :: (partRcd 91 40 9 3 66 (lead1 x) j ++ L)):=by
  refine enter Tryz.func28 rfl Tryz.ntmps28 [(0,.agg (encRcd x i).toArray),(1,_)] rfl ⟨rfl,rfl,trivial⟩ ?_
  unfold encRcd
  simp only [boxR,partRcd,List.cons_append,List.nil_append] at HM
  repeat (first|refine Y ?_|(refine qg ?_;clear HM;intro g W1 HM))
  rename_i gr _
  have HMn:=(show Mem w0 _ (boxR 91 40 9 3 66 31 gr x i ++ _) from pk_boxr (HM.pk (A:=own (tMsg 91) 40 A c o))).name
  clear HM
  obtain ⟨R,hR,HM⟩:=HMn
  refine c_cut (σ:=AtRcd) (fun s=>[(1,.slice A o.length c),(2,.pointer (some ⟨gr,0,none⟩)),(4,.pointer (some ⟨g,0,none⟩))]) (fun s W1=>Mem w0 W1 (boxR 91 40 9 3 66 31 gr (ackAllL x.ballot x.number x.ss x.ss.length 0 x) s ++ R)) ?_ ?_
  · refine c_loop (σ:=Nat × Rcd) (fun s=>[(1,.slice A o.length c),(2,.pointer (some ⟨gr,0,none⟩)),(4,.pointer (some ⟨g,0,none⟩)),(6,.int .i64 s.1)]) (fun s W1=>s.1 ≤ x.ss.length ∧ ackAllL x.ballot x.number x.ss (x.ss.length - s.1) s.1 s.2 = ackAllL x.ballot x.number x.ss x.ss.length 0 x ∧ VR s.2 ∧ s.2.lead = true ∧ s.2.ss = x.ss ∧ s.2.ballot = x.ballot ∧ s.2.number = x.number ∧ s.2.of = x.of ∧ ∃ j,Mem w0 W1 (boxR 91 40 9 3 66 31 gr s.2 j ++ R)) (fun s=>x.ss.length - s.1) (0,x) U ⟨Nat.zero_le _,rfl,hv,hl,rfl,rfl,rfl,rfl,i,HM⟩ ?_
    clear HM
    subst hR
    rintro ⟨k,y⟩ W1 ⟨hk,hz,hvy,hly,e1,e2,e3,e4,j,HM⟩
    dsimp only at hk hz hvy hly e1 e2 e3 e4 HM ⊢
    simp only [boxR,partRcd,List.cons_append,List.nil_append] at HM
    have hsl:=hv.safe.slots.1
    have hn1:=hv.n1
    have hno:=hv.no
    have hdk0:=hvy.disk.k0
    have hdk1:=hvy.disk.k1
    have hdl:=hvy.disk.slots.1
    have hal:=acks_len hvy.acks
    have haf : ∀ a ∈ y.acks,a.frm.length ≤ 1000:=fun a ha=>by have:=nums_len (hvy.acks.all a ha).2 hvy.of5;omega
    rw [← e1] at hk hsl
    by_cases hlt : k < y.ss.length
    · by_cases c1 : (rd tSlot y.ss k).ballot = y.ballot
      · have hst : ackAllL x.ballot x.number x.ss (x.ss.length - (k + 1)) (k + 1) (ackL y ((k : Int) + 1) y.number) = ackAllL x.ballot x.number x.ss x.ss.length 0 x:=by
          rw [← hz,show x.ss.length - k = (x.ss.length - (k + 1)) + 1 by rw [← e1];omega,ackAllL,if_pos (by rw [← e1,← e2];exact c1),e3]
        have hva:=(vr_ack hvy hly (ix:=(k : Int) + 1) (f:=y.number) ⟨by omega,by omega⟩ (by rw [e3,e4];exact ⟨hn1,hno⟩)).1
        repeat (first|(refine gR ?_;refine d_start [] [(0,0),(0,1),(0,3),(0,7),(1,2),(0,4),(0,5),(1,6),(1,8),(0,9)] HM (by kernel_rfl) (by kernel_rfl) qq (by kernel_rfl) rfl ?_;intro HQ HS W1 HM1;replace HM:=HM1;clear HM1)|refine Y ?_|(refine qs ?_;clear HM;intro W1 HM)|(refine qf ?_;go_at_call 83;refine (ackS y j ((k : Int) + 1) y.number hdk0 hdk1 (by omega) (by omega) haf (by exact pk_rec HM)).mono ?_;rintro e W1 ⟨j2,rfl,HM1⟩;refine ⟨_,rfl,?_⟩;replace HM:=HM1;clear HM1;simp only [partRcd,List.cons_append,List.nil_append] at HM;simp only [encRcd]))
        exact n_round (k + 1,ackL y ((k : Int) + 1) y.number) U ⟨by rw [← e1];exact hlt,hst,hva,hly,e1,e2,e3,e4,j2,by exact pk_boxr HM⟩ (by dsimp only;rw [← e1];omega)
      · have hst : ackAllL x.ballot x.number x.ss (x.ss.length - (k + 1)) (k + 1) y = ackAllL x.ballot x.number x.ss x.ss.length 0 x:=by
          rw [← hz,show x.ss.length - k = (x.ss.length - (k + 1)) + 1 by rw [← e1];omega,ackAllL,if_neg (by rw [← e1,← e2];exact c1)]
        repeat (first|(refine gR ?_;refine d_start [] [(0,0),(0,1),(0,3),(0,7),(1,2),(0,4),(0,5),(1,6),(1,8),(0,9)] HM (by kernel_rfl) (by kernel_rfl) qq (by kernel_rfl) rfl ?_;intro HQ HS W1 HM1;replace HM:=HM1;clear HM1)|refine Y ?_)
        exact n_round (k + 1,y) U ⟨by rw [← e1];exact hlt,hst,hvy,hly,e1,e2,e3,e4,j,by exact pk_boxr HM⟩ (by dsimp only;rw [← e1];omega)
    · rw [← e1,show y.ss.length - k = 0 by omega,ackAllL] at hz
      rw [e1] at hz
      rw [← hz]
      repeat refine Y ?_
      exact n_mid j U (by exact pk_boxr HM)
  clear HM
  rintro j W1 HM
  obtain ⟨hv1,hl1⟩:=vr_ackAll (b:=x.ballot) (num:=x.number) hv.safe.slots.1 x.ss.length 0 x (by omega) hv hl ⟨hv.n1,hv.no⟩
  obtain ⟨k1,k2,k3,k4,k5,k6⟩:=ackAll_keep x.ballot x.number x.ss x.ss.length 0 x
  have hwx:=hv.wishes
  have hlead1 : lead1 x = x.wishes.foldl layWish (ackAllL x.ballot x.number x.ss x.ss.length 0 x):=rfl
  rw [← k1] at hlead1 hwx
  rw [hlead1]
  obtain ⟨hv2,hl2⟩:=vr_layAll _ _ hv1 hl1 (fun w hw=>by have:=hwx.all w hw;omega)
  clear k1 k2 k3 k4 k5 k6 hv hl hu hlead1
  generalize ackAllL x.ballot x.number x.ss x.ss.length 0 x = y at *
  refine c_seq ?_
  repeat refine Y ?_
  refine c_cut (σ:=AtRcd) (fun s=>[(1,.slice A o.length c),(2,.pointer (some ⟨gr,0,none⟩)),(4,.pointer (some ⟨g,0,none⟩))]) (fun s W1=>Mem w0 W1 (boxR 91 40 9 3 66 31 gr (y.wishes.foldl layWish y) s ++ R)) ?_ ?_
  · refine c_loop (σ:=Nat × Rcd) (fun s=>[(1,.slice A o.length c),(2,.pointer (some ⟨gr,0,none⟩)),(4,.pointer (some ⟨g,0,none⟩)),(7,.int .i64 s.1)]) (fun s W1=>s.1 ≤ y.wishes.length ∧ (y.wishes.drop s.1).foldl layWish s.2 = y.wishes.foldl layWish y ∧ VR s.2 ∧ s.2.lead = true ∧ s.2.wishes = y.wishes ∧ ∃ j,Mem w0 W1 (boxR 91 40 9 3 66 31 gr s.2 j ++ R)) (fun s=>y.wishes.length - s.1) (0,y) U ⟨Nat.zero_le _,rfl,hv1,hl1,rfl,j,HM⟩ ?_
    clear HM
    subst hR
    rintro ⟨k,u⟩ W1 ⟨hk,hz,hvu,hlu,e1,ju,HM⟩
    dsimp only at hk hz hvu hlu e1 HM ⊢
    simp only [boxR,partRcd,List.cons_append,List.nil_append] at HM
    have hwl:=hwx.len
    have hdl:=hvu.disk.slots.1
    rw [← e1] at hk hwl
    by_cases hlt : k < u.wishes.length
    · have hlt2 : k < y.wishes.length:=by rw [← e1];exact hlt
      have e0 : rd tStr u.wishes k = y.wishes[k]:=by rw [rd_at hlt];simp only [e1]
      have hst : (y.wishes.drop (k + 1)).foldl layWish (layWish u (rd tStr u.wishes k)) = y.wishes.foldl layWish y:=by
        rw [← hz,List.drop_eq_getElem_cons hlt2,List.foldl_cons,e0]
      have hws:=(hwx.all _ (List.getElem_mem hlt2)).2
      rw [← e0] at hws
      have hvn:=vr_layWish (w:=rd tStr u.wishes k) hvu hlu hws
      have hkp:=layWish_keep u (rd tStr u.wishes k)
      by_cases c1 : hasB u.ds (rd tStr u.wishes k) = true
      · have e : layWish u (rd tStr u.wishes k) = u:=if_neg (fun h=>by rw [c1] at h;cases h.1)
        rw [e] at hst
        repeat (first|(refine gR ?_;refine d_start [] [(0,0),(0,1),(0,3),(0,5),(1,2),(1,4),(0,6),(1,7),(2,8),(0,9),(0,10),(0,11),(0,12),(1,13),(0,14),(0,15),(0,16)] HM (by kernel_rfl) (by kernel_rfl) qq (by kernel_rfl) rfl ?_;intro HQ HS W1 HM1;replace HM:=HM1;clear HM1)|refine Y ?_|(refine qf ?_;go_at_call 26;obtain ⟨F1,hF1⟩:=HM.own (A:=ju.a1.1);refine (has3_c rfl (rd tStr u.wishes k) (ro_slots hF1) (Mem.start _)).mono ?_;clear hF1;rintro e W1 ⟨rfl,HM1⟩;refine ⟨_,rfl,?_⟩;have HM2:=HM.step HM1.below;clear HM HM1;have HM:=HM2;clear HM2))
        exact n_round (k + 1,u) U ⟨by rw [← e1];exact hlt,hst,hvu,hlu,e1,ju,by exact pk_boxr HM⟩ (by dsimp only;omega)
      simp only [Bool.not_eq_true] at c1
      by_cases c2 : (u.ds.length : Int) < 60
      · have e : layWish u (rd tStr u.wishes k) = setL u ((u.ds.length : Int) + 1) ⟨u.ballot,rd tStr u.wishes k⟩:=if_pos ⟨c1,c2⟩
        rw [e] at hst hvn
        repeat (first|(refine gR ?_;first|(refine d_start [14,15] [(0,1),(0,2),(0,6),(0,8),(0,10),(1,0),(1,3),(0,4),(0,5),(1,7),(1,9),(0,11),(1,12),(2,13),(3,14),(3,15)] HM (by kernel_rfl) (by kernel_rfl) qq (by kernel_rfl) rfl ?_;intro HQ HS W1 HM1;replace HM:=HM1;clear HM1)|(refine d_start [] [(0,0),(0,1),(0,3),(0,5),(1,2),(1,4),(0,6),(1,7),(2,8),(0,9),(0,10),(0,11),(0,12),(1,13),(0,14),(0,15),(0,16)] HM (by kernel_rfl) (by kernel_rfl) qq (by kernel_rfl) rfl ?_;intro HQ HS W1 HM1;replace HM:=HM1;clear HM1))|refine Y ?_|(refine qs ?_;clear HM;intro W1 HM)|(refine qf ?_;first|(go_at_call 26;obtain ⟨F1,hF1⟩:=HM.own (A:=ju.a1.1);refine (has3_c rfl (rd tStr u.wishes k) (ro_slots hF1) (Mem.start _)).mono ?_;clear hF1;rintro e W1 ⟨rfl,HM1⟩;refine ⟨_,rfl,?_⟩;have HM2:=HM.step HM1.below;clear HM HM1;have HM:=HM2;clear HM2)|(go_at_call 82;refine (slotSetS u ju ((u.ds.length : Int) + 1) ⟨u.ballot,rd tStr u.wishes k⟩ (by omega) (by omega) (by omega) (by exact pk_rec HM)).mono ?_;rintro e W1 ⟨j2,rfl,HM1⟩;refine ⟨_,rfl,?_⟩;replace HM:=HM1;clear HM1;simp only [partRcd,List.cons_append,List.nil_append] at HM;simp only [encRcd])))
        exact n_round (k + 1,setL u ((u.ds.length : Int) + 1) ⟨u.ballot,rd tStr u.wishes k⟩) U ⟨by rw [← e1];exact hlt,hst,hvn,hlu,e1,j2,by exact pk_boxr HM⟩ (by dsimp only;omega)
      · have e : layWish u (rd tStr u.wishes k) = u:=if_neg (fun h=>c2 h.2)
        rw [e] at hst
        repeat (first|(refine gR ?_;refine d_start [] [(0,0),(0,1),(0,3),(0,5),(1,2),(1,4),(0,6),(1,7),(2,8),(0,9),(0,10),(0,11),(0,12),(1,13),(0,14),(0,15),(0,16)] HM (by kernel_rfl) (by kernel_rfl) qq (by kernel_rfl) rfl ?_;intro HQ HS W1 HM1;replace HM:=HM1;clear HM1)|refine Y ?_|(refine qf ?_;go_at_call 26;obtain ⟨F1,hF1⟩:=HM.own (A:=ju.a1.1);refine (has3_c rfl (rd tStr u.wishes k) (ro_slots hF1) (Mem.start _)).mono ?_;clear hF1;rintro e W1 ⟨rfl,HM1⟩;refine ⟨_,rfl,?_⟩;have HM2:=HM.step HM1.below;clear HM HM1;have HM:=HM2;clear HM2))
        exact n_round (k + 1,u) U ⟨by rw [← e1];exact hlt,hst,hvu,hlu,e1,ju,by exact pk_boxr HM⟩ (by dsimp only;omega)
    · rw [List.drop_eq_nil_of_le (by rw [← e1];omega),List.foldl_nil] at hz
      rw [← hz]
      repeat refine Y ?_
      exact n_mid ju U (by exact pk_boxr HM)
  clear HM
  subst hR
  rintro j W1 HM
  generalize y.wishes.foldl layWish y = z at *
  have hof : 0 ≤ z.of ∧ z.of ≤ 5:=⟨by have:=hv2.of1;omega,hv2.of5⟩
  have hdk0:=hv2.disk.k0
  have hdk1:=hv2.disk.k1
  have hdl:=hv2.disk.slots.1
  simp only [boxR,partRcd,List.cons_append,List.nil_append] at HM
  refine c_seq ?_
  repeat (first|refine Y ?_|(refine qf ?_;go_at_call 32;refine (othersS z j ⟨5,0,0,z.ballot,0,z.dk,⟨#[]⟩,[]⟩ (o:=o) (A:=A) (c:=c) hof (by omega) (by exact HM.pk)).mono ?_;rintro e W1 ⟨A2,c2,rfl,HM1⟩;refine ⟨_,rfl,?_⟩;replace HM:=HM1;clear HM1))
  have ho2:=othersL_len z.number ⟨5,0,0,z.ballot,0,z.dk,⟨#[]⟩,[]⟩ z.of.toNat 1 o
  have hlo : leadOut z o = accOut z (z.ds.length - z.dk.toNat) z.dk.toNat (othL z o ⟨5,0,0,z.ballot,0,z.dk,⟨#[]⟩,[]⟩):=rfl
  have ho3 : (othL z o ⟨5,0,0,z.ballot,0,z.dk,⟨#[]⟩,[]⟩).length ≤ 1000:=by unfold othL;omega
  rw [hlo]
  generalize htg : accOut z (z.ds.length - z.dk.toNat) z.dk.toNat (othL z o ⟨5,0,0,z.ballot,0,z.dk,⟨#[]⟩,[]⟩) = tg
  have ho4 : othL z o ({ (⟨5,0,0,z.ballot,0,z.dk,⟨#[]⟩,[]⟩ : Msg) with slots:=[] }) = othL z o ⟨5,0,0,z.ballot,0,z.dk,⟨#[]⟩,[]⟩:=rfl
  simp only [ho4] at HM ⊢
  generalize othL z o ⟨5,0,0,z.ballot,0,z.dk,⟨#[]⟩,[]⟩ = o1 at *
  clear hlo ho4 ho2
  have hq : ((z.dk.toNat : Nat) : Int) = z.dk:=by omega
  refine c_loop2 (σ:=Nat × List Msg) (fun s A c=>[(2,.pointer (some ⟨gr,0,none⟩)),(4,.pointer (some ⟨g,0,none⟩)),(1,.slice A s.2.length c),(8,.int .i64 s.1)]) (fun s A c W1=>s.1 ≤ z.ds.length ∧ accOut z (z.ds.length - s.1) s.1 s.2 = tg ∧ s.2.length ≤ 1000 + 5 * s.1 ∧ Mem w0 W1 (own (tMsg 91) 40 A c s.2 :: _)) (fun s=>z.ds.length - s.1) (z.dk.toNat,o1) A2 c2 (by simp only [hq];exact U) ⟨by dsimp only;omega,htg,by dsimp only;omega,HM⟩ ?_
  clear HM
  rintro ⟨k,q⟩ A c W1 ⟨hk,hz,hql,HM⟩
  dsimp only at hk hz hql HM ⊢
  by_cases hlt : k < z.ds.length
  · have hst:=hz
    rw [show z.ds.length - k = (z.ds.length - (k + 1)) + 1 by omega,accOut] at hst
    have hq2:=othersL_len z.number ⟨3,0,0,z.ballot,(k : Int) + 1,0,(rd tSlot z.ds k).text,[]⟩ z.of.toNat 1 q
    have hq3 : (othL z q ⟨3,0,0,z.ballot,(k : Int) + 1,0,(rd tSlot z.ds k).text,[]⟩).length ≤ 1000 + 5 * (k + 1):=by unfold othL;omega
    repeat (first|(refine gR ?_;refine d_start [14] [(0,1),(0,2),(0,4),(0,5),(0,6),(0,7),(0,9),(1,0),(1,3),(1,8),(0,10),(0,11),(1,12),(2,13),(3,14),(0,15)] HM (by kernel_rfl) (by kernel_rfl) qq (by kernel_rfl) rfl ?_;intro HQ HS W1 HM1;replace HM:=HM1;clear HM1)|refine Y ?_|(refine qf ?_;go_at_call 32;refine (othersS z j ⟨3,0,0,z.ballot,(k : Int) + 1,0,(rd tSlot z.ds k).text,[]⟩ (o:=q) (A:=A) (c:=c) hof (by omega) (by exact HM.pk)).mono ?_;rintro e W1 ⟨A2,c2,rfl,HM1⟩;refine ⟨_,rfl,?_⟩;replace HM:=HM1;clear HM1))
    exact n_round2 (k + 1,othL z q ⟨3,0,0,z.ballot,(k : Int) + 1,0,(rd tSlot z.ds k).text,[]⟩) A2 c2 U ⟨hlt,hst,hq3,HM⟩ (by dsimp only;omega)
  · rw [show z.ds.length - k = 0 by omega,accOut] at hz
    subst hz
    repeat (first|refine Y ?_|(refine qs ?_;clear HM;intro W1 HM))
    exact ret_ct HM rfl rfl rfl rfl ⟨j,A,c,rfl,by simp only [boxR,partRcd,List.cons_append,List.nil_append];exact HM.sb⟩
end Go.Proofs.YtampmicahnnebaaGreat.Sp
namespace Go.Proofs.YtampmicahnnebaaGreat.Sp
open Go Go.RowKit
set_option maxRecDepth 10000
structure Kp (x y : Rcd) : Prop where
  number : y.number = x.number
  of : y.of = x.of
  up : y.up = x.up
  dp : x.dp ≤ y.dp
  dk : x.dk ≤ y.dk
theorem Kp.refl (x : Rcd) : Kp x x:=⟨rfl,rfl,rfl,Int.le_refl _,Int.le_refl _⟩
theorem Kp.trans {x y z : Rcd} (h : Kp x y) (g : Kp y z) : Kp x z:=⟨g.1.trans h.1,g.2.trans h.2,g.3.trans h.3,Int.le_trans h.4 g.4,Int.le_trans h.5 g.5⟩
theorem kp_hold (x : Rcd) (m : Msg) : Kp x (holdL x m):=by unfold holdL;split <;> exact ⟨rfl,rfl,rfl,Int.le_refl _,Int.le_refl _⟩
theorem kp_follow (x : Rcd) (b : Int) : Kp x (followL x b):=by
  unfold followL
  split <;> exact ⟨rfl,rfl,rfl,by show x.dp ≤ max x.dp b;omega,Int.le_refl _⟩
theorem follow_dp (x : Rcd) (b : Int) : (followL x b).dp = max x.dp b:=by unfold followL;split <;> rfl
theorem kp_set (x : Rcd) (ix : Int) (s : Slot) : Kp x (setL x ix s):=⟨rfl,rfl,rfl,Int.le_refl _,Int.le_refl _⟩
theorem kp_lay (b : Int) (best : List Slot) (n k : Nat) (y : Rcd) : Kp y (layL b best n k y):=by
  obtain ⟨ds,h⟩:=lay_keep b best n k y
  rw [h]
  exact ⟨rfl,rfl,rfl,Int.le_refl _,Int.le_refl _⟩
theorem kp_prom (x : Rcd) (f : Int) (bs : List Slot) : Kp x (promL x f bs):=by
  unfold promL
  split
  · exact ⟨rfl,rfl,rfl,Int.le_refl _,Int.le_refl _⟩
  · exact Kp.trans (y:=wonL (gotL x f bs)) ⟨rfl,rfl,rfl,Int.le_refl _,Int.le_refl _⟩ (kp_lay ..)
theorem empty_size : (⟨#[]⟩ : ByteArray).size ≤ 100:=by decide
theorem vr_hold0 {x : Rcd} {k fr to b ix kn : Int} {t : ByteArray} (h : VR x) (hu : x.up = true) (h1 : 1 ≤ k ∧ k ≤ 9) (h3 : 1 ≤ to ∧ to ≤ x.of) (h4 : 0 ≤ b ∧ b ≤ 1000000) (h5 : 0 ≤ ix ∧ ix ≤ 60) (h6 : 0 ≤ kn ∧ kn ≤ 60) (h7 : t.size ≤ 100) : VR (holdL x ⟨k,fr,to,b,ix,kn,t,[]⟩):=vr_hold h hu ⟨h1,⟨h.n1,h.no⟩,h3,h4,h5,h6,h7,slots_nil⟩
theorem vr_refuse {x : Rcd} {to : Int} (h : VR x) (hu : x.up = true) (ht : 1 ≤ to ∧ to ≤ x.of) : VR (refuseL x to):=vr_hold0 h hu (by omega) ht ⟨h.disk.p0,h.disk.p1⟩ (by omega) (by omega) empty_size
theorem vr_prep {x : Rcd} {m : Msg} (h : VR x) (hu : x.up = true) (hm : MsgP m x.of) : VR (prepL x m) ∧ Kp x (prepL x m):=by
  unfold prepL
  split
  · exact ⟨vr_refuse h hu hm.frm,kp_hold _ _⟩
  · have hf:=vr_follow (b:=m.ballot) h hm.ballot.2
    have kf:=kp_follow x m.ballot
    refine ⟨vr_hold hf (kf.up.trans hu) ?_,kf.trans (kp_hold _ _)⟩
    have h1:=h.n1
    have h2:=h.no
    exact ⟨(by show (1 : Int) ≤ 2 ∧ (2 : Int) ≤ 9;omega),(by show 1 ≤ (followL x m.ballot).number ∧ (followL x m.ballot).number ≤ _;rw [kf.number,kf.of];exact ⟨h1,h2⟩),(by rw [kf.of];exact hm.frm),hm.ballot,(by show (0 : Int) ≤ 0 ∧ (0 : Int) ≤ 60;omega),(by show (0 : Int) ≤ 0 ∧ (0 : Int) ≤ 60;omega),empty_size,hf.disk.slots⟩
theorem vr_acc {x : Rcd} {m : Msg} (h : VR x) (hu : x.up = true) (hm : MsgP m x.of) : VR (accL x m) ∧ Kp x (accL x m):=by
  unfold accL
  split
  · exact ⟨vr_refuse h hu hm.frm,kp_hold _ _⟩
  · split
    · exact ⟨h,Kp.refl x⟩
    · rename_i c1 c2
      have hf:=vr_follow (b:=m.ballot) h hm.ballot.2
      have kf:=kp_follow x m.ballot
      have hb1:=hm.ballot
      have hx1:=hm.index
      have hdp:=follow_dp x m.ballot
      have ha : VR (acc1 (followL x m.ballot) m) ∧ Kp (followL x m.ballot) (acc1 (followL x m.ballot) m):=by
        unfold acc1
        split
        · exact ⟨vr_set hf (by omega) (by omega) ⟨hb1.1,hb1.2,hm.text,fun e=>by simp only at e;omega⟩ (by rw [hdp];show m.ballot ≤ _;omega) (fun _=>by show m.ballot ≠ 0;omega),kp_set _ _ _⟩
        · exact ⟨hf,Kp.refl _⟩
      have ka:=kf.trans ha.2
      exact ⟨vr_hold0 ha.1 (ka.up.trans hu) (by omega) (by rw [ka.of];exact hm.frm) hb1 hx1 (by omega) empty_size,ka.trans (kp_hold _ _)⟩
theorem know_in {ds : List Slot} {b kn : Int} (hb : b ≠ 0) : ∀ (n : Nat) (d : Int),0 ≤ d → d ≤ ds.length → (∀ j (h : j < ds.length),(j : Int) < d → ds[j].ballot ≠ 0) → d ≤ knowL ds b kn n d ∧ knowL ds b kn n d ≤ ds.length ∧ ∀ j (h : j < ds.length),(j : Int) < knowL ds b kn n d → ds[j].ballot ≠ 0
  | 0,d,h0,h1,h2=>⟨Int.le_refl _,h1,h2⟩
  | n + 1,d,h0,h1,h2=>by
    rw [knowL]
    split
    · rename_i hc
      obtain ⟨g1,g2,g3⟩:=know_in (ds:=ds) (b:=b) (kn:=kn) hb n (d + 1) (by omega) (by omega) (fun j hj hk=>by
        by_cases e : (j : Int) < d
        · exact h2 j hj e
        · have e2:=hc.2.2
          rw [show d = (j : Int) by omega,rd_at hj] at e2
          rw [e2];exact hb)
      exact ⟨by omega,g2,g3⟩
    · exact ⟨Int.le_refl _,h1,h2⟩
theorem vr_wished {to : Int} : ∀ (l : List ByteArray) (y : Rcd),VR y → y.up = true → (1 ≤ to ∧ to ≤ y.of) → (∀ w ∈ l,w.size ≤ 100) → VR (wishedL to l y) ∧ Kp y (wishedL to l y)
  | [],y,h,_,_,_=>⟨h,Kp.refl y⟩
  | w :: r,y,h,hu,ht,hw=>by
    have k1:=kp_hold y ⟨8,0,to,0,0,0,w,[]⟩
    have h1 : VR (holdL y ⟨8,0,to,0,0,0,w,[]⟩):=vr_hold0 h hu (by omega) ht (by omega) (by omega) (by omega) (hw w (by simp))
    obtain ⟨a,b⟩:=vr_wished r _ h1 (k1.up.trans hu) (by rw [k1.of];exact ht) (fun v hv=>hw v (List.mem_cons_of_mem _ hv))
    exact ⟨a,k1.trans b⟩
theorem vr_beat {x : Rcd} {m : Msg} (h : VR x) (hu : x.up = true) (hm : MsgP m x.of) : VR (beatL x m) ∧ Kp x (beatL x m):=by
  unfold beatL
  split
  · exact ⟨h,Kp.refl x⟩
  · rename_i c1
    have hf:=vr_follow (b:=m.ballot) h hm.ballot.2
    have kf:=kp_follow x m.ballot
    have hk:=hm.known
    obtain ⟨g1,g2,g3⟩:=know_in (ds:=(followL x m.ballot).ds) (b:=m.ballot) (kn:=m.known) (by omega) (followL x m.ballot).ds.length (followL x m.ballot).dk hf.disk.k0 hf.disk.k1 hf.disk.known
    have h1 : VR (beat1 (followL x m.ballot) m):=vr_ds hf (disk_know hf.disk (by have:=hf.disk.k0;omega) g2 g3)
    have k1 : Kp x (beat1 (followL x m.ballot) m):=kf.trans ⟨rfl,rfl,rfl,Int.le_refl _,g1⟩
    have h2 : VR (beat2 (beat1 (followL x m.ballot) m) m) ∧ Kp (beat1 (followL x m.ballot) m) (beat2 (beat1 (followL x m.ballot) m) m):=by
      unfold beat2
      split
      · rename_i c2
        have:=h1.disk.k0
        exact ⟨vr_hold0 h1 (k1.up.trans hu) (by omega) (by rw [k1.of];exact hm.frm) hm.ballot (by omega) (by omega) empty_size,kp_hold _ _⟩
      · exact ⟨h1,Kp.refl _⟩
    have k2:=k1.trans h2.2
    obtain ⟨a,b⟩:=vr_wished (to:=m.frm) x.wishes _ h2.1 (k2.up.trans hu) (by rw [k2.of];exact hm.frm) (fun w hw=>by have:=h.wishes.all w hw;omega)
    exact ⟨a,k2.trans b⟩
theorem vr_cho {x : Rcd} {m : Msg} (h : VR x) (hm : MsgP m x.of) : VR (choL x m) ∧ Kp x (choL x m):=by
  unfold choL
  split
  · rename_i c
    have hk0:=h.disk.k0
    have hk1:=h.disk.k1
    have hi:=hm.index
    have hd:=disk_set (k:=x.dk) (ix:=m.index) (s:=⟨m.ballot,m.text⟩) h.disk (by omega) (by omega) ⟨hm.ballot.1,hm.ballot.2,hm.text,fun e=>by simp only at e;omega⟩ c.2.2 (fun _=>by show m.ballot ≠ 0;omega)
    have hd' : DiskP x.dp m.index ((padL x.ds m.index.toNat).set (m.index - 1).toNat ⟨m.ballot,m.text⟩):=disk_know hd (by omega) (by rw [List.length_set,padL_len];omega) (fun j hj hk=>by
      by_cases e : (j : Int) < x.dk
      · exact hd.known j hj e
      · rw [List.getElem_set,if_pos (by omega)]
        show m.ballot ≠ 0
        omega)
    exact ⟨vr_ds (x:=x) h hd',⟨rfl,rfl,rfl,Int.le_refl _,by show x.dk ≤ m.index;omega⟩⟩
  · exact ⟨h,Kp.refl x⟩
theorem vr_need {to : Int} : ∀ (n : Nat) (i : Int) (y : Rcd),VR y → y.up = true → y.lead = true → 1 ≤ i → (1 ≤ to ∧ to ≤ y.of) → VR (needL to n i y) ∧ Kp y (needL to n i y)
  | 0,i,y,h,_,_,_,_=>⟨h,Kp.refl y⟩
  | n + 1,i,y,h,hu,hl,hi,ht=>by
    rw [needL]
    split
    · rename_i c
      have hb:=h.lead (.inl hl)
      have hp:=h.disk.p1
      have hd:=h.disk.slots.1
      have hk:=h.disk.k1
      have htx : (rd tSlot y.ds (i - 1)).text.size ≤ 100:=by
        have hj : (i - 1).toNat < y.ds.length:=by omega
        have:=(h.disk.slots.2 _ (List.getElem_mem hj)).txt
        rw [show i - 1 = (((i - 1).toNat : Nat) : Int) by omega,rd_at hj]
        exact this
      have k1:=kp_hold y ⟨6,0,to,y.ballot,i,0,(rd tSlot y.ds (i - 1)).text,[]⟩
      have h1 : VR (holdL y ⟨6,0,to,y.ballot,i,0,(rd tSlot y.ds (i - 1)).text,[]⟩):=vr_hold0 h hu (by omega) ht (by omega) (by omega) (by omega) htx
      obtain ⟨a,b⟩:=vr_need n (i + 1) _ h1 (k1.up.trans hu) (by unfold holdL;split <;> exact hl) (by omega) (by rw [k1.of];exact ht)
      exact ⟨a,k1.trans b⟩
    · exact ⟨h,Kp.refl y⟩
theorem vr_ref {x : Rcd} {m : Msg} (h : VR x) (hm : MsgP m x.of) : VR (refL x m) ∧ Kp x (refL x m):=by
  unfold refL
  split
  · have:=h.disk.p1
    have:=hm.ballot
    exact ⟨vr_calmp h (by omega) (by omega),⟨rfl,rfl,rfl,by show x.dp ≤ max x.dp m.ballot;omega,Int.le_refl _⟩⟩
  · exact ⟨h,Kp.refl x⟩
theorem kp_wish (x : Rcd) (t : ByteArray) : Kp x (wish1 x t):=by unfold wish1;split <;> exact ⟨rfl,rfl,rfl,Int.le_refl _,Int.le_refl _⟩
theorem vr_take {x : Rcd} {m : Msg} (h : VR x) (hu : x.up = true) (hm : MsgP m x.of) : VR (takeL x m) ∧ Kp x (takeL x m):=by
  unfold takeL
  repeat' split
  · exact vr_prep h hu hm
  · rename_i c;exact ⟨vr_prom h c.1 hm.frm hm.slots,kp_prom _ _ _⟩
  · exact ⟨h,Kp.refl x⟩
  · exact vr_acc h hu hm
  · rename_i c
    have hi:=hm.index
    have:=vr_ack (ix:=m.index) (f:=m.frm) h c.1 (by omega) hm.frm
    exact ⟨this.1,rfl,rfl,rfl,Int.le_refl _,this.2⟩
  · exact ⟨h,Kp.refl x⟩
  · exact ⟨vr_refuse h hu hm.frm,kp_hold _ _⟩
  · exact vr_beat h hu hm
  · exact vr_cho h hm
  · rename_i c;exact vr_need 5 m.index x h hu c.1 (by omega) hm.frm
  · exact ⟨h,Kp.refl x⟩
  · exact ⟨vr_wish h hu,kp_wish _ _⟩
  · exact vr_ref h hm
  · exact ⟨h,Kp.refl x⟩
theorem vr_recTake {x : Rcd} {m : Msg} (h : validB x = true) : VR (recTakeL x m) ∧ Kp x (recTakeL x m):=by
  unfold recTakeL
  rw [if_pos h]
  split
  · rename_i c;exact vr_take (validB_iff.1 h) c.1 (msgB_iff.1 c.2.1)
  · exact ⟨validB_iff.1 h,Kp.refl x⟩
end Go.Proofs.YtampmicahnnebaaGreat.Sp
namespace Go.Proofs.YtampmicahnnebaaGreat.Sp
open Go Go.RowKit
set_option maxRecDepth 10000
theorem vr_tick1 {x : Rcd} (h : VR x) (hu : x.up = true) : VR (tick1 x) ∧ Kp x (tick1 x):=by
  have h0:=h.h0
  have h1:=h.h1
  refine ⟨{ h with safe:=h.disk,heldLen:=by simp [tick1],wishes:=⟨Nat.le_trans (List.length_filter_le _ _) h.wishes.len,fun s hs=>h.wishes.all s (List.mem_filter.1 hs).1,h.wishes.nodup.filter _⟩,h0:=?_,h1:=?_,held:=by simp [tick1],quiet:=fun a b=>?_,down:=fun hd=>?_ },rfl,rfl,rfl,Int.le_refl _,Int.le_refl _⟩
  · show 0 ≤ (if x.heard < 1000000 then x.heard + 1 else x.heard);split <;> omega
  · show (if x.heard < 1000000 then x.heard + 1 else x.heard) ≤ 1000000;split <;> omega
  · have:=h.quiet a b;exact ⟨this.1,this.2,this.3,this.4,this.5,this.6⟩
  · have : x.up = false:=hd;rw [hu] at this;cases this
theorem vr_tick2 {x : Rcd} (h : VR x) : VR (tick2 x) ∧ Kp x (tick2 x):=by
  unfold tick2
  split
  · rename_i c;exact ⟨vr_prom h c.1 ⟨h.n1,h.no⟩ h.disk.slots,kp_prom _ _ _⟩
  · exact ⟨h,Kp.refl x⟩
theorem nextL_range {a n o : Int} : 0 ≤ nextL a n o ∧ nextL a n o ≤ 1000000 ∧ (0 < nextL a n o → a < nextL a n o):=by
  unfold nextL
  split
  · rename_i c
    obtain ⟨N,hN⟩ : ∃ N,N = (if a.tdiv o * o + n ≤ a then a.tdiv o * o + n + o else a.tdiv o * o + n):=⟨_,rfl⟩
    rw [← hN]
    obtain ⟨h1,_,_,_⟩:=next_first c.1 c.2.1 c.2.2.1 hN
    clear hN
    split
    · omega
    · rename_i c2;exact ⟨by omega,by omega,fun _=>h1⟩
  · omega
theorem othersL_all2 {num : Int} {m : Msg} {p : Msg → Prop} : ∀ (n : Nat) (i : Int) (o : List Msg),(∀ k : Int,i ≤ k → k < i + n → p { m with frm:=num,to:=k }) → (∀ y ∈ o,p y) → ∀ y ∈ othersL num m n i o,p y
  | 0,_,o,_,ho=>ho
  | n + 1,i,o,h,ho=>by
    rw [othersL]
    refine othersL_all2 n (i + 1) _ (fun k h1 h2=>h k (by omega) (by omega)) ?_
    split
    · exact ho
    · intro y hy
      rcases List.mem_append.1 hy with e|e
      · exact ho y e
      · simp only [List.mem_singleton] at e
        rw [e];exact h i (by omega) (by omega)
theorem oth_ok {x : Rcd} {m : Msg} {o : List Msg} (h : VR x) (hm : ∀ k : Int,1 ≤ k → k ≤ x.of → MsgP { m with frm:=x.number,to:=k } x.of) (ho : ∀ y ∈ o,MsgP y x.of ∧ y.frm = x.number) : ∀ y ∈ othL x o m,MsgP y x.of ∧ y.frm = x.number :=
  othersL_all2 (p:=fun y=>MsgP y x.of ∧ y.frm = x.number) _ _ _ (fun k h1 h2=>⟨hm k h1 (by have:=h.of1;omega),rfl⟩) ho
theorem oth_ok0 {x : Rcd} {k b ix kn : Int} {t : ByteArray} {o : List Msg} (h : VR x) (h1 : 1 ≤ k ∧ k ≤ 9) (h4 : 0 ≤ b ∧ b ≤ 1000000) (h5 : 0 ≤ ix ∧ ix ≤ 60) (h6 : 0 ≤ kn ∧ kn ≤ 60) (h7 : t.size ≤ 100) (ho : ∀ y ∈ o,MsgP y x.of ∧ y.frm = x.number) : ∀ y ∈ othL x o ⟨k,0,0,b,ix,kn,t,[]⟩,MsgP y x.of ∧ y.frm = x.number:=oth_ok h (fun q q1 q2=>⟨h1,⟨h.n1,h.no⟩,⟨q1,q2⟩,h4,h5,h6,h7,slots_nil⟩) ho
theorem vr_holdAll : ∀ (l : List Msg) (y : Rcd),VR y → y.up = true → (∀ m ∈ l,MsgP { m with frm:=y.number } y.of) → VR (holdAll l y) ∧ Kp y (holdAll l y)
  | [],y,h,_,_=>⟨h,Kp.refl y⟩
  | m :: r,y,h,hu,hl=>by
    have k1:=kp_hold y m
    have h1 : VR (holdL y m):=vr_hold h hu (hl m (by simp))
    obtain ⟨a,b⟩:=vr_holdAll r _ h1 (k1.up.trans hu) (fun q hq=>by rw [k1.number,k1.of];exact hl q (List.mem_cons_of_mem _ hq))
    exact ⟨a,k1.trans b⟩
theorem vr_try {x : Rcd} {b : Int} (h : VR x) (hu : x.up = true) (h0 : 0 < b) (h1 : b ≤ 1000000) (h2 : x.dp < b) : VR { calmL x with heard:=0,dp:=b,ballot:=b,trying:=true }:=by
  have hc:=vr_calmp (p:=b) h (by omega) h1
  exact { hc with h0:=(by show (0 : Int) ≤ 0;omega),h1:=(by show (0 : Int) ≤ 1000000;omega),one:=(by simp [calmL]),lead:=(fun _=>⟨by show 1 ≤ b;omega,Int.le_refl b⟩),tryA:=(fun _=>rfl),leadY:=(by simp [calmL]),quiet:=(fun _ hq=>by cases hq),down:=(fun hd=>by have : x.up = false:=hd;rw [hu] at this;cases this) }
theorem try_ok {x : Rcd} {b : Int} (h : VR x) (h0 : 0 < b) (h1 : b ≤ 1000000) : ∀ y ∈ othL x [] ⟨1,0,0,b,0,0,⟨#[]⟩,[]⟩,MsgP y x.of ∧ y.frm = x.number:=oth_ok0 h (by omega) (by omega) (by omega) (by omega) empty_size (by simp)
theorem vr_tick3 {x : Rcd} (h : VR x) (hu : x.up = true) : VR (tick3 x) ∧ Kp x (tick3 x):=by
  unfold tick3
  split
  · split
    · rename_i c
      obtain ⟨g1,g2,g3⟩:=nextL_range (a:=x.dp) (n:=x.number) (o:=x.of)
      have h1:=vr_try h hu c g2 (g3 c)
      have h2:=try_ok h1 c g2
      unfold tick4
      obtain ⟨a,b⟩:=vr_holdAll _ _ h1 hu (fun m hm=>by
        obtain ⟨q1,q2⟩:=h2 m hm
        have : ({ m with frm:=x.number } : Msg) = m:=by
          have : x.number = m.frm:=q2.symm
          rw [this]
        rw [show ({ calmL x with heard:=0,dp:=nextL x.dp x.number x.of,ballot:=nextL x.dp x.number x.of,trying:=true } : Rcd).number = x.number from rfl,this]
        exact q1)
      exact ⟨a,Kp.trans (y:={ calmL x with heard:=0,dp:=nextL x.dp x.number x.of,ballot:=nextL x.dp x.number x.of,trying:=true }) ⟨rfl,rfl,rfl,by have:=g3 c;show x.dp ≤ nextL x.dp x.number x.of;omega,Int.le_refl _⟩ b⟩
    · exact ⟨vr_heard (vr_calm h) (by omega) (by omega) (fun _=>rfl),rfl,rfl,rfl,Int.le_refl _,Int.le_refl _⟩
  · exact ⟨h,Kp.refl x⟩
theorem kp_ackAll {b num : Int} {ss : List Slot} (hs : ss.length ≤ 60) : ∀ (n k : Nat) (y : Rcd),k + n ≤ ss.length → VR y → y.lead = true → 1 ≤ num ∧ num ≤ y.of → Kp y (ackAllL b num ss n k y)
  | 0,k,y,_,h,hl,_=>Kp.refl y
  | n + 1,k,y,hk,h,hl,hn=>by
    rw [ackAllL]
    split
    · have ha:=vr_ack (ix:=(k : Int) + 1) (f:=num) h hl ⟨by omega,by omega⟩ hn
      exact Kp.trans (y:=ackL y ((k : Int) + 1) num) ⟨rfl,rfl,rfl,Int.le_refl _,ha.2⟩ (kp_ackAll hs n (k + 1) _ (by omega) ha.1 hl hn)
    · exact kp_ackAll hs n (k + 1) _ (by omega) h hl hn
theorem layWish_dp (y : Rcd) (w : ByteArray) : Kp y (layWish y w):=by
  unfold layWish;split <;> exact ⟨rfl,rfl,rfl,Int.le_refl _,Int.le_refl _⟩
theorem kp_layAll : ∀ (ws : List ByteArray) (y : Rcd),Kp y (ws.foldl layWish y)
  | [],y=>Kp.refl y
  | w :: r,y=>by rw [List.foldl_cons];exact (layWish_dp y w).trans (kp_layAll r _)
theorem kp_lead1 {x : Rcd} (h : VR x) (hl : x.lead = true) : Kp x (lead1 x):=(kp_ackAll h.safe.slots.1 x.ss.length 0 x (by omega) h hl ⟨h.n1,h.no⟩).trans (kp_layAll _ _)
theorem accOut_ok {x : Rcd} (h : VR x) (hl : x.lead = true) : ∀ (n k : Nat) (o : List Msg),k + n ≤ x.ds.length → (∀ y ∈ o,MsgP y x.of ∧ y.frm = x.number) → ∀ y ∈ accOut x n k o,MsgP y x.of ∧ y.frm = x.number
  | 0,_,o,_,ho=>ho
  | n + 1,k,o,hk,ho=>by
    rw [accOut]
    have hb:=h.lead (.inl hl)
    have hp:=h.disk.p1
    have hd:=h.disk.slots.1
    have hkl : k < x.ds.length:=by omega
    have ht:=(h.disk.slots.2 _ (List.getElem_mem hkl)).txt
    exact accOut_ok h hl n (k + 1) _ (by omega) (oth_ok0 h (by omega) (by omega) (by omega) (by omega) (by rw [rd_at hkl];exact ht) ho)
theorem leadOut_ok {x : Rcd} (h : VR x) (hl : x.lead = true) {o : List Msg} (ho : ∀ y ∈ o,MsgP y x.of ∧ y.frm = x.number) : ∀ y ∈ leadOut x o,MsgP y x.of ∧ y.frm = x.number:=by
  have hb:=h.lead (.inl hl)
  have hp:=h.disk.p1
  have hd:=h.disk.slots.1
  have h0:=h.disk.k0
  have h1:=h.disk.k1
  exact accOut_ok h hl _ _ _ (by omega) (oth_ok0 h (by omega) (by omega) (by omega) (by omega) empty_size ho)
theorem vr_tick {x : Rcd} (h : VR x) (hu : x.up = true) : VR (tickL x) ∧ Kp x (tickL x) ∧ ∀ y ∈ tickOut x,MsgP y x.of ∧ y.frm = x.number:=by
  obtain ⟨a1,k1⟩:=vr_tick1 h hu
  obtain ⟨a2,k2⟩:=vr_tick2 a1
  have k12:=k1.trans k2
  unfold tickL tickOut
  split
  · rename_i c
    obtain ⟨a3,c3⟩:=vr_lead1 a2 c
    have k3:=k12.trans (kp_lead1 a2 c)
    refine ⟨a3,k3,?_⟩
    have:=leadOut_ok a3 c3 (o:=x.held) (by rw [k3.of,k3.number];exact h.held)
    rw [k3.of,k3.number] at this
    exact this
  · obtain ⟨a3,k3⟩:=vr_tick3 a2 (k12.up.trans hu)
    exact ⟨a3,k12.trans k3,h.held⟩
theorem vr_recTick {x : Rcd} (h : validB x = true) : VR (recTickL x) ∧ Kp x (recTickL x) ∧ ∀ y ∈ recTickO x,MsgP y x.of ∧ y.frm = x.number:=by
  unfold recTickL recTickO
  rw [if_pos h,if_pos h]
  by_cases hu : x.up = true
  · rw [if_pos hu,if_pos hu];exact vr_tick (validB_iff.1 h) hu
  · rw [if_neg hu,if_neg hu];exact ⟨validB_iff.1 h,Kp.refl x,by simp⟩
end Go.Proofs.YtampmicahnnebaaGreat.Sp
namespace Go.Proofs.YtampmicahnnebaaGreat.Sp
open Go Go.RowKit
set_option maxRecDepth 10000
set_option maxHeartbeats 4000000
variable {w0 W : World} {L : List Asn}
theorem promLong (x : Rcd) (i : AtRcd) (f : Int) {b : Bool} {B : Option Addr} {d : Nat} {bs : List Slot} (hb : ∀ W',Mem w0 W' (own tSlot 91 i.a1.1 i.a1.2 x.ds :: L) → RoRow (rSlot b) W' B bs) (h0 : 0 ≤ x.dk) (h1 : x.yes.length ≤ 1048575) (h2 : x.best.length ≤ 1048576) (h3 : bs.length ≤ 1048576) (h4 : x.ds.length ≤ 1048576) (hs : ¬ 2 * ((addL x.yes f).length : Int) ≤ x.of) (HM : Mem w0 W (partRcd 91 40 9 3 66 x i ++ L)) : Calls Tryz.prog 27 #[.agg (encRcd x i).toArray,.int .i64 f,.slice B bs.length d] W fun e W'=>∃ j,e = .returned (.agg (encRcd (promL x f bs) j).toArray) ∧ Mem w0 W' (partRcd 91 40 9 3 66 (promL x f bs) j ++ L):=by
  refine enter Tryz.func27 rfl Tryz.ntmps27 [(0,.agg (encRcd x i).toArray),(1,_),(2,_)] rfl ⟨rfl,rfl,rfl,trivial⟩ ?_
  unfold encRcd
  have hal:=addL_len x.yes f
  simp only [partRcd,List.cons_append,List.nil_append] at HM
  have hml:=mergeL_len x.best bs
  repeat (first|refine Y ?_|(refine qs ?_;clear HM;intro W1 HM)|(refine qf ?_;first|(go_at_call 80;refine (addS (xs:=x.yes) (A:=i.a4.1) (c:=i.a4.2) f (by omega) (by exact HM.pk)).mono ?_;rintro e2 W2 ⟨A2,c2,rfl,HM1⟩;refine ⟨_,rfl,?_⟩;replace HM:=HM1;clear HM1)|(go_at_call 81;obtain ⟨F1,hF1⟩:=HM.own (A:=i.a5.1);have hbs:=hb _ (by exact HM.sb);refine (recMergeS (ro_slots hF1) hbs h2 h3 (Mem.start _)).mono ?_;clear hF1 hbs;rintro e W1 ⟨A3,c3,rfl,HM1⟩;refine ⟨_,rfl,?_⟩;replace HM:=HM.join HM1;clear HM1;simp only [List.cons_append,List.nil_append] at HM)|(go_at_call 31;refine (calmSk { x with yes:=addL x.yes f,best:=mergeL x.best bs } ⟨i.a0,i.a1,i.a2,i.a3,(A2,c2),(A3,c3),i.a6⟩ (by exact pk_rec HM)).mono ?_;rintro e W1 ⟨j,rfl,HM1⟩;refine ⟨_,rfl,?_⟩;replace HM:=HM1;clear HM1;simp only [gotL,calmL,partRcd,List.cons_append,List.nil_append] at HM;simp only [gotL,calmL,encRcd]))|(refine qg ?_;clear HM;intro g W1 HM))
  have hq : ((x.dk.toNat : Nat) : Int) = x.dk:=by omega
  rename_i gr _ _ _ _ _ _ _ _
  have HM0 : Mem w0 _ (boxR 91 40 9 3 66 31 gr (wonL (gotL x f bs)) j ++ _):=pk_boxr (x:={ x with lead:=true,trying:=false,ballot:=x.ballot,yes:=[],best:=[],acks:=[] }) (i:=j) (HM.pk (A:=own tSlot 91 A3 c3 (mergeL x.best bs)))
  clear HM
  have ep : promL x f bs = layL x.ballot (mergeL x.best bs) ((mergeL x.best bs).length - x.dk.toNat) x.dk.toNat (wonL (gotL x f bs)):=if_neg hs
  rw [ep]
  generalize htg : layL x.ballot (mergeL x.best bs) ((mergeL x.best bs).length - x.dk.toNat) x.dk.toNat (wonL (gotL x f bs)) = tg
  have hbl : (mergeL x.best bs).length ≤ 1048576:=by omega
  have hy0 : (wonL (gotL x f bs)).ds.length ≤ 1048576:=h4
  generalize wonL (gotL x f bs) = y0 at HM0 htg hy0
  generalize mergeL x.best bs = best at *
  refine c_loop (σ:=Nat × Rcd) (fun s=>[(3,.pointer (some ⟨gr,0,none⟩)),(6,.pointer (some ⟨g,0,none⟩)),(7,.int .i64 x.ballot),(8,.slice A3 best.length c3),(9,.int .i64 s.1)]) (fun s W1=>layL x.ballot best (best.length - s.1) s.1 s.2 = tg ∧ s.2.ds.length ≤ 1048576 ∧ ∃ j,Mem w0 W1 (boxR 91 40 9 3 66 31 gr s.2 j ++ (own tSlot 91 A3 c3 best :: _))) (fun s=>best.length - s.1) (x.dk.toNat,y0) (by simp only [hq];exact U) ⟨htg,hy0,j,HM0⟩ ?_
  clear HM0
  rintro ⟨k,y⟩ W1 ⟨hl,hy,j,HM⟩
  dsimp only at hl hy HM ⊢
  simp only [boxR,partRcd,List.cons_append,List.nil_append] at HM
  by_cases hlt : k < best.length
  · have hst : layL x.ballot best (best.length - (k + 1)) (k + 1) (setL y ((k : Int) + 1) ⟨x.ballot,(rd tSlot best k).text⟩) = tg:=by
      rw [← hl,show best.length - k = (best.length - (k + 1)) + 1 by omega];rfl
    have hds:=setL_ds y ((k : Int) + 1) ⟨x.ballot,(rd tSlot best k).text⟩
    repeat (first|(refine gR ?_;refine d_start [10,11] [(0,1),(0,2),(0,3),(0,4),(0,5),(0,6),(0,7),(1,0),(1,8),(2,9),(3,10),(3,11)] HM (by kernel_rfl) (by kernel_rfl) qq (by kernel_rfl) rfl ?_;intro HQ HS W1 HM1;replace HM:=HM1;clear HM1)|refine Y ?_|(refine qs ?_;clear HM;intro W1 HM)|(refine qf ?_;go_at_call 82;refine (slotSetS y j ((k : Int) + 1) ⟨x.ballot,(rd tSlot best k).text⟩ (by omega) (by omega) hy (by exact pk_rec HM)).mono ?_;rintro e W1 ⟨j2,rfl,HM1⟩;refine ⟨_,rfl,?_⟩;replace HM:=HM1;clear HM1;simp only [partRcd,List.cons_append,List.nil_append] at HM;simp only [encRcd]))
    exact n_round (k + 1,setL y ((k : Int) + 1) ⟨x.ballot,(rd tSlot best k).text⟩) U ⟨hst,by rw [hds];omega,j2,by exact pk_boxr HM⟩ (by dsimp only;omega)
  · rw [show best.length - k = 0 by omega] at hl
    subst hl
    repeat (first|refine Y ?_|(refine qs ?_;clear HM;intro W1 HM))
    exact ret_cell HM rfl rfl rfl ⟨j,rfl,by simp only [layL,partRcd,List.cons_append,List.nil_append];exact HM.sb⟩
theorem promS (x : Rcd) (i : AtRcd) (f : Int) {b : Bool} {B : Option Addr} {d : Nat} {bs : List Slot} (hb : ∀ W',Mem w0 W' (own tSlot 91 i.a1.1 i.a1.2 x.ds :: L) → RoRow (rSlot b) W' B bs) (h0 : 0 ≤ x.dk) (h1 : x.yes.length ≤ 1048575) (h2 : x.best.length ≤ 1048576) (h3 : bs.length ≤ 1048576) (h4 : x.ds.length ≤ 1048576) (HM : Mem w0 W (partRcd 91 40 9 3 66 x i ++ L)) : Calls Tryz.prog 27 #[.agg (encRcd x i).toArray,.int .i64 f,.slice B bs.length d] W fun e W'=>∃ j,e = .returned (.agg (encRcd (promL x f bs) j).toArray) ∧ Mem w0 W' (partRcd 91 40 9 3 66 (promL x f bs) j ++ L):=by
  by_cases hs : 2 * ((addL x.yes f).length : Int) ≤ x.of
  · have e : promL x f bs = gotL x f bs:=if_pos hs
    rw [e]
    exact promShort x i f hb (by omega) h2 h3 hs HM
  · exact promLong x i f hb h0 h1 h2 h3 h4 hs HM
end Go.Proofs.YtampmicahnnebaaGreat.Sp
namespace Go.Proofs.YtampmicahnnebaaGreat.Sp
open Go Go.RowKit
section
variable {P : Program} {n : Nat} {ops : Array Oper} {Q : Exit → Act → World → Prop} {rest : List Oper} {E : Env} {w0 W : World} {L L' R : List Asn}
variable {d : Nat} {ty st st2 : TypeId} {pos : String} {after : Array Edge} {x y : Operand}
theorem p_makeFunc {f : FuncId} {first captured : List Operand} {vs ws : List Value} (h1 : evs E first = some vs) (h2 : evs E captured = some ws) : PV P E (.makeFunc (.func f) first.toArray captured.toArray) (.func (.func f) vs.toArray ws.toArray):=⟨fun n a ha dst ty pos after gd W=>by
  have e1:=ha.evals h1
  have e2:=ha.evals h2
  simp [execOp,Instr.makeFunc,e1,e2]⟩
theorem s_callv {f : FuncId} {fn : Func} {c : Operand} {as_ : List Operand} {ts : Array TypeId} {vs first captured : List Value} [hf : Fun P f fn] (hv : ev E c = some (.func (.func f) first.toArray captured.toArray)) (hvs : evs E as_ = some vs) (hn : Nat.blt d n = true)
    (h : Calls P f (first ++ vs ++ captured).toArray W fun e w=>∃ v,e = .returned v ∧ WL P n ops Q rest ((d,v) :: E) w) :
    WL P n ops Q (⟨some d,.call { callee:=.value c,args:=as_.toArray,argTypes:=ts },ty,pos,after,none⟩ :: rest) E W:=⟨fun a ha=>by
  refine wpList_plain rfl fun K hK=>?_
  have h1 : fn.name ≠ "runtime.NumGoroutine":=by simpa using hf.name
  obtain ⟨b,hc⟩:=Option.isSome_iff_exists.1 hf.body
  have hargs:=ha.evals hvs
  have hcv:=ha.eval hv
  have he : (callFunc f (first ++ vs ++ captured).toArray).run P W = .ok (.enter f (first ++ vs ++ captured).toArray) W:=by simp [callFunc,hf.out,h1,hc]
  have hrun : (execOp a.eval ⟨some d,.call { callee:=.value c,args:=as_.toArray,argTypes:=ts },ty,pos,after,none⟩).run P W = .ok (.enter f (first ++ vs ++ captured).toArray) W:=by
    unfold execOp
    simp [resolve,hcv,Deferred.ofValue,invoke]
    simpa [hargs] using he
  unfold Oper.wp
  rw [hrun,Oper.upon_enter]
  refine h.mono ?_
  rintro e w ⟨v,rfl,h2⟩
  refine hK _ _ ?_
  exact h2.out _ (ha.put (by simpa [Nat.blt_eq] using hn) v)⟩
end
section
variable {w0 W : World} {L : List Asn} {α : Type} {D : Ty α} {e c : Nat} {A : Option Addr} {xs : List α} {css : List (List Value)}
theorem cls_raw (h : Mem w0 W (own (tRaw D.sz) e A c css :: lels D xs css :: L)) : Mem w0 W (own D e A c xs :: L):=by
  obtain ⟨hb,F,h1,⟨css',hl,G,g1,hrow,hels⟩,F2,f1,⟨_,hl2,h4⟩,f3⟩:=h
  have hc : css' = css:=by
    refine List.ext_getElem hl fun i hi hi2=>?_
    obtain ⟨F',_,hA,_⟩:=els_get (d:=tRaw D.sz) i hi2 hi hels
    exact hA.1
  subst hc
  refine ⟨hb,fun k=>F k ∨ F2 k,fun k hk=>hk.elim (h1 k) (fun h=>(f1 k h).1),⟨css',hl2,G,fun k hk=>.inl (g1 k hk),by rw [← hl2];exact hrow,h4.mono (fun k hk=>⟨.inr hk,fun hg=>(f1 k hk).2 (g1 k hg)⟩)⟩,f3.mono (fun k hk=>⟨hk.1.1,fun h=>h.elim hk.1.2 hk.2⟩)⟩
theorem lels_ins {a : α} {cv : List Value} (k : Nat) (hA : ∀ W,(D.A a cv).H W (fun _=>False)) (hk : k ≤ xs.length) (h : Mem w0 W (lels D xs css :: L)) : Mem w0 W (lels D (xs.take k ++ [a] ++ xs.drop k) (css.take k ++ [cv] ++ css.drop k) :: L):=by
  obtain ⟨_,hl,h⟩:=h.ex
  have hl' : css.length = xs.length:=hl
  have h1 : (css.take k).length = (xs.take k).length:=by simp [hl']
  rw [lels_take css xs k hl',List.append_assoc] at h
  have h2 : Mem w0 W (D.A a cv :: (els D (xs.take k) (css.take k) ++ (els D (xs.drop k) (css.drop k) ++ L))):=⟨h.below,fun _=>False,fun _ h=>h.elim,hA W,h.sep.mono (fun k hk=>⟨hk,fun h=>h⟩)⟩
  refine Mem.mkx () (by simp [hl']) ?_
  rw [els_append _ _ _ _ (by simp [hl']),els_append _ _ _ _ h1,List.append_assoc,List.append_assoc]
  exact h2.perm (List.perm_middle (a:=D.A a cv) (l₁:=els D (xs.take k) (css.take k)) (l₂:=els D (xs.drop k) (css.drop k) ++ L)).symm
end
end Go.Proofs.YtampmicahnnebaaGreat.Sp
namespace Go.Proofs.YtampmicahnnebaaGreat.Sp
open Go Go.RowKit
set_option maxRecDepth 10000
set_option maxHeartbeats 2000000
variable {w0 W : World} {L : List Asn}
theorem knowL_stop {ds : List Slot} {b kn d : Int} (h : ¬ (d < kn ∧ d < ds.length ∧ (rd tSlot ds d).ballot = b)) (n : Nat) : knowL ds b kn n d = d:=by
  cases n with
  | zero=>rfl
  | succ n=>rw [knowL,if_neg h]
theorem knowL_le {ds : List Slot} {b kn : Int} (h : ds.length ≤ 60) : ∀ (n : Nat) (d : Int),d ≤ 1000 → knowL ds b kn n d ≤ 1000
  | 0,d,hd=>hd
  | n + 1,d,hd=>by
    rw [knowL]
    split
    · rename_i hh;exact knowL_le h n (d + 1) (by omega)
    · exact hd
theorem knowL_ge {ds : List Slot} {b kn : Int} : ∀ (n : Nat) (d : Int),0 ≤ d → 0 ≤ knowL ds b kn n d
  | 0,d,hd=>hd
  | n + 1,d,hd=>by
    rw [knowL]
    split
    · exact knowL_ge n (d + 1) (by omega)
    · exact hd
theorem beatS (x : Rcd) (i : AtRcd) (m : Msg) (am : At) (hv : VR x) (hu : x.up = true) (hm : MsgP m x.of) (HM : Mem w0 W (partRcd 91 40 9 3 66 x i ++ L)) : Calls Tryz.prog 96 #[.agg (encRcd x i).toArray,.agg (encMsg m am).toArray] W fun e W'=>∃ j,e = .returned (.agg (encRcd (beatL x m) j).toArray) ∧ Mem w0 W' (partRcd 91 40 9 3 66 (beatL x m) j ++ L):=by
  refine enter Tryz.func96 rfl Tryz.ntmps96 [(0,.agg (encRcd x i).toArray),(1,.agg (encMsg m am).toArray)] rfl ⟨rfl,rfl,trivial⟩ ?_
  unfold encRcd encMsg
  simp only [partRcd,List.cons_append,List.nil_append] at HM
  by_cases c1 : m.frm = x.number
  · have e : beatL x m = x:=by rw [beatL,if_pos (.inl c1)]
    repeat (first|refine Y ?_|(refine qs ?_;clear HM;intro W1 HM)|(refine qg ?_;clear HM;intro g W1 HM))
    rw [e]
    exact ret_cell HM rfl rfl rfl ⟨i,rfl,by simp only [partRcd,List.cons_append,List.nil_append];exact HM.sb⟩
  by_cases c2 : m.ballot < 1
  · have e : beatL x m = x:=by rw [beatL,if_pos (.inr c2)]
    repeat (first|refine Y ?_|(refine qs ?_;clear HM;intro W1 HM)|(refine qg ?_;clear HM;intro g W1 HM))
    rw [e]
    exact ret_cell HM rfl rfl rfl ⟨i,rfl,by simp only [partRcd,List.cons_append,List.nil_append];exact HM.sb⟩
  have ew : (followL x m.ballot).wishes = x.wishes:=by unfold followL;split <;> rfl
  have e : beatL x m = wishedL m.frm (followL x m.ballot).wishes (beat2 (beat1 (followL x m.ballot) m) m):=by rw [beatL,if_neg (by omega),ew]
  have hvy:=vr_follow (b:=m.ballot) hv hm.ballot.2
  rw [e]
  clear e ew
  repeat (first|refine Y ?_|(refine qs ?_;clear HM;intro W1 HM)|(refine qf ?_;go_at_call 95;refine (followS x i m.ballot (by exact pk_rec HM)).mono ?_;rintro e W1 ⟨j,rfl,HM1⟩;refine ⟨_,rfl,?_⟩;replace HM:=HM1;clear HM1;simp only [partRcd,List.cons_append,List.nil_append] at HM;simp only [encRcd])|(refine qg ?_;clear HM;intro g W1 HM))
  clear c1 hv hu
  generalize followL x m.ballot = y at *
  rename_i gr _ gm _ _ _
  have hd:=hvy.disk
  have hdl:=hd.slots.1
  have hdk0:=hd.k0
  have hdk1:=hd.k1
  have hkn:=hm.known
  have hwl:=hvy.wishes.len
  clear hvy hd
  have HMn:=(show Mem w0 _ (boxR 91 40 9 3 66 31 gr y j ++ _) from pk_boxr HM).name
  clear HM
  obtain ⟨R,hR,HM⟩:=HMn
  refine c_cut (σ:=Rcd × AtRcd) (fun s=>[(2,.pointer (some ⟨gr,0,none⟩)),(3,.pointer (some ⟨gm,0,none⟩)),(4,.pointer (some ⟨g,0,none⟩))]) (fun s W1=>s.1 = beat1 y m ∧ Mem w0 W1 (boxR 91 40 9 3 66 31 gr s.1 s.2 ++ R)) ?_ ?_
  · refine c_loop (σ:=Nat × Int) (fun s=>[(2,.pointer (some ⟨gr,0,none⟩)),(3,.pointer (some ⟨gm,0,none⟩)),(4,.pointer (some ⟨g,0,none⟩))]) (fun s W1=>knowL y.ds m.ballot m.known s.1 s.2 = knowL y.ds m.ballot m.known y.ds.length y.dk ∧ 0 ≤ s.2 ∧ s.2 ≤ y.ds.length ∧ (y.ds.length : Int) ≤ s.1 + s.2 ∧ Mem w0 W1 (boxR 91 40 9 3 66 31 gr { y with dk:=s.2 } j ++ _)) (fun s=>s.1) (y.ds.length,y.dk) U ⟨rfl,hdk0,hdk1,by dsimp only;omega,HM⟩ ?_
    clear HM
    subst hR
    rintro ⟨fu,d⟩ W1 ⟨hl,hd0,hd1,hf,HM⟩
    dsimp only at hl hd0 hd1 hf HM ⊢
    have HM0:=HM
    simp only [boxR,partRcd,List.cons_append,List.nil_append] at HM
    by_cases t1 : d < m.known
    rotate_left
    · have hb1 : ({ y with dk:=d } : Rcd) = beat1 y m:=by rw [beat1,← hl,knowL_stop (fun h=>t1 h.1)]
      repeat (first|(refine gR ?_;refine d_start [] [(0,0),(0,1),(0,3),(1,2),(1,4),(0,5),(0,6),(0,7),(0,8),(0,10),(0,11),(1,9),(1,12),(0,13),(0,14),(0,15),(0,16),(0,17),(0,18),(0,20),(0,21),(0,26),(1,19),(1,22),(0,23),(0,24),(1,25),(1,27),(0,28),(0,29)] HM (by kernel_rfl) (by kernel_rfl) qq (by kernel_rfl) rfl ?_;intro HQ HS W1 HM1;replace HM:=HM1;clear HM1)|refine Y ?_)
      exact n_mid ({ y with dk:=d },j) U ⟨hb1,by exact pk_boxr (x:={ y with dk:=d }) HM⟩
    by_cases t2 : d < y.ds.length
    rotate_left
    · have hb1 : ({ y with dk:=d } : Rcd) = beat1 y m:=by rw [beat1,← hl,knowL_stop (fun h=>t2 h.2.1)]
      repeat (first|(refine gR ?_;refine d_start [] [(0,0),(0,1),(0,3),(1,2),(1,4),(0,5),(0,6),(0,7),(0,8),(0,10),(0,11),(1,9),(1,12),(0,13),(0,14),(0,15),(0,16),(0,17),(0,18),(0,20),(0,21),(0,26),(1,19),(1,22),(0,23),(0,24),(1,25),(1,27),(0,28),(0,29)] HM (by kernel_rfl) (by kernel_rfl) qq (by kernel_rfl) rfl ?_;intro HQ HS W1 HM1;replace HM:=HM1;clear HM1)|refine Y ?_)
      exact n_mid ({ y with dk:=d },j) U ⟨hb1,by exact pk_boxr (x:={ y with dk:=d }) HM⟩
    by_cases t3 : (rd tSlot y.ds d).ballot = m.ballot
    rotate_left
    · have hb1 : ({ y with dk:=d } : Rcd) = beat1 y m:=by rw [beat1,← hl,knowL_stop (fun h=>t3 h.2.2)]
      repeat (first|(refine gR ?_;refine d_start [] [(0,0),(0,1),(0,3),(1,2),(1,4),(0,5),(0,6),(0,7),(0,8),(0,10),(0,11),(1,9),(1,12),(0,13),(0,14),(0,15),(0,16),(0,17),(0,18),(0,20),(0,21),(0,26),(1,19),(1,22),(0,23),(0,24),(1,25),(1,27),(0,28),(0,29)] HM (by kernel_rfl) (by kernel_rfl) qq (by kernel_rfl) rfl ?_;intro HQ HS W1 HM1;replace HM:=HM1;clear HM1)|refine Y ?_)
      exact n_mid ({ y with dk:=d },j) U ⟨hb1,by exact pk_boxr (x:={ y with dk:=d }) HM⟩
    obtain ⟨n,rfl⟩ : ∃ n,fu = n + 1:=⟨fu - 1,by omega⟩
    have hst : knowL y.ds m.ballot m.known n (d + 1) = knowL y.ds m.ballot m.known y.ds.length y.dk:=by rw [← hl,knowL,if_pos ⟨t1,t2,t3⟩]
    repeat (first|(refine gR ?_;refine d_start [] [(0,0),(0,1),(0,3),(1,2),(1,4),(0,5),(0,6),(0,7),(0,8),(0,10),(0,11),(1,9),(1,12),(0,13),(0,14),(0,15),(0,16),(0,17),(0,18),(0,20),(0,21),(0,26),(1,19),(1,22),(0,23),(0,24),(1,25),(1,27),(0,28),(0,29)] HM (by kernel_rfl) (by kernel_rfl) qq (by kernel_rfl) rfl ?_;intro HQ HS W1 HM1;replace HM:=HM1;clear HM1)|refine Y ?_|(refine qs ?_;clear HM;intro W1 HM))
    exact n_round (n,d + 1) U ⟨hst,by dsimp only;omega,by dsimp only;omega,by dsimp only;omega,by exact pk_boxr (x:={ y with dk:=d + 1 }) HM⟩ (by dsimp only;omega)
  clear HM
  subst hR
  rintro ⟨z,jz⟩ W1 ⟨hz,HM⟩
  dsimp only at hz HM ⊢
  rw [← hz]
  have hzd : 0 ≤ z.dk ∧ z.dk ≤ 1000:=by
    rw [hz]
    exact ⟨knowL_ge _ _ hdk0,knowL_le hdl _ _ (by omega)⟩
  have hzw : (beat2 z m).wishes = y.wishes:=by rw [beat2];split <;> (try unfold holdL) <;> (try split) <;> rw [hz] <;> rfl
  simp only [boxR,partRcd,List.cons_append,List.nil_append] at HM
  rw [← hzw]
  rw [← hzw] at hwl
  clear hz hzw
  repeat refine Y ?_
  have HMn:=(show Mem w0 _ (boxR 91 40 9 3 66 31 gr z jz ++ _) from pk_boxr HM).name
  clear HM
  obtain ⟨R,hR,HM⟩:=HMn
  refine c_cutn (σ:=Rcd × AtRcd) (fun s=>[(2,.pointer (some ⟨gr,0,none⟩)),(3,.pointer (some ⟨gm,0,none⟩)),(4,.pointer (some ⟨g,0,none⟩))]) (fun s W1=>s.1 = beat2 z m ∧ Mem w0 W1 (boxR 91 40 9 3 66 31 gr s.1 s.2 ++ R)) ?_ ?_
  · subst hR
    simp only [boxR,partRcd,List.cons_append,List.nil_append] at HM
    by_cases t1 : z.dk < m.known
    · have e : beat2 z m = holdL z ⟨7,0,m.frm,m.ballot,z.dk + 1,0,⟨#[]⟩,[]⟩:=if_pos t1
      repeat (first|refine Y ?_|(refine qs ?_;clear HM;intro W1 HM)|(refine qf ?_;go_at_call 33;have HM2:=HM.nil tSlot 91;refine (holdS z jz ⟨7,0,m.frm,m.ballot,z.dk + 1,0,⟨#[]⟩,[]⟩ (none,0) (by exact pk_holds HM2)).mono ?_;clear HM2;rintro e W1 ⟨j2,rfl,HM1⟩;refine ⟨_,rfl,?_⟩;replace HM:=HM1;clear HM1;simp only [partRcd,List.cons_append,List.nil_append] at HM;simp only [encRcd]))
      exact n_mid (beat2 z m,j2) U ⟨rfl,by rw [e];exact pk_boxr HM⟩
    · have e : beat2 z m = z:=if_neg t1
      repeat ((refine gC ?_;first|refine c_skip ?_|refine c_no rfl (by (simp;omega)) ?_))
      exact n_mid (z,jz) U ⟨e.symm,by exact pk_boxr HM⟩
  clear HM
  subst hR
  rintro ⟨q,jq⟩ W1 ⟨hq,HM⟩
  dsimp only at hq HM ⊢
  rw [← hq]
  rw [← hq] at hwl
  clear hq hzd
  repeat refine Y ?_
  refine c_loop (σ:=Nat × Rcd) (fun s=>[(2,.pointer (some ⟨gr,0,none⟩)),(3,.pointer (some ⟨gm,0,none⟩)),(4,.pointer (some ⟨g,0,none⟩)),(5,.int .i64 s.1)]) (fun s W1=>s.1 ≤ q.wishes.length ∧ wishedL m.frm (q.wishes.drop s.1) s.2 = wishedL m.frm q.wishes q ∧ s.2.wishes = q.wishes ∧ ∃ j,Mem w0 W1 (boxR 91 40 9 3 66 31 gr s.2 j ++ _)) (fun s=>q.wishes.length - s.1) (0,q) U ⟨Nat.zero_le _,rfl,rfl,jq,HM⟩ ?_
  clear HM
  rintro ⟨k,u⟩ W1 ⟨hk,hl,hw,ju,HM⟩
  dsimp only at hk hl hw HM ⊢
  simp only [boxR,partRcd,List.cons_append,List.nil_append] at HM
  by_cases hlt : k < q.wishes.length
  · have hlt2 : k < u.wishes.length:=by rw [hw];exact hlt
    have hst : wishedL m.frm (q.wishes.drop (k + 1)) (holdL u ⟨8,0,m.frm,0,0,0,rd tStr u.wishes k,[]⟩) = wishedL m.frm q.wishes q:=by
      rw [← hl,List.drop_eq_getElem_cons hlt,wishedL,rd_at hlt2];simp only [hw]
    have hst2 : (holdL u ⟨8,0,m.frm,0,0,0,rd tStr u.wishes k,[]⟩).wishes = q.wishes:=by rw [← hw];unfold holdL;split <;> rfl
    have hwu : u.wishes.length ≤ 20:=by rw [hw];exact hwl
    repeat (first|(refine gR ?_;refine d_start [9,10] [(0,1),(0,3),(0,5),(1,0),(1,2),(1,4),(0,6),(1,7),(2,8),(3,9),(3,10)] HM (by kernel_rfl) (by kernel_rfl) qq (by kernel_rfl) rfl ?_;intro HQ HS W1 HM1;replace HM:=HM1;clear HM1)|refine Y ?_|(refine qs ?_;clear HM;intro W1 HM)|(refine qf ?_;go_at_call 33;have HM2:=HM.nil tSlot 91;refine (holdS u ju ⟨8,0,m.frm,0,0,0,rd tStr u.wishes k,[]⟩ (none,0) (by exact pk_holds HM2)).mono ?_;clear HM2;rintro e W1 ⟨j2,rfl,HM1⟩;refine ⟨_,rfl,?_⟩;replace HM:=HM1;clear HM1;simp only [partRcd,List.cons_append,List.nil_append] at HM;simp only [encRcd]))
    exact n_round (k + 1,holdL u ⟨8,0,m.frm,0,0,0,rd tStr u.wishes k,[]⟩) U ⟨by dsimp only;omega,hst,hst2,j2,by exact pk_boxr HM⟩ (by dsimp only;omega)
  · have hlt2 : ¬ k < u.wishes.length:=by rw [hw];exact hlt
    have hwu : u.wishes.length ≤ 20:=by rw [hw];exact hwl
    rw [List.drop_eq_nil_of_le (by omega)] at hl
    rw [← hl]
    repeat (first|refine Y ?_|(refine qs ?_;clear HM;intro W1 HM))
    exact ret_cell HM rfl rfl rfl ⟨ju,rfl,by simp only [wishedL,partRcd,List.cons_append,List.nil_append];exact HM.sb⟩
end Go.Proofs.YtampmicahnnebaaGreat.Sp
namespace Go.Proofs.YtampmicahnnebaaGreat.Sp
open Go Go.RowKit
set_option maxRecDepth 10000
set_option maxHeartbeats 4000000
variable {w0 W : World} {L : List Asn}
theorem takePrep (x : Rcd) (i : AtRcd) (m : Msg) (am : At) (hv : VR x) (hk : m.kind = 1) (HM : Mem w0 W (partRcd 91 40 9 3 66 x i ++ L)) : Calls Tryz.prog 56 #[.agg (encRcd x i).toArray,.agg (encMsg m am).toArray] W fun e W'=>∃ j,e = .returned (.agg (encRcd (prepL x m) j).toArray) ∧ Mem w0 W' (partRcd 91 40 9 3 66 (prepL x m) j ++ L):=by
  refine enter Tryz.func56 rfl Tryz.ntmps56 [(0,.agg (encRcd x i).toArray),(1,.agg (encMsg m am).toArray)] rfl ⟨rfl,rfl,trivial⟩ ?_
  unfold encRcd encMsg
  simp only [boxR,partRcd,List.cons_append,List.nil_append] at HM
  by_cases c1 : m.ballot ≤ x.dp
  · have e : prepL x m = holdL x ⟨9,0,m.frm,x.dp,0,0,⟨#[]⟩,[]⟩:=if_pos c1
    repeat (first|refine Y ?_|(refine qs ?_;clear HM;intro W1 HM)|(refine qf ?_;go_at_call 33;have HM2:=HM.nil tSlot 91;refine (holdS x i ⟨9,0,m.frm,x.dp,0,0,⟨#[]⟩,[]⟩ (none,0) (by exact pk_holds HM2)).mono ?_;clear HM2;rintro e W1 ⟨j2,rfl,HM1⟩;refine ⟨_,rfl,?_⟩;replace HM:=HM1;clear HM1;simp only [partRcd,List.cons_append,List.nil_append] at HM;simp only [encRcd])|(refine qg ?_;clear HM;intro g W1 HM))
    rw [e]
    exact ret_cell HM rfl rfl rfl ⟨j2,rfl,by simp only [boxR,partRcd,List.cons_append,List.nil_append];exact HM.sb⟩
  · have e : prepL x m = holdL (followL x m.ballot) ⟨2,0,m.frm,m.ballot,0,0,⟨#[]⟩,(followL x m.ballot).ds⟩:=if_neg c1
    have hds : (followL x m.ballot).ds = x.ds:=by unfold followL;split <;> rfl
    have hd:=hv.disk.slots.1
    rw [← hds] at hd
    rw [e]
    repeat (first|(refine gR ?_;refine d_start [10,11] [(0,1),(0,3),(0,5),(0,6),(1,0),(1,2),(1,4),(1,7),(2,8),(2,9),(3,10),(3,11)] HM (by kernel_rfl) (by kernel_rfl) qq (by kernel_rfl) rfl ?_;intro HQ HS W1 HM1;replace HM:=HM1;clear HM1)|refine Y ?_|(refine qs ?_;clear HM;intro W1 HM)|(refine qf ?_;first|(go_at_call 95;refine (followS x i m.ballot (by exact pk_rec HM)).mono ?_;rintro e W1 ⟨j2,rfl,HM1⟩;refine ⟨_,rfl,?_⟩;replace HM:=HM1;clear HM1;simp only [partRcd,List.cons_append,List.nil_append] at HM;simp only [encRcd];clear e hds c1;generalize followL x m.ballot = y at *)|(go_at_call 79;obtain ⟨F1,hF1⟩:=HM.own (A:=j2.a1.1);refine (l1Slots_c (ro_slots hF1) (by omega) (Mem.start _)).mono ?_;clear hF1;rintro e W1 ⟨A3,c3,rfl,HM1⟩;refine ⟨_,rfl,?_⟩;replace HM:=HM.join HM1;clear HM1;simp only [List.cons_append,List.nil_append] at HM)|(go_at_call 33;refine (holdS y j2 ⟨2,0,m.frm,m.ballot,0,0,⟨#[]⟩,y.ds⟩ (A3,c3) (by exact pk_holds HM)).mono ?_;rintro e W1 ⟨j3,rfl,HM1⟩;refine ⟨_,rfl,?_⟩;replace HM:=HM1;clear HM1;simp only [partRcd,List.cons_append,List.nil_append] at HM;simp only [encRcd]))|(refine qg ?_;clear HM;intro g W1 HM))
    exact ret_cell HM rfl rfl rfl ⟨j3,rfl,by simp only [boxR,partRcd,List.cons_append,List.nil_append];exact HM.sb⟩
theorem takePromised (x : Rcd) (i : AtRcd) (m : Msg) (am : At) (hv : VR x) (hm : MsgP m x.of) (hk : m.kind = 2) {b : Bool} (hb : ∀ W',Mem w0 W' L → RoRow (rSlot b) W' am.1 m.slots) (HM : Mem w0 W (partRcd 91 40 9 3 66 x i ++ L)) : Calls Tryz.prog 56 #[.agg (encRcd x i).toArray,.agg (encMsg m am).toArray] W fun e W'=>∃ j,e = .returned (.agg (encRcd (if x.trying = true ∧ m.ballot = x.ballot then promL x m.frm m.slots else x) j).toArray) ∧ Mem w0 W' (partRcd 91 40 9 3 66 (if x.trying = true ∧ m.ballot = x.ballot then promL x m.frm m.slots else x) j ++ L):=by
  refine enter Tryz.func56 rfl Tryz.ntmps56 [(0,.agg (encRcd x i).toArray),(1,.agg (encMsg m am).toArray)] rfl ⟨rfl,rfl,trivial⟩ ?_
  unfold encRcd encMsg
  simp only [boxR,partRcd,List.cons_append,List.nil_append] at HM
  by_cases c1 : x.trying = true
  rotate_left
  · rw [if_neg (fun h=>c1 h.1)]
    simp only [Bool.not_eq_true] at c1
    repeat (first|refine Y ?_|(refine qs ?_;clear HM;intro W1 HM)|(refine qg ?_;clear HM;intro g W1 HM))
    exact ret_cell HM rfl rfl rfl ⟨i,rfl,by simp only [boxR,partRcd,List.cons_append,List.nil_append];exact HM.sb⟩
  by_cases c2 : m.ballot = x.ballot
  rotate_left
  · rw [if_neg (fun h=>c2 h.2)]
    repeat (first|refine Y ?_|(refine qs ?_;clear HM;intro W1 HM)|(refine qg ?_;clear HM;intro g W1 HM))
    exact ret_cell HM rfl rfl rfl ⟨i,rfl,by simp only [boxR,partRcd,List.cons_append,List.nil_append];exact HM.sb⟩
  rw [if_pos ⟨c1,c2⟩]
  have h0:=hv.disk.k0
  have h1:=nums_len hv.yes hv.of5
  have h2:=hv.best.1
  have h3:=hm.slots.1
  have h4:=hv.disk.slots.1
  repeat (first|refine Y ?_|(refine qs ?_;clear HM;intro W1 HM)|(refine qf ?_;go_at_call 27;have HMp:=(show Mem w0 _ (partRcd 91 40 9 3 66 x i ++ _) from pk_rec HM);refine (promS x i m.frm (fun W' h=>hb W' (by exact h.sb)) h0 (by omega) (by omega) (by omega) (by omega) HMp).mono ?_;clear HMp;rintro e W1 ⟨j2,rfl,HM1⟩;refine ⟨_,rfl,?_⟩;replace HM:=HM1;clear HM1;simp only [partRcd,List.cons_append,List.nil_append] at HM;simp only [encRcd])|(refine qg ?_;clear HM;intro g W1 HM))
  exact ret_cell HM rfl rfl rfl ⟨j2,rfl,by simp only [boxR,partRcd,List.cons_append,List.nil_append];exact HM.sb⟩
theorem takeAccept (x : Rcd) (i : AtRcd) (m : Msg) (am : At) (hv : VR x) (hm : MsgP m x.of) (hk : m.kind = 3) (HM : Mem w0 W (partRcd 91 40 9 3 66 x i ++ L)) : Calls Tryz.prog 56 #[.agg (encRcd x i).toArray,.agg (encMsg m am).toArray] W fun e W'=>∃ j,e = .returned (.agg (encRcd (accL x m) j).toArray) ∧ Mem w0 W' (partRcd 91 40 9 3 66 (accL x m) j ++ L):=by
  refine enter Tryz.func56 rfl Tryz.ntmps56 [(0,.agg (encRcd x i).toArray),(1,.agg (encMsg m am).toArray)] rfl ⟨rfl,rfl,trivial⟩ ?_
  unfold encRcd encMsg
  simp only [boxR,partRcd,List.cons_append,List.nil_append] at HM
  by_cases c1 : m.ballot < x.dp
  · have e : accL x m = holdL x ⟨9,0,m.frm,x.dp,0,0,⟨#[]⟩,[]⟩:=if_pos c1
    repeat (first|refine Y ?_|(refine qs ?_;clear HM;intro W1 HM)|(refine qf ?_;go_at_call 33;have HM2:=HM.nil tSlot 91;refine (holdS x i ⟨9,0,m.frm,x.dp,0,0,⟨#[]⟩,[]⟩ (none,0) (by exact pk_holds HM2)).mono ?_;clear HM2;rintro e W1 ⟨j2,rfl,HM1⟩;refine ⟨_,rfl,?_⟩;replace HM:=HM1;clear HM1;simp only [partRcd,List.cons_append,List.nil_append] at HM;simp only [encRcd])|(refine qg ?_;clear HM;intro g W1 HM))
    rw [e]
    exact ret_cell HM rfl rfl rfl ⟨j2,rfl,by simp only [boxR,partRcd,List.cons_append,List.nil_append];exact HM.sb⟩
  by_cases c2 : m.index < 1
  · have e : accL x m = x:=by rw [accL,if_neg c1,if_pos (.inl c2)]
    repeat (first|refine Y ?_|(refine qs ?_;clear HM;intro W1 HM)|(refine qg ?_;clear HM;intro g W1 HM))
    rw [e]
    exact ret_cell HM rfl rfl rfl ⟨i,rfl,by simp only [boxR,partRcd,List.cons_append,List.nil_append];exact HM.sb⟩
  by_cases c3 : m.ballot < 1
  · have e : accL x m = x:=by rw [accL,if_neg c1,if_pos (.inr (.inl c3))]
    repeat (first|refine Y ?_|(refine qs ?_;clear HM;intro W1 HM)|(refine qg ?_;clear HM;intro g W1 HM))
    rw [e]
    exact ret_cell HM rfl rfl rfl ⟨i,rfl,by simp only [boxR,partRcd,List.cons_append,List.nil_append];exact HM.sb⟩
  by_cases c4 : m.frm = x.number
  · have e : accL x m = x:=by rw [accL,if_neg c1,if_pos (.inr (.inr c4))]
    repeat (first|refine Y ?_|(refine qs ?_;clear HM;intro W1 HM)|(refine qg ?_;clear HM;intro g W1 HM))
    rw [e]
    exact ret_cell HM rfl rfl rfl ⟨i,rfl,by simp only [boxR,partRcd,List.cons_append,List.nil_append];exact HM.sb⟩
  have e : accL x m = holdL (acc1 (followL x m.ballot) m) ⟨4,0,m.frm,m.ballot,m.index,0,⟨#[]⟩,[]⟩:=by rw [accL,if_neg c1,if_neg (by omega)]
  have hds : (followL x m.ballot).ds = x.ds:=by unfold followL;split <;> rfl
  have hd:=hv.disk.slots.1
  have hix:=hm.index
  rw [← hds] at hd
  rw [e]
  by_cases c5 : (followL x m.ballot).dk < m.index
  · have e1 : acc1 (followL x m.ballot) m = setL (followL x m.ballot) m.index ⟨m.ballot,m.text⟩:=if_pos c5
    rw [e1]
    repeat (first|refine Y ?_|(refine qs ?_;clear HM;intro W1 HM)|(refine qf ?_;first|(go_at_call 95;refine (followS x i m.ballot (by exact pk_rec HM)).mono ?_;rintro e W1 ⟨j2,rfl,HM1⟩;refine ⟨_,rfl,?_⟩;replace HM:=HM1;clear HM1;simp only [partRcd,List.cons_append,List.nil_append] at HM;simp only [encRcd];clear e hds e1;generalize followL x m.ballot = y at *)|(go_at_call 82;refine (slotSetS y j2 m.index ⟨m.ballot,m.text⟩ (by omega) (by omega) (by omega) (by exact pk_rec HM)).mono ?_;rintro e W1 ⟨j3,rfl,HM1⟩;refine ⟨_,rfl,?_⟩;replace HM:=HM1;clear HM1;simp only [partRcd,List.cons_append,List.nil_append] at HM;simp only [encRcd])|(go_at_call 33;have HM2:=HM.nil tSlot 91;refine (holdS (setL y m.index ⟨m.ballot,m.text⟩) j3 ⟨4,0,m.frm,m.ballot,m.index,0,⟨#[]⟩,[]⟩ (none,0) (by exact pk_holds HM2)).mono ?_;clear HM2;rintro e W1 ⟨j4,rfl,HM1⟩;refine ⟨_,rfl,?_⟩;replace HM:=HM1;clear HM1;simp only [partRcd,List.cons_append,List.nil_append] at HM;simp only [encRcd]))|(refine qg ?_;clear HM;intro g W1 HM))
    exact ret_cell HM rfl rfl rfl ⟨j4,rfl,by simp only [boxR,partRcd,List.cons_append,List.nil_append];exact HM.sb⟩
  · have e1 : acc1 (followL x m.ballot) m = followL x m.ballot:=if_neg c5
    rw [e1]
    repeat (first|refine Y ?_|(refine qs ?_;clear HM;intro W1 HM)|(refine qf ?_;first|(go_at_call 95;refine (followS x i m.ballot (by exact pk_rec HM)).mono ?_;rintro e W1 ⟨j2,rfl,HM1⟩;refine ⟨_,rfl,?_⟩;replace HM:=HM1;clear HM1;simp only [partRcd,List.cons_append,List.nil_append] at HM;simp only [encRcd];clear e hds e1;generalize followL x m.ballot = y at *)|(go_at_call 33;have HM2:=HM.nil tSlot 91;refine (holdS y j2 ⟨4,0,m.frm,m.ballot,m.index,0,⟨#[]⟩,[]⟩ (none,0) (by exact pk_holds HM2)).mono ?_;clear HM2;rintro e W1 ⟨j4,rfl,HM1⟩;refine ⟨_,rfl,?_⟩;replace HM:=HM1;clear HM1;simp only [partRcd,List.cons_append,List.nil_append] at HM;simp only [encRcd]))|(refine qg ?_;clear HM;intro g W1 HM))
    exact ret_cell HM rfl rfl rfl ⟨j4,rfl,by simp only [boxR,partRcd,List.cons_append,List.nil_append];exact HM.sb⟩
theorem takeAccepted (x : Rcd) (i : AtRcd) (m : Msg) (am : At) (hv : VR x) (hm : MsgP m x.of) (hk : m.kind = 4) (HM : Mem w0 W (partRcd 91 40 9 3 66 x i ++ L)) : Calls Tryz.prog 56 #[.agg (encRcd x i).toArray,.agg (encMsg m am).toArray] W fun e W'=>∃ j,e = .returned (.agg (encRcd (if x.lead = true ∧ m.ballot = x.ballot ∧ 0 < m.index then ackL x m.index m.frm else x) j).toArray) ∧ Mem w0 W' (partRcd 91 40 9 3 66 (if x.lead = true ∧ m.ballot = x.ballot ∧ 0 < m.index then ackL x m.index m.frm else x) j ++ L):=by
  refine enter Tryz.func56 rfl Tryz.ntmps56 [(0,.agg (encRcd x i).toArray),(1,.agg (encMsg m am).toArray)] rfl ⟨rfl,rfl,trivial⟩ ?_
  unfold encRcd encMsg
  simp only [boxR,partRcd,List.cons_append,List.nil_append] at HM
  by_cases c1 : x.lead = true
  rotate_left
  · rw [if_neg (fun h=>c1 h.1)]
    simp only [Bool.not_eq_true] at c1
    repeat (first|refine Y ?_|(refine qs ?_;clear HM;intro W1 HM)|(refine qg ?_;clear HM;intro g W1 HM))
    exact ret_cell HM rfl rfl rfl ⟨i,rfl,by simp only [boxR,partRcd,List.cons_append,List.nil_append];exact HM.sb⟩
  by_cases c2 : m.ballot = x.ballot
  rotate_left
  · rw [if_neg (fun h=>c2 h.2.1)]
    repeat (first|refine Y ?_|(refine qs ?_;clear HM;intro W1 HM)|(refine qg ?_;clear HM;intro g W1 HM))
    exact ret_cell HM rfl rfl rfl ⟨i,rfl,by simp only [boxR,partRcd,List.cons_append,List.nil_append];exact HM.sb⟩
  by_cases c3 : 0 < m.index
  rotate_left
  · rw [if_neg (fun h=>c3 h.2.2)]
    repeat (first|refine Y ?_|(refine qs ?_;clear HM;intro W1 HM)|(refine qg ?_;clear HM;intro g W1 HM))
    exact ret_cell HM rfl rfl rfl ⟨i,rfl,by simp only [boxR,partRcd,List.cons_append,List.nil_append];exact HM.sb⟩
  rw [if_pos ⟨c1,c2,c3⟩]
  have h0:=hv.disk.k0
  have h1:=hv.disk.k1
  have h2:=hv.disk.slots.1
  have h3:=acks_len hv.acks
  have h4 : ∀ a ∈ x.acks,a.frm.length ≤ 1000:=fun a ha=>by have:=nums_len (hv.acks.all a ha).2 hv.of5;omega
  repeat (first|refine Y ?_|(refine qs ?_;clear HM;intro W1 HM)|(refine qf ?_;go_at_call 83;refine (ackS x i m.index m.frm h0 h1 (by omega) (by omega) h4 (by exact pk_rec HM)).mono ?_;rintro e W1 ⟨j2,rfl,HM1⟩;refine ⟨_,rfl,?_⟩;replace HM:=HM1;clear HM1;simp only [partRcd,List.cons_append,List.nil_append] at HM;simp only [encRcd])|(refine qg ?_;clear HM;intro g W1 HM))
  exact ret_cell HM rfl rfl rfl ⟨j2,rfl,by simp only [boxR,partRcd,List.cons_append,List.nil_append];exact HM.sb⟩
end Go.Proofs.YtampmicahnnebaaGreat.Sp
