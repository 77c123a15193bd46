/- Recorders that are drawn anyhow. No condition. -/
import Derived.Test.YtampmicahnnebaaGreatRecClaim14
import Derived.Test.YtampmicahnnebaaGreatRecClaim13
import Derived.Test.YtampmicahnnebaaGreatRecClaim6
set_option linter.unusedVariables false
set_option linter.unusedSimpArgs false
namespace Go.Proofs.YtampmicahnnebaaGreat.Sp
open Go Go.RowKit
set_option maxRecDepth 10000
set_option maxHeartbeats 4000000
variable {w0 W : World} {L R : List Asn} {A : Option Addr} {c : Nat} {bs : List Int}
theorem any_c {gr q : Nat} (hb : RoRow rByte w0 A bs) (hl : bs.length ≤ 2000) [hrd : RdAt L A bs.length c gr q R] (hq : q ≤ 700000) (HM : Mem w0 W L) : Calls Tryz.prog 19 #[.pointer (some ⟨gr,0,none⟩)] W fun e W'=>∃ (y : Rcd) (j : AtRcd),SmallR y ∧ Bd y ∧ e = .returned (.agg (encRcd y j).toArray) ∧ Mem w0 W' (partRcd 91 40 9 3 66 y j ++ (rdr A bs.length c (q + 2100) gr :: R)):=by
  refine enter Tryz.func19 rfl Tryz.ntmps19 [(0,_)] rfl ⟨rfl,trivial⟩ ?_
  replace HM:=HM.rdr_first (g:=gr)
  repeat (first|refine Y ?_|(refine qs ?_;clear HM;intro W1 HM)|(refine qf ?_;first|(go_at_call 62;refine (draw_c hb hl (by omega) HM).mono ?_;rintro e W1 ⟨x,j,hv,rfl,HM1⟩;refine ⟨_,rfl,?_⟩;replace HM:=HM1;clear HM1;simp only [partRcd,List.cons_append,List.nil_append] at HM;simp only [encRcd])|(go_at_call 20;refine (pick_c hb hl _ (by omega) HM).mono ?_;rintro e W1 ⟨v,hp0,rfl,HM1⟩;obtain ⟨p0,rfl⟩ : ∃ k : Nat,v = k:=⟨v.toNat,(by omega)⟩;have hp0b : p0 < 16:=(by omega);refine ⟨_,rfl,?_⟩;replace HM:=HM1;clear HM1))|(refine qg ?_;clear HM;intro g W1 HM))
  have hn:=hv.small
  have hds:=hv.disk.slots.1
  have hbd:=hv.bd
  have b1:=hbd.of0
  have b2:=hbd.n0
  have b3:=hbd.p0
  have b4:=hbd.k0
  have b5:=hbd.dsl
  have b6:=hbd.b0
  have b7:=hbd.wl
  by_cases p00 : p0 = 0
  · subst p00
    repeat (first|refine Y ?_|(refine qs ?_;clear HM;intro W1 HM)|(refine qf ?_;go_at_call 63;have HM2:=pk_rec (eS:=91) (eM:=40) (eT:=9) (eI:=3) (eA:=66) (x:=x) (i:=j) HM;refine (spoilr_c x j hv hb hl (by omega) HM2).mono ?_;clear HM2;rintro e W1 ⟨y,j2,hy,hyb,rfl,HM1⟩;refine ⟨_,rfl,?_⟩;replace HM:=HM1;clear HM1;simp only [partRcd,List.cons_append,List.nil_append] at HM;simp only [encRcd]))
    exact ret_cell HM rfl rfl rfl ⟨y,j2,hy,hyb,rfl,by simp only [partRcd,List.cons_append,List.nil_append];exact (HM.rdr_to (g:=gr) (q':=q + 2100) (by omega)).sb⟩
  by_cases p01 : p0 = 1
  · subst p01
    by_cases cl : x.lead = true
    rotate_left
    · simp only [Bool.not_eq_true] at cl
      repeat (first|refine Y ?_|(refine qs ?_;clear HM;intro W1 HM))
      exact ret_cell HM rfl rfl rfl ⟨x,j,hn,hbd,rfl,by simp only [partRcd,List.cons_append,List.nil_append];exact (HM.rdr_to (g:=gr) (q':=q + 2100) (by omega)).sb⟩
    repeat (first|refine Y ?_|(refine qf ?_;go_at_call 20;refine (pick_c hb hl _ (by omega) HM).mono ?_;rintro e W1 ⟨v,hp1,rfl,HM1⟩;obtain ⟨p1,rfl⟩ : ∃ k : Nat,v = k:=⟨v.toNat,(by omega)⟩;have hp1b : p1 < 2:=(by omega);refine ⟨_,rfl,?_⟩;replace HM:=HM1;clear HM1))
    rename_i gz Wa Wb Wc Wd We
    refine c_loop2 (σ:=List Slot) (fun s A c=>[(0,.pointer (some ⟨gr,0,none⟩)),(2,.pointer (some ⟨gz,0,none⟩)),(3,.pointer (some ⟨g,0,none⟩)),(4,.int .i64 (60 - (p1 : Int)))]) (fun s A' c' W1=>s.length ≤ 60 ∧ Mem w0 W1 (box gz 31 [.int .i64 0,.int .i64 0,.bool false,.int .i64 0,.int .i64 0,.slice none 0 0,.int .i64 0,.int .i64 0,.slice none 0 0,.slice none 0 0,.slice none 0 0,.bool false,.bool false,.int .i64 0,.slice none 0 0,.slice none 0 0,.slice none 0 0,.int .i64 0] :: box g 31 [.int .i64 x.number,.int .i64 x.of,.bool x.up,.int .i64 x.sp,.int .i64 x.sk,.slice j.a0.1 x.ss.length j.a0.2,.int .i64 x.dp,.int .i64 x.dk,.slice A' s.length c',.slice j.a2.1 x.held.length j.a2.2,.slice j.a3.1 x.wishes.length j.a3.2,.bool x.lead,.bool x.trying,.int .i64 x.ballot,.slice j.a4.1 x.yes.length j.a4.2,.slice j.a5.1 x.best.length j.a5.2,.slice j.a6.1 x.acks.length j.a6.2,.int .i64 x.heard] :: own tSlot 91 j.a0.1 j.a0.2 x.ss :: own tSlot 91 A' c' s :: own (tMsg 91) 40 j.a2.1 j.a2.2 x.held :: own tStr 9 j.a3.1 j.a3.2 x.wishes :: own tInt 3 j.a4.1 j.a4.2 x.yes :: own tSlot 91 j.a5.1 j.a5.2 x.best :: own (tAck 3) 66 j.a6.1 j.a6.2 x.acks :: rdr A bs.length c (q + 2100) gr :: R)) (fun s=>61 - s.length) x.ds j.a1.1 j.a1.2 U ⟨by omega,(HM.rdr_to (g:=gr) (q':=q + 2100) (by omega)).sb⟩ ?_
    clear HM
    rintro zs A6 c6 W1 ⟨hzl,HM⟩
    by_cases hlt : (zs.length : Int) < 60 - p1
    · repeat (first|(refine gGP ?_;refine gGB ?_;refine gp (p_concat2 rfl rfl (by have : (ByteArray.size ⟨#[102]⟩) = 1:=rfl;omega)) ?_)|(refine gR ?_;refine d_start [13,16] [(0,0),(0,1),(0,3),(0,5),(0,6),(1,2),(1,4),(1,7),(0,8),(2,9),(0,10),(2,11),(2,12),(3,13),(0,14),(0,15),(3,16)] HM (by kernel_rfl) (by kernel_rfl) qq (by kernel_rfl) rfl ?_;intro HQ HS W1 HM1;replace HM:=HM1;clear HM1)|refine Y ?_|(refine qs ?_;clear HM;intro W1 HM)|(refine qf ?_;go_at_call 57;refine (dec_c 100 (zs.length : Int) (by omega) (by omega) (by omega) HM).mono ?_;rintro e W1 ⟨t,ht,rfl,HM1⟩;refine ⟨_,rfl,?_⟩;replace HM:=HM1;clear HM1)|(refine qa ?_;clear HM;intro A1 c1 W1 HM)|(refine qg ?_;clear HM;intro g W1 HM))
      exact n_round2 (zs ++ [⟨x.ballot,⟨#[102]⟩ ++ t⟩]) A1 c1 U ⟨by simp only [List.length_append,List.length_cons,List.length_nil];omega,HM.sb⟩ (by simp only [List.length_append,List.length_cons,List.length_nil];omega)
    · repeat (first|refine Y ?_|(refine qs ?_;clear HM;intro W1 HM))
      exact ret_cell HM rfl rfl rfl ⟨{ x with ds:=zs },⟨j.a0,(A6,c6),j.a2,j.a3,j.a4,j.a5,j.a6⟩,⟨hn.ss,by dsimp only;omega,hn.held,hn.helds,hn.wishes,hn.yes,hn.best,hn.acks,hn.ackss⟩,⟨b1,b2,b3,b4,by dsimp only;omega,b6,b7⟩,rfl,by simp only [partRcd,List.cons_append,List.nil_append];exact (HM.rdr_to (g:=gr) (q':=q + 2100) (by omega)).sb⟩
  by_cases p02 : p0 = 2
  · subst p02
    by_cases cu : x.up = true
    rotate_left
    · simp only [Bool.not_eq_true] at cu
      repeat (first|refine Y ?_|(refine qs ?_;clear HM;intro W1 HM))
      exact ret_cell HM rfl rfl rfl ⟨x,j,hn,hbd,rfl,by simp only [partRcd,List.cons_append,List.nil_append];exact (HM.rdr_to (g:=gr) (q':=q + 2100) (by omega)).sb⟩
    by_cases cl : x.lead = true
    · repeat (first|refine Y ?_|(refine qs ?_;clear HM;intro W1 HM))
      exact ret_cell HM rfl rfl rfl ⟨x,j,hn,hbd,rfl,by simp only [partRcd,List.cons_append,List.nil_append];exact (HM.rdr_to (g:=gr) (q':=q + 2100) (by omega)).sb⟩
    simp only [Bool.not_eq_true] at cl
    repeat (first|refine Y ?_|(refine qs ?_;clear HM;intro W1 HM)|(refine qf ?_;first|(go_at_call 31;refine (calmS x j (by exact pk_rec HM)).mono ?_;rintro e W1 ⟨j2,rfl,HM1⟩;refine ⟨_,rfl,?_⟩;replace HM:=HM1;clear HM1;simp only [partRcd,calmL,List.cons_append,List.nil_append] at HM;simp only [encRcd,calmL])|(go_at_call 20;refine (pick_c hb hl _ (by omega) HM).mono ?_;rintro e W1 ⟨v,hp1,rfl,HM1⟩;obtain ⟨p1,rfl⟩ : ∃ k : Nat,v = k:=⟨v.toNat,(by omega)⟩;have hp1b : p1 < 4:=(by omega);refine ⟨_,rfl,?_⟩;replace HM:=HM1;clear HM1)))
    exact ret_cell HM rfl rfl rfl ⟨⟨x.number,x.of,x.up,x.sp,x.sk,x.ss,1000000 - (p1 : Int),x.dk,x.ds,x.held,x.wishes,false,false,0,[],[],[],30⟩,j2,⟨hn.ss,hn.ds,hn.held,hn.helds,hn.wishes,by simp,by simp,by simp,by simp⟩,⟨b1,b2,by dsimp only;omega,b4,b5,by simp,b7⟩,rfl,by simp only [partRcd,List.cons_append,List.nil_append];exact (HM.rdr_to (g:=gr) (q':=q + 2100) (by omega)).sb⟩
  repeat (first|refine Y ?_|(refine qs ?_;clear HM;intro W1 HM))
  exact ret_cell HM rfl rfl rfl ⟨x,j,hn,hbd,rfl,by simp only [partRcd,List.cons_append,List.nil_append];exact (HM.rdr_to (g:=gr) (q':=q + 2100) (by omega)).sb⟩
end Go.Proofs.YtampmicahnnebaaGreat.Sp
namespace Go.Proofs.YtampmicahnnebaaGreat.Sp
open Go Go.RowKit
set_option maxRecDepth 10000
set_option maxHeartbeats 40000000
variable {w0 W : World} {L R : List Asn} {A : Option Addr} {c : Nat} {bs : List Int}
theorem c_cutb {P : Program} {n : Nat} {Q : Exit → Act → World → Prop} {E : Env} {W : World} {σ : Type} {a b c x y : Code} (J : σ → Env) (M : σ → World → Prop) (h1 : WC P n a (Exit.then (b.wp P (Exit.then (c.wp P (Exit.then (x.wp P (Exit.then (MidP n J M) Q)) Q)) Q)) Q) E W) (h2 : ∀ s W,M s W → WC P n y Q (J s) W) : WC P n (.seq a (.seq b (.seq c (.seq x y)))) Q E W:=by
  have st : ∀ {u : Code} {N N' : Act → World → Prop},(∀ s w,N s w → N' s w) → ∀ s w,u.wp P (Exit.then N Q) s w → u.wp P (Exit.then N' Q) s w:=by
    intro u N N' h s w hs
    refine wp_mono hs fun e a' w' he=>?_
    cases e with
    | normal=>exact h _ _ he
    | _=>exact he
  refine c_seq ⟨fun s hs=>st (fun s w h=>wp_seq (st (fun s w h=>wp_seq (st (fun s w h=>wp_seq (st (fun s w h=>mid_wp h2 h) s w h)) s w h)) s w h)) s W (h1.out s hs)⟩
theorem drawt_c (hb : RoRow rByte w0 A bs) (hc : bs.length ≤ c) (HM : Mem w0 W L) : Calls Tryz.prog 4 #[.slice A bs.length c] W fun e W'=>∃ (y : Rcd) (j : AtRcd),SmallR y ∧ e = .returned (.agg (encRcd y j).toArray) ∧ Mem w0 W' (partRcd 91 40 9 3 66 y j ++ L):=by
  refine enter Tryz.func4 rfl Tryz.ntmps4 [(0,_)] rfl ⟨rfl,trivial⟩ ?_
  repeat (first|refine Y ?_|(refine qs ?_;clear HM;intro W1 HM)|(refine qf ?_;first|(go_at_call 18;refine (open_c hb hc HM).mono ?_;rintro e W1 ⟨gr,bs1,hb1,hl1,rfl,HM1⟩;refine ⟨_,rfl,?_⟩;replace HM:=HM1;clear HM1)|(go_at_call 19;refine (any_c hb1 hl1 (by omega) HM).mono ?_;rintro e W1 ⟨y,j,hy,hyb,rfl,HM1⟩;refine ⟨_,rfl,?_⟩;replace HM:=HM1;clear HM1;simp only [partRcd,List.cons_append,List.nil_append] at HM;simp only [encRcd]))|(refine qg ?_;clear HM;intro g W1 HM))
  have b2:=hyb.n0
  by_cases cu : y.up = true
  rotate_left
  · simp only [Bool.not_eq_true] at cu
    repeat (first|refine Y ?_|(refine qs ?_;clear HM;intro W1 HM))
    exact ret_cell HM rfl rfl rfl ⟨y,j,hy,rfl,by simp only [partRcd,List.cons_append,List.nil_append];exact HM.sb⟩
  by_cases cl : y.lead = true
  · repeat (first|refine Y ?_|(refine qs ?_;clear HM;intro W1 HM))
    exact ret_cell HM rfl rfl rfl ⟨y,j,hy,rfl,by simp only [partRcd,List.cons_append,List.nil_append];exact HM.sb⟩
  simp only [Bool.not_eq_true] at cl
  repeat (first|refine Y ?_|(refine qf ?_;go_at_call 20;refine (pick_c hb1 hl1 _ (by omega) HM).mono ?_;rintro e W1 ⟨v,hp0,rfl,HM1⟩;obtain ⟨p0,rfl⟩ : ∃ k : Nat,v = k:=⟨v.toNat,(by omega)⟩;have hp0b : p0 < 3:=(by omega);refine ⟨_,rfl,?_⟩;replace HM:=HM1;clear HM1))
  by_cases p00 : p0 = 0
  · subst p00
    repeat (first|(refine gR ?_;have HM2:=HM.rdr_first (g:=gr);clear HM;have HM:=HM2;clear HM2;(refine gR ?_;refine d_startd [8] [(0,0),(0,4),(1,1),(0,2),(0,3),(2,5),(0,6),(0,7),(3,8)] HM (by kernel_rfl) (by kernel_rfl) qq (by kernel_rfl) rfl ?_;intro HQ HS W1 HM1;replace HM:=HM1;clear HM1))|refine Y ?_|(refine qs ?_;clear HM;intro W1 HM)|(refine qf ?_;go_at_call 20;refine (pick_c hb1 hl1 _ (by omega) HM).mono ?_;rintro e W1 ⟨v,hp1,rfl,HM1⟩;obtain ⟨p1,rfl⟩ : ∃ k : Nat,v = k:=⟨v.toNat,(by omega)⟩;have hp1b : p1 < 2:=(by omega);refine ⟨_,rfl,?_⟩;replace HM:=HM1;clear HM1))
    exact ret_cell HM rfl rfl rfl ⟨⟨y.number,y.of,y.up,y.sp,y.sk,y.ss,y.dp,y.dk,y.ds,y.held,y.wishes,y.lead,y.trying,y.ballot,y.yes,y.best,y.acks,4 + 3 * y.number + (p1 : Int)⟩,j,⟨hy.ss,hy.ds,hy.held,hy.helds,hy.wishes,hy.yes,hy.best,hy.acks,hy.ackss⟩,rfl,by simp only [partRcd,List.cons_append,List.nil_append];exact HM.sb⟩
  · repeat (first|refine Y ?_|(refine qs ?_;clear HM;intro W1 HM))
    exact ret_cell HM rfl rfl rfl ⟨y,j,hy,rfl,by simp only [partRcd,List.cons_append,List.nil_append];exact HM.sb⟩
theorem rd_sz {ms : List ByteArray} {n : Nat} (h : ∀ m ∈ ms,m.size ≤ n) (i : Int) : (rd tStr ms i).size ≤ n:=by
  unfold rd
  rw [List.getD_eq_getElem?_getD]
  by_cases hi : i.toNat < ms.length
  · rw [List.getElem?_eq_getElem hi];exact h _ (List.getElem_mem hi)
  · rw [List.getElem?_eq_none (by omega)];exact Nat.zero_le _
theorem draww_c (hb : RoRow rByte w0 A bs) (hc : bs.length ≤ c) (HM : Mem w0 W L) : Calls Tryz.prog 15 #[.slice A bs.length c] W fun e W'=>∃ (y : Rcd) (j : AtRcd) (t : ByteArray),SmallR y ∧ t.size ≤ 1048576 ∧ e = .returned (.tuple #[.agg (encRcd y j).toArray,.string t]) ∧ Mem w0 W' (partRcd 91 40 9 3 66 y j ++ L):=by
  refine enter Tryz.func15 rfl Tryz.ntmps15 [(0,_)] rfl ⟨rfl,trivial⟩ ?_
  refine c_cutb (σ:=(Nat × Nat × Nat) × List Int × Rcd × AtRcd) (fun s=>[(2,.pointer (some ⟨s.1.1,0,none⟩)),(4,.pointer (some ⟨s.1.2.1,0,none⟩)),(5,.pointer (some ⟨s.1.2.2,0,none⟩))]) (fun s W1=>SmallR s.2.2.1 ∧ (RoRow rByte w0 A s.2.1 ∧ s.2.1.length ≤ 2000) ∧ Mem w0 W1 (rdr A s.2.1.length c 5000 s.1.2.1 :: box s.1.1 31 [.int .i64 0,.int .i64 0,.bool false,.int .i64 0,.int .i64 0,.slice none 0 0,.int .i64 0,.int .i64 0,.slice none 0 0,.slice none 0 0,.slice none 0 0,.bool false,.bool false,.int .i64 0,.slice none 0 0,.slice none 0 0,.slice none 0 0,.int .i64 0] :: box s.1.2.2 31 [.int .i64 s.2.2.1.number,.int .i64 s.2.2.1.of,.bool s.2.2.1.up,.int .i64 s.2.2.1.sp,.int .i64 s.2.2.1.sk,.slice s.2.2.2.a0.1 s.2.2.1.ss.length s.2.2.2.a0.2,.int .i64 s.2.2.1.dp,.int .i64 s.2.2.1.dk,.slice s.2.2.2.a1.1 s.2.2.1.ds.length s.2.2.2.a1.2,.slice s.2.2.2.a2.1 s.2.2.1.held.length s.2.2.2.a2.2,.slice s.2.2.2.a3.1 s.2.2.1.wishes.length s.2.2.2.a3.2,.bool s.2.2.1.lead,.bool s.2.2.1.trying,.int .i64 s.2.2.1.ballot,.slice s.2.2.2.a4.1 s.2.2.1.yes.length s.2.2.2.a4.2,.slice s.2.2.2.a5.1 s.2.2.1.best.length s.2.2.2.a5.2,.slice s.2.2.2.a6.1 s.2.2.1.acks.length s.2.2.2.a6.2,.int .i64 s.2.2.1.heard] :: (partRcd 91 40 9 3 66 s.2.2.1 s.2.2.2 ++ L))) ?_ ?_
  · repeat (first|refine Y ?_|(refine qs ?_;clear HM;intro W1 HM)|(refine qf ?_;first|(go_at_call 18;refine (open_c hb hc HM).mono ?_;rintro e W1 ⟨gr,bs1,hb1,hl1,rfl,HM1⟩;refine ⟨_,rfl,?_⟩;replace HM:=HM1;clear HM1)|(go_at_call 19;refine (any_c hb1 hl1 (by omega) HM).mono ?_;rintro e W1 ⟨y,j,hy,hyb,rfl,HM1⟩;refine ⟨_,rfl,?_⟩;replace HM:=HM1;clear HM1;simp only [partRcd,List.cons_append,List.nil_append] at HM;simp only [encRcd]))|(refine qg ?_;clear HM;intro g W1 HM))
    have hwl:=hyb.wl
    rename_i gz Wa Wb Wc Wd
    by_cases cu : y.up = true
    rotate_left
    · simp only [Bool.not_eq_true] at cu
      repeat refine Y ?_
      exact n_mid ((gz,gr,g),bs1,y,j) U ⟨hy,⟨hb1,hl1⟩,by dsimp only;simp only [partRcd,List.cons_append,List.nil_append];exact (HM.rdr_to (g:=gr) (q':=5000) (by omega)).sb⟩
    repeat (first|refine Y ?_|(refine qf ?_;go_at_call 20;refine (pick_c hb1 hl1 _ (by omega) HM).mono ?_;rintro e W1 ⟨v,hp0,rfl,HM1⟩;obtain ⟨p0,rfl⟩ : ∃ k : Nat,v = k:=⟨v.toNat,(by omega)⟩;have hp0b : p0 < 10:=(by omega);refine ⟨_,rfl,?_⟩;replace HM:=HM1;clear HM1))
    by_cases p00 : p0 = 0
    rotate_left
    · repeat ((refine gC ?_;first|refine c_skip ?_|refine c_no rfl (by (simp;omega)) ?_))
      exact n_mid ((gz,gr,g),bs1,y,j) U ⟨hy,⟨hb1,hl1⟩,by dsimp only;simp only [partRcd,List.cons_append,List.nil_append];exact (HM.rdr_to (g:=gr) (q':=5000) (by omega)).sb⟩
    subst p00
    repeat (first|refine Y ?_|(refine qf ?_;go_at_call 20;refine (pick_c hb1 hl1 _ (by omega) HM).mono ?_;rintro e W1 ⟨v,hp1,rfl,HM1⟩;obtain ⟨p1,rfl⟩ : ∃ k : Nat,v = k:=⟨v.toNat,(by omega)⟩;have hp1b : p1 < 2:=(by omega);refine ⟨_,rfl,?_⟩;replace HM:=HM1;clear HM1))
    refine c_loop2 (σ:=Nat × List ByteArray) (fun s A c=>[(2,.pointer (some ⟨gz,0,none⟩)),(4,.pointer (some ⟨gr,0,none⟩)),(5,.pointer (some ⟨g,0,none⟩)),(6,.int .i64 (20 - (p1 : Int))),(7,.int .i64 s.1)]) (fun s A' c' W1=>(s.2.length = y.wishes.length + s.1 ∧ s.1 ≤ 20 ∧ s.2.length ≤ 1000) ∧ Mem w0 W1 (rdr A bs1.length c 5000 gr :: box gz 31 [.int .i64 0,.int .i64 0,.bool false,.int .i64 0,.int .i64 0,.slice none 0 0,.int .i64 0,.int .i64 0,.slice none 0 0,.slice none 0 0,.slice none 0 0,.bool false,.bool false,.int .i64 0,.slice none 0 0,.slice none 0 0,.slice none 0 0,.int .i64 0] :: box g 31 [.int .i64 y.number,.int .i64 y.of,.bool y.up,.int .i64 y.sp,.int .i64 y.sk,.slice j.a0.1 y.ss.length j.a0.2,.int .i64 y.dp,.int .i64 y.dk,.slice j.a1.1 y.ds.length j.a1.2,.slice j.a2.1 y.held.length j.a2.2,.slice A' s.2.length c',.bool y.lead,.bool y.trying,.int .i64 y.ballot,.slice j.a4.1 y.yes.length j.a4.2,.slice j.a5.1 y.best.length j.a5.2,.slice j.a6.1 y.acks.length j.a6.2,.int .i64 y.heard] :: own tSlot 91 j.a0.1 j.a0.2 y.ss :: own tSlot 91 j.a1.1 j.a1.2 y.ds :: own (tMsg 91) 40 j.a2.1 j.a2.2 y.held :: own tStr 9 A' c' s.2 :: own tInt 3 j.a4.1 j.a4.2 y.yes :: own tSlot 91 j.a5.1 j.a5.2 y.best :: own (tAck 3) 66 j.a6.1 j.a6.2 y.acks :: L)) (fun s=>1001 - s.2.length) (0,y.wishes) j.a3.1 j.a3.2 U ⟨by dsimp only;omega,(HM.rdr_to (g:=gr) (q':=5000) (by omega)).sb⟩ ?_
    clear HM
    rintro ⟨k,zs⟩ A6 c6 W1 ⟨⟨hz1,hz2,hz3⟩,HM⟩
    dsimp only at hz1 hz2 hz3 HM ⊢
    by_cases hlt : (zs.length : Int) < 20 - p1
    · repeat (first|(refine gGP ?_;refine gGB ?_;refine gp (p_concat2 rfl rfl (by have : (ByteArray.size ⟨#[119]⟩) = 1:=rfl;omega)) ?_)|(refine gR ?_;refine d_start [6,8] [(0,0),(0,2),(1,1),(2,3),(0,4),(2,5),(3,6),(0,7),(3,8)] HM (by kernel_rfl) (by kernel_rfl) qq (by kernel_rfl) rfl ?_;intro HQ HS W1 HM1;replace HM:=HM1;clear HM1)|refine Y ?_|(refine qs ?_;clear HM;intro W1 HM)|(refine qf ?_;go_at_call 57;refine (dec_c 100 (k : Int) (by omega) (by omega) (by omega) HM).mono ?_;rintro e W1 ⟨t,ht,rfl,HM1⟩;refine ⟨_,rfl,?_⟩;replace HM:=HM1;clear HM1)|(refine qa ?_;clear HM;intro A1 c1 W1 HM)|(refine qg ?_;clear HM;intro g W1 HM))
      exact n_round2 (k + 1,zs ++ [⟨#[119]⟩ ++ t]) A1 c1 U ⟨⟨by simp only [List.length_append,List.length_cons,List.length_nil];omega,by dsimp only;omega,by simp only [List.length_append,List.length_cons,List.length_nil];omega⟩,HM.sb⟩ (by simp only [List.length_append,List.length_cons,List.length_nil];omega)
    · repeat refine Y ?_
      exact n_mid ((gz,gr,g),bs1,{ y with wishes:=zs },⟨j.a0,j.a1,j.a2,(A6,c6),j.a4,j.a5,j.a6⟩) U ⟨⟨hy.ss,hy.ds,hy.held,hy.helds,by dsimp only;omega,hy.yes,hy.best,hy.acks,hy.ackss⟩,⟨hb1,hl1⟩,by dsimp only;simp only [partRcd,List.cons_append,List.nil_append];exact HM.sb⟩
  clear HM
  rintro ⟨⟨gz,gr,g⟩,bs1,y,j⟩ W1 ⟨hy,⟨hb1,hl1⟩,HM⟩
  dsimp only at hy hb1 hl1 HM ⊢
  simp only [partRcd,List.cons_append,List.nil_append] at HM
  repeat ((refine gC ?_;refine c_seq ?_))
  refine gR ?_
  refine x_start (ds:=[]) HM (fun w hw=>hw.drop.drop) (by kernel_rfl) (by kernel_rfl) qq ?_
  intro HQ HS W1 HM1;replace HM:=HM1;clear HM1
  refine x_pv HQ HS 1 rfl (by kernel_rfl) (by kernel_rfl) (l':=#[false,true,false,false,false,false,false,false,false,false,false,false,false,false,false,false]) (by kernel_rfl) rfl ?_
  refine Y ?_
  refine x_pv HQ HS 3 rfl (by kernel_rfl) (by kernel_rfl) (l':=#[false,true,false,true,false,false,false,false,false,false,false,false,false,false,false,false]) (by kernel_rfl) rfl ?_
  refine Y ?_
  refine x_pv HQ HS 5 rfl (by kernel_rfl) (by kernel_rfl) (l':=#[false,true,false,true,false,true,false,false,false,false,false,false,false,false,false,false]) (by kernel_rfl) rfl ?_
  refine Y ?_
  refine x_pv HQ HS 10 rfl (by kernel_rfl) (by kernel_rfl) (l':=#[false,true,false,true,false,true,false,false,false,false,true,false,false,false,false,false]) (by kernel_rfl) rfl ?_
  refine Y ?_
  refine x_ld HQ HS 0 rfl (by kernel_rfl) (by kernel_rfl) (by kernel_rfl) (by kernel_rfl) (l':=#[true,true,false,true,false,true,false,false,false,false,true,false,false,false,false,false]) (by kernel_rfl) rfl ?_
  refine Y ?_
  refine x_one 2 (by kernel_rfl) rfl (l':=#[true,true,true,true,false,true,false,false,false,false,true,false,false,false,false,false]) (by kernel_rfl) (x_go ?_)
  repeat (first|(refine qf ?_;go_at_call 58;first|(have hx1:=ht1;refine (text_c hb1 hl1 (by omega) HM).mono ?_;rintro e W1 ⟨t2,ht2,rfl,HM1⟩;refine ⟨_,rfl,?_⟩;replace HM:=HM1;clear HM1)|(refine (text_c hb1 hl1 (by omega) HM).mono ?_;rintro e W1 ⟨t1,ht1,rfl,HM1⟩;refine ⟨_,rfl,?_⟩;replace HM:=HM1;clear HM1))|refine Y ?_)
  refine x_one 4 (by kernel_rfl) rfl (l':=#[true,true,true,true,true,true,false,false,false,false,true,false,false,false,false,false]) (by kernel_rfl) (x_go ?_)
  repeat (first|(refine qf ?_;go_at_call 58;first|(have hx1:=ht1;refine (text_c hb1 hl1 (by omega) HM).mono ?_;rintro e W1 ⟨t2,ht2,rfl,HM1⟩;refine ⟨_,rfl,?_⟩;replace HM:=HM1;clear HM1)|(refine (text_c hb1 hl1 (by omega) HM).mono ?_;rintro e W1 ⟨t1,ht1,rfl,HM1⟩;refine ⟨_,rfl,?_⟩;replace HM:=HM1;clear HM1))|refine Y ?_)
  refine x_one 6 (by kernel_rfl) rfl (l':=#[true,true,true,true,true,true,true,false,false,false,true,false,false,false,false,false]) (by kernel_rfl) (x_go ?_)
  repeat (first|(refine qf ?_;go_at_call 20;first|(have hx1:=hp0;refine (pick_c hb1 hl1 _ (by omega) HM).mono ?_;rintro e W1 ⟨v,hp1,rfl,HM1⟩;obtain ⟨p1,rfl⟩ : ∃ k : Nat,v = k:=⟨v.toNat,(by omega)⟩;have hp1b : p1 < 4:=(by omega);refine ⟨_,rfl,?_⟩;replace HM:=HM1;clear HM1)|(refine (pick_c hb1 hl1 _ (by omega) HM).mono ?_;rintro e W1 ⟨v,hp0,rfl,HM1⟩;have hp0b : v < 2:=(by omega);refine ⟨_,rfl,?_⟩;replace HM:=HM1;clear HM1))|refine Y ?_)
  refine x_pv HQ HS 7 rfl (by kernel_rfl) (by kernel_rfl) (l':=#[true,true,true,true,true,true,true,true,false,false,true,false,false,false,false,false]) (by kernel_rfl) rfl ?_
  refine Y ?_
  refine x_one 8 (by kernel_rfl) rfl (l':=#[true,true,true,true,true,true,true,true,true,false,true,false,false,false,false,false]) (by kernel_rfl) (x_go ?_)
  repeat (first|(refine qf ?_;go_at_call 59;refine (many_c _ _ (by omega) (by omega) (by decide) HM).mono ?_;rintro e W1 ⟨t3,ht3,rfl,HM1⟩;refine ⟨_,rfl,?_⟩;replace HM:=HM1;clear HM1)|refine Y ?_)
  refine x_two 9 11 (by kernel_rfl) rfl rfl (l':=#[true,true,true,true,true,true,true,true,true,true,true,false,false,false,false,false]) (l'':=#[true,true,true,true,true,true,true,true,true,false,true,true,false,false,false,false]) (by kernel_rfl) (by kernel_rfl) (x_go ?_) (x_go ?_)
  · repeat (first|(refine gL ?_;refine s_litk (D:=tStr) (fun n=>.string n) (fun _=>rfl) (fun _=>rfl) (fun _=>rfl) rfl [t1,t2,⟨#[]⟩,t3] HM rfl rfl (by simp) (by simp) ?_;clear HM;intro g W1 HM)|refine Y ?_)
    refine x_one 11 (by kernel_rfl) rfl (l':=#[true,true,true,true,true,true,true,true,true,true,true,true,false,false,false,false]) (by kernel_rfl) (x_go ?_)
    repeat (first|(refine qf ?_;go_at_call 20;first|(have hx1:=hp0;refine (pick_c hb1 hl1 _ (by omega) HM).mono ?_;rintro e W1 ⟨v,hp1,rfl,HM1⟩;obtain ⟨p1,rfl⟩ : ∃ k : Nat,v = k:=⟨v.toNat,(by omega)⟩;have hp1b : p1 < 4:=(by omega);refine ⟨_,rfl,?_⟩;replace HM:=HM1;clear HM1)|(refine (pick_c hb1 hl1 _ (by omega) HM).mono ?_;rintro e W1 ⟨v,hp0,rfl,HM1⟩;have hp0b : v < 2:=(by omega);refine ⟨_,rfl,?_⟩;replace HM:=HM1;clear HM1))|refine Y ?_)
    refine x_pv HQ HS 12 rfl (by kernel_rfl) (by kernel_rfl) (l':=#[true,true,true,true,true,true,true,true,true,true,true,true,true,false,false,false]) (by kernel_rfl) rfl ?_
    refine Y ?_
    refine x_two 13 14 (by kernel_rfl) rfl rfl (l':=#[true,true,true,true,true,true,true,true,true,true,true,true,true,true,false,false]) (l'':=#[true,true,true,true,true,true,true,true,true,true,true,true,true,false,true,false]) (by kernel_rfl) (by kernel_rfl) (x_go ?_) (x_go ?_)
    · repeat refine Y ?_
      refine x_one 14 (by kernel_rfl) rfl (l':=#[true,true,true,true,true,true,true,true,true,true,true,true,true,true,true,false]) (by kernel_rfl) (x_go ?_)
      repeat (first|(refine qs ?_;clear HM;intro W1 HM)|refine Y ?_)
      refine x_pv HQ HS 15 rfl (by kernel_rfl) (by kernel_rfl) (l':=#[true,true,true,true,true,true,true,true,true,true,true,true,true,true,true,true]) (by kernel_rfl) rfl ?_
      refine Y ?_
      refine x_done (by kernel_rfl) ?_
      repeat refine Y ?_
      have hr:=rd_sz (ms:=[t1,t2,⟨#[]⟩,t3]) (n:=1000000) (by intro m hm;simp only [List.mem_cons,List.not_mem_nil,or_false] at hm;rcases hm with rfl|rfl|rfl|rfl <;> first|omega|decide) (p1 : Int)
      exact ret_ct HM rfl rfl rfl rfl ⟨y,j,_,hy,by omega,rfl,by simp only [partRcd,List.cons_append,List.nil_append];exact HM.sb⟩
    · repeat (first|(refine qs ?_;clear HM;intro W1 HM)|refine Y ?_)
      refine x_one 13 (by kernel_rfl) rfl (l':=#[true,true,true,true,true,true,true,true,true,true,true,true,true,true,true,false]) (by kernel_rfl) (x_go ?_)
      repeat refine Y ?_
      refine x_pv HQ HS 15 rfl (by kernel_rfl) (by kernel_rfl) (l':=#[true,true,true,true,true,true,true,true,true,true,true,true,true,true,true,true]) (by kernel_rfl) rfl ?_
      refine Y ?_
      refine x_done (by kernel_rfl) ?_
      repeat refine Y ?_
      have hr:=rd_sz (ms:=[t1,t2,⟨#[]⟩,t3]) (n:=1000000) (by intro m hm;simp only [List.mem_cons,List.not_mem_nil,or_false] at hm;rcases hm with rfl|rfl|rfl|rfl <;> first|omega|decide) (p1 : Int)
      exact ret_ct HM rfl rfl rfl rfl ⟨y,j,_,hy,by omega,rfl,by simp only [partRcd,List.cons_append,List.nil_append];exact HM.sb⟩
  · repeat (first|(refine qf ?_;go_at_call 20;first|(have hx1:=hp0;refine (pick_c hb1 hl1 _ (by omega) HM).mono ?_;rintro e W1 ⟨v,hp1,rfl,HM1⟩;obtain ⟨p1,rfl⟩ : ∃ k : Nat,v = k:=⟨v.toNat,(by omega)⟩;have hp1b : p1 < 4:=(by omega);refine ⟨_,rfl,?_⟩;replace HM:=HM1;clear HM1)|(refine (pick_c hb1 hl1 _ (by omega) HM).mono ?_;rintro e W1 ⟨v,hp0,rfl,HM1⟩;have hp0b : v < 2:=(by omega);refine ⟨_,rfl,?_⟩;replace HM:=HM1;clear HM1))|refine Y ?_)
    refine x_two 9 14 (by kernel_rfl) rfl rfl (l':=#[true,true,true,true,true,true,true,true,true,true,true,true,false,false,false,false]) (l'':=#[true,true,true,true,true,true,true,true,true,false,true,true,false,false,true,false]) (by kernel_rfl) (by kernel_rfl) (x_go ?_) (x_go ?_)
    · repeat (first|(refine gL ?_;refine s_litk (D:=tStr) (fun n=>.string n) (fun _=>rfl) (fun _=>rfl) (fun _=>rfl) rfl [t1,t2,⟨#[]⟩,t3] HM rfl rfl (by simp) (by simp) ?_;clear HM;intro g W1 HM)|refine Y ?_)
      refine x_pv HQ HS 12 rfl (by kernel_rfl) (by kernel_rfl) (l':=#[true,true,true,true,true,true,true,true,true,true,true,true,true,false,false,false]) (by kernel_rfl) rfl ?_
      refine Y ?_
      refine x_two 13 14 (by kernel_rfl) rfl rfl (l':=#[true,true,true,true,true,true,true,true,true,true,true,true,true,true,false,false]) (l'':=#[true,true,true,true,true,true,true,true,true,true,true,true,true,false,true,false]) (by kernel_rfl) (by kernel_rfl) (x_go ?_) (x_go ?_)
      · repeat refine Y ?_
        refine x_one 14 (by kernel_rfl) rfl (l':=#[true,true,true,true,true,true,true,true,true,true,true,true,true,true,true,false]) (by kernel_rfl) (x_go ?_)
        repeat (first|(refine qs ?_;clear HM;intro W1 HM)|refine Y ?_)
        refine x_pv HQ HS 15 rfl (by kernel_rfl) (by kernel_rfl) (l':=#[true,true,true,true,true,true,true,true,true,true,true,true,true,true,true,true]) (by kernel_rfl) rfl ?_
        refine Y ?_
        refine x_done (by kernel_rfl) ?_
        repeat refine Y ?_
        have hr:=rd_sz (ms:=[t1,t2,⟨#[]⟩,t3]) (n:=1000000) (by intro m hm;simp only [List.mem_cons,List.not_mem_nil,or_false] at hm;rcases hm with rfl|rfl|rfl|rfl <;> first|omega|decide) (p1 : Int)
        exact ret_ct HM rfl rfl rfl rfl ⟨y,j,_,hy,by omega,rfl,by simp only [partRcd,List.cons_append,List.nil_append];exact HM.sb⟩
      · repeat (first|(refine qs ?_;clear HM;intro W1 HM)|refine Y ?_)
        refine x_one 13 (by kernel_rfl) rfl (l':=#[true,true,true,true,true,true,true,true,true,true,true,true,true,true,true,false]) (by kernel_rfl) (x_go ?_)
        repeat refine Y ?_
        refine x_pv HQ HS 15 rfl (by kernel_rfl) (by kernel_rfl) (l':=#[true,true,true,true,true,true,true,true,true,true,true,true,true,true,true,true]) (by kernel_rfl) rfl ?_
        refine Y ?_
        refine x_done (by kernel_rfl) ?_
        repeat refine Y ?_
        have hr:=rd_sz (ms:=[t1,t2,⟨#[]⟩,t3]) (n:=1000000) (by intro m hm;simp only [List.mem_cons,List.not_mem_nil,or_false] at hm;rcases hm with rfl|rfl|rfl|rfl <;> first|omega|decide) (p1 : Int)
        exact ret_ct HM rfl rfl rfl rfl ⟨y,j,_,hy,by omega,rfl,by simp only [partRcd,List.cons_append,List.nil_append];exact HM.sb⟩
    · repeat (first|(refine qs ?_;clear HM;intro W1 HM)|refine Y ?_)
      refine x_one 9 (by kernel_rfl) rfl (l':=#[true,true,true,true,true,true,true,true,true,true,true,true,false,false,true,false]) (by kernel_rfl) (x_go ?_)
      repeat (first|(refine gL ?_;refine s_litk (D:=tStr) (fun n=>.string n) (fun _=>rfl) (fun _=>rfl) (fun _=>rfl) rfl [t1,t2,⟨#[]⟩,t3] HM rfl rfl (by simp) (by simp) ?_;clear HM;intro g W1 HM)|refine Y ?_)
      refine x_pv HQ HS 12 rfl (by kernel_rfl) (by kernel_rfl) (l':=#[true,true,true,true,true,true,true,true,true,true,true,true,true,false,true,false]) (by kernel_rfl) rfl ?_
      refine Y ?_
      refine x_one 13 (by kernel_rfl) rfl (l':=#[true,true,true,true,true,true,true,true,true,true,true,true,true,true,true,false]) (by kernel_rfl) (x_go ?_)
      repeat refine Y ?_
      refine x_pv HQ HS 15 rfl (by kernel_rfl) (by kernel_rfl) (l':=#[true,true,true,true,true,true,true,true,true,true,true,true,true,true,true,true]) (by kernel_rfl) rfl ?_
      refine Y ?_
      refine x_done (by kernel_rfl) ?_
      repeat refine Y ?_
      have hr:=rd_sz (ms:=[t1,t2,⟨#[]⟩,t3]) (n:=1000000) (by intro m hm;simp only [List.mem_cons,List.not_mem_nil,or_false] at hm;rcases hm with rfl|rfl|rfl|rfl <;> first|omega|decide) (p1 : Int)
      exact ret_ct HM rfl rfl rfl rfl ⟨y,j,_,hy,by omega,rfl,by simp only [partRcd,List.cons_append,List.nil_append];exact HM.sb⟩
end Go.Proofs.YtampmicahnnebaaGreat.Sp
namespace Go.Proofs.YtampmicahnnebaaGreat.Sp
open Go Go.RowKit
set_option maxRecDepth 10000
set_option maxHeartbeats 40000000
variable {w0 W : World} {L R : List Asn} {A : Option Addr} {c : Nat} {bs : List Int}
theorem msg_c {gr q : Nat} (x : Rcd) (i : AtRcd) (hv : Bd x) (hb : RoRow rByte w0 A bs) (hl : bs.length ≤ 2000) [hrd : RdAt L A bs.length c gr q R] (hq : q ≤ 800000) (HM : Mem w0 W L) : Calls Tryz.prog 54 #[.pointer (some ⟨gr,0,none⟩),.agg (encRcd x i).toArray] W fun e W'=>∃ (m : Msg) (am : At),m.slots.length ≤ 5 ∧ e = .returned (.agg (encMsg m am).toArray) ∧ Mem w0 W' (own tSlot 91 am.1 am.2 m.slots :: rdr A bs.length c (q + 60) gr :: R):=by
  refine enter Tryz.func54 rfl Tryz.ntmps54 [(0,_),(1,.agg (encRcd x i).toArray)] rfl ⟨rfl,rfl,trivial⟩ ?_
  have hdp:=hv.p0
  have hdk:=hv.k0
  have hdl:=hv.dsl
  have hof:=hv.of0
  have hvb:=hv.b0
  unfold encRcd
  replace HM:=HM.rdr_first (g:=gr)
  repeat (first|(refine gR ?_;have HM2:=HM.rdr_first (g:=gr);clear HM;have HM:=HM2;clear HM2;(refine gR ?_;refine d_startd [] [(0,0),(0,1),(0,3),(1,2),(2,4),(0,5),(0,6),(0,7)] HM (by kernel_rfl) (by kernel_rfl) qq (by kernel_rfl) rfl ?_;intro HQ HS W1 HM1;replace HM:=HM1;clear HM1))|refine Y ?_|(refine qf ?_;go_at_call 20;(with_reducible refine (pick_c hb hl _ ?_ HM).mono ?_);omega;rintro e W1 ⟨u,hu,rfl,HM1⟩;refine ⟨_,rfl,?_⟩;replace HM:=HM1;clear HM1)|(refine qg ?_;clear HM;intro g W1 HM))
  rename_i g3 Wa Wb Wc Wd v hv4
  obtain ⟨gz,hgz⟩ : ∃ k,k = g:=⟨_,rfl⟩
  subst hgz
  refine c_cutn (σ:=Int) (fun s=>[(0,.pointer (some ⟨gr,0,none⟩)),(3,.pointer (some ⟨g3,0,none⟩)),(4,.pointer (some ⟨gz,0,none⟩)),(5,.int .i64 s)]) (fun s W1=>(-100 ≤ s ∧ s ≤ 2000100) ∧ Mem w0 W1 (box gz 40 [.int .i64 0,.int .i64 0,.int .i64 0,.int .i64 0,.int .i64 0,.int .i64 0,.string ⟨#[]⟩,.slice none 0 0] :: box g3 31 [.int .i64 x.number,.int .i64 x.of,.bool x.up,.int .i64 x.sp,.int .i64 x.sk,.slice i.a0.1 x.ss.length i.a0.2,.int .i64 x.dp,.int .i64 x.dk,.slice i.a1.1 x.ds.length i.a1.2,.slice i.a2.1 x.held.length i.a2.2,.slice i.a3.1 x.wishes.length i.a3.2,.bool x.lead,.bool x.trying,.int .i64 x.ballot,.slice i.a4.1 x.yes.length i.a4.2,.slice i.a5.1 x.best.length i.a5.2,.slice i.a6.1 x.acks.length i.a6.2,.int .i64 x.heard] :: rdr A bs.length c (q + 2) gr :: R)) ?_ ?_
  · by_cases c1 : u = 0
    · repeat refine Y ?_
      exact n_mid x.ballot U ⟨by omega,HM.sb⟩
    · repeat ((refine gC ?_;first|refine c_skip ?_|refine c_no rfl (by (simp;omega)) ?_))
      exact n_mid (x.dp + v - 1) U ⟨by omega,HM.sb⟩
  clear HM hu hv4
  clear u v
  rintro b0 W1 ⟨hb0,HM⟩
  repeat refine Y ?_
  refine c_cutn (σ:=Int) (fun s=>[(0,.pointer (some ⟨gr,0,none⟩)),(3,.pointer (some ⟨g3,0,none⟩)),(4,.pointer (some ⟨gz,0,none⟩)),(5,.int .i64 s)]) (fun s W1=>(0 ≤ s ∧ s ≤ 2000100) ∧ Mem w0 W1 (box gz 40 [.int .i64 0,.int .i64 0,.int .i64 0,.int .i64 0,.int .i64 0,.int .i64 0,.string ⟨#[]⟩,.slice none 0 0] :: box g3 31 [.int .i64 x.number,.int .i64 x.of,.bool x.up,.int .i64 x.sp,.int .i64 x.sk,.slice i.a0.1 x.ss.length i.a0.2,.int .i64 x.dp,.int .i64 x.dk,.slice i.a1.1 x.ds.length i.a1.2,.slice i.a2.1 x.held.length i.a2.2,.slice i.a3.1 x.wishes.length i.a3.2,.bool x.lead,.bool x.trying,.int .i64 x.ballot,.slice i.a4.1 x.yes.length i.a4.2,.slice i.a5.1 x.best.length i.a5.2,.slice i.a6.1 x.acks.length i.a6.2,.int .i64 x.heard] :: rdr A bs.length c (q + 2) gr :: R)) ?_ ?_
  · by_cases c1 : b0 < 0
    · repeat refine Y ?_
      exact n_mid 0 U ⟨by omega,HM.sb⟩
    · repeat ((refine gC ?_;first|refine c_skip ?_|refine c_no rfl (by (simp;omega)) ?_))
      exact n_mid b0 U ⟨by omega,HM.sb⟩
  clear HM hb0
  clear b0
  rintro b W1 ⟨hb0,HM⟩
  refine c_seq ?_
  refine c_cutn (σ:=Nat) (fun s=>[(0,.pointer (some ⟨gr,0,none⟩)),(3,.pointer (some ⟨g3,0,none⟩)),(4,.pointer (some ⟨gz,0,none⟩)),(6,.pointer (some ⟨s,0,none⟩))]) (fun s W1=>∃ (k1 k2 k3 k4 : Int) (t : ByteArray),(0 ≤ k1 ∧ k1 ≤ 8) ∧ Mem w0 W1 (box s 40 [.int .i64 (1 + k1),.int .i64 (1 + k2),.int .i64 x.number,.int .i64 b,.int .i64 k3,.int .i64 k4,.string t,.slice none 0 0] :: box gz 40 [.int .i64 0,.int .i64 0,.int .i64 0,.int .i64 0,.int .i64 0,.int .i64 0,.string ⟨#[]⟩,.slice none 0 0] :: box g3 31 [.int .i64 x.number,.int .i64 x.of,.bool x.up,.int .i64 x.sp,.int .i64 x.sk,.slice i.a0.1 x.ss.length i.a0.2,.int .i64 x.dp,.int .i64 x.dk,.slice i.a1.1 x.ds.length i.a1.2,.slice i.a2.1 x.held.length i.a2.2,.slice i.a3.1 x.wishes.length i.a3.2,.bool x.lead,.bool x.trying,.int .i64 x.ballot,.slice i.a4.1 x.yes.length i.a4.2,.slice i.a5.1 x.best.length i.a5.2,.slice i.a6.1 x.acks.length i.a6.2,.int .i64 x.heard] :: rdr A bs.length c (q + 20) gr :: R)) ?_ ?_
  · replace HM:=HM.rdr_first (g:=gr)
    refine gR ?_
    refine x_start (ds:=[29]) HM (fun w hw=>hw.drop) (by kernel_rfl) (by kernel_rfl) qq ?_
    intro HQ HS W1 HM1;replace HM:=HM1;clear HM1
    refine x_pv HQ HS 0 rfl (by kernel_rfl) (by kernel_rfl) (l':=#[true,false,false,false,false,false,false,false,false,false,false,false,false,false,false,false,false,false,false,false,false,false,false,false,false,false,false,false,false,false]) (by kernel_rfl) rfl ?_
    refine Y ?_
    refine x_pv HQ HS 3 rfl (by kernel_rfl) (by kernel_rfl) (l':=#[true,false,false,true,false,false,false,false,false,false,false,false,false,false,false,false,false,false,false,false,false,false,false,false,false,false,false,false,false,false]) (by kernel_rfl) rfl ?_
    refine Y ?_
    refine x_pv HQ HS 4 rfl (by kernel_rfl) (by kernel_rfl) (l':=#[true,false,false,true,true,false,false,false,false,false,false,false,false,false,false,false,false,false,false,false,false,false,false,false,false,false,false,false,false,false]) (by kernel_rfl) rfl ?_
    refine Y ?_
    refine x_pv HQ HS 8 rfl (by kernel_rfl) (by kernel_rfl) (l':=#[true,false,false,true,true,false,false,false,true,false,false,false,false,false,false,false,false,false,false,false,false,false,false,false,false,false,false,false,false,false]) (by kernel_rfl) rfl ?_
    refine Y ?_
    refine x_pv HQ HS 10 rfl (by kernel_rfl) (by kernel_rfl) (l':=#[true,false,false,true,true,false,false,false,true,false,true,false,false,false,false,false,false,false,false,false,false,false,false,false,false,false,false,false,false,false]) (by kernel_rfl) rfl ?_
    refine Y ?_
    refine x_pv HQ HS 11 rfl (by kernel_rfl) (by kernel_rfl) (l':=#[true,false,false,true,true,false,false,false,true,false,true,true,false,false,false,false,false,false,false,false,false,false,false,false,false,false,false,false,false,false]) (by kernel_rfl) rfl ?_
    refine Y ?_
    refine x_pv HQ HS 12 rfl (by kernel_rfl) (by kernel_rfl) (l':=#[true,false,false,true,true,false,false,false,true,false,true,true,true,false,false,false,false,false,false,false,false,false,false,false,false,false,false,false,false,false]) (by kernel_rfl) rfl ?_
    refine Y ?_
    refine x_pv HQ HS 13 rfl (by kernel_rfl) (by kernel_rfl) (l':=#[true,false,false,true,true,false,false,false,true,false,true,true,true,true,false,false,false,false,false,false,false,false,false,false,false,false,false,false,false,false]) (by kernel_rfl) rfl ?_
    refine Y ?_
    refine x_pv HQ HS 18 rfl (by kernel_rfl) (by kernel_rfl) (l':=#[true,false,false,true,true,false,false,false,true,false,true,true,true,true,false,false,false,false,true,false,false,false,false,false,false,false,false,false,false,false]) (by kernel_rfl) rfl ?_
    refine Y ?_
    refine x_pv HQ HS 19 rfl (by kernel_rfl) (by kernel_rfl) (l':=#[true,false,false,true,true,false,false,false,true,false,true,true,true,true,false,false,false,false,true,true,false,false,false,false,false,false,false,false,false,false]) (by kernel_rfl) rfl ?_
    refine Y ?_
    refine x_pv HQ HS 20 rfl (by kernel_rfl) (by kernel_rfl) (l':=#[true,false,false,true,true,false,false,false,true,false,true,true,true,true,false,false,false,false,true,true,true,false,false,false,false,false,false,false,false,false]) (by kernel_rfl) rfl ?_
    refine Y ?_
    refine x_pv HQ HS 25 rfl (by kernel_rfl) (by kernel_rfl) (l':=#[true,false,false,true,true,false,false,false,true,false,true,true,true,true,false,false,false,false,true,true,true,false,false,false,false,true,false,false,false,false]) (by kernel_rfl) rfl ?_
    refine Y ?_
    refine x_ld HQ HS 5 rfl (by kernel_rfl) (by kernel_rfl) (by kernel_rfl) (by kernel_rfl) (l':=#[true,false,false,true,true,true,false,false,true,false,true,true,true,true,false,false,false,false,true,true,true,false,false,false,false,true,false,false,false,false]) (by kernel_rfl) rfl ?_
    refine Y ?_
    refine x_ld HQ HS 9 rfl (by kernel_rfl) (by kernel_rfl) (by kernel_rfl) (by kernel_rfl) (l':=#[true,false,false,true,true,true,false,false,true,true,true,true,true,true,false,false,false,false,true,true,true,false,false,false,false,true,false,false,false,false]) (by kernel_rfl) rfl ?_
    refine Y ?_
    refine x_ld HQ HS 14 rfl (by kernel_rfl) (by kernel_rfl) (by kernel_rfl) (by kernel_rfl) (l':=#[true,false,false,true,true,true,false,false,true,true,true,true,true,true,true,false,false,false,true,true,true,false,false,false,false,true,false,false,false,false]) (by kernel_rfl) rfl ?_
    refine Y ?_
    refine x_pv HQ HS 15 rfl (by kernel_rfl) (by kernel_rfl) (l':=#[true,false,false,true,true,true,false,false,true,true,true,true,true,true,true,true,false,false,true,true,true,false,false,false,false,true,false,false,false,false]) (by kernel_rfl) rfl ?_
    refine Y ?_
    refine x_pv HQ HS 16 rfl (by kernel_rfl) (by kernel_rfl) (l':=#[true,false,false,true,true,true,false,false,true,true,true,true,true,true,true,true,true,false,true,true,true,false,false,false,false,true,false,false,false,false]) (by kernel_rfl) rfl ?_
    refine Y ?_
    refine x_ld HQ HS 21 rfl (by kernel_rfl) (by kernel_rfl) (by kernel_rfl) (by kernel_rfl) (l':=#[true,false,false,true,true,true,false,false,true,true,true,true,true,true,true,true,true,false,true,true,true,true,false,false,false,true,false,false,false,false]) (by kernel_rfl) rfl ?_
    refine Y ?_
    refine x_pv HQ HS 22 rfl (by kernel_rfl) (by kernel_rfl) (l':=#[true,false,false,true,true,true,false,false,true,true,true,true,true,true,true,true,true,false,true,true,true,true,true,false,false,true,false,false,false,false]) (by kernel_rfl) rfl ?_
    refine Y ?_
    refine x_pv HQ HS 23 rfl (by kernel_rfl) (by kernel_rfl) (l':=#[true,false,false,true,true,true,false,false,true,true,true,true,true,true,true,true,true,false,true,true,true,true,true,true,false,true,false,false,false,false]) (by kernel_rfl) rfl ?_
    refine Y ?_
    refine x_two 1 28 (by kernel_rfl) rfl rfl (l':=#[true,true,false,true,true,true,false,false,true,true,true,true,true,true,true,true,true,false,true,true,true,true,true,true,false,true,false,false,false,false]) (l'':=#[true,false,false,true,true,true,false,false,true,true,true,true,true,true,true,true,true,false,true,true,true,true,true,true,false,true,false,false,true,false]) (by kernel_rfl) (by kernel_rfl) (x_go ?_) (x_go ?_)
    · repeat (first|(refine qf ?_;go_at_call 20;first|((with_reducible refine (pick_c hb hl 9 ?_ HM).mono ?_);omega;rintro e W1 ⟨k1,hk1,rfl,HM1⟩;refine ⟨_,rfl,?_⟩;replace HM:=HM1;clear HM1)|((with_reducible refine (pick_c hb hl x.of ?_ HM).mono ?_);omega;rintro e W1 ⟨k2,hk2,rfl,HM1⟩;refine ⟨_,rfl,?_⟩;replace HM:=HM1;clear HM1)|(have hx3:=hk3;(with_reducible refine (pick_c hb hl _ ?_ HM).mono ?_);omega;rintro e W1 ⟨k4,hk4,rfl,HM1⟩;refine ⟨_,rfl,?_⟩;replace HM:=HM1;clear HM1)|((with_reducible refine (pick_c hb hl _ ?_ HM).mono ?_);omega;rintro e W1 ⟨k3,hk3,rfl,HM1⟩;refine ⟨_,rfl,?_⟩;replace HM:=HM1;clear HM1))|refine Y ?_)
      refine x_pv HQ HS 2 rfl (by kernel_rfl) (by kernel_rfl) (l':=#[true,true,true,true,true,true,false,false,true,true,true,true,true,true,true,true,true,false,true,true,true,true,true,true,false,true,false,false,false,false]) (by kernel_rfl) rfl ?_
      refine Y ?_
      refine x_two 6 28 (by kernel_rfl) rfl rfl (l':=#[true,true,true,true,true,true,true,false,true,true,true,true,true,true,true,true,true,false,true,true,true,true,true,true,false,true,false,false,false,false]) (l'':=#[true,true,true,true,true,true,false,false,true,true,true,true,true,true,true,true,true,false,true,true,true,true,true,true,false,true,false,false,true,false]) (by kernel_rfl) (by kernel_rfl) (x_go ?_) (x_go ?_)
      · repeat (first|(refine qf ?_;go_at_call 20;first|((with_reducible refine (pick_c hb hl 9 ?_ HM).mono ?_);omega;rintro e W1 ⟨k1,hk1,rfl,HM1⟩;refine ⟨_,rfl,?_⟩;replace HM:=HM1;clear HM1)|((with_reducible refine (pick_c hb hl x.of ?_ HM).mono ?_);omega;rintro e W1 ⟨k2,hk2,rfl,HM1⟩;refine ⟨_,rfl,?_⟩;replace HM:=HM1;clear HM1)|(have hx3:=hk3;(with_reducible refine (pick_c hb hl _ ?_ HM).mono ?_);omega;rintro e W1 ⟨k4,hk4,rfl,HM1⟩;refine ⟨_,rfl,?_⟩;replace HM:=HM1;clear HM1)|((with_reducible refine (pick_c hb hl _ ?_ HM).mono ?_);omega;rintro e W1 ⟨k3,hk3,rfl,HM1⟩;refine ⟨_,rfl,?_⟩;replace HM:=HM1;clear HM1))|refine Y ?_)
        refine x_pv HQ HS 7 rfl (by kernel_rfl) (by kernel_rfl) (l':=#[true,true,true,true,true,true,true,true,true,true,true,true,true,true,true,true,true,false,true,true,true,true,true,true,false,true,false,false,false,false]) (by kernel_rfl) rfl ?_
        refine Y ?_
        refine x_two 17 28 (by kernel_rfl) rfl rfl (l':=#[true,true,true,true,true,true,true,true,true,true,true,true,true,true,true,true,true,true,true,true,true,true,true,true,false,true,false,false,false,false]) (l'':=#[true,true,true,true,true,true,true,true,true,true,true,true,true,true,true,true,true,false,true,true,true,true,true,true,false,true,false,false,true,false]) (by kernel_rfl) (by kernel_rfl) (x_go ?_) (x_go ?_)
        · repeat (first|(refine qf ?_;go_at_call 20;first|((with_reducible refine (pick_c hb hl 9 ?_ HM).mono ?_);omega;rintro e W1 ⟨k1,hk1,rfl,HM1⟩;refine ⟨_,rfl,?_⟩;replace HM:=HM1;clear HM1)|((with_reducible refine (pick_c hb hl x.of ?_ HM).mono ?_);omega;rintro e W1 ⟨k2,hk2,rfl,HM1⟩;refine ⟨_,rfl,?_⟩;replace HM:=HM1;clear HM1)|(have hx3:=hk3;(with_reducible refine (pick_c hb hl _ ?_ HM).mono ?_);omega;rintro e W1 ⟨k4,hk4,rfl,HM1⟩;refine ⟨_,rfl,?_⟩;replace HM:=HM1;clear HM1)|((with_reducible refine (pick_c hb hl _ ?_ HM).mono ?_);omega;rintro e W1 ⟨k3,hk3,rfl,HM1⟩;refine ⟨_,rfl,?_⟩;replace HM:=HM1;clear HM1))|refine Y ?_)
          refine x_two 24 28 (by kernel_rfl) rfl rfl (l':=#[true,true,true,true,true,true,true,true,true,true,true,true,true,true,true,true,true,true,true,true,true,true,true,true,true,true,false,false,false,false]) (l'':=#[true,true,true,true,true,true,true,true,true,true,true,true,true,true,true,true,true,true,true,true,true,true,true,true,false,true,false,false,true,false]) (by kernel_rfl) (by kernel_rfl) (x_go ?_) (x_go ?_)
          · repeat (first|(refine qf ?_;go_at_call 20;first|((with_reducible refine (pick_c hb hl 9 ?_ HM).mono ?_);omega;rintro e W1 ⟨k1,hk1,rfl,HM1⟩;refine ⟨_,rfl,?_⟩;replace HM:=HM1;clear HM1)|((with_reducible refine (pick_c hb hl x.of ?_ HM).mono ?_);omega;rintro e W1 ⟨k2,hk2,rfl,HM1⟩;refine ⟨_,rfl,?_⟩;replace HM:=HM1;clear HM1)|(have hx3:=hk3;(with_reducible refine (pick_c hb hl _ ?_ HM).mono ?_);omega;rintro e W1 ⟨k4,hk4,rfl,HM1⟩;refine ⟨_,rfl,?_⟩;replace HM:=HM1;clear HM1)|((with_reducible refine (pick_c hb hl _ ?_ HM).mono ?_);omega;rintro e W1 ⟨k3,hk3,rfl,HM1⟩;refine ⟨_,rfl,?_⟩;replace HM:=HM1;clear HM1))|refine Y ?_)
            refine x_two 26 28 (by kernel_rfl) rfl rfl (l':=#[true,true,true,true,true,true,true,true,true,true,true,true,true,true,true,true,true,true,true,true,true,true,true,true,true,true,true,false,false,false]) (l'':=#[true,true,true,true,true,true,true,true,true,true,true,true,true,true,true,true,true,true,true,true,true,true,true,true,true,true,false,false,true,false]) (by kernel_rfl) (by kernel_rfl) (x_go ?_) (x_go ?_)
            · repeat (first|(refine qf ?_;go_at_call 58;refine (text_c hb hl (by omega) HM).mono ?_;rintro e W1 ⟨t,ht,rfl,HM1⟩;refine ⟨_,rfl,?_⟩;replace HM:=HM1;clear HM1)|refine Y ?_)
              refine x_two 27 28 (by kernel_rfl) rfl rfl (l':=#[true,true,true,true,true,true,true,true,true,true,true,true,true,true,true,true,true,true,true,true,true,true,true,true,true,true,true,true,false,false]) (l'':=#[true,true,true,true,true,true,true,true,true,true,true,true,true,true,true,true,true,true,true,true,true,true,true,true,true,true,true,false,true,false]) (by kernel_rfl) (by kernel_rfl) (x_go ?_) (x_go ?_)
              · repeat refine Y ?_
                refine x_one 28 (by kernel_rfl) rfl (l':=#[true,true,true,true,true,true,true,true,true,true,true,true,true,true,true,true,true,true,true,true,true,true,true,true,true,true,true,true,true,false]) (by kernel_rfl) (x_go ?_)
                repeat (first|(refine qg ?_;clear HM;intro g W1 HM)|refine Y ?_)
                refine x_last 29 (by kernel_rfl) rfl (l':=#[true,true,true,true,true,true,true,true,true,true,true,true,true,true,true,true,true,true,true,true,true,true,true,true,true,true,true,true,true,true]) (by kernel_rfl) (by kernel_rfl) rfl ?_
                repeat ((refine gL ?_;first|(refine gStore ?_;(refine s_store HM rfl rfl rfl rfl ?_;clear HM;intro W1 HM))|refine l_nil ?_))
                exact n_mid g U ⟨k1,k2,k3,k4,t,by omega,(HM.rdr_to (g:=gr) (q':=q + 20) (by omega)).sb⟩
              · repeat (first|(refine qg ?_;clear HM;intro g W1 HM)|refine Y ?_)
                refine x_one 27 (by kernel_rfl) rfl (l':=#[true,true,true,true,true,true,true,true,true,true,true,true,true,true,true,true,true,true,true,true,true,true,true,true,true,true,true,true,true,false]) (by kernel_rfl) (x_go ?_)
                repeat refine Y ?_
                refine x_last 29 (by kernel_rfl) rfl (l':=#[true,true,true,true,true,true,true,true,true,true,true,true,true,true,true,true,true,true,true,true,true,true,true,true,true,true,true,true,true,true]) (by kernel_rfl) (by kernel_rfl) rfl ?_
                repeat ((refine gL ?_;first|(refine gStore ?_;(refine s_store HM rfl rfl rfl rfl ?_;clear HM;intro W1 HM))|refine l_nil ?_))
                exact n_mid g U ⟨k1,k2,k3,k4,t,by omega,(HM.rdr_to (g:=gr) (q':=q + 20) (by omega)).sb⟩
            · repeat (first|(refine qg ?_;clear HM;intro g W1 HM)|refine Y ?_)
              refine x_one 26 (by kernel_rfl) rfl (l':=#[true,true,true,true,true,true,true,true,true,true,true,true,true,true,true,true,true,true,true,true,true,true,true,true,true,true,true,false,true,false]) (by kernel_rfl) (x_go ?_)
              repeat (first|(refine qf ?_;go_at_call 58;refine (text_c hb hl (by omega) HM).mono ?_;rintro e W1 ⟨t,ht,rfl,HM1⟩;refine ⟨_,rfl,?_⟩;replace HM:=HM1;clear HM1)|refine Y ?_)
              refine x_one 27 (by kernel_rfl) rfl (l':=#[true,true,true,true,true,true,true,true,true,true,true,true,true,true,true,true,true,true,true,true,true,true,true,true,true,true,true,true,true,false]) (by kernel_rfl) (x_go ?_)
              repeat refine Y ?_
              refine x_last 29 (by kernel_rfl) rfl (l':=#[true,true,true,true,true,true,true,true,true,true,true,true,true,true,true,true,true,true,true,true,true,true,true,true,true,true,true,true,true,true]) (by kernel_rfl) (by kernel_rfl) rfl ?_
              repeat ((refine gL ?_;first|(refine gStore ?_;(refine s_store HM rfl rfl rfl rfl ?_;clear HM;intro W1 HM))|refine l_nil ?_))
              exact n_mid g U ⟨k1,k2,k3,k4,t,by omega,(HM.rdr_to (g:=gr) (q':=q + 20) (by omega)).sb⟩
          · repeat (first|(refine qg ?_;clear HM;intro g W1 HM)|refine Y ?_)
            refine x_one 24 (by kernel_rfl) rfl (l':=#[true,true,true,true,true,true,true,true,true,true,true,true,true,true,true,true,true,true,true,true,true,true,true,true,true,true,false,false,true,false]) (by kernel_rfl) (x_go ?_)
            repeat (first|(refine qf ?_;go_at_call 20;first|((with_reducible refine (pick_c hb hl 9 ?_ HM).mono ?_);omega;rintro e W1 ⟨k1,hk1,rfl,HM1⟩;refine ⟨_,rfl,?_⟩;replace HM:=HM1;clear HM1)|((with_reducible refine (pick_c hb hl x.of ?_ HM).mono ?_);omega;rintro e W1 ⟨k2,hk2,rfl,HM1⟩;refine ⟨_,rfl,?_⟩;replace HM:=HM1;clear HM1)|(have hx3:=hk3;(with_reducible refine (pick_c hb hl _ ?_ HM).mono ?_);omega;rintro e W1 ⟨k4,hk4,rfl,HM1⟩;refine ⟨_,rfl,?_⟩;replace HM:=HM1;clear HM1)|((with_reducible refine (pick_c hb hl _ ?_ HM).mono ?_);omega;rintro e W1 ⟨k3,hk3,rfl,HM1⟩;refine ⟨_,rfl,?_⟩;replace HM:=HM1;clear HM1))|refine Y ?_)
            refine x_one 26 (by kernel_rfl) rfl (l':=#[true,true,true,true,true,true,true,true,true,true,true,true,true,true,true,true,true,true,true,true,true,true,true,true,true,true,true,false,true,false]) (by kernel_rfl) (x_go ?_)
            repeat (first|(refine qf ?_;go_at_call 58;refine (text_c hb hl (by omega) HM).mono ?_;rintro e W1 ⟨t,ht,rfl,HM1⟩;refine ⟨_,rfl,?_⟩;replace HM:=HM1;clear HM1)|refine Y ?_)
            refine x_one 27 (by kernel_rfl) rfl (l':=#[true,true,true,true,true,true,true,true,true,true,true,true,true,true,true,true,true,true,true,true,true,true,true,true,true,true,true,true,true,false]) (by kernel_rfl) (x_go ?_)
            repeat refine Y ?_
            refine x_last 29 (by kernel_rfl) rfl (l':=#[true,true,true,true,true,true,true,true,true,true,true,true,true,true,true,true,true,true,true,true,true,true,true,true,true,true,true,true,true,true]) (by kernel_rfl) (by kernel_rfl) rfl ?_
            repeat ((refine gL ?_;first|(refine gStore ?_;(refine s_store HM rfl rfl rfl rfl ?_;clear HM;intro W1 HM))|refine l_nil ?_))
            exact n_mid g U ⟨k1,k2,k3,k4,t,by omega,(HM.rdr_to (g:=gr) (q':=q + 20) (by omega)).sb⟩
        · repeat (first|(refine qg ?_;clear HM;intro g W1 HM)|refine Y ?_)
          refine x_one 17 (by kernel_rfl) rfl (l':=#[true,true,true,true,true,true,true,true,true,true,true,true,true,true,true,true,true,true,true,true,true,true,true,true,false,true,false,false,true,false]) (by kernel_rfl) (x_go ?_)
          repeat (first|(refine qf ?_;go_at_call 20;first|((with_reducible refine (pick_c hb hl 9 ?_ HM).mono ?_);omega;rintro e W1 ⟨k1,hk1,rfl,HM1⟩;refine ⟨_,rfl,?_⟩;replace HM:=HM1;clear HM1)|((with_reducible refine (pick_c hb hl x.of ?_ HM).mono ?_);omega;rintro e W1 ⟨k2,hk2,rfl,HM1⟩;refine ⟨_,rfl,?_⟩;replace HM:=HM1;clear HM1)|(have hx3:=hk3;(with_reducible refine (pick_c hb hl _ ?_ HM).mono ?_);omega;rintro e W1 ⟨k4,hk4,rfl,HM1⟩;refine ⟨_,rfl,?_⟩;replace HM:=HM1;clear HM1)|((with_reducible refine (pick_c hb hl _ ?_ HM).mono ?_);omega;rintro e W1 ⟨k3,hk3,rfl,HM1⟩;refine ⟨_,rfl,?_⟩;replace HM:=HM1;clear HM1))|refine Y ?_)
          refine x_one 24 (by kernel_rfl) rfl (l':=#[true,true,true,true,true,true,true,true,true,true,true,true,true,true,true,true,true,true,true,true,true,true,true,true,true,true,false,false,true,false]) (by kernel_rfl) (x_go ?_)
          repeat (first|(refine qf ?_;go_at_call 20;first|((with_reducible refine (pick_c hb hl 9 ?_ HM).mono ?_);omega;rintro e W1 ⟨k1,hk1,rfl,HM1⟩;refine ⟨_,rfl,?_⟩;replace HM:=HM1;clear HM1)|((with_reducible refine (pick_c hb hl x.of ?_ HM).mono ?_);omega;rintro e W1 ⟨k2,hk2,rfl,HM1⟩;refine ⟨_,rfl,?_⟩;replace HM:=HM1;clear HM1)|(have hx3:=hk3;(with_reducible refine (pick_c hb hl _ ?_ HM).mono ?_);omega;rintro e W1 ⟨k4,hk4,rfl,HM1⟩;refine ⟨_,rfl,?_⟩;replace HM:=HM1;clear HM1)|((with_reducible refine (pick_c hb hl _ ?_ HM).mono ?_);omega;rintro e W1 ⟨k3,hk3,rfl,HM1⟩;refine ⟨_,rfl,?_⟩;replace HM:=HM1;clear HM1))|refine Y ?_)
          refine x_one 26 (by kernel_rfl) rfl (l':=#[true,true,true,true,true,true,true,true,true,true,true,true,true,true,true,true,true,true,true,true,true,true,true,true,true,true,true,false,true,false]) (by kernel_rfl) (x_go ?_)
          repeat (first|(refine qf ?_;go_at_call 58;refine (text_c hb hl (by omega) HM).mono ?_;rintro e W1 ⟨t,ht,rfl,HM1⟩;refine ⟨_,rfl,?_⟩;replace HM:=HM1;clear HM1)|refine Y ?_)
          refine x_one 27 (by kernel_rfl) rfl (l':=#[true,true,true,true,true,true,true,true,true,true,true,true,true,true,true,true,true,true,true,true,true,true,true,true,true,true,true,true,true,false]) (by kernel_rfl) (x_go ?_)
          repeat refine Y ?_
          refine x_last 29 (by kernel_rfl) rfl (l':=#[true,true,true,true,true,true,true,true,true,true,true,true,true,true,true,true,true,true,true,true,true,true,true,true,true,true,true,true,true,true]) (by kernel_rfl) (by kernel_rfl) rfl ?_
          repeat ((refine gL ?_;first|(refine gStore ?_;(refine s_store HM rfl rfl rfl rfl ?_;clear HM;intro W1 HM))|refine l_nil ?_))
          exact n_mid g U ⟨k1,k2,k3,k4,t,by omega,(HM.rdr_to (g:=gr) (q':=q + 20) (by omega)).sb⟩
      · repeat (first|(refine qg ?_;clear HM;intro g W1 HM)|refine Y ?_)
        refine x_one 6 (by kernel_rfl) rfl (l':=#[true,true,true,true,true,true,true,false,true,true,true,true,true,true,true,true,true,false,true,true,true,true,true,true,false,true,false,false,true,false]) (by kernel_rfl) (x_go ?_)
        repeat (first|(refine qf ?_;go_at_call 20;first|((with_reducible refine (pick_c hb hl 9 ?_ HM).mono ?_);omega;rintro e W1 ⟨k1,hk1,rfl,HM1⟩;refine ⟨_,rfl,?_⟩;replace HM:=HM1;clear HM1)|((with_reducible refine (pick_c hb hl x.of ?_ HM).mono ?_);omega;rintro e W1 ⟨k2,hk2,rfl,HM1⟩;refine ⟨_,rfl,?_⟩;replace HM:=HM1;clear HM1)|(have hx3:=hk3;(with_reducible refine (pick_c hb hl _ ?_ HM).mono ?_);omega;rintro e W1 ⟨k4,hk4,rfl,HM1⟩;refine ⟨_,rfl,?_⟩;replace HM:=HM1;clear HM1)|((with_reducible refine (pick_c hb hl _ ?_ HM).mono ?_);omega;rintro e W1 ⟨k3,hk3,rfl,HM1⟩;refine ⟨_,rfl,?_⟩;replace HM:=HM1;clear HM1))|refine Y ?_)
        refine x_pv HQ HS 7 rfl (by kernel_rfl) (by kernel_rfl) (l':=#[true,true,true,true,true,true,true,true,true,true,true,true,true,true,true,true,true,false,true,true,true,true,true,true,false,true,false,false,true,false]) (by kernel_rfl) rfl ?_
        refine Y ?_
        refine x_one 17 (by kernel_rfl) rfl (l':=#[true,true,true,true,true,true,true,true,true,true,true,true,true,true,true,true,true,true,true,true,true,true,true,true,false,true,false,false,true,false]) (by kernel_rfl) (x_go ?_)
        repeat (first|(refine qf ?_;go_at_call 20;first|((with_reducible refine (pick_c hb hl 9 ?_ HM).mono ?_);omega;rintro e W1 ⟨k1,hk1,rfl,HM1⟩;refine ⟨_,rfl,?_⟩;replace HM:=HM1;clear HM1)|((with_reducible refine (pick_c hb hl x.of ?_ HM).mono ?_);omega;rintro e W1 ⟨k2,hk2,rfl,HM1⟩;refine ⟨_,rfl,?_⟩;replace HM:=HM1;clear HM1)|(have hx3:=hk3;(with_reducible refine (pick_c hb hl _ ?_ HM).mono ?_);omega;rintro e W1 ⟨k4,hk4,rfl,HM1⟩;refine ⟨_,rfl,?_⟩;replace HM:=HM1;clear HM1)|((with_reducible refine (pick_c hb hl _ ?_ HM).mono ?_);omega;rintro e W1 ⟨k3,hk3,rfl,HM1⟩;refine ⟨_,rfl,?_⟩;replace HM:=HM1;clear HM1))|refine Y ?_)
        refine x_one 24 (by kernel_rfl) rfl (l':=#[true,true,true,true,true,true,true,true,true,true,true,true,true,true,true,true,true,true,true,true,true,true,true,true,true,true,false,false,true,false]) (by kernel_rfl) (x_go ?_)
        repeat (first|(refine qf ?_;go_at_call 20;first|((with_reducible refine (pick_c hb hl 9 ?_ HM).mono ?_);omega;rintro e W1 ⟨k1,hk1,rfl,HM1⟩;refine ⟨_,rfl,?_⟩;replace HM:=HM1;clear HM1)|((with_reducible refine (pick_c hb hl x.of ?_ HM).mono ?_);omega;rintro e W1 ⟨k2,hk2,rfl,HM1⟩;refine ⟨_,rfl,?_⟩;replace HM:=HM1;clear HM1)|(have hx3:=hk3;(with_reducible refine (pick_c hb hl _ ?_ HM).mono ?_);omega;rintro e W1 ⟨k4,hk4,rfl,HM1⟩;refine ⟨_,rfl,?_⟩;replace HM:=HM1;clear HM1)|((with_reducible refine (pick_c hb hl _ ?_ HM).mono ?_);omega;rintro e W1 ⟨k3,hk3,rfl,HM1⟩;refine ⟨_,rfl,?_⟩;replace HM:=HM1;clear HM1))|refine Y ?_)
        refine x_one 26 (by kernel_rfl) rfl (l':=#[true,true,true,true,true,true,true,true,true,true,true,true,true,true,true,true,true,true,true,true,true,true,true,true,true,true,true,false,true,false]) (by kernel_rfl) (x_go ?_)
        repeat (first|(refine qf ?_;go_at_call 58;refine (text_c hb hl (by omega) HM).mono ?_;rintro e W1 ⟨t,ht,rfl,HM1⟩;refine ⟨_,rfl,?_⟩;replace HM:=HM1;clear HM1)|refine Y ?_)
        refine x_one 27 (by kernel_rfl) rfl (l':=#[true,true,true,true,true,true,true,true,true,true,true,true,true,true,true,true,true,true,true,true,true,true,true,true,true,true,true,true,true,false]) (by kernel_rfl) (x_go ?_)
        repeat refine Y ?_
        refine x_last 29 (by kernel_rfl) rfl (l':=#[true,true,true,true,true,true,true,true,true,true,true,true,true,true,true,true,true,true,true,true,true,true,true,true,true,true,true,true,true,true]) (by kernel_rfl) (by kernel_rfl) rfl ?_
        repeat ((refine gL ?_;first|(refine gStore ?_;(refine s_store HM rfl rfl rfl rfl ?_;clear HM;intro W1 HM))|refine l_nil ?_))
        exact n_mid g U ⟨k1,k2,k3,k4,t,by omega,(HM.rdr_to (g:=gr) (q':=q + 20) (by omega)).sb⟩
    · repeat (first|(refine qg ?_;clear HM;intro g W1 HM)|refine Y ?_)
      refine x_one 1 (by kernel_rfl) rfl (l':=#[true,true,false,true,true,true,false,false,true,true,true,true,true,true,true,true,true,false,true,true,true,true,true,true,false,true,false,false,true,false]) (by kernel_rfl) (x_go ?_)
      repeat (first|(refine qf ?_;go_at_call 20;first|((with_reducible refine (pick_c hb hl 9 ?_ HM).mono ?_);omega;rintro e W1 ⟨k1,hk1,rfl,HM1⟩;refine ⟨_,rfl,?_⟩;replace HM:=HM1;clear HM1)|((with_reducible refine (pick_c hb hl x.of ?_ HM).mono ?_);omega;rintro e W1 ⟨k2,hk2,rfl,HM1⟩;refine ⟨_,rfl,?_⟩;replace HM:=HM1;clear HM1)|(have hx3:=hk3;(with_reducible refine (pick_c hb hl _ ?_ HM).mono ?_);omega;rintro e W1 ⟨k4,hk4,rfl,HM1⟩;refine ⟨_,rfl,?_⟩;replace HM:=HM1;clear HM1)|((with_reducible refine (pick_c hb hl _ ?_ HM).mono ?_);omega;rintro e W1 ⟨k3,hk3,rfl,HM1⟩;refine ⟨_,rfl,?_⟩;replace HM:=HM1;clear HM1))|refine Y ?_)
      refine x_pv HQ HS 2 rfl (by kernel_rfl) (by kernel_rfl) (l':=#[true,true,true,true,true,true,false,false,true,true,true,true,true,true,true,true,true,false,true,true,true,true,true,true,false,true,false,false,true,false]) (by kernel_rfl) rfl ?_
      refine Y ?_
      refine x_one 6 (by kernel_rfl) rfl (l':=#[true,true,true,true,true,true,true,false,true,true,true,true,true,true,true,true,true,false,true,true,true,true,true,true,false,true,false,false,true,false]) (by kernel_rfl) (x_go ?_)
      repeat (first|(refine qf ?_;go_at_call 20;first|((with_reducible refine (pick_c hb hl 9 ?_ HM).mono ?_);omega;rintro e W1 ⟨k1,hk1,rfl,HM1⟩;refine ⟨_,rfl,?_⟩;replace HM:=HM1;clear HM1)|((with_reducible refine (pick_c hb hl x.of ?_ HM).mono ?_);omega;rintro e W1 ⟨k2,hk2,rfl,HM1⟩;refine ⟨_,rfl,?_⟩;replace HM:=HM1;clear HM1)|(have hx3:=hk3;(with_reducible refine (pick_c hb hl _ ?_ HM).mono ?_);omega;rintro e W1 ⟨k4,hk4,rfl,HM1⟩;refine ⟨_,rfl,?_⟩;replace HM:=HM1;clear HM1)|((with_reducible refine (pick_c hb hl _ ?_ HM).mono ?_);omega;rintro e W1 ⟨k3,hk3,rfl,HM1⟩;refine ⟨_,rfl,?_⟩;replace HM:=HM1;clear HM1))|refine Y ?_)
      refine x_pv HQ HS 7 rfl (by kernel_rfl) (by kernel_rfl) (l':=#[true,true,true,true,true,true,true,true,true,true,true,true,true,true,true,true,true,false,true,true,true,true,true,true,false,true,false,false,true,false]) (by kernel_rfl) rfl ?_
      refine Y ?_
      refine x_one 17 (by kernel_rfl) rfl (l':=#[true,true,true,true,true,true,true,true,true,true,true,true,true,true,true,true,true,true,true,true,true,true,true,true,false,true,false,false,true,false]) (by kernel_rfl) (x_go ?_)
      repeat (first|(refine qf ?_;go_at_call 20;first|((with_reducible refine (pick_c hb hl 9 ?_ HM).mono ?_);omega;rintro e W1 ⟨k1,hk1,rfl,HM1⟩;refine ⟨_,rfl,?_⟩;replace HM:=HM1;clear HM1)|((with_reducible refine (pick_c hb hl x.of ?_ HM).mono ?_);omega;rintro e W1 ⟨k2,hk2,rfl,HM1⟩;refine ⟨_,rfl,?_⟩;replace HM:=HM1;clear HM1)|(have hx3:=hk3;(with_reducible refine (pick_c hb hl _ ?_ HM).mono ?_);omega;rintro e W1 ⟨k4,hk4,rfl,HM1⟩;refine ⟨_,rfl,?_⟩;replace HM:=HM1;clear HM1)|((with_reducible refine (pick_c hb hl _ ?_ HM).mono ?_);omega;rintro e W1 ⟨k3,hk3,rfl,HM1⟩;refine ⟨_,rfl,?_⟩;replace HM:=HM1;clear HM1))|refine Y ?_)
      refine x_one 24 (by kernel_rfl) rfl (l':=#[true,true,true,true,true,true,true,true,true,true,true,true,true,true,true,true,true,true,true,true,true,true,true,true,true,true,false,false,true,false]) (by kernel_rfl) (x_go ?_)
      repeat (first|(refine qf ?_;go_at_call 20;first|((with_reducible refine (pick_c hb hl 9 ?_ HM).mono ?_);omega;rintro e W1 ⟨k1,hk1,rfl,HM1⟩;refine ⟨_,rfl,?_⟩;replace HM:=HM1;clear HM1)|((with_reducible refine (pick_c hb hl x.of ?_ HM).mono ?_);omega;rintro e W1 ⟨k2,hk2,rfl,HM1⟩;refine ⟨_,rfl,?_⟩;replace HM:=HM1;clear HM1)|(have hx3:=hk3;(with_reducible refine (pick_c hb hl _ ?_ HM).mono ?_);omega;rintro e W1 ⟨k4,hk4,rfl,HM1⟩;refine ⟨_,rfl,?_⟩;replace HM:=HM1;clear HM1)|((with_reducible refine (pick_c hb hl _ ?_ HM).mono ?_);omega;rintro e W1 ⟨k3,hk3,rfl,HM1⟩;refine ⟨_,rfl,?_⟩;replace HM:=HM1;clear HM1))|refine Y ?_)
      refine x_one 26 (by kernel_rfl) rfl (l':=#[true,true,true,true,true,true,true,true,true,true,true,true,true,true,true,true,true,true,true,true,true,true,true,true,true,true,true,false,true,false]) (by kernel_rfl) (x_go ?_)
      repeat (first|(refine qf ?_;go_at_call 58;refine (text_c hb hl (by omega) HM).mono ?_;rintro e W1 ⟨t,ht,rfl,HM1⟩;refine ⟨_,rfl,?_⟩;replace HM:=HM1;clear HM1)|refine Y ?_)
      refine x_one 27 (by kernel_rfl) rfl (l':=#[true,true,true,true,true,true,true,true,true,true,true,true,true,true,true,true,true,true,true,true,true,true,true,true,true,true,true,true,true,false]) (by kernel_rfl) (x_go ?_)
      repeat refine Y ?_
      refine x_last 29 (by kernel_rfl) rfl (l':=#[true,true,true,true,true,true,true,true,true,true,true,true,true,true,true,true,true,true,true,true,true,true,true,true,true,true,true,true,true,true]) (by kernel_rfl) (by kernel_rfl) rfl ?_
      repeat ((refine gL ?_;first|(refine gStore ?_;(refine s_store HM rfl rfl rfl rfl ?_;clear HM;intro W1 HM))|refine l_nil ?_))
      exact n_mid g U ⟨k1,k2,k3,k4,t,by omega,(HM.rdr_to (g:=gr) (q':=q + 20) (by omega)).sb⟩
  clear HM
  rintro g6 W1 ⟨k1,k2,k3,k4,t,hk1,HM⟩
  have fin : ∀ (W1 : World) (kd ix : Int) (out : List Slot) (A5 : Option Addr) (c5 : Nat),out.length ≤ 5 → Mem w0 W1 (own tSlot 91 A5 c5 out :: rdr A bs.length c (q + 60) gr :: R) → ∃ (m : Msg) (am : At),m.slots.length ≤ 5 ∧ Ending.returned (.agg #[.int .i64 kd,.int .i64 (1 + k2),.int .i64 x.number,.int .i64 b,.int .i64 ix,.int .i64 k4,.string t,.slice A5 out.length c5]) = .returned (.agg (encMsg m am).toArray) ∧ Mem w0 W1 (own tSlot 91 am.1 am.2 m.slots :: rdr A bs.length c (q + 60) gr :: R):=fun W1 kd ix out A5 c5 ho hM=>⟨⟨kd,1 + k2,x.number,b,ix,k4,t,out⟩,(A5,c5),ho,rfl,hM⟩
  by_cases d2 : k1 = 1
  · subst d2
    repeat (first|refine Y ?_|(refine qs ?_;clear HM;intro W1 HM)|(refine qf ?_;go_at_call 91;refine (slots_c 6 hb hl (by omega) (by omega) (by omega) HM).mono ?_;rintro e W1 ⟨ss,A5,c5,hss,rfl,HM1⟩;refine ⟨_,rfl,?_⟩;replace HM:=HM1;clear HM1))
    exact ret_cell HM rfl rfl rfl (fin _ _ _ ss A5 c5 hss.1 (HM.rdr_to (g:=gr) (q':=q + 60) (by omega)).sb)
  have HM2:=HM.nil tSlot 91
  clear HM
  have HM:=HM2
  clear HM2
  by_cases d6 : k1 = 5
  · subst d6
    repeat (first|refine Y ?_|(refine qf ?_;go_at_call 20;(with_reducible refine (pick_c hb hl _ ?_ HM).mono ?_);omega;rintro e W1 ⟨u,hu,rfl,HM1⟩;refine ⟨_,rfl,?_⟩;replace HM:=HM1;clear HM1))
    by_cases c1 : u = 0
    · repeat (first|(refine gR ?_;have HM2:=HM.rdr_first (g:=gr);clear HM;have HM:=HM2;clear HM2;(refine gR ?_;refine d_startd [8] [(0,0),(0,1),(0,4),(1,2),(0,3),(2,5),(0,6),(0,7),(3,8)] HM (by kernel_rfl) (by kernel_rfl) qq (by kernel_rfl) rfl ?_;intro HQ HS W1 HM1;replace HM:=HM1;clear HM1))|refine Y ?_|(refine qs ?_;clear HM;intro W1 HM)|(refine qf ?_;go_at_call 20;(with_reducible refine (pick_c hb hl _ ?_ HM).mono ?_);omega;rintro e W1 ⟨v,hv,rfl,HM1⟩;refine ⟨_,rfl,?_⟩;replace HM:=HM1;clear HM1))
      exact ret_cell HM rfl rfl rfl (fin _ _ _ [] none 0 (by simp) (HM.rdr_to (g:=gr) (q':=q + 60) (by omega)).sb)
    · repeat (first|refine Y ?_|(refine qs ?_;clear HM;intro W1 HM))
      exact ret_cell HM rfl rfl rfl (fin _ _ _ [] none 0 (by simp) (HM.rdr_to (g:=gr) (q':=q + 60) (by omega)).sb)
  by_cases d7 : k1 = 6
  · subst d7
    repeat (first|refine Y ?_|(refine qf ?_;go_at_call 20;(with_reducible refine (pick_c hb hl _ ?_ HM).mono ?_);omega;rintro e W1 ⟨u,hu,rfl,HM1⟩;refine ⟨_,rfl,?_⟩;replace HM:=HM1;clear HM1))
    by_cases c1 : u = 0
    · repeat (first|(refine gR ?_;have HM2:=HM.rdr_first (g:=gr);clear HM;have HM:=HM2;clear HM2;(refine gR ?_;refine d_startd [8] [(0,0),(0,1),(0,4),(1,2),(0,3),(2,5),(0,6),(0,7),(3,8)] HM (by kernel_rfl) (by kernel_rfl) qq (by kernel_rfl) rfl ?_;intro HQ HS W1 HM1;replace HM:=HM1;clear HM1))|refine Y ?_|(refine qs ?_;clear HM;intro W1 HM)|(refine qf ?_;go_at_call 20;(with_reducible refine (pick_c hb hl _ ?_ HM).mono ?_);omega;rintro e W1 ⟨v,hv,rfl,HM1⟩;refine ⟨_,rfl,?_⟩;replace HM:=HM1;clear HM1))
      exact ret_cell HM rfl rfl rfl (fin _ _ _ [] none 0 (by simp) (HM.rdr_to (g:=gr) (q':=q + 60) (by omega)).sb)
    · repeat (first|refine Y ?_|(refine qs ?_;clear HM;intro W1 HM))
      exact ret_cell HM rfl rfl rfl (fin _ _ _ [] none 0 (by simp) (HM.rdr_to (g:=gr) (q':=q + 60) (by omega)).sb)
  repeat (first|refine Y ?_|(refine qs ?_;clear HM;intro W1 HM))
  exact ret_cell HM rfl rfl rfl (fin _ _ _ [] none 0 (by simp) (HM.rdr_to (g:=gr) (q':=q + 60) (by omega)).sb)
end Go.Proofs.YtampmicahnnebaaGreat.Sp
