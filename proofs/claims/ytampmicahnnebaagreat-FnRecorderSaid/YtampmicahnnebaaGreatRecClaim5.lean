/- ack of the reference. No condition. -/
import Derived.Test.YtampmicahnnebaaGreatRecClaim4
set_option linter.unusedVariables false
set_option linter.unusedSimpArgs false
namespace Go.Proofs.YtampmicahnnebaaGreat.Sp
open Go Go.RowKit
set_option maxRecDepth 10000
set_option maxHeartbeats 8000000
variable {w0 W : World} {L : List Asn}
instance {L : List Asn} {eI : Nat} {index : Int} : MkIn L (tAck eI) [.int .i64 index,.slice none 0 0] ⟨index,[]⟩ L :=
  mk_nest (M:=[own tInt eI none 0 []]) (fun W ok hs=>⟨fun _=>False,fun _ h=>h.elim,own_nil tInt eI,hs.mono (fun k hk=>⟨hk,fun h=>h⟩)⟩) (fun W F hs=>⟨(none,0),rfl,hs⟩)
theorem opn_ack {eI e c : Nat} {A : Option Addr} {xs : List Ack} (h : Mem w0 W (own (tAck eI) e A c xs :: L)) (i : Nat) (hi : i < xs.length) : ∃ j : At,Mem w0 W (hol (tAck eI) e A c xs i [.int .i64 xs[i].index,.slice j.1 xs[i].frm.length j.2] :: own tInt eI j.1 j.2 xs[i].frm :: L):=opn_nest h i hi
theorem cls_ack {eI e c i : Nat} {A : Option Addr} {xs : List Ack} {a : Int} {fs : List Int} {B : Option Addr} {d : Nat} (h : Mem w0 W (hol (tAck eI) e A c xs i [.int .i64 a,.slice B fs.length d] :: own tInt eI B d fs :: L)) : Mem w0 W (own (tAck eI) e A c (xs.set i ⟨a,fs⟩) :: L):=cls_nest (x:=(⟨a,fs⟩ : Ack)) (j:=(B,d)) h
def ackA : List Ack → Int → Int → List Ack
  | [],n,f=>[⟨n,addL [] f⟩]
  | a :: r,n,f=>if a.index < n then a :: ackA r n f else if a.index = n then ⟨a.index,addL a.frm f⟩ :: r else ⟨n,addL [] f⟩ :: a :: r
theorem ackA_in : ∀ {l : List Ack} {n f : Int} {k : Nat} (hk : k < l.length),(∀ j (h : j < l.length),j < k → l[j].index < n) → l[k].index = n → ackA l n f = l.set k ⟨l[k].index,addL l[k].frm f⟩
  | a :: r,n,f,0,_,_,e=>by simp at e;simp [ackA,e]
  | a :: r,n,f,k + 1,hk,h,e=>by
    have h0 : a.index < n:=h 0 (by simp) (by omega)
    rw [ackA,if_pos h0,ackA_in (k:=k) (by simpa using hk) (fun j hj hjk=>h (j + 1) (by simpa using hj) (by omega)) (by simpa using e)]
    simp
theorem ackA_new : ∀ {l : List Ack} {n f : Int} {k : Nat},k ≤ l.length → (∀ j (h : j < l.length),j < k → l[j].index < n) → (∀ h : k < l.length,n < l[k].index) → ackA l n f = l.take k ++ [⟨n,addL [] f⟩] ++ l.drop k
  | [],n,f,k,_,_,_=>by simp [ackA]
  | a :: r,n,f,0,_,_,e=>by
    have:=e (by simp)
    simp at this
    simp [ackA,show ¬ a.index < n by omega,show a.index ≠ n by omega]
  | a :: r,n,f,k + 1,hk,h,e=>by
    have h0 : a.index < n:=h 0 (by simp) (by omega)
    rw [ackA,if_pos h0,ackA_new (k:=k) (by simpa using hk) (fun j hj hjk=>h (j + 1) (by simpa using hj) (by omega)) (fun hk=>by have h2:=e (Nat.succ_lt_succ hk);rwa [List.getElem_cons_succ] at h2)]
    simp
theorem ackA_len (l : List Ack) (n f : Int) : (ackA l n f).length ≤ l.length + 1:=by
  induction l with
  | nil=>simp [ackA]
  | cons a r ih=>rw [ackA];split <;> (try split) <;> simp <;> omega
theorem ackA_frm (l : List Ack) (n f : Int) (q : Nat) (h : ∀ a ∈ l,a.frm.length ≤ q) : ∀ a ∈ ackA l n f,a.frm.length ≤ q + 1:=by
  induction l with
  | nil=>intro a ha;simp [ackA] at ha;subst ha;have:=addL_len [] f;simp at this ⊢;omega
  | cons b r ih =>
    intro a ha
    have hb:=h b (by simp)
    have hr:=fun a ha=>h a (List.mem_cons_of_mem b ha)
    rw [ackA] at ha
    split at ha
    · rcases List.mem_cons.1 ha with e|e
      · subst e;omega
      · exact ih hr a e
    · split at ha
      · rcases List.mem_cons.1 ha with e|e
        · subst e;have:=addL_len b.frm f;simp only;omega
        · have:=hr a e;omega
      · rcases List.mem_cons.1 ha with e|e
        · subst e;have:=addL_len [] f;simp at this ⊢;omega
        · have:=h a e;omega
theorem ack_ins {l : List Ack} {k : Nat} (a : Ack) (hk : k ≤ l.length) {ys : List Ack} (hy : ys = [] ++ l.take k ++ [a] ++ l.drop k) : ys.length = l.length + 1 ∧ (∀ h : k < ys.length,ys[k] = a) ∧ ∀ a',ys.set k a' = l.take k ++ [a'] ++ l.drop k:=by
  have hl : (l.take k).length = k:=by simp;omega
  subst hy
  refine ⟨by simp;omega,fun h=>?_,fun a'=>?_⟩
  · simp [List.getElem_append,hl]
  · have h1 : k ≤ (l.take k).length:=by omega
    rw [List.nil_append,List.append_assoc,List.append_assoc,List.set_append,if_neg (by omega),hl,Nat.sub_self]
    rfl
def ackL (x : Rcd) (ix f : Int) : Rcd:=advL { x with acks:=ackA x.acks ix f }
theorem ackS (x : Rcd) (i : AtRcd) (ix f : Int) (h0 : 0 ≤ x.dk) (h1 : x.dk ≤ x.ds.length) (hn : x.ds.length ≤ 1048576) (ha : x.acks.length ≤ 1000) (has : ∀ a ∈ x.acks,a.frm.length ≤ 1000) (HM : Mem w0 W (partRcd 91 40 9 3 66 x i ++ L)) : Calls Tryz.prog 83 #[.agg (encRcd x i).toArray,.int .i64 ix,.int .i64 f] W fun e W'=>∃ j,e = .returned (.agg (encRcd (ackL x ix f) j).toArray) ∧ Mem w0 W' (partRcd 91 40 9 3 66 (ackL x ix f) j ++ L):=by
  refine enter Tryz.func83 rfl Tryz.ntmps83 [(0,.agg (encRcd x i).toArray),(1,_),(2,_)] rfl ⟨rfl,rfl,rfl,trivial⟩ ?_
  unfold encRcd
  simp only [partRcd,List.cons_append,List.nil_append] at HM
  have hcap : x.acks.length ≤ i.a6.2:=by obtain ⟨F1,hF1⟩:=HM.own (A:=i.a6.1);exact (own_max hF1).2
  repeat (first|refine Y ?_|(refine qg ?_;clear HM;intro g W1 HM))
  rename_i gr _
  refine c_loop (σ:=Nat) (fun k=>[(1,.int .i64 ix),(2,.int .i64 f),(3,.pointer (some ⟨gr,0,none⟩)),(6,.pointer (some ⟨g,0,none⟩)),(7,.int .i64 k)]) (fun k W1=>k ≤ x.acks.length ∧ (∀ j (h : j < x.acks.length),j < k → x.acks[j].index < ix) ∧ Mem w0 W1 (box gr 31 [.int .i64 x.number,.int .i64 x.of,.bool x.up,.int .i64 x.sp,.int .i64 x.sk,.slice i.a0.1 x.ss.length i.a0.2,.int .i64 x.dp,.int .i64 x.dk,.slice i.a1.1 x.ds.length i.a1.2,.slice i.a2.1 x.held.length i.a2.2,.slice i.a3.1 x.wishes.length i.a3.2,.bool x.lead,.bool x.trying,.int .i64 x.ballot,.slice i.a4.1 x.yes.length i.a4.2,.slice i.a5.1 x.best.length i.a5.2,.slice i.a6.1 x.acks.length i.a6.2,.int .i64 x.heard] :: own (tAck 3) 66 i.a6.1 i.a6.2 x.acks :: _)) (fun k=>x.acks.length - k) 0 U ⟨Nat.zero_le _,fun j h hj=>by omega,(HM.pk (A:=own (tAck 3) 66 i.a6.1 i.a6.2 x.acks)).pk (A:=box gr 31 [.int .i64 x.number,.int .i64 x.of,.bool x.up,.int .i64 x.sp,.int .i64 x.sk,.slice i.a0.1 x.ss.length i.a0.2,.int .i64 x.dp,.int .i64 x.dk,.slice i.a1.1 x.ds.length i.a1.2,.slice i.a2.1 x.held.length i.a2.2,.slice i.a3.1 x.wishes.length i.a3.2,.bool x.lead,.bool x.trying,.int .i64 x.ballot,.slice i.a4.1 x.yes.length i.a4.2,.slice i.a5.1 x.best.length i.a5.2,.slice i.a6.1 x.acks.length i.a6.2,.int .i64 x.heard])⟩ ?_
  clear HM
  rintro k W1 ⟨hk,hp,HM⟩
  by_cases hlt : k < x.acks.length
  · have e0:=rd_at (d:=tAck 3) hlt
    by_cases c1 : (rd (tAck 3) x.acks k).index < ix
    · repeat refine Y ?_
      exact n_round (k + 1) U ⟨by omega,fun j h hj=>by
        by_cases e : j = k
        · subst e;rw [← e0];exact c1
        · exact hp j h (by omega),HM⟩ (by omega)
    by_cases c2 : (rd (tAck 3) x.acks k).index = ix
    · have e:=ackA_in (f:=f) hlt hp (by rw [← e0];exact c2)
      repeat refine Y ?_
      have hfl:=has _ (List.getElem_mem hlt)
      obtain ⟨j,HM⟩:=opn_ack (HM.pk (A:=own (tAck 3) 66 i.a6.1 i.a6.2 x.acks)) k hlt
      replace HM:=HM.perm (List.Perm.swap ..)
      repeat (first|(refine gR ?_;refine d_startd [13] [(0,0),(0,2),(0,3),(0,5),(0,9),(1,1),(1,4),(0,6),(0,7),(1,8),(2,10),(0,11),(0,12),(3,13)] HM (by kernel_rfl) (by kernel_rfl) qq (by kernel_rfl) rfl ?_;intro HQ HS W1 HM1;replace HM:=HM1;clear HM1)|refine Y ?_|(refine gStore ?_;refine s_storeh HM rfl rfl rfl rfl rfl rfl ?_;clear HM;intro W1 HM;(try dsimp only at HM))|(refine qf ?_;go_at_call 80;refine (addS f (by omega) (by exact HM.pk)).mono ?_;rintro e2 W2 ⟨A2,c2,rfl,HM1⟩;refine ⟨_,rfl,?_⟩;replace HM:=HM1;clear HM1))
      have HM1:=cls_ack ((HM.pk (A:=own tInt 3 A2 c2 (addL x.acks[k].frm f))).pk (A:=hol (tAck 3) 66 i.a6.1 i.a6.2 x.acks k [.int .i64 x.acks[k].index,.slice A2 (addL x.acks[k].frm f).length c2]))
      replace HM:=HM1;clear HM1
      rw [← e] at HM
      have el : x.acks.length = (ackA x.acks ix f).length:=by rw [e,List.length_set]
      simp only [el] at HM ⊢
      have hl1:=ackA_len x.acks ix f
      have hl2:=ackA_frm x.acks ix f 1000 has
      rw [show ackL x ix f = advL { x with acks:=ackA x.acks ix f } from rfl]
      obtain ⟨bs,hA⟩ : ∃ bs,bs = ackA x.acks ix f:=⟨_,rfl⟩
      rw [← hA] at HM hl1 hl2 ⊢
      clear e el hA
      repeat (first|(refine qs ?_;clear HM;intro W1 HM)|(refine qf ?_;go_at_call 105;refine (advS { x with acks:=bs } i h0 h1 hn (by simp only;omega) (fun a ha=>Nat.le_trans (hl2 a ha) (by omega)) (by exact pk_rec HM)).mono ?_;rintro e2 W2 ⟨j2,rfl,HM1⟩;refine ⟨_,rfl,?_⟩;replace HM:=HM1;clear HM1;simp only [partRcd,List.cons_append,List.nil_append] at HM;simp only [encRcd])|refine Y ?_)
      exact ret_cell HM rfl rfl rfl ⟨j2,rfl,by simp only [partRcd,List.cons_append,List.nil_append];exact HM.sb⟩
    have e:=ackA_new (f:=f) hk hp (fun h=>by rw [← e0];omega)
    repeat refine Y ?_
    obtain ⟨css,hcl,HM⟩:=opn_at k (HM.pk (A:=own (tAck 3) 66 i.a6.1 i.a6.2 x.acks))
    have hr1 : (css.take k).length = (x.acks.take k).length:=by simp only [List.length_take,hcl]
    have hr2 : (css.drop k).length = (x.acks.drop k).length:=by simp only [List.length_drop,hcl]
    have htk : (x.acks.take k).length = k:=by simp only [List.length_take];omega
    refine gR ?_
    refine x_start (ds:=[16]) HM (fun w hw=>hw.drop.drop) (by kernel_rfl) (by kernel_rfl) qq ?_
    intro HQ HS W1 HM1;replace HM:=HM1;clear HM1
    refine x_pv HQ HS 1 rfl (by kernel_rfl) (by kernel_rfl) (l':=#[false,true,false,false,false,false,false,false,false,false,false,false,false,false,false,false,false]) (by kernel_rfl) rfl ?_
    refine Y ?_
    refine x_pv HQ HS 3 rfl (by kernel_rfl) (by kernel_rfl) (l':=#[false,true,false,true,false,false,false,false,false,false,false,false,false,false,false,false,false]) (by kernel_rfl) rfl ?_
    refine Y ?_
    refine x_pv HQ HS 6 rfl (by kernel_rfl) (by kernel_rfl) (l':=#[false,true,false,true,false,false,true,false,false,false,false,false,false,false,false,false,false]) (by kernel_rfl) rfl ?_
    refine Y ?_
    refine x_pv HQ HS 10 rfl (by kernel_rfl) (by kernel_rfl) (l':=#[false,true,false,true,false,false,true,false,false,false,true,false,false,false,false,false,false]) (by kernel_rfl) rfl ?_
    refine Y ?_
    refine x_pv HQ HS 12 rfl (by kernel_rfl) (by kernel_rfl) (l':=#[false,true,false,true,false,false,true,false,false,false,true,false,true,false,false,false,false]) (by kernel_rfl) rfl ?_
    refine Y ?_
    refine x_ld HQ HS 2 rfl (by kernel_rfl) (by kernel_rfl) (by kernel_rfl) (by kernel_rfl) (l':=#[false,true,true,true,false,false,true,false,false,false,true,false,true,false,false,false,false]) (by kernel_rfl) rfl ?_
    refine Y ?_
    refine x_pv HQ HS 4 rfl (by kernel_rfl) (by kernel_rfl) (l':=#[false,true,true,true,true,false,true,false,false,false,true,false,true,false,false,false,false]) (by kernel_rfl) rfl ?_
    refine Y ?_
    refine x_ld HQ HS 11 rfl (by kernel_rfl) (by kernel_rfl) (by kernel_rfl) (by kernel_rfl) (l':=#[false,true,true,true,true,false,true,false,false,false,true,true,true,false,false,false,false]) (by kernel_rfl) rfl ?_
    refine Y ?_
    refine x_pv HQ HS 13 rfl (by kernel_rfl) (by kernel_rfl) (l':=#[false,true,true,true,true,false,true,false,false,false,true,true,true,true,false,false,false]) (by kernel_rfl) rfl ?_
    refine Y ?_
    refine x_two 0 7 (by kernel_rfl) rfl rfl (l':=#[true,true,true,true,true,false,true,false,false,false,true,true,true,true,false,false,false]) (l'':=#[false,true,true,true,true,false,true,true,false,false,true,true,true,true,false,false,false]) (by kernel_rfl) (by kernel_rfl) (x_go ?_) (x_go ?_)
    · repeat (first|(refine qz ?_;clear HM;intro A1 W1 HM)|refine Y ?_)
      refine x_two 5 7 (by kernel_rfl) rfl rfl (l':=#[true,true,true,true,true,true,true,false,false,false,true,true,true,true,false,false,false]) (l'':=#[true,true,true,true,true,false,true,true,false,false,true,true,true,true,false,false,false]) (by kernel_rfl) (by kernel_rfl) (x_go ?_) (x_go ?_)
      · repeat (first|(refine gCall ?_;obtain ⟨F1,hF1⟩:=HM.own (A:=i.a6.1);(first|(have hd:=rdc_take hF1 k;rw [hr1] at hd;refine s_appn (ys:=x.acks.take k) (css:=css.take k) HM rfl rfl rfl rfl hd (by simp only [List.length_take];omega) (by simp only [List.length_take,List.length_drop,List.length_append,List.length_cons,List.length_nil];omega) rfl ?_)|(have hd:=rdc_drop (k:=k) hF1 (by omega) (by omega);rw [hr2] at hd;refine s_appn (ys:=x.acks.drop k) (css:=css.drop k) HM rfl rfl (by first|with_reducible rfl|(simp only [List.length_append,List.length_take,List.length_cons,List.length_nil];omega)) rfl hd (by simp only [List.length_drop];omega) (by simp only [List.length_take,List.length_drop,List.length_append,List.length_cons,List.length_nil];omega) rfl ?_));clear hF1;intro A1 c1 W1 HM1;replace HM:=HM1;clear HM1)|refine Y ?_)
        refine x_one 7 (by kernel_rfl) rfl (l':=#[true,true,true,true,true,true,true,true,false,false,true,true,true,true,false,false,false]) (by kernel_rfl) (x_go ?_)
        repeat refine Y ?_
        refine x_one 8 (by kernel_rfl) rfl (l':=#[true,true,true,true,true,true,true,true,true,false,true,true,true,true,false,false,false]) (by kernel_rfl) (x_go ?_)
        repeat (first|(refine qg ?_;clear HM;intro g W1 HM)|refine Y ?_)
        refine x_one 9 (by kernel_rfl) rfl (l':=#[true,true,true,true,true,true,true,true,true,true,true,true,true,true,false,false,false]) (by kernel_rfl) (x_go ?_)
        repeat (first|(refine qa ?_;clear HM;intro A1 c1 W1 HM)|refine Y ?_)
        refine x_one 14 (by kernel_rfl) rfl (l':=#[true,true,true,true,true,true,true,true,true,true,true,true,true,true,true,false,false]) (by kernel_rfl) (x_go ?_)
        repeat (first|(refine gCall ?_;obtain ⟨F1,hF1⟩:=HM.own (A:=i.a6.1);(first|(have hd:=rdc_take hF1 k;rw [hr1] at hd;refine s_appn (ys:=x.acks.take k) (css:=css.take k) HM rfl rfl rfl rfl hd (by simp only [List.length_take];omega) (by simp only [List.length_take,List.length_drop,List.length_append,List.length_cons,List.length_nil];omega) rfl ?_)|(have hd:=rdc_drop (k:=k) hF1 (by omega) (by omega);rw [hr2] at hd;refine s_appn (ys:=x.acks.drop k) (css:=css.drop k) HM rfl rfl (by first|with_reducible rfl|(simp only [List.length_append,List.length_take,List.length_cons,List.length_nil];omega)) rfl hd (by simp only [List.length_drop];omega) (by simp only [List.length_take,List.length_drop,List.length_append,List.length_cons,List.length_nil];omega) rfl ?_));clear hF1;intro A1 c1 W1 HM1;replace HM:=HM1;clear HM1)|refine Y ?_)
        refine x_pv HQ HS 15 rfl (by kernel_rfl) (by kernel_rfl) (l':=#[true,true,true,true,true,true,true,true,true,true,true,true,true,true,true,true,false]) (by kernel_rfl) rfl ?_
        refine Y ?_
        refine x_last 16 (by kernel_rfl) rfl (l':=#[true,true,true,true,true,true,true,true,true,true,true,true,true,true,true,true,true]) (by kernel_rfl) (by kernel_rfl) rfl ?_
        repeat (first|(refine qs ?_;clear HM;intro W1 HM)|refine Y ?_)
        obtain ⟨ys,hy⟩ : ∃ ys : List Ack,ys = [] ++ x.acks.take k ++ [⟨ix,[]⟩] ++ x.acks.drop k:=⟨_,rfl⟩
        rw [← hy] at HM
        obtain ⟨hyl,hya,hys⟩:=ack_ins ⟨ix,[]⟩ hk hy
        have hlk : k < ys.length:=by omega
        have hyk:=hya hlk
        have hfl : ys[k].frm.length ≤ 1000:=by rw [hyk];simp
        replace e : ackA x.acks ix f = ys.set k ⟨ys[k].index,addL ys[k].frm f⟩:=by rw [hys,hyk];exact e
        clear hy hya hys hyk
        obtain ⟨j,HM⟩:=opn_ack (HM.pk (A:=own (tAck 3) 66 A1 c1 ys)) k hlk
        replace HM:=HM.perm (List.Perm.swap ..)
        repeat (first|(refine gR ?_;refine d_startd [13] [(0,0),(0,2),(0,3),(0,5),(0,9),(1,1),(1,4),(0,6),(0,7),(1,8),(2,10),(0,11),(0,12),(3,13)] HM (by kernel_rfl) (by kernel_rfl) qq (by kernel_rfl) rfl ?_;intro HQ HS W1 HM1;replace HM:=HM1;clear HM1)|refine Y ?_|(refine gStore ?_;refine s_storeh HM rfl rfl rfl rfl rfl rfl ?_;clear HM;intro W1 HM;(try dsimp only at HM))|(refine qf ?_;go_at_call 80;refine (addS f (by omega) (by exact HM.pk)).mono ?_;rintro e2 W2 ⟨A2,c2,rfl,HM1⟩;refine ⟨_,rfl,?_⟩;replace HM:=HM1;clear HM1))
        have HM1:=cls_ack ((HM.pk (A:=own tInt 3 A2 c2 (addL ys[k].frm f))).pk (A:=hol (tAck 3) 66 A1 c1 ys k [.int .i64 ys[k].index,.slice A2 (addL ys[k].frm f).length c2]))
        replace HM:=HM1;clear HM1
        rw [← e] at HM
        have el : ys.length = (ackA x.acks ix f).length:=by rw [e,List.length_set]
        simp only [el] at HM ⊢
        have hl1:=ackA_len x.acks ix f
        have hl2:=ackA_frm x.acks ix f 1000 has
        rw [show ackL x ix f = advL { x with acks:=ackA x.acks ix f } from rfl]
        obtain ⟨bs,hA⟩ : ∃ bs,bs = ackA x.acks ix f:=⟨_,rfl⟩
        rw [← hA] at HM hl1 hl2 ⊢
        clear e el hA
        repeat (first|(refine qs ?_;clear HM;intro W1 HM)|(refine qf ?_;go_at_call 105;refine (advS { x with acks:=bs } ⟨i.a0,i.a1,i.a2,i.a3,i.a4,i.a5,(A1,c1)⟩ h0 h1 hn (by simp only;omega) (fun a ha=>Nat.le_trans (hl2 a ha) (by omega)) (by exact pk_rec HM)).mono ?_;rintro e2 W2 ⟨j2,rfl,HM1⟩;refine ⟨_,rfl,?_⟩;replace HM:=HM1;clear HM1;simp only [partRcd,List.cons_append,List.nil_append] at HM;simp only [encRcd])|refine Y ?_)
        exact ret_cell HM rfl rfl rfl ⟨j2,rfl,by simp only [partRcd,List.cons_append,List.nil_append];exact HM.sb⟩
      · repeat refine Y ?_
        refine x_two 5 8 (by kernel_rfl) rfl rfl (l':=#[true,true,true,true,true,true,true,true,false,false,true,true,true,true,false,false,false]) (l'':=#[true,true,true,true,true,false,true,true,true,false,true,true,true,true,false,false,false]) (by kernel_rfl) (by kernel_rfl) (x_go ?_) (x_go ?_)
        · repeat (first|(refine gCall ?_;obtain ⟨F1,hF1⟩:=HM.own (A:=i.a6.1);(first|(have hd:=rdc_take hF1 k;rw [hr1] at hd;refine s_appn (ys:=x.acks.take k) (css:=css.take k) HM rfl rfl rfl rfl hd (by simp only [List.length_take];omega) (by simp only [List.length_take,List.length_drop,List.length_append,List.length_cons,List.length_nil];omega) rfl ?_)|(have hd:=rdc_drop (k:=k) hF1 (by omega) (by omega);rw [hr2] at hd;refine s_appn (ys:=x.acks.drop k) (css:=css.drop k) HM rfl rfl (by first|with_reducible rfl|(simp only [List.length_append,List.length_take,List.length_cons,List.length_nil];omega)) rfl hd (by simp only [List.length_drop];omega) (by simp only [List.length_take,List.length_drop,List.length_append,List.length_cons,List.length_nil];omega) rfl ?_));clear hF1;intro A1 c1 W1 HM1;replace HM:=HM1;clear HM1)|refine Y ?_)
          refine x_one 8 (by kernel_rfl) rfl (l':=#[true,true,true,true,true,true,true,true,true,false,true,true,true,true,false,false,false]) (by kernel_rfl) (x_go ?_)
          repeat (first|(refine qg ?_;clear HM;intro g W1 HM)|refine Y ?_)
          refine x_one 9 (by kernel_rfl) rfl (l':=#[true,true,true,true,true,true,true,true,true,true,true,true,true,true,false,false,false]) (by kernel_rfl) (x_go ?_)
          repeat (first|(refine qa ?_;clear HM;intro A1 c1 W1 HM)|refine Y ?_)
          refine x_one 14 (by kernel_rfl) rfl (l':=#[true,true,true,true,true,true,true,true,true,true,true,true,true,true,true,false,false]) (by kernel_rfl) (x_go ?_)
          repeat (first|(refine gCall ?_;obtain ⟨F1,hF1⟩:=HM.own (A:=i.a6.1);(first|(have hd:=rdc_take hF1 k;rw [hr1] at hd;refine s_appn (ys:=x.acks.take k) (css:=css.take k) HM rfl rfl rfl rfl hd (by simp only [List.length_take];omega) (by simp only [List.length_take,List.length_drop,List.length_append,List.length_cons,List.length_nil];omega) rfl ?_)|(have hd:=rdc_drop (k:=k) hF1 (by omega) (by omega);rw [hr2] at hd;refine s_appn (ys:=x.acks.drop k) (css:=css.drop k) HM rfl rfl (by first|with_reducible rfl|(simp only [List.length_append,List.length_take,List.length_cons,List.length_nil];omega)) rfl hd (by simp only [List.length_drop];omega) (by simp only [List.length_take,List.length_drop,List.length_append,List.length_cons,List.length_nil];omega) rfl ?_));clear hF1;intro A1 c1 W1 HM1;replace HM:=HM1;clear HM1)|refine Y ?_)
          refine x_pv HQ HS 15 rfl (by kernel_rfl) (by kernel_rfl) (l':=#[true,true,true,true,true,true,true,true,true,true,true,true,true,true,true,true,false]) (by kernel_rfl) rfl ?_
          refine Y ?_
          refine x_last 16 (by kernel_rfl) rfl (l':=#[true,true,true,true,true,true,true,true,true,true,true,true,true,true,true,true,true]) (by kernel_rfl) (by kernel_rfl) rfl ?_
          repeat (first|(refine qs ?_;clear HM;intro W1 HM)|refine Y ?_)
          obtain ⟨ys,hy⟩ : ∃ ys : List Ack,ys = [] ++ x.acks.take k ++ [⟨ix,[]⟩] ++ x.acks.drop k:=⟨_,rfl⟩
          rw [← hy] at HM
          obtain ⟨hyl,hya,hys⟩:=ack_ins ⟨ix,[]⟩ hk hy
          have hlk : k < ys.length:=by omega
          have hyk:=hya hlk
          have hfl : ys[k].frm.length ≤ 1000:=by rw [hyk];simp
          replace e : ackA x.acks ix f = ys.set k ⟨ys[k].index,addL ys[k].frm f⟩:=by rw [hys,hyk];exact e
          clear hy hya hys hyk
          obtain ⟨j,HM⟩:=opn_ack (HM.pk (A:=own (tAck 3) 66 A1 c1 ys)) k hlk
          replace HM:=HM.perm (List.Perm.swap ..)
          repeat (first|(refine gR ?_;refine d_startd [13] [(0,0),(0,2),(0,3),(0,5),(0,9),(1,1),(1,4),(0,6),(0,7),(1,8),(2,10),(0,11),(0,12),(3,13)] HM (by kernel_rfl) (by kernel_rfl) qq (by kernel_rfl) rfl ?_;intro HQ HS W1 HM1;replace HM:=HM1;clear HM1)|refine Y ?_|(refine gStore ?_;refine s_storeh HM rfl rfl rfl rfl rfl rfl ?_;clear HM;intro W1 HM;(try dsimp only at HM))|(refine qf ?_;go_at_call 80;refine (addS f (by omega) (by exact HM.pk)).mono ?_;rintro e2 W2 ⟨A2,c2,rfl,HM1⟩;refine ⟨_,rfl,?_⟩;replace HM:=HM1;clear HM1))
          have HM1:=cls_ack ((HM.pk (A:=own tInt 3 A2 c2 (addL ys[k].frm f))).pk (A:=hol (tAck 3) 66 A1 c1 ys k [.int .i64 ys[k].index,.slice A2 (addL ys[k].frm f).length c2]))
          replace HM:=HM1;clear HM1
          rw [← e] at HM
          have el : ys.length = (ackA x.acks ix f).length:=by rw [e,List.length_set]
          simp only [el] at HM ⊢
          have hl1:=ackA_len x.acks ix f
          have hl2:=ackA_frm x.acks ix f 1000 has
          rw [show ackL x ix f = advL { x with acks:=ackA x.acks ix f } from rfl]
          obtain ⟨bs,hA⟩ : ∃ bs,bs = ackA x.acks ix f:=⟨_,rfl⟩
          rw [← hA] at HM hl1 hl2 ⊢
          clear e el hA
          repeat (first|(refine qs ?_;clear HM;intro W1 HM)|(refine qf ?_;go_at_call 105;refine (advS { x with acks:=bs } ⟨i.a0,i.a1,i.a2,i.a3,i.a4,i.a5,(A1,c1)⟩ h0 h1 hn (by simp only;omega) (fun a ha=>Nat.le_trans (hl2 a ha) (by omega)) (by exact pk_rec HM)).mono ?_;rintro e2 W2 ⟨j2,rfl,HM1⟩;refine ⟨_,rfl,?_⟩;replace HM:=HM1;clear HM1;simp only [partRcd,List.cons_append,List.nil_append] at HM;simp only [encRcd])|refine Y ?_)
          exact ret_cell HM rfl rfl rfl ⟨j2,rfl,by simp only [partRcd,List.cons_append,List.nil_append];exact HM.sb⟩
        · repeat (first|(refine qg ?_;clear HM;intro g W1 HM)|refine Y ?_)
          refine x_one 5 (by kernel_rfl) rfl (l':=#[true,true,true,true,true,true,true,true,true,false,true,true,true,true,false,false,false]) (by kernel_rfl) (x_go ?_)
          repeat (first|(refine gCall ?_;obtain ⟨F1,hF1⟩:=HM.own (A:=i.a6.1);(first|(have hd:=rdc_take hF1 k;rw [hr1] at hd;refine s_appn (ys:=x.acks.take k) (css:=css.take k) HM rfl rfl rfl rfl hd (by simp only [List.length_take];omega) (by simp only [List.length_take,List.length_drop,List.length_append,List.length_cons,List.length_nil];omega) rfl ?_)|(have hd:=rdc_drop (k:=k) hF1 (by omega) (by omega);rw [hr2] at hd;refine s_appn (ys:=x.acks.drop k) (css:=css.drop k) HM rfl rfl (by first|with_reducible rfl|(simp only [List.length_append,List.length_take,List.length_cons,List.length_nil];omega)) rfl hd (by simp only [List.length_drop];omega) (by simp only [List.length_take,List.length_drop,List.length_append,List.length_cons,List.length_nil];omega) rfl ?_));clear hF1;intro A1 c1 W1 HM1;replace HM:=HM1;clear HM1)|refine Y ?_)
          refine x_one 9 (by kernel_rfl) rfl (l':=#[true,true,true,true,true,true,true,true,true,true,true,true,true,true,false,false,false]) (by kernel_rfl) (x_go ?_)
          repeat (first|(refine qa ?_;clear HM;intro A1 c1 W1 HM)|refine Y ?_)
          refine x_one 14 (by kernel_rfl) rfl (l':=#[true,true,true,true,true,true,true,true,true,true,true,true,true,true,true,false,false]) (by kernel_rfl) (x_go ?_)
          repeat (first|(refine gCall ?_;obtain ⟨F1,hF1⟩:=HM.own (A:=i.a6.1);(first|(have hd:=rdc_take hF1 k;rw [hr1] at hd;refine s_appn (ys:=x.acks.take k) (css:=css.take k) HM rfl rfl rfl rfl hd (by simp only [List.length_take];omega) (by simp only [List.length_take,List.length_drop,List.length_append,List.length_cons,List.length_nil];omega) rfl ?_)|(have hd:=rdc_drop (k:=k) hF1 (by omega) (by omega);rw [hr2] at hd;refine s_appn (ys:=x.acks.drop k) (css:=css.drop k) HM rfl rfl (by first|with_reducible rfl|(simp only [List.length_append,List.length_take,List.length_cons,List.length_nil];omega)) rfl hd (by simp only [List.length_drop];omega) (by simp only [List.length_take,List.length_drop,List.length_append,List.length_cons,List.length_nil];omega) rfl ?_));clear hF1;intro A1 c1 W1 HM1;replace HM:=HM1;clear HM1)|refine Y ?_)
          refine x_pv HQ HS 15 rfl (by kernel_rfl) (by kernel_rfl) (l':=#[true,true,true,true,true,true,true,true,true,true,true,true,true,true,true,true,false]) (by kernel_rfl) rfl ?_
          refine Y ?_
          refine x_last 16 (by kernel_rfl) rfl (l':=#[true,true,true,true,true,true,true,true,true,true,true,true,true,true,true,true,true]) (by kernel_rfl) (by kernel_rfl) rfl ?_
          repeat (first|(refine qs ?_;clear HM;intro W1 HM)|refine Y ?_)
          obtain ⟨ys,hy⟩ : ∃ ys : List Ack,ys = [] ++ x.acks.take k ++ [⟨ix,[]⟩] ++ x.acks.drop k:=⟨_,rfl⟩
          rw [← hy] at HM
          obtain ⟨hyl,hya,hys⟩:=ack_ins ⟨ix,[]⟩ hk hy
          have hlk : k < ys.length:=by omega
          have hyk:=hya hlk
          have hfl : ys[k].frm.length ≤ 1000:=by rw [hyk];simp
          replace e : ackA x.acks ix f = ys.set k ⟨ys[k].index,addL ys[k].frm f⟩:=by rw [hys,hyk];exact e
          clear hy hya hys hyk
          obtain ⟨j,HM⟩:=opn_ack (HM.pk (A:=own (tAck 3) 66 A1 c1 ys)) k hlk
          replace HM:=HM.perm (List.Perm.swap ..)
          repeat (first|(refine gR ?_;refine d_startd [13] [(0,0),(0,2),(0,3),(0,5),(0,9),(1,1),(1,4),(0,6),(0,7),(1,8),(2,10),(0,11),(0,12),(3,13)] HM (by kernel_rfl) (by kernel_rfl) qq (by kernel_rfl) rfl ?_;intro HQ HS W1 HM1;replace HM:=HM1;clear HM1)|refine Y ?_|(refine gStore ?_;refine s_storeh HM rfl rfl rfl rfl rfl rfl ?_;clear HM;intro W1 HM;(try dsimp only at HM))|(refine qf ?_;go_at_call 80;refine (addS f (by omega) (by exact HM.pk)).mono ?_;rintro e2 W2 ⟨A2,c2,rfl,HM1⟩;refine ⟨_,rfl,?_⟩;replace HM:=HM1;clear HM1))
          have HM1:=cls_ack ((HM.pk (A:=own tInt 3 A2 c2 (addL ys[k].frm f))).pk (A:=hol (tAck 3) 66 A1 c1 ys k [.int .i64 ys[k].index,.slice A2 (addL ys[k].frm f).length c2]))
          replace HM:=HM1;clear HM1
          rw [← e] at HM
          have el : ys.length = (ackA x.acks ix f).length:=by rw [e,List.length_set]
          simp only [el] at HM ⊢
          have hl1:=ackA_len x.acks ix f
          have hl2:=ackA_frm x.acks ix f 1000 has
          rw [show ackL x ix f = advL { x with acks:=ackA x.acks ix f } from rfl]
          obtain ⟨bs,hA⟩ : ∃ bs,bs = ackA x.acks ix f:=⟨_,rfl⟩
          rw [← hA] at HM hl1 hl2 ⊢
          clear e el hA
          repeat (first|(refine qs ?_;clear HM;intro W1 HM)|(refine qf ?_;go_at_call 105;refine (advS { x with acks:=bs } ⟨i.a0,i.a1,i.a2,i.a3,i.a4,i.a5,(A1,c1)⟩ h0 h1 hn (by simp only;omega) (fun a ha=>Nat.le_trans (hl2 a ha) (by omega)) (by exact pk_rec HM)).mono ?_;rintro e2 W2 ⟨j2,rfl,HM1⟩;refine ⟨_,rfl,?_⟩;replace HM:=HM1;clear HM1;simp only [partRcd,List.cons_append,List.nil_append] at HM;simp only [encRcd])|refine Y ?_)
          exact ret_cell HM rfl rfl rfl ⟨j2,rfl,by simp only [partRcd,List.cons_append,List.nil_append];exact HM.sb⟩
    · repeat refine Y ?_
      refine x_two 0 8 (by kernel_rfl) rfl rfl (l':=#[true,true,true,true,true,false,true,true,false,false,true,true,true,true,false,false,false]) (l'':=#[false,true,true,true,true,false,true,true,true,false,true,true,true,true,false,false,false]) (by kernel_rfl) (by kernel_rfl) (x_go ?_) (x_go ?_)
      · repeat (first|(refine qz ?_;clear HM;intro A1 W1 HM)|refine Y ?_)
        refine x_two 5 8 (by kernel_rfl) rfl rfl (l':=#[true,true,true,true,true,true,true,true,false,false,true,true,true,true,false,false,false]) (l'':=#[true,true,true,true,true,false,true,true,true,false,true,true,true,true,false,false,false]) (by kernel_rfl) (by kernel_rfl) (x_go ?_) (x_go ?_)
        · repeat (first|(refine gCall ?_;obtain ⟨F1,hF1⟩:=HM.own (A:=i.a6.1);(first|(have hd:=rdc_take hF1 k;rw [hr1] at hd;refine s_appn (ys:=x.acks.take k) (css:=css.take k) HM rfl rfl rfl rfl hd (by simp only [List.length_take];omega) (by simp only [List.length_take,List.length_drop,List.length_append,List.length_cons,List.length_nil];omega) rfl ?_)|(have hd:=rdc_drop (k:=k) hF1 (by omega) (by omega);rw [hr2] at hd;refine s_appn (ys:=x.acks.drop k) (css:=css.drop k) HM rfl rfl (by first|with_reducible rfl|(simp only [List.length_append,List.length_take,List.length_cons,List.length_nil];omega)) rfl hd (by simp only [List.length_drop];omega) (by simp only [List.length_take,List.length_drop,List.length_append,List.length_cons,List.length_nil];omega) rfl ?_));clear hF1;intro A1 c1 W1 HM1;replace HM:=HM1;clear HM1)|refine Y ?_)
          refine x_one 8 (by kernel_rfl) rfl (l':=#[true,true,true,true,true,true,true,true,true,false,true,true,true,true,false,false,false]) (by kernel_rfl) (x_go ?_)
          repeat (first|(refine qg ?_;clear HM;intro g W1 HM)|refine Y ?_)
          refine x_one 9 (by kernel_rfl) rfl (l':=#[true,true,true,true,true,true,true,true,true,true,true,true,true,true,false,false,false]) (by kernel_rfl) (x_go ?_)
          repeat (first|(refine qa ?_;clear HM;intro A1 c1 W1 HM)|refine Y ?_)
          refine x_one 14 (by kernel_rfl) rfl (l':=#[true,true,true,true,true,true,true,true,true,true,true,true,true,true,true,false,false]) (by kernel_rfl) (x_go ?_)
          repeat (first|(refine gCall ?_;obtain ⟨F1,hF1⟩:=HM.own (A:=i.a6.1);(first|(have hd:=rdc_take hF1 k;rw [hr1] at hd;refine s_appn (ys:=x.acks.take k) (css:=css.take k) HM rfl rfl rfl rfl hd (by simp only [List.length_take];omega) (by simp only [List.length_take,List.length_drop,List.length_append,List.length_cons,List.length_nil];omega) rfl ?_)|(have hd:=rdc_drop (k:=k) hF1 (by omega) (by omega);rw [hr2] at hd;refine s_appn (ys:=x.acks.drop k) (css:=css.drop k) HM rfl rfl (by first|with_reducible rfl|(simp only [List.length_append,List.length_take,List.length_cons,List.length_nil];omega)) rfl hd (by simp only [List.length_drop];omega) (by simp only [List.length_take,List.length_drop,List.length_append,List.length_cons,List.length_nil];omega) rfl ?_));clear hF1;intro A1 c1 W1 HM1;replace HM:=HM1;clear HM1)|refine Y ?_)
          refine x_pv HQ HS 15 rfl (by kernel_rfl) (by kernel_rfl) (l':=#[true,true,true,true,true,true,true,true,true,true,true,true,true,true,true,true,false]) (by kernel_rfl) rfl ?_
          refine Y ?_
          refine x_last 16 (by kernel_rfl) rfl (l':=#[true,true,true,true,true,true,true,true,true,true,true,true,true,true,true,true,true]) (by kernel_rfl) (by kernel_rfl) rfl ?_
          repeat (first|(refine qs ?_;clear HM;intro W1 HM)|refine Y ?_)
          obtain ⟨ys,hy⟩ : ∃ ys : List Ack,ys = [] ++ x.acks.take k ++ [⟨ix,[]⟩] ++ x.acks.drop k:=⟨_,rfl⟩
          rw [← hy] at HM
          obtain ⟨hyl,hya,hys⟩:=ack_ins ⟨ix,[]⟩ hk hy
          have hlk : k < ys.length:=by omega
          have hyk:=hya hlk
          have hfl : ys[k].frm.length ≤ 1000:=by rw [hyk];simp
          replace e : ackA x.acks ix f = ys.set k ⟨ys[k].index,addL ys[k].frm f⟩:=by rw [hys,hyk];exact e
          clear hy hya hys hyk
          obtain ⟨j,HM⟩:=opn_ack (HM.pk (A:=own (tAck 3) 66 A1 c1 ys)) k hlk
          replace HM:=HM.perm (List.Perm.swap ..)
          repeat (first|(refine gR ?_;refine d_startd [13] [(0,0),(0,2),(0,3),(0,5),(0,9),(1,1),(1,4),(0,6),(0,7),(1,8),(2,10),(0,11),(0,12),(3,13)] HM (by kernel_rfl) (by kernel_rfl) qq (by kernel_rfl) rfl ?_;intro HQ HS W1 HM1;replace HM:=HM1;clear HM1)|refine Y ?_|(refine gStore ?_;refine s_storeh HM rfl rfl rfl rfl rfl rfl ?_;clear HM;intro W1 HM;(try dsimp only at HM))|(refine qf ?_;go_at_call 80;refine (addS f (by omega) (by exact HM.pk)).mono ?_;rintro e2 W2 ⟨A2,c2,rfl,HM1⟩;refine ⟨_,rfl,?_⟩;replace HM:=HM1;clear HM1))
          have HM1:=cls_ack ((HM.pk (A:=own tInt 3 A2 c2 (addL ys[k].frm f))).pk (A:=hol (tAck 3) 66 A1 c1 ys k [.int .i64 ys[k].index,.slice A2 (addL ys[k].frm f).length c2]))
          replace HM:=HM1;clear HM1
          rw [← e] at HM
          have el : ys.length = (ackA x.acks ix f).length:=by rw [e,List.length_set]
          simp only [el] at HM ⊢
          have hl1:=ackA_len x.acks ix f
          have hl2:=ackA_frm x.acks ix f 1000 has
          rw [show ackL x ix f = advL { x with acks:=ackA x.acks ix f } from rfl]
          obtain ⟨bs,hA⟩ : ∃ bs,bs = ackA x.acks ix f:=⟨_,rfl⟩
          rw [← hA] at HM hl1 hl2 ⊢
          clear e el hA
          repeat (first|(refine qs ?_;clear HM;intro W1 HM)|(refine qf ?_;go_at_call 105;refine (advS { x with acks:=bs } ⟨i.a0,i.a1,i.a2,i.a3,i.a4,i.a5,(A1,c1)⟩ h0 h1 hn (by simp only;omega) (fun a ha=>Nat.le_trans (hl2 a ha) (by omega)) (by exact pk_rec HM)).mono ?_;rintro e2 W2 ⟨j2,rfl,HM1⟩;refine ⟨_,rfl,?_⟩;replace HM:=HM1;clear HM1;simp only [partRcd,List.cons_append,List.nil_append] at HM;simp only [encRcd])|refine Y ?_)
          exact ret_cell HM rfl rfl rfl ⟨j2,rfl,by simp only [partRcd,List.cons_append,List.nil_append];exact HM.sb⟩
        · repeat (first|(refine qg ?_;clear HM;intro g W1 HM)|refine Y ?_)
          refine x_one 5 (by kernel_rfl) rfl (l':=#[true,true,true,true,true,true,true,true,true,false,true,true,true,true,false,false,false]) (by kernel_rfl) (x_go ?_)
          repeat (first|(refine gCall ?_;obtain ⟨F1,hF1⟩:=HM.own (A:=i.a6.1);(first|(have hd:=rdc_take hF1 k;rw [hr1] at hd;refine s_appn (ys:=x.acks.take k) (css:=css.take k) HM rfl rfl rfl rfl hd (by simp only [List.length_take];omega) (by simp only [List.length_take,List.length_drop,List.length_append,List.length_cons,List.length_nil];omega) rfl ?_)|(have hd:=rdc_drop (k:=k) hF1 (by omega) (by omega);rw [hr2] at hd;refine s_appn (ys:=x.acks.drop k) (css:=css.drop k) HM rfl rfl (by first|with_reducible rfl|(simp only [List.length_append,List.length_take,List.length_cons,List.length_nil];omega)) rfl hd (by simp only [List.length_drop];omega) (by simp only [List.length_take,List.length_drop,List.length_append,List.length_cons,List.length_nil];omega) rfl ?_));clear hF1;intro A1 c1 W1 HM1;replace HM:=HM1;clear HM1)|refine Y ?_)
          refine x_one 9 (by kernel_rfl) rfl (l':=#[true,true,true,true,true,true,true,true,true,true,true,true,true,true,false,false,false]) (by kernel_rfl) (x_go ?_)
          repeat (first|(refine qa ?_;clear HM;intro A1 c1 W1 HM)|refine Y ?_)
          refine x_one 14 (by kernel_rfl) rfl (l':=#[true,true,true,true,true,true,true,true,true,true,true,true,true,true,true,false,false]) (by kernel_rfl) (x_go ?_)
          repeat (first|(refine gCall ?_;obtain ⟨F1,hF1⟩:=HM.own (A:=i.a6.1);(first|(have hd:=rdc_take hF1 k;rw [hr1] at hd;refine s_appn (ys:=x.acks.take k) (css:=css.take k) HM rfl rfl rfl rfl hd (by simp only [List.length_take];omega) (by simp only [List.length_take,List.length_drop,List.length_append,List.length_cons,List.length_nil];omega) rfl ?_)|(have hd:=rdc_drop (k:=k) hF1 (by omega) (by omega);rw [hr2] at hd;refine s_appn (ys:=x.acks.drop k) (css:=css.drop k) HM rfl rfl (by first|with_reducible rfl|(simp only [List.length_append,List.length_take,List.length_cons,List.length_nil];omega)) rfl hd (by simp only [List.length_drop];omega) (by simp only [List.length_take,List.length_drop,List.length_append,List.length_cons,List.length_nil];omega) rfl ?_));clear hF1;intro A1 c1 W1 HM1;replace HM:=HM1;clear HM1)|refine Y ?_)
          refine x_pv HQ HS 15 rfl (by kernel_rfl) (by kernel_rfl) (l':=#[true,true,true,true,true,true,true,true,true,true,true,true,true,true,true,true,false]) (by kernel_rfl) rfl ?_
          refine Y ?_
          refine x_last 16 (by kernel_rfl) rfl (l':=#[true,true,true,true,true,true,true,true,true,true,true,true,true,true,true,true,true]) (by kernel_rfl) (by kernel_rfl) rfl ?_
          repeat (first|(refine qs ?_;clear HM;intro W1 HM)|refine Y ?_)
          obtain ⟨ys,hy⟩ : ∃ ys : List Ack,ys = [] ++ x.acks.take k ++ [⟨ix,[]⟩] ++ x.acks.drop k:=⟨_,rfl⟩
          rw [← hy] at HM
          obtain ⟨hyl,hya,hys⟩:=ack_ins ⟨ix,[]⟩ hk hy
          have hlk : k < ys.length:=by omega
          have hyk:=hya hlk
          have hfl : ys[k].frm.length ≤ 1000:=by rw [hyk];simp
          replace e : ackA x.acks ix f = ys.set k ⟨ys[k].index,addL ys[k].frm f⟩:=by rw [hys,hyk];exact e
          clear hy hya hys hyk
          obtain ⟨j,HM⟩:=opn_ack (HM.pk (A:=own (tAck 3) 66 A1 c1 ys)) k hlk
          replace HM:=HM.perm (List.Perm.swap ..)
          repeat (first|(refine gR ?_;refine d_startd [13] [(0,0),(0,2),(0,3),(0,5),(0,9),(1,1),(1,4),(0,6),(0,7),(1,8),(2,10),(0,11),(0,12),(3,13)] HM (by kernel_rfl) (by kernel_rfl) qq (by kernel_rfl) rfl ?_;intro HQ HS W1 HM1;replace HM:=HM1;clear HM1)|refine Y ?_|(refine gStore ?_;refine s_storeh HM rfl rfl rfl rfl rfl rfl ?_;clear HM;intro W1 HM;(try dsimp only at HM))|(refine qf ?_;go_at_call 80;refine (addS f (by omega) (by exact HM.pk)).mono ?_;rintro e2 W2 ⟨A2,c2,rfl,HM1⟩;refine ⟨_,rfl,?_⟩;replace HM:=HM1;clear HM1))
          have HM1:=cls_ack ((HM.pk (A:=own tInt 3 A2 c2 (addL ys[k].frm f))).pk (A:=hol (tAck 3) 66 A1 c1 ys k [.int .i64 ys[k].index,.slice A2 (addL ys[k].frm f).length c2]))
          replace HM:=HM1;clear HM1
          rw [← e] at HM
          have el : ys.length = (ackA x.acks ix f).length:=by rw [e,List.length_set]
          simp only [el] at HM ⊢
          have hl1:=ackA_len x.acks ix f
          have hl2:=ackA_frm x.acks ix f 1000 has
          rw [show ackL x ix f = advL { x with acks:=ackA x.acks ix f } from rfl]
          obtain ⟨bs,hA⟩ : ∃ bs,bs = ackA x.acks ix f:=⟨_,rfl⟩
          rw [← hA] at HM hl1 hl2 ⊢
          clear e el hA
          repeat (first|(refine qs ?_;clear HM;intro W1 HM)|(refine qf ?_;go_at_call 105;refine (advS { x with acks:=bs } ⟨i.a0,i.a1,i.a2,i.a3,i.a4,i.a5,(A1,c1)⟩ h0 h1 hn (by simp only;omega) (fun a ha=>Nat.le_trans (hl2 a ha) (by omega)) (by exact pk_rec HM)).mono ?_;rintro e2 W2 ⟨j2,rfl,HM1⟩;refine ⟨_,rfl,?_⟩;replace HM:=HM1;clear HM1;simp only [partRcd,List.cons_append,List.nil_append] at HM;simp only [encRcd])|refine Y ?_)
          exact ret_cell HM rfl rfl rfl ⟨j2,rfl,by simp only [partRcd,List.cons_append,List.nil_append];exact HM.sb⟩
      · repeat (first|(refine qg ?_;clear HM;intro g W1 HM)|refine Y ?_)
        refine x_one 0 (by kernel_rfl) rfl (l':=#[true,true,true,true,true,false,true,true,true,false,true,true,true,true,false,false,false]) (by kernel_rfl) (x_go ?_)
        repeat (first|(refine qz ?_;clear HM;intro A1 W1 HM)|refine Y ?_)
        refine x_one 5 (by kernel_rfl) rfl (l':=#[true,true,true,true,true,true,true,true,true,false,true,true,true,true,false,false,false]) (by kernel_rfl) (x_go ?_)
        repeat (first|(refine gCall ?_;obtain ⟨F1,hF1⟩:=HM.own (A:=i.a6.1);(first|(have hd:=rdc_take hF1 k;rw [hr1] at hd;refine s_appn (ys:=x.acks.take k) (css:=css.take k) HM rfl rfl rfl rfl hd (by simp only [List.length_take];omega) (by simp only [List.length_take,List.length_drop,List.length_append,List.length_cons,List.length_nil];omega) rfl ?_)|(have hd:=rdc_drop (k:=k) hF1 (by omega) (by omega);rw [hr2] at hd;refine s_appn (ys:=x.acks.drop k) (css:=css.drop k) HM rfl rfl (by first|with_reducible rfl|(simp only [List.length_append,List.length_take,List.length_cons,List.length_nil];omega)) rfl hd (by simp only [List.length_drop];omega) (by simp only [List.length_take,List.length_drop,List.length_append,List.length_cons,List.length_nil];omega) rfl ?_));clear hF1;intro A1 c1 W1 HM1;replace HM:=HM1;clear HM1)|refine Y ?_)
        refine x_one 9 (by kernel_rfl) rfl (l':=#[true,true,true,true,true,true,true,true,true,true,true,true,true,true,false,false,false]) (by kernel_rfl) (x_go ?_)
        repeat (first|(refine qa ?_;clear HM;intro A1 c1 W1 HM)|refine Y ?_)
        refine x_one 14 (by kernel_rfl) rfl (l':=#[true,true,true,true,true,true,true,true,true,true,true,true,true,true,true,false,false]) (by kernel_rfl) (x_go ?_)
        repeat (first|(refine gCall ?_;obtain ⟨F1,hF1⟩:=HM.own (A:=i.a6.1);(first|(have hd:=rdc_take hF1 k;rw [hr1] at hd;refine s_appn (ys:=x.acks.take k) (css:=css.take k) HM rfl rfl rfl rfl hd (by simp only [List.length_take];omega) (by simp only [List.length_take,List.length_drop,List.length_append,List.length_cons,List.length_nil];omega) rfl ?_)|(have hd:=rdc_drop (k:=k) hF1 (by omega) (by omega);rw [hr2] at hd;refine s_appn (ys:=x.acks.drop k) (css:=css.drop k) HM rfl rfl (by first|with_reducible rfl|(simp only [List.length_append,List.length_take,List.length_cons,List.length_nil];omega)) rfl hd (by simp only [List.length_drop];omega) (by simp only [List.length_take,List.length_drop,List.length_append,List.length_cons,List.length_nil];omega) rfl ?_));clear hF1;intro A1 c1 W1 HM1;replace HM:=HM1;clear HM1)|refine Y ?_)
        refine x_pv HQ HS 15 rfl (by kernel_rfl) (by kernel_rfl) (l':=#[true,true,true,true,true,true,true,true,true,true,true,true,true,true,true,true,false]) (by kernel_rfl) rfl ?_
        refine Y ?_
        refine x_last 16 (by kernel_rfl) rfl (l':=#[true,true,true,true,true,true,true,true,true,true,true,true,true,true,true,true,true]) (by kernel_rfl) (by kernel_rfl) rfl ?_
        repeat (first|(refine qs ?_;clear HM;intro W1 HM)|refine Y ?_)
        obtain ⟨ys,hy⟩ : ∃ ys : List Ack,ys = [] ++ x.acks.take k ++ [⟨ix,[]⟩] ++ x.acks.drop k:=⟨_,rfl⟩
        rw [← hy] at HM
        obtain ⟨hyl,hya,hys⟩:=ack_ins ⟨ix,[]⟩ hk hy
        have hlk : k < ys.length:=by omega
        have hyk:=hya hlk
        have hfl : ys[k].frm.length ≤ 1000:=by rw [hyk];simp
        replace e : ackA x.acks ix f = ys.set k ⟨ys[k].index,addL ys[k].frm f⟩:=by rw [hys,hyk];exact e
        clear hy hya hys hyk
        obtain ⟨j,HM⟩:=opn_ack (HM.pk (A:=own (tAck 3) 66 A1 c1 ys)) k hlk
        replace HM:=HM.perm (List.Perm.swap ..)
        repeat (first|(refine gR ?_;refine d_startd [13] [(0,0),(0,2),(0,3),(0,5),(0,9),(1,1),(1,4),(0,6),(0,7),(1,8),(2,10),(0,11),(0,12),(3,13)] HM (by kernel_rfl) (by kernel_rfl) qq (by kernel_rfl) rfl ?_;intro HQ HS W1 HM1;replace HM:=HM1;clear HM1)|refine Y ?_|(refine gStore ?_;refine s_storeh HM rfl rfl rfl rfl rfl rfl ?_;clear HM;intro W1 HM;(try dsimp only at HM))|(refine qf ?_;go_at_call 80;refine (addS f (by omega) (by exact HM.pk)).mono ?_;rintro e2 W2 ⟨A2,c2,rfl,HM1⟩;refine ⟨_,rfl,?_⟩;replace HM:=HM1;clear HM1))
        have HM1:=cls_ack ((HM.pk (A:=own tInt 3 A2 c2 (addL ys[k].frm f))).pk (A:=hol (tAck 3) 66 A1 c1 ys k [.int .i64 ys[k].index,.slice A2 (addL ys[k].frm f).length c2]))
        replace HM:=HM1;clear HM1
        rw [← e] at HM
        have el : ys.length = (ackA x.acks ix f).length:=by rw [e,List.length_set]
        simp only [el] at HM ⊢
        have hl1:=ackA_len x.acks ix f
        have hl2:=ackA_frm x.acks ix f 1000 has
        rw [show ackL x ix f = advL { x with acks:=ackA x.acks ix f } from rfl]
        obtain ⟨bs,hA⟩ : ∃ bs,bs = ackA x.acks ix f:=⟨_,rfl⟩
        rw [← hA] at HM hl1 hl2 ⊢
        clear e el hA
        repeat (first|(refine qs ?_;clear HM;intro W1 HM)|(refine qf ?_;go_at_call 105;refine (advS { x with acks:=bs } ⟨i.a0,i.a1,i.a2,i.a3,i.a4,i.a5,(A1,c1)⟩ h0 h1 hn (by simp only;omega) (fun a ha=>Nat.le_trans (hl2 a ha) (by omega)) (by exact pk_rec HM)).mono ?_;rintro e2 W2 ⟨j2,rfl,HM1⟩;refine ⟨_,rfl,?_⟩;replace HM:=HM1;clear HM1;simp only [partRcd,List.cons_append,List.nil_append] at HM;simp only [encRcd])|refine Y ?_)
        exact ret_cell HM rfl rfl rfl ⟨j2,rfl,by simp only [partRcd,List.cons_append,List.nil_append];exact HM.sb⟩
  · obtain rfl : k = x.acks.length:=by omega
    have e:=ackA_new (f:=f) (Nat.le_refl _) hp (fun h=>by omega)
    repeat refine Y ?_
    obtain ⟨css,hcl,HM⟩:=opn_at x.acks.length (HM.pk (A:=own (tAck 3) 66 i.a6.1 i.a6.2 x.acks))
    have hr1 : (css.take x.acks.length).length = (x.acks.take x.acks.length).length:=by simp only [List.length_take,hcl]
    have hr2 : (css.drop x.acks.length).length = (x.acks.drop x.acks.length).length:=by simp only [List.length_drop,hcl]
    have htk : (x.acks.take x.acks.length).length = x.acks.length:=by simp only [List.length_take];omega
    refine gR ?_
    refine x_start (ds:=[16]) HM (fun w hw=>hw.drop.drop) (by kernel_rfl) (by kernel_rfl) qq ?_
    intro HQ HS W1 HM1;replace HM:=HM1;clear HM1
    refine x_pv HQ HS 1 rfl (by kernel_rfl) (by kernel_rfl) (l':=#[false,true,false,false,false,false,false,false,false,false,false,false,false,false,false,false,false]) (by kernel_rfl) rfl ?_
    refine Y ?_
    refine x_pv HQ HS 3 rfl (by kernel_rfl) (by kernel_rfl) (l':=#[false,true,false,true,false,false,false,false,false,false,false,false,false,false,false,false,false]) (by kernel_rfl) rfl ?_
    refine Y ?_
    refine x_pv HQ HS 6 rfl (by kernel_rfl) (by kernel_rfl) (l':=#[false,true,false,true,false,false,true,false,false,false,false,false,false,false,false,false,false]) (by kernel_rfl) rfl ?_
    refine Y ?_
    refine x_pv HQ HS 10 rfl (by kernel_rfl) (by kernel_rfl) (l':=#[false,true,false,true,false,false,true,false,false,false,true,false,false,false,false,false,false]) (by kernel_rfl) rfl ?_
    refine Y ?_
    refine x_pv HQ HS 12 rfl (by kernel_rfl) (by kernel_rfl) (l':=#[false,true,false,true,false,false,true,false,false,false,true,false,true,false,false,false,false]) (by kernel_rfl) rfl ?_
    refine Y ?_
    refine x_ld HQ HS 2 rfl (by kernel_rfl) (by kernel_rfl) (by kernel_rfl) (by kernel_rfl) (l':=#[false,true,true,true,false,false,true,false,false,false,true,false,true,false,false,false,false]) (by kernel_rfl) rfl ?_
    refine Y ?_
    refine x_pv HQ HS 4 rfl (by kernel_rfl) (by kernel_rfl) (l':=#[false,true,true,true,true,false,true,false,false,false,true,false,true,false,false,false,false]) (by kernel_rfl) rfl ?_
    refine Y ?_
    refine x_ld HQ HS 11 rfl (by kernel_rfl) (by kernel_rfl) (by kernel_rfl) (by kernel_rfl) (l':=#[false,true,true,true,true,false,true,false,false,false,true,true,true,false,false,false,false]) (by kernel_rfl) rfl ?_
    refine Y ?_
    refine x_pv HQ HS 13 rfl (by kernel_rfl) (by kernel_rfl) (l':=#[false,true,true,true,true,false,true,false,false,false,true,true,true,true,false,false,false]) (by kernel_rfl) rfl ?_
    refine Y ?_
    refine x_two 0 7 (by kernel_rfl) rfl rfl (l':=#[true,true,true,true,true,false,true,false,false,false,true,true,true,true,false,false,false]) (l'':=#[false,true,true,true,true,false,true,true,false,false,true,true,true,true,false,false,false]) (by kernel_rfl) (by kernel_rfl) (x_go ?_) (x_go ?_)
    · repeat (first|(refine qz ?_;clear HM;intro A1 W1 HM)|refine Y ?_)
      refine x_two 5 7 (by kernel_rfl) rfl rfl (l':=#[true,true,true,true,true,true,true,false,false,false,true,true,true,true,false,false,false]) (l'':=#[true,true,true,true,true,false,true,true,false,false,true,true,true,true,false,false,false]) (by kernel_rfl) (by kernel_rfl) (x_go ?_) (x_go ?_)
      · repeat (first|(refine gCall ?_;obtain ⟨F1,hF1⟩:=HM.own (A:=i.a6.1);(first|(have hd:=rdc_take hF1 x.acks.length;rw [hr1] at hd;refine s_appn (ys:=x.acks.take x.acks.length) (css:=css.take x.acks.length) HM rfl rfl rfl rfl hd (by simp only [List.length_take];omega) (by simp only [List.length_take,List.length_drop,List.length_append,List.length_cons,List.length_nil];omega) rfl ?_)|(have hd:=rdc_drop (k:=x.acks.length) hF1 (by omega) (by omega);rw [hr2] at hd;refine s_appn (ys:=x.acks.drop x.acks.length) (css:=css.drop x.acks.length) HM rfl rfl (by first|with_reducible rfl|(simp only [List.length_append,List.length_take,List.length_cons,List.length_nil];omega)) rfl hd (by simp only [List.length_drop];omega) (by simp only [List.length_take,List.length_drop,List.length_append,List.length_cons,List.length_nil];omega) rfl ?_));clear hF1;intro A1 c1 W1 HM1;replace HM:=HM1;clear HM1)|refine Y ?_)
        refine x_one 7 (by kernel_rfl) rfl (l':=#[true,true,true,true,true,true,true,true,false,false,true,true,true,true,false,false,false]) (by kernel_rfl) (x_go ?_)
        repeat refine Y ?_
        refine x_one 8 (by kernel_rfl) rfl (l':=#[true,true,true,true,true,true,true,true,true,false,true,true,true,true,false,false,false]) (by kernel_rfl) (x_go ?_)
        repeat (first|(refine qg ?_;clear HM;intro g W1 HM)|refine Y ?_)
        refine x_one 9 (by kernel_rfl) rfl (l':=#[true,true,true,true,true,true,true,true,true,true,true,true,true,true,false,false,false]) (by kernel_rfl) (x_go ?_)
        repeat (first|(refine qa ?_;clear HM;intro A1 c1 W1 HM)|refine Y ?_)
        refine x_one 14 (by kernel_rfl) rfl (l':=#[true,true,true,true,true,true,true,true,true,true,true,true,true,true,true,false,false]) (by kernel_rfl) (x_go ?_)
        repeat (first|(refine gCall ?_;obtain ⟨F1,hF1⟩:=HM.own (A:=i.a6.1);(first|(have hd:=rdc_take hF1 x.acks.length;rw [hr1] at hd;refine s_appn (ys:=x.acks.take x.acks.length) (css:=css.take x.acks.length) HM rfl rfl rfl rfl hd (by simp only [List.length_take];omega) (by simp only [List.length_take,List.length_drop,List.length_append,List.length_cons,List.length_nil];omega) rfl ?_)|(have hd:=rdc_drop (k:=x.acks.length) hF1 (by omega) (by omega);rw [hr2] at hd;refine s_appn (ys:=x.acks.drop x.acks.length) (css:=css.drop x.acks.length) HM rfl rfl (by first|with_reducible rfl|(simp only [List.length_append,List.length_take,List.length_cons,List.length_nil];omega)) rfl hd (by simp only [List.length_drop];omega) (by simp only [List.length_take,List.length_drop,List.length_append,List.length_cons,List.length_nil];omega) rfl ?_));clear hF1;intro A1 c1 W1 HM1;replace HM:=HM1;clear HM1)|refine Y ?_)
        refine x_pv HQ HS 15 rfl (by kernel_rfl) (by kernel_rfl) (l':=#[true,true,true,true,true,true,true,true,true,true,true,true,true,true,true,true,false]) (by kernel_rfl) rfl ?_
        refine Y ?_
        refine x_last 16 (by kernel_rfl) rfl (l':=#[true,true,true,true,true,true,true,true,true,true,true,true,true,true,true,true,true]) (by kernel_rfl) (by kernel_rfl) rfl ?_
        repeat (first|(refine qs ?_;clear HM;intro W1 HM)|refine Y ?_)
        obtain ⟨ys,hy⟩ : ∃ ys : List Ack,ys = [] ++ x.acks.take x.acks.length ++ [⟨ix,[]⟩] ++ x.acks.drop x.acks.length:=⟨_,rfl⟩
        rw [← hy] at HM
        obtain ⟨hyl,hya,hys⟩:=ack_ins ⟨ix,[]⟩ hk hy
        have hlk : x.acks.length < ys.length:=by omega
        have hyk:=hya hlk
        have hfl : ys[x.acks.length].frm.length ≤ 1000:=by rw [hyk];simp
        replace e : ackA x.acks ix f = ys.set x.acks.length ⟨ys[x.acks.length].index,addL ys[x.acks.length].frm f⟩:=by rw [hys,hyk];exact e
        clear hy hya hys hyk
        obtain ⟨j,HM⟩:=opn_ack (HM.pk (A:=own (tAck 3) 66 A1 c1 ys)) x.acks.length hlk
        replace HM:=HM.perm (List.Perm.swap ..)
        repeat (first|(refine gR ?_;refine d_startd [13] [(0,0),(0,2),(0,3),(0,5),(0,9),(1,1),(1,4),(0,6),(0,7),(1,8),(2,10),(0,11),(0,12),(3,13)] HM (by kernel_rfl) (by kernel_rfl) qq (by kernel_rfl) rfl ?_;intro HQ HS W1 HM1;replace HM:=HM1;clear HM1)|refine Y ?_|(refine gStore ?_;refine s_storeh HM rfl rfl rfl rfl rfl rfl ?_;clear HM;intro W1 HM;(try dsimp only at HM))|(refine qf ?_;go_at_call 80;refine (addS f (by omega) (by exact HM.pk)).mono ?_;rintro e2 W2 ⟨A2,c2,rfl,HM1⟩;refine ⟨_,rfl,?_⟩;replace HM:=HM1;clear HM1))
        have HM1:=cls_ack ((HM.pk (A:=own tInt 3 A2 c2 (addL ys[x.acks.length].frm f))).pk (A:=hol (tAck 3) 66 A1 c1 ys x.acks.length [.int .i64 ys[x.acks.length].index,.slice A2 (addL ys[x.acks.length].frm f).length c2]))
        replace HM:=HM1;clear HM1
        rw [← e] at HM
        have el : ys.length = (ackA x.acks ix f).length:=by rw [e,List.length_set]
        simp only [el] at HM ⊢
        have hl1:=ackA_len x.acks ix f
        have hl2:=ackA_frm x.acks ix f 1000 has
        rw [show ackL x ix f = advL { x with acks:=ackA x.acks ix f } from rfl]
        obtain ⟨bs,hA⟩ : ∃ bs,bs = ackA x.acks ix f:=⟨_,rfl⟩
        rw [← hA] at HM hl1 hl2 ⊢
        clear e el hA
        repeat (first|(refine qs ?_;clear HM;intro W1 HM)|(refine qf ?_;go_at_call 105;refine (advS { x with acks:=bs } ⟨i.a0,i.a1,i.a2,i.a3,i.a4,i.a5,(A1,c1)⟩ h0 h1 hn (by simp only;omega) (fun a ha=>Nat.le_trans (hl2 a ha) (by omega)) (by exact pk_rec HM)).mono ?_;rintro e2 W2 ⟨j2,rfl,HM1⟩;refine ⟨_,rfl,?_⟩;replace HM:=HM1;clear HM1;simp only [partRcd,List.cons_append,List.nil_append] at HM;simp only [encRcd])|refine Y ?_)
        exact ret_cell HM rfl rfl rfl ⟨j2,rfl,by simp only [partRcd,List.cons_append,List.nil_append];exact HM.sb⟩
      · repeat refine Y ?_
        refine x_two 5 8 (by kernel_rfl) rfl rfl (l':=#[true,true,true,true,true,true,true,true,false,false,true,true,true,true,false,false,false]) (l'':=#[true,true,true,true,true,false,true,true,true,false,true,true,true,true,false,false,false]) (by kernel_rfl) (by kernel_rfl) (x_go ?_) (x_go ?_)
        · repeat (first|(refine gCall ?_;obtain ⟨F1,hF1⟩:=HM.own (A:=i.a6.1);(first|(have hd:=rdc_take hF1 x.acks.length;rw [hr1] at hd;refine s_appn (ys:=x.acks.take x.acks.length) (css:=css.take x.acks.length) HM rfl rfl rfl rfl hd (by simp only [List.length_take];omega) (by simp only [List.length_take,List.length_drop,List.length_append,List.length_cons,List.length_nil];omega) rfl ?_)|(have hd:=rdc_drop (k:=x.acks.length) hF1 (by omega) (by omega);rw [hr2] at hd;refine s_appn (ys:=x.acks.drop x.acks.length) (css:=css.drop x.acks.length) HM rfl rfl (by first|with_reducible rfl|(simp only [List.length_append,List.length_take,List.length_cons,List.length_nil];omega)) rfl hd (by simp only [List.length_drop];omega) (by simp only [List.length_take,List.length_drop,List.length_append,List.length_cons,List.length_nil];omega) rfl ?_));clear hF1;intro A1 c1 W1 HM1;replace HM:=HM1;clear HM1)|refine Y ?_)
          refine x_one 8 (by kernel_rfl) rfl (l':=#[true,true,true,true,true,true,true,true,true,false,true,true,true,true,false,false,false]) (by kernel_rfl) (x_go ?_)
          repeat (first|(refine qg ?_;clear HM;intro g W1 HM)|refine Y ?_)
          refine x_one 9 (by kernel_rfl) rfl (l':=#[true,true,true,true,true,true,true,true,true,true,true,true,true,true,false,false,false]) (by kernel_rfl) (x_go ?_)
          repeat (first|(refine qa ?_;clear HM;intro A1 c1 W1 HM)|refine Y ?_)
          refine x_one 14 (by kernel_rfl) rfl (l':=#[true,true,true,true,true,true,true,true,true,true,true,true,true,true,true,false,false]) (by kernel_rfl) (x_go ?_)
          repeat (first|(refine gCall ?_;obtain ⟨F1,hF1⟩:=HM.own (A:=i.a6.1);(first|(have hd:=rdc_take hF1 x.acks.length;rw [hr1] at hd;refine s_appn (ys:=x.acks.take x.acks.length) (css:=css.take x.acks.length) HM rfl rfl rfl rfl hd (by simp only [List.length_take];omega) (by simp only [List.length_take,List.length_drop,List.length_append,List.length_cons,List.length_nil];omega) rfl ?_)|(have hd:=rdc_drop (k:=x.acks.length) hF1 (by omega) (by omega);rw [hr2] at hd;refine s_appn (ys:=x.acks.drop x.acks.length) (css:=css.drop x.acks.length) HM rfl rfl (by first|with_reducible rfl|(simp only [List.length_append,List.length_take,List.length_cons,List.length_nil];omega)) rfl hd (by simp only [List.length_drop];omega) (by simp only [List.length_take,List.length_drop,List.length_append,List.length_cons,List.length_nil];omega) rfl ?_));clear hF1;intro A1 c1 W1 HM1;replace HM:=HM1;clear HM1)|refine Y ?_)
          refine x_pv HQ HS 15 rfl (by kernel_rfl) (by kernel_rfl) (l':=#[true,true,true,true,true,true,true,true,true,true,true,true,true,true,true,true,false]) (by kernel_rfl) rfl ?_
          refine Y ?_
          refine x_last 16 (by kernel_rfl) rfl (l':=#[true,true,true,true,true,true,true,true,true,true,true,true,true,true,true,true,true]) (by kernel_rfl) (by kernel_rfl) rfl ?_
          repeat (first|(refine qs ?_;clear HM;intro W1 HM)|refine Y ?_)
          obtain ⟨ys,hy⟩ : ∃ ys : List Ack,ys = [] ++ x.acks.take x.acks.length ++ [⟨ix,[]⟩] ++ x.acks.drop x.acks.length:=⟨_,rfl⟩
          rw [← hy] at HM
          obtain ⟨hyl,hya,hys⟩:=ack_ins ⟨ix,[]⟩ hk hy
          have hlk : x.acks.length < ys.length:=by omega
          have hyk:=hya hlk
          have hfl : ys[x.acks.length].frm.length ≤ 1000:=by rw [hyk];simp
          replace e : ackA x.acks ix f = ys.set x.acks.length ⟨ys[x.acks.length].index,addL ys[x.acks.length].frm f⟩:=by rw [hys,hyk];exact e
          clear hy hya hys hyk
          obtain ⟨j,HM⟩:=opn_ack (HM.pk (A:=own (tAck 3) 66 A1 c1 ys)) x.acks.length hlk
          replace HM:=HM.perm (List.Perm.swap ..)
          repeat (first|(refine gR ?_;refine d_startd [13] [(0,0),(0,2),(0,3),(0,5),(0,9),(1,1),(1,4),(0,6),(0,7),(1,8),(2,10),(0,11),(0,12),(3,13)] HM (by kernel_rfl) (by kernel_rfl) qq (by kernel_rfl) rfl ?_;intro HQ HS W1 HM1;replace HM:=HM1;clear HM1)|refine Y ?_|(refine gStore ?_;refine s_storeh HM rfl rfl rfl rfl rfl rfl ?_;clear HM;intro W1 HM;(try dsimp only at HM))|(refine qf ?_;go_at_call 80;refine (addS f (by omega) (by exact HM.pk)).mono ?_;rintro e2 W2 ⟨A2,c2,rfl,HM1⟩;refine ⟨_,rfl,?_⟩;replace HM:=HM1;clear HM1))
          have HM1:=cls_ack ((HM.pk (A:=own tInt 3 A2 c2 (addL ys[x.acks.length].frm f))).pk (A:=hol (tAck 3) 66 A1 c1 ys x.acks.length [.int .i64 ys[x.acks.length].index,.slice A2 (addL ys[x.acks.length].frm f).length c2]))
          replace HM:=HM1;clear HM1
          rw [← e] at HM
          have el : ys.length = (ackA x.acks ix f).length:=by rw [e,List.length_set]
          simp only [el] at HM ⊢
          have hl1:=ackA_len x.acks ix f
          have hl2:=ackA_frm x.acks ix f 1000 has
          rw [show ackL x ix f = advL { x with acks:=ackA x.acks ix f } from rfl]
          obtain ⟨bs,hA⟩ : ∃ bs,bs = ackA x.acks ix f:=⟨_,rfl⟩
          rw [← hA] at HM hl1 hl2 ⊢
          clear e el hA
          repeat (first|(refine qs ?_;clear HM;intro W1 HM)|(refine qf ?_;go_at_call 105;refine (advS { x with acks:=bs } ⟨i.a0,i.a1,i.a2,i.a3,i.a4,i.a5,(A1,c1)⟩ h0 h1 hn (by simp only;omega) (fun a ha=>Nat.le_trans (hl2 a ha) (by omega)) (by exact pk_rec HM)).mono ?_;rintro e2 W2 ⟨j2,rfl,HM1⟩;refine ⟨_,rfl,?_⟩;replace HM:=HM1;clear HM1;simp only [partRcd,List.cons_append,List.nil_append] at HM;simp only [encRcd])|refine Y ?_)
          exact ret_cell HM rfl rfl rfl ⟨j2,rfl,by simp only [partRcd,List.cons_append,List.nil_append];exact HM.sb⟩
        · repeat (first|(refine qg ?_;clear HM;intro g W1 HM)|refine Y ?_)
          refine x_one 5 (by kernel_rfl) rfl (l':=#[true,true,true,true,true,true,true,true,true,false,true,true,true,true,false,false,false]) (by kernel_rfl) (x_go ?_)
          repeat (first|(refine gCall ?_;obtain ⟨F1,hF1⟩:=HM.own (A:=i.a6.1);(first|(have hd:=rdc_take hF1 x.acks.length;rw [hr1] at hd;refine s_appn (ys:=x.acks.take x.acks.length) (css:=css.take x.acks.length) HM rfl rfl rfl rfl hd (by simp only [List.length_take];omega) (by simp only [List.length_take,List.length_drop,List.length_append,List.length_cons,List.length_nil];omega) rfl ?_)|(have hd:=rdc_drop (k:=x.acks.length) hF1 (by omega) (by omega);rw [hr2] at hd;refine s_appn (ys:=x.acks.drop x.acks.length) (css:=css.drop x.acks.length) HM rfl rfl (by first|with_reducible rfl|(simp only [List.length_append,List.length_take,List.length_cons,List.length_nil];omega)) rfl hd (by simp only [List.length_drop];omega) (by simp only [List.length_take,List.length_drop,List.length_append,List.length_cons,List.length_nil];omega) rfl ?_));clear hF1;intro A1 c1 W1 HM1;replace HM:=HM1;clear HM1)|refine Y ?_)
          refine x_one 9 (by kernel_rfl) rfl (l':=#[true,true,true,true,true,true,true,true,true,true,true,true,true,true,false,false,false]) (by kernel_rfl) (x_go ?_)
          repeat (first|(refine qa ?_;clear HM;intro A1 c1 W1 HM)|refine Y ?_)
          refine x_one 14 (by kernel_rfl) rfl (l':=#[true,true,true,true,true,true,true,true,true,true,true,true,true,true,true,false,false]) (by kernel_rfl) (x_go ?_)
          repeat (first|(refine gCall ?_;obtain ⟨F1,hF1⟩:=HM.own (A:=i.a6.1);(first|(have hd:=rdc_take hF1 x.acks.length;rw [hr1] at hd;refine s_appn (ys:=x.acks.take x.acks.length) (css:=css.take x.acks.length) HM rfl rfl rfl rfl hd (by simp only [List.length_take];omega) (by simp only [List.length_take,List.length_drop,List.length_append,List.length_cons,List.length_nil];omega) rfl ?_)|(have hd:=rdc_drop (k:=x.acks.length) hF1 (by omega) (by omega);rw [hr2] at hd;refine s_appn (ys:=x.acks.drop x.acks.length) (css:=css.drop x.acks.length) HM rfl rfl (by first|with_reducible rfl|(simp only [List.length_append,List.length_take,List.length_cons,List.length_nil];omega)) rfl hd (by simp only [List.length_drop];omega) (by simp only [List.length_take,List.length_drop,List.length_append,List.length_cons,List.length_nil];omega) rfl ?_));clear hF1;intro A1 c1 W1 HM1;replace HM:=HM1;clear HM1)|refine Y ?_)
          refine x_pv HQ HS 15 rfl (by kernel_rfl) (by kernel_rfl) (l':=#[true,true,true,true,true,true,true,true,true,true,true,true,true,true,true,true,false]) (by kernel_rfl) rfl ?_
          refine Y ?_
          refine x_last 16 (by kernel_rfl) rfl (l':=#[true,true,true,true,true,true,true,true,true,true,true,true,true,true,true,true,true]) (by kernel_rfl) (by kernel_rfl) rfl ?_
          repeat (first|(refine qs ?_;clear HM;intro W1 HM)|refine Y ?_)
          obtain ⟨ys,hy⟩ : ∃ ys : List Ack,ys = [] ++ x.acks.take x.acks.length ++ [⟨ix,[]⟩] ++ x.acks.drop x.acks.length:=⟨_,rfl⟩
          rw [← hy] at HM
          obtain ⟨hyl,hya,hys⟩:=ack_ins ⟨ix,[]⟩ hk hy
          have hlk : x.acks.length < ys.length:=by omega
          have hyk:=hya hlk
          have hfl : ys[x.acks.length].frm.length ≤ 1000:=by rw [hyk];simp
          replace e : ackA x.acks ix f = ys.set x.acks.length ⟨ys[x.acks.length].index,addL ys[x.acks.length].frm f⟩:=by rw [hys,hyk];exact e
          clear hy hya hys hyk
          obtain ⟨j,HM⟩:=opn_ack (HM.pk (A:=own (tAck 3) 66 A1 c1 ys)) x.acks.length hlk
          replace HM:=HM.perm (List.Perm.swap ..)
          repeat (first|(refine gR ?_;refine d_startd [13] [(0,0),(0,2),(0,3),(0,5),(0,9),(1,1),(1,4),(0,6),(0,7),(1,8),(2,10),(0,11),(0,12),(3,13)] HM (by kernel_rfl) (by kernel_rfl) qq (by kernel_rfl) rfl ?_;intro HQ HS W1 HM1;replace HM:=HM1;clear HM1)|refine Y ?_|(refine gStore ?_;refine s_storeh HM rfl rfl rfl rfl rfl rfl ?_;clear HM;intro W1 HM;(try dsimp only at HM))|(refine qf ?_;go_at_call 80;refine (addS f (by omega) (by exact HM.pk)).mono ?_;rintro e2 W2 ⟨A2,c2,rfl,HM1⟩;refine ⟨_,rfl,?_⟩;replace HM:=HM1;clear HM1))
          have HM1:=cls_ack ((HM.pk (A:=own tInt 3 A2 c2 (addL ys[x.acks.length].frm f))).pk (A:=hol (tAck 3) 66 A1 c1 ys x.acks.length [.int .i64 ys[x.acks.length].index,.slice A2 (addL ys[x.acks.length].frm f).length c2]))
          replace HM:=HM1;clear HM1
          rw [← e] at HM
          have el : ys.length = (ackA x.acks ix f).length:=by rw [e,List.length_set]
          simp only [el] at HM ⊢
          have hl1:=ackA_len x.acks ix f
          have hl2:=ackA_frm x.acks ix f 1000 has
          rw [show ackL x ix f = advL { x with acks:=ackA x.acks ix f } from rfl]
          obtain ⟨bs,hA⟩ : ∃ bs,bs = ackA x.acks ix f:=⟨_,rfl⟩
          rw [← hA] at HM hl1 hl2 ⊢
          clear e el hA
          repeat (first|(refine qs ?_;clear HM;intro W1 HM)|(refine qf ?_;go_at_call 105;refine (advS { x with acks:=bs } ⟨i.a0,i.a1,i.a2,i.a3,i.a4,i.a5,(A1,c1)⟩ h0 h1 hn (by simp only;omega) (fun a ha=>Nat.le_trans (hl2 a ha) (by omega)) (by exact pk_rec HM)).mono ?_;rintro e2 W2 ⟨j2,rfl,HM1⟩;refine ⟨_,rfl,?_⟩;replace HM:=HM1;clear HM1;simp only [partRcd,List.cons_append,List.nil_append] at HM;simp only [encRcd])|refine Y ?_)
          exact ret_cell HM rfl rfl rfl ⟨j2,rfl,by simp only [partRcd,List.cons_append,List.nil_append];exact HM.sb⟩
    · repeat refine Y ?_
      refine x_two 0 8 (by kernel_rfl) rfl rfl (l':=#[true,true,true,true,true,false,true,true,false,false,true,true,true,true,false,false,false]) (l'':=#[false,true,true,true,true,false,true,true,true,false,true,true,true,true,false,false,false]) (by kernel_rfl) (by kernel_rfl) (x_go ?_) (x_go ?_)
      · repeat (first|(refine qz ?_;clear HM;intro A1 W1 HM)|refine Y ?_)
        refine x_two 5 8 (by kernel_rfl) rfl rfl (l':=#[true,true,true,true,true,true,true,true,false,false,true,true,true,true,false,false,false]) (l'':=#[true,true,true,true,true,false,true,true,true,false,true,true,true,true,false,false,false]) (by kernel_rfl) (by kernel_rfl) (x_go ?_) (x_go ?_)
        · repeat (first|(refine gCall ?_;obtain ⟨F1,hF1⟩:=HM.own (A:=i.a6.1);(first|(have hd:=rdc_take hF1 x.acks.length;rw [hr1] at hd;refine s_appn (ys:=x.acks.take x.acks.length) (css:=css.take x.acks.length) HM rfl rfl rfl rfl hd (by simp only [List.length_take];omega) (by simp only [List.length_take,List.length_drop,List.length_append,List.length_cons,List.length_nil];omega) rfl ?_)|(have hd:=rdc_drop (k:=x.acks.length) hF1 (by omega) (by omega);rw [hr2] at hd;refine s_appn (ys:=x.acks.drop x.acks.length) (css:=css.drop x.acks.length) HM rfl rfl (by first|with_reducible rfl|(simp only [List.length_append,List.length_take,List.length_cons,List.length_nil];omega)) rfl hd (by simp only [List.length_drop];omega) (by simp only [List.length_take,List.length_drop,List.length_append,List.length_cons,List.length_nil];omega) rfl ?_));clear hF1;intro A1 c1 W1 HM1;replace HM:=HM1;clear HM1)|refine Y ?_)
          refine x_one 8 (by kernel_rfl) rfl (l':=#[true,true,true,true,true,true,true,true,true,false,true,true,true,true,false,false,false]) (by kernel_rfl) (x_go ?_)
          repeat (first|(refine qg ?_;clear HM;intro g W1 HM)|refine Y ?_)
          refine x_one 9 (by kernel_rfl) rfl (l':=#[true,true,true,true,true,true,true,true,true,true,true,true,true,true,false,false,false]) (by kernel_rfl) (x_go ?_)
          repeat (first|(refine qa ?_;clear HM;intro A1 c1 W1 HM)|refine Y ?_)
          refine x_one 14 (by kernel_rfl) rfl (l':=#[true,true,true,true,true,true,true,true,true,true,true,true,true,true,true,false,false]) (by kernel_rfl) (x_go ?_)
          repeat (first|(refine gCall ?_;obtain ⟨F1,hF1⟩:=HM.own (A:=i.a6.1);(first|(have hd:=rdc_take hF1 x.acks.length;rw [hr1] at hd;refine s_appn (ys:=x.acks.take x.acks.length) (css:=css.take x.acks.length) HM rfl rfl rfl rfl hd (by simp only [List.length_take];omega) (by simp only [List.length_take,List.length_drop,List.length_append,List.length_cons,List.length_nil];omega) rfl ?_)|(have hd:=rdc_drop (k:=x.acks.length) hF1 (by omega) (by omega);rw [hr2] at hd;refine s_appn (ys:=x.acks.drop x.acks.length) (css:=css.drop x.acks.length) HM rfl rfl (by first|with_reducible rfl|(simp only [List.length_append,List.length_take,List.length_cons,List.length_nil];omega)) rfl hd (by simp only [List.length_drop];omega) (by simp only [List.length_take,List.length_drop,List.length_append,List.length_cons,List.length_nil];omega) rfl ?_));clear hF1;intro A1 c1 W1 HM1;replace HM:=HM1;clear HM1)|refine Y ?_)
          refine x_pv HQ HS 15 rfl (by kernel_rfl) (by kernel_rfl) (l':=#[true,true,true,true,true,true,true,true,true,true,true,true,true,true,true,true,false]) (by kernel_rfl) rfl ?_
          refine Y ?_
          refine x_last 16 (by kernel_rfl) rfl (l':=#[true,true,true,true,true,true,true,true,true,true,true,true,true,true,true,true,true]) (by kernel_rfl) (by kernel_rfl) rfl ?_
          repeat (first|(refine qs ?_;clear HM;intro W1 HM)|refine Y ?_)
          obtain ⟨ys,hy⟩ : ∃ ys : List Ack,ys = [] ++ x.acks.take x.acks.length ++ [⟨ix,[]⟩] ++ x.acks.drop x.acks.length:=⟨_,rfl⟩
          rw [← hy] at HM
          obtain ⟨hyl,hya,hys⟩:=ack_ins ⟨ix,[]⟩ hk hy
          have hlk : x.acks.length < ys.length:=by omega
          have hyk:=hya hlk
          have hfl : ys[x.acks.length].frm.length ≤ 1000:=by rw [hyk];simp
          replace e : ackA x.acks ix f = ys.set x.acks.length ⟨ys[x.acks.length].index,addL ys[x.acks.length].frm f⟩:=by rw [hys,hyk];exact e
          clear hy hya hys hyk
          obtain ⟨j,HM⟩:=opn_ack (HM.pk (A:=own (tAck 3) 66 A1 c1 ys)) x.acks.length hlk
          replace HM:=HM.perm (List.Perm.swap ..)
          repeat (first|(refine gR ?_;refine d_startd [13] [(0,0),(0,2),(0,3),(0,5),(0,9),(1,1),(1,4),(0,6),(0,7),(1,8),(2,10),(0,11),(0,12),(3,13)] HM (by kernel_rfl) (by kernel_rfl) qq (by kernel_rfl) rfl ?_;intro HQ HS W1 HM1;replace HM:=HM1;clear HM1)|refine Y ?_|(refine gStore ?_;refine s_storeh HM rfl rfl rfl rfl rfl rfl ?_;clear HM;intro W1 HM;(try dsimp only at HM))|(refine qf ?_;go_at_call 80;refine (addS f (by omega) (by exact HM.pk)).mono ?_;rintro e2 W2 ⟨A2,c2,rfl,HM1⟩;refine ⟨_,rfl,?_⟩;replace HM:=HM1;clear HM1))
          have HM1:=cls_ack ((HM.pk (A:=own tInt 3 A2 c2 (addL ys[x.acks.length].frm f))).pk (A:=hol (tAck 3) 66 A1 c1 ys x.acks.length [.int .i64 ys[x.acks.length].index,.slice A2 (addL ys[x.acks.length].frm f).length c2]))
          replace HM:=HM1;clear HM1
          rw [← e] at HM
          have el : ys.length = (ackA x.acks ix f).length:=by rw [e,List.length_set]
          simp only [el] at HM ⊢
          have hl1:=ackA_len x.acks ix f
          have hl2:=ackA_frm x.acks ix f 1000 has
          rw [show ackL x ix f = advL { x with acks:=ackA x.acks ix f } from rfl]
          obtain ⟨bs,hA⟩ : ∃ bs,bs = ackA x.acks ix f:=⟨_,rfl⟩
          rw [← hA] at HM hl1 hl2 ⊢
          clear e el hA
          repeat (first|(refine qs ?_;clear HM;intro W1 HM)|(refine qf ?_;go_at_call 105;refine (advS { x with acks:=bs } ⟨i.a0,i.a1,i.a2,i.a3,i.a4,i.a5,(A1,c1)⟩ h0 h1 hn (by simp only;omega) (fun a ha=>Nat.le_trans (hl2 a ha) (by omega)) (by exact pk_rec HM)).mono ?_;rintro e2 W2 ⟨j2,rfl,HM1⟩;refine ⟨_,rfl,?_⟩;replace HM:=HM1;clear HM1;simp only [partRcd,List.cons_append,List.nil_append] at HM;simp only [encRcd])|refine Y ?_)
          exact ret_cell HM rfl rfl rfl ⟨j2,rfl,by simp only [partRcd,List.cons_append,List.nil_append];exact HM.sb⟩
        · repeat (first|(refine qg ?_;clear HM;intro g W1 HM)|refine Y ?_)
          refine x_one 5 (by kernel_rfl) rfl (l':=#[true,true,true,true,true,true,true,true,true,false,true,true,true,true,false,false,false]) (by kernel_rfl) (x_go ?_)
          repeat (first|(refine gCall ?_;obtain ⟨F1,hF1⟩:=HM.own (A:=i.a6.1);(first|(have hd:=rdc_take hF1 x.acks.length;rw [hr1] at hd;refine s_appn (ys:=x.acks.take x.acks.length) (css:=css.take x.acks.length) HM rfl rfl rfl rfl hd (by simp only [List.length_take];omega) (by simp only [List.length_take,List.length_drop,List.length_append,List.length_cons,List.length_nil];omega) rfl ?_)|(have hd:=rdc_drop (k:=x.acks.length) hF1 (by omega) (by omega);rw [hr2] at hd;refine s_appn (ys:=x.acks.drop x.acks.length) (css:=css.drop x.acks.length) HM rfl rfl (by first|with_reducible rfl|(simp only [List.length_append,List.length_take,List.length_cons,List.length_nil];omega)) rfl hd (by simp only [List.length_drop];omega) (by simp only [List.length_take,List.length_drop,List.length_append,List.length_cons,List.length_nil];omega) rfl ?_));clear hF1;intro A1 c1 W1 HM1;replace HM:=HM1;clear HM1)|refine Y ?_)
          refine x_one 9 (by kernel_rfl) rfl (l':=#[true,true,true,true,true,true,true,true,true,true,true,true,true,true,false,false,false]) (by kernel_rfl) (x_go ?_)
          repeat (first|(refine qa ?_;clear HM;intro A1 c1 W1 HM)|refine Y ?_)
          refine x_one 14 (by kernel_rfl) rfl (l':=#[true,true,true,true,true,true,true,true,true,true,true,true,true,true,true,false,false]) (by kernel_rfl) (x_go ?_)
          repeat (first|(refine gCall ?_;obtain ⟨F1,hF1⟩:=HM.own (A:=i.a6.1);(first|(have hd:=rdc_take hF1 x.acks.length;rw [hr1] at hd;refine s_appn (ys:=x.acks.take x.acks.length) (css:=css.take x.acks.length) HM rfl rfl rfl rfl hd (by simp only [List.length_take];omega) (by simp only [List.length_take,List.length_drop,List.length_append,List.length_cons,List.length_nil];omega) rfl ?_)|(have hd:=rdc_drop (k:=x.acks.length) hF1 (by omega) (by omega);rw [hr2] at hd;refine s_appn (ys:=x.acks.drop x.acks.length) (css:=css.drop x.acks.length) HM rfl rfl (by first|with_reducible rfl|(simp only [List.length_append,List.length_take,List.length_cons,List.length_nil];omega)) rfl hd (by simp only [List.length_drop];omega) (by simp only [List.length_take,List.length_drop,List.length_append,List.length_cons,List.length_nil];omega) rfl ?_));clear hF1;intro A1 c1 W1 HM1;replace HM:=HM1;clear HM1)|refine Y ?_)
          refine x_pv HQ HS 15 rfl (by kernel_rfl) (by kernel_rfl) (l':=#[true,true,true,true,true,true,true,true,true,true,true,true,true,true,true,true,false]) (by kernel_rfl) rfl ?_
          refine Y ?_
          refine x_last 16 (by kernel_rfl) rfl (l':=#[true,true,true,true,true,true,true,true,true,true,true,true,true,true,true,true,true]) (by kernel_rfl) (by kernel_rfl) rfl ?_
          repeat (first|(refine qs ?_;clear HM;intro W1 HM)|refine Y ?_)
          obtain ⟨ys,hy⟩ : ∃ ys : List Ack,ys = [] ++ x.acks.take x.acks.length ++ [⟨ix,[]⟩] ++ x.acks.drop x.acks.length:=⟨_,rfl⟩
          rw [← hy] at HM
          obtain ⟨hyl,hya,hys⟩:=ack_ins ⟨ix,[]⟩ hk hy
          have hlk : x.acks.length < ys.length:=by omega
          have hyk:=hya hlk
          have hfl : ys[x.acks.length].frm.length ≤ 1000:=by rw [hyk];simp
          replace e : ackA x.acks ix f = ys.set x.acks.length ⟨ys[x.acks.length].index,addL ys[x.acks.length].frm f⟩:=by rw [hys,hyk];exact e
          clear hy hya hys hyk
          obtain ⟨j,HM⟩:=opn_ack (HM.pk (A:=own (tAck 3) 66 A1 c1 ys)) x.acks.length hlk
          replace HM:=HM.perm (List.Perm.swap ..)
          repeat (first|(refine gR ?_;refine d_startd [13] [(0,0),(0,2),(0,3),(0,5),(0,9),(1,1),(1,4),(0,6),(0,7),(1,8),(2,10),(0,11),(0,12),(3,13)] HM (by kernel_rfl) (by kernel_rfl) qq (by kernel_rfl) rfl ?_;intro HQ HS W1 HM1;replace HM:=HM1;clear HM1)|refine Y ?_|(refine gStore ?_;refine s_storeh HM rfl rfl rfl rfl rfl rfl ?_;clear HM;intro W1 HM;(try dsimp only at HM))|(refine qf ?_;go_at_call 80;refine (addS f (by omega) (by exact HM.pk)).mono ?_;rintro e2 W2 ⟨A2,c2,rfl,HM1⟩;refine ⟨_,rfl,?_⟩;replace HM:=HM1;clear HM1))
          have HM1:=cls_ack ((HM.pk (A:=own tInt 3 A2 c2 (addL ys[x.acks.length].frm f))).pk (A:=hol (tAck 3) 66 A1 c1 ys x.acks.length [.int .i64 ys[x.acks.length].index,.slice A2 (addL ys[x.acks.length].frm f).length c2]))
          replace HM:=HM1;clear HM1
          rw [← e] at HM
          have el : ys.length = (ackA x.acks ix f).length:=by rw [e,List.length_set]
          simp only [el] at HM ⊢
          have hl1:=ackA_len x.acks ix f
          have hl2:=ackA_frm x.acks ix f 1000 has
          rw [show ackL x ix f = advL { x with acks:=ackA x.acks ix f } from rfl]
          obtain ⟨bs,hA⟩ : ∃ bs,bs = ackA x.acks ix f:=⟨_,rfl⟩
          rw [← hA] at HM hl1 hl2 ⊢
          clear e el hA
          repeat (first|(refine qs ?_;clear HM;intro W1 HM)|(refine qf ?_;go_at_call 105;refine (advS { x with acks:=bs } ⟨i.a0,i.a1,i.a2,i.a3,i.a4,i.a5,(A1,c1)⟩ h0 h1 hn (by simp only;omega) (fun a ha=>Nat.le_trans (hl2 a ha) (by omega)) (by exact pk_rec HM)).mono ?_;rintro e2 W2 ⟨j2,rfl,HM1⟩;refine ⟨_,rfl,?_⟩;replace HM:=HM1;clear HM1;simp only [partRcd,List.cons_append,List.nil_append] at HM;simp only [encRcd])|refine Y ?_)
          exact ret_cell HM rfl rfl rfl ⟨j2,rfl,by simp only [partRcd,List.cons_append,List.nil_append];exact HM.sb⟩
      · repeat (first|(refine qg ?_;clear HM;intro g W1 HM)|refine Y ?_)
        refine x_one 0 (by kernel_rfl) rfl (l':=#[true,true,true,true,true,false,true,true,true,false,true,true,true,true,false,false,false]) (by kernel_rfl) (x_go ?_)
        repeat (first|(refine qz ?_;clear HM;intro A1 W1 HM)|refine Y ?_)
        refine x_one 5 (by kernel_rfl) rfl (l':=#[true,true,true,true,true,true,true,true,true,false,true,true,true,true,false,false,false]) (by kernel_rfl) (x_go ?_)
        repeat (first|(refine gCall ?_;obtain ⟨F1,hF1⟩:=HM.own (A:=i.a6.1);(first|(have hd:=rdc_take hF1 x.acks.length;rw [hr1] at hd;refine s_appn (ys:=x.acks.take x.acks.length) (css:=css.take x.acks.length) HM rfl rfl rfl rfl hd (by simp only [List.length_take];omega) (by simp only [List.length_take,List.length_drop,List.length_append,List.length_cons,List.length_nil];omega) rfl ?_)|(have hd:=rdc_drop (k:=x.acks.length) hF1 (by omega) (by omega);rw [hr2] at hd;refine s_appn (ys:=x.acks.drop x.acks.length) (css:=css.drop x.acks.length) HM rfl rfl (by first|with_reducible rfl|(simp only [List.length_append,List.length_take,List.length_cons,List.length_nil];omega)) rfl hd (by simp only [List.length_drop];omega) (by simp only [List.length_take,List.length_drop,List.length_append,List.length_cons,List.length_nil];omega) rfl ?_));clear hF1;intro A1 c1 W1 HM1;replace HM:=HM1;clear HM1)|refine Y ?_)
        refine x_one 9 (by kernel_rfl) rfl (l':=#[true,true,true,true,true,true,true,true,true,true,true,true,true,true,false,false,false]) (by kernel_rfl) (x_go ?_)
        repeat (first|(refine qa ?_;clear HM;intro A1 c1 W1 HM)|refine Y ?_)
        refine x_one 14 (by kernel_rfl) rfl (l':=#[true,true,true,true,true,true,true,true,true,true,true,true,true,true,true,false,false]) (by kernel_rfl) (x_go ?_)
        repeat (first|(refine gCall ?_;obtain ⟨F1,hF1⟩:=HM.own (A:=i.a6.1);(first|(have hd:=rdc_take hF1 x.acks.length;rw [hr1] at hd;refine s_appn (ys:=x.acks.take x.acks.length) (css:=css.take x.acks.length) HM rfl rfl rfl rfl hd (by simp only [List.length_take];omega) (by simp only [List.length_take,List.length_drop,List.length_append,List.length_cons,List.length_nil];omega) rfl ?_)|(have hd:=rdc_drop (k:=x.acks.length) hF1 (by omega) (by omega);rw [hr2] at hd;refine s_appn (ys:=x.acks.drop x.acks.length) (css:=css.drop x.acks.length) HM rfl rfl (by first|with_reducible rfl|(simp only [List.length_append,List.length_take,List.length_cons,List.length_nil];omega)) rfl hd (by simp only [List.length_drop];omega) (by simp only [List.length_take,List.length_drop,List.length_append,List.length_cons,List.length_nil];omega) rfl ?_));clear hF1;intro A1 c1 W1 HM1;replace HM:=HM1;clear HM1)|refine Y ?_)
        refine x_pv HQ HS 15 rfl (by kernel_rfl) (by kernel_rfl) (l':=#[true,true,true,true,true,true,true,true,true,true,true,true,true,true,true,true,false]) (by kernel_rfl) rfl ?_
        refine Y ?_
        refine x_last 16 (by kernel_rfl) rfl (l':=#[true,true,true,true,true,true,true,true,true,true,true,true,true,true,true,true,true]) (by kernel_rfl) (by kernel_rfl) rfl ?_
        repeat (first|(refine qs ?_;clear HM;intro W1 HM)|refine Y ?_)
        obtain ⟨ys,hy⟩ : ∃ ys : List Ack,ys = [] ++ x.acks.take x.acks.length ++ [⟨ix,[]⟩] ++ x.acks.drop x.acks.length:=⟨_,rfl⟩
        rw [← hy] at HM
        obtain ⟨hyl,hya,hys⟩:=ack_ins ⟨ix,[]⟩ hk hy
        have hlk : x.acks.length < ys.length:=by omega
        have hyk:=hya hlk
        have hfl : ys[x.acks.length].frm.length ≤ 1000:=by rw [hyk];simp
        replace e : ackA x.acks ix f = ys.set x.acks.length ⟨ys[x.acks.length].index,addL ys[x.acks.length].frm f⟩:=by rw [hys,hyk];exact e
        clear hy hya hys hyk
        obtain ⟨j,HM⟩:=opn_ack (HM.pk (A:=own (tAck 3) 66 A1 c1 ys)) x.acks.length hlk
        replace HM:=HM.perm (List.Perm.swap ..)
        repeat (first|(refine gR ?_;refine d_startd [13] [(0,0),(0,2),(0,3),(0,5),(0,9),(1,1),(1,4),(0,6),(0,7),(1,8),(2,10),(0,11),(0,12),(3,13)] HM (by kernel_rfl) (by kernel_rfl) qq (by kernel_rfl) rfl ?_;intro HQ HS W1 HM1;replace HM:=HM1;clear HM1)|refine Y ?_|(refine gStore ?_;refine s_storeh HM rfl rfl rfl rfl rfl rfl ?_;clear HM;intro W1 HM;(try dsimp only at HM))|(refine qf ?_;go_at_call 80;refine (addS f (by omega) (by exact HM.pk)).mono ?_;rintro e2 W2 ⟨A2,c2,rfl,HM1⟩;refine ⟨_,rfl,?_⟩;replace HM:=HM1;clear HM1))
        have HM1:=cls_ack ((HM.pk (A:=own tInt 3 A2 c2 (addL ys[x.acks.length].frm f))).pk (A:=hol (tAck 3) 66 A1 c1 ys x.acks.length [.int .i64 ys[x.acks.length].index,.slice A2 (addL ys[x.acks.length].frm f).length c2]))
        replace HM:=HM1;clear HM1
        rw [← e] at HM
        have el : ys.length = (ackA x.acks ix f).length:=by rw [e,List.length_set]
        simp only [el] at HM ⊢
        have hl1:=ackA_len x.acks ix f
        have hl2:=ackA_frm x.acks ix f 1000 has
        rw [show ackL x ix f = advL { x with acks:=ackA x.acks ix f } from rfl]
        obtain ⟨bs,hA⟩ : ∃ bs,bs = ackA x.acks ix f:=⟨_,rfl⟩
        rw [← hA] at HM hl1 hl2 ⊢
        clear e el hA
        repeat (first|(refine qs ?_;clear HM;intro W1 HM)|(refine qf ?_;go_at_call 105;refine (advS { x with acks:=bs } ⟨i.a0,i.a1,i.a2,i.a3,i.a4,i.a5,(A1,c1)⟩ h0 h1 hn (by simp only;omega) (fun a ha=>Nat.le_trans (hl2 a ha) (by omega)) (by exact pk_rec HM)).mono ?_;rintro e2 W2 ⟨j2,rfl,HM1⟩;refine ⟨_,rfl,?_⟩;replace HM:=HM1;clear HM1;simp only [partRcd,List.cons_append,List.nil_append] at HM;simp only [encRcd])|refine Y ?_)
        exact ret_cell HM rfl rfl rfl ⟨j2,rfl,by simp only [partRcd,List.cons_append,List.nil_append];exact HM.sb⟩
end Go.Proofs.YtampmicahnnebaaGreat.Sp
