/- Messages whose slots may be shared: a row of messages told with their places, and a bag of what hangs on them. No condition. -/
import Derived.Test.YtampmicahnnebaaGreatRecClaim3
import Derived.Test.YtampmicahnnebaaGreatRecClaim1
import Derived.Test.YtampmicahnnebaaGreatRecClaim2
import Derived.WideKeyEntry
import Derived.DeepKeys4
import Derived.Carry
import Derived.KernelRfl
set_option linter.unusedVariables false
set_option linter.unusedSimpArgs false
namespace Go.Proofs.YtampmicahnnebaaGreat.Sp
open Go Go.RowKit
set_option maxRecDepth 10000
abbrev MA:=Msg × At
def encMA (z : MA) (_ : Unit) : List Value:=encMsg z.1 z.2
def getMA (z : MA) (j : Nat) : Option Value:=match j with|0=>some (.int .i64 z.1.kind)|1=>some (.int .i64 z.1.frm)|2=>some (.int .i64 z.1.to)|3=>some (.int .i64 z.1.ballot)|4=>some (.int .i64 z.1.index)|5=>some (.int .i64 z.1.known)|6=>some (.string z.1.text)|7=>some (.slice z.2.1 z.1.slots.length z.2.2)|_=>none
def tMA : Ty MA:=nest (ι:=Unit) 8 (⟨0,0,0,0,0,0,⟨#[]⟩,[]⟩,(none,0)) encMA (fun _ _=>[]) getMA (fun _ _ _=>none)
  (fun _ _=>rfl) (fun _ _ u hu=>by simp [encMA,encMsg] at hu;(repeat' (rcases hu with rfl|hu)) <;> first|rfl|(subst hu;rfl))
  (fun z j v i h=>by
    match j with
    | 0|1|2|3|4|5|6|7=>simpa [encMA,encMsg,getMA] using h
    | j + 8=>simp [getMA] at h)
  (fun z j v x' i h=>by simp at h)
instance : Flat tMA (fun z=>encMsg z.1 z.2):=⟨fun ⟨_,h,_⟩=>h⟩
instance : FlatO tMA (fun z=>encMsg z.1 z.2):=⟨fun x W F=>⟨(),rfl,trivial⟩⟩
variable {w0 W : World} {L : List Asn} {eS e c : Nat} {A : Option Addr}
def slp (eS : Nat) (z : MA) : Asn:=own tSlot eS z.2.1 z.2.2 z.1.slots
def bag (eS : Nat) (zs : List MA) : Asn where
  H:=fun W F=>∀ z ∈ zs,(slp eS z).H W F
  mono:=fun h hh z hz=>(slp eS z).mono h (hh z hz)
  move:=fun h hh z hz=>(slp eS z).move h (hh z hz)
  bound:=fun hh z hz=>(slp eS z).bound (hh z hz)
theorem Mem.bag_sub {zs ys : List MA} (hs : ∀ z ∈ ys,z ∈ zs) (h : Mem w0 W (bag eS zs :: L)) : Mem w0 W (bag eS ys :: L):=by
  obtain ⟨hb,F,h1,h2,h3⟩:=h
  exact ⟨hb,F,h1,fun z hz=>h2 z (hs z hz),h3⟩
theorem Mem.bag_join {zs ys : List MA} (h : Mem w0 W (bag eS zs :: bag eS ys :: L)) : Mem w0 W (bag eS (zs ++ ys) :: L):=by
  obtain ⟨hb,F,h1,h2,G,h3,h4,h5⟩:=h
  refine ⟨hb,fun k=>F k ∨ G k,fun k hk=>hk.elim (h1 k) (fun h=>(h3 k h).1),fun z hz=>?_,h5.mono (fun k hk=>⟨hk.1.1,fun h=>h.elim hk.1.2 hk.2⟩)⟩
  rcases List.mem_append.1 hz with hz|hz
  · exact (slp eS z).mono (fun k hk=>.inl hk) (h2 z hz)
  · exact (slp eS z).mono (fun k hk=>.inr hk) (h4 z hz)
theorem els_bag {W : World} : ∀ (ms : List Msg) (css : List (List Value)) (ok : Nat → Prop),css.length = ms.length → SepIn W ok (els (tMsg eS) ms css) → ∃ zs : List MA,zs.map Prod.fst = ms ∧ css = zs.map (fun z=>encMsg z.1 z.2) ∧ (bag eS zs).H W ok
  | [],[],ok,_,_=>⟨[],rfl,rfl,fun z hz=>by simp at hz⟩
  | m :: ms,d :: css,ok,hl,⟨F,h1,⟨i,hd,G,g1,g2,_⟩,h3⟩=>by
    obtain ⟨zs,e1,e2,e3⟩:=els_bag ms css _ (by simpa using hl) h3
    refine ⟨(m,i) :: zs,by simp [e1],by simp [hd,e2],fun z hz=>?_⟩
    rcases List.mem_cons.1 hz with rfl|hz
    · exact (slp eS (m,i)).mono (fun k hk=>h1 k (g1 k hk)) g2
    · exact (slp eS z).mono (fun k hk=>hk.1) (e3 z hz)
theorem opn_bag {ms : List Msg} (h : Mem w0 W (own (tMsg eS) e A c ms :: L)) : ∃ zs : List MA,zs.map Prod.fst = ms ∧ Mem w0 W (own tMA e A c zs :: bag eS zs :: L):=by
  obtain ⟨css,hl,h⟩:=h.ex
  have h' : Mem w0 W (els (tMsg eS) ms css ++ (row e 8 A ms.length c css.flatten :: L)):=h.perm (List.perm_middle (a:=row e 8 A ms.length c css.flatten) (l₁:=els (tMsg eS) ms css) (l₂:=L)).symm
  obtain ⟨F,f1,f2,f3⟩:=SepIn.append h'.sep
  obtain ⟨zs,e1,e2,e3⟩:=els_bag ms css F hl f2
  refine ⟨zs,e1,?_⟩
  have h2 : Mem w0 W (bag eS zs :: row e 8 A ms.length c css.flatten :: L):=⟨h'.below,F,f1,e3,f3⟩
  have hE : ∀ (W : World) (ys : List MA) (ok : Nat → Prop),SepIn W ok (els tMA ys (ys.map (fun z=>encMsg z.1 z.2))):=by
    intro W ys
    induction ys with
    | nil=>exact fun _=>trivial
    | cons y ys ih=>exact fun ok=>⟨fun _=>False,fun _ h=>h.elim,⟨(),rfl,trivial⟩,ih _⟩
  have hml : ms.length = zs.length:=by rw [← e1,List.length_map]
  have h3 : Mem w0 W (row e 8 A ms.length c css.flatten :: bag eS zs :: L):=h2.perm (List.Perm.swap ..)
  obtain ⟨hb,G,g1,g2,g3⟩:=h3
  refine ⟨hb,G,g1,⟨css,by simp [e2],?_⟩,g3⟩
  rw [hml] at g2
  refine ⟨G,fun _ h=>h,g2,?_⟩
  rw [e2]
  exact hE _ _ _
def flt (eS e : Nat) (A : Option Addr) (c : Nat) (ms : List Msg) : Asn:=exP (fun zs : List MA=>zs.map Prod.fst = ms) (fun zs=>[own tMA e A c zs,bag eS zs])
theorem flt_of {ms : List Msg} (h : Mem w0 W (own (tMsg eS) e A c ms :: L)) : Mem w0 W (flt eS e A c ms :: L):=by
  obtain ⟨zs,e1,h⟩:=opn_bag h
  exact Mem.mkx zs e1 h
theorem opn_flt {ms : List Msg} (h : Mem w0 W (flt eS e A c ms :: L)) : ∃ zs : List MA,zs.map Prod.fst = ms ∧ Mem w0 W (own tMA e A c zs :: bag eS zs :: L):=h.ex
theorem cls_flt {zs ys : List MA} {ms : List Msg} (hm : zs.map Prod.fst = ms) (hs : ∀ z ∈ zs,z ∈ ys) (h : Mem w0 W (own tMA e A c zs :: bag eS ys :: L)) : Mem w0 W (flt eS e A c ms :: L) :=
  Mem.mkx zs hm (((h.perm (List.Perm.swap ..)).bag_sub hs).perm (List.Perm.swap ..))
theorem ro_flt {ms : List Msg} {F : Nat → Prop} (h : (flt eS e A c ms).H W F) : RoRow (rMsg false) W A ms:=by
  obtain ⟨zs,rfl,F1,f1,f2,F2,_,f3,_⟩:=h
  refine ⟨by rw [List.length_map];exact (own_max f2).1,fun hl=>(own_addr f2 (by simpa using hl)).1,fun i hi=>?_⟩
  rw [List.length_map] at hi
  refine ⟨encMsg zs[i].1 zs[i].2,⟨zs[i].2,by simp,⟨(fun h=>by cases h),?_⟩⟩,fun j v hv=>?_⟩
  · have:=ro_slots (f3 zs[i] (List.getElem_mem hi))
    simpa using this
  · have h2:=(own_cells (enc:=fun z : MA=>encMsg z.1 z.2) f2 i (by omega) (by omega)).2 j v
    have e2 : rd tMA zs (i : Int) = zs[i]:=by simp [rd,List.getD_eq_getElem?_getD,hi]
    rw [e2] at h2
    have h3:=h2 hv
    simp only [Int.toNat_natCast] at h3
    exact h3
end Go.Proofs.YtampmicahnnebaaGreat.Sp
namespace Go.Proofs.YtampmicahnnebaaGreat.Sp
open Go Go.RowKit
variable {eS eM eT eI eA : Nat}
instance : TyE Tryz.prog 31 Rcd (tRec 91 40 9 3 66):=⟨trivial⟩
instance : ZD (tRec eS eM eT eI eA) [.int .i64 0,.int .i64 0,.bool false,.int .i64 0,.int .i64 0,.slice none 0 0,.int .i64 0,.int .i64 0,.slice none 0 0,.slice none 0 0,.slice none 0 0,.bool false,.bool false,.int .i64 0,.slice none 0 0,.slice none 0 0,.slice none 0 0,.int .i64 0]:=⟨fun W F=>⟨⟨(none,0),(none,0),(none,0),(none,0),(none,0),(none,0),(none,0)⟩,rfl,by
  refine ⟨fun _=>False,fun _ h=>h.elim,own_nil tSlot eS,fun _=>False,fun _ h=>h.elim,own_nil tSlot eS,fun _=>False,fun _ h=>h.elim,own_nil (tMsg eS) eM,fun _=>False,fun _ h=>h.elim,own_nil tStr eT,fun _=>False,fun _ h=>h.elim,own_nil tInt eI,fun _=>False,fun _ h=>h.elim,own_nil tSlot eS,fun _=>False,fun _ h=>h.elim,own_nil (tAck eI) eA,trivial⟩⟩⟩
instance {L R0 R1 R2 R3 R4 R5 R6 : List Asn} {number of : Int} {up : Bool} {sp sk : Int} {ss : List Slot} {dp dk : Int} {ds : List Slot} {held : List Msg} {wishes : List ByteArray} {lead trying : Bool} {ballot : Int} {yes : List Int} {best : List Slot} {acks : List Ack} {heard : Int} {A0 A1 A2 A3 A4 A5 A6 : Option Addr} {c0 c1 c2 c3 c4 c5 c6 : Nat} [h0 : Pk L (own tSlot eS A0 c0 ss) R0] [h1 : Pk R0 (own tSlot eS A1 c1 ds) R1] [h2 : Pk R1 (own (tMsg eS) eM A2 c2 held) R2] [h3 : Pk R2 (own tStr eT A3 c3 wishes) R3] [h4 : Pk R3 (own tInt eI A4 c4 yes) R4] [h5 : Pk R4 (own tSlot eS A5 c5 best) R5] [h6 : Pk R5 (own (tAck eI) eA A6 c6 acks) R6] :
    MkIn L (tRec eS eM eT eI eA) [.int .i64 number,.int .i64 of,.bool up,.int .i64 sp,.int .i64 sk,.slice A0 ss.length c0,.int .i64 dp,.int .i64 dk,.slice A1 ds.length c1,.slice A2 held.length c2,.slice A3 wishes.length c3,.bool lead,.bool trying,.int .i64 ballot,.slice A4 yes.length c4,.slice A5 best.length c5,.slice A6 acks.length c6,.int .i64 heard] ⟨number,of,up,sp,sk,ss,dp,dk,ds,held,wishes,lead,trying,ballot,yes,best,acks,heard⟩ R6 :=
  mk_nest (M:=[own tSlot eS A0 c0 ss,own tSlot eS A1 c1 ds,own (tMsg eS) eM A2 c2 held,own tStr eT A3 c3 wishes,own tInt eI A4 c4 yes,own tSlot eS A5 c5 best,own (tAck eI) eA A6 c6 acks]) (fun W ok hs=>hs.perm (by
    have q0:=perm_in h0.out [] (List.Perm.refl L)
    have q1:=perm_in h1.out _ q0
    have q2:=perm_in h2.out _ q1
    have q3:=perm_in h3.out _ q2
    have q4:=perm_in h4.out _ q3
    have q5:=perm_in h5.out _ q4
    exact perm_in h6.out _ q5)) (fun W F hs=>⟨⟨(A0,c0),(A1,c1),(A2,c2),(A3,c3),(A4,c4),(A5,c5),(A6,c6)⟩,rfl,hs⟩)
structure RoRcw (b : Bool) (w : World) (x : Rcd) (i : AtRcd) : Prop where
  ro : RoRcd b w x i
  cap : b = false → x.ds.length ≤ i.a1.2 ∧ x.wishes.length ≤ i.a3.2
def rRcw (b : Bool) : TyR Rcd:=nestR (ι:=AtRcd) 18 ⟨0,0,false,0,0,[],0,0,[],[],[],false,false,0,[],[],[],0⟩ encRcd (fun w x i=>RoRcw b w x i) getRcd (fun _ _=>rfl)
  (fun x j v i h=>by
    match j with
    | 0|1|2|3|4|6|7|11|12|13|17=>simpa [encRcd,getRcd] using h
    | 5|8|9|10|14|15|16=>simp [getRcd] at h
    | j + 18=>simp [getRcd] at h)
theorem ro_rcw {x : Rcd} {c : List Value} {W : World} {F : Nat → Prop} (h : ((tRec eS eM eT eI eA).A x c).H W F) : (rRcw false).R W x c:=by
  obtain ⟨i,h,_,_,a0,_,_,a1,_,_,a2,_,_,a3,_,_,a4,_,_,a5,_,_,a6,_⟩:=h
  exact ⟨i,h,⟨ro_slots a0,ro_slots a1,ro_msgs a2,ro_strs a3,ro_ints a4,ro_slots a5,ro_acks a6⟩,fun _=>⟨(own_max a1).2,(own_max a3).2⟩⟩
theorem ro_fix {x : Fix} {c : List Value} {W : World} {F : Nat → Prop} (h : (tFix.A x c).H W F) : (rFix false).R W x c:=by obtain ⟨i,h,_⟩:=h;exact ⟨i,h,fun h=>by cases h⟩
theorem ro_rcws {e q : Nat} {A : Option Addr} {xs : List Rcd} {W : World} {F : Nat → Prop} (h : (own (tRec eS eM eT eI eA) e A q xs).H W F) : RoRow (rRcw false) W A xs:=own_ro rfl ro_rcw h
theorem ro_fixs {e q : Nat} {A : Option Addr} {xs : List Fix} {W : World} {F : Nat → Prop} (h : (own tFix e A q xs).H W F) : RoRow (rFix false) W A xs:=own_ro rfl ro_fix h
structure Wld where
  recs : List Rcd
  flight : List Msg
  fixed : List Fix
structure AtW where
  b0 : At
  b1 : At
  b2 : At
def encW (x : Wld) (i : AtW) : List Value:=[.slice i.b0.1 x.recs.length i.b0.2,.slice i.b1.1 x.flight.length i.b1.2,.slice i.b2.1 x.fixed.length i.b2.2]
def partW (eS eM eT eI eA eR eF : Nat) (x : Wld) (i : AtW) : List Asn:=[own (tRec eS eM eT eI eA) eR i.b0.1 i.b0.2 x.recs,own (tMsg eS) eM i.b1.1 i.b1.2 x.flight,own tFix eF i.b2.1 i.b2.2 x.fixed]
structure RoW (b : Bool) (w : World) (x : Wld) (i : AtW) : Prop where
  recs : RoRow (rRcw b) w i.b0.1 x.recs
  flight : RoRow (rMsg b) w i.b1.1 x.flight
  fixed : RoRow (rFix b) w i.b2.1 x.fixed
structure SmallW (x : Wld) : Prop where
  recs : x.recs.length ≤ 1048576
  recss : ∀ y ∈ x.recs,SmallR y
  flight : x.flight.length ≤ 1048576
  flights : ∀ y ∈ x.flight,y.slots.length ≤ 1048576
  fixed : x.fixed.length ≤ 1048576
end Go.Proofs.YtampmicahnnebaaGreat.Sp
namespace Go.Proofs.YtampmicahnnebaaGreat.Sp
open Go Go.RowKit
set_option maxRecDepth 10000
set_option maxHeartbeats 1000000
variable {w0 W : World} {L : List Asn}
def recB (x : Wld) (j : Nat) : Bool:=validB (rdR (rRcw false) x.recs j) && decide ((rdR (rRcw false) x.recs j).number = (j : Int) + 1) && decide ((rdR (rRcw false) x.recs j).of = x.recs.length)
def fixB (xs : List Fix) (j : Nat) : Bool:=decide (1 ≤ (rdR (rFix false) xs j).index ∧ (rdR (rFix false) xs j).index ≤ 60) && !decide ((100 : Int) < (rdR (rFix false) xs j).text.size) && !(decide (0 < j) && decide ((rdR (rFix false) xs j).index ≤ (rdR (rFix false) xs ((j : Int) - 1)).index))
def worldB (x : Wld) : Bool:=decide (1 ≤ (x.recs.length : Int) ∧ (x.recs.length : Int) ≤ 5) && !decide ((600 : Int) < x.flight.length) && allN (recB x) x.recs.length && allN (fun j=>msgB (rdR (rMsg false) x.flight j) x.recs.length) x.flight.length && allN (fixB x.fixed) x.fixed.length
theorem recB_at {x : Wld} {k : Nat} (h : k < x.recs.length) : recB x k = (validB x.recs[k] && decide (x.recs[k].number = (k : Int) + 1) && decide (x.recs[k].of = x.recs.length)):=by rw [recB,rdR_at h]
theorem fixB_at {xs : List Fix} {k : Nat} (h : k < xs.length) : fixB xs k = (decide (1 ≤ xs[k].index ∧ xs[k].index ≤ 60) && !decide ((100 : Int) < xs[k].text.size) && !(decide (0 < k) && decide (xs[k].index ≤ (rdR (rFix false) xs ((k : Int) - 1)).index))):=by rw [fixB,rdR_at h]
theorem specWorldOk (x : Wld) (i : AtW) (h : RoW false w0 x i) (hn : SmallW x) (HM : Mem w0 W L) : Calls Tryz.prog 112 #[.agg (encW x i).toArray] W fun e W'=>e = .returned (.bool (worldB x)) ∧ Mem w0 W' L:=by
  refine enter Tryz.func112 rfl Tryz.ntmps112 [(0,.agg (encW x i).toArray)] rfl ⟨rfl,trivial⟩ ?_
  have hr:=h.recs
  have hf:=h.flight
  have hx:=h.fixed
  have n1:=hn.recs
  have n2:=hn.flight
  have n3:=hn.fixed
  unfold encW
  replace HM:=((HM.rod hr).rod hf).rod hx
  by_cases c1 : 1 ≤ (x.recs.length : Int) ∧ (x.recs.length : Int) ≤ 5
  rotate_left
  · repeat (first|(refine gGP ?_;first|refine gp (p_move rfl) ?_|refine gp (p_assign rfl) ?_|refine gp (p_field rfl (by simp only [Nat.reduceAdd];rfl)) ?_|refine gp (p_len rfl) ?_|refine gp (p_not rfl) ?_|refine gp (p_pick1 rfl (by (simp;omega)) rfl) ?_)|(refine gGV ?_;refine gv (p_load rfl) ?_)|(refine gL ?_;first|refine s_gp rfl rfl ?_|refine s_gv HM rfl ?_|(refine gCall ?_;(refine s_fn rfl rfl ?_;(go_at_call 39;refine (l1In_c _ _ _ _).mono ?_;rintro e W1 ⟨rfl,rfl⟩;refine ⟨_,rfl,?_⟩)))|(refine s_box HM rfl rfl ?_;clear HM;intro g W1 HM)|refine l_nil ?_|refine s_guard_off rfl rfl rfl rfl (by (simp;omega)) rfl rfl ?_)|(refine gC ?_;first|refine c_seq ?_|refine c_region ?_|refine c_ret ?_|refine c_yes rfl (by rfl) ?_)|(refine gN ?_;first|refine n_then ?_|refine r_then ?_))
    exact ret_tmp rfl rfl ⟨by simp [worldB,c1],HM.sb⟩
  by_cases c2 : (600 : Int) < x.flight.length
  · repeat (first|(refine gGP ?_;first|refine gp (p_move rfl) ?_|refine gp (p_assign rfl) ?_|(refine gGB ?_;refine gp (p_gtr rfl rfl) ?_)|refine gp (p_field rfl (by simp only [Nat.reduceAdd];rfl)) ?_|refine gp (p_len rfl) ?_|refine gp (p_not rfl) ?_|refine gp (p_pick0 rfl (by (simp;omega)) rfl) ?_)|(refine gGV ?_;refine gv (p_load rfl) ?_)|(refine gL ?_;first|refine s_gp rfl rfl ?_|refine s_gv HM rfl ?_|(refine gCall ?_;(refine s_fn rfl rfl ?_;(go_at_call 39;refine (l1In_c _ _ _ _).mono ?_;rintro e W1 ⟨rfl,rfl⟩;refine ⟨_,rfl,?_⟩)))|(refine s_box HM rfl rfl ?_;clear HM;intro g W1 HM)|refine l_nil ?_|refine s_guard_on rfl rfl rfl rfl (by (simp;omega)) ?_)|(refine gC ?_;first|refine c_seq ?_|refine c_region ?_|refine c_ret ?_|refine c_yes rfl (by (simp;omega)) ?_)|(refine gN ?_;first|refine n_then ?_|refine r_then ?_))
    exact ret_tmp rfl rfl ⟨by simp [worldB,c2],HM.sb⟩
  repeat (first|(refine gGP ?_;first|refine gp (p_move rfl) ?_|refine gp (p_assign rfl) ?_|(refine gGB ?_;refine gp (p_gtr rfl rfl) ?_)|refine gp (p_field rfl (by simp only [Nat.reduceAdd];rfl)) ?_|refine gp (p_len rfl) ?_|refine gp (p_not rfl) ?_|refine gp (p_pick0 rfl (by (simp;omega)) rfl) ?_)|(refine gGV ?_;refine gv (p_load rfl) ?_)|(refine gL ?_;first|refine s_gp rfl rfl ?_|refine s_gv HM rfl ?_|(refine gCall ?_;(refine s_fn rfl rfl ?_;(go_at_call 39;refine (l1In_c _ _ _ _).mono ?_;rintro e W1 ⟨rfl,rfl⟩;refine ⟨_,rfl,?_⟩)))|(refine s_box HM rfl rfl ?_;clear HM;intro g W1 HM)|refine l_nil ?_|refine s_guard_on rfl rfl rfl rfl (by (simp;omega)) ?_)|(refine gC ?_;first|refine c_seq ?_|refine c_region ?_|refine c_block ?_|refine c_skip ?_|refine c_no rfl (by first|rfl|(simp;omega)) ?_)|(refine gN ?_;refine n_then ?_))
  refine c_loop (σ:=Nat) (fun k=>[(1,.pointer (some ⟨g,0,none⟩)),(3,.int .i64 x.recs.length),(4,.int .i64 k)]) (fun k W1=>k ≤ x.recs.length ∧ allN (recB x) k = true ∧ Mem w0 W1 _) (fun k=>x.recs.length - k) 0 (by repeat (first|exact trivial|refine And.intro (by first|rfl|exact look_int rfl (by omega)) ?_)) ⟨Nat.zero_le _,allN_zero,HM⟩ ?_
  clear HM
  rintro k W1 ⟨hk,hp,HM⟩
  by_cases hlt : k < x.recs.length
  · have hb:=recB_at hlt
    have hnk:=hn.recss _ (List.getElem_mem hlt)
    obtain ⟨cc,⟨j,rfl,hh⟩,HM⟩:=HM.roOpen (A:=i.b0.1) k hlt
    unfold encRcd at HM
    by_cases hv : validB x.recs[k] = true
    rotate_left
    · simp only [Bool.not_eq_true] at hv
      repeat (first|(refine gGP ?_;first|refine gp (p_move rfl) ?_|refine gp (p_assign rfl) ?_|(refine gGB ?_;refine gp (p_lss rfl rfl) ?_)|refine gp (p_field rfl (by simp only [Nat.reduceAdd];rfl)) ?_|refine gp (p_indexr HM rfl (by first|with_reducible rfl|omega) rfl (by omega) (by omega)) ?_|refine gp (p_not rfl) ?_|refine gp (p_pick1 rfl (by first|rfl|(simp;omega)) rfl) ?_)|(refine gGV ?_;first|refine gv (p_load rfl) ?_|refine gv (p_loadwr rfl rfl rfl) ?_)|(refine gL ?_;first|refine s_gp rfl rfl ?_|refine s_gv HM rfl ?_|(refine gCall ?_;(refine s_fn rfl rfl ?_;(go_at_call 9;refine (specValid _ _ hh.ro hnk HM).mono ?_;rintro e W1 ⟨rfl,HM1⟩;refine ⟨_,rfl,?_⟩;replace HM:=HM1;clear HM1)))|refine l_nil ?_|refine s_guard_off rfl rfl rfl rfl (by first|rfl|(simp;omega)) rfl rfl ?_)|(refine gC ?_;first|refine c_seq ?_|refine c_region ?_|refine c_block ?_|refine c_skip ?_|refine c_ret ?_|refine c_yes rfl (by first|rfl|(simp;omega)) ?_)|(refine gN ?_;first|refine n_then ?_|refine r_then ?_|refine r_block ?_))
      exact ret_tmp rfl rfl ⟨by rw [worldB,allN_fail hlt (by rw [hb];simp [hv])];simp,HM.sb⟩
    by_cases hnu : x.recs[k].number = (k : Int) + 1
    rotate_left
    · repeat (first|(refine gGV ?_;refine gv (p_loadrc rfl rfl) ?_)|(refine gGP ?_;first|refine gp (p_move rfl) ?_|refine gp (p_assign rfl) ?_|(refine gGB ?_;first|refine gp (p_lss rfl rfl) ?_|refine gp (p_neq rfl rfl) ?_|refine gp (p_add rfl rfl (by exact wr (by omega) (by omega))) ?_)|refine gp (p_field rfl (by simp only [Nat.reduceAdd];rfl)) ?_|refine gp (p_fieldo rfl (by simp only [Nat.reduceAdd];rfl)) ?_|refine gp (p_indexr HM rfl (by first|with_reducible rfl|omega) rfl (by omega) (by omega)) ?_|refine gp (p_not rfl) ?_|refine gp (p_pick1 rfl (by (simp;omega)) rfl) ?_|refine gp (p_pick0 rfl (by (simp;omega)) rfl) ?_)|(refine gGV ?_;first|refine gv (p_load rfl) ?_|refine gv (p_loadwr rfl rfl rfl) ?_)|(refine gL ?_;first|refine s_gp rfl rfl ?_|refine s_gv HM rfl ?_|(refine gCall ?_;(refine s_fn rfl rfl ?_;(go_at_call 9;refine (specValid _ _ hh.ro hnk HM).mono ?_;rintro e W1 ⟨rfl,HM1⟩;refine ⟨_,rfl,?_⟩;replace HM:=HM1;clear HM1)))|refine l_nil ?_|refine s_guard_on rfl rfl rfl rfl (by (simp;omega)) ?_|refine s_guard_off rfl rfl rfl rfl (by (simp;omega)) rfl rfl ?_)|(refine gC ?_;first|refine c_seq ?_|refine c_region ?_|refine c_block ?_|refine c_skip ?_|refine c_ret ?_|refine c_yes rfl (by first|rfl|(simp;omega)) ?_)|(refine gN ?_;first|refine n_then ?_|refine r_then ?_|refine r_block ?_))
      exact ret_tmp rfl rfl ⟨by rw [worldB,allN_fail hlt (by rw [hb];simp [hnu])];simp,HM.sb⟩
    by_cases hof : x.recs[k].of = (x.recs.length : Int)
    rotate_left
    · repeat (first|(refine gGV ?_;refine gv (p_loadrc rfl rfl) ?_)|(refine gGP ?_;first|refine gp (p_move rfl) ?_|refine gp (p_assign rfl) ?_|(refine gGB ?_;first|refine gp (p_lss rfl rfl) ?_|refine gp (p_neq rfl rfl) ?_|refine gp (p_add rfl rfl (by exact wr (by omega) (by omega))) ?_)|refine gp (p_field rfl (by simp only [Nat.reduceAdd];rfl)) ?_|refine gp (p_fieldo rfl (by simp only [Nat.reduceAdd];rfl)) ?_|refine gp (p_indexr HM rfl (by first|with_reducible rfl|omega) rfl (by omega) (by omega)) ?_|refine gp (p_not rfl) ?_|refine gp (p_pick0 rfl (by (simp;omega)) rfl) ?_)|(refine gGV ?_;first|refine gv (p_load rfl) ?_|refine gv (p_loadwr rfl rfl rfl) ?_)|(refine gL ?_;first|refine s_gp rfl rfl ?_|refine s_gv HM rfl ?_|(refine gCall ?_;(refine s_fn rfl rfl ?_;(go_at_call 9;refine (specValid _ _ hh.ro hnk HM).mono ?_;rintro e W1 ⟨rfl,HM1⟩;refine ⟨_,rfl,?_⟩;replace HM:=HM1;clear HM1)))|refine l_nil ?_|refine s_guard_on rfl rfl rfl rfl (by (simp;omega)) ?_)|(refine gC ?_;first|refine c_seq ?_|refine c_region ?_|refine c_block ?_|refine c_skip ?_|refine c_ret ?_|refine c_yes rfl (by (simp;omega)) ?_)|(refine gN ?_;first|refine n_then ?_|refine r_then ?_|refine r_block ?_))
      exact ret_tmp rfl rfl ⟨by rw [worldB,allN_fail hlt (by rw [hb];simp [hof])];simp,HM.sb⟩
    repeat (first|(refine gGV ?_;refine gv (p_loadrc rfl rfl) ?_)|(refine gGP ?_;first|refine gp (p_move rfl) ?_|refine gp (p_assign rfl) ?_|(refine gGB ?_;first|refine gp (p_lss rfl rfl) ?_|refine gp (p_neq rfl rfl) ?_|refine gp (p_add rfl rfl (by exact wr (by omega) (by omega))) ?_)|refine gp (p_field rfl (by simp only [Nat.reduceAdd];rfl)) ?_|refine gp (p_fieldo rfl (by simp only [Nat.reduceAdd];rfl)) ?_|refine gp (p_indexr HM rfl (by first|with_reducible rfl|omega) rfl (by omega) (by omega)) ?_|refine gp (p_not rfl) ?_|refine gp (p_pick0 rfl (by (simp;omega)) rfl) ?_)|(refine gGV ?_;first|refine gv (p_load rfl) ?_|refine gv (p_loadwr rfl rfl rfl) ?_)|(refine gL ?_;first|refine s_gp rfl rfl ?_|refine s_gv HM rfl ?_|(refine gCall ?_;(refine s_fn rfl rfl ?_;(go_at_call 9;refine (specValid _ _ hh.ro hnk HM).mono ?_;rintro e W1 ⟨rfl,HM1⟩;refine ⟨_,rfl,?_⟩;replace HM:=HM1;clear HM1)))|refine l_nil ?_|refine s_guard_on rfl rfl rfl rfl (by (simp;omega)) ?_)|(refine gC ?_;first|refine c_seq ?_|refine c_region ?_|refine c_block ?_|refine c_skip ?_|refine c_yes rfl (by (simp;omega)) ?_|refine c_no rfl (by (simp;omega)) ?_)|(refine gN ?_;first|refine n_then ?_|refine n_block ?_))
    exact n_round (k + 1) (by repeat (first|exact trivial|refine And.intro (by first|rfl|exact look_int rfl (by omega)) ?_)) ⟨by omega,allN_succ hp (by rw [hb];simp [hv,hnu,hof]),HM.sb⟩ (by omega)
  obtain rfl : k = x.recs.length:=by omega
  repeat (first|(refine gGP ?_;first|refine gp (p_move rfl) ?_|refine gp (p_assign rfl) ?_|(refine gGB ?_;refine gp (p_lss rfl rfl) ?_))|(refine gL ?_;first|refine s_gp rfl rfl ?_|refine l_nil ?_)|(refine gC ?_;first|refine c_seq ?_|refine c_region ?_|refine c_block ?_|refine c_exit ?_|refine c_no rfl (by first|rfl|(simp;done)|fail) ?_)|(refine gN ?_;first|refine n_then ?_|refine x_then ?_|refine x_here ?_))
  refine c_loop (σ:=Nat) (fun k=>[(1,.pointer (some ⟨g,0,none⟩)),(3,.int .i64 x.recs.length),(5,.int .i64 k)]) (fun k W1=>k ≤ x.flight.length ∧ allN (fun j=>msgB (rdR (rMsg false) x.flight j) x.recs.length) k = true ∧ Mem w0 W1 _) (fun k=>x.flight.length - k) 0 (by repeat (first|exact trivial|refine And.intro (by first|rfl|exact look_int rfl (by omega)) ?_)) ⟨Nat.zero_le _,allN_zero,HM⟩ ?_
  clear HM
  rintro k W1 ⟨hk2,hp2,HM⟩
  by_cases hlt2 : k < x.flight.length
  · have e0:=rdR_at (D:=rMsg false) hlt2
    have hnk:=hn.flights _ (List.getElem_mem hlt2)
    obtain ⟨cc,⟨j,rfl,_,hh⟩,HM⟩:=HM.roOpen (A:=i.b1.1) k hlt2
    unfold encMsg at HM
    by_cases hv : msgB x.flight[k] x.recs.length = true
    rotate_left
    · simp only [Bool.not_eq_true] at hv
      repeat (first|(refine gGP ?_;first|refine gp (p_move rfl) ?_|refine gp (p_assign rfl) ?_|(refine gGB ?_;refine gp (p_lss rfl rfl) ?_)|refine gp (p_field rfl (by simp only [Nat.reduceAdd];rfl)) ?_|refine gp (p_indexr HM rfl (by first|with_reducible rfl|omega) rfl (by omega) (by omega)) ?_|refine gp (p_len rfl) ?_|refine gp (p_not rfl) ?_)|(refine gGV ?_;first|refine gv (p_load rfl) ?_|refine gv (p_loadwr rfl rfl rfl) ?_)|(refine gL ?_;first|refine s_gp rfl rfl ?_|refine s_gv HM rfl ?_|(refine gCall ?_;(refine s_fn rfl rfl ?_;(go_at_call 42;refine (specMsg _ _ _ hh HM).mono ?_;rintro e W1 ⟨rfl,HM1⟩;refine ⟨_,rfl,?_⟩;replace HM:=HM1;clear HM1)))|refine l_nil ?_)|(refine gC ?_;first|refine c_seq ?_|refine c_region ?_|refine c_block ?_|refine c_skip ?_|refine c_ret ?_|refine c_yes rfl (by (simp;omega)) ?_)|(refine gN ?_;first|refine n_then ?_|refine r_then ?_|refine r_block ?_))
      exact ret_tmp rfl rfl ⟨by rw [worldB,allN_fail hlt2 (by rw [e0];exact hv)];simp,HM.sb⟩
    repeat (first|(refine gGP ?_;first|refine gp (p_move rfl) ?_|refine gp (p_assign rfl) ?_|(refine gGB ?_;first|refine gp (p_lss rfl rfl) ?_|refine gp (p_add rfl rfl (by exact wr (by omega) (by omega))) ?_)|refine gp (p_field rfl (by simp only [Nat.reduceAdd];rfl)) ?_|refine gp (p_indexr HM rfl (by first|with_reducible rfl|omega) rfl (by omega) (by omega)) ?_|refine gp (p_len rfl) ?_|refine gp (p_not rfl) ?_)|(refine gGV ?_;first|refine gv (p_load rfl) ?_|refine gv (p_loadwr rfl rfl rfl) ?_)|(refine gL ?_;first|refine s_gp rfl rfl ?_|refine s_gv HM rfl ?_|(refine gCall ?_;(refine s_fn rfl rfl ?_;(go_at_call 42;refine (specMsg _ _ _ hh HM).mono ?_;rintro e W1 ⟨rfl,HM1⟩;refine ⟨_,rfl,?_⟩;replace HM:=HM1;clear HM1)))|refine l_nil ?_)|(refine gC ?_;first|refine c_seq ?_|refine c_region ?_|refine c_block ?_|refine c_skip ?_|refine c_yes rfl (by (simp;omega)) ?_|refine c_no rfl (by (simp;omega)) ?_)|(refine gN ?_;first|refine n_then ?_|refine n_block ?_))
    exact n_round (k + 1) (by repeat (first|exact trivial|refine And.intro (by first|rfl|exact look_int rfl (by omega)) ?_)) ⟨by omega,allN_succ hp2 (by rw [e0];exact hv),HM.sb⟩ (by omega)
  obtain rfl : k = x.flight.length:=by omega
  repeat (first|(refine gGP ?_;first|refine gp (p_move rfl) ?_|refine gp (p_assign rfl) ?_|(refine gGB ?_;refine gp (p_lss rfl rfl) ?_)|refine gp (p_field rfl (by simp only [Nat.reduceAdd];rfl)) ?_|refine gp (p_len rfl) ?_)|(refine gGV ?_;refine gv (p_load rfl) ?_)|(refine gL ?_;first|refine s_gp rfl rfl ?_|refine s_gv HM rfl ?_|refine l_nil ?_)|(refine gC ?_;first|refine c_seq ?_|refine c_region ?_|refine c_block ?_|refine c_exit ?_|refine c_no rfl (by first|rfl|(simp;done)|fail) ?_)|(refine gN ?_;first|refine n_then ?_|refine x_then ?_|refine x_here ?_))
  refine c_loop (σ:=Nat) (fun k=>[(1,.pointer (some ⟨g,0,none⟩)),(6,.int .i64 k)]) (fun k W1=>k ≤ x.fixed.length ∧ allN (fixB x.fixed) k = true ∧ Mem w0 W1 _) (fun k=>x.fixed.length - k) 0 (by repeat (first|exact trivial|refine And.intro (by first|rfl|exact look_int rfl (by omega)) ?_)) ⟨Nat.zero_le _,allN_zero,HM⟩ ?_
  clear HM
  rintro k W1 ⟨hk3,hp3,HM⟩
  by_cases hlt3 : k < x.fixed.length
  · have hb:=fixB_at hlt3
    have e0:=rdR_at (D:=rFix false) hlt3
    obtain ⟨cc,⟨j,rfl,_⟩,HM⟩:=HM.roOpen (A:=i.b2.1) k hlt3
    unfold encFix at HM
    by_cases b1 : 1 ≤ x.fixed[k].index ∧ x.fixed[k].index ≤ 60
    rotate_left
    · repeat (first|(refine gGV ?_;refine gv (p_loadrc rfl rfl) ?_)|(refine gR ?_;refine d_start [] [(0,0),(0,2),(1,1),(0,3),(0,4),(1,5),(2,6),(0,7),(0,8),(0,9),(0,11),(1,10),(0,12),(0,13),(1,14),(0,15),(0,16),(0,17),(0,18),(0,19),(0,20),(0,21),(0,22),(0,24),(0,25),(0,29),(0,31),(1,23),(0,26),(0,27),(1,28),(1,30),(0,32),(0,33),(1,34),(0,35),(0,36),(0,37)] HM (by kernel_rfl) (by kernel_rfl) (by repeat (first|exact qp_body|refine qp_then ?_|refine qp_block ?_)) (by kernel_rfl) rfl ?_;intro HQ HS W1 HM1;replace HM:=HM1;clear HM1)|(refine gGP ?_;first|refine gp (p_move rfl) ?_|refine gp (p_assign rfl) ?_|(refine gGB ?_;refine gp (p_lss rfl rfl) ?_)|refine gp (p_field rfl (by simp only [Nat.reduceAdd];rfl)) ?_|refine gp (p_fieldo rfl (by simp only [Nat.reduceAdd];rfl)) ?_|refine gp (p_indexr HM rfl (by first|with_reducible rfl|omega) rfl (by omega) (by omega)) ?_|refine gp (p_len rfl) ?_|refine gp (p_not rfl) ?_|refine gp (p_pick1 rfl (by first|rfl|(simp;omega)) rfl) ?_)|(refine gGV ?_;refine gv (p_load rfl) ?_)|(refine gL ?_;first|refine s_gp rfl rfl ?_|refine s_gv HM rfl ?_|(refine gCall ?_;(refine s_fn rfl rfl ?_;(go_at_call 39;refine (l1In_c _ _ _ _).mono ?_;rintro e W1 ⟨rfl,rfl⟩;refine ⟨_,rfl,?_⟩)))|refine l_nil ?_)|(refine gC ?_;first|refine c_seq ?_|refine c_region ?_|refine c_block ?_|refine c_skip ?_|refine c_ret ?_|refine c_yes rfl (by first|rfl|(simp;omega)) ?_)|(refine gN ?_;first|refine n_then ?_|refine r_then ?_|refine r_block ?_|refine d_back (by exact HM) ?_)|(refine gD ?_;first|refine d_next rfl ?_|refine d_done ?_)|(refine gO ?_;first|refine d_gp HQ HS rfl ?_|refine d_gv HQ HS rfl ?_|refine d_one ?_|refine d_off (.inl rfl) HQ HS rfl rfl rfl rfl (by first|rfl|(simp;omega)) rfl rfl ?_|refine d_off (.inr rfl) HQ HS rfl rfl rfl rfl (by first|rfl|(simp;omega)) rfl rfl ?_|refine d_off_un (.inl rfl) HQ HS rfl rfl rfl rfl rfl rfl ?_|refine d_off_un (.inr rfl) HQ HS rfl rfl rfl rfl rfl rfl ?_))
      exact ret_tmp rfl rfl ⟨by rw [worldB,allN_fail hlt3 (by rw [hb];simp [b1])];simp,HM.sb⟩
    by_cases b2 : (100 : Int) < x.fixed[k].text.size
    · repeat (first|(refine gGV ?_;refine gv (p_loadrc rfl rfl) ?_)|(refine gR ?_;refine d_start [] [(0,0),(0,2),(1,1),(0,3),(0,4),(1,5),(2,6),(0,7),(0,8),(0,9),(0,11),(1,10),(0,12),(0,13),(1,14),(0,15),(0,16),(0,17),(0,18),(0,19),(0,20),(0,21),(0,22),(0,24),(0,25),(0,29),(0,31),(1,23),(0,26),(0,27),(1,28),(1,30),(0,32),(0,33),(1,34),(0,35),(0,36),(0,37)] HM (by kernel_rfl) (by kernel_rfl) (by repeat (first|exact qp_body|refine qp_then ?_|refine qp_block ?_)) (by kernel_rfl) rfl ?_;intro HQ HS W1 HM1;replace HM:=HM1;clear HM1)|(refine gGP ?_;first|refine gp (p_move rfl) ?_|refine gp (p_assign rfl) ?_|(refine gGB ?_;first|refine gp (p_lss rfl rfl) ?_|refine gp (p_gtr rfl rfl) ?_)|refine gp (p_field rfl (by simp only [Nat.reduceAdd];rfl)) ?_|refine gp (p_fieldo rfl (by simp only [Nat.reduceAdd];rfl)) ?_|refine gp (p_indexr HM rfl (by first|with_reducible rfl|omega) rfl (by omega) (by omega)) ?_|refine gp (p_len rfl) ?_|refine gp (p_slen rfl) ?_|refine gp (p_not rfl) ?_|refine gp (p_pick1 rfl (by (simp;omega)) rfl) ?_|refine gp (p_pick0 rfl (by (simp;omega)) rfl) ?_)|(refine gGV ?_;refine gv (p_load rfl) ?_)|(refine gL ?_;first|refine s_gp rfl rfl ?_|refine s_gv HM rfl ?_|(refine gCall ?_;(refine s_fn rfl rfl ?_;(go_at_call 39;refine (l1In_c _ _ _ _).mono ?_;rintro e W1 ⟨rfl,rfl⟩;refine ⟨_,rfl,?_⟩)))|refine l_nil ?_)|(refine gC ?_;first|refine c_seq ?_|refine c_region ?_|refine c_block ?_|refine c_skip ?_|refine c_ret ?_|refine c_yes rfl (by first|rfl|(simp;omega)) ?_)|(refine gN ?_;first|refine n_then ?_|refine r_then ?_|refine r_block ?_|refine d_back (by exact HM) ?_)|(refine gD ?_;first|refine d_next rfl ?_|refine d_done ?_)|(refine gO ?_;first|refine d_gp HQ HS rfl ?_|refine d_gv HQ HS rfl ?_|refine d_one ?_|refine d_gpg HQ HS rfl rfl rfl (by first|rfl|(simp;omega)) rfl ?_|refine d_gvg HQ HS rfl rfl rfl (by first|rfl|(simp;omega)) rfl ?_|refine d_off (.inl rfl) HQ HS rfl rfl rfl rfl (by first|rfl|(simp;omega)) rfl rfl ?_|refine d_off_un (.inl rfl) HQ HS rfl rfl rfl rfl rfl rfl ?_|refine d_off_un (.inr rfl) HQ HS rfl rfl rfl rfl rfl rfl ?_))
      exact ret_tmp rfl rfl ⟨by rw [worldB,allN_fail hlt3 (by rw [hb];simp [b2])];simp,HM.sb⟩
    by_cases b3 : 0 < k
    rotate_left
    · repeat (first|(refine gGV ?_;refine gv (p_loadrc rfl rfl) ?_)|(refine gR ?_;refine d_start [] [(0,0),(0,2),(1,1),(0,3),(0,4),(1,5),(2,6),(0,7),(0,8),(0,9),(0,11),(1,10),(0,12),(0,13),(1,14),(0,15),(0,16),(0,17),(0,18),(0,19),(0,20),(0,21),(0,22),(0,24),(0,25),(0,29),(0,31),(1,23),(0,26),(0,27),(1,28),(1,30),(0,32),(0,33),(1,34),(0,35),(0,36),(0,37)] HM (by kernel_rfl) (by kernel_rfl) (by repeat (first|exact qp_body|refine qp_then ?_|refine qp_block ?_)) (by kernel_rfl) rfl ?_;intro HQ HS W1 HM1;replace HM:=HM1;clear HM1)|(refine gGP ?_;first|refine gp (p_move rfl) ?_|refine gp (p_assign rfl) ?_|(refine gGB ?_;first|refine gp (p_lss rfl rfl) ?_|refine gp (p_gtr rfl rfl) ?_|refine gp (p_add rfl rfl (by exact wr (by omega) (by omega))) ?_)|refine gp (p_field rfl (by simp only [Nat.reduceAdd];rfl)) ?_|refine gp (p_fieldo rfl (by simp only [Nat.reduceAdd];rfl)) ?_|refine gp (p_indexr HM rfl (by first|with_reducible rfl|omega) rfl (by omega) (by omega)) ?_|refine gp (p_len rfl) ?_|refine gp (p_slen rfl) ?_|refine gp (p_not rfl) ?_|refine gp (p_pick0 rfl (by (simp;omega)) rfl) ?_)|(refine gGV ?_;refine gv (p_load rfl) ?_)|(refine gL ?_;first|refine s_gp rfl rfl ?_|refine s_gv HM rfl ?_|(refine gCall ?_;(refine s_fn rfl rfl ?_;(go_at_call 39;refine (l1In_c _ _ _ _).mono ?_;rintro e W1 ⟨rfl,rfl⟩;refine ⟨_,rfl,?_⟩)))|refine l_nil ?_)|(refine gC ?_;first|refine c_seq ?_|refine c_region ?_|refine c_block ?_|refine c_skip ?_|refine c_yes rfl (by (simp;omega)) ?_|refine c_no rfl (by rfl) ?_)|(refine gN ?_;first|refine n_then ?_|refine n_block ?_|refine d_back (by exact HM) ?_)|(refine gD ?_;first|refine d_next rfl ?_|refine d_done ?_)|(refine gO ?_;first|refine d_gp HQ HS rfl ?_|refine d_gv HQ HS rfl ?_|refine d_one ?_|refine d_gpg HQ HS rfl rfl rfl (by first|rfl|(simp;omega)) rfl ?_|refine d_gvg HQ HS rfl rfl rfl (by first|rfl|(simp;omega)) rfl ?_|refine d_off (.inl rfl) HQ HS rfl rfl rfl rfl (by (simp;omega)) rfl rfl ?_|refine d_off (.inr rfl) HQ HS rfl rfl rfl rfl (by (simp;omega)) rfl rfl ?_))
      exact n_round (k + 1) (by repeat (first|exact trivial|refine And.intro (by first|rfl|exact look_int rfl (by omega)) ?_)) ⟨by omega,allN_succ hp3 (by rw [hb];simp [b1,b2,b3]),HM.sb⟩ (by omega)
    have b3i : (0 : Int) < k:=by omega
    by_cases b4 : x.fixed[k].index ≤ (rdR (rFix false) x.fixed ((k : Int) - 1)).index
    · repeat (first|(refine gGV ?_;refine gv (p_loadrc rfl rfl) ?_)|(refine gR ?_;refine d_start [] [(0,0),(0,2),(1,1),(0,3),(0,4),(1,5),(2,6),(0,7),(0,8),(0,9),(0,11),(1,10),(0,12),(0,13),(1,14),(0,15),(0,16),(0,17),(0,18),(0,19),(0,20),(0,21),(0,22),(0,24),(0,25),(0,29),(0,31),(1,23),(0,26),(0,27),(1,28),(1,30),(0,32),(0,33),(1,34),(0,35),(0,36),(0,37)] HM (by kernel_rfl) (by kernel_rfl) (by repeat (first|exact qp_body|refine qp_then ?_|refine qp_block ?_)) (by kernel_rfl) rfl ?_;intro HQ HS W1 HM1;replace HM:=HM1;clear HM1)|(refine gGP ?_;first|refine gp (p_move rfl) ?_|refine gp (p_assign rfl) ?_|(refine gGB ?_;first|refine gp (p_lss rfl rfl) ?_|refine gp (p_gtr rfl rfl) ?_|refine gp (p_geq rfl rfl) ?_|refine gp (p_sub rfl rfl (by exact wr (by omega) (by omega))) ?_)|refine gp (p_field rfl (by simp only [Nat.reduceAdd];rfl)) ?_|refine gp (p_fieldo rfl (by simp only [Nat.reduceAdd];rfl)) ?_|refine gp (p_indexr HM rfl (by first|with_reducible rfl|omega) rfl (by omega) (by omega)) ?_|refine gp (p_len rfl) ?_|refine gp (p_slen rfl) ?_|refine gp (p_not rfl) ?_|refine gp (p_pick1 rfl (by (simp;omega)) rfl) ?_|refine gp (p_pick0 rfl (by (simp;omega)) rfl) ?_)|(refine gGV ?_;first|refine gv (p_load rfl) ?_|refine gv (p_loadr rfl rfl (by omega) (by omega) rfl) ?_)|(refine gL ?_;first|refine s_gp rfl rfl ?_|refine s_gv HM rfl ?_|(refine gCall ?_;(refine s_fn rfl rfl ?_;(go_at_call 39;refine (l1In_c _ _ _ _).mono ?_;rintro e W1 ⟨rfl,rfl⟩;refine ⟨_,rfl,?_⟩)))|refine l_nil ?_)|(refine gC ?_;first|refine c_seq ?_|refine c_region ?_|refine c_block ?_|refine c_skip ?_|refine c_ret ?_|refine c_yes rfl (by (simp;omega)) ?_)|(refine gN ?_;first|refine n_then ?_|refine r_then ?_|refine r_block ?_|refine d_back (by exact HM) ?_)|(refine gD ?_;first|refine d_next rfl ?_|refine d_done ?_)|(refine gO ?_;first|refine d_gp HQ HS rfl ?_|refine d_gv HQ HS rfl ?_|refine d_one ?_|refine d_gpg HQ HS rfl rfl rfl (by first|rfl|(simp;omega)) rfl ?_|refine d_gvg HQ HS rfl rfl rfl (by (simp;omega)) rfl ?_))
      exact ret_tmp rfl rfl ⟨by rw [worldB,allN_fail hlt3 (by rw [hb];simp [b3,b4])];simp,HM.sb⟩
    repeat (first|(refine gGV ?_;refine gv (p_loadrc rfl rfl) ?_)|(refine gR ?_;refine d_start [] [(0,0),(0,2),(1,1),(0,3),(0,4),(1,5),(2,6),(0,7),(0,8),(0,9),(0,11),(1,10),(0,12),(0,13),(1,14),(0,15),(0,16),(0,17),(0,18),(0,19),(0,20),(0,21),(0,22),(0,24),(0,25),(0,29),(0,31),(1,23),(0,26),(0,27),(1,28),(1,30),(0,32),(0,33),(1,34),(0,35),(0,36),(0,37)] HM (by kernel_rfl) (by kernel_rfl) (by repeat (first|exact qp_body|refine qp_then ?_|refine qp_block ?_)) (by kernel_rfl) rfl ?_;intro HQ HS W1 HM1;replace HM:=HM1;clear HM1)|(refine gGP ?_;first|refine gp (p_move rfl) ?_|refine gp (p_assign rfl) ?_|(refine gGB ?_;first|refine gp (p_lss rfl rfl) ?_|refine gp (p_gtr rfl rfl) ?_|refine gp (p_geq rfl rfl) ?_|refine gp (p_add rfl rfl (by first|exact wr (by omega) (by omega)|rfl)) ?_|refine gp (p_sub rfl rfl (by exact wr (by omega) (by omega))) ?_)|refine gp (p_field rfl (by simp only [Nat.reduceAdd];rfl)) ?_|refine gp (p_fieldo rfl (by simp only [Nat.reduceAdd];rfl)) ?_|refine gp (p_indexr HM rfl (by first|with_reducible rfl|omega) rfl (by omega) (by omega)) ?_|refine gp (p_len rfl) ?_|refine gp (p_slen rfl) ?_|refine gp (p_not rfl) ?_|refine gp (p_pick1 rfl (by (simp;omega)) rfl) ?_|refine gp (p_pick0 rfl (by (simp;omega)) rfl) ?_)|(refine gGV ?_;first|refine gv (p_load rfl) ?_|refine gv (p_loadr rfl rfl (by omega) (by omega) rfl) ?_)|(refine gL ?_;first|refine s_gp rfl rfl ?_|refine s_gv HM rfl ?_|(refine gCall ?_;(refine s_fn rfl rfl ?_;(go_at_call 39;refine (l1In_c _ _ _ _).mono ?_;rintro e W1 ⟨rfl,rfl⟩;refine ⟨_,rfl,?_⟩)))|refine l_nil ?_)|(refine gC ?_;first|refine c_seq ?_|refine c_region ?_|refine c_block ?_|refine c_skip ?_|refine c_yes rfl (by (simp;omega)) ?_|refine c_no rfl (by (simp;omega)) ?_)|(refine gN ?_;first|refine n_then ?_|refine n_block ?_|refine d_back (by exact HM) ?_)|(refine gD ?_;first|refine d_next rfl ?_|refine d_done ?_)|(refine gO ?_;first|refine d_gp HQ HS rfl ?_|refine d_gv HQ HS rfl ?_|refine d_one ?_|refine d_gpg HQ HS rfl rfl rfl (by first|rfl|(simp;omega)) rfl ?_|refine d_gvg HQ HS rfl rfl rfl (by (simp;omega)) rfl ?_))
    exact n_round (k + 1) (by repeat (first|exact trivial|refine And.intro (by first|rfl|exact look_int rfl (by omega)) ?_)) ⟨by omega,allN_succ hp3 (by rw [hb];simp [b1,b2,b4]),HM.sb⟩ (by omega)
  obtain rfl : k = x.fixed.length:=by omega
  repeat (first|(refine gGP ?_;first|refine gp (p_move rfl) ?_|refine gp (p_assign rfl) ?_|(refine gGB ?_;refine gp (p_lss rfl rfl) ?_)|refine gp (p_field rfl (by simp only [Nat.reduceAdd];rfl)) ?_|refine gp (p_len rfl) ?_)|(refine gGV ?_;refine gv (p_load rfl) ?_)|(refine gL ?_;first|refine s_gp rfl rfl ?_|refine s_gv HM rfl ?_|refine l_nil ?_)|(refine gC ?_;first|refine c_seq ?_|refine c_region ?_|refine c_exit ?_|refine c_ret ?_|refine c_no rfl (by first|(simp;done)|fail) ?_)|(refine gN ?_;first|refine n_then ?_|refine x_then ?_|refine x_here ?_))
  exact ret_tmp rfl rfl ⟨by rw [worldB,hp,hp2,hp3];simp [c1,c2],HM.sb⟩
end Go.Proofs.YtampmicahnnebaaGreat.Sp
namespace Go.Proofs.YtampmicahnnebaaGreat.Sp
open Go Go.RowKit
set_option maxRecDepth 10000
set_option maxHeartbeats 4000000
variable {w0 W : World} {L : List Asn} {A : Option Addr} {c : Nat}
def SlotsAt (k : Int) (ys : List Slot) : Prop:=∀ j : Nat,j < ys.length → rd tSlot ys j = ⟨k + 2 * j,mt (k + 2 * j + 1).toNat⟩
def IntsAt (k : Int) (ys : List Int) : Prop:=∀ j : Nat,j < ys.length → rd tInt ys j = k + j
def StrsAt (k : Int) (ys : List ByteArray) : Prop:=∀ j : Nat,j < ys.length → rd tStr ys j = mt (k + j).toNat
structure MsgAt (p : Int) (l : Nat) (m : Msg) : Prop where
  kind : m.kind = p
  frm : m.frm = p + 1
  to : m.to = p + 1 + 1
  ballot : m.ballot = p + 1 + 1 + 1
  index : m.index = p + 1 + 1 + 1 + 1
  known : m.known = p + 1 + 1 + 1 + 1 + 1
  text : m.text = mt (p + 1 + 1 + 1 + 1 + 1 + 1).toNat
  len : m.slots.length = l
  slots : SlotsAt (p + 1 + 1 + 1 + 1 + 1 + 1 + 1) m.slots
structure AckAt (p : Int) (l : Nat) (m : Ack) : Prop where
  index : m.index = p
  len : m.frm.length = l
  frm : IntsAt (p + 1) m.frm
def su (ls : List Nat) (j : Nat) : Nat:=(ls.take j).sum
def lsM (xs : List Msg) : List Nat:=xs.map (fun m=>m.slots.length)
def lsA (xs : List Ack) : List Nat:=xs.map (fun m=>m.frm.length)
def MsgsAt (k : Int) (ls : List Nat) (ys : List Msg) : Prop:=ys.length = ls.length ∧ ∀ j (h : j < ys.length) (h2 : j < ls.length),MsgAt (k + 7 * j + 2 * su ls j) ls[j] ys[j]
def AcksAt (k : Int) (ls : List Nat) (ys : List Ack) : Prop:=ys.length = ls.length ∧ ∀ j (h : j < ys.length) (h2 : j < ls.length),AckAt (k + j + su ls j) ls[j] ys[j]
def pH (x : Rcd) (k : Int) : Int:=k + 2 * x.ss.length + 2 * x.ds.length
def pW (x : Rcd) (k : Int) : Int:=pH x k + 7 * x.held.length + 2 * su (lsM x.held) x.held.length
def pB (x : Rcd) (k : Int) : Int:=pW x k + x.wishes.length + x.yes.length
def pA (x : Rcd) (k : Int) : Int:=pB x k + 2 * x.best.length
def pE (x : Rcd) (k : Int) : Int:=pA x k + x.acks.length + su (lsA x.acks) x.acks.length
structure RcdAt (x : Rcd) (k r : Int) (y : Rcd) : Prop where
  e : r = pE x k
  pos : 0 < r
  sc : ∀ i,encRcd y i = encRcd x i
  ss : y.ss.length = x.ss.length
  ds : y.ds.length = x.ds.length
  wi : y.wishes.length = x.wishes.length
  ye : y.yes.length = x.yes.length
  be : y.best.length = x.best.length
  ssAt : SlotsAt k y.ss
  dsAt : SlotsAt (k + 2 * x.ss.length) y.ds
  held : MsgsAt (pH x k) (lsM x.held) y.held
  wiAt : StrsAt (pW x k) y.wishes
  yeAt : IntsAt (pW x k + x.wishes.length) y.yes
  beAt : SlotsAt (pB x k) y.best
  acks : AcksAt (pA x k) (lsA x.acks) y.acks
end Go.Proofs.YtampmicahnnebaaGreat.Sp
namespace Go.Proofs.YtampmicahnnebaaGreat.Sp
open Go Go.RowKit
set_option maxRecDepth 10000
set_option maxHeartbeats 1000000
variable {w0 W : World} {L : List Asn}
end Go.Proofs.YtampmicahnnebaaGreat.Sp
namespace Go.Proofs.YtampmicahnnebaaGreat.Sp
open Go Go.RowKit
set_option maxRecDepth 10000
set_option maxHeartbeats 1000000
variable {w0 W : World} {L : List Asn}
def fallL (x : Rcd) : Rcd:=if validB x = true then ⟨x.number,x.of,false,x.sp,x.sk,x.ss,x.sp,x.sk,x.ss,[],[],false,false,0,[],[],[],0⟩ else zeroR
theorem specRecFall (x : Rcd) (i : AtRcd) (h : RoRcd false w0 x i) (hn : SmallR x) (HM : Mem w0 W L) : Calls Tryz.prog 110 #[.agg (encRcd x i).toArray] W fun e W'=>∃ j,e = .returned (.agg (encRcd (fallL x) j).toArray) ∧ Mem w0 W' (partRcd 91 40 9 3 66 (fallL x) j ++ L):=by
  refine enter Tryz.func110 rfl Tryz.ntmps110 [(0,.agg (encRcd x i).toArray)] rfl ⟨rfl,trivial⟩ ?_
  have h0:=h
  unfold encRcd
  by_cases hv : validB x = true
  rotate_left
  · simp only [Bool.not_eq_true] at hv
    repeat (first|refine Y ?_|(refine qs ?_;clear HM;intro W1 HM)|(refine qf ?_;go_at_call 9;refine (specValid x i h0 hn HM).mono ?_;rintro e W1 ⟨rfl,HM1⟩;refine ⟨_,rfl,?_⟩;replace HM:=HM1;clear HM1)|(refine qg ?_;clear HM;intro g W1 HM))
    have HM2:=HM.zeroR 91 40 9 3 66
    simp only [partRcd,zeroR,atZ,List.cons_append,List.nil_append] at HM2
    have e : fallL x = zeroR:=by simp [fallL,hv]
    rw [e]
    exact ret_cell HM2 rfl rfl rfl ⟨atZ,rfl,by simp only [partRcd,zeroR,atZ,List.cons_append,List.nil_append];exact HM2.sb⟩
  repeat (first|(refine gR ?_;refine d_start [11] [(0,0),(0,2),(0,4),(0,7),(1,1),(1,3),(1,5),(1,8),(2,6),(2,9),(2,10),(3,11)] HM (by kernel_rfl) (by kernel_rfl) qq (by kernel_rfl) rfl ?_;intro HQ HS W1 HM1;replace HM:=HM1;clear HM1)|refine Y ?_|(refine qs ?_;clear HM;intro W1 HM)|(refine qf ?_;first|(go_at_call 9;refine (specValid x i h0 hn HM).mono ?_;rintro e W1 ⟨rfl,HM1⟩;refine ⟨_,rfl,?_⟩;replace HM:=HM1;clear HM1)|(go_at_call 25;refine (l1Disk_c _ _ h0.ss hn.ss HM).mono ?_;rintro e W1 ⟨Ad,cd,rfl,HM1⟩;refine ⟨_,rfl,?_⟩;replace HM:=HM1;clear HM1))|(refine qg ?_;clear HM;intro g W1 HM))
  have HM2:=HM.zeroR 91 40 9 3 66
  simp only [partRcd,zeroR,atZ,List.cons_append,List.nil_append] at HM2
  have e : fallL x = _:=if_pos hv
  rw [e]
  exact ret_cell HM2 rfl rfl rfl ⟨⟨(_,_),(_,_),(_,_),(_,_),(_,_),(_,_),(_,_)⟩,rfl,by simp only [partRcd,List.cons_append,List.nil_append];exact HM2.sb⟩
end Go.Proofs.YtampmicahnnebaaGreat.Sp
namespace Go.Proofs.YtampmicahnnebaaGreat.Sp
open Go Go.RowKit
set_option maxRecDepth 10000
set_option maxHeartbeats 1000000
variable {w0 W : World} {L : List Asn}
def riseL (x : Rcd) : Rcd:=if validB x = true then { x with up:=true } else zeroR
theorem specRecRise (x : Rcd) (i : AtRcd) (h : RoRcd false w0 x i) (hn : SmallR x) (HM : Mem w0 W L) : Calls Tryz.prog 111 #[.agg (encRcd x i).toArray] W fun e W'=>∃ j,e = .returned (.agg (encRcd (riseL x) j).toArray) ∧ Mem w0 W' (partRcd 91 40 9 3 66 (riseL x) j ++ L):=by
  refine enter Tryz.func111 rfl Tryz.ntmps111 [(0,.agg (encRcd x i).toArray)] rfl ⟨rfl,trivial⟩ ?_
  have h0:=h
  unfold encRcd
  by_cases hv : validB x = true
  rotate_left
  · simp only [Bool.not_eq_true] at hv
    repeat (first|refine Y ?_|(refine qs ?_;clear HM;intro W1 HM)|(refine qf ?_;go_at_call 9;refine (specValid x i h0 hn HM).mono ?_;rintro e W1 ⟨rfl,HM1⟩;refine ⟨_,rfl,?_⟩;replace HM:=HM1;clear HM1)|(refine qg ?_;clear HM;intro g W1 HM))
    have HM2:=HM.zeroR 91 40 9 3 66
    simp only [partRcd,zeroR,atZ,List.cons_append,List.nil_append] at HM2
    have e : riseL x = zeroR:=by simp [riseL,hv]
    rw [e]
    exact ret_cell HM2 rfl rfl rfl ⟨atZ,rfl,by simp only [partRcd,zeroR,atZ,List.cons_append,List.nil_append];exact HM2.sb⟩
  repeat (first|refine Y ?_|(refine qs ?_;clear HM;intro W1 HM)|(refine qf ?_;first|(go_at_call 9;refine (specValid x i h0 hn HM).mono ?_;rintro e W1 ⟨rfl,HM1⟩;refine ⟨_,rfl,?_⟩;replace HM:=HM1;clear HM1)|(go_at_call 24;refine (l2Copy_c x _ h0 hn HM).mono ?_;rintro e W1 ⟨j,rfl,HM1⟩;refine ⟨_,rfl,?_⟩;replace HM:=HM1;clear HM1;simp only [partRcd,List.cons_append,List.nil_append] at HM;simp only [encRcd]))|(refine qg ?_;clear HM;intro g W1 HM))
  have e : riseL x = _:=if_pos hv
  rw [e]
  exact ret_cell HM rfl rfl rfl ⟨⟨(_,_),(_,_),(_,_),(_,_),(_,_),(_,_),(_,_)⟩,rfl,by simp only [partRcd,List.cons_append,List.nil_append];exact HM.sb⟩
end Go.Proofs.YtampmicahnnebaaGreat.Sp
namespace Go.Proofs.YtampmicahnnebaaGreat.Sp
open Go Go.RowKit
set_option maxRecDepth 10000
structure FixP (xs : List Fix) : Prop where
  all : ∀ f ∈ xs,(1 ≤ f.index ∧ f.index ≤ 60) ∧ f.text.size ≤ 100
  sorted : xs.Pairwise (fun a b=>a.index < b.index)
structure WP (x : Wld) : Prop where
  n1 : 1 ≤ x.recs.length
  n5 : x.recs.length ≤ 5
  fl : x.flight.length ≤ 600
  recs : ∀ k (h : k < x.recs.length),VR x.recs[k] ∧ x.recs[k].number = (k : Int) + 1 ∧ x.recs[k].of = x.recs.length
  msg : ∀ m ∈ x.flight,MsgP m x.recs.length
  fix : FixP x.fixed
theorem worldB_iff {x : Wld} : worldB x = true ↔ WP x:=by
  have hr : allN (recB x) x.recs.length = true ↔ ∀ k (h : k < x.recs.length),VR x.recs[k] ∧ x.recs[k].number = (k : Int) + 1 ∧ x.recs[k].of = x.recs.length:=by
    rw [allN_iff]
    constructor
    · intro h k hk
      have h2:=h k hk
      rw [recB_at hk,Bool.and_eq_true,Bool.and_eq_true,decide_eq_true_eq,decide_eq_true_eq] at h2
      exact ⟨validB_iff.1 h2.1.1,h2.1.2,h2.2⟩
    · intro h k hk
      obtain ⟨h1,h2,h3⟩:=h k hk
      rw [recB_at hk,Bool.and_eq_true,Bool.and_eq_true,decide_eq_true_eq,decide_eq_true_eq]
      exact ⟨⟨validB_iff.2 h1,h2⟩,h3⟩
  have hm : allN (fun j=>msgB (rdR (rMsg false) x.flight j) x.recs.length) x.flight.length = true ↔ ∀ m ∈ x.flight,MsgP m x.recs.length:=by
    rw [allN_iff]
    constructor
    · intro h m hm
      obtain ⟨i,hi,rfl⟩:=List.getElem_of_mem hm
      have h2:=h i hi
      rw [rdR_at hi] at h2
      exact msgB_iff.1 h2
    · intro h j hj
      rw [rdR_at hj]
      exact msgB_iff.2 (h _ (List.getElem_mem hj))
  have hf : allN (fixB x.fixed) x.fixed.length = true ↔ FixP x.fixed:=by
    have ha:=adj_b (D:=rFix false) (f:=fun n=>n.index) (xs:=x.fixed)
    simp only [allN_iff,fixB,Bool.and_eq_true,decide_eq_true_eq,Bool.not_eq_true',decide_eq_false_iff_not]
    constructor
    · intro h
      refine ⟨fun n hn=>?_,ha.1 (fun j hj=>(h j hj).2)⟩
      obtain ⟨i,hi,rfl⟩:=List.getElem_of_mem hn
      have:=(h i hi).1
      rw [rdR_at hi] at this
      exact ⟨this.1,by omega⟩
    · rintro ⟨h1,h2⟩ j hj
      refine ⟨?_,ha.2 h2 j hj⟩
      rw [rdR_at hj]
      have:=h1 _ (List.getElem_mem hj)
      exact ⟨this.1,by omega⟩
  simp only [worldB,Bool.and_eq_true,decide_eq_true_eq,Bool.not_eq_true',decide_eq_false_iff_not,hr,hm,hf]
  constructor
  · rintro ⟨⟨⟨⟨⟨h1,h2⟩,h3⟩,h4⟩,h5⟩,h6⟩
    exact ⟨by omega,by omega,by omega,h4,h5,h6⟩
  · rintro ⟨h1,h2,h3,h4,h5,h6⟩
    exact ⟨⟨⟨⟨by omega,by omega⟩,h4⟩,h5⟩,h6⟩
theorem wp_set {x : Wld} {k : Nat} {r : Rcd} (h : WP x) (hk : k < x.recs.length) (hr : VR r) (hn : r.number = (k : Int) + 1) (ho : r.of = x.recs.length) : WP { x with recs:=x.recs.set k r }:=by
  refine ⟨by simpa using h.n1,by simpa using h.n5,h.fl,fun j hj=>?_,fun m hm=>by simpa using h.msg m hm,h.fix⟩
  simp only [List.length_set] at hj ⊢
  rw [List.getElem_set]
  split
  · rename_i e;subst e;exact ⟨hr,hn,ho⟩
  · exact h.recs j hj
theorem wp_setK {x : Wld} {k : Nat} {r : Rcd} (h : WP x) (hk : k < x.recs.length) (hr : VR r ∧ Kp x.recs[k] r) : WP { x with recs:=x.recs.set k r } :=
  wp_set h hk hr.1 (hr.2.number.trans (h.recs k hk).2.1) (hr.2.of.trans (h.recs k hk).2.2)
theorem fixp_ins {xs : List Fix} {k : Nat} {f : Fix} (h : FixP xs) (hf : (1 ≤ f.index ∧ f.index ≤ 60) ∧ f.text.size ≤ 100) (hlo : ∀ j (hj : j < xs.length),j < k → xs[j].index < f.index) (hhi : ∀ j (hj : j < xs.length),k ≤ j → f.index < xs[j].index) : FixP (xs.take k ++ [f] ++ xs.drop k):=by
  refine ⟨fun g hg=>?_,?_⟩
  · simp only [List.mem_append,List.mem_singleton] at hg
    rcases hg with (hg|rfl)|hg
    · exact h.all g (List.mem_of_mem_take hg)
    · exact hf
    · exact h.all g (List.mem_of_mem_drop hg)
  · rw [List.append_assoc,List.pairwise_append]
    refine ⟨h.sorted.take,?_,?_⟩
    · rw [List.singleton_append,List.pairwise_cons]
      refine ⟨fun g hg=>?_,h.sorted.drop⟩
      obtain ⟨j,hj,rfl⟩:=List.getElem_of_mem hg
      rw [List.length_drop] at hj
      rw [List.getElem_drop]
      exact hhi _ (by omega) (by omega)
    · intro a ha b hb
      obtain ⟨j,hj,rfl⟩:=List.getElem_of_mem ha
      rw [List.length_take] at hj
      rw [List.getElem_take]
      have hlt:=hlo j (by omega) (by omega)
      simp only [List.singleton_append,List.mem_cons] at hb
      rcases hb with rfl|hb
      · exact hlt
      · obtain ⟨q,hq,rfl⟩:=List.getElem_of_mem hb
        rw [List.length_drop] at hq
        rw [List.getElem_drop]
        have:=hhi (k + q) (by omega) (by omega)
        omega
theorem fix_hi {xs : List Fix} {k : Nat} {ix : Int} (h : FixP xs) (hk : ∀ hk : k < xs.length,ix < xs[k].index) : ∀ j (hj : j < xs.length),k ≤ j → ix < xs[j].index:=by
  intro j hj hkj
  have h1:=hk (by omega)
  rcases Nat.lt_or_ge k j with hlt|hge
  · have:=List.pairwise_iff_getElem.1 h.sorted k j (by omega) hj hlt;omega
  · obtain rfl : k = j:=by omega
    exact h1
theorem fix_len {xs : List Fix} (h : FixP xs) : xs.length ≤ 60:=by
  have key : ∀ k (hk : k < xs.length),(k : Int) + 1 ≤ xs[k].index:=by
    intro k
    induction k with
    | zero=>intro hk;have:=(h.all _ (List.getElem_mem hk)).1;omega
    | succ k ih =>
      intro hk
      have h1:=ih (by omega)
      have h2:=List.pairwise_iff_getElem.1 h.sorted k (k + 1) (by omega) hk (by omega)
      omega
  rcases Nat.lt_or_ge 60 xs.length with h1|h1
  · have h2:=key 60 h1
    have h3:=(h.all _ (List.getElem_mem h1)).1
    omega
  · exact h1
theorem wp_fixed {x : Wld} {fx : List Fix} (h : WP x) (hf : FixP fx) : WP { x with fixed:=fx }:=⟨h.n1,h.n5,h.fl,h.recs,h.msg,hf⟩
theorem VR.small {x : Rcd} (h : VR x) : SmallR x:=by
  have h1:=h.safe.slots.1
  have h2:=h.disk.slots.1
  have h3:=h.heldLen
  have h4:=h.wishes.len
  have h5:=nums_len h.yes h.of5
  have h6:=h.best.1
  have h7:=acks_len h.acks
  exact ⟨by omega,by omega,by omega,fun y hy=>by have:=((h.held y hy).1).slots.1;omega,by omega,by omega,by omega,by omega,fun y hy=>by have:=nums_len (h.acks.all y hy).2 h.of5;omega⟩
theorem WP.small {x : Wld} (h : WP x) : SmallW x:=by
  have h1:=h.n5
  have h2:=h.fl
  have h3:=fix_len h.fix
  refine ⟨by omega,fun y hy=>?_,by omega,fun y hy=>by have:=(h.msg y hy).slots.1;omega,by omega⟩
  obtain ⟨k,hk,rfl⟩:=List.getElem_of_mem hy
  exact (h.recs k hk).1.small
theorem vr_fall {x : Rcd} (h : VR x) : VR (fallL x) ∧ (fallL x).number = x.number ∧ (fallL x).of = x.of:=by
  rw [fallL,if_pos (validB_iff.2 h)]
  refine ⟨⟨h.of1,h.of5,h.n1,h.no,h.safe,h.safe,by simp,⟨by simp,by simp,by simp⟩,by simp,by simp,by simp,nums_nil _,slots_nil,acks_nil _,by simp,by simp,by simp,by simp,fun _ _=>⟨rfl,rfl,rfl,rfl,rfl,rfl⟩,fun _=>⟨⟨rfl,rfl,rfl,rfl,rfl,rfl⟩,rfl,rfl,rfl⟩⟩,rfl,rfl⟩
theorem vr_rise {x : Rcd} (h : VR x) : VR (riseL x) ∧ (riseL x).number = x.number ∧ (riseL x).of = x.of:=by
  rw [riseL,if_pos (validB_iff.2 h)]
  exact ⟨⟨h.of1,h.of5,h.n1,h.no,h.safe,h.disk,h.heldLen,h.wishes,h.h0,h.h1,h.held,h.yes,h.best,h.acks,h.one,h.lead,h.tryA,h.leadY,fun a b=>by obtain ⟨q1,q2,q3,q4,q5,q6⟩:=h.quiet a b;exact ⟨q1,q2,q3,q4,q5,q6⟩,by simp⟩,rfl,rfl⟩
theorem vr_wishL {x : Rcd} {t : ByteArray} (h : VR x) : VR (wishL x t) ∧ Kp x (wishL x t):=by
  rw [wishL,if_pos (validB_iff.2 h)]
  split
  · rename_i hu;exact ⟨vr_wish h hu,kp_wish x t⟩
  · exact ⟨h,Kp.refl x⟩
end Go.Proofs.YtampmicahnnebaaGreat.Sp
namespace Go.Proofs.YtampmicahnnebaaGreat.Sp
open Go Go.RowKit Go.ChangeMaps Go.MapKept
open Go.WideMaps (KeyLaw)
structure CntOk (P : Program) (k : TypeId) (es : Array MapEntry) (clock : Nat) (f : Value → Int) : Prop where
  lt : ∀ x ∈ es.toList,x.born < clock
  nd : (es.toList.map (·.born)).Nodup
  keys : ∀ x ∈ es.toList,∃ l,keyOf P k x.key = some l
  kd : (es.toList.map (·.key)).Nodup
  val : ∀ x ∈ es.toList,x.val = .int .i64 (f x.key)
  none : ∀ key,(∀ x ∈ es.toList,x.key ≠ key) → f key = 0
noncomputable def upd (f : Value → Int) (key : Value) (n : Int) : Value → Int:=fun v=>@ite _ (v = key) (Classical.propDecidable _) n (f v)
def cnt (P : Program) (k b : Nat) (f : Value → Int) : Asn where
  H:=fun W F=>F b ∧ ∃ es clock,W.heap[b]? = some (.map es clock) ∧ CntOk P k es clock f
  mono:=fun h ⟨h1,h2⟩=>⟨h _ h1,h2⟩
  move:=fun h ⟨h1,es,clock,h2,h3⟩=>⟨h1,es,clock,(h _ h1 (Array.getElem?_eq_some_iff.1 h2).1).trans h2,h3⟩
  bound:=fun ⟨h1,es,clock,h2,h3⟩=>⟨⟨h1,(Array.getElem?_eq_some_iff.1 h2).1⟩,es,clock,h2,h3⟩
def half (P : Program) (k t b : Nat) (f : Value → Int) (key : Value) (st : Nat) : Asn where
  H:=fun W F=>F b ∧ ∃ es clock,W.heap[b]? = some (.map es clock) ∧ (∀ w2 : World,w2.heap[b]? = some (.map es clock) → (Instr.lookup t (.map (some b)) key false).run P w2 = .ok (.int .i64 (f key)) w2) ∧ ∀ (w2 : World) (n : Int),w2.heap[b]? = some (.map es clock) → ∃ es' clock',(Instr.entryStore t (.map (some b)) (goInt st) (.int .i64 n)).run P w2 = .ok () (setBlock w2 b (.map es' clock')) ∧ CntOk P k es' clock' (upd f key n)
  mono:=fun h ⟨h1,h2⟩=>⟨h _ h1,h2⟩
  move:=fun h ⟨h1,es,clock,h2,h3⟩=>⟨h1,es,clock,(h _ h1 (Array.getElem?_eq_some_iff.1 h2).1).trans h2,h3⟩
  bound:=fun ⟨h1,es,clock,h2,h3⟩=>⟨⟨h1,(Array.getElem?_eq_some_iff.1 h2).1⟩,es,clock,h2,h3⟩
class CntAt (L : List Asn) (b : Nat) (P : outParam Program) (k : outParam Nat) (f : outParam (Value → Int)) : Prop where mem : ∃ R,L.Perm (cnt P k b f :: R)
instance CntAt.here {P : Program} {k b : Nat} {f : Value → Int} {L : List Asn} : CntAt (cnt P k b f :: L) b P k f:=⟨L,List.Perm.refl _⟩
instance (priority:=low) CntAt.there {P : Program} {k b : Nat} {f : Value → Int} {L : List Asn} {B : Asn} [h : CntAt L b P k f] : CntAt (B :: L) b P k f:=⟨by
  obtain ⟨R,h⟩:=h.mem
  exact ⟨B :: R,(List.Perm.cons B h).trans (List.Perm.swap _ B R)⟩⟩
class HalfAt (L : List Asn) (b : Nat) (P : outParam Program) (k t : outParam Nat) (f : outParam (Value → Int)) (key : outParam Value) (st : outParam Nat) : Prop where mem : ∃ R,L.Perm (half P k t b f key st :: R)
instance HalfAt.here {P : Program} {k t b : Nat} {f : Value → Int} {key : Value} {st : Nat} {L : List Asn} : HalfAt (half P k t b f key st :: L) b P k t f key st:=⟨L,List.Perm.refl _⟩
instance (priority:=low) HalfAt.there {P : Program} {k t b : Nat} {f : Value → Int} {key : Value} {st : Nat} {L : List Asn} {B : Asn} [h : HalfAt L b P k t f key st] : HalfAt (B :: L) b P k t f key st:=⟨by
  obtain ⟨R,h⟩:=h.mem
  exact ⟨B :: R,(List.Perm.cons B h).trans (List.Perm.swap _ B R)⟩⟩
section
variable {P : Program} {n : Nat} {ops : Array Oper} {Q : Exit → Act → World → Prop} {rest : List Oper} {E : Env} {w0 W : World} {L L' : List Asn}
variable {d b k e t st : Nat} {ty : TypeId} {pos : String} {after : Array Edge} {x y z : Operand} {f : Value → Int} {key : Value}
theorem Mem.cnt [hC : CntAt L b P k f] (hm : Mem w0 W L) : ∃ es clock,W.heap[b]? = some (.map es clock) ∧ CntOk P k es clock f:=by
  obtain ⟨R,hp⟩:=hC.mem
  obtain ⟨F,_,⟨_,h⟩,_⟩:=(hm.perm hp).sep
  exact h
def lookP (P : Program) (t b : Nat) (key : Value) (v : Int) : Asn where
  H:=fun W F=>F b ∧ ∃ es clock,W.heap[b]? = some (.map es clock) ∧ ∀ w2 : World,w2.heap[b]? = some (.map es clock) → (Instr.lookup t (.map (some b)) key false).run P w2 = .ok (.int .i64 v) w2
  mono:=fun h ⟨h1,h2⟩=>⟨h _ h1,h2⟩
  move:=fun h ⟨h1,es,clock,h2,h3⟩=>⟨h1,es,clock,(h _ h1 (Array.getElem?_eq_some_iff.1 h2).1).trans h2,h3⟩
  bound:=fun ⟨h1,es,clock,h2,h3⟩=>⟨⟨h1,(Array.getElem?_eq_some_iff.1 h2).1⟩,es,clock,h2,h3⟩
end
end Go.Proofs.YtampmicahnnebaaGreat.Sp
namespace Go.Proofs.YtampmicahnnebaaGreat.Sp
open Go Go.RowKit
set_option maxRecDepth 100000
instance : DecidableEq Slot:=fun a b=>if h : a.ballot = b.ballot ∧ a.text = b.text then isTrue (by cases a;cases b;simp_all) else isFalse (by rintro rfl;exact h ⟨rfl,rfl⟩)
theorem sk_laid : laidOutB Tryz.prog = true:=by kernel_rfl
theorem sk_type : Tryz.prog.keyTypeAt 2 91 = true:=by kernel_rfl
theorem sk_type2 : Tryz.prog.keyType 91 = true:=by kernel_rfl
theorem sk_wide : (match Tryz.prog.underlying 91 with|some (.array _ _)|some (.struct _)=>true|_=>false) = true:=by kernel_rfl
theorem sk_row : Nat.blt 91 Tryz.prog.types.size = true:=by kernel_rfl
theorem sk_cells : Tryz.prog.cellsOf 91 = 2:=by kernel_rfl
theorem sk_cellsI : Tryz.prog.cellsOf 3 = 1:=by kernel_rfl
theorem sk_cellsS : Tryz.prog.cellsOf 9 = 1:=by kernel_rfl
theorem slotLaw : WideMaps.KeyLaw Tryz.prog 91:=deep_law_laid sk_laid (m:=2) (Nat.le_of_ble_eq_true rfl) (Nat.lt_of_lt_of_le (Nat.lt_succ_self _) (Nat.le_of_ble_eq_true sk_row)) sk_type sk_wide
structure SlotK (s : Slot) : Prop where
  lo : -9223372036854775808 ≤ s.ballot
  hi : s.ballot ≤ 9223372036854775807
  txt : s.text.size ≤ maxLen
theorem slotLits (s : Slot) (h : SlotK s) (d : Nat) : Tryz.prog.keyLits (d + 2) 91 (encSlot s ()) = some [.int .i64 s.ballot,.string s.text.data.toList]:=by
  obtain ⟨h1,h2,h3⟩:=h
  have hw : (Lit.int .i64 s.ballot).wf = true:=WalkArith.wf_i64 ⟨h1,h2⟩
  unfold Program.keyLits
  simp only [Tryz.underlying91]
  simp [encSlot,sk_cells,Program.keyLits,sk_cellsI,sk_cellsS,Tryz.underlying3,Tryz.underlying9,hw,h3]
theorem slotKey (s : Slot) (h : SlotK s) : ∃ l,keyOf Tryz.prog 91 (.agg (encSlot s ()).toArray) = some l:=by
  have hrow : 91 < Tryz.prog.types.size:=Nat.lt_of_lt_of_le (Nat.lt_succ_self _) (Nat.le_of_ble_eq_true sk_row)
  obtain ⟨d,hd⟩ : ∃ d,Tryz.prog.types.size + 1 = d + 2:=⟨Tryz.prog.types.size - 1,by omega⟩
  unfold keyOf
  simp only [Tryz.underlying91,sk_type2,hd]
  simp [Value.formed,Tryz.underlying91,sk_cells,Value.cells,slotLits s h d,encSlot]
  exact ⟨_,_,slotLits s h d,rfl⟩
theorem run_slotEq (s u : Slot) (hs : SlotK s) (hu : SlotK u) (W : World) : (Op.equal 91 (.agg (encSlot s ()).toArray) (.agg (encSlot u ()).toArray)).run Tryz.prog W = .ok (decide (s = u)) W:=by
  obtain ⟨ls,h1⟩:=slotKey s hs
  obtain ⟨lu,h2⟩:=slotKey u hu
  obtain ⟨r,hr,hiff⟩:=run_equal_deep W (m:=2) (Nat.le_of_ble_eq_true rfl) sk_type sk_wide h1 h2
  rw [hr]
  have : r = decide (s = u):=by
    rw [Bool.eq_iff_iff,hiff,decide_eq_true_eq]
    constructor
    · intro e
      subst e
      have:=slotLaw.inj h1 h2
      simp only [encSlot,Value.agg.injEq] at this
      cases s;cases u;simp_all
    · rintro rfl
      rw [h1] at h2
      exact Option.some.inj h2
  rw [this]
theorem p_slotEq {E : Env} {x y : Operand} {yt : TypeId} {s u : Slot} (hs : SlotK s) (hu : SlotK u) (hx : ev E x = some (.agg (encSlot s ()).toArray)) (hy : ev E y = some (.agg (encSlot u ()).toArray)) : PV Tryz.prog E (.binOp .eql 91 x y yt) (.bool (decide (s = u))):=⟨fun n a ha dst ty pos after gd W=>by
  have h:=run_slotEq s u hs hu W
  have h2 : (binOp .eql 91 (.agg (encSlot s ()).toArray) (.agg (encSlot u ()).toArray)).run Tryz.prog W = .ok (.bool (decide (s = u))) W:=by
    show ((Op.equal 91 _ _) >>= fun r=>pure (Value.bool r) : Sem Value).run Tryz.prog W = _
    rw [Sem.run_bind,h,Result.andThen_ok,Sem.run_pure]
  simp [execOp,ha.eval hx,ha.eval hy,eqGuard,h2]⟩
end Go.Proofs.YtampmicahnnebaaGreat.Sp
namespace Go.Proofs.YtampmicahnnebaaGreat.Sp
open Go Go.RowKit
set_option maxRecDepth 10000
set_option maxHeartbeats 1000000
variable {w0 W : World} {L : List Asn}
def slA (x : Wld) (ix : Int) (j : Nat) : Option Slot:=if 1 ≤ ix ∧ ix ≤ (rdR (rRcw false) x.recs j).ss.length then some (rdR (rSlot false) (rdR (rRcw false) x.recs j).ss (ix - 1)) else none
theorem slA_in {x : Wld} {ix : Int} {j : Nat} (hj : j < x.recs.length) (h1 : 1 ≤ ix) (h2 : ix ≤ x.recs[j].ss.length) : slA x ix j = some (rdR (rSlot false) x.recs[j].ss (ix - 1)):=by rw [slA,rdR_at hj,if_pos ⟨h1,h2⟩]
theorem slA_out {x : Wld} {ix : Int} {j : Nat} (hj : j < x.recs.length) (h : ¬ (1 ≤ ix ∧ ix ≤ x.recs[j].ss.length)) : slA x ix j = none:=by rw [slA,rdR_at hj,if_neg h]
def cntA (x : Wld) (ix : Int) (s : Slot) : Nat → Nat
  | 0=>0
  | k + 1=>cntA x ix s k + if slA x ix k = some s then 1 else 0
theorem cntA_le (x : Wld) (ix : Int) (s : Slot) : ∀ k,cntA x ix s k ≤ k
  | 0=>Nat.le_refl _
  | k + 1=>by have:=cntA_le x ix s k;rw [cntA];split <;> omega
theorem cntA_two {x : Wld} {ix : Int} {s u : Slot} (h : s ≠ u) : ∀ k,cntA x ix s k + cntA x ix u k ≤ k
  | 0=>Nat.le_refl _
  | k + 1=>by
    have:=cntA_two (x:=x) (ix:=ix) h k
    rw [cntA,cntA]
    by_cases h1 : slA x ix k = some s
    · have h2 : ¬ slA x ix k = some u:=fun e=>h (Option.some.inj (h1.symm.trans e))
      rw [if_pos h1,if_neg h2];omega
    · rw [if_neg h1];split <;> omega
theorem cntA_pos {x : Wld} {ix : Int} {s : Slot} : ∀ {k},0 < cntA x ix s k → ∃ j,j < k ∧ slA x ix j = some s
  | k + 1,h=>by
    rw [cntA] at h
    by_cases h1 : slA x ix k = some s
    · exact ⟨k,by omega,h1⟩
    · rw [if_neg h1] at h
      obtain ⟨j,hj,e⟩:=cntA_pos (k:=k) (by omega)
      exact ⟨j,by omega,e⟩
def MajS (x : Wld) (ix : Int) (s : Slot) : Prop:=0 < s.ballot ∧ x.recs.length < 2 * cntA x ix s x.recs.length
structure IsMaj (x : Wld) (ix : Int) (t : ByteArray) (b : Bool) : Prop where
  yes : b = true → ∃ s,MajS x ix s ∧ t = s.text
  no : b = false → t = ⟨#[]⟩ ∧ ∀ s,¬ MajS x ix s
theorem MajS_one {x : Wld} {ix : Int} {s u : Slot} (hs : MajS x ix s) (hu : MajS x ix u) : s = u:=by
  by_cases h : s = u
  · exact h
  · have:=cntA_two (x:=x) (ix:=ix) h x.recs.length
    have:=hs.2
    have:=hu.2
    omega
theorem IsMaj.one {x : Wld} {ix : Int} {t t' : ByteArray} {b b' : Bool} (h : IsMaj x ix t b) (h' : IsMaj x ix t' b') : t = t' ∧ b = b':=by
  cases b <;> cases b'
  · exact ⟨(h.no rfl).1.trans (h'.no rfl).1.symm,rfl⟩
  · obtain ⟨s,hs,_⟩:=h'.yes rfl;exact absurd hs ((h.no rfl).2 s)
  · obtain ⟨s,hs,_⟩:=h.yes rfl;exact absurd hs ((h'.no rfl).2 s)
  · obtain ⟨s,hs,e⟩:=h.yes rfl
    obtain ⟨u,hu,e'⟩:=h'.yes rfl
    rw [e,e',MajS_one hs hu];exact ⟨rfl,rfl⟩
def SafeP (x : Wld) : Prop:=∀ r ∈ x.recs,∀ s ∈ r.ss,SlotP s
theorem safe_at {x : Wld} (h : SafeP x) {j : Nat} (hj : j < x.recs.length) {ix : Int} (h1 : 1 ≤ ix) (h2 : ix ≤ x.recs[j].ss.length) : SlotP (rdR (rSlot false) x.recs[j].ss (ix - 1)):=by
  rw [rdR_int (by omega) (by omega)]
  exact h _ (List.getElem_mem hj) _ (List.getElem_mem _)
theorem slotK_of {s : Slot} (h : SlotP s) : SlotK s:=⟨by have:=h.lo;omega,by have:=h.hi;omega,by have:=h.txt;unfold maxLen;omega⟩
theorem specMaj (x : Wld) (i : AtW) (ix : Int) (h : RoW false w0 x i) (hn : x.recs.length ≤ 1048576) (hs : SafeP x) (HM : Mem w0 W L) : Calls Tryz.prog 123 #[.agg (encW x i).toArray,.int .i64 ix] W fun e W'=>∃ t b,e = .returned (.tuple #[.string t,.bool b]) ∧ IsMaj x ix t b ∧ Mem w0 W' L:=by
  refine enter Tryz.func123 rfl Tryz.ntmps123 [(0,.agg (encW x i).toArray),(1,_)] rfl ⟨rfl,rfl,trivial⟩ ?_
  have hr:=h.recs
  unfold encW
  replace HM:=HM.rod hr
  repeat (first|refine Y ?_|(refine qg ?_;clear HM;intro g W1 HM))
  refine c_loop (σ:=Nat) (fun k=>[(1,.int .i64 ix),(2,.pointer (some ⟨g,0,none⟩)),(6,.int .i64 k)]) (fun k W1=>k ≤ x.recs.length ∧ (∀ j s,j < k → slA x ix j = some s → s.ballot ≠ 0 → ¬ x.recs.length < 2 * cntA x ix s x.recs.length) ∧ Mem w0 W1 _) (fun k=>x.recs.length - k) 0 U ⟨Nat.zero_le _,fun j s hj=>by omega,HM⟩ ?_
  clear HM
  rintro k W1 ⟨hk,hp,HM⟩
  by_cases hlt : k < x.recs.length
  rotate_left
  · repeat refine Y ?_
    obtain rfl : k = x.recs.length:=by omega
    refine ret_two rfl rfl rfl ⟨_,_,rfl,⟨(fun h=>by cases h),fun _=>⟨rfl,fun s hm=>?_⟩⟩,HM.sb⟩
    obtain ⟨j,hj,e⟩:=cntA_pos (x:=x) (ix:=ix) (s:=s) (k:=x.recs.length) (by have:=hm.2;omega)
    exact hp j s hj e (by have:=hm.1;omega) hm.2
  obtain ⟨cc,⟨j,rfl,hh⟩,HM⟩:=HM.roOpen (A:=i.b0.1) k hlt
  have hss:=hh.ro.ss
  unfold encRcd at HM
  by_cases c1 : ix < 1
  · have hso:=slA_out (ix:=ix) hlt (by omega)
    repeat (first|refine Y ?_|(refine qs ?_;clear HM;intro W1 HM)|(refine qg ?_;clear HM;intro g W1 HM))
    exact n_round (k + 1) U ⟨by omega,fun q s hq e=>by
      by_cases hqk : q = k
      · subst hqk;rw [hso] at e;cases e
      · exact hp q s (by omega) e,HM.sb⟩ (by omega)
  by_cases c2 : (x.recs[k].ss.length : Int) < ix
  · have hso:=slA_out (ix:=ix) hlt (by omega)
    repeat (first|refine Y ?_|(refine qs ?_;clear HM;intro W1 HM)|(refine qg ?_;clear HM;intro g W1 HM))
    exact n_round (k + 1) U ⟨by omega,fun q s hq e=>by
      by_cases hqk : q = k
      · subst hqk;rw [hso] at e;cases e
      · exact hp q s (by omega) e,HM.sb⟩ (by omega)
  have hsi:=slA_in (ix:=ix) hlt (by omega) (by omega)
  have hsp:=safe_at hs hlt (ix:=ix) (by omega) (by omega)
  have hss0:=hss.max
  replace HM:=HM.rod hss
  by_cases c3 : (rdR (rSlot false) x.recs[k].ss (ix - 1)).ballot = 0
  · repeat (first|refine Y ?_|(refine qs ?_;clear HM;intro W1 HM)|(refine qg ?_;clear HM;intro g W1 HM))
    exact n_round (k + 1) U ⟨by omega,fun q s hq e=>by
      by_cases hqk : q = k
      · subst hqk;rw [hsi] at e;cases e;exact fun h=>absurd c3 h
      · exact hp q s (by omega) e,HM.sb⟩ (by omega)
  repeat (first|refine Y ?_|(refine qs ?_;clear HM;intro W1 HM)|(refine qg ?_;clear HM;intro g W1 HM))
  have hcz : cntA x ix (rdR (rSlot false) x.recs[k].ss (ix - 1)) 0 = 0:=rfl
  refine c_loop (σ:=Nat) (fun m=>[(1,.int .i64 ix),(2,.pointer (some ⟨_,0,none⟩)),(6,.int .i64 k),(7,.pointer (some ⟨g,0,none⟩)),(8,.int .i64 (cntA x ix (rdR (rSlot false) x.recs[k].ss (ix - 1)) m)),(9,.int .i64 m)]) (fun m W1=>m ≤ x.recs.length ∧ Mem w0 W1 _) (fun m=>x.recs.length - m) 0 U ⟨Nat.zero_le _,HM⟩ ?_
  clear HM
  rintro m W1 ⟨hm,HM⟩
  have hcl:=cntA_le x ix (rdR (rSlot false) x.recs[k].ss (ix - 1)) m
  by_cases hml : m < x.recs.length
  · have hcs : cntA x ix (rdR (rSlot false) x.recs[k].ss (ix - 1)) (m + 1) = cntA x ix (rdR (rSlot false) x.recs[k].ss (ix - 1)) m + if slA x ix m = some (rdR (rSlot false) x.recs[k].ss (ix - 1)) then 1 else 0:=rfl
    obtain ⟨cc,⟨j2,rfl,hh2⟩,HM⟩:=HM.roOpen (A:=i.b0.1) m hml
    have hss2:=hh2.ro.ss
    have hss20:=hss2.max
    unfold encRcd at HM
    replace HM:=HM.rod hss2
    by_cases d1 : ix ≤ x.recs[m].ss.length
    rotate_left
    · have hso:=slA_out (ix:=ix) hml (by omega)
      rw [hso] at hcs
      simp only [reduceCtorEq,if_false] at hcs
      repeat (first|(refine gR ?_;refine d_start [] [(0,0),(0,1),(1,2),(0,3),(0,4),(0,5),(0,6),(0,8),(0,9),(0,12),(0,14),(0,15),(1,7),(0,10),(1,11),(1,13),(0,16),(1,17),(0,18),(0,19)] HM (by kernel_rfl) (by kernel_rfl) qq (by kernel_rfl) rfl ?_;intro HQ HS W1 HM1;replace HM:=HM1;clear HM1)|refine Y ?_|(refine qs ?_;clear HM;intro W1 HM)|(refine qg ?_;clear HM;intro g W1 HM))
      exact n_round (m + 1) U ⟨by omega,HM.sb⟩ (by omega)
    have hsp2:=safe_at hs hml (ix:=ix) (by omega) d1
    rw [slA_in hml (by omega) d1] at hcs
    have hk1:=slotK_of hsp
    have hk2:=slotK_of hsp2
    by_cases d2 : rdR (rSlot false) x.recs[m].ss (ix - 1) = rdR (rSlot false) x.recs[k].ss (ix - 1)
    · rw [d2,if_pos rfl] at hcs
      repeat (first|(refine gGP ?_;refine gGB ?_;refine gp (p_slotEq hk2 hk1 rfl rfl) ?_)|(refine gR ?_;refine d_start [] [(0,0),(0,1),(1,2),(0,3),(0,4),(0,5),(0,6),(0,8),(0,9),(0,12),(0,14),(0,15),(1,7),(0,10),(1,11),(1,13),(0,16),(1,17),(0,18),(0,19)] HM (by kernel_rfl) (by kernel_rfl) qq (by kernel_rfl) rfl ?_;intro HQ HS W1 HM1;replace HM:=HM1;clear HM1)|refine Y ?_|(refine qs ?_;clear HM;intro W1 HM)|(refine qg ?_;clear HM;intro g W1 HM))
      exact n_round (m + 1) U ⟨by omega,HM.sb⟩ (by omega)
    · rw [if_neg (fun e=>d2 (Option.some.inj e))] at hcs
      repeat (first|(refine gGP ?_;refine gGB ?_;refine gp (p_slotEq hk2 hk1 rfl rfl) ?_)|(refine gR ?_;refine d_start [] [(0,0),(0,1),(1,2),(0,3),(0,4),(0,5),(0,6),(0,8),(0,9),(0,12),(0,14),(0,15),(1,7),(0,10),(1,11),(1,13),(0,16),(1,17),(0,18),(0,19)] HM (by kernel_rfl) (by kernel_rfl) qq (by kernel_rfl) rfl ?_;intro HQ HS W1 HM1;replace HM:=HM1;clear HM1)|refine Y ?_|(refine qs ?_;clear HM;intro W1 HM)|(refine qg ?_;clear HM;intro g W1 HM))
      exact n_round (m + 1) U ⟨by omega,HM.sb⟩ (by omega)
  obtain rfl : m = x.recs.length:=by omega
  by_cases f1 : (x.recs.length : Int) < 2 * (cntA x ix (rdR (rSlot false) x.recs[k].ss (ix - 1)) x.recs.length : Int)
  · repeat refine Y ?_
    refine ret_two rfl rfl rfl ⟨_,_,rfl,⟨fun _=>⟨_,⟨by have:=hsp.lo;omega,by omega⟩,rfl⟩,fun h=>by cases h⟩,HM.sb⟩
  · repeat refine Y ?_
    exact n_round (k + 1) U ⟨by omega,fun q s hq e=>by
      by_cases hqk : q = k
      · subst hqk;rw [hsi] at e;cases e;exact fun _=>by omega
      · exact hp q s (by omega) e,HM.sb⟩ (by omega)
end Go.Proofs.YtampmicahnnebaaGreat.Sp
namespace Go.Proofs.YtampmicahnnebaaGreat.Sp
open Go Go.RowKit
set_option maxRecDepth 10000
set_option maxHeartbeats 2000000
variable {w0 W : World} {L : List Asn}
theorem tickOut_len {x : Rcd} (h : VR x) (hu : x.up = true) : (tickOut x).length ≤ 1000:=by
  obtain ⟨a1,k1⟩:=vr_tick1 h hu
  obtain ⟨a2,k2⟩:=vr_tick2 a1
  have hh:=h.heldLen
  unfold tickOut
  split
  · rename_i c
    obtain ⟨hv3,hl3⟩:=vr_lead1 a2 c
    have b1:=accOut_len (lead1 (tick2 (tick1 x))) ((lead1 (tick2 (tick1 x))).ds.length - (lead1 (tick2 (tick1 x))).dk.toNat) (lead1 (tick2 (tick1 x))).dk.toNat (othL (lead1 (tick2 (tick1 x))) x.held ⟨5,0,0,(lead1 (tick2 (tick1 x))).ballot,0,(lead1 (tick2 (tick1 x))).dk,⟨#[]⟩,[]⟩)
    have b2:=othersL_len (lead1 (tick2 (tick1 x))).number ⟨5,0,0,(lead1 (tick2 (tick1 x))).ballot,0,(lead1 (tick2 (tick1 x))).dk,⟨#[]⟩,[]⟩ (lead1 (tick2 (tick1 x))).of.toNat 1 x.held
    have b3:=hv3.of5
    have b4:=hv3.disk.slots.1
    have b5 : ((lead1 (tick2 (tick1 x))).ds.length - (lead1 (tick2 (tick1 x))).dk.toNat) * (lead1 (tick2 (tick1 x))).of.toNat ≤ 60 * 5:=Nat.mul_le_mul (by omega) (by omega)
    unfold leadOut
    unfold othL at b1 ⊢
    omega
  · omega
theorem recTickO_len {x : Rcd} (h : validB x = true) : (recTickO x).length ≤ 1048576:=by
  unfold recTickO
  rw [if_pos h]
  split
  · rename_i hu;have:=tickOut_len (validB_iff.1 h) hu;omega
  · simp
theorem specRecTick (x : Rcd) (i : AtRcd) (h : RoRcd false w0 x i) (hn : SmallR x) (HM : Mem w0 W L) : Calls Tryz.prog 6 #[.agg (encRcd x i).toArray] W fun e W'=>∃ j A c,e = .returned (.tuple #[.agg (encRcd (recTickL x) j).toArray,.slice A (recTickO x).length c]) ∧ Mem w0 W' (own (tMsg 91) 40 A c (recTickO x) :: (partRcd 91 40 9 3 66 (recTickL x) j ++ L)):=by
  unfold recTickL recTickO
  by_cases hv : validB x = true
  · rw [if_pos hv,if_pos hv]
    by_cases hu : x.up = true
    · rw [if_pos hu,if_pos hu];exact tickS x i h hn hv hu HM
    · rw [if_neg hu,if_neg hu];exact tick_down x i h hn hv (by simpa using hu) HM
  · rw [if_neg hv,if_neg hv];exact tick_off x i h hn (by simpa using hv) HM
theorem specRecTake (x : Rcd) (i : AtRcd) (m : Msg) (am : At) (h : RoRcd false w0 x i) (hn : SmallR x) (hr : RoRow (rSlot false) w0 am.1 m.slots) (hmn : m.slots.length ≤ 1048576) (HM : Mem w0 W L) : Calls Tryz.prog 14 #[.agg (encRcd x i).toArray,.agg (encMsg m am).toArray] W fun e W'=>∃ j,e = .returned (.agg (encRcd (recTakeL x m) j).toArray) ∧ Mem w0 W' (partRcd 91 40 9 3 66 (recTakeL x m) j ++ L):=by
  refine enter Tryz.func14 rfl Tryz.ntmps14 [(0,.agg (encRcd x i).toArray),(1,.agg (encMsg m am).toArray)] rfl ⟨rfl,rfl,trivial⟩ ?_
  have h0:=h
  unfold encRcd encMsg
  by_cases hv : validB x = true
  rotate_left
  · simp only [Bool.not_eq_true] at hv
    repeat (first|refine Y ?_|(refine qs ?_;clear HM;intro W1 HM)|(refine qf ?_;go_at_call 9;refine (specValid x i h0 hn HM).mono ?_;rintro e W1 ⟨rfl,HM1⟩;refine ⟨_,rfl,?_⟩;replace HM:=HM1;clear HM1)|(refine qg ?_;clear HM;intro g W1 HM))
    have HM2:=HM.zeroR 91 40 9 3 66
    simp only [partRcd,zeroR,atZ,List.cons_append,List.nil_append] at HM2
    have e : recTakeL x m = zeroR:=by simp [recTakeL,hv]
    rw [e]
    exact ret_cell HM2 rfl rfl rfl ⟨atZ,rfl,by simp only [partRcd,zeroR,atZ,List.cons_append,List.nil_append];exact HM2.sb⟩
  by_cases hu : x.up = true
  rotate_left
  · simp only [Bool.not_eq_true] at hu
    have e : recTakeL x m = x:=by simp [recTakeL,hv,hu]
    repeat (first|refine Y ?_|(refine qs ?_;clear HM;intro W1 HM)|(refine qf ?_;first|(go_at_call 9;refine (specValid x i h0 hn HM).mono ?_;rintro e W1 ⟨rfl,HM1⟩;refine ⟨_,rfl,?_⟩;replace HM:=HM1;clear HM1)|(go_at_call 24;refine (l2Copy_c x _ h0 hn HM).mono ?_;rintro e W1 ⟨j2,rfl,HM1⟩;refine ⟨_,rfl,?_⟩;replace HM:=HM1;clear HM1;simp only [partRcd,List.cons_append,List.nil_append] at HM;simp only [encRcd]))|(refine qg ?_;clear HM;intro g W1 HM))
    rw [e]
    exact ret_cell HM rfl rfl rfl ⟨j2,rfl,by simp only [boxR,partRcd,List.cons_append,List.nil_append];exact HM.sb⟩
  by_cases hm : msgB m x.of = true
  rotate_left
  · simp only [Bool.not_eq_true] at hm
    have e : recTakeL x m = x:=by simp [recTakeL,hv,hm]
    repeat (first|refine Y ?_|(refine qs ?_;clear HM;intro W1 HM)|(refine qf ?_;first|(go_at_call 9;refine (specValid x i h0 hn HM).mono ?_;rintro e W1 ⟨rfl,HM1⟩;refine ⟨_,rfl,?_⟩;replace HM:=HM1;clear HM1)|(go_at_call 24;refine (l2Copy_c x _ h0 hn HM).mono ?_;rintro e W1 ⟨j2,rfl,HM1⟩;refine ⟨_,rfl,?_⟩;replace HM:=HM1;clear HM1;simp only [partRcd,List.cons_append,List.nil_append] at HM;simp only [encRcd])|(go_at_call 42;refine (specMsg m am x.of hr HM).mono ?_;rintro e W1 ⟨rfl,HM1⟩;refine ⟨_,rfl,?_⟩;replace HM:=HM1;clear HM1))|(refine qg ?_;clear HM;intro g W1 HM))
    rw [e]
    exact ret_cell HM rfl rfl rfl ⟨j2,rfl,by simp only [boxR,partRcd,List.cons_append,List.nil_append];exact HM.sb⟩
  by_cases ht : m.to = x.number
  rotate_left
  · have e : recTakeL x m = x:=by simp [recTakeL,hv,ht]
    repeat (first|refine Y ?_|(refine qs ?_;clear HM;intro W1 HM)|(refine qf ?_;first|(go_at_call 9;refine (specValid x i h0 hn HM).mono ?_;rintro e W1 ⟨rfl,HM1⟩;refine ⟨_,rfl,?_⟩;replace HM:=HM1;clear HM1)|(go_at_call 24;refine (l2Copy_c x _ h0 hn HM).mono ?_;rintro e W1 ⟨j2,rfl,HM1⟩;refine ⟨_,rfl,?_⟩;replace HM:=HM1;clear HM1;simp only [partRcd,List.cons_append,List.nil_append] at HM;simp only [encRcd])|(go_at_call 42;refine (specMsg m am x.of hr HM).mono ?_;rintro e W1 ⟨rfl,HM1⟩;refine ⟨_,rfl,?_⟩;replace HM:=HM1;clear HM1))|(refine qg ?_;clear HM;intro g W1 HM))
    rw [e]
    exact ret_cell HM rfl rfl rfl ⟨j2,rfl,by simp only [boxR,partRcd,List.cons_append,List.nil_append];exact HM.sb⟩
  have e : recTakeL x m = takeL x m:=by simp [recTakeL,hv,hu,hm,ht]
  have hV:=validB_iff.1 hv
  have hmP:=msgB_iff.1 hm
  have hT:=vr_take hV hu hmP
  rw [e]
  repeat (first|(refine gR ?_;refine d_start [3,4,5] [(1,0),(1,1),(2,2),(3,3),(3,4),(3,5)] HM (by kernel_rfl) (by kernel_rfl) qq (by kernel_rfl) rfl ?_;intro HQ HS W1 HM1;replace HM:=HM1;clear HM1)|refine Y ?_|(refine qs ?_;clear HM;intro W1 HM)|(refine qf ?_;first|(go_at_call 9;refine (specValid x i h0 hn HM).mono ?_;rintro e W1 ⟨rfl,HM1⟩;refine ⟨_,rfl,?_⟩;replace HM:=HM1;clear HM1)|(go_at_call 42;refine (specMsg m am x.of hr HM).mono ?_;rintro e W1 ⟨rfl,HM1⟩;refine ⟨_,rfl,?_⟩;replace HM:=HM1;clear HM1)|(go_at_call 53;refine (l2Message_c m am hr hmn HM).mono ?_;rintro e W1 ⟨A3,c3,rfl,HM1⟩;refine ⟨_,rfl,?_⟩;replace HM:=HM1;clear HM1)|(go_at_call 56;have HMp:=(show Mem w0 _ (partRcd 91 40 9 3 66 x j2 ++ _) from pk_rec HM);refine (takeS x j2 m (A3,c3) hV hu hmP (b:=false) (fun W' h=>by obtain ⟨F1,hF1⟩:=h.own (A:=A3);exact ro_slots hF1) HMp).mono ?_;clear HMp;rintro e W1 ⟨j3,rfl,HM1⟩;refine ⟨_,rfl,?_⟩;replace HM:=HM1;clear HM1)|(go_at_call 24;first|((with_reducible refine (l2Copy_l x _ h0 hn HM).mono ?_);rintro e W1 ⟨j2,rfl,HM1⟩;refine ⟨_,rfl,?_⟩;replace HM:=HM1;clear HM1;simp only [partRcd,List.cons_append,List.nil_append] at HM;simp only [encRcd])|(have hro:=ro_parts HM;refine (l2Copy_c (takeL x m) _ hro (vr_small hT.1) (Mem.start _)).mono ?_;clear hro;rintro e W1 ⟨j4,rfl,HM1⟩;refine ⟨_,rfl,?_⟩;replace HM:=HM.join HM1;clear HM1;simp only [partRcd,List.cons_append,List.nil_append] at HM;simp only [encRcd])))|(refine qg ?_;clear HM;intro g W1 HM))
  exact ret_cell HM rfl rfl rfl ⟨j4,rfl,by simp only [boxR,partRcd,List.cons_append,List.nil_append];exact HM.sb⟩
end Go.Proofs.YtampmicahnnebaaGreat.Sp
namespace Go.Proofs.YtampmicahnnebaaGreat.Sp
open Go Go.RowKit
set_option maxRecDepth 10000
set_option maxHeartbeats 4000000
variable {w0 W : World} {L : List Asn}
def wldP (x : Wld) (i : AtW) : List Asn:=[own (tRec 91 40 9 3 66) 31 i.b0.1 i.b0.2 x.recs,flt 91 40 i.b1.1 i.b1.2 x.flight,own tFix 134 i.b2.1 i.b2.2 x.fixed]
theorem ro_w2 {eS eM eT eI eA eR eG eF : Nat} {x : Wld} {i : AtW} {R0 R1 R2 : List Asn} [h0 : Pk L (own (tRec eS eM eT eI eA) eR i.b0.1 i.b0.2 x.recs) R0] [h1 : Pk R0 (flt eS eG i.b1.1 i.b1.2 x.flight) R1] [h2 : Pk R1 (own tFix eF i.b2.1 i.b2.2 x.fixed) R2] (h : Mem w0 W L) : RoW false W x i:=by
  obtain ⟨F0,_,a0,s0⟩:=(h.perm h0.out).sep
  obtain ⟨F1,_,a1,s1⟩:=s0.perm h1.out
  obtain ⟨F2,_,a2,_⟩:=s1.perm h2.out
  exact ⟨ro_rcws a0,ro_flt a1,ro_fixs a2⟩
theorem ro_w3 (x : Wld) (i : AtW) {R0 R1 R2 : List Asn} [h0 : Pk L (own (tRec 91 40 9 3 66) 31 i.b0.1 i.b0.2 x.recs) R0] [h1 : Pk R0 (flt 91 40 i.b1.1 i.b1.2 x.flight) R1] [h2 : Pk R1 (own tFix 134 i.b2.1 i.b2.2 x.fixed) R2] (h : Mem w0 W L) : RoW false W x i:=ro_w2 (h0:=h0) (h1:=h1) (h2:=h2) h
theorem WP.safe {x : Wld} (h : WP x) : SafeP x:=by
  intro r hr s hs
  obtain ⟨k,hk,rfl⟩:=List.getElem_of_mem hr
  exact (h.recs k hk).1.safe.slots.2 s hs
theorem maj_size {x : Wld} {ix : Int} {t : ByteArray} {b : Bool} (h : WP x) (hm : IsMaj x ix t b) : t.size ≤ 100:=by
  cases b
  · rw [(hm.no rfl).1];decide
  · obtain ⟨s,hs,rfl⟩:=hm.yes rfl
    obtain ⟨j,hj,e⟩:=cntA_pos (x:=x) (ix:=ix) (s:=s) (k:=x.recs.length) (by have:=hs.2;omega)
    by_cases hi : 1 ≤ ix ∧ ix ≤ x.recs[j].ss.length
    · rw [slA_in hj hi.1 hi.2] at e
      cases e
      have:=(safe_at h.safe hj hi.1 hi.2).txt
      omega
    · rw [slA_out hj hi] at e;cases e
theorem knows_c (x : Wld) (i : AtW) (ix : Int) (hv : WP x) (h1 : 1 ≤ ix) (hr : RoRow (rRcw false) w0 i.b0.1 x.recs) (HM : Mem w0 W L) : Calls Tryz.prog 124 #[.agg (encW x i).toArray,.int .i64 ix] W fun e W'=>∃ t b,t.size ≤ 100 ∧ e = .returned (.tuple #[.string t,.bool b]) ∧ Mem w0 W' L:=by
  refine enter Tryz.func124 rfl Tryz.ntmps124 [(0,.agg (encW x i).toArray),(1,_)] rfl ⟨rfl,rfl,trivial⟩ ?_
  have hn5:=hv.n5
  unfold encW
  replace HM:=HM.rod hr
  repeat (first|refine Y ?_|(refine qg ?_;clear HM;intro g W1 HM))
  refine c_loop (σ:=Nat) (fun k=>[(1,.int .i64 ix),(2,.pointer (some ⟨g,0,none⟩)),(6,.int .i64 k)]) (fun k W1=>k ≤ x.recs.length ∧ Mem w0 W1 _) (fun k=>x.recs.length - k) 0 U ⟨Nat.zero_le _,HM⟩ ?_
  clear HM
  rintro k W1 ⟨hk,HM⟩
  by_cases hlt : k < x.recs.length
  rotate_left
  · repeat refine Y ?_
    exact ret_two rfl rfl rfl ⟨_,_,by decide,rfl,HM.sb⟩
  obtain ⟨cc,⟨j,rfl,hh⟩,HM⟩:=HM.roOpen (A:=i.b0.1) k hlt
  have hV:=(hv.recs k hlt).1
  have hk1:=hV.disk.k1
  have hdl:=hV.disk.slots.1
  have hds:=hh.ro.ds
  unfold encRcd at HM
  by_cases c1 : ix ≤ x.recs[k].dk
  · have hsz : (rdR (rSlot false) x.recs[k].ds (ix - 1)).text.size ≤ 100:=by
      rw [rdR_int (by omega) (by omega)]
      have:=(hV.disk.slots.2 _ (List.getElem_mem (n:=(ix - 1).toNat) (by omega))).txt
      omega
    replace HM:=HM.rod hds
    repeat (first|refine Y ?_|(refine qs ?_;clear HM;intro W1 HM)|(refine qg ?_;clear HM;intro g W1 HM))
    exact ret_two rfl rfl rfl ⟨_,_,hsz,rfl,HM.sb⟩
  · repeat (first|refine Y ?_|(refine qs ?_;clear HM;intro W1 HM)|(refine qg ?_;clear HM;intro g W1 HM))
    exact n_round (k + 1) U ⟨by omega,HM.sb⟩ (by omega)
theorem fix_c (x : Wld) (i : AtW) (hv : WP x) (HM : Mem w0 W (wldP x i ++ L)) : Calls Tryz.prog 117 #[.agg (encW x i).toArray] W fun e W'=>∃ fx q,FixP fx ∧ e = .returned (.agg (encW { x with fixed:=fx } ⟨i.b0,i.b1,q⟩).toArray) ∧ Mem w0 W' (wldP { x with fixed:=fx } ⟨i.b0,i.b1,q⟩ ++ L):=by
  refine enter Tryz.func117 rfl Tryz.ntmps117 [(0,.agg (encW x i).toArray)] rfl ⟨rfl,trivial⟩ ?_
  unfold encW
  simp only [wldP,List.cons_append,List.nil_append] at HM
  have hn5:=hv.n5
  repeat (first|refine Y ?_|(refine qg ?_;clear HM;intro g W1 HM))
  rename_i ga Wa
  refine c_loop2 (σ:=Nat × List Fix) (fun s A c=>[(1,.pointer (some ⟨ga,0,none⟩)),(2,.pointer (some ⟨g,0,none⟩)),(3,.int .i64 ((s.1 : Int) + 1))]) (fun s A c W1=>s.1 ≤ 60 ∧ FixP s.2 ∧ Mem w0 W1 (box g 78 [.slice none 0 0,.slice none 0 0,.slice none 0 0] :: box ga 78 [.slice i.b0.1 x.recs.length i.b0.2,.slice i.b1.1 x.flight.length i.b1.2,.slice A s.2.length c] :: own (tRec 91 40 9 3 66) 31 i.b0.1 i.b0.2 x.recs :: flt 91 40 i.b1.1 i.b1.2 x.flight :: own tFix 134 A c s.2 :: L)) (fun s=>60 - s.1) (0,x.fixed) i.b2.1 i.b2.2 (by dsimp only;simp only [Int.natCast_zero,Int.zero_add];exact U) ⟨Nat.zero_le _,hv.fix,HM⟩ ?_
  clear HM
  rintro ⟨m,fx⟩ A c W1 ⟨hm,hfx,HM⟩
  dsimp only at hm hfx HM ⊢
  have hfl:=fix_len hfx
  by_cases hlt : m < 60
  rotate_left
  · repeat (first|refine Y ?_|(refine qs ?_;clear HM;intro W1 HM))
    exact ret_cell HM rfl rfl rfl ⟨fx,(A,c),hfx,rfl,by simp only [wldP,List.cons_append,List.nil_append];exact HM.sb⟩
  repeat refine Y ?_
  refine c_loop (σ:=Nat) (fun k=>[(1,.pointer (some ⟨ga,0,none⟩)),(2,.pointer (some ⟨g,0,none⟩)),(3,.int .i64 ((m : Int) + 1)),(4,.int .i64 k)]) (fun k W1=>k ≤ fx.length ∧ (∀ j (h : j < fx.length),j < k → fx[j].index < (m : Int) + 1) ∧ Mem w0 W1 _) (fun k=>fx.length - k) 0 U ⟨Nat.zero_le _,fun j h hj=>by omega,HM⟩ ?_
  clear HM
  rintro k W1 ⟨hk,hlo,HM⟩
  have hcap : fx.length ≤ c:=by obtain ⟨F1,hF1⟩:=HM.own (A:=A);exact (own_max hF1).2
  have hwx : WP { x with fixed:=fx }:=wp_fixed hv hfx
  by_cases hlt2 : k < fx.length
  · have e0:=rd_at (d:=tFix) hlt2
    by_cases c1 : (rd tFix fx k).index < (m : Int) + 1
    · repeat refine Y ?_
      exact n_round (k + 1) U ⟨by omega,fun j h hj=>by
        by_cases e : j = k
        · subst e;rw [← e0];exact c1
        · exact hlo j h (by omega),HM⟩ (by omega)
    by_cases c2 : (rd tFix fx k).index = (m : Int) + 1
    · repeat refine Y ?_
      exact n_round2 (m + 1,fx) A c (by simp only [Int.natCast_add,Int.natCast_one];exact U) ⟨by dsimp only;omega,hfx,HM.sb⟩ (by dsimp only;omega)
    have hi:=fix_hi (ix:=(m : Int) + 1) hfx (k:=k) (fun _=>by rw [← e0];omega)
    repeat (first|refine Y ?_|(refine qf ?_;go_at_call 123;refine (specMaj { x with fixed:=fx } ⟨i.b0,i.b1,(A,c)⟩ ((m : Int) + 1) (ro_w3 { x with fixed:=fx } ⟨i.b0,i.b1,(A,c)⟩ HM) (by dsimp only;omega) hwx.safe (Mem.start _)).mono ?_;rintro e W1 ⟨t,b,rfl,hmaj,HM1⟩;refine ⟨_,rfl,?_⟩;have HM2:=HM.step HM1.below;clear HM HM1;have HM:=HM2;clear HM2))
    have hts:=maj_size hwx hmaj
    clear hmaj
    refine c_cutn (σ:=ByteArray × Bool) (fun s=>[(1,.pointer (some ⟨ga,0,none⟩)),(2,.pointer (some ⟨g,0,none⟩)),(3,.int .i64 ((m : Int) + 1)),(4,.int .i64 k),(5,.string s.1),(6,.bool s.2)]) (fun s W1=>s.1.size ≤ 100 ∧ Mem w0 W1 (box g 78 [.slice none 0 0,.slice none 0 0,.slice none 0 0] :: box ga 78 [.slice i.b0.1 x.recs.length i.b0.2,.slice i.b1.1 x.flight.length i.b1.2,.slice A fx.length c] :: own (tRec 91 40 9 3 66) 31 i.b0.1 i.b0.2 x.recs :: flt 91 40 i.b1.1 i.b1.2 x.flight :: own tFix 134 A c fx :: L)) ?_ ?_
    · by_cases hb : b = true
      · repeat ((refine gC ?_;first|refine c_skip ?_|refine c_no rfl (by (simp;omega)) ?_))
        exact n_mid (t,b) U ⟨hts,HM.sb⟩
      · simp only [Bool.not_eq_true] at hb
        repeat (first|refine Y ?_|(refine qf ?_;go_at_call 124;have hR:=(ro_w3 { x with fixed:=fx } ⟨i.b0,i.b1,(A,c)⟩ HM).recs;refine (knows_c { x with fixed:=fx } ⟨i.b0,i.b1,(A,c)⟩ ((m : Int) + 1) hwx (by omega) hR (Mem.start _)).mono ?_;rintro e W1 ⟨t2,b2,ht2,rfl,HM1⟩;refine ⟨_,rfl,?_⟩;have HM2:=HM.step HM1.below;clear HM HM1 hR;have HM:=HM2;clear HM2))
        exact n_mid (t2,b2) U ⟨ht2,HM.sb⟩
    clear HM hts
    rintro ⟨tt,bb⟩ W1 ⟨hts,HM⟩
    dsimp only at hts HM ⊢
    by_cases hb : bb = true
    rotate_left
    · simp only [Bool.not_eq_true] at hb
      repeat refine Y ?_
      exact n_round2 (m + 1,fx) A c (by simp only [Int.natCast_add,Int.natCast_one];exact U) ⟨by dsimp only;omega,hfx,HM.sb⟩ (by dsimp only;omega)
    have hnew : FixP ([] ++ fx.take k ++ [⟨(m : Int) + 1,tt⟩] ++ fx.drop k):=fixp_ins hfx ⟨by dsimp only;omega,hts⟩ hlo hi
    have htk : (fx.take k).length = k:=by simp only [List.length_take];omega
    repeat refine Y ?_
    refine gR ?_
    refine x_start (ds:=[17]) HM (fun w hw=>hw) (by kernel_rfl) (by kernel_rfl) qq ?_
    intro HQ HS W1 HM1;replace HM:=HM1;clear HM1
    refine x_pv HQ HS 1 rfl (by kernel_rfl) (by kernel_rfl) (l':=#[false,true,false,false,false,false,false,false,false,false,false,false,false,false,false,false,false,false]) (by kernel_rfl) rfl ?_
    refine Y ?_
    refine x_pv HQ HS 3 rfl (by kernel_rfl) (by kernel_rfl) (l':=#[false,true,false,true,false,false,false,false,false,false,false,false,false,false,false,false,false,false]) (by kernel_rfl) rfl ?_
    refine Y ?_
    refine x_pv HQ HS 6 rfl (by kernel_rfl) (by kernel_rfl) (l':=#[false,true,false,true,false,false,true,false,false,false,false,false,false,false,false,false,false,false]) (by kernel_rfl) rfl ?_
    refine Y ?_
    refine x_pv HQ HS 7 rfl (by kernel_rfl) (by kernel_rfl) (l':=#[false,true,false,true,false,false,true,true,false,false,false,false,false,false,false,false,false,false]) (by kernel_rfl) rfl ?_
    refine Y ?_
    refine x_pv HQ HS 11 rfl (by kernel_rfl) (by kernel_rfl) (l':=#[false,true,false,true,false,false,true,true,false,false,false,true,false,false,false,false,false,false]) (by kernel_rfl) rfl ?_
    refine Y ?_
    refine x_pv HQ HS 13 rfl (by kernel_rfl) (by kernel_rfl) (l':=#[false,true,false,true,false,false,true,true,false,false,false,true,false,true,false,false,false,false]) (by kernel_rfl) rfl ?_
    refine Y ?_
    refine x_ld HQ HS 2 rfl (by kernel_rfl) (by kernel_rfl) (by kernel_rfl) (by kernel_rfl) (l':=#[false,true,true,true,false,false,true,true,false,false,false,true,false,true,false,false,false,false]) (by kernel_rfl) rfl ?_
    refine Y ?_
    refine x_pv HQ HS 4 rfl (by kernel_rfl) (by kernel_rfl) (l':=#[false,true,true,true,true,false,true,true,false,false,false,true,false,true,false,false,false,false]) (by kernel_rfl) rfl ?_
    refine Y ?_
    refine x_ld HQ HS 12 rfl (by kernel_rfl) (by kernel_rfl) (by kernel_rfl) (by kernel_rfl) (l':=#[false,true,true,true,true,false,true,true,false,false,false,true,true,true,false,false,false,false]) (by kernel_rfl) rfl ?_
    refine Y ?_
    refine x_pv HQ HS 14 rfl (by kernel_rfl) (by kernel_rfl) (l':=#[false,true,true,true,true,false,true,true,false,false,false,true,true,true,true,false,false,false]) (by kernel_rfl) rfl ?_
    refine Y ?_
    refine x_two 0 8 (by kernel_rfl) rfl rfl (l':=#[true,true,true,true,true,false,true,true,false,false,false,true,true,true,true,false,false,false]) (l'':=#[false,true,true,true,true,false,true,true,true,false,false,true,true,true,true,false,false,false]) (by kernel_rfl) (by kernel_rfl) (x_go ?_) (x_go ?_)
    · repeat (first|(refine qz ?_;clear HM;intro A1 W1 HM)|refine Y ?_)
      refine x_two 5 8 (by kernel_rfl) rfl rfl (l':=#[true,true,true,true,true,true,true,true,false,false,false,true,true,true,true,false,false,false]) (l'':=#[true,true,true,true,true,false,true,true,true,false,false,true,true,true,true,false,false,false]) (by kernel_rfl) (by kernel_rfl) (x_go ?_) (x_go ?_)
      · repeat (first|(refine gCall ?_;obtain ⟨F1,hF1⟩:=HM.own (A:=A);(first|(refine s_appw (ys:=fx.take k) HM rfl rfl rfl rfl (ro_rdc (ro_take (ro_fixs hF1) k)) (by simp only [List.length_take];omega) (by simp only [List.length_take,List.length_drop,List.length_append,List.length_cons,List.length_nil];omega) rfl ?_)|(refine s_appw (ys:=fx.drop k) HM rfl rfl (by first|with_reducible rfl|(simp only [List.length_append,List.length_take,List.length_cons,List.length_nil];omega)) rfl (ro_rdc (ro_drop (ro_fixs hF1) hk hcap)) (by simp only [List.length_drop];omega) (by simp only [List.length_take,List.length_drop,List.length_append,List.length_cons,List.length_nil];omega) rfl ?_));clear hF1;intro A1 c1 W1 HM1;replace HM:=HM1;clear HM1)|refine Y ?_)
        refine x_one 8 (by kernel_rfl) rfl (l':=#[true,true,true,true,true,true,true,true,true,false,false,true,true,true,true,false,false,false]) (by kernel_rfl) (x_go ?_)
        repeat refine Y ?_
        refine x_one 9 (by kernel_rfl) rfl (l':=#[true,true,true,true,true,true,true,true,true,true,false,true,true,true,true,false,false,false]) (by kernel_rfl) (x_go ?_)
        repeat (first|(refine qg ?_;clear HM;intro g W1 HM)|refine Y ?_)
        refine x_one 10 (by kernel_rfl) rfl (l':=#[true,true,true,true,true,true,true,true,true,true,true,true,true,true,true,false,false,false]) (by kernel_rfl) (x_go ?_)
        repeat (first|(refine qa ?_;clear HM;intro A1 c1 W1 HM)|refine Y ?_)
        refine x_one 15 (by kernel_rfl) rfl (l':=#[true,true,true,true,true,true,true,true,true,true,true,true,true,true,true,true,false,false]) (by kernel_rfl) (x_go ?_)
        repeat (first|(refine gCall ?_;obtain ⟨F1,hF1⟩:=HM.own (A:=A);(first|(refine s_appw (ys:=fx.take k) HM rfl rfl rfl rfl (ro_rdc (ro_take (ro_fixs hF1) k)) (by simp only [List.length_take];omega) (by simp only [List.length_take,List.length_drop,List.length_append,List.length_cons,List.length_nil];omega) rfl ?_)|(refine s_appw (ys:=fx.drop k) HM rfl rfl (by first|with_reducible rfl|(simp only [List.length_append,List.length_take,List.length_cons,List.length_nil];omega)) rfl (ro_rdc (ro_drop (ro_fixs hF1) hk hcap)) (by simp only [List.length_drop];omega) (by simp only [List.length_take,List.length_drop,List.length_append,List.length_cons,List.length_nil];omega) rfl ?_));clear hF1;intro A1 c1 W1 HM1;replace HM:=HM1;clear HM1)|refine Y ?_)
        refine x_pv HQ HS 16 rfl (by kernel_rfl) (by kernel_rfl) (l':=#[true,true,true,true,true,true,true,true,true,true,true,true,true,true,true,true,true,false]) (by kernel_rfl) rfl ?_
        refine Y ?_
        refine x_last 17 (by kernel_rfl) rfl (l':=#[true,true,true,true,true,true,true,true,true,true,true,true,true,true,true,true,true,true]) (by kernel_rfl) (by kernel_rfl) rfl ?_
        repeat (first|refine Y ?_|(refine qs ?_;clear HM;intro W1 HM))
        exact n_round2 (m + 1,_) A1 c1 (by simp only [Int.natCast_add,Int.natCast_one];exact U) ⟨by dsimp only;omega,hnew,HM.sb⟩ (by dsimp only;omega)
      · repeat refine Y ?_
        refine x_two 5 9 (by kernel_rfl) rfl rfl (l':=#[true,true,true,true,true,true,true,true,true,false,false,true,true,true,true,false,false,false]) (l'':=#[true,true,true,true,true,false,true,true,true,true,false,true,true,true,true,false,false,false]) (by kernel_rfl) (by kernel_rfl) (x_go ?_) (x_go ?_)
        · repeat (first|(refine gCall ?_;obtain ⟨F1,hF1⟩:=HM.own (A:=A);(first|(refine s_appw (ys:=fx.take k) HM rfl rfl rfl rfl (ro_rdc (ro_take (ro_fixs hF1) k)) (by simp only [List.length_take];omega) (by simp only [List.length_take,List.length_drop,List.length_append,List.length_cons,List.length_nil];omega) rfl ?_)|(refine s_appw (ys:=fx.drop k) HM rfl rfl (by first|with_reducible rfl|(simp only [List.length_append,List.length_take,List.length_cons,List.length_nil];omega)) rfl (ro_rdc (ro_drop (ro_fixs hF1) hk hcap)) (by simp only [List.length_drop];omega) (by simp only [List.length_take,List.length_drop,List.length_append,List.length_cons,List.length_nil];omega) rfl ?_));clear hF1;intro A1 c1 W1 HM1;replace HM:=HM1;clear HM1)|refine Y ?_)
          refine x_one 9 (by kernel_rfl) rfl (l':=#[true,true,true,true,true,true,true,true,true,true,false,true,true,true,true,false,false,false]) (by kernel_rfl) (x_go ?_)
          repeat (first|(refine qg ?_;clear HM;intro g W1 HM)|refine Y ?_)
          refine x_one 10 (by kernel_rfl) rfl (l':=#[true,true,true,true,true,true,true,true,true,true,true,true,true,true,true,false,false,false]) (by kernel_rfl) (x_go ?_)
          repeat (first|(refine qa ?_;clear HM;intro A1 c1 W1 HM)|refine Y ?_)
          refine x_one 15 (by kernel_rfl) rfl (l':=#[true,true,true,true,true,true,true,true,true,true,true,true,true,true,true,true,false,false]) (by kernel_rfl) (x_go ?_)
          repeat (first|(refine gCall ?_;obtain ⟨F1,hF1⟩:=HM.own (A:=A);(first|(refine s_appw (ys:=fx.take k) HM rfl rfl rfl rfl (ro_rdc (ro_take (ro_fixs hF1) k)) (by simp only [List.length_take];omega) (by simp only [List.length_take,List.length_drop,List.length_append,List.length_cons,List.length_nil];omega) rfl ?_)|(refine s_appw (ys:=fx.drop k) HM rfl rfl (by first|with_reducible rfl|(simp only [List.length_append,List.length_take,List.length_cons,List.length_nil];omega)) rfl (ro_rdc (ro_drop (ro_fixs hF1) hk hcap)) (by simp only [List.length_drop];omega) (by simp only [List.length_take,List.length_drop,List.length_append,List.length_cons,List.length_nil];omega) rfl ?_));clear hF1;intro A1 c1 W1 HM1;replace HM:=HM1;clear HM1)|refine Y ?_)
          refine x_pv HQ HS 16 rfl (by kernel_rfl) (by kernel_rfl) (l':=#[true,true,true,true,true,true,true,true,true,true,true,true,true,true,true,true,true,false]) (by kernel_rfl) rfl ?_
          refine Y ?_
          refine x_last 17 (by kernel_rfl) rfl (l':=#[true,true,true,true,true,true,true,true,true,true,true,true,true,true,true,true,true,true]) (by kernel_rfl) (by kernel_rfl) rfl ?_
          repeat (first|refine Y ?_|(refine qs ?_;clear HM;intro W1 HM))
          exact n_round2 (m + 1,_) A1 c1 (by simp only [Int.natCast_add,Int.natCast_one];exact U) ⟨by dsimp only;omega,hnew,HM.sb⟩ (by dsimp only;omega)
        · repeat (first|(refine qg ?_;clear HM;intro g W1 HM)|refine Y ?_)
          refine x_one 5 (by kernel_rfl) rfl (l':=#[true,true,true,true,true,true,true,true,true,true,false,true,true,true,true,false,false,false]) (by kernel_rfl) (x_go ?_)
          repeat (first|(refine gCall ?_;obtain ⟨F1,hF1⟩:=HM.own (A:=A);(first|(refine s_appw (ys:=fx.take k) HM rfl rfl rfl rfl (ro_rdc (ro_take (ro_fixs hF1) k)) (by simp only [List.length_take];omega) (by simp only [List.length_take,List.length_drop,List.length_append,List.length_cons,List.length_nil];omega) rfl ?_)|(refine s_appw (ys:=fx.drop k) HM rfl rfl (by first|with_reducible rfl|(simp only [List.length_append,List.length_take,List.length_cons,List.length_nil];omega)) rfl (ro_rdc (ro_drop (ro_fixs hF1) hk hcap)) (by simp only [List.length_drop];omega) (by simp only [List.length_take,List.length_drop,List.length_append,List.length_cons,List.length_nil];omega) rfl ?_));clear hF1;intro A1 c1 W1 HM1;replace HM:=HM1;clear HM1)|refine Y ?_)
          refine x_one 10 (by kernel_rfl) rfl (l':=#[true,true,true,true,true,true,true,true,true,true,true,true,true,true,true,false,false,false]) (by kernel_rfl) (x_go ?_)
          repeat (first|(refine qa ?_;clear HM;intro A1 c1 W1 HM)|refine Y ?_)
          refine x_one 15 (by kernel_rfl) rfl (l':=#[true,true,true,true,true,true,true,true,true,true,true,true,true,true,true,true,false,false]) (by kernel_rfl) (x_go ?_)
          repeat (first|(refine gCall ?_;obtain ⟨F1,hF1⟩:=HM.own (A:=A);(first|(refine s_appw (ys:=fx.take k) HM rfl rfl rfl rfl (ro_rdc (ro_take (ro_fixs hF1) k)) (by simp only [List.length_take];omega) (by simp only [List.length_take,List.length_drop,List.length_append,List.length_cons,List.length_nil];omega) rfl ?_)|(refine s_appw (ys:=fx.drop k) HM rfl rfl (by first|with_reducible rfl|(simp only [List.length_append,List.length_take,List.length_cons,List.length_nil];omega)) rfl (ro_rdc (ro_drop (ro_fixs hF1) hk hcap)) (by simp only [List.length_drop];omega) (by simp only [List.length_take,List.length_drop,List.length_append,List.length_cons,List.length_nil];omega) rfl ?_));clear hF1;intro A1 c1 W1 HM1;replace HM:=HM1;clear HM1)|refine Y ?_)
          refine x_pv HQ HS 16 rfl (by kernel_rfl) (by kernel_rfl) (l':=#[true,true,true,true,true,true,true,true,true,true,true,true,true,true,true,true,true,false]) (by kernel_rfl) rfl ?_
          refine Y ?_
          refine x_last 17 (by kernel_rfl) rfl (l':=#[true,true,true,true,true,true,true,true,true,true,true,true,true,true,true,true,true,true]) (by kernel_rfl) (by kernel_rfl) rfl ?_
          repeat (first|refine Y ?_|(refine qs ?_;clear HM;intro W1 HM))
          exact n_round2 (m + 1,_) A1 c1 (by simp only [Int.natCast_add,Int.natCast_one];exact U) ⟨by dsimp only;omega,hnew,HM.sb⟩ (by dsimp only;omega)
    · repeat refine Y ?_
      refine x_two 0 9 (by kernel_rfl) rfl rfl (l':=#[true,true,true,true,true,false,true,true,true,false,false,true,true,true,true,false,false,false]) (l'':=#[false,true,true,true,true,false,true,true,true,true,false,true,true,true,true,false,false,false]) (by kernel_rfl) (by kernel_rfl) (x_go ?_) (x_go ?_)
      · repeat (first|(refine qz ?_;clear HM;intro A1 W1 HM)|refine Y ?_)
        refine x_two 5 9 (by kernel_rfl) rfl rfl (l':=#[true,true,true,true,true,true,true,true,true,false,false,true,true,true,true,false,false,false]) (l'':=#[true,true,true,true,true,false,true,true,true,true,false,true,true,true,true,false,false,false]) (by kernel_rfl) (by kernel_rfl) (x_go ?_) (x_go ?_)
        · repeat (first|(refine gCall ?_;obtain ⟨F1,hF1⟩:=HM.own (A:=A);(first|(refine s_appw (ys:=fx.take k) HM rfl rfl rfl rfl (ro_rdc (ro_take (ro_fixs hF1) k)) (by simp only [List.length_take];omega) (by simp only [List.length_take,List.length_drop,List.length_append,List.length_cons,List.length_nil];omega) rfl ?_)|(refine s_appw (ys:=fx.drop k) HM rfl rfl (by first|with_reducible rfl|(simp only [List.length_append,List.length_take,List.length_cons,List.length_nil];omega)) rfl (ro_rdc (ro_drop (ro_fixs hF1) hk hcap)) (by simp only [List.length_drop];omega) (by simp only [List.length_take,List.length_drop,List.length_append,List.length_cons,List.length_nil];omega) rfl ?_));clear hF1;intro A1 c1 W1 HM1;replace HM:=HM1;clear HM1)|refine Y ?_)
          refine x_one 9 (by kernel_rfl) rfl (l':=#[true,true,true,true,true,true,true,true,true,true,false,true,true,true,true,false,false,false]) (by kernel_rfl) (x_go ?_)
          repeat (first|(refine qg ?_;clear HM;intro g W1 HM)|refine Y ?_)
          refine x_one 10 (by kernel_rfl) rfl (l':=#[true,true,true,true,true,true,true,true,true,true,true,true,true,true,true,false,false,false]) (by kernel_rfl) (x_go ?_)
          repeat (first|(refine qa ?_;clear HM;intro A1 c1 W1 HM)|refine Y ?_)
          refine x_one 15 (by kernel_rfl) rfl (l':=#[true,true,true,true,true,true,true,true,true,true,true,true,true,true,true,true,false,false]) (by kernel_rfl) (x_go ?_)
          repeat (first|(refine gCall ?_;obtain ⟨F1,hF1⟩:=HM.own (A:=A);(first|(refine s_appw (ys:=fx.take k) HM rfl rfl rfl rfl (ro_rdc (ro_take (ro_fixs hF1) k)) (by simp only [List.length_take];omega) (by simp only [List.length_take,List.length_drop,List.length_append,List.length_cons,List.length_nil];omega) rfl ?_)|(refine s_appw (ys:=fx.drop k) HM rfl rfl (by first|with_reducible rfl|(simp only [List.length_append,List.length_take,List.length_cons,List.length_nil];omega)) rfl (ro_rdc (ro_drop (ro_fixs hF1) hk hcap)) (by simp only [List.length_drop];omega) (by simp only [List.length_take,List.length_drop,List.length_append,List.length_cons,List.length_nil];omega) rfl ?_));clear hF1;intro A1 c1 W1 HM1;replace HM:=HM1;clear HM1)|refine Y ?_)
          refine x_pv HQ HS 16 rfl (by kernel_rfl) (by kernel_rfl) (l':=#[true,true,true,true,true,true,true,true,true,true,true,true,true,true,true,true,true,false]) (by kernel_rfl) rfl ?_
          refine Y ?_
          refine x_last 17 (by kernel_rfl) rfl (l':=#[true,true,true,true,true,true,true,true,true,true,true,true,true,true,true,true,true,true]) (by kernel_rfl) (by kernel_rfl) rfl ?_
          repeat (first|refine Y ?_|(refine qs ?_;clear HM;intro W1 HM))
          exact n_round2 (m + 1,_) A1 c1 (by simp only [Int.natCast_add,Int.natCast_one];exact U) ⟨by dsimp only;omega,hnew,HM.sb⟩ (by dsimp only;omega)
        · repeat (first|(refine qg ?_;clear HM;intro g W1 HM)|refine Y ?_)
          refine x_one 5 (by kernel_rfl) rfl (l':=#[true,true,true,true,true,true,true,true,true,true,false,true,true,true,true,false,false,false]) (by kernel_rfl) (x_go ?_)
          repeat (first|(refine gCall ?_;obtain ⟨F1,hF1⟩:=HM.own (A:=A);(first|(refine s_appw (ys:=fx.take k) HM rfl rfl rfl rfl (ro_rdc (ro_take (ro_fixs hF1) k)) (by simp only [List.length_take];omega) (by simp only [List.length_take,List.length_drop,List.length_append,List.length_cons,List.length_nil];omega) rfl ?_)|(refine s_appw (ys:=fx.drop k) HM rfl rfl (by first|with_reducible rfl|(simp only [List.length_append,List.length_take,List.length_cons,List.length_nil];omega)) rfl (ro_rdc (ro_drop (ro_fixs hF1) hk hcap)) (by simp only [List.length_drop];omega) (by simp only [List.length_take,List.length_drop,List.length_append,List.length_cons,List.length_nil];omega) rfl ?_));clear hF1;intro A1 c1 W1 HM1;replace HM:=HM1;clear HM1)|refine Y ?_)
          refine x_one 10 (by kernel_rfl) rfl (l':=#[true,true,true,true,true,true,true,true,true,true,true,true,true,true,true,false,false,false]) (by kernel_rfl) (x_go ?_)
          repeat (first|(refine qa ?_;clear HM;intro A1 c1 W1 HM)|refine Y ?_)
          refine x_one 15 (by kernel_rfl) rfl (l':=#[true,true,true,true,true,true,true,true,true,true,true,true,true,true,true,true,false,false]) (by kernel_rfl) (x_go ?_)
          repeat (first|(refine gCall ?_;obtain ⟨F1,hF1⟩:=HM.own (A:=A);(first|(refine s_appw (ys:=fx.take k) HM rfl rfl rfl rfl (ro_rdc (ro_take (ro_fixs hF1) k)) (by simp only [List.length_take];omega) (by simp only [List.length_take,List.length_drop,List.length_append,List.length_cons,List.length_nil];omega) rfl ?_)|(refine s_appw (ys:=fx.drop k) HM rfl rfl (by first|with_reducible rfl|(simp only [List.length_append,List.length_take,List.length_cons,List.length_nil];omega)) rfl (ro_rdc (ro_drop (ro_fixs hF1) hk hcap)) (by simp only [List.length_drop];omega) (by simp only [List.length_take,List.length_drop,List.length_append,List.length_cons,List.length_nil];omega) rfl ?_));clear hF1;intro A1 c1 W1 HM1;replace HM:=HM1;clear HM1)|refine Y ?_)
          refine x_pv HQ HS 16 rfl (by kernel_rfl) (by kernel_rfl) (l':=#[true,true,true,true,true,true,true,true,true,true,true,true,true,true,true,true,true,false]) (by kernel_rfl) rfl ?_
          refine Y ?_
          refine x_last 17 (by kernel_rfl) rfl (l':=#[true,true,true,true,true,true,true,true,true,true,true,true,true,true,true,true,true,true]) (by kernel_rfl) (by kernel_rfl) rfl ?_
          repeat (first|refine Y ?_|(refine qs ?_;clear HM;intro W1 HM))
          exact n_round2 (m + 1,_) A1 c1 (by simp only [Int.natCast_add,Int.natCast_one];exact U) ⟨by dsimp only;omega,hnew,HM.sb⟩ (by dsimp only;omega)
      · repeat (first|(refine qg ?_;clear HM;intro g W1 HM)|refine Y ?_)
        refine x_one 0 (by kernel_rfl) rfl (l':=#[true,true,true,true,true,false,true,true,true,true,false,true,true,true,true,false,false,false]) (by kernel_rfl) (x_go ?_)
        repeat (first|(refine qz ?_;clear HM;intro A1 W1 HM)|refine Y ?_)
        refine x_one 5 (by kernel_rfl) rfl (l':=#[true,true,true,true,true,true,true,true,true,true,false,true,true,true,true,false,false,false]) (by kernel_rfl) (x_go ?_)
        repeat (first|(refine gCall ?_;obtain ⟨F1,hF1⟩:=HM.own (A:=A);(first|(refine s_appw (ys:=fx.take k) HM rfl rfl rfl rfl (ro_rdc (ro_take (ro_fixs hF1) k)) (by simp only [List.length_take];omega) (by simp only [List.length_take,List.length_drop,List.length_append,List.length_cons,List.length_nil];omega) rfl ?_)|(refine s_appw (ys:=fx.drop k) HM rfl rfl (by first|with_reducible rfl|(simp only [List.length_append,List.length_take,List.length_cons,List.length_nil];omega)) rfl (ro_rdc (ro_drop (ro_fixs hF1) hk hcap)) (by simp only [List.length_drop];omega) (by simp only [List.length_take,List.length_drop,List.length_append,List.length_cons,List.length_nil];omega) rfl ?_));clear hF1;intro A1 c1 W1 HM1;replace HM:=HM1;clear HM1)|refine Y ?_)
        refine x_one 10 (by kernel_rfl) rfl (l':=#[true,true,true,true,true,true,true,true,true,true,true,true,true,true,true,false,false,false]) (by kernel_rfl) (x_go ?_)
        repeat (first|(refine qa ?_;clear HM;intro A1 c1 W1 HM)|refine Y ?_)
        refine x_one 15 (by kernel_rfl) rfl (l':=#[true,true,true,true,true,true,true,true,true,true,true,true,true,true,true,true,false,false]) (by kernel_rfl) (x_go ?_)
        repeat (first|(refine gCall ?_;obtain ⟨F1,hF1⟩:=HM.own (A:=A);(first|(refine s_appw (ys:=fx.take k) HM rfl rfl rfl rfl (ro_rdc (ro_take (ro_fixs hF1) k)) (by simp only [List.length_take];omega) (by simp only [List.length_take,List.length_drop,List.length_append,List.length_cons,List.length_nil];omega) rfl ?_)|(refine s_appw (ys:=fx.drop k) HM rfl rfl (by first|with_reducible rfl|(simp only [List.length_append,List.length_take,List.length_cons,List.length_nil];omega)) rfl (ro_rdc (ro_drop (ro_fixs hF1) hk hcap)) (by simp only [List.length_drop];omega) (by simp only [List.length_take,List.length_drop,List.length_append,List.length_cons,List.length_nil];omega) rfl ?_));clear hF1;intro A1 c1 W1 HM1;replace HM:=HM1;clear HM1)|refine Y ?_)
        refine x_pv HQ HS 16 rfl (by kernel_rfl) (by kernel_rfl) (l':=#[true,true,true,true,true,true,true,true,true,true,true,true,true,true,true,true,true,false]) (by kernel_rfl) rfl ?_
        refine Y ?_
        refine x_last 17 (by kernel_rfl) rfl (l':=#[true,true,true,true,true,true,true,true,true,true,true,true,true,true,true,true,true,true]) (by kernel_rfl) (by kernel_rfl) rfl ?_
        repeat (first|refine Y ?_|(refine qs ?_;clear HM;intro W1 HM))
        exact n_round2 (m + 1,_) A1 c1 (by simp only [Int.natCast_add,Int.natCast_one];exact U) ⟨by dsimp only;omega,hnew,HM.sb⟩ (by dsimp only;omega)
  · obtain rfl : k = fx.length:=by omega
    repeat (first|refine Y ?_|(refine qf ?_;go_at_call 123;refine (specMaj { x with fixed:=fx } ⟨i.b0,i.b1,(A,c)⟩ ((m : Int) + 1) (ro_w3 { x with fixed:=fx } ⟨i.b0,i.b1,(A,c)⟩ HM) (by dsimp only;omega) hwx.safe (Mem.start _)).mono ?_;rintro e W1 ⟨t,b,rfl,hmaj,HM1⟩;refine ⟨_,rfl,?_⟩;have HM2:=HM.step HM1.below;clear HM HM1;have HM:=HM2;clear HM2))
    have hts:=maj_size hwx hmaj
    clear hmaj
    refine c_cutn (σ:=ByteArray × Bool) (fun s=>[(1,.pointer (some ⟨ga,0,none⟩)),(2,.pointer (some ⟨g,0,none⟩)),(3,.int .i64 ((m : Int) + 1)),(4,.int .i64 fx.length),(5,.string s.1),(6,.bool s.2)]) (fun s W1=>s.1.size ≤ 100 ∧ Mem w0 W1 (box g 78 [.slice none 0 0,.slice none 0 0,.slice none 0 0] :: box ga 78 [.slice i.b0.1 x.recs.length i.b0.2,.slice i.b1.1 x.flight.length i.b1.2,.slice A fx.length c] :: own (tRec 91 40 9 3 66) 31 i.b0.1 i.b0.2 x.recs :: flt 91 40 i.b1.1 i.b1.2 x.flight :: own tFix 134 A c fx :: L)) ?_ ?_
    · by_cases hb : b = true
      · repeat ((refine gC ?_;first|refine c_skip ?_|refine c_no rfl (by (simp;omega)) ?_))
        exact n_mid (t,b) U ⟨hts,HM.sb⟩
      · simp only [Bool.not_eq_true] at hb
        repeat (first|refine Y ?_|(refine qf ?_;go_at_call 124;have hR:=(ro_w3 { x with fixed:=fx } ⟨i.b0,i.b1,(A,c)⟩ HM).recs;refine (knows_c { x with fixed:=fx } ⟨i.b0,i.b1,(A,c)⟩ ((m : Int) + 1) hwx (by omega) hR (Mem.start _)).mono ?_;rintro e W1 ⟨t2,b2,ht2,rfl,HM1⟩;refine ⟨_,rfl,?_⟩;have HM2:=HM.step HM1.below;clear HM HM1 hR;have HM:=HM2;clear HM2))
        exact n_mid (t2,b2) U ⟨ht2,HM.sb⟩
    clear HM hts
    rintro ⟨tt,bb⟩ W1 ⟨hts,HM⟩
    dsimp only at hts HM ⊢
    by_cases hb : bb = true
    rotate_left
    · simp only [Bool.not_eq_true] at hb
      repeat refine Y ?_
      exact n_round2 (m + 1,fx) A c (by simp only [Int.natCast_add,Int.natCast_one];exact U) ⟨by dsimp only;omega,hfx,HM.sb⟩ (by dsimp only;omega)
    have hnew : FixP ([] ++ fx.take fx.length ++ [⟨(m : Int) + 1,tt⟩] ++ fx.drop fx.length):=fixp_ins hfx ⟨by dsimp only;omega,hts⟩ hlo (fun j h hj=>by omega)
    have htk : (fx.take fx.length).length = fx.length:=by simp only [List.length_take];omega
    repeat refine Y ?_
    refine gR ?_
    refine x_start (ds:=[17]) HM (fun w hw=>hw) (by kernel_rfl) (by kernel_rfl) qq ?_
    intro HQ HS W1 HM1;replace HM:=HM1;clear HM1
    refine x_pv HQ HS 1 rfl (by kernel_rfl) (by kernel_rfl) (l':=#[false,true,false,false,false,false,false,false,false,false,false,false,false,false,false,false,false,false]) (by kernel_rfl) rfl ?_
    refine Y ?_
    refine x_pv HQ HS 3 rfl (by kernel_rfl) (by kernel_rfl) (l':=#[false,true,false,true,false,false,false,false,false,false,false,false,false,false,false,false,false,false]) (by kernel_rfl) rfl ?_
    refine Y ?_
    refine x_pv HQ HS 6 rfl (by kernel_rfl) (by kernel_rfl) (l':=#[false,true,false,true,false,false,true,false,false,false,false,false,false,false,false,false,false,false]) (by kernel_rfl) rfl ?_
    refine Y ?_
    refine x_pv HQ HS 7 rfl (by kernel_rfl) (by kernel_rfl) (l':=#[false,true,false,true,false,false,true,true,false,false,false,false,false,false,false,false,false,false]) (by kernel_rfl) rfl ?_
    refine Y ?_
    refine x_pv HQ HS 11 rfl (by kernel_rfl) (by kernel_rfl) (l':=#[false,true,false,true,false,false,true,true,false,false,false,true,false,false,false,false,false,false]) (by kernel_rfl) rfl ?_
    refine Y ?_
    refine x_pv HQ HS 13 rfl (by kernel_rfl) (by kernel_rfl) (l':=#[false,true,false,true,false,false,true,true,false,false,false,true,false,true,false,false,false,false]) (by kernel_rfl) rfl ?_
    refine Y ?_
    refine x_ld HQ HS 2 rfl (by kernel_rfl) (by kernel_rfl) (by kernel_rfl) (by kernel_rfl) (l':=#[false,true,true,true,false,false,true,true,false,false,false,true,false,true,false,false,false,false]) (by kernel_rfl) rfl ?_
    refine Y ?_
    refine x_pv HQ HS 4 rfl (by kernel_rfl) (by kernel_rfl) (l':=#[false,true,true,true,true,false,true,true,false,false,false,true,false,true,false,false,false,false]) (by kernel_rfl) rfl ?_
    refine Y ?_
    refine x_ld HQ HS 12 rfl (by kernel_rfl) (by kernel_rfl) (by kernel_rfl) (by kernel_rfl) (l':=#[false,true,true,true,true,false,true,true,false,false,false,true,true,true,false,false,false,false]) (by kernel_rfl) rfl ?_
    refine Y ?_
    refine x_pv HQ HS 14 rfl (by kernel_rfl) (by kernel_rfl) (l':=#[false,true,true,true,true,false,true,true,false,false,false,true,true,true,true,false,false,false]) (by kernel_rfl) rfl ?_
    refine Y ?_
    refine x_two 0 8 (by kernel_rfl) rfl rfl (l':=#[true,true,true,true,true,false,true,true,false,false,false,true,true,true,true,false,false,false]) (l'':=#[false,true,true,true,true,false,true,true,true,false,false,true,true,true,true,false,false,false]) (by kernel_rfl) (by kernel_rfl) (x_go ?_) (x_go ?_)
    · repeat (first|(refine qz ?_;clear HM;intro A1 W1 HM)|refine Y ?_)
      refine x_two 5 8 (by kernel_rfl) rfl rfl (l':=#[true,true,true,true,true,true,true,true,false,false,false,true,true,true,true,false,false,false]) (l'':=#[true,true,true,true,true,false,true,true,true,false,false,true,true,true,true,false,false,false]) (by kernel_rfl) (by kernel_rfl) (x_go ?_) (x_go ?_)
      · repeat (first|(refine gCall ?_;obtain ⟨F1,hF1⟩:=HM.own (A:=A);(first|(refine s_appw (ys:=fx.take fx.length) HM rfl rfl rfl rfl (ro_rdc (ro_take (ro_fixs hF1) fx.length)) (by simp only [List.length_take];omega) (by simp only [List.length_take,List.length_drop,List.length_append,List.length_cons,List.length_nil];omega) rfl ?_)|(refine s_appw (ys:=fx.drop fx.length) HM rfl rfl (by first|with_reducible rfl|(simp only [List.length_append,List.length_take,List.length_cons,List.length_nil];omega)) rfl (ro_rdc (ro_drop (ro_fixs hF1) hk hcap)) (by simp only [List.length_drop];omega) (by simp only [List.length_take,List.length_drop,List.length_append,List.length_cons,List.length_nil];omega) rfl ?_));clear hF1;intro A1 c1 W1 HM1;replace HM:=HM1;clear HM1)|refine Y ?_)
        refine x_one 8 (by kernel_rfl) rfl (l':=#[true,true,true,true,true,true,true,true,true,false,false,true,true,true,true,false,false,false]) (by kernel_rfl) (x_go ?_)
        repeat refine Y ?_
        refine x_one 9 (by kernel_rfl) rfl (l':=#[true,true,true,true,true,true,true,true,true,true,false,true,true,true,true,false,false,false]) (by kernel_rfl) (x_go ?_)
        repeat (first|(refine qg ?_;clear HM;intro g W1 HM)|refine Y ?_)
        refine x_one 10 (by kernel_rfl) rfl (l':=#[true,true,true,true,true,true,true,true,true,true,true,true,true,true,true,false,false,false]) (by kernel_rfl) (x_go ?_)
        repeat (first|(refine qa ?_;clear HM;intro A1 c1 W1 HM)|refine Y ?_)
        refine x_one 15 (by kernel_rfl) rfl (l':=#[true,true,true,true,true,true,true,true,true,true,true,true,true,true,true,true,false,false]) (by kernel_rfl) (x_go ?_)
        repeat (first|(refine gCall ?_;obtain ⟨F1,hF1⟩:=HM.own (A:=A);(first|(refine s_appw (ys:=fx.take fx.length) HM rfl rfl rfl rfl (ro_rdc (ro_take (ro_fixs hF1) fx.length)) (by simp only [List.length_take];omega) (by simp only [List.length_take,List.length_drop,List.length_append,List.length_cons,List.length_nil];omega) rfl ?_)|(refine s_appw (ys:=fx.drop fx.length) HM rfl rfl (by first|with_reducible rfl|(simp only [List.length_append,List.length_take,List.length_cons,List.length_nil];omega)) rfl (ro_rdc (ro_drop (ro_fixs hF1) hk hcap)) (by simp only [List.length_drop];omega) (by simp only [List.length_take,List.length_drop,List.length_append,List.length_cons,List.length_nil];omega) rfl ?_));clear hF1;intro A1 c1 W1 HM1;replace HM:=HM1;clear HM1)|refine Y ?_)
        refine x_pv HQ HS 16 rfl (by kernel_rfl) (by kernel_rfl) (l':=#[true,true,true,true,true,true,true,true,true,true,true,true,true,true,true,true,true,false]) (by kernel_rfl) rfl ?_
        refine Y ?_
        refine x_last 17 (by kernel_rfl) rfl (l':=#[true,true,true,true,true,true,true,true,true,true,true,true,true,true,true,true,true,true]) (by kernel_rfl) (by kernel_rfl) rfl ?_
        repeat (first|refine Y ?_|(refine qs ?_;clear HM;intro W1 HM))
        exact n_round2 (m + 1,_) A1 c1 (by simp only [Int.natCast_add,Int.natCast_one];exact U) ⟨by dsimp only;omega,hnew,HM.sb⟩ (by dsimp only;omega)
      · repeat refine Y ?_
        refine x_two 5 9 (by kernel_rfl) rfl rfl (l':=#[true,true,true,true,true,true,true,true,true,false,false,true,true,true,true,false,false,false]) (l'':=#[true,true,true,true,true,false,true,true,true,true,false,true,true,true,true,false,false,false]) (by kernel_rfl) (by kernel_rfl) (x_go ?_) (x_go ?_)
        · repeat (first|(refine gCall ?_;obtain ⟨F1,hF1⟩:=HM.own (A:=A);(first|(refine s_appw (ys:=fx.take fx.length) HM rfl rfl rfl rfl (ro_rdc (ro_take (ro_fixs hF1) fx.length)) (by simp only [List.length_take];omega) (by simp only [List.length_take,List.length_drop,List.length_append,List.length_cons,List.length_nil];omega) rfl ?_)|(refine s_appw (ys:=fx.drop fx.length) HM rfl rfl (by first|with_reducible rfl|(simp only [List.length_append,List.length_take,List.length_cons,List.length_nil];omega)) rfl (ro_rdc (ro_drop (ro_fixs hF1) hk hcap)) (by simp only [List.length_drop];omega) (by simp only [List.length_take,List.length_drop,List.length_append,List.length_cons,List.length_nil];omega) rfl ?_));clear hF1;intro A1 c1 W1 HM1;replace HM:=HM1;clear HM1)|refine Y ?_)
          refine x_one 9 (by kernel_rfl) rfl (l':=#[true,true,true,true,true,true,true,true,true,true,false,true,true,true,true,false,false,false]) (by kernel_rfl) (x_go ?_)
          repeat (first|(refine qg ?_;clear HM;intro g W1 HM)|refine Y ?_)
          refine x_one 10 (by kernel_rfl) rfl (l':=#[true,true,true,true,true,true,true,true,true,true,true,true,true,true,true,false,false,false]) (by kernel_rfl) (x_go ?_)
          repeat (first|(refine qa ?_;clear HM;intro A1 c1 W1 HM)|refine Y ?_)
          refine x_one 15 (by kernel_rfl) rfl (l':=#[true,true,true,true,true,true,true,true,true,true,true,true,true,true,true,true,false,false]) (by kernel_rfl) (x_go ?_)
          repeat (first|(refine gCall ?_;obtain ⟨F1,hF1⟩:=HM.own (A:=A);(first|(refine s_appw (ys:=fx.take fx.length) HM rfl rfl rfl rfl (ro_rdc (ro_take (ro_fixs hF1) fx.length)) (by simp only [List.length_take];omega) (by simp only [List.length_take,List.length_drop,List.length_append,List.length_cons,List.length_nil];omega) rfl ?_)|(refine s_appw (ys:=fx.drop fx.length) HM rfl rfl (by first|with_reducible rfl|(simp only [List.length_append,List.length_take,List.length_cons,List.length_nil];omega)) rfl (ro_rdc (ro_drop (ro_fixs hF1) hk hcap)) (by simp only [List.length_drop];omega) (by simp only [List.length_take,List.length_drop,List.length_append,List.length_cons,List.length_nil];omega) rfl ?_));clear hF1;intro A1 c1 W1 HM1;replace HM:=HM1;clear HM1)|refine Y ?_)
          refine x_pv HQ HS 16 rfl (by kernel_rfl) (by kernel_rfl) (l':=#[true,true,true,true,true,true,true,true,true,true,true,true,true,true,true,true,true,false]) (by kernel_rfl) rfl ?_
          refine Y ?_
          refine x_last 17 (by kernel_rfl) rfl (l':=#[true,true,true,true,true,true,true,true,true,true,true,true,true,true,true,true,true,true]) (by kernel_rfl) (by kernel_rfl) rfl ?_
          repeat (first|refine Y ?_|(refine qs ?_;clear HM;intro W1 HM))
          exact n_round2 (m + 1,_) A1 c1 (by simp only [Int.natCast_add,Int.natCast_one];exact U) ⟨by dsimp only;omega,hnew,HM.sb⟩ (by dsimp only;omega)
        · repeat (first|(refine qg ?_;clear HM;intro g W1 HM)|refine Y ?_)
          refine x_one 5 (by kernel_rfl) rfl (l':=#[true,true,true,true,true,true,true,true,true,true,false,true,true,true,true,false,false,false]) (by kernel_rfl) (x_go ?_)
          repeat (first|(refine gCall ?_;obtain ⟨F1,hF1⟩:=HM.own (A:=A);(first|(refine s_appw (ys:=fx.take fx.length) HM rfl rfl rfl rfl (ro_rdc (ro_take (ro_fixs hF1) fx.length)) (by simp only [List.length_take];omega) (by simp only [List.length_take,List.length_drop,List.length_append,List.length_cons,List.length_nil];omega) rfl ?_)|(refine s_appw (ys:=fx.drop fx.length) HM rfl rfl (by first|with_reducible rfl|(simp only [List.length_append,List.length_take,List.length_cons,List.length_nil];omega)) rfl (ro_rdc (ro_drop (ro_fixs hF1) hk hcap)) (by simp only [List.length_drop];omega) (by simp only [List.length_take,List.length_drop,List.length_append,List.length_cons,List.length_nil];omega) rfl ?_));clear hF1;intro A1 c1 W1 HM1;replace HM:=HM1;clear HM1)|refine Y ?_)
          refine x_one 10 (by kernel_rfl) rfl (l':=#[true,true,true,true,true,true,true,true,true,true,true,true,true,true,true,false,false,false]) (by kernel_rfl) (x_go ?_)
          repeat (first|(refine qa ?_;clear HM;intro A1 c1 W1 HM)|refine Y ?_)
          refine x_one 15 (by kernel_rfl) rfl (l':=#[true,true,true,true,true,true,true,true,true,true,true,true,true,true,true,true,false,false]) (by kernel_rfl) (x_go ?_)
          repeat (first|(refine gCall ?_;obtain ⟨F1,hF1⟩:=HM.own (A:=A);(first|(refine s_appw (ys:=fx.take fx.length) HM rfl rfl rfl rfl (ro_rdc (ro_take (ro_fixs hF1) fx.length)) (by simp only [List.length_take];omega) (by simp only [List.length_take,List.length_drop,List.length_append,List.length_cons,List.length_nil];omega) rfl ?_)|(refine s_appw (ys:=fx.drop fx.length) HM rfl rfl (by first|with_reducible rfl|(simp only [List.length_append,List.length_take,List.length_cons,List.length_nil];omega)) rfl (ro_rdc (ro_drop (ro_fixs hF1) hk hcap)) (by simp only [List.length_drop];omega) (by simp only [List.length_take,List.length_drop,List.length_append,List.length_cons,List.length_nil];omega) rfl ?_));clear hF1;intro A1 c1 W1 HM1;replace HM:=HM1;clear HM1)|refine Y ?_)
          refine x_pv HQ HS 16 rfl (by kernel_rfl) (by kernel_rfl) (l':=#[true,true,true,true,true,true,true,true,true,true,true,true,true,true,true,true,true,false]) (by kernel_rfl) rfl ?_
          refine Y ?_
          refine x_last 17 (by kernel_rfl) rfl (l':=#[true,true,true,true,true,true,true,true,true,true,true,true,true,true,true,true,true,true]) (by kernel_rfl) (by kernel_rfl) rfl ?_
          repeat (first|refine Y ?_|(refine qs ?_;clear HM;intro W1 HM))
          exact n_round2 (m + 1,_) A1 c1 (by simp only [Int.natCast_add,Int.natCast_one];exact U) ⟨by dsimp only;omega,hnew,HM.sb⟩ (by dsimp only;omega)
    · repeat refine Y ?_
      refine x_two 0 9 (by kernel_rfl) rfl rfl (l':=#[true,true,true,true,true,false,true,true,true,false,false,true,true,true,true,false,false,false]) (l'':=#[false,true,true,true,true,false,true,true,true,true,false,true,true,true,true,false,false,false]) (by kernel_rfl) (by kernel_rfl) (x_go ?_) (x_go ?_)
      · repeat (first|(refine qz ?_;clear HM;intro A1 W1 HM)|refine Y ?_)
        refine x_two 5 9 (by kernel_rfl) rfl rfl (l':=#[true,true,true,true,true,true,true,true,true,false,false,true,true,true,true,false,false,false]) (l'':=#[true,true,true,true,true,false,true,true,true,true,false,true,true,true,true,false,false,false]) (by kernel_rfl) (by kernel_rfl) (x_go ?_) (x_go ?_)
        · repeat (first|(refine gCall ?_;obtain ⟨F1,hF1⟩:=HM.own (A:=A);(first|(refine s_appw (ys:=fx.take fx.length) HM rfl rfl rfl rfl (ro_rdc (ro_take (ro_fixs hF1) fx.length)) (by simp only [List.length_take];omega) (by simp only [List.length_take,List.length_drop,List.length_append,List.length_cons,List.length_nil];omega) rfl ?_)|(refine s_appw (ys:=fx.drop fx.length) HM rfl rfl (by first|with_reducible rfl|(simp only [List.length_append,List.length_take,List.length_cons,List.length_nil];omega)) rfl (ro_rdc (ro_drop (ro_fixs hF1) hk hcap)) (by simp only [List.length_drop];omega) (by simp only [List.length_take,List.length_drop,List.length_append,List.length_cons,List.length_nil];omega) rfl ?_));clear hF1;intro A1 c1 W1 HM1;replace HM:=HM1;clear HM1)|refine Y ?_)
          refine x_one 9 (by kernel_rfl) rfl (l':=#[true,true,true,true,true,true,true,true,true,true,false,true,true,true,true,false,false,false]) (by kernel_rfl) (x_go ?_)
          repeat (first|(refine qg ?_;clear HM;intro g W1 HM)|refine Y ?_)
          refine x_one 10 (by kernel_rfl) rfl (l':=#[true,true,true,true,true,true,true,true,true,true,true,true,true,true,true,false,false,false]) (by kernel_rfl) (x_go ?_)
          repeat (first|(refine qa ?_;clear HM;intro A1 c1 W1 HM)|refine Y ?_)
          refine x_one 15 (by kernel_rfl) rfl (l':=#[true,true,true,true,true,true,true,true,true,true,true,true,true,true,true,true,false,false]) (by kernel_rfl) (x_go ?_)
          repeat (first|(refine gCall ?_;obtain ⟨F1,hF1⟩:=HM.own (A:=A);(first|(refine s_appw (ys:=fx.take fx.length) HM rfl rfl rfl rfl (ro_rdc (ro_take (ro_fixs hF1) fx.length)) (by simp only [List.length_take];omega) (by simp only [List.length_take,List.length_drop,List.length_append,List.length_cons,List.length_nil];omega) rfl ?_)|(refine s_appw (ys:=fx.drop fx.length) HM rfl rfl (by first|with_reducible rfl|(simp only [List.length_append,List.length_take,List.length_cons,List.length_nil];omega)) rfl (ro_rdc (ro_drop (ro_fixs hF1) hk hcap)) (by simp only [List.length_drop];omega) (by simp only [List.length_take,List.length_drop,List.length_append,List.length_cons,List.length_nil];omega) rfl ?_));clear hF1;intro A1 c1 W1 HM1;replace HM:=HM1;clear HM1)|refine Y ?_)
          refine x_pv HQ HS 16 rfl (by kernel_rfl) (by kernel_rfl) (l':=#[true,true,true,true,true,true,true,true,true,true,true,true,true,true,true,true,true,false]) (by kernel_rfl) rfl ?_
          refine Y ?_
          refine x_last 17 (by kernel_rfl) rfl (l':=#[true,true,true,true,true,true,true,true,true,true,true,true,true,true,true,true,true,true]) (by kernel_rfl) (by kernel_rfl) rfl ?_
          repeat (first|refine Y ?_|(refine qs ?_;clear HM;intro W1 HM))
          exact n_round2 (m + 1,_) A1 c1 (by simp only [Int.natCast_add,Int.natCast_one];exact U) ⟨by dsimp only;omega,hnew,HM.sb⟩ (by dsimp only;omega)
        · repeat (first|(refine qg ?_;clear HM;intro g W1 HM)|refine Y ?_)
          refine x_one 5 (by kernel_rfl) rfl (l':=#[true,true,true,true,true,true,true,true,true,true,false,true,true,true,true,false,false,false]) (by kernel_rfl) (x_go ?_)
          repeat (first|(refine gCall ?_;obtain ⟨F1,hF1⟩:=HM.own (A:=A);(first|(refine s_appw (ys:=fx.take fx.length) HM rfl rfl rfl rfl (ro_rdc (ro_take (ro_fixs hF1) fx.length)) (by simp only [List.length_take];omega) (by simp only [List.length_take,List.length_drop,List.length_append,List.length_cons,List.length_nil];omega) rfl ?_)|(refine s_appw (ys:=fx.drop fx.length) HM rfl rfl (by first|with_reducible rfl|(simp only [List.length_append,List.length_take,List.length_cons,List.length_nil];omega)) rfl (ro_rdc (ro_drop (ro_fixs hF1) hk hcap)) (by simp only [List.length_drop];omega) (by simp only [List.length_take,List.length_drop,List.length_append,List.length_cons,List.length_nil];omega) rfl ?_));clear hF1;intro A1 c1 W1 HM1;replace HM:=HM1;clear HM1)|refine Y ?_)
          refine x_one 10 (by kernel_rfl) rfl (l':=#[true,true,true,true,true,true,true,true,true,true,true,true,true,true,true,false,false,false]) (by kernel_rfl) (x_go ?_)
          repeat (first|(refine qa ?_;clear HM;intro A1 c1 W1 HM)|refine Y ?_)
          refine x_one 15 (by kernel_rfl) rfl (l':=#[true,true,true,true,true,true,true,true,true,true,true,true,true,true,true,true,false,false]) (by kernel_rfl) (x_go ?_)
          repeat (first|(refine gCall ?_;obtain ⟨F1,hF1⟩:=HM.own (A:=A);(first|(refine s_appw (ys:=fx.take fx.length) HM rfl rfl rfl rfl (ro_rdc (ro_take (ro_fixs hF1) fx.length)) (by simp only [List.length_take];omega) (by simp only [List.length_take,List.length_drop,List.length_append,List.length_cons,List.length_nil];omega) rfl ?_)|(refine s_appw (ys:=fx.drop fx.length) HM rfl rfl (by first|with_reducible rfl|(simp only [List.length_append,List.length_take,List.length_cons,List.length_nil];omega)) rfl (ro_rdc (ro_drop (ro_fixs hF1) hk hcap)) (by simp only [List.length_drop];omega) (by simp only [List.length_take,List.length_drop,List.length_append,List.length_cons,List.length_nil];omega) rfl ?_));clear hF1;intro A1 c1 W1 HM1;replace HM:=HM1;clear HM1)|refine Y ?_)
          refine x_pv HQ HS 16 rfl (by kernel_rfl) (by kernel_rfl) (l':=#[true,true,true,true,true,true,true,true,true,true,true,true,true,true,true,true,true,false]) (by kernel_rfl) rfl ?_
          refine Y ?_
          refine x_last 17 (by kernel_rfl) rfl (l':=#[true,true,true,true,true,true,true,true,true,true,true,true,true,true,true,true,true,true]) (by kernel_rfl) (by kernel_rfl) rfl ?_
          repeat (first|refine Y ?_|(refine qs ?_;clear HM;intro W1 HM))
          exact n_round2 (m + 1,_) A1 c1 (by simp only [Int.natCast_add,Int.natCast_one];exact U) ⟨by dsimp only;omega,hnew,HM.sb⟩ (by dsimp only;omega)
      · repeat (first|(refine qg ?_;clear HM;intro g W1 HM)|refine Y ?_)
        refine x_one 0 (by kernel_rfl) rfl (l':=#[true,true,true,true,true,false,true,true,true,true,false,true,true,true,true,false,false,false]) (by kernel_rfl) (x_go ?_)
        repeat (first|(refine qz ?_;clear HM;intro A1 W1 HM)|refine Y ?_)
        refine x_one 5 (by kernel_rfl) rfl (l':=#[true,true,true,true,true,true,true,true,true,true,false,true,true,true,true,false,false,false]) (by kernel_rfl) (x_go ?_)
        repeat (first|(refine gCall ?_;obtain ⟨F1,hF1⟩:=HM.own (A:=A);(first|(refine s_appw (ys:=fx.take fx.length) HM rfl rfl rfl rfl (ro_rdc (ro_take (ro_fixs hF1) fx.length)) (by simp only [List.length_take];omega) (by simp only [List.length_take,List.length_drop,List.length_append,List.length_cons,List.length_nil];omega) rfl ?_)|(refine s_appw (ys:=fx.drop fx.length) HM rfl rfl (by first|with_reducible rfl|(simp only [List.length_append,List.length_take,List.length_cons,List.length_nil];omega)) rfl (ro_rdc (ro_drop (ro_fixs hF1) hk hcap)) (by simp only [List.length_drop];omega) (by simp only [List.length_take,List.length_drop,List.length_append,List.length_cons,List.length_nil];omega) rfl ?_));clear hF1;intro A1 c1 W1 HM1;replace HM:=HM1;clear HM1)|refine Y ?_)
        refine x_one 10 (by kernel_rfl) rfl (l':=#[true,true,true,true,true,true,true,true,true,true,true,true,true,true,true,false,false,false]) (by kernel_rfl) (x_go ?_)
        repeat (first|(refine qa ?_;clear HM;intro A1 c1 W1 HM)|refine Y ?_)
        refine x_one 15 (by kernel_rfl) rfl (l':=#[true,true,true,true,true,true,true,true,true,true,true,true,true,true,true,true,false,false]) (by kernel_rfl) (x_go ?_)
        repeat (first|(refine gCall ?_;obtain ⟨F1,hF1⟩:=HM.own (A:=A);(first|(refine s_appw (ys:=fx.take fx.length) HM rfl rfl rfl rfl (ro_rdc (ro_take (ro_fixs hF1) fx.length)) (by simp only [List.length_take];omega) (by simp only [List.length_take,List.length_drop,List.length_append,List.length_cons,List.length_nil];omega) rfl ?_)|(refine s_appw (ys:=fx.drop fx.length) HM rfl rfl (by first|with_reducible rfl|(simp only [List.length_append,List.length_take,List.length_cons,List.length_nil];omega)) rfl (ro_rdc (ro_drop (ro_fixs hF1) hk hcap)) (by simp only [List.length_drop];omega) (by simp only [List.length_take,List.length_drop,List.length_append,List.length_cons,List.length_nil];omega) rfl ?_));clear hF1;intro A1 c1 W1 HM1;replace HM:=HM1;clear HM1)|refine Y ?_)
        refine x_pv HQ HS 16 rfl (by kernel_rfl) (by kernel_rfl) (l':=#[true,true,true,true,true,true,true,true,true,true,true,true,true,true,true,true,true,false]) (by kernel_rfl) rfl ?_
        refine Y ?_
        refine x_last 17 (by kernel_rfl) rfl (l':=#[true,true,true,true,true,true,true,true,true,true,true,true,true,true,true,true,true,true]) (by kernel_rfl) (by kernel_rfl) rfl ?_
        repeat (first|refine Y ?_|(refine qs ?_;clear HM;intro W1 HM))
        exact n_round2 (m + 1,_) A1 c1 (by simp only [Int.natCast_add,Int.natCast_one];exact U) ⟨by dsimp only;omega,hnew,HM.sb⟩ (by dsimp only;omega)
end Go.Proofs.YtampmicahnnebaaGreat.Sp
namespace Go.Proofs.YtampmicahnnebaaGreat.Sp
open Go Go.RowKit Go.Proofs.YtampmicahnnebaaGreatW.PrintLast
set_option maxRecDepth 10000
set_option maxHeartbeats 4000000
section
variable {P : Program} {n : Nat} {ops : Array Oper} {ll : List Oper} {Q : Exit → Act → World → Prop} {S : World → Prop} {ds : List Nat} {E : Env} {W : World} {i j k d fuel : Nat} {l l' l'' l3 : Array Bool} {o o' o3 : Oper}
theorem x_three (i j k : Nat) (hr : Region.ready .any ll.toArray l = [i,j,k]) (ho : nthO ll i = some o) (ho2 : nthO ll j = some o') (ho3 : nthO ll k = some o3) (hl : l.setIfInBounds i true = l') (hl2 : l.setIfInBounds j true = l'') (hl3 : l.setIfInBounds k true = l3) (h : XO P n ll.toArray Q S ds l' fuel o E W) (h2 : XO P n ll.toArray Q S ds l'' fuel o' E W) (h3 : XO P n ll.toArray Q S ds l3 fuel o3 E W) : WX P n ll.toArray Q S ds l (fuel + 1) E W:=by
  have ho' : ll.toArray[i]? = some o:=by rw [nthO_eq] at ho;simpa using ho
  have ho2' : ll.toArray[j]? = some o':=by rw [nthO_eq] at ho2;simpa using ho2
  have ho3' : ll.toArray[k]? = some o3:=by rw [nthO_eq] at ho3;simpa using ho3
  refine ⟨fun a ha hS=>?_⟩
  refine wpAnyLast_all hr (by simp) (fun q hq=>?_)
  simp only [List.mem_cons,List.not_mem_nil,or_false] at hq
  rcases hq with rfl|rfl|rfl
  · have h4:=h.out.out a ha
    rw [← hl] at h4
    exact wpOp_mono (fun a' w' hk=>⟨fun _ _=>hk.1,hk.2⟩) (list_wpOp ho' h4)
  · have h4:=h2.out.out a ha
    rw [← hl2] at h4
    exact wpOp_mono (fun a' w' hk=>⟨fun _ _=>hk.1,hk.2⟩) (list_wpOp ho2' h4)
  · have h4:=h3.out.out a ha
    rw [← hl3] at h4
    exact wpOp_mono (fun a' w' hk=>⟨fun _ _=>hk.1,hk.2⟩) (list_wpOp ho3' h4)
end
variable {w0 W : World} {L : List Asn}
def rMA : TyR MA:=nestR (ι:=Unit) 8 (⟨0,0,0,0,0,0,⟨#[]⟩,[]⟩,(none,0)) encMA (fun _ _ _=>True) getMA (fun _ _=>rfl)
  (fun z j v i h=>by
    match j with
    | 0|1|2|3|4|5|6|7=>simpa [encMA,encMsg,getMA] using h
    | j + 8=>simp [getMA] at h)
instance : FlatR rMA (fun z=>encMsg z.1 z.2):=⟨by rintro w x c ⟨_,h,_⟩;exact h⟩
theorem ro_ma {x : MA} {c : List Value} {W : World} {F : Nat → Prop} (h : (tMA.A x c).H W F) : rMA.R W x c:=by obtain ⟨_,h,_⟩:=h;exact ⟨(),h,trivial⟩
theorem ro_mas {xs : List MA} {W : World} {F : Nat → Prop} {e q : Nat} {A : Option Addr} (h : (own tMA e A q xs).H W F) : RoRow rMA W A xs:=own_ro rfl ro_ma h
theorem nil_ma {eS e c : Nat} {A : Option Addr} (h : Mem w0 W (own (tMsg eS) e A c [] :: L)) : Mem w0 W (own tMA e A c [] :: L):=by
  obtain ⟨zs,e1,h⟩:=opn_bag h
  obtain rfl : zs = []:=by simpa using e1
  exact (h.perm (List.Perm.swap ..)).drop
instance {m : Msg} {i : At} {L : List Asn} : MkIn L tMA (encMsg m i) (m,i) L:=⟨fun W ok h=>⟨fun _=>False,fun _ h=>h.elim,⟨(),rfl,trivial⟩,h.mono (fun k hk=>⟨hk,fun h=>h⟩)⟩⟩
instance {m : Msg} {i : At} : Len (encMsg m i) 8:=⟨rfl⟩
theorem out_c {A : Option Addr} {c k : Nat} {zs : List MA} (hk : k < zs.length) (hn : zs.length ≤ 1000) (HM : Mem w0 W (own tMA 40 A c zs :: L)) : Calls Tryz.prog 109 #[.slice A zs.length c,.int .i64 k] W fun e W'=>∃ A' c',e = .returned (.slice A' (zs.take k ++ zs.drop (k + 1)).length c') ∧ Mem w0 W' (own tMA 40 A' c' (zs.take k ++ zs.drop (k + 1)) :: own tMA 40 A c zs :: L):=by
  refine enter Tryz.func109 rfl Tryz.ntmps109 [(0,_),(1,_)] rfl ⟨rfl,rfl,trivial⟩ ?_
  have hcap : zs.length ≤ c:=by obtain ⟨F1,hF1⟩:=HM.own (A:=A);exact (own_max hF1).2
  have hk1 : (k : Int) + 1 = ((k + 1 : Nat) : Int):=by omega
  repeat refine Y ?_
  refine gR ?_
  refine x_start (ds:=[]) HM (fun w hw=>hw) (by kernel_rfl) (by kernel_rfl) qq ?_
  intro HQ HS W1 HM1;replace HM:=HM1;clear HM1
  refine x_pv HQ HS 1 rfl (by kernel_rfl) (by kernel_rfl) (l':=#[false,true,false,false,false,false,false,false,false,false,false]) (by kernel_rfl) rfl ?_
  refine Y ?_
  refine x_pv HQ HS 2 rfl (by kernel_rfl) (by kernel_rfl) (l':=#[false,true,true,false,false,false,false,false,false,false,false]) (by kernel_rfl) rfl ?_
  refine Y ?_
  refine x_pv HQ HS 3 rfl (by kernel_rfl) (by kernel_rfl) (l':=#[false,true,true,true,false,false,false,false,false,false,false]) (by kernel_rfl) rfl ?_
  refine Y ?_
  refine x_pv HQ HS 5 rfl (by kernel_rfl) (by kernel_rfl) (l':=#[false,true,true,true,false,true,false,false,false,false,false]) (by kernel_rfl) rfl ?_
  refine Y ?_
  refine x_pv HQ HS 6 rfl (by kernel_rfl) (by kernel_rfl) (l':=#[false,true,true,true,false,true,true,false,false,false,false]) (by kernel_rfl) rfl ?_
  refine Y ?_
  refine x_pv HQ HS 7 rfl (by kernel_rfl) (by kernel_rfl) (l':=#[false,true,true,true,false,true,true,true,false,false,false]) (by kernel_rfl) rfl ?_
  refine Y ?_
  refine x_pv HQ HS 8 rfl (by kernel_rfl) (by kernel_rfl) (l':=#[false,true,true,true,false,true,true,true,true,false,false]) (by kernel_rfl) rfl ?_
  refine Y ?_
  refine x_one 0 (by kernel_rfl) rfl (l':=#[true,true,true,true,false,true,true,true,true,false,false]) (by kernel_rfl) (x_go ?_)
  repeat (first|(refine gL ?_;refine s_lit0a HM rfl rfl ?_;intro A1 W1 HM1;clear HM;have HM:=nil_ma HM1;clear HM1)|refine Y ?_)
  refine x_one 4 (by kernel_rfl) rfl (l':=#[true,true,true,true,true,true,true,true,true,false,false]) (by kernel_rfl) (x_go ?_)
  repeat (first|(refine gCall ?_;obtain ⟨F1,hF1⟩:=HM.own (A:=A);(first|(refine s_appw (ys:=zs.take k) HM rfl rfl rfl rfl (ro_rdc (ro_take (ro_mas hF1) k)) (by simp only [List.length_take];omega) (by simp only [List.length_take,List.length_drop,List.length_append,List.length_cons,List.length_nil];omega) rfl ?_)|(refine s_appw (ys:=zs.drop (k + 1)) HM rfl rfl (by first|with_reducible rfl|(simp only [List.length_append,List.length_take,List.length_cons,List.length_nil];omega)) rfl (ro_rdc (ro_drop (ro_mas hF1) (by omega) hcap)) (by simp only [List.length_drop];omega) (by simp only [List.length_take,List.length_drop,List.length_append,List.length_cons,List.length_nil];omega) rfl ?_));clear hF1;intro A1 c1 W1 HM1;replace HM:=HM1;clear HM1)|refine Y ?_)
  refine x_one 9 (by kernel_rfl) rfl (l':=#[true,true,true,true,true,true,true,true,true,true,false]) (by kernel_rfl) (x_go ?_)
  repeat (first|(refine gCall ?_;obtain ⟨F1,hF1⟩:=HM.own (A:=A);(first|(refine s_appw (ys:=zs.take k) HM rfl rfl rfl rfl (ro_rdc (ro_take (ro_mas hF1) k)) (by simp only [List.length_take];omega) (by simp only [List.length_take,List.length_drop,List.length_append,List.length_cons,List.length_nil];omega) rfl ?_)|(refine s_appw (ys:=zs.drop (k + 1)) HM rfl rfl (by first|with_reducible rfl|(simp only [List.length_append,List.length_take,List.length_cons,List.length_nil];omega)) rfl (ro_rdc (ro_drop (ro_mas hF1) (by omega) hcap)) (by simp only [List.length_drop];omega) (by simp only [List.length_take,List.length_drop,List.length_append,List.length_cons,List.length_nil];omega) rfl ?_));clear hF1;intro A1 c1 W1 HM1;replace HM:=HM1;clear HM1)|refine Y ?_)
  refine x_pv HQ HS 10 rfl (by kernel_rfl) (by kernel_rfl) (l':=#[true,true,true,true,true,true,true,true,true,true,true]) (by kernel_rfl) rfl ?_
  refine Y ?_
  refine x_done (by kernel_rfl) ?_
  repeat refine Y ?_
  rw [show zs.take k ++ zs.drop (k + 1) = [] ++ zs.take k ++ zs.drop (k + 1) from rfl]
  exact ret_tmp rfl rfl ⟨A1,c1,rfl,HM.sb⟩
theorem copy_c (x : Wld) (i : AtW) (h : RoW false w0 x i) (hn : SmallW x) (HM : Mem w0 W L) : Calls Tryz.prog 90 #[.agg (encW x i).toArray] W fun e W'=>∃ j,e = .returned (.agg (encW x j).toArray) ∧ Mem w0 W' (wldP x j ++ L):=by
  refine enter Tryz.func90 rfl Tryz.ntmps90 [(0,.agg (encW x i).toArray)] rfl ⟨rfl,trivial⟩ ?_
  have hr:=h.recs
  have hf:=h.fixed
  have hn1:=hn.recs
  have hn2:=hn.fixed
  unfold encW
  replace HM:=(HM.rod hr).rod hf
  repeat (first|(refine qg ?_;clear HM;intro g W1 HM)|refine Y ?_)
  rename_i ga Wa
  refine c_cutn (σ:=Nat × At × At) (fun s=>[(1,.pointer (some ⟨ga,0,none⟩)),(2,.pointer (some ⟨g,0,none⟩)),(3,.pointer (some ⟨s.1,0,none⟩))]) (fun s W1=>Mem w0 W1 (box g 78 [.slice none 0 0,.slice none 0 0,.slice none 0 0] :: box ga 78 [.slice i.b0.1 x.recs.length i.b0.2,.slice i.b1.1 x.flight.length i.b1.2,.slice i.b2.1 x.fixed.length i.b2.2] :: box s.1 78 [.slice none 0 0,.slice s.2.1.1 x.flight.length s.2.1.2,.slice s.2.2.1 x.fixed.length s.2.2.2] :: own (tMsg 91) 40 s.2.1.1 s.2.1.2 x.flight :: own tFix 134 s.2.2.1 s.2.2.2 x.fixed :: L)) ?_ ?_
  · have hz:=hn1
    refine gR ?_
    refine x_start (ds:=[]) HM (fun w hw=>hw) (by kernel_rfl) (by kernel_rfl) qq ?_
    intro HQ HS W1 HM1;replace HM:=HM1;clear HM1
    refine x_pv HQ HS 0 rfl (by kernel_rfl) (by kernel_rfl) (l':=#[true,false,false,false,false,false,false,false,false,false]) (by kernel_rfl) rfl ?_
    refine Y ?_
    refine x_pv HQ HS 4 rfl (by kernel_rfl) (by kernel_rfl) (l':=#[true,false,false,false,true,false,false,false,false,false]) (by kernel_rfl) rfl ?_
    refine Y ?_
    refine x_ld HQ HS 1 rfl (by kernel_rfl) (by kernel_rfl) (by kernel_rfl) (by kernel_rfl) (l':=#[true,true,false,false,true,false,false,false,false,false]) (by kernel_rfl) rfl ?_
    refine Y ?_
    refine x_ld HQ HS 5 rfl (by kernel_rfl) (by kernel_rfl) (by kernel_rfl) (by kernel_rfl) (l':=#[true,true,false,false,true,true,false,false,false,false]) (by kernel_rfl) rfl ?_
    refine Y ?_
    refine x_three 2 3 8 (by kernel_rfl) rfl rfl rfl (l':=#[true,true,true,false,true,true,false,false,false,false]) (l'':=#[true,true,false,true,true,true,false,false,false,false]) (l3:=#[true,true,false,false,true,true,false,false,true,false]) (by kernel_rfl) (by kernel_rfl) (by kernel_rfl) (x_go ?_) (x_go ?_) (x_go ?_)
    · repeat (first|(refine qf ?_;go_at_call 29;refine (l2Messages_c h.flight hn.flight hn.flights HM).mono ?_;rintro e W1 ⟨A5,c5,rfl,HM1⟩;refine ⟨_,rfl,?_⟩;replace HM:=HM1;clear HM1)|refine Y ?_)
      refine x_two 3 8 (by kernel_rfl) rfl rfl (l':=#[true,true,true,true,true,true,false,false,false,false]) (l'':=#[true,true,true,false,true,true,false,false,true,false]) (by kernel_rfl) (by kernel_rfl) (x_go ?_) (x_go ?_)
      · repeat (first|(refine qz ?_;clear HM;intro A1 W1 HM)|refine Y ?_)
        refine x_two 6 8 (by kernel_rfl) rfl rfl (l':=#[true,true,true,true,true,true,true,false,false,false]) (l'':=#[true,true,true,true,true,true,false,false,true,false]) (by kernel_rfl) (by kernel_rfl) (x_go ?_) (x_go ?_)
        · repeat (first|(refine qa ?_;clear HM;intro A1 c1 W1 HM)|refine Y ?_)
          refine x_two 7 8 (by kernel_rfl) rfl rfl (l':=#[true,true,true,true,true,true,true,true,false,false]) (l'':=#[true,true,true,true,true,true,true,false,true,false]) (by kernel_rfl) (by kernel_rfl) (x_go ?_) (x_go ?_)
          · repeat refine Y ?_
            refine x_one 8 (by kernel_rfl) rfl (l':=#[true,true,true,true,true,true,true,true,true,false]) (by kernel_rfl) (x_go ?_)
            repeat (first|(refine qg ?_;clear HM;intro g W1 HM)|refine Y ?_)
            refine x_one 9 (by kernel_rfl) rfl (l':=#[true,true,true,true,true,true,true,true,true,true]) (by kernel_rfl) (x_go ?_)
            repeat (first|(refine qs ?_;clear HM;intro W1 HM)|refine Y ?_)
            refine x_done (by kernel_rfl) ?_
            exact n_mid (g,(A5,c5),(A1,c1)) U HM.sb
          · repeat (first|(refine qg ?_;clear HM;intro g W1 HM)|refine Y ?_)
            refine x_one 7 (by kernel_rfl) rfl (l':=#[true,true,true,true,true,true,true,true,true,false]) (by kernel_rfl) (x_go ?_)
            repeat refine Y ?_
            refine x_one 9 (by kernel_rfl) rfl (l':=#[true,true,true,true,true,true,true,true,true,true]) (by kernel_rfl) (x_go ?_)
            repeat (first|(refine qs ?_;clear HM;intro W1 HM)|refine Y ?_)
            refine x_done (by kernel_rfl) ?_
            exact n_mid (g,(A5,c5),(A1,c1)) U HM.sb
        · repeat (first|(refine qg ?_;clear HM;intro g W1 HM)|refine Y ?_)
          refine x_one 6 (by kernel_rfl) rfl (l':=#[true,true,true,true,true,true,true,false,true,false]) (by kernel_rfl) (x_go ?_)
          repeat (first|(refine qa ?_;clear HM;intro A1 c1 W1 HM)|refine Y ?_)
          refine x_one 7 (by kernel_rfl) rfl (l':=#[true,true,true,true,true,true,true,true,true,false]) (by kernel_rfl) (x_go ?_)
          repeat refine Y ?_
          refine x_one 9 (by kernel_rfl) rfl (l':=#[true,true,true,true,true,true,true,true,true,true]) (by kernel_rfl) (x_go ?_)
          repeat (first|(refine qs ?_;clear HM;intro W1 HM)|refine Y ?_)
          refine x_done (by kernel_rfl) ?_
          exact n_mid (g,(A5,c5),(A1,c1)) U HM.sb
      · repeat (first|(refine qg ?_;clear HM;intro g W1 HM)|refine Y ?_)
        refine x_one 3 (by kernel_rfl) rfl (l':=#[true,true,true,true,true,true,false,false,true,false]) (by kernel_rfl) (x_go ?_)
        repeat (first|(refine qz ?_;clear HM;intro A1 W1 HM)|refine Y ?_)
        refine x_one 6 (by kernel_rfl) rfl (l':=#[true,true,true,true,true,true,true,false,true,false]) (by kernel_rfl) (x_go ?_)
        repeat (first|(refine qa ?_;clear HM;intro A1 c1 W1 HM)|refine Y ?_)
        refine x_one 7 (by kernel_rfl) rfl (l':=#[true,true,true,true,true,true,true,true,true,false]) (by kernel_rfl) (x_go ?_)
        repeat refine Y ?_
        refine x_one 9 (by kernel_rfl) rfl (l':=#[true,true,true,true,true,true,true,true,true,true]) (by kernel_rfl) (x_go ?_)
        repeat (first|(refine qs ?_;clear HM;intro W1 HM)|refine Y ?_)
        refine x_done (by kernel_rfl) ?_
        exact n_mid (g,(A5,c5),(A1,c1)) U HM.sb
    · repeat (first|(refine qz ?_;clear HM;intro A1 W1 HM)|refine Y ?_)
      refine x_two 2 8 (by kernel_rfl) rfl rfl (l':=#[true,true,true,true,true,true,false,false,false,false]) (l'':=#[true,true,false,true,true,true,false,false,true,false]) (by kernel_rfl) (by kernel_rfl) (x_go ?_) (x_go ?_)
      · repeat (first|(refine qf ?_;go_at_call 29;refine (l2Messages_c h.flight hn.flight hn.flights HM).mono ?_;rintro e W1 ⟨A5,c5,rfl,HM1⟩;refine ⟨_,rfl,?_⟩;replace HM:=HM1;clear HM1)|refine Y ?_)
        refine x_two 6 8 (by kernel_rfl) rfl rfl (l':=#[true,true,true,true,true,true,true,false,false,false]) (l'':=#[true,true,true,true,true,true,false,false,true,false]) (by kernel_rfl) (by kernel_rfl) (x_go ?_) (x_go ?_)
        · repeat (first|(refine qa ?_;clear HM;intro A1 c1 W1 HM)|refine Y ?_)
          refine x_two 7 8 (by kernel_rfl) rfl rfl (l':=#[true,true,true,true,true,true,true,true,false,false]) (l'':=#[true,true,true,true,true,true,true,false,true,false]) (by kernel_rfl) (by kernel_rfl) (x_go ?_) (x_go ?_)
          · repeat refine Y ?_
            refine x_one 8 (by kernel_rfl) rfl (l':=#[true,true,true,true,true,true,true,true,true,false]) (by kernel_rfl) (x_go ?_)
            repeat (first|(refine qg ?_;clear HM;intro g W1 HM)|refine Y ?_)
            refine x_one 9 (by kernel_rfl) rfl (l':=#[true,true,true,true,true,true,true,true,true,true]) (by kernel_rfl) (x_go ?_)
            repeat (first|(refine qs ?_;clear HM;intro W1 HM)|refine Y ?_)
            refine x_done (by kernel_rfl) ?_
            exact n_mid (g,(A5,c5),(A1,c1)) U HM.sb
          · repeat (first|(refine qg ?_;clear HM;intro g W1 HM)|refine Y ?_)
            refine x_one 7 (by kernel_rfl) rfl (l':=#[true,true,true,true,true,true,true,true,true,false]) (by kernel_rfl) (x_go ?_)
            repeat refine Y ?_
            refine x_one 9 (by kernel_rfl) rfl (l':=#[true,true,true,true,true,true,true,true,true,true]) (by kernel_rfl) (x_go ?_)
            repeat (first|(refine qs ?_;clear HM;intro W1 HM)|refine Y ?_)
            refine x_done (by kernel_rfl) ?_
            exact n_mid (g,(A5,c5),(A1,c1)) U HM.sb
        · repeat (first|(refine qg ?_;clear HM;intro g W1 HM)|refine Y ?_)
          refine x_one 6 (by kernel_rfl) rfl (l':=#[true,true,true,true,true,true,true,false,true,false]) (by kernel_rfl) (x_go ?_)
          repeat (first|(refine qa ?_;clear HM;intro A1 c1 W1 HM)|refine Y ?_)
          refine x_one 7 (by kernel_rfl) rfl (l':=#[true,true,true,true,true,true,true,true,true,false]) (by kernel_rfl) (x_go ?_)
          repeat refine Y ?_
          refine x_one 9 (by kernel_rfl) rfl (l':=#[true,true,true,true,true,true,true,true,true,true]) (by kernel_rfl) (x_go ?_)
          repeat (first|(refine qs ?_;clear HM;intro W1 HM)|refine Y ?_)
          refine x_done (by kernel_rfl) ?_
          exact n_mid (g,(A5,c5),(A1,c1)) U HM.sb
      · repeat (first|(refine qg ?_;clear HM;intro g W1 HM)|refine Y ?_)
        refine x_one 2 (by kernel_rfl) rfl (l':=#[true,true,true,true,true,true,false,false,true,false]) (by kernel_rfl) (x_go ?_)
        repeat (first|(refine qf ?_;go_at_call 29;refine (l2Messages_c h.flight hn.flight hn.flights HM).mono ?_;rintro e W1 ⟨A5,c5,rfl,HM1⟩;refine ⟨_,rfl,?_⟩;replace HM:=HM1;clear HM1)|refine Y ?_)
        refine x_one 6 (by kernel_rfl) rfl (l':=#[true,true,true,true,true,true,true,false,true,false]) (by kernel_rfl) (x_go ?_)
        repeat (first|(refine qa ?_;clear HM;intro A1 c1 W1 HM)|refine Y ?_)
        refine x_one 7 (by kernel_rfl) rfl (l':=#[true,true,true,true,true,true,true,true,true,false]) (by kernel_rfl) (x_go ?_)
        repeat refine Y ?_
        refine x_one 9 (by kernel_rfl) rfl (l':=#[true,true,true,true,true,true,true,true,true,true]) (by kernel_rfl) (x_go ?_)
        repeat (first|(refine qs ?_;clear HM;intro W1 HM)|refine Y ?_)
        refine x_done (by kernel_rfl) ?_
        exact n_mid (g,(A5,c5),(A1,c1)) U HM.sb
    · repeat (first|(refine qg ?_;clear HM;intro g W1 HM)|refine Y ?_)
      refine x_two 2 3 (by kernel_rfl) rfl rfl (l':=#[true,true,true,false,true,true,false,false,true,false]) (l'':=#[true,true,false,true,true,true,false,false,true,false]) (by kernel_rfl) (by kernel_rfl) (x_go ?_) (x_go ?_)
      · repeat (first|(refine qf ?_;go_at_call 29;refine (l2Messages_c h.flight hn.flight hn.flights HM).mono ?_;rintro e W1 ⟨A5,c5,rfl,HM1⟩;refine ⟨_,rfl,?_⟩;replace HM:=HM1;clear HM1)|refine Y ?_)
        refine x_one 3 (by kernel_rfl) rfl (l':=#[true,true,true,true,true,true,false,false,true,false]) (by kernel_rfl) (x_go ?_)
        repeat (first|(refine qz ?_;clear HM;intro A1 W1 HM)|refine Y ?_)
        refine x_one 6 (by kernel_rfl) rfl (l':=#[true,true,true,true,true,true,true,false,true,false]) (by kernel_rfl) (x_go ?_)
        repeat (first|(refine qa ?_;clear HM;intro A1 c1 W1 HM)|refine Y ?_)
        refine x_one 7 (by kernel_rfl) rfl (l':=#[true,true,true,true,true,true,true,true,true,false]) (by kernel_rfl) (x_go ?_)
        repeat refine Y ?_
        refine x_one 9 (by kernel_rfl) rfl (l':=#[true,true,true,true,true,true,true,true,true,true]) (by kernel_rfl) (x_go ?_)
        repeat (first|(refine qs ?_;clear HM;intro W1 HM)|refine Y ?_)
        refine x_done (by kernel_rfl) ?_
        exact n_mid (g,(A5,c5),(A1,c1)) U HM.sb
      · repeat (first|(refine qz ?_;clear HM;intro A1 W1 HM)|refine Y ?_)
        refine x_one 2 (by kernel_rfl) rfl (l':=#[true,true,true,true,true,true,false,false,true,false]) (by kernel_rfl) (x_go ?_)
        repeat (first|(refine qf ?_;go_at_call 29;refine (l2Messages_c h.flight hn.flight hn.flights HM).mono ?_;rintro e W1 ⟨A5,c5,rfl,HM1⟩;refine ⟨_,rfl,?_⟩;replace HM:=HM1;clear HM1)|refine Y ?_)
        refine x_one 6 (by kernel_rfl) rfl (l':=#[true,true,true,true,true,true,true,false,true,false]) (by kernel_rfl) (x_go ?_)
        repeat (first|(refine qa ?_;clear HM;intro A1 c1 W1 HM)|refine Y ?_)
        refine x_one 7 (by kernel_rfl) rfl (l':=#[true,true,true,true,true,true,true,true,true,false]) (by kernel_rfl) (x_go ?_)
        repeat refine Y ?_
        refine x_one 9 (by kernel_rfl) rfl (l':=#[true,true,true,true,true,true,true,true,true,true]) (by kernel_rfl) (x_go ?_)
        repeat (first|(refine qs ?_;clear HM;intro W1 HM)|refine Y ?_)
        refine x_done (by kernel_rfl) ?_
        exact n_mid (g,(A5,c5),(A1,c1)) U HM.sb
  clear HM
  rintro ⟨g3,q1,q2⟩ W1 HM
  dsimp only at HM ⊢
  replace HM:=(HM.nil (tRec 91 40 9 3 66) 31).rod hr
  repeat refine Y ?_
  refine c_loop2 (σ:=Nat) (fun s A c=>[(1,.pointer (some ⟨ga,0,none⟩)),(2,.pointer (some ⟨g,0,none⟩)),(3,.pointer (some ⟨g3,0,none⟩)),(4,.int .i64 s)]) (fun s A c W1=>s ≤ x.recs.length ∧ ∃ ys,ys = x.recs.take s ∧ Mem w0 W1 (box g 78 [.slice none 0 0,.slice none 0 0,.slice none 0 0] :: box ga 78 [.slice i.b0.1 x.recs.length i.b0.2,.slice i.b1.1 x.flight.length i.b1.2,.slice i.b2.1 x.fixed.length i.b2.2] :: box g3 78 [.slice A ys.length c,.slice q1.1 x.flight.length q1.2,.slice q2.1 x.fixed.length q2.2] :: own (tMsg 91) 40 q1.1 q1.2 x.flight :: own tFix 134 q2.1 q2.2 x.fixed :: own (tRec 91 40 9 3 66) 31 A c ys :: ro (rRcw false) w0 i.b0.1 x.recs :: L)) (fun s=>x.recs.length - s) 0 none 0 U ⟨Nat.zero_le _,[],rfl,HM.sb⟩ ?_
  clear HM
  rintro k A c W1 ⟨hk,ys,hys,HM⟩
  have hyl : ys.length = k:=by rw [hys,List.length_take];omega
  by_cases hlt : k < x.recs.length
  · obtain ⟨cc,⟨j,rfl,hh⟩,HM⟩:=HM.roOpen (A:=i.b0.1) k hlt
    have hsm:=hn.recss _ (List.getElem_mem hlt)
    unfold encRcd at HM
    repeat (first|(refine gR ?_;refine d_start [9,11] [(0,0),(0,2),(0,4),(1,1),(1,3),(0,5),(1,6),(2,7),(2,8),(3,9),(0,10),(3,11)] HM (by kernel_rfl) (by kernel_rfl) qq (by kernel_rfl) rfl ?_;intro HQ HS W1 HM1;replace HM:=HM1;clear HM1)|refine Y ?_|(refine qs ?_;clear HM;intro W1 HM)|(refine qf ?_;go_at_call 24;refine (l2Copy_c _ _ hh.ro hsm HM).mono ?_;rintro e W1 ⟨j2,rfl,HM1⟩;refine ⟨_,rfl,?_⟩;replace HM:=HM1;clear HM1;simp only [partRcd,List.cons_append,List.nil_append] at HM;simp only [encRcd])|(refine qa ?_;clear HM;intro A1 c1 W1 HM)|(refine qg ?_;clear HM;intro g W1 HM))
    exact n_round2 (k + 1) A1 c1 U ⟨by omega,ys ++ [x.recs[k]],by rw [hys];exact List.take_append_getElem hlt,HM.sb⟩ (by omega)
  · have hkl : k = x.recs.length:=by omega
    have hye : ys = x.recs:=by rw [hys,hkl,List.take_length]
    subst hye
    repeat (first|refine Y ?_|(refine qs ?_;clear HM;intro W1 HM))
    refine ret_cell HM rfl rfl rfl ⟨⟨(A,c),q1,q2⟩,rfl,?_⟩
    have h1:=flt_of (HM.pk (A:=own (tMsg 91) 40 q1.1 q1.2 x.flight))
    simp only [wldP,List.cons_append,List.nil_append]
    exact h1.sb
end Go.Proofs.YtampmicahnnebaaGreat.Sp
namespace Go.Proofs.YtampmicahnnebaaGreat.Sp
open Go Go.RowKit
set_option maxRecDepth 10000
set_option maxHeartbeats 4000000
variable {w0 W : World} {L : List Asn}
theorem opn_rec {eS eM eT eI eA e c : Nat} {A : Option Addr} {xs : List Rcd} (h : Mem w0 W (own (tRec eS eM eT eI eA) e A c xs :: L)) (i : Nat) (hi : i < xs.length) : ∃ j : AtRcd,Mem w0 W (hol (tRec eS eM eT eI eA) e A c xs i (encRcd xs[i] j) :: (partRcd eS eM eT eI eA xs[i] j ++ L)):=opn_nest h i hi
theorem cls_rec {eS eM eT eI eA e c i : Nat} {A : Option Addr} {xs : List Rcd} {x : Rcd} {j : AtRcd} (h : Mem w0 W (hol (tRec eS eM eT eI eA) e A c xs i (encRcd x j) :: (partRcd eS eM eT eI eA x j ++ L))) : Mem w0 W (own (tRec eS eM eT eI eA) e A c (xs.set i x) :: L):=cls_nest h
theorem tick_c (x : Wld) (i : AtW) (hv : WP x) (HM : Mem w0 W (wldP x i ++ L)) : Calls Tryz.prog 107 #[.agg (encW x i).toArray] W fun e W'=>∃ y j,(WP y ∧ y.recs.length = x.recs.length) ∧ e = .returned (.agg (encW y j).toArray) ∧ Mem w0 W' (wldP y j ++ L):=by
  refine enter Tryz.func107 rfl Tryz.ntmps107 [(0,.agg (encW x i).toArray)] rfl ⟨rfl,trivial⟩ ?_
  unfold encW
  simp only [wldP,List.cons_append,List.nil_append] at HM
  repeat (first|refine Y ?_|(refine qg ?_;clear HM;intro g W1 HM))
  rename_i ga Wa
  obtain ⟨gz,hgz⟩ : ∃ q,q = g:=⟨_,rfl⟩
  subst hgz
  refine c_loop (σ:=Nat × Wld × AtW) (fun s=>[(1,.pointer (some ⟨ga,0,none⟩)),(2,.pointer (some ⟨gz,0,none⟩)),(3,.int .i64 s.1)]) (fun s W1=>s.1 ≤ x.recs.length ∧ (WP s.2.1 ∧ s.2.1.recs.length = x.recs.length) ∧ Mem w0 W1 (box gz 78 [.slice none 0 0,.slice none 0 0,.slice none 0 0] :: box ga 78 [.slice s.2.2.b0.1 s.2.1.recs.length s.2.2.b0.2,.slice s.2.2.b1.1 s.2.1.flight.length s.2.2.b1.2,.slice s.2.2.b2.1 s.2.1.fixed.length s.2.2.b2.2] :: own (tRec 91 40 9 3 66) 31 s.2.2.b0.1 s.2.2.b0.2 s.2.1.recs :: flt 91 40 s.2.2.b1.1 s.2.2.b1.2 s.2.1.flight :: own tFix 134 s.2.2.b2.1 s.2.2.b2.2 s.2.1.fixed :: L)) (fun s=>x.recs.length - s.1) (0,x,i) U ⟨Nat.zero_le _,⟨hv,rfl⟩,HM⟩ ?_
  clear HM hv
  rintro ⟨k,y,j⟩ W1 ⟨hk,⟨hv,hl⟩,HM⟩
  dsimp only at hk hv hl HM ⊢
  have hn5:=hv.n5
  by_cases hlt : k < y.recs.length
  rotate_left
  · repeat (first|refine Y ?_|(refine qs ?_;clear HM;intro W1 HM))
    exact ret_cell HM rfl rfl rfl ⟨y,j,⟨hv,hl⟩,rfl,by simp only [wldP,List.cons_append,List.nil_append];exact HM.sb⟩
  have HMa:=HM.pk (A:=own (tRec 91 40 9 3 66) 31 j.b0.1 j.b0.2 y.recs)
  clear HM
  obtain ⟨jr,HM⟩:=opn_rec HMa k hlt
  clear HMa
  obtain ⟨hV,hnum,hof⟩:=hv.recs k hlt
  have hvb:=validB_iff.2 hV
  obtain ⟨hT,hKp,hO⟩:=vr_recTick hvb
  have hsm:=hV.small
  have hoL:=recTickO_len hvb
  simp only [encRcd,partRcd,List.cons_append,List.nil_append] at HM
  repeat (first|refine Y ?_|(refine qs ?_;clear HM;intro W1 HM)|(refine gStore ?_;refine s_storeh HM rfl rfl rfl rfl rfl rfl ?_;clear HM;intro W1 HM;(try dsimp only at HM))|(refine qf ?_;go_at_call 6;refine (specRecTick y.recs[k] jr (by exact ro_rec1 (eS:=91) (eM:=40) (eT:=9) (eI:=3) (eA:=66) HM) hsm (Mem.start _)).mono ?_;rintro e W1 ⟨jw,Aw,cw,rfl,HM1⟩;refine ⟨_,rfl,?_⟩;replace HM:=HM.join HM1;clear HM1;simp only [partRcd,List.cons_append,List.nil_append] at HM;simp only [encRcd])|(refine qg ?_;clear HM;intro g W1 HM))
  have HM2:=cls_rec (show Mem w0 _ (hol (tRec 91 40 9 3 66) 31 j.b0.1 j.b0.2 y.recs k (encRcd (recTickL y.recs[k]) jw) :: (partRcd 91 40 9 3 66 (recTickL y.recs[k]) jw ++ (box gz 78 [.slice none 0 0,.slice none 0 0,.slice none 0 0] :: box ga 78 [.slice j.b0.1 y.recs.length j.b0.2,.slice j.b1.1 y.flight.length j.b1.2,.slice j.b2.1 y.fixed.length j.b2.2] :: own (tMsg 91) 40 Aw cw (recTickO y.recs[k]) :: flt 91 40 j.b1.1 j.b1.2 y.flight :: own tFix 134 j.b2.1 j.b2.2 y.fixed :: L))) from by simp only [encRcd,partRcd,List.cons_append,List.nil_append];exact HM.sb)
  clear HM
  have HM:=HM2
  clear HM2
  (try simp only [List.cons_append,List.nil_append] at HM)
  have hr:=wp_setK hv hlt ⟨hT,hKp⟩
  rw [hof] at hO
  replace hO : ∀ m ∈ recTickO y.recs[k],MsgP m y.recs.length:=fun m hm=>(hO m hm).1
  have hsl : (y.recs.set k (recTickL y.recs[k])).length = y.recs.length:=List.length_set ..
  generalize y.recs.set k (recTickL y.recs[k]) = rs at *
  generalize recTickO y.recs[k] = out at *
  rw [← hsl] at HM
  have HMa:=HM.pk (A:=own (tMsg 91) 40 Aw cw out)
  clear HM
  obtain ⟨zo,ezo,HM⟩:=opn_bag HMa
  clear HMa
  have HMa:=HM.pk (A:=flt 91 40 j.b1.1 j.b1.2 y.flight)
  clear HM
  obtain ⟨zf,ezf,HM⟩:=opn_flt HMa
  clear HMa
  subst ezo
  have hfl : y.flight.length = zf.length:=by rw [← ezf,List.length_map]
  rw [hfl] at HM
  rw [List.length_map] at hoL ⊢
  have hfl6:=hv.fl
  rw [hfl] at hfl6
  have hfm : ∀ z ∈ zf ++ zo,MsgP z.1 rs.length:=by
    rw [hsl]
    intro z hz
    rcases List.mem_append.1 hz with hz|hz
    · exact hv.msg _ (by rw [← ezf];exact List.mem_map_of_mem hz)
    · exact hO _ (List.mem_map_of_mem hz)
  have HM1:=HM.pk (A:=bag 91 zo)
  have HM0:=HM1.pk (A:=bag 91 zf)
  have HM2:=HM0.bag_join
  clear HM0 HM1
  clear HM
  have HM:=HM2
  clear HM2
  refine c_loop2 (σ:=Nat × List MA) (fun s A c=>[(1,.pointer (some ⟨ga,0,none⟩)),(2,.pointer (some ⟨gz,0,none⟩)),(3,.int .i64 k),(5,.slice Aw zo.length cw),(6,.int .i64 s.1)]) (fun s A c W1=>s.1 ≤ zo.length ∧ s.2.length ≤ 600 ∧ (∀ z ∈ s.2,z ∈ zf ++ zo) ∧ Mem w0 W1 (box gz 78 [.slice none 0 0,.slice none 0 0,.slice none 0 0] :: box ga 78 [.slice j.b0.1 rs.length j.b0.2,.slice A s.2.length c,.slice j.b2.1 y.fixed.length j.b2.2] :: own (tRec 91 40 9 3 66) 31 j.b0.1 j.b0.2 rs :: own tMA 40 A c s.2 :: own tMA 40 Aw cw zo :: bag 91 (zf ++ zo) :: own tFix 134 j.b2.1 j.b2.2 y.fixed :: L)) (fun s=>zo.length - s.1) (0,zf) j.b1.1 j.b1.2 U ⟨Nat.zero_le _,hfl6,fun z hz=>List.mem_append_left _ hz,HM.sb⟩ ?_
  clear HM
  rintro ⟨q,zs⟩ A c W1 ⟨hq,hzl,hzm,HM⟩
  dsimp only at hq hzl hzm HM ⊢
  by_cases h1 : q < zo.length ∧ (zs.length : Int) < 600
  · obtain ⟨h1,h2⟩:=h1
    have e0 : rd tMA zo (q : Int) = zo[q]:=rd_at h1
    repeat (first|(refine gR ?_;refine d_start [7,9] [(0,0),(0,2),(0,3),(0,4),(1,1),(1,5),(2,6),(3,7),(0,8),(3,9)] HM (by kernel_rfl) (by kernel_rfl) qq (by kernel_rfl) rfl ?_;intro HQ HS W1 HM1;replace HM:=HM1;clear HM1)|refine Y ?_|(refine qs ?_;clear HM;intro W1 HM)|(refine qa ?_;clear HM;intro A1 c1 W1 HM)|(refine qg ?_;clear HM;intro g W1 HM))
    exact n_round2 (q + 1,zs ++ [rd tMA zo (q : Int)]) A1 c1 U ⟨h1,by simp only [List.length_append,List.length_cons,List.length_nil];omega,fun z hz=>by
      rcases List.mem_append.1 hz with hz|hz
      · exact hzm z hz
      · rw [List.mem_singleton] at hz;rw [hz,e0];exact List.mem_append_right _ (List.getElem_mem h1),HM.sb⟩ (by dsimp only;omega)
  have HM1:=HM.pk (A:=bag 91 (zf ++ zo))
  have HM0:=HM1.pk (A:=own tMA 40 A c zs)
  have HM2:=cls_flt (ms:=zs.map Prod.fst) rfl hzm HM0
  clear HM0 HM1
  clear HM
  have HM:=HM2
  clear HM2
  have hml : zs.length = (zs.map Prod.fst).length:=by rw [List.length_map]
  have hzms : ∀ m ∈ zs.map Prod.fst,MsgP m rs.length:=fun m hm=>by
    obtain ⟨z,hz,rfl⟩:=List.mem_map.1 hm
    exact hfm z (hzm z hz)
  have hq2 : ¬ (q < zo.length ∧ ((zs.map Prod.fst).length : Int) < 600):=by rw [← hml];exact h1
  rw [hml] at HM hzl
  clear hml h1
  generalize zs.map Prod.fst = fl at *
  have hv1 : WP ⟨rs,fl,y.fixed⟩:=⟨hr.n1,hr.n5,hzl,hr.recs,hzms,hv.fix⟩
  have HM3 : Mem w0 W1 (wldP ⟨rs,fl,y.fixed⟩ ⟨j.b0,(A,c),j.b2⟩ ++ (box gz 78 [.slice none 0 0,.slice none 0 0,.slice none 0 0] :: box ga 78 [.slice j.b0.1 rs.length j.b0.2,.slice A fl.length c,.slice j.b2.1 y.fixed.length j.b2.2] :: L)):=by simp only [wldP,List.cons_append,List.nil_append];exact HM.sb
  clear HM
  have HM:=HM3
  clear HM3
  simp only [wldP,List.cons_append,List.nil_append] at HM
  by_cases hq3 : q < zo.length
  · have hq4 : ¬ ((fl.length : Int) < 600):=fun h=>hq2 ⟨hq3,h⟩
    repeat (first|refine Y ?_|(refine qs ?_;clear HM;intro W1 HM)|(refine qf ?_;go_at_call 117;refine (fix_c ⟨rs,fl,y.fixed⟩ ⟨j.b0,(A,c),j.b2⟩ hv1 (L:=box gz 78 [.slice none 0 0,.slice none 0 0,.slice none 0 0] :: box ga 78 [.slice j.b0.1 rs.length j.b0.2,.slice A fl.length c,.slice j.b2.1 y.fixed.length j.b2.2] :: L) (by simp only [wldP,List.cons_append,List.nil_append];exact HM.sb)).mono ?_;rintro e W1 ⟨fx,qx,hfx,rfl,HM1⟩;refine ⟨_,rfl,?_⟩;replace HM:=HM1;clear HM1;simp only [wldP,List.cons_append,List.nil_append] at HM;simp only [encW]))
    exact n_round (k + 1,⟨rs,fl,fx⟩,⟨j.b0,(A,c),qx⟩) U ⟨by dsimp only;omega,⟨wp_fixed hv1 hfx,by dsimp only;omega⟩,HM.sb⟩ (by dsimp only;omega)
  · repeat (first|refine Y ?_|(refine qs ?_;clear HM;intro W1 HM)|(refine qf ?_;go_at_call 117;refine (fix_c ⟨rs,fl,y.fixed⟩ ⟨j.b0,(A,c),j.b2⟩ hv1 (L:=box gz 78 [.slice none 0 0,.slice none 0 0,.slice none 0 0] :: box ga 78 [.slice j.b0.1 rs.length j.b0.2,.slice A fl.length c,.slice j.b2.1 y.fixed.length j.b2.2] :: L) (by simp only [wldP,List.cons_append,List.nil_append];exact HM.sb)).mono ?_;rintro e W1 ⟨fx,qx,hfx,rfl,HM1⟩;refine ⟨_,rfl,?_⟩;replace HM:=HM1;clear HM1;simp only [wldP,List.cons_append,List.nil_append] at HM;simp only [encW]))
    exact n_round (k + 1,⟨rs,fl,fx⟩,⟨j.b0,(A,c),qx⟩) U ⟨by dsimp only;omega,⟨wp_fixed hv1 hfx,by dsimp only;omega⟩,HM.sb⟩ (by dsimp only;omega)
end Go.Proofs.YtampmicahnnebaaGreat.Sp
namespace Go.Proofs.YtampmicahnnebaaGreat.Sp
open Go Go.RowKit
set_option maxRecDepth 10000
set_option maxHeartbeats 4000000
variable {w0 W : World} {L : List Asn}
theorem ro_bag {eS : Nat} {zs : List MA} {z : MA} {R : List Asn} [h0 : Pk L (bag eS zs) R] (hz : z ∈ zs) (h : Mem w0 W L) : RoRow (rSlot false) W z.2.1 z.1.slots:=by
  obtain ⟨F0,_,a0,s0⟩:=(h.perm h0.out).sep
  exact ro_slots (a0 z hz)
theorem bring_c (x : Wld) (i : AtW) (k : Nat) (hv : WP x) (hk : k < x.flight.length) (HM : Mem w0 W (wldP x i ++ L)) : Calls Tryz.prog 108 #[.agg (encW x i).toArray,.int .i64 k] W fun e W'=>∃ y j,(WP y ∧ y.recs.length = x.recs.length ∧ y.flight.length + 1 = x.flight.length) ∧ e = .returned (.agg (encW y j).toArray) ∧ Mem w0 W' (wldP y j ++ L):=by
  refine enter Tryz.func108 rfl Tryz.ntmps108 [(0,.agg (encW x i).toArray),(1,_)] rfl ⟨rfl,rfl,trivial⟩ ?_
  obtain ⟨rs,fl,fx⟩:=x
  unfold encW
  simp only [wldP,List.cons_append,List.nil_append] at HM
  have hn5:=hv.n5
  have hfl6:=hv.fl
  have hmsg:=hv.msg
  dsimp only at hk hn5 hfl6 hmsg HM ⊢
  have HMa:=HM.pk (A:=flt 91 40 i.b1.1 i.b1.2 fl)
  clear HM
  obtain ⟨zs,ezf,HM⟩:=opn_flt HMa
  clear HMa
  subst ezf
  simp only [List.length_map] at *
  have e0 : rd tMA zs (k : Int) = zs[k]:=rd_at hk
  have hM:=hmsg _ (List.mem_map_of_mem (List.getElem_mem hk))
  have hto:=hM.to
  obtain ⟨p,hp⟩ : ∃ p : Nat,zs[k].1.to = (p : Int) + 1:=⟨(zs[k].1.to - 1).toNat,by omega⟩
  have hp1 : zs[k].1.to - 1 = (p : Int):=by omega
  have hpl : p < rs.length:=by omega
  obtain ⟨hV,hnum,hof⟩:=hv.recs p hpl
  dsimp only at hV hnum hof
  have hvb:=validB_iff.2 hV
  have hT:=vr_recTake (m:=zs[k].1) hvb
  have hsm:=hV.small
  have hms:=hM.slots.1
  repeat (first|(refine gL ?_;refine s_gv HM rfl ?_;refine gv (p_loadwo rfl rfl rfl (by omega) (by omega)) ?_;simp only [encMsg,e0])|refine Y ?_|(refine qs ?_;clear HM;intro W1 HM)|(refine qf ?_;go_at_call 109;refine (out_c hk (by omega) (by exact HM.pk)).mono ?_;rintro e W1 ⟨A6,c6,rfl,HM1⟩;refine ⟨_,rfl,?_⟩;replace HM:=HM1;clear HM1)|(refine qg ?_;clear HM;intro g W1 HM))
  rename_i ga Wa gz Wb Wc Wd We
  have HMa:=HM.pk (A:=own (tRec 91 40 9 3 66) 31 i.b0.1 i.b0.2 rs)
  clear HM
  obtain ⟨jr,HM⟩:=opn_rec HMa p hpl
  clear HMa
  simp only [encRcd,partRcd,List.cons_append,List.nil_append] at HM
  repeat (first|(refine gGP ?_;refine gGB ?_;refine gp (p_sub rfl rfl (r:=(p : Int)) (by rw [hp1];exact wr (by omega) (by omega))) ?_)|(refine gN ?_;refine d_back (by exact HM.drop.drop.drop.drop.drop.drop.drop) ?_)|(refine gR ?_;refine d_start [15] [(0,0),(0,2),(0,5),(0,7),(1,1),(1,3),(0,4),(1,6),(1,8),(0,9),(0,10),(1,11),(1,12),(2,13),(0,14),(3,15)] HM (by kernel_rfl) (by kernel_rfl) qq (by kernel_rfl) rfl ?_;intro HQ HS W1 HM1;replace HM:=HM1;clear HM1)|refine Y ?_|(refine gStore ?_;refine s_storeh HM rfl rfl rfl rfl rfl rfl ?_;clear HM;intro W1 HM;(try dsimp only at HM))|(refine qf ?_;go_at_call 14;refine (specRecTake rs[p] jr zs[k].1 zs[k].2 (by exact ro_rec1 (eS:=91) (eM:=40) (eT:=9) (eI:=3) (eA:=66) HM) hsm (ro_bag (eS:=91) (List.getElem_mem hk) HM) (by omega) (Mem.start _)).mono ?_;rintro e W1 ⟨jw,rfl,HM1⟩;refine ⟨_,rfl,?_⟩;replace HM:=HM.join HM1;clear HM1;simp only [partRcd,List.cons_append,List.nil_append] at HM;simp only [encRcd]))
  have HM2:=cls_rec (show Mem w0 _ (hol (tRec 91 40 9 3 66) 31 i.b0.1 i.b0.2 rs p (encRcd (recTakeL rs[p] zs[k].1) jw) :: (partRcd 91 40 9 3 66 (recTakeL rs[p] zs[k].1) jw ++ (box gz 78 [.slice none 0 0,.slice none 0 0,.slice none 0 0] :: box ga 78 [.slice i.b0.1 rs.length i.b0.2,.slice (A6,c6).1 (zs.take k ++ zs.drop (k + 1)).length (A6,c6).2,.slice i.b2.1 fx.length i.b2.2] :: own tMA 40 A6 c6 (zs.take k ++ zs.drop (k + 1)) :: bag 91 zs :: own tFix 134 i.b2.1 i.b2.2 fx :: L))) from by simp only [encRcd,partRcd,List.cons_append,List.nil_append];exact HM.sb)
  clear HM
  have HM:=HM2
  clear HM2
  have hr:=wp_setK (r:=recTakeL rs[p] zs[k].1) hv hpl hT
  have hsl : rs.length = (rs.set p (recTakeL rs[p] zs[k].1)).length:=(List.length_set ..).symm
  generalize rs.set p (recTakeL rs[p] zs[k].1) = rs2 at *
  rw [hsl] at HM ⊢
  have hsub : ∀ z ∈ zs.take k ++ zs.drop (k + 1),z ∈ zs:=fun z hz=>(List.mem_append.1 hz).elim (fun h=>List.mem_of_mem_take h) (fun h=>List.mem_of_mem_drop h)
  have hdl : (zs.take k ++ zs.drop (k + 1)).length + 1 = zs.length:=by simp only [List.length_append,List.length_take,List.length_drop];omega
  have HM1:=HM.pk (A:=bag 91 zs)
  have HM0:=HM1.pk (A:=own tMA 40 A6 c6 (zs.take k ++ zs.drop (k + 1)))
  have HM2:=cls_flt (ms:=(zs.take k ++ zs.drop (k + 1)).map Prod.fst) rfl hsub HM0
  clear HM0 HM1 HM
  have HM:=HM2
  clear HM2
  have hml : (zs.take k ++ zs.drop (k + 1)).length = ((zs.take k ++ zs.drop (k + 1)).map Prod.fst).length:=(List.length_map ..).symm
  rw [hml] at HM hdl ⊢
  obtain ⟨fl2,hfl2⟩ : ∃ q,q = (zs.take k ++ zs.drop (k + 1)).map Prod.fst:=⟨_,rfl⟩
  rw [← hfl2] at HM hdl ⊢
  clear hml
  have hv1 : WP ⟨rs2,fl2,fx⟩:=⟨hr.n1,hr.n5,by dsimp only;omega,hr.recs,fun m hm=>by
    obtain ⟨z,hz,rfl⟩:=List.mem_map.1 (hfl2 ▸ hm)
    rw [show (⟨rs2,fl2,fx⟩ : Wld).recs.length = rs.length from hsl.symm]
    exact hmsg _ (List.mem_map_of_mem (hsub z hz)),hr.fix⟩
  repeat (first|(refine qs ?_;clear HM;intro W1 HM)|(refine qf ?_;go_at_call 117;refine (fix_c ⟨rs2,fl2,fx⟩ ⟨i.b0,(A6,c6),i.b2⟩ hv1 (L:=box gz 78 [.slice none 0 0,.slice none 0 0,.slice none 0 0] :: box ga 78 [.slice i.b0.1 rs2.length i.b0.2,.slice (A6,c6).1 fl2.length (A6,c6).2,.slice i.b2.1 fx.length i.b2.2] :: L) (by simp only [wldP,List.cons_append,List.nil_append];exact HM.sb)).mono ?_;rintro e W1 ⟨fx2,qx,hfx,rfl,HM1⟩;refine ⟨_,rfl,?_⟩;replace HM:=HM1;clear HM1;simp only [wldP,List.cons_append,List.nil_append] at HM;simp only [encW])|refine Y ?_)
  exact ret_cell HM rfl rfl rfl ⟨⟨rs2,fl2,fx2⟩,⟨i.b0,(A6,c6),qx⟩,⟨wp_fixed hv1 hfx,rfl,hdl⟩,rfl,by simp only [wldP,List.cons_append,List.nil_append];exact HM.sb⟩
end Go.Proofs.YtampmicahnnebaaGreat.Sp
namespace Go.Proofs.YtampmicahnnebaaGreat.Sp
open Go Go.RowKit
set_option maxRecDepth 10000
set_option maxHeartbeats 1000000
variable {w0 W : World} {L : List Asn}
theorem wishM (x : Rcd) (i : AtRcd) (g : Nat) (t : ByteArray) (hv : validB x = true) (hn : SmallR x) (ht : t.size ≤ 1048576) (HM : Mem w0 W (boxR 91 40 9 3 66 31 g x i ++ L)) : Calls Tryz.prog 60 #[.pointer (some ⟨g,0,none⟩),.string t] W fun e W'=>∃ j,e = .returned (.tuple #[]) ∧ Mem w0 W' (boxR 91 40 9 3 66 31 g (wish1 x t) j ++ L):=by
  refine enter Tryz.func60 rfl Tryz.ntmps60 [(0,_),(1,_)] rfl ⟨rfl,rfl,trivial⟩ ?_
  obtain ⟨⟨hk0,hk1⟩,hd⟩:=disk_of_valid2 hv
  have hw:=hn.wishes
  simp only [boxR,partRcd,List.cons_append,List.nil_append] at HM
  have hcd : x.ds.length ≤ i.a1.2:=by obtain ⟨F1,hF1⟩:=HM.own (A:=i.a1.1);exact (own_max hF1).2
  by_cases c1 : 1 ≤ (t.size : Int) ∧ (t.size : Int) ≤ 100
  rotate_left
  · have e : wish1 x t = x:=if_neg (by simp only [wishOk,Bool.and_eq_true,decide_eq_true_eq];omega)
    repeat (first|refine Y ?_|(refine qf ?_;go_at_call 47;refine (within_c _ _ _ _).mono ?_;rintro e W1 ⟨rfl,rfl⟩;refine ⟨_,rfl,?_⟩))
    rw [e]
    exact end_none rfl ⟨i,rfl,by simp only [boxR,partRcd,List.cons_append,List.nil_append];exact HM.sb⟩
  by_cases c2 : newB x.wishes x.wishes.length t = true
  rotate_left
  · have e : wish1 x t = x:=if_neg (by simp [wishOk,c2])
    simp only [Bool.not_eq_true] at c2
    repeat (first|refine Y ?_|(refine qf ?_;first|(go_at_call 47;refine (within_c _ _ _ _).mono ?_;rintro e W1 ⟨rfl,rfl⟩;refine ⟨_,rfl,?_⟩)|(go_at_call 51;obtain ⟨F1,hF1⟩:=HM.own (A:=i.a3.1);refine (has_c rfl t (ro_strs hF1) (Mem.start _)).mono ?_;clear hF1;rintro e W1 ⟨rfl,HM1⟩;refine ⟨_,rfl,?_⟩;have HM2:=HM.step HM1.below;clear HM HM1;have HM:=HM2;clear HM2)))
    rw [e]
    exact end_none rfl ⟨i,rfl,by simp only [boxR,partRcd,List.cons_append,List.nil_append];exact HM.sb⟩
  by_cases c3 : (x.wishes.length : Int) < 20
  rotate_left
  · have e : wish1 x t = x:=if_neg (by simp only [wishOk,Bool.and_eq_true,decide_eq_true_eq];omega)
    repeat (first|refine Y ?_|(refine qf ?_;first|(go_at_call 47;refine (within_c _ _ _ _).mono ?_;rintro e W1 ⟨rfl,rfl⟩;refine ⟨_,rfl,?_⟩)|(go_at_call 51;obtain ⟨F1,hF1⟩:=HM.own (A:=i.a3.1);refine (has_c rfl t (ro_strs hF1) (Mem.start _)).mono ?_;clear hF1;rintro e W1 ⟨rfl,HM1⟩;refine ⟨_,rfl,?_⟩;have HM2:=HM.step HM1.below;clear HM HM1;have HM:=HM2;clear HM2)))
    rw [e]
    exact end_none rfl ⟨i,rfl,by simp only [boxR,partRcd,List.cons_append,List.nil_append];exact HM.sb⟩
  by_cases c4 : knownB (x.ds.take x.dk.toNat) t = true
  · have e : wish1 x t = x:=if_neg (by simp [wishOk,c4])
    repeat (first|refine Y ?_|(refine qf ?_;first|(go_at_call 47;refine (within_c _ _ _ _).mono ?_;rintro e W1 ⟨rfl,rfl⟩;refine ⟨_,rfl,?_⟩)|(go_at_call 51;obtain ⟨F1,hF1⟩:=HM.own (A:=i.a3.1);refine (has_c rfl t (ro_strs hF1) (Mem.start _)).mono ?_;clear hF1;rintro e W1 ⟨rfl,HM1⟩;refine ⟨_,rfl,?_⟩;have HM2:=HM.step HM1.below;clear HM HM1;have HM:=HM2;clear HM2)|(go_at_call 67;obtain ⟨F1,hF1⟩:=HM.own (A:=i.a1.1);refine (knownM x i _ t hk0 hk1 hcd (ro_slots hF1) HM.heap (Mem.start _)).mono ?_;clear hF1;rintro e W1 ⟨rfl,HM1⟩;refine ⟨_,rfl,?_⟩;have HM2:=HM.step HM1.below;clear HM HM1;have HM:=HM2;clear HM2)))
    rw [e]
    exact end_none rfl ⟨i,rfl,by simp only [boxR,partRcd,List.cons_append,List.nil_append];exact HM.sb⟩
  have e : wish1 x t = { x with wishes:=x.wishes ++ [t] }:=if_pos (by simp only [wishOk,c2,Bool.and_eq_true,decide_eq_true_eq,Bool.not_eq_true'];simp only [Bool.not_eq_true] at c4;exact ⟨⟨⟨c1,trivial⟩,c3⟩,c4⟩)
  simp only [Bool.not_eq_true] at c4
  repeat (first|refine Y ?_|(refine qs ?_;clear HM;intro W1 HM)|(refine qf ?_;first|(go_at_call 47;refine (within_c _ _ _ _).mono ?_;rintro e W1 ⟨rfl,rfl⟩;refine ⟨_,rfl,?_⟩)|(go_at_call 51;obtain ⟨F1,hF1⟩:=HM.own (A:=i.a3.1);refine (has_c rfl t (ro_strs hF1) (Mem.start _)).mono ?_;clear hF1;rintro e W1 ⟨rfl,HM1⟩;refine ⟨_,rfl,?_⟩;have HM2:=HM.step HM1.below;clear HM HM1;have HM:=HM2;clear HM2)|(go_at_call 67;obtain ⟨F1,hF1⟩:=HM.own (A:=i.a1.1);refine (knownM x i _ t hk0 hk1 hcd (ro_slots hF1) HM.heap (Mem.start _)).mono ?_;clear hF1;rintro e W1 ⟨rfl,HM1⟩;refine ⟨_,rfl,?_⟩;have HM2:=HM.step HM1.below;clear HM HM1;have HM:=HM2;clear HM2))|(refine qa ?_;clear HM;intro A1 c1 W1 HM)|(refine qg ?_;clear HM;intro g W1 HM))
  rw [e]
  exact end_none rfl ⟨⟨i.a0,i.a1,i.a2,(A1,c1),i.a4,i.a5,i.a6⟩,rfl,by simp only [boxR,partRcd,List.cons_append,List.nil_append];exact HM.sb⟩
end Go.Proofs.YtampmicahnnebaaGreat.Sp
namespace Go.Proofs.YtampmicahnnebaaGreat.Sp
open Go Go.RowKit
set_option maxRecDepth 10000
set_option maxHeartbeats 1000000
variable {w0 W : World} {L : List Asn}
theorem specRecWish (x : Rcd) (i : AtRcd) (t : ByteArray) (h : RoRcd false w0 x i) (hn : SmallR x) (ht : t.size ≤ 1048576) (HM : Mem w0 W L) : Calls Tryz.prog 17 #[.agg (encRcd x i).toArray,.string t] W fun e W'=>∃ j,e = .returned (.agg (encRcd (wishL x t) j).toArray) ∧ Mem w0 W' (partRcd 91 40 9 3 66 (wishL x t) j ++ L):=by
  refine enter Tryz.func17 rfl Tryz.ntmps17 [(0,.agg (encRcd x i).toArray),(1,_)] rfl ⟨rfl,rfl,trivial⟩ ?_
  have h0:=h
  unfold encRcd
  by_cases hv : validB x = true
  rotate_left
  · simp only [Bool.not_eq_true] at hv
    repeat (first|refine Y ?_|(refine qs ?_;clear HM;intro W1 HM)|(refine qf ?_;go_at_call 9;refine (specValid x i h0 hn HM).mono ?_;rintro e W1 ⟨rfl,HM1⟩;refine ⟨_,rfl,?_⟩;replace HM:=HM1;clear HM1)|(refine qg ?_;clear HM;intro g W1 HM))
    have HM2:=HM.zeroR 91 40 9 3 66
    simp only [partRcd,zeroR,atZ,List.cons_append,List.nil_append] at HM2
    have e : wishL x t = zeroR:=by simp [wishL,hv]
    rw [e]
    exact ret_cell HM2 rfl rfl rfl ⟨atZ,rfl,by simp only [partRcd,zeroR,atZ,List.cons_append,List.nil_append];exact HM2.sb⟩
  by_cases hu : x.up = true
  rotate_left
  · simp only [Bool.not_eq_true] at hu
    repeat (first|refine Y ?_|(refine qs ?_;clear HM;intro W1 HM)|(refine qf ?_;first|(go_at_call 9;refine (specValid x i h0 hn HM).mono ?_;rintro e W1 ⟨rfl,HM1⟩;refine ⟨_,rfl,?_⟩;replace HM:=HM1;clear HM1)|(go_at_call 24;refine (l2Copy_c x _ h0 hn HM).mono ?_;rintro e W1 ⟨j,rfl,HM1⟩;refine ⟨_,rfl,?_⟩;replace HM:=HM1;clear HM1;simp only [partRcd,List.cons_append,List.nil_append] at HM;simp only [encRcd]))|(refine qg ?_;clear HM;intro g W1 HM))
    have e : wishL x t = x:=by simp [wishL,hv,hu]
    rw [e]
    exact ret_cell HM rfl rfl rfl ⟨⟨(_,_),(_,_),(_,_),(_,_),(_,_),(_,_),(_,_)⟩,rfl,by simp only [partRcd,List.cons_append,List.nil_append];exact HM.sb⟩
  have hn1:=small_wish1 x t hn
  repeat (first|refine Y ?_|(refine qf ?_;first|(go_at_call 9;refine (specValid x i h0 hn HM).mono ?_;rintro e W1 ⟨rfl,HM1⟩;refine ⟨_,rfl,?_⟩;replace HM:=HM1;clear HM1)|(go_at_call 24;(with_reducible refine (l2Copy_l x _ h0 hn HM).mono ?_);rintro e W1 ⟨j,rfl,HM1⟩;refine ⟨_,rfl,?_⟩;replace HM:=HM1;clear HM1;simp only [encRcd])|(go_at_call 61;refine (l3Wish_c x j t hv hn ht HM).mono ?_;rintro e W1 ⟨j2,rfl,HM1⟩;refine ⟨_,rfl,?_⟩;replace HM:=HM1;clear HM1))|(refine qg ?_;clear HM;intro g W1 HM))
  have hro:=ro_parts HM
  repeat (first|(refine qs ?_;clear HM;intro W1 HM)|(refine qf ?_;go_at_call 24;refine (l2Copy_c (wish1 x t) _ hro hn1 (Mem.start _)).mono ?_;rintro e W1 ⟨j3,rfl,HM1⟩;refine ⟨_,rfl,?_⟩;replace HM:=HM.join HM1;clear HM1;simp only [partRcd,List.cons_append,List.nil_append] at HM;simp only [encRcd])|refine Y ?_)
  have e : wishL x t = wish1 x t:=by simp [wishL,hv,hu]
  rw [e]
  exact ret_cell HM rfl rfl rfl ⟨⟨(_,_),(_,_),(_,_),(_,_),(_,_),(_,_),(_,_)⟩,rfl,by simp only [partRcd,List.cons_append,List.nil_append];exact HM.sb⟩
theorem implRecWish (x : Rcd) (i : AtRcd) (t : ByteArray) (h : RoRcd false w0 x i) (hc : x.ds.length ≤ i.a1.2 ∧ x.wishes.length ≤ i.a3.2) (hn : SmallR x) (ht : t.size ≤ 1048576) (HM : Mem w0 W L) : Calls Tryz.prog 16 #[.agg (encRcd x i).toArray,.string t] W fun e W'=>∃ j,e = .returned (.agg (encRcd (wishL x t) j).toArray) ∧ Mem w0 W' (partRcd 91 40 9 3 66 (wishL x t) j ++ L):=by
  refine enter Tryz.func16 rfl Tryz.ntmps16 [(0,.agg (encRcd x i).toArray),(1,_)] rfl ⟨rfl,rfl,trivial⟩ ?_
  have h0:=h
  have hw:=hc.2
  unfold encRcd
  by_cases hv : validB x = true
  rotate_left
  · simp only [Bool.not_eq_true] at hv
    repeat (first|refine Y ?_|(refine qs ?_;clear HM;intro W1 HM)|(refine qf ?_;go_at_call 10;refine (implValid x i h0 hw hn HM).mono ?_;rintro e W1 ⟨rfl,HM1⟩;refine ⟨_,rfl,?_⟩;replace HM:=HM1;clear HM1)|(refine qg ?_;clear HM;intro g W1 HM))
    have HM2:=HM.zeroR 91 40 9 3 66
    simp only [partRcd,zeroR,atZ,List.cons_append,List.nil_append] at HM2
    have e : wishL x t = zeroR:=by simp [wishL,hv]
    rw [e]
    exact ret_cell HM2 rfl rfl rfl ⟨atZ,rfl,by simp only [partRcd,zeroR,atZ,List.cons_append,List.nil_append];exact HM2.sb⟩
  by_cases hu : x.up = true
  rotate_left
  · simp only [Bool.not_eq_true] at hu
    repeat (first|refine Y ?_|(refine qs ?_;clear HM;intro W1 HM)|(refine qf ?_;first|(go_at_call 10;refine (implValid x i h0 hw hn HM).mono ?_;rintro e W1 ⟨rfl,HM1⟩;refine ⟨_,rfl,?_⟩;replace HM:=HM1;clear HM1)|(go_at_call 21;refine (clone_c x _ h0 hn HM).mono ?_;rintro e W1 ⟨j,rfl,HM1⟩;refine ⟨_,rfl,?_⟩;replace HM:=HM1;clear HM1;simp only [partRcd,List.cons_append,List.nil_append] at HM;simp only [encRcd]))|(refine qg ?_;clear HM;intro g W1 HM))
    have e : wishL x t = x:=by simp [wishL,hv,hu]
    rw [e]
    exact ret_cell HM rfl rfl rfl ⟨⟨(_,_),(_,_),(_,_),(_,_),(_,_),(_,_),(_,_)⟩,rfl,by simp only [partRcd,List.cons_append,List.nil_append];exact HM.sb⟩
  repeat (first|refine Y ?_|(refine qs ?_;clear HM;intro W1 HM)|(refine qf ?_;first|(go_at_call 10;refine (implValid x i h0 hw hn HM).mono ?_;rintro e W1 ⟨rfl,HM1⟩;refine ⟨_,rfl,?_⟩;replace HM:=HM1;clear HM1)|(go_at_call 21;refine (clone_c x _ h0 hn HM).mono ?_;rintro e W1 ⟨j,rfl,HM1⟩;refine ⟨_,rfl,?_⟩;replace HM:=HM1;clear HM1;simp only [partRcd,List.cons_append,List.nil_append] at HM;simp only [encRcd])|(go_at_call 60;refine (wishM x j _ t hv hn ht (by exact pk_boxr HM)).mono ?_;rintro e W1 ⟨j2,rfl,HM1⟩;refine ⟨_,rfl,?_⟩;replace HM:=HM1;clear HM1;simp only [boxR,partRcd,List.cons_append,List.nil_append] at HM))|(refine qg ?_;clear HM;intro g W1 HM))
  have e : wishL x t = wish1 x t:=by simp [wishL,hv,hu]
  rw [e]
  exact ret_cell HM rfl rfl rfl ⟨⟨(_,_),(_,_),(_,_),(_,_),(_,_),(_,_),(_,_)⟩,rfl,by simp only [partRcd,List.cons_append,List.nil_append];exact HM.sb⟩
end Go.Proofs.YtampmicahnnebaaGreat.Sp
