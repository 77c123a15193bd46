/- slot, of both sides. No condition. -/
import Derived.Test.YtampmicahnnebaaGreatRecClaim2
import Derived.Test.YtampmicahnnebaaGreatRecClaim1
set_option linter.unusedVariables false
set_option linter.unusedSimpArgs false
namespace Go.Proofs.YtampmicahnnebaaGreat.Sp
open Go Go.RowKit
set_option maxRecDepth 10000
set_option maxHeartbeats 1000000
variable {w0 W : World} {L : List Asn}
theorem slotM (x : Rcd) (i : AtRcd) (gr : Nat) (ix : Int) (s : Slot) (h1 : 1 ≤ ix) (h2 : ix ≤ 1048576) (hn : x.ds.length ≤ 1048576) (HM : Mem w0 W (boxR 91 40 9 3 66 31 gr x i ++ L)) : Calls Tryz.prog 94 #[.pointer (some ⟨gr,0,none⟩),.int .i64 ix,.agg (encSlot s ()).toArray] W fun e W'=>∃ j,e = .returned (.tuple #[]) ∧ Mem w0 W' (boxR 91 40 9 3 66 31 gr (setL x ix s) j ++ L):=by
  refine enter Tryz.func94 rfl Tryz.ntmps94 [(0,_),(1,_),(2,.agg (encSlot s ()).toArray)] rfl ⟨rfl,rfl,rfl,trivial⟩ ?_
  unfold encSlot
  simp only [boxR,partRcd,List.cons_append,List.nil_append] at HM
  repeat (first|(refine qg ?_;clear HM;intro g W1 HM)|refine Y ?_)
  refine c_loop2 (σ:=List Slot) (fun ds A c=>[(0,.pointer (some ⟨gr,0,none⟩)),(1,.int .i64 ix),(5,.pointer (some ⟨g,0,none⟩))]) (fun ds A c W1=>padL ds ix.toNat = padL x.ds ix.toNat ∧ ds.length ≤ max x.ds.length ix.toNat ∧ Mem w0 W1 (box gr 31 [.int .i64 x.number,.int .i64 x.of,.bool x.up,.int .i64 x.sp,.int .i64 x.sk,.slice i.a0.1 x.ss.length i.a0.2,.int .i64 x.dp,.int .i64 x.dk,.slice A ds.length c,.slice i.a2.1 x.held.length i.a2.2,.slice i.a3.1 x.wishes.length i.a3.2,.bool x.lead,.bool x.trying,.int .i64 x.ballot,.slice i.a4.1 x.yes.length i.a4.2,.slice i.a5.1 x.best.length i.a5.2,.slice i.a6.1 x.acks.length i.a6.2,.int .i64 x.heard] :: own tSlot 91 A c ds :: _)) (fun ds=>ix.toNat - ds.length) x.ds i.a1.1 i.a1.2 U ⟨rfl,by omega,(HM.pk (A:=own tSlot 91 i.a1.1 i.a1.2 x.ds)).pk (A:=box gr 31 [.int .i64 x.number,.int .i64 x.of,.bool x.up,.int .i64 x.sp,.int .i64 x.sk,.slice i.a0.1 x.ss.length i.a0.2,.int .i64 x.dp,.int .i64 x.dk,.slice i.a1.1 x.ds.length i.a1.2,.slice i.a2.1 x.held.length i.a2.2,.slice i.a3.1 x.wishes.length i.a3.2,.bool x.lead,.bool x.trying,.int .i64 x.ballot,.slice i.a4.1 x.yes.length i.a4.2,.slice i.a5.1 x.best.length i.a5.2,.slice i.a6.1 x.acks.length i.a6.2,.int .i64 x.heard])⟩ ?_
  clear HM
  rintro ds A c W1 ⟨hp,hl,HM⟩
  by_cases hlt : (ds.length : Int) < ix
  · repeat (first|refine Y ?_|(refine qs ?_;clear HM;intro W1 HM)|(refine qa ?_;clear HM;intro A1 c1 W1 HM)|(refine qg ?_;clear HM;intro g W1 HM))
    have e1 : (ds ++ [(⟨0,⟨#[]⟩⟩ : Slot)]).length = ds.length + 1:=by simp
    exact n_round2 (ds ++ [⟨0,⟨#[]⟩⟩]) A1 c1 U ⟨by rw [padL_step (by omega)];exact hp,by rw [e1];omega,HM.sb⟩ (by rw [e1];omega)
  · have e : setL x ix s = { x with ds:=ds.set (ix - 1).toNat s }:=by rw [setL,← hp,padL_le (by omega)]
    have hi : (ix - 1).toNat < ds.length:=by omega
    repeat (first|(refine gR ?_;refine d_start [9] [(0,0),(0,1),(0,2),(0,3),(0,5),(0,6),(1,4),(1,7),(0,8),(3,9)] HM (by kernel_rfl) (by kernel_rfl) qq (by kernel_rfl) rfl ?_;intro HQ HS W1 HM1;replace HM:=HM1;clear HM1)|refine Y ?_|(refine gStore ?_;refine s_storew HM rfl rfl rfl (by omega) (by omega) rfl ?_;clear HM;intro W1 HM))
    rw [e]
    exact end_none rfl ⟨⟨i.a0,(A,c),i.a2,i.a3,i.a4,i.a5,i.a6⟩,rfl,by simp only [boxR,partRcd,List.cons_append,List.nil_append,List.length_set];exact HM.sb⟩
theorem slotSetS (x : Rcd) (i : AtRcd) (ix : Int) (s : Slot) (h1 : 1 ≤ ix) (h2 : ix ≤ 1048576) (hn : x.ds.length ≤ 1048576) (HM : Mem w0 W (partRcd 91 40 9 3 66 x i ++ L)) : Calls Tryz.prog 82 #[.agg (encRcd x i).toArray,.int .i64 ix,.agg (encSlot s ()).toArray] W fun e W'=>∃ j,e = .returned (.agg (encRcd (setL x ix s) j).toArray) ∧ Mem w0 W' (partRcd 91 40 9 3 66 (setL x ix s) j ++ L):=by
  refine enter Tryz.func82 rfl Tryz.ntmps82 [(0,.agg (encRcd x i).toArray),(1,_),(2,.agg (encSlot s ()).toArray)] rfl ⟨rfl,rfl,rfl,trivial⟩ ?_
  unfold encSlot encRcd
  simp only [partRcd,List.cons_append,List.nil_append] at HM
  repeat (first|(refine qg ?_;clear HM;intro g W1 HM)|refine Y ?_)
  rename_i gr _ gs _
  refine c_loop2 (σ:=List Slot) (fun ds A c=>[(1,.int .i64 ix),(3,.pointer (some ⟨gr,0,none⟩)),(5,.pointer (some ⟨gs,0,none⟩)),(6,.pointer (some ⟨g,0,none⟩))]) (fun ds A c W1=>padL ds ix.toNat = padL x.ds ix.toNat ∧ ds.length ≤ max x.ds.length ix.toNat ∧ Mem w0 W1 (box gr 31 [.int .i64 x.number,.int .i64 x.of,.bool x.up,.int .i64 x.sp,.int .i64 x.sk,.slice i.a0.1 x.ss.length i.a0.2,.int .i64 x.dp,.int .i64 x.dk,.slice A ds.length c,.slice i.a2.1 x.held.length i.a2.2,.slice i.a3.1 x.wishes.length i.a3.2,.bool x.lead,.bool x.trying,.int .i64 x.ballot,.slice i.a4.1 x.yes.length i.a4.2,.slice i.a5.1 x.best.length i.a5.2,.slice i.a6.1 x.acks.length i.a6.2,.int .i64 x.heard] :: own tSlot 91 A c ds :: _)) (fun ds=>ix.toNat - ds.length) x.ds i.a1.1 i.a1.2 U ⟨rfl,by omega,(HM.pk (A:=own tSlot 91 i.a1.1 i.a1.2 x.ds)).pk (A:=box gr 31 [.int .i64 x.number,.int .i64 x.of,.bool x.up,.int .i64 x.sp,.int .i64 x.sk,.slice i.a0.1 x.ss.length i.a0.2,.int .i64 x.dp,.int .i64 x.dk,.slice i.a1.1 x.ds.length i.a1.2,.slice i.a2.1 x.held.length i.a2.2,.slice i.a3.1 x.wishes.length i.a3.2,.bool x.lead,.bool x.trying,.int .i64 x.ballot,.slice i.a4.1 x.yes.length i.a4.2,.slice i.a5.1 x.best.length i.a5.2,.slice i.a6.1 x.acks.length i.a6.2,.int .i64 x.heard])⟩ ?_
  clear HM
  rintro ds A c W1 ⟨hp,hl,HM⟩
  by_cases hlt : (ds.length : Int) < ix
  · repeat (first|refine Y ?_|(refine qs ?_;clear HM;intro W1 HM)|(refine qa ?_;clear HM;intro A1 c1 W1 HM)|(refine qg ?_;clear HM;intro g W1 HM))
    have e1 : (ds ++ [(⟨0,⟨#[]⟩⟩ : Slot)]).length = ds.length + 1:=by simp
    exact n_round2 (ds ++ [⟨0,⟨#[]⟩⟩]) A1 c1 U ⟨by rw [padL_step (by omega)];exact hp,by rw [e1];omega,HM.sb⟩ (by rw [e1];omega)
  · have e : setL x ix s = { x with ds:=ds.set (ix - 1).toNat s }:=by rw [setL,← hp,padL_le (by omega)]
    have hi : (ix - 1).toNat < ds.length:=by omega
    repeat (first|refine Y ?_|(refine qs ?_;clear HM;intro W1 HM)|(refine gStore ?_;refine s_storew HM rfl rfl rfl (by omega) (by omega) rfl ?_;clear HM;intro W1 HM))
    rw [e]
    refine ret_cell HM rfl rfl rfl ⟨⟨i.a0,(A,c),i.a2,i.a3,i.a4,i.a5,i.a6⟩,?_,?_⟩
    · simp only [encRcd,List.length_set]
    · simp only [partRcd,List.cons_append,List.nil_append];exact HM.sb
end Go.Proofs.YtampmicahnnebaaGreat.Sp
namespace Go.Proofs.YtampmicahnnebaaGreat.Sp
open Go Go.RowKit
set_option maxRecDepth 10000
set_option maxHeartbeats 4000000
variable {w0 W : World} {L : List Asn}
def gotL (x : Rcd) (f : Int) (bs : List Slot) : Rcd:={ x with yes:=addL x.yes f,best:=mergeL x.best bs }
theorem promShort (x : Rcd) (i : AtRcd) (f : Int) {b : Bool} {B : Option Addr} {d : Nat} {bs : List Slot} (hb : ∀ W',Mem w0 W' (own tSlot 91 i.a1.1 i.a1.2 x.ds :: L) → RoRow (rSlot b) W' B bs) (h1 : x.yes.length ≤ 1048576) (h2 : x.best.length ≤ 1048576) (h3 : bs.length ≤ 1048576) (hs : 2 * ((addL x.yes f).length : Int) ≤ x.of) (HM : Mem w0 W (partRcd 91 40 9 3 66 x i ++ L)) : Calls Tryz.prog 27 #[.agg (encRcd x i).toArray,.int .i64 f,.slice B bs.length d] W fun e W'=>∃ j,e = .returned (.agg (encRcd (gotL x f bs) j).toArray) ∧ Mem w0 W' (partRcd 91 40 9 3 66 (gotL x f bs) j ++ L):=by
  refine enter Tryz.func27 rfl Tryz.ntmps27 [(0,.agg (encRcd x i).toArray),(1,_),(2,_)] rfl ⟨rfl,rfl,rfl,trivial⟩ ?_
  unfold encRcd
  have hal:=addL_len x.yes f
  simp only [partRcd,List.cons_append,List.nil_append] at HM
  repeat (first|refine Y ?_|(refine qs ?_;clear HM;intro W1 HM)|(refine qf ?_;first|(go_at_call 80;refine (addS (xs:=x.yes) (A:=i.a4.1) (c:=i.a4.2) f h1 (by exact HM.pk)).mono ?_;rintro e2 W2 ⟨A2,c2,rfl,HM1⟩;refine ⟨_,rfl,?_⟩;replace HM:=HM1;clear HM1)|(go_at_call 81;obtain ⟨F1,hF1⟩:=HM.own (A:=i.a5.1);have hbs:=hb _ (by exact HM.sb);refine (recMergeS (ro_slots hF1) hbs h2 h3 (Mem.start _)).mono ?_;clear hF1 hbs;rintro e W1 ⟨A3,c3,rfl,HM1⟩;refine ⟨_,rfl,?_⟩;replace HM:=HM.join HM1;clear HM1;simp only [List.cons_append,List.nil_append] at HM))|(refine qg ?_;clear HM;intro g W1 HM))
  exact ret_cell HM rfl rfl rfl ⟨⟨i.a0,i.a1,i.a2,i.a3,(A2,c2),(A3,c3),i.a6⟩,rfl,by simp only [gotL,partRcd,List.cons_append,List.nil_append];exact HM.sb⟩
theorem calmSk (x : Rcd) (i : AtRcd) (HM : Mem w0 W (partRcd 91 40 9 3 66 x i ++ L)) : Calls Tryz.prog 31 #[.agg (encRcd x i).toArray] W fun e W'=>∃ j,e = .returned (.agg (encRcd (calmL x) j).toArray) ∧ Mem w0 W' (partRcd 91 40 9 3 66 (calmL x) j ++ own tSlot 91 i.a5.1 i.a5.2 x.best :: L):=by
  refine enter Tryz.func31 rfl Tryz.ntmps31 [(0,.agg (encRcd x i).toArray)] rfl ⟨rfl,trivial⟩ ?_
  unfold encRcd
  simp only [partRcd,List.cons_append,List.nil_append] at HM
  repeat (first|refine Y ?_|(refine qs ?_;clear HM;intro W1 HM)|(refine qg ?_;clear HM;intro g W1 HM)|(refine qz ?_;clear HM;intro A1 W1 HM))
  have e : calmL x = { x with lead:=false,trying:=false,ballot:=0,yes:=[],best:=[],acks:=[] }:=rfl
  rw [e]
  rename_i Ay _ _ Ab _ _ _ _
  exact ret_cell HM rfl rfl rfl ⟨⟨i.a0,i.a1,i.a2,i.a3,(Ay,0),(Ab,0),(A1,0)⟩,rfl,by simp only [partRcd,List.cons_append,List.nil_append];exact HM.sb⟩
def layL (b : Int) (best : List Slot) : Nat → Nat → Rcd → Rcd
  | 0,_,y=>y
  | n + 1,k,y=>layL b best n (k + 1) (setL y ((k : Int) + 1) ⟨b,(rd tSlot best k).text⟩)
def wonL (x : Rcd) : Rcd:={ calmL x with lead:=true,ballot:=x.ballot }
def promL (x : Rcd) (f : Int) (bs : List Slot) : Rcd :=
  if 2 * ((addL x.yes f).length : Int) ≤ x.of then gotL x f bs
  else layL x.ballot (mergeL x.best bs) ((mergeL x.best bs).length - x.dk.toNat) x.dk.toNat (wonL (gotL x f bs))
theorem setL_ds (x : Rcd) (ix : Int) (s : Slot) : (setL x ix s).ds.length = max x.ds.length ix.toNat:=by simp only [setL,List.length_set,padL_len]
end Go.Proofs.YtampmicahnnebaaGreat.Sp
namespace Go.Proofs.YtampmicahnnebaaGreat.Sp
open Go Go.RowKit
set_option maxRecDepth 10000
set_option maxHeartbeats 1000000
variable {w0 W : World} {L : List Asn} {A : Option Addr} {c : Nat} {b : Bool}
def hasB (zs : List Slot) (t : ByteArray) : Bool:=zs.any (fun s=>decide (0 < s.ballot) && decide (s.text = t))
def knownB (zs : List Slot) (t : ByteArray) : Bool:=zs.any (fun s=>decide (s.text = t))
theorem any_hit {α : Type} {p : α → Bool} {zs : List α} {k : Nat} (hk : k < zs.length) (h : p zs[k] = true) : zs.any p = true:=List.any_eq_true.2 ⟨_,List.getElem_mem hk,h⟩
theorem any_succ {α : Type} {p : α → Bool} {zs : List α} {k : Nat} (hk : k < zs.length) (h0 : (zs.take k).any p = false) (h : p zs[k] = false) : (zs.take (k + 1)).any p = false:=by
  rw [List.take_succ_eq_append_getElem hk,List.any_append,h0];simp [h]
theorem has3_c {zs : List Slot} {l : Nat} (hl : l = zs.length) (t : ByteArray) (h : RoRow (rSlot b) w0 A zs) (HM : Mem w0 W L) : Calls Tryz.prog 26 #[.slice A l c,.string t] W fun e W'=>e = .returned (.bool (hasB zs t)) ∧ Mem w0 W' L:=by
  subst hl
  refine enter Tryz.func26 rfl Tryz.ntmps26 [(0,_),(1,_)] rfl ⟨rfl,rfl,trivial⟩ ?_
  have hmax:=h.max
  replace HM:=HM.rod h
  repeat refine Y ?_
  refine c_loop (σ:=Nat) (fun k=>[(0,.slice A zs.length c),(1,.string t),(5,.int .i64 k)]) (fun k W1=>k ≤ zs.length ∧ hasB (zs.take k) t = false ∧ Mem w0 W1 (ro (rSlot b) w0 A zs :: L)) (fun k=>zs.length - k) 0 U ⟨Nat.zero_le _,rfl,HM⟩ ?_
  clear HM
  rintro k W1 ⟨hk,hp,HM⟩
  by_cases hlt : k < zs.length
  · have e0:=rdR_at (D:=rSlot b) hlt
    by_cases hb : 0 < (rdR (rSlot b) zs k).ballot
    · by_cases ht : (rdR (rSlot b) zs k).text = t
      · repeat refine Y ?_
        rw [e0] at hb ht
        exact ret_tmp rfl rfl ⟨by rw [hasB,any_hit hlt (by simp [hb,ht])],HM.sb⟩
      · repeat refine Y ?_
        rw [e0] at hb ht
        exact n_round (k + 1) U ⟨by omega,any_succ hlt hp (by simp [hb,ht]),HM.sb⟩ (by omega)
    · repeat refine Y ?_
      rw [e0] at hb
      exact n_round (k + 1) U ⟨by omega,any_succ hlt hp (by simp [hb]),HM.sb⟩ (by omega)
  · repeat refine Y ?_
    obtain rfl : k = zs.length:=by omega
    rw [List.take_length] at hp
    exact ret_tmp rfl rfl ⟨by rw [hp],HM.sb⟩
theorem knownM (x : Rcd) (i : AtRcd) (g : Nat) (t : ByteArray) (hk0 : 0 ≤ x.dk) (hk1 : x.dk ≤ x.ds.length) (hc : x.ds.length ≤ i.a1.2) (h : RoRow (rSlot false) w0 i.a1.1 x.ds) (hb : w0.heap[g]? = some (.cells ([.int .i64 x.number,.int .i64 x.of,.bool x.up,.int .i64 x.sp,.int .i64 x.sk,.slice i.a0.1 x.ss.length i.a0.2,.int .i64 x.dp,.int .i64 x.dk,.slice i.a1.1 x.ds.length i.a1.2,.slice i.a2.1 x.held.length i.a2.2,.slice i.a3.1 x.wishes.length i.a3.2,.bool x.lead,.bool x.trying,.int .i64 x.ballot,.slice i.a4.1 x.yes.length i.a4.2,.slice i.a5.1 x.best.length i.a5.2,.slice i.a6.1 x.acks.length i.a6.2,.int .i64 x.heard]).toArray 31 (0,0))) (HM : Mem w0 W L) : Calls Tryz.prog 67 #[.pointer (some ⟨g,0,none⟩),.string t] W fun e W'=>e = .returned (.bool (knownB (x.ds.take x.dk.toNat) t)) ∧ Mem w0 W' L:=by
  refine enter Tryz.func67 rfl Tryz.ntmps67 [(0,_),(1,_)] rfl ⟨rfl,rfl,trivial⟩ ?_
  have hz : (x.ds.take x.dk.toNat).length = x.dk.toNat:=by simp;omega
  have h1:=ro_take h x.dk.toNat
  have hmax:=h.max
  generalize x.ds.take x.dk.toNat = zs at hz h1 ⊢
  replace HM:=(HM.rod h1).robox hb
  repeat (first|(refine gR ?_;refine d_start [] [(0,0),(0,1),(0,2),(0,3),(0,5),(0,6),(0,7),(0,8),(0,12),(1,4),(1,9),(0,10),(0,11)] HM (by kernel_rfl) (by kernel_rfl) qq (by kernel_rfl) rfl ?_;intro HQ HS W1 HM1;replace HM:=HM1;clear HM1)|refine Y ?_)
  refine c_loop (σ:=Nat) (fun k=>[(1,.string t),(17,.slice i.a1.1 x.dk.toNat i.a1.2),(18,.int .i64 x.dk.toNat),(19,.int .i64 k)]) (fun k W1=>k ≤ zs.length ∧ knownB (zs.take k) t = false ∧ Mem w0 W1 (ro (rSlot false) w0 i.a1.1 zs :: L)) (fun k=>zs.length - k) 0 U ⟨Nat.zero_le _,rfl,HM.sb⟩ ?_
  clear HM
  rintro k W1 ⟨hk,hp,HM⟩
  by_cases hlt : k < zs.length
  · have hlt2 : k < x.dk.toNat:=by omega
    obtain ⟨cc,⟨j,rfl,_⟩,HM⟩:=HM.roOpen (A:=i.a1.1) k hlt
    unfold encSlot at HM
    by_cases ht : zs[k].text = t
    · repeat (first|refine Y ?_|(refine qs ?_;clear HM;intro W1 HM)|(refine qg ?_;clear HM;intro g W1 HM))
      exact ret_tmp rfl rfl ⟨by rw [knownB,any_hit hlt (by simp [ht])],HM.sb⟩
    · repeat (first|refine Y ?_|(refine qs ?_;clear HM;intro W1 HM)|(refine qg ?_;clear HM;intro g W1 HM))
      exact n_round (k + 1) U ⟨by omega,any_succ hlt hp (by simp [ht]),HM.sb⟩ (by omega)
  · have hlt2 : ¬ k < x.dk.toNat:=by omega
    repeat refine Y ?_
    obtain rfl : k = zs.length:=by omega
    rw [List.take_length] at hp
    exact ret_tmp rfl rfl ⟨by rw [hp],HM.sb⟩
end Go.Proofs.YtampmicahnnebaaGreat.Sp
namespace Go.Proofs.YtampmicahnnebaaGreat.Sp
open Go Go.RowKit
set_option maxRecDepth 10000
set_option maxHeartbeats 1000000
variable {w0 W : World} {L : List Asn} {A : Option Addr} {c : Nat} {b : Bool}
def wishOk (x : Rcd) (t : ByteArray) : Bool:=decide (1 ≤ (t.size : Int) ∧ (t.size : Int) ≤ 100) && newB x.wishes x.wishes.length t && decide ((x.wishes.length : Int) < 20) && !knownB (x.ds.take x.dk.toNat) t
def wish1 (x : Rcd) (t : ByteArray) : Rcd:=if wishOk x t = true then { x with wishes:=x.wishes ++ [t] } else x
def wishL (x : Rcd) (t : ByteArray) : Rcd:=if validB x = true then (if x.up = true then wish1 x t else x) else zeroR
theorem small_wish1 (x : Rcd) (t : ByteArray) (hn : SmallR x) : SmallR (wish1 x t):=by
  unfold wish1
  split
  · rename_i h
    simp only [wishOk,Bool.and_eq_true,decide_eq_true_eq] at h
    obtain ⟨_,_,_,_,_,_,_,_,_⟩:=hn
    constructor <;> first|assumption|(simp;omega)
  · exact hn
theorem any_pos {l : List Slot} (h : ∀ s ∈ l,0 < s.ballot) (t : ByteArray) : hasB l t = knownB l t:=by
  unfold hasB knownB
  rw [Bool.eq_iff_iff]
  simp only [List.any_eq_true,Bool.and_eq_true,decide_eq_true_eq]
  constructor
  · rintro ⟨s,hs,h1,h2⟩;exact ⟨s,hs,h2⟩
  · rintro ⟨s,hs,h2⟩;exact ⟨s,hs,h s hs,h2⟩
theorem known_eq {x : Rcd} (h : validB x = true) (t : ByteArray) : hasB (x.ds.take x.dk.toNat) t = knownB (x.ds.take x.dk.toNat) t:=by
  have hd:=(validB_iff.1 h).disk
  refine any_pos (fun s hs=>?_) t
  obtain ⟨i,hi,rfl⟩:=List.getElem_of_mem hs
  rw [List.getElem_take]
  have h1 : i < x.ds.length:=by simp at hi;omega
  have h2:=hd.known i h1 (by simp at hi;have:=hd.k0;omega)
  have h3:=(hd.slots.2 _ (List.getElem_mem h1)).lo
  omega
theorem disk_of_valid2 {x : Rcd} (h : validB x = true) : (0 ≤ x.dk ∧ x.dk ≤ x.ds.length) ∧ x.ds.length ≤ 60:=by
  simp only [validB,headB,diskB,slotsB,Bool.and_eq_true,decide_eq_true_eq] at h
  omega
theorem l3Wish_c (x : Rcd) (i : AtRcd) (t : ByteArray) (hv : validB x = true) (hn : SmallR x) (ht : t.size ≤ 1048576) (HM : Mem w0 W (partRcd 91 40 9 3 66 x i ++ L)) : Calls Tryz.prog 61 #[.agg (encRcd x i).toArray,.string t] W fun e W'=>∃ j,e = .returned (.agg (encRcd (wish1 x t) j).toArray) ∧ Mem w0 W' (partRcd 91 40 9 3 66 (wish1 x t) j ++ L):=by
  refine enter Tryz.func61 rfl Tryz.ntmps61 [(0,.agg (encRcd x i).toArray),(1,_)] rfl ⟨rfl,rfl,trivial⟩ ?_
  obtain ⟨⟨hk0,hk1⟩,hd⟩:=disk_of_valid2 hv
  have hw:=hn.wishes
  have hcd:=(caps_parts HM).1
  have hke:=known_eq hv t
  unfold encRcd
  simp only [partRcd,List.cons_append,List.nil_append] at HM
  by_cases c1 : (t.size : Int) < 1
  · have e : wish1 x t = x:=if_neg (by simp [wishOk];omega)
    repeat (first|refine Y ?_|(refine qs ?_;clear HM;intro W1 HM)|(refine qg ?_;clear HM;intro g W1 HM))
    rw [e]
    exact ret_cell HM rfl rfl rfl ⟨i,rfl,by simp only [partRcd,List.cons_append,List.nil_append];exact HM.sb⟩
  by_cases c2 : (100 : Int) < t.size
  · have e : wish1 x t = x:=if_neg (by simp [wishOk];omega)
    repeat (first|refine Y ?_|(refine qs ?_;clear HM;intro W1 HM)|(refine qg ?_;clear HM;intro g W1 HM))
    rw [e]
    exact ret_cell HM rfl rfl rfl ⟨i,rfl,by simp only [partRcd,List.cons_append,List.nil_append];exact HM.sb⟩
  by_cases c3 : (20 : Int) ≤ x.wishes.length
  · have e : wish1 x t = x:=if_neg (by simp [wishOk];omega)
    repeat (first|refine Y ?_|(refine qs ?_;clear HM;intro W1 HM)|(refine qg ?_;clear HM;intro g W1 HM))
    rw [e]
    exact ret_cell HM rfl rfl rfl ⟨i,rfl,by simp only [partRcd,List.cons_append,List.nil_append];exact HM.sb⟩
  by_cases c4 : hasB (x.ds.take x.dk.toNat) t = true
  · have e : wish1 x t = x:=if_neg (by simp [wishOk,← hke,c4])
    repeat (first|refine Y ?_|(refine qs ?_;clear HM;intro W1 HM)|(refine qf ?_;go_at_call 26;obtain ⟨F1,hF1⟩:=HM.own (A:=i.a1.1);refine (has3_c (by simp;omega) t (ro_take (ro_slots hF1) x.dk.toNat) (Mem.start _)).mono ?_;clear hF1;rintro e W1 ⟨rfl,HM1⟩;refine ⟨_,rfl,?_⟩;have HM2:=HM.step HM1.below;clear HM HM1;have HM:=HM2;clear HM2)|(refine qg ?_;clear HM;intro g W1 HM))
    rw [e]
    exact ret_cell HM rfl rfl rfl ⟨i,rfl,by simp only [partRcd,List.cons_append,List.nil_append];exact HM.sb⟩
  simp only [Bool.not_eq_true] at c4
  repeat (first|refine Y ?_|(refine qf ?_;go_at_call 26;obtain ⟨F1,hF1⟩:=HM.own (A:=i.a1.1);refine (has3_c (by simp;omega) t (ro_take (ro_slots hF1) x.dk.toNat) (Mem.start _)).mono ?_;clear hF1;rintro e W1 ⟨rfl,HM1⟩;refine ⟨_,rfl,?_⟩;have HM2:=HM.step HM1.below;clear HM HM1;have HM:=HM2;clear HM2)|(refine qg ?_;clear HM;intro g W1 HM))
  refine c_loop (σ:=Nat) (fun k=>[(1,.string t),(2,.pointer (some ⟨_,0,none⟩)),(4,.pointer (some ⟨g,0,none⟩)),(5,.int .i64 k)]) (fun k W1=>k ≤ x.wishes.length ∧ newB x.wishes k t = true ∧ Mem w0 W1 _) (fun k=>x.wishes.length - k) 0 U ⟨Nat.zero_le _,allN_zero,HM⟩ ?_
  clear HM
  rintro k W1 ⟨hk,hp,HM⟩
  by_cases hlt : k < x.wishes.length
  · by_cases he : rd tStr x.wishes k = t
    · have he2 : rdR (rStr false) x.wishes k = t:=by rw [← he,rdR_at hlt,rd_at hlt]
      have hf : newB x.wishes x.wishes.length t = false:=allN_fail hlt (by simp [he2])
      have e : wish1 x t = x:=if_neg (by simp [wishOk,hf])
      repeat (first|refine Y ?_|(refine qs ?_;clear HM;intro W1 HM))
      rw [e]
      exact ret_cell HM rfl rfl rfl ⟨i,rfl,by simp only [partRcd,List.cons_append,List.nil_append];exact HM.sb⟩
    · have he2 : rdR (rStr false) x.wishes k ≠ t:=by rw [rdR_at hlt,← rd_at (d:=tStr) hlt];exact he
      repeat refine Y ?_
      exact n_round (k + 1) U ⟨by omega,allN_succ hp (by simp [he2]),HM⟩ (by omega)
  · obtain rfl : k = x.wishes.length:=by omega
    have e : wish1 x t = { x with wishes:=x.wishes ++ [t] }:=if_pos (by simp only [wishOk,hp,← hke,c4];simp;omega)
    repeat (first|refine Y ?_|(refine qs ?_;clear HM;intro W1 HM)|(refine qa ?_;clear HM;intro A1 c1 W1 HM)|(refine qg ?_;clear HM;intro g W1 HM))
    rw [e]
    exact ret_cell HM rfl rfl rfl ⟨⟨i.a0,i.a1,i.a2,(A1,c1),i.a4,i.a5,i.a6⟩,rfl,by simp only [partRcd,List.cons_append,List.nil_append];exact HM.sb⟩
end Go.Proofs.YtampmicahnnebaaGreat.Sp
namespace Go.Proofs.YtampmicahnnebaaGreat.Sp
open Go Go.RowKit
def knowL (ds : List Slot) (b kn : Int) : Nat → Int → Int
  | 0,d=>d
  | n + 1,d=>if d < kn ∧ d < ds.length ∧ (rd tSlot ds d).ballot = b then knowL ds b kn n (d + 1) else d
def wishedL (to : Int) : List ByteArray → Rcd → Rcd
  | [],y=>y
  | w :: r,y=>wishedL to r (holdL y ⟨8,0,to,0,0,0,w,[]⟩)
def beat1 (y : Rcd) (m : Msg) : Rcd:={ y with dk:=knowL y.ds m.ballot m.known y.ds.length y.dk }
def beat2 (y : Rcd) (m : Msg) : Rcd:=if y.dk < m.known then holdL y ⟨7,0,m.frm,m.ballot,y.dk + 1,0,⟨#[]⟩,[]⟩ else y
def beatL (x : Rcd) (m : Msg) : Rcd :=
  if m.frm = x.number ∨ m.ballot < 1 then x
  else wishedL m.frm x.wishes (beat2 (beat1 (followL x m.ballot) m) m)
def refuseL (x : Rcd) (to : Int) : Rcd:=holdL x ⟨9,0,to,x.dp,0,0,⟨#[]⟩,[]⟩
def needL (to : Int) : Nat → Int → Rcd → Rcd
  | 0,_,y=>y
  | n + 1,i,y=>if i ≤ y.dk then needL to n (i + 1) (holdL y ⟨6,0,to,y.ballot,i,0,(rd tSlot y.ds (i - 1)).text,[]⟩) else y
def prepL (x : Rcd) (m : Msg) : Rcd:=if m.ballot ≤ x.dp then refuseL x m.frm else holdL (followL x m.ballot) ⟨2,0,m.frm,m.ballot,0,0,⟨#[]⟩,(followL x m.ballot).ds⟩
def acc1 (y : Rcd) (m : Msg) : Rcd:=if y.dk < m.index then setL y m.index ⟨m.ballot,m.text⟩ else y
def accL (x : Rcd) (m : Msg) : Rcd:=if m.ballot < x.dp then refuseL x m.frm else if m.index < 1 ∨ m.ballot < 1 ∨ m.frm = x.number then x else holdL (acc1 (followL x m.ballot) m) ⟨4,0,m.frm,m.ballot,m.index,0,⟨#[]⟩,[]⟩
def choL (x : Rcd) (m : Msg) : Rcd:=if m.index = x.dk + 1 ∧ 0 < m.ballot ∧ m.ballot ≤ x.dp then { setL x m.index ⟨m.ballot,m.text⟩ with dk:=m.index } else x
def refL (x : Rcd) (m : Msg) : Rcd:=if x.ballot < m.ballot ∧ (x.lead = true ∨ x.trying = true) then { calmL x with dp:=max x.dp m.ballot } else x
def takeL (x : Rcd) (m : Msg) : Rcd :=
  if m.kind = 1 then prepL x m
  else if m.kind = 2 then (if x.trying = true ∧ m.ballot = x.ballot then promL x m.frm m.slots else x)
  else if m.kind = 3 then accL x m
  else if m.kind = 4 then (if x.lead = true ∧ m.ballot = x.ballot ∧ 0 < m.index then ackL x m.index m.frm else x)
  else if m.kind = 5 then (if m.ballot < x.dp then refuseL x m.frm else beatL x m)
  else if m.kind = 6 then choL x m
  else if m.kind = 7 then (if x.lead = true ∧ 0 < m.index then needL m.frm 5 m.index x else x)
  else if m.kind = 8 then wish1 x m.text
  else if m.kind = 9 then refL x m
  else x
def recTakeL (x : Rcd) (m : Msg) : Rcd:=if validB x = true then (if x.up = true ∧ msgB m x.of = true ∧ m.to = x.number then takeL x m else x) else zeroR
def nextL (above number of : Int) : Int :=
  if (1 ≤ of ∧ of ≤ 5) ∧ (1 ≤ number ∧ number ≤ of) ∧ (0 ≤ above ∧ above ≤ 1000000) then
    (if 1000000 < (if above.tdiv of * of + number ≤ above then above.tdiv of * of + number + of else above.tdiv of * of + number) then 0
     else (if above.tdiv of * of + number ≤ above then above.tdiv of * of + number + of else above.tdiv of * of + number))
  else 0
def othersL (num : Int) (m : Msg) : Nat → Int → List Msg → List Msg
  | 0,_,o=>o
  | n + 1,i,o=>othersL num m n (i + 1) (if i = num then o else o ++ [{ m with frm:=num,to:=i }])
def othL (x : Rcd) (o : List Msg) (m : Msg) : List Msg:=othersL x.number m x.of.toNat 1 o
def ackAllL (b num : Int) (ss : List Slot) : Nat → Nat → Rcd → Rcd
  | 0,_,y=>y
  | n + 1,i,y=>ackAllL b num ss n (i + 1) (if (rd tSlot ss i).ballot = b then ackL y ((i : Int) + 1) num else y)
def layWish (y : Rcd) (w : ByteArray) : Rcd:=if hasB y.ds w = false ∧ (y.ds.length : Int) < 60 then setL y ((y.ds.length : Int) + 1) ⟨y.ballot,w⟩ else y
def accOut (x : Rcd) : Nat → Nat → List Msg → List Msg
  | 0,_,o=>o
  | n + 1,i,o=>accOut x n (i + 1) (othL x o ⟨3,0,0,x.ballot,(i : Int) + 1,0,(rd tSlot x.ds i).text,[]⟩)
def lead1 (x : Rcd) : Rcd:=x.wishes.foldl layWish (ackAllL x.ballot x.number x.ss x.ss.length 0 x)
def leadOut (x : Rcd) (o : List Msg) : List Msg:=accOut x (x.ds.length - x.dk.toNat) x.dk.toNat (othL x o ⟨5,0,0,x.ballot,0,x.dk,⟨#[]⟩,[]⟩)
def tick1 (x : Rcd) : Rcd:={ x with sp:=x.dp,sk:=x.dk,ss:=x.ds,held:=[],wishes:=x.wishes.filter (fun w=>!hasB (x.ds.take x.dk.toNat) w),heard:=if x.heard < 1000000 then x.heard + 1 else x.heard }
def tick2 (x : Rcd) : Rcd:=if x.trying = true ∧ x.sp = x.ballot then promL x x.number x.ds else x
def holdAll : List Msg → Rcd → Rcd
  | [],y=>y
  | m :: r,y=>holdAll r (holdL y m)
def tick4 (x : Rcd) (b : Int) : Rcd:=holdAll (othL { calmL x with heard:=0,dp:=b,ballot:=b,trying:=true } [] ⟨1,0,0,b,0,0,⟨#[]⟩,[]⟩) { calmL x with heard:=0,dp:=b,ballot:=b,trying:=true }
def tick3 (x : Rcd) : Rcd:=if 4 + 3 * x.number < x.heard then (if 0 < nextL x.dp x.number x.of then tick4 x (nextL x.dp x.number x.of) else { calmL x with heard:=0 }) else x
def tickL (x : Rcd) : Rcd:=if (tick2 (tick1 x)).lead = true then lead1 (tick2 (tick1 x)) else tick3 (tick2 (tick1 x))
def tickOut (x : Rcd) : List Msg:=if (tick2 (tick1 x)).lead = true then leadOut (lead1 (tick2 (tick1 x))) x.held else x.held
def recTickL (x : Rcd) : Rcd:=if validB x = true then (if x.up = true then tickL x else x) else zeroR
def recTickO (x : Rcd) : List Msg:=if validB x = true then (if x.up = true then tickOut x else []) else []
end Go.Proofs.YtampmicahnnebaaGreat.Sp
namespace Go.Proofs.YtampmicahnnebaaGreat.Sp
open Go
section
variable {P : Program} {n : Nat} {Q Q' : Exit → Act → World → Prop} {E : Env} {W : World} {σ : Type}
structure MidP (n : Nat) (J : σ → Env) (M : σ → World → Prop) (a : Act) (w : World) : Prop where out : ∃ s,Fits n (J s) a ∧ M s w
theorem mid_wp {y : Code} {J : σ → Env} {M : σ → World → Prop} (h : ∀ s W,M s W → WC P n y Q (J s) W) {a : Act} {w : World} (hm : MidP n J M a w) : y.wp P Q a w:=by
  obtain ⟨s,hf,hM⟩:=hm.out
  exact (h s w hM).out a hf
theorem c_cut {id : Nat} {c y : Code} (J : σ → Env) (M : σ → World → Prop) (h1 : WC P n c (Exit.inBlock id (Exit.then (MidP n J M) Q')) E W) (h2 : ∀ s W,M s W → WC P n y Q (J s) W) : WC P n c (Exit.inBlock id (Exit.then (y.wp P Q) Q')) E W:=⟨fun a ha=>by
  refine wp_mono (h1.out a ha) fun e a' w' hq=>?_
  cases e with
  | normal=>exact mid_wp h2 hq
  | exit k =>
    by_cases hk : k = id
    · subst hk
      have hq2 : (if k = k then Exit.then (MidP n J M) Q' .normal a' w' else Exit.then (MidP n J M) Q' (.exit k) a' w'):=hq
      rw [if_pos rfl] at hq2
      show (if k = k then Exit.then (y.wp P Q) Q' .normal a' w' else Exit.then (y.wp P Q) Q' (.exit k) a' w')
      rw [if_pos rfl]
      exact mid_wp h2 hq2
    · have hq2 : (if k = id then Exit.then (MidP n J M) Q' .normal a' w' else Exit.then (MidP n J M) Q' (.exit k) a' w'):=hq
      rw [if_neg hk] at hq2
      show (if k = id then Exit.then (y.wp P Q) Q' .normal a' w' else Exit.then (y.wp P Q) Q' (.exit k) a' w')
      rw [if_neg hk]
      exact hq2
  | _=>exact hq⟩
theorem c_cutn {c y : Code} (J : σ → Env) (M : σ → World → Prop) (h1 : WC P n c (Exit.then (MidP n J M) Q') E W) (h2 : ∀ s W,M s W → WC P n y Q (J s) W) : WC P n c (Exit.then (y.wp P Q) Q') E W:=⟨fun a ha=>by
  refine wp_mono (h1.out a ha) fun e a' w' hq=>?_
  cases e with
  | normal=>exact mid_wp h2 hq
  | _=>exact hq⟩
theorem n_mid {J : σ → Env} {M : σ → World → Prop} (s : σ) (hJ : subE E (J s)) (hM : M s W) : WN n .normal (Exit.then (MidP n J M) Q') E W:=⟨fun _ ha=>⟨s,ha.sub (subE_look hJ),hM⟩⟩
end
theorem Mem.name {w0 W : World} {A R : List Asn} (h : Mem w0 W (A ++ R)) : ∃ R',R' = R ∧ Mem w0 W (A ++ R'):=⟨R,rfl,h⟩
theorem Mem.name2 {w0 W : World} {A R : List Asn} {B : Asn} (h : Mem w0 W (B :: (A ++ R))) : ∃ R',R' = R ∧ Mem w0 W (B :: (A ++ R')):=⟨R,rfl,h⟩
theorem Mem.nam {w0 W : World} {L : List Asn} (h : Mem w0 W L) : ∃ L',L' = L ∧ Mem w0 W L':=⟨L,rfl,h⟩
theorem ret_ct {P : Program} {n : Nat} {E : Env} {w0 W : World} {L : List Asn} {fn : Func} {R : Ending → World → Prop} {p u m pt g t : Nat} {cs : List Value} {v : Value} [hB : BoxAt L g t cs] [hA : Agg P pt m] (hm : Mem w0 W L) (hf : fn.results = #[.cell p pt,.tmp u]) (hp : look E p = some (.pointer (some ⟨g,0,none⟩))) (hv : look E u = some v) (hl : cs.length = m) (h : R (.returned (.tuple #[.agg cs.toArray,v])) W) : WN n .ret (bodyPost P fn R) E W:=⟨fun a ha=>by
  obtain ⟨d,hu,hu2,hi⟩:=hA.out
  have hp' : a.tmps[p]?.getD undef = .pointer (some ⟨g,0,none⟩):=by simpa using ha.slots p _ hp
  have hv' : a.tmps[u]?.getD undef = v:=by simpa using ha.slots u _ hv
  have hr:=run_loadVar_row (P:=P) W g t pt cs.toArray (0,0) d hm.heap hu (by cases d <;> first|rfl|(simp at hu2)) (by rw [hi];simp [hl])
  exact ⟨ha.defers,_,by simp [results,hf,hp',hv',asAddr,hr],h⟩⟩
end Go.Proofs.YtampmicahnnebaaGreat.Sp
namespace Go.Proofs.YtampmicahnnebaaGreat.Sp
open Go Go.RowKit
set_option maxRecDepth 10000
set_option maxHeartbeats 2000000
variable {w0 W : World} {L : List Asn} {A : Option Addr} {c : Nat}
theorem next_first {above number of N : Int} (h1 : 1 ≤ of ∧ of ≤ 5) (h2 : 1 ≤ number ∧ number ≤ of) (h3 : 0 ≤ above) (hN : N = if above.tdiv of * of + number ≤ above then above.tdiv of * of + number + of else above.tdiv of * of + number) : above < N ∧ N ≤ above + of ∧ N.tmod of = number.tmod of ∧ ∀ b,above < b → b < N → b.tmod of ≠ number.tmod of:=by
  rw [Int.tdiv_eq_ediv_of_nonneg h3] at hN
  have hof : of = 1 ∨ of = 2 ∨ of = 3 ∨ of = 4 ∨ of = 5:=by omega
  have hA : above < N ∧ N ≤ above + of ∧ N % of = number % of ∧ ∀ b,above < b → b < N → b % of ≠ number % of:=by
    rcases hof with rfl|rfl|rfl|rfl|rfl <;> (split at hN <;> refine ⟨by omega,by omega,by omega,fun b hb hb2=>by omega⟩)
  obtain ⟨g1,g2,g3,g4⟩:=hA
  refine ⟨g1,g2,?_,fun b hb hb2=>?_⟩
  · rw [Int.tmod_eq_emod_of_nonneg (by omega),Int.tmod_eq_emod_of_nonneg (by omega)];exact g3
  · rw [Int.tmod_eq_emod_of_nonneg (by omega),Int.tmod_eq_emod_of_nonneg (by omega)];exact g4 b hb hb2
theorem next_q {above of : Int} (h1 : 1 ≤ of ∧ of ≤ 5) (h3 : 0 ≤ above) (h4 : above ≤ 1000000) : 0 ≤ above.tdiv of ∧ above.tdiv of ≤ 1000000 ∧ 0 ≤ above.tdiv of * of ∧ above.tdiv of * of ≤ 1000000:=by
  rw [Int.tdiv_eq_ediv_of_nonneg h3]
  have hof : of = 1 ∨ of = 2 ∨ of = 3 ∨ of = 4 ∨ of = 5:=by omega
  rcases hof with rfl|rfl|rfl|rfl|rfl <;> omega
theorem nextS (above number of : Int) (HM : Mem w0 W L) : Calls Tryz.prog 30 #[.int .i64 above,.int .i64 number,.int .i64 of] W fun e W'=>e = .returned (.int .i64 (nextL above number of)) ∧ Mem w0 W' L:=by
  refine enter Tryz.func30 rfl Tryz.ntmps30 [(0,_),(1,_),(2,_)] rfl ⟨rfl,rfl,rfl,trivial⟩ ?_
  by_cases c1 : 1 ≤ of ∧ of ≤ 5
  rotate_left
  · have e : nextL above number of = 0:=if_neg (fun h=>c1 h.1)
    rw [e]
    repeat (first|refine Y ?_|(refine qf ?_;go_at_call 39;refine (l1In_c _ _ _ _).mono ?_;rintro e W1 ⟨rfl,rfl⟩;refine ⟨_,rfl,?_⟩))
    exact ret_tmp rfl rfl ⟨rfl,HM⟩
  by_cases c2 : 1 ≤ number ∧ number ≤ of
  rotate_left
  · have e : nextL above number of = 0:=if_neg (fun h=>c2 h.2.1)
    rw [e]
    repeat (first|refine Y ?_|(refine qf ?_;go_at_call 39;refine (l1In_c _ _ _ _).mono ?_;rintro e W1 ⟨rfl,rfl⟩;refine ⟨_,rfl,?_⟩))
    exact ret_tmp rfl rfl ⟨rfl,HM⟩
  by_cases c3 : 0 ≤ above ∧ above ≤ 1000000
  rotate_left
  · have e : nextL above number of = 0:=if_neg (fun h=>c3 h.2.2)
    rw [e]
    repeat (first|refine Y ?_|(refine qf ?_;go_at_call 39;refine (l1In_c _ _ _ _).mono ?_;rintro e W1 ⟨rfl,rfl⟩;refine ⟨_,rfl,?_⟩))
    exact ret_tmp rfl rfl ⟨rfl,HM⟩
  obtain ⟨q1,q2,q3,q4⟩:=next_q c1 c3.1 c3.2
  have e : nextL above number of = (if 1000000 < (if above.tdiv of * of + number ≤ above then above.tdiv of * of + number + of else above.tdiv of * of + number) then 0 else (if above.tdiv of * of + number ≤ above then above.tdiv of * of + number + of else above.tdiv of * of + number)):=if_pos ⟨c1,c2,c3⟩
  rw [e]
  clear e
  by_cases c4 : above.tdiv of * of + number ≤ above
  · rw [if_pos c4]
    by_cases c5 : 1000000 < above.tdiv of * of + number + of
    · rw [if_pos c5]
      repeat (first|(refine gGP ?_;refine gGB ?_;refine gp (p_quo rfl rfl (by omega) (wr (by omega) (by omega))) ?_)|refine Y ?_|(refine qf ?_;go_at_call 39;refine (l1In_c _ _ _ _).mono ?_;rintro e W1 ⟨rfl,rfl⟩;refine ⟨_,rfl,?_⟩))
      exact ret_tmp rfl rfl ⟨rfl,HM⟩
    · rw [if_neg c5]
      repeat (first|(refine gGP ?_;refine gGB ?_;refine gp (p_quo rfl rfl (by omega) (wr (by omega) (by omega))) ?_)|refine Y ?_|(refine qf ?_;go_at_call 39;refine (l1In_c _ _ _ _).mono ?_;rintro e W1 ⟨rfl,rfl⟩;refine ⟨_,rfl,?_⟩))
      exact ret_tmp rfl rfl ⟨rfl,HM⟩
  · rw [if_neg c4]
    by_cases c5 : 1000000 < above.tdiv of * of + number
    · rw [if_pos c5]
      repeat (first|(refine gGP ?_;refine gGB ?_;refine gp (p_quo rfl rfl (by omega) (wr (by omega) (by omega))) ?_)|refine Y ?_|(refine qf ?_;go_at_call 39;refine (l1In_c _ _ _ _).mono ?_;rintro e W1 ⟨rfl,rfl⟩;refine ⟨_,rfl,?_⟩))
      exact ret_tmp rfl rfl ⟨rfl,HM⟩
    · rw [if_neg c5]
      repeat (first|(refine gGP ?_;refine gGB ?_;refine gp (p_quo rfl rfl (by omega) (wr (by omega) (by omega))) ?_)|refine Y ?_|(refine qf ?_;go_at_call 39;refine (l1In_c _ _ _ _).mono ?_;rintro e W1 ⟨rfl,rfl⟩;refine ⟨_,rfl,?_⟩))
      exact ret_tmp rfl rfl ⟨rfl,HM⟩
theorem nextM (above number of : Int) (HM : Mem w0 W L) : Calls Tryz.prog 76 #[.int .i64 above,.int .i64 number,.int .i64 of] W fun e W'=>e = .returned (.int .i64 (nextL above number of)) ∧ Mem w0 W' L:=by
  refine enter Tryz.func76 rfl Tryz.ntmps76 [(0,_),(1,_),(2,_)] rfl ⟨rfl,rfl,rfl,trivial⟩ ?_
  by_cases c3 : 0 ≤ above ∧ above ≤ 1000000
  rotate_left
  · have e : nextL above number of = 0:=if_neg (fun h=>c3 h.2.2)
    rw [e]
    repeat (first|refine Y ?_|(refine qf ?_;go_at_call 47;refine (within_c _ _ _ _).mono ?_;rintro e W1 ⟨rfl,rfl⟩;refine ⟨_,rfl,?_⟩))
    exact ret_tmp rfl rfl ⟨rfl,HM⟩
  by_cases c1 : 1 ≤ of ∧ of ≤ 5
  rotate_left
  · have e : nextL above number of = 0:=if_neg (fun h=>c1 h.1)
    rw [e]
    repeat (first|refine Y ?_|(refine qf ?_;go_at_call 47;refine (within_c _ _ _ _).mono ?_;rintro e W1 ⟨rfl,rfl⟩;refine ⟨_,rfl,?_⟩))
    exact ret_tmp rfl rfl ⟨rfl,HM⟩
  by_cases c2 : 1 ≤ number ∧ number ≤ of
  rotate_left
  · have e : nextL above number of = 0:=if_neg (fun h=>c2 h.2.1)
    rw [e]
    repeat (first|refine Y ?_|(refine qf ?_;go_at_call 47;refine (within_c _ _ _ _).mono ?_;rintro e W1 ⟨rfl,rfl⟩;refine ⟨_,rfl,?_⟩))
    exact ret_tmp rfl rfl ⟨rfl,HM⟩
  have e : nextL above number of = (if 1000000 < (if above.tdiv of * of + number ≤ above then above.tdiv of * of + number + of else above.tdiv of * of + number) then 0 else (if above.tdiv of * of + number ≤ above then above.tdiv of * of + number + of else above.tdiv of * of + number)):=if_pos ⟨c1,c2,c3⟩
  rw [e]
  clear e
  obtain ⟨N,hN⟩ : ∃ N,N = (if above.tdiv of * of + number ≤ above then above.tdiv of * of + number + of else above.tdiv of * of + number):=⟨_,rfl⟩
  rw [← hN]
  obtain ⟨n1,n2,n3,n4⟩:=next_first c1 c2 c3.1 hN
  clear hN
  repeat (first|refine Y ?_|(refine qf ?_;go_at_call 47;refine (within_c _ _ _ _).mono ?_;rintro e W1 ⟨rfl,rfl⟩;refine ⟨_,rfl,?_⟩))
  refine c_loop (σ:=Int) (fun b=>[(1,.int .i64 number),(2,.int .i64 of),(7,.int .i64 b)]) (fun b W1=>above < b ∧ b ≤ N ∧ b ≤ 1000001 ∧ Mem w0 W1 L) (fun b=>(1000002 - b).toNat) (above + 1) U ⟨by omega,by omega,by omega,HM⟩ ?_
  clear HM
  rintro b W1 ⟨b1,b2,b3,HM⟩
  by_cases c4 : b ≤ 1000000
  · by_cases c5 : b = N
    · have e1 : b.tmod of = number.tmod of:=by rw [c5];exact n3
      repeat (first|refine Y ?_|(refine gR ?_;refine d_start [] [(0,0),(0,1),(0,2),(0,3),(0,4),(0,5),(0,6)] HM (by kernel_rfl) (by kernel_rfl) qq (by kernel_rfl) rfl ?_;intro HQ HS W1 HM1;replace HM:=HM1;clear HM1))
      rw [if_neg (by omega),← c5]
      exact ret_tmp rfl rfl ⟨rfl,HM⟩
    · have e1 : ¬ b.tmod of = number.tmod of:=n4 b b1 (by omega)
      repeat (first|refine Y ?_|(refine gR ?_;refine d_start [] [(0,0),(0,1),(0,2),(0,3),(0,4),(0,5),(0,6)] HM (by kernel_rfl) (by kernel_rfl) qq (by kernel_rfl) rfl ?_;intro HQ HS W1 HM1;replace HM:=HM1;clear HM1))
      exact n_round (b + 1) U ⟨by omega,by omega,by omega,HM⟩ (by omega)
  · rw [if_pos (by omega)]
    repeat refine Y ?_
    exact ret_tmp rfl rfl ⟨rfl,HM⟩
instance mkMsg0 {L : List Asn} {eS : Nat} {kind frm to ballot index known : Int} {text : ByteArray} : MkIn L (tMsg eS) [.int .i64 kind,.int .i64 frm,.int .i64 to,.int .i64 ballot,.int .i64 index,.int .i64 known,.string text,.slice none 0 0] ⟨kind,frm,to,ballot,index,known,text,[]⟩ L :=
  mk_nest (M:=[own tSlot eS none 0 []]) (fun W ok hs=>⟨fun _=>False,fun _ h=>h.elim,own_nil tSlot eS,hs.mono (fun k hk=>⟨hk,fun h=>h⟩)⟩) (fun W F hs=>⟨(none,0),rfl,hs⟩)
theorem othersL_len (num : Int) (m : Msg) : ∀ (n : Nat) (i : Int) (o : List Msg),(othersL num m n i o).length ≤ o.length + n
  | 0,_,o=>Nat.le_refl _
  | n + 1,i,o=>by
    rw [othersL]
    refine Nat.le_trans (othersL_len num m n (i + 1) _) ?_
    split <;> simp <;> omega
theorem othersS (x : Rcd) (i : AtRcd) (m : Msg) {o : List Msg} (hof : 0 ≤ x.of ∧ x.of ≤ 5) (hl : o.length ≤ 100000) (HM : Mem w0 W (own (tMsg 91) 40 A c o :: L)) : Calls Tryz.prog 32 #[.agg (encRcd x i).toArray,.slice A o.length c,.agg (encMsg { m with slots:=[] } (none,0)).toArray] W fun e W'=>∃ A' c',e = .returned (.slice A' (othL x o { m with slots:=[] }).length c') ∧ Mem w0 W' (own (tMsg 91) 40 A' c' (othL x o { m with slots:=[] }) :: L):=by
  refine enter Tryz.func32 rfl Tryz.ntmps32 [(0,.agg (encRcd x i).toArray),(1,_),(2,.agg (encMsg { m with slots:=[] } (none,0)).toArray)] rfl ⟨rfl,rfl,rfl,trivial⟩ ?_
  unfold encRcd encMsg
  simp only [List.length_nil]
  repeat (first|refine Y ?_|(refine qg ?_;clear HM;intro g W1 HM))
  rename_i gr _
  generalize htg : othL x o { m with slots:=[] } = tg
  unfold othL at htg
  refine c_loop2 (σ:=Nat × List Msg) (fun s A c=>[(3,.pointer (some ⟨gr,0,none⟩)),(5,.pointer (some ⟨g,0,none⟩)),(1,.slice A s.2.length c),(7,.int .i64 ((s.1 : Int) + 1))]) (fun s A c W1=>(s.1 : Int) ≤ x.of ∧ othersL x.number { m with slots:=[] } (x.of.toNat - s.1) ((s.1 : Int) + 1) s.2 = tg ∧ s.2.length ≤ 100000 + s.1 ∧ Mem w0 W1 (own (tMsg 91) 40 A c s.2 :: box g 40 [.int .i64 m.kind,.int .i64 m.frm,.int .i64 m.to,.int .i64 m.ballot,.int .i64 m.index,.int .i64 m.known,.string m.text,.slice none 0 0] :: box gr 31 [.int .i64 x.number,.int .i64 x.of,.bool x.up,.int .i64 x.sp,.int .i64 x.sk,.slice i.a0.1 x.ss.length i.a0.2,.int .i64 x.dp,.int .i64 x.dk,.slice i.a1.1 x.ds.length i.a1.2,.slice i.a2.1 x.held.length i.a2.2,.slice i.a3.1 x.wishes.length i.a3.2,.bool x.lead,.bool x.trying,.int .i64 x.ballot,.slice i.a4.1 x.yes.length i.a4.2,.slice i.a5.1 x.best.length i.a5.2,.slice i.a6.1 x.acks.length i.a6.2,.int .i64 x.heard] :: L)) (fun s=>x.of.toNat - s.1) (0,o) A c (by simp only [Int.natCast_zero,Int.zero_add];exact U) ⟨by omega,htg,by omega,HM.sb⟩ ?_
  clear HM
  rintro ⟨k,z⟩ A c W1 ⟨hk,hz,hzl,HM⟩
  dsimp only at hk hz hzl HM ⊢
  by_cases hlt : (k : Int) + 1 ≤ x.of
  · have hst:=hz
    rw [show x.of.toNat - k = (x.of.toNat - (k + 1)) + 1 by omega,othersL] at hst
    by_cases c1 : (k : Int) + 1 = x.number
    · rw [if_pos c1] at hst
      repeat refine Y ?_
      exact n_round2 (k + 1,z) A c (by simp only [Int.natCast_add,Int.natCast_one];exact U) ⟨by dsimp only;omega,by simpa only [Int.natCast_add,Int.natCast_one] using hst,by dsimp only;omega,HM.sb⟩ (by dsimp only;omega)
    · rw [if_neg c1] at hst
      repeat (first|refine Y ?_|(refine qs ?_;clear HM;intro W1 HM)|(refine qa ?_;clear HM;intro A1 c1 W1 HM)|(refine qg ?_;clear HM;intro g W1 HM))
      have hzl2 : (z ++ [({ m with frm:=x.number,to:=(k : Int) + 1,slots:=[] } : Msg)]).length = z.length + 1:=by simp
      exact n_round2 (k + 1,z ++ [{ m with frm:=x.number,to:=(k : Int) + 1,slots:=[] }]) A1 c1 (by simp only [Int.natCast_add,Int.natCast_one];exact U) ⟨by dsimp only;omega,by simpa only [Int.natCast_add,Int.natCast_one] using hst,by dsimp only;omega,HM.sb⟩ (by dsimp only;omega)
  · rw [show x.of.toNat - k = 0 by omega,othersL] at hz
    subst hz
    repeat refine Y ?_
    exact ret_tmp rfl rfl ⟨A,c,rfl,HM.sb⟩
end Go.Proofs.YtampmicahnnebaaGreat.Sp
namespace Go.Proofs.YtampmicahnnebaaGreat.Sp
open Go Go.RowKit
set_option maxRecDepth 10000
theorem addL_mem {n : Int} : ∀ {l : List Int} {a : Int},a ∈ addL l n → a = n ∨ a ∈ l
  | [],a,h=>by simp [addL] at h;exact .inl h
  | b :: r,a,h=>by
    rw [addL] at h
    split at h
    · rcases List.mem_cons.1 h with e|e
      · exact .inr (by simp [e])
      · rcases addL_mem e with e|e
        · exact .inl e
        · exact .inr (List.mem_cons_of_mem _ e)
    · split at h
      · exact .inr h
      · rcases List.mem_cons.1 h with e|e
        · exact .inl e
        · exact .inr e
theorem addL_sorted {n : Int} : ∀ {l : List Int},l.Pairwise (· < ·) → (addL l n).Pairwise (· < ·)
  | [],_=>by simp [addL]
  | b :: r,h=>by
    have h1:=List.pairwise_cons.1 h
    rw [addL]
    split
    · rename_i hb
      refine List.pairwise_cons.2 ⟨fun a ha=>?_,addL_sorted h1.2⟩
      rcases addL_mem ha with e|e
      · omega
      · exact h1.1 a e
    · split
      · exact h
      · rename_i h2 h3
        refine List.pairwise_cons.2 ⟨fun a ha=>?_,h⟩
        rcases List.mem_cons.1 ha with e|e
        · omega
        · have:=h1.1 a e;omega
theorem nums_add {l : List Int} {n o : Int} (h : NumsP l o) (h1 : 1 ≤ n) (h2 : n ≤ o) : NumsP (addL l n) o:=⟨fun a ha=>by
  rcases addL_mem ha with e|e
  · omega
  · exact h.all a e,addL_sorted h.sorted⟩
theorem nums_nil (o : Int) : NumsP [] o:=⟨by simp,List.Pairwise.nil⟩
theorem sorted_len {l : List Int} {o : Int} {b : Int} (h : l.Pairwise (· < ·)) (ha : ∀ n ∈ l,b ≤ n ∧ n ≤ o) : (l.length : Int) ≤ max 0 (o - b + 1):=by
  induction l generalizing b with
  | nil=>simp;omega
  | cons a r ih =>
    have h1:=List.pairwise_cons.1 h
    have h2:=ih (b:=a + 1) h1.2 (fun n hn=>⟨by have:=h1.1 n hn;omega,(ha n (by simp [hn])).2⟩)
    have h3:=ha a (by simp)
    simp only [List.length_cons]
    omega
theorem nums_len {l : List Int} {o : Int} (h : NumsP l o) (h5 : o ≤ 5) : l.length ≤ 5:=by
  have:=sorted_len (b:=1) h.sorted h.all
  omega
theorem acks_len {l : List Ack} {o : Int} (h : AcksP l o) : l.length ≤ 60:=by
  have h1 : (l.map (·.index)).Pairwise (· < ·):=by rw [List.pairwise_map];exact h.sorted
  have:=sorted_len (b:=1) (o:=60) h1 (fun n hn=>by obtain ⟨a,ha,rfl⟩:=List.mem_map.1 hn;exact (h.all a ha).1)
  simp at this
  omega
theorem slots_nil : SlotsP []:=⟨by simp,by simp⟩
theorem mgS_or (s t : Slot) : mgS s t = s ∨ mgS s t = t:=by unfold mgS;split <;> simp
theorem mergeL_mem : ∀ {a b : List Slot} {s : Slot},s ∈ mergeL a b → s ∈ a ∨ s ∈ b
  | [],r,s,h=>.inr h
  | x :: l,[],s,h=>.inl h
  | x :: l,t :: r,s,h=>by
    rw [mergeL] at h
    rcases List.mem_cons.1 h with e|e
    · rcases mgS_or x t with h2|h2
      · rw [h2] at e;exact .inl (by simp [e])
      · rw [h2] at e;exact .inr (by simp [e])
    · rcases mergeL_mem e with h2|h2
      · exact .inl (List.mem_cons_of_mem _ h2)
      · exact .inr (List.mem_cons_of_mem _ h2)
theorem slots_merge {a b : List Slot} (h1 : SlotsP a) (h2 : SlotsP b) : SlotsP (mergeL a b):=⟨by rw [mergeL_len];have:=h1.1;have:=h2.1;omega,fun s hs=>by
  rcases mergeL_mem hs with e|e
  · exact h1.2 s e
  · exact h2.2 s e⟩
theorem ackA_idx {n f : Int} : ∀ {l : List Ack} {a : Ack},a ∈ ackA l n f → a.index = n ∨ ∃ b ∈ l,b.index = a.index
  | [],a,h=>by simp [ackA] at h;subst h;exact .inl rfl
  | b :: r,a,h=>by
    rw [ackA] at h
    split at h
    · rcases List.mem_cons.1 h with e|e
      · exact .inr ⟨b,by simp,by rw [e]⟩
      · rcases ackA_idx e with e|⟨c,hc,e⟩
        · exact .inl e
        · exact .inr ⟨c,List.mem_cons_of_mem _ hc,e⟩
    · split at h
      · rcases List.mem_cons.1 h with e|e
        · exact .inr ⟨b,by simp,by rw [e]⟩
        · exact .inr ⟨a,List.mem_cons_of_mem _ e,rfl⟩
      · rcases List.mem_cons.1 h with e|e
        · exact .inl (by rw [e])
        · exact .inr ⟨a,e,rfl⟩
theorem ackA_sorted {n f : Int} : ∀ {l : List Ack},l.Pairwise (fun a b=>a.index < b.index) → (ackA l n f).Pairwise (fun a b=>a.index < b.index)
  | [],_=>by simp [ackA]
  | b :: r,h=>by
    have h1:=List.pairwise_cons.1 h
    rw [ackA]
    split
    · rename_i hb
      refine List.pairwise_cons.2 ⟨fun a ha=>?_,ackA_sorted h1.2⟩
      rcases ackA_idx ha with e|⟨c,hc,e⟩
      · omega
      · have:=h1.1 c hc;omega
    · split
      · exact List.pairwise_cons.2 ⟨fun a ha=>h1.1 a ha,h1.2⟩
      · rename_i h2 h3
        refine List.pairwise_cons.2 ⟨fun a ha=>?_,h⟩
        rcases List.mem_cons.1 ha with e|e
        · subst e;show n < a.index;omega
        · have:=h1.1 a e;show n < a.index;omega
theorem ackA_all {n f o : Int} (hn : 1 ≤ n ∧ n ≤ 60) (hf : 1 ≤ f ∧ f ≤ o) : ∀ {l : List Ack},(∀ a ∈ l,(1 ≤ a.index ∧ a.index ≤ 60) ∧ NumsP a.frm o) → ∀ a ∈ ackA l n f,(1 ≤ a.index ∧ a.index ≤ 60) ∧ NumsP a.frm o
  | [],h,a,ha=>by simp [ackA] at ha;subst ha;exact ⟨hn,nums_add (nums_nil o) hf.1 hf.2⟩
  | b :: r,h,a,ha=>by
    have hb:=h b (by simp)
    have hr : ∀ a ∈ r,(1 ≤ a.index ∧ a.index ≤ 60) ∧ NumsP a.frm o:=fun a ha=>h a (List.mem_cons_of_mem _ ha)
    rw [ackA] at ha
    split at ha
    · rcases List.mem_cons.1 ha with e|e
      · subst e;exact hb
      · exact ackA_all hn hf hr a e
    · split at ha
      · rcases List.mem_cons.1 ha with e|e
        · subst e;exact ⟨hb.1,nums_add hb.2 hf.1 hf.2⟩
        · exact hr a e
      · rcases List.mem_cons.1 ha with e|e
        · subst e;exact ⟨hn,nums_add (nums_nil o) hf.1 hf.2⟩
        · exact h a e
theorem acks_ack {l : List Ack} {n f o : Int} (h : AcksP l o) (hn : 1 ≤ n ∧ n ≤ 60) (hf : 1 ≤ f ∧ f ≤ o) : AcksP (ackA l n f) o:=⟨ackA_all hn hf h.all,ackA_sorted h.sorted⟩
theorem slot_zero : SlotP ⟨0,⟨#[]⟩⟩:=⟨by simp,by simp,by simp;decide,by simp⟩
theorem padL_mem {ds : List Slot} {n : Nat} {s : Slot} (h : s ∈ padL ds n) : s ∈ ds ∨ s = ⟨0,⟨#[]⟩⟩:=by
  rw [padL,List.mem_append] at h
  rcases h with h|h
  · exact .inl h
  · exact .inr (List.eq_of_mem_replicate h)
theorem padL_at {ds : List Slot} {n j : Nat} (hj : j < ds.length) (h2 : j < (padL ds n).length) : (padL ds n)[j] = ds[j]:=by simp [padL,List.getElem_append,hj]
theorem disk_set {p k : Int} {ds : List Slot} {ix : Int} {s : Slot} (h : DiskP p k ds) (h1 : 1 ≤ ix) (h2 : ix ≤ 60) (hs : SlotP s) (hb : s.ballot ≤ p) (h0 : ix ≤ k → s.ballot ≠ 0) : DiskP p k ((padL ds ix.toNat).set (ix - 1).toNat s):=by
  have hl : ((padL ds ix.toNat).set (ix - 1).toNat s).length = max ds.length ix.toNat:=by rw [List.length_set,padL_len]
  have hm : ∀ t ∈ (padL ds ix.toNat).set (ix - 1).toNat s,t = s ∨ t ∈ ds ∨ t = ⟨0,⟨#[]⟩⟩:=fun t ht=>by
    rcases List.mem_or_eq_of_mem_set ht with e|e
    · exact .inr (padL_mem e)
    · exact .inl e
  refine ⟨h.p0,h.p1,⟨by rw [hl];have:=h.slots.1;omega,fun t ht=>?_⟩,h.k0,by rw [hl];have:=h.k1;omega,fun t ht=>?_,fun j hj hk=>?_⟩
  · rcases hm t ht with e|e|e
    · rw [e];exact hs
    · exact h.slots.2 t e
    · rw [e];exact slot_zero
  · rcases hm t ht with e|e|e
    · rw [e];exact hb
    · exact h.le t e
    · rw [e];exact h.p0
  · have hk1:=h.k1
    have hjd : j < ds.length:=by omega
    rw [List.getElem_set]
    split
    · exact h0 (by omega)
    · rw [padL_at hjd];exact h.known j hjd hk
theorem disk_promise {p q k : Int} {ds : List Slot} (h : DiskP p k ds) (hq : p ≤ q) (h1 : q ≤ 1000000) : DiskP q k ds:=⟨by have:=h.p0;omega,h1,h.slots,h.k0,h.k1,fun s hs=>by have:=h.le s hs;omega,h.known⟩
theorem disk_know {p k q : Int} {ds : List Slot} (h : DiskP p k ds) (h0 : 0 ≤ q) (h1 : q ≤ ds.length) (hk : ∀ j (h : j < ds.length),(j : Int) < q → ds[j].ballot ≠ 0) : DiskP p q ds:=⟨h.p0,h.p1,h.slots,h0,h1,h.le,hk⟩
theorem quiet_calm (x : Rcd) : QuietP (calmL x):=⟨rfl,rfl,rfl,rfl,rfl,rfl⟩
theorem acks_nil (o : Int) : AcksP [] o:=⟨by simp,List.Pairwise.nil⟩
theorem vr_calm {x : Rcd} (h : VR x) : VR (calmL x):=⟨h.of1,h.of5,h.n1,h.no,h.safe,h.disk,h.heldLen,h.wishes,h.h0,h.h1,h.held,nums_nil _,slots_nil,acks_nil _,by simp [calmL],by simp [calmL],by simp [calmL],by simp [calmL],fun _ _=>quiet_calm x,fun hu=>⟨quiet_calm x,(h.down hu).2⟩⟩
theorem vr_calmp {x : Rcd} {p : Int} (h : VR x) (h1 : x.dp ≤ p) (h2 : p ≤ 1000000) : VR { calmL x with dp:=p }:=⟨h.of1,h.of5,h.n1,h.no,h.safe,disk_promise h.disk h1 h2,h.heldLen,h.wishes,h.h0,h.h1,h.held,nums_nil _,slots_nil,acks_nil _,by simp [calmL],by simp [calmL],by simp [calmL],by simp [calmL],fun _ _=>⟨rfl,rfl,rfl,rfl,rfl,rfl⟩,fun hu=>⟨⟨rfl,rfl,rfl,rfl,rfl,rfl⟩,(h.down hu).2⟩⟩
theorem vr_hold {x : Rcd} {m : Msg} (h : VR x) (hu : x.up = true) (hm : MsgP { m with frm:=x.number } x.of) : VR (holdL x m):=by
  unfold holdL
  split
  · rename_i hl
    refine { h with heldLen:=?_,held:=?_,quiet:=fun a b=>?_,down:=fun hd=>?_ }
    · simp only [List.length_append,List.length_cons,List.length_nil];omega
    · intro y hy
      rcases List.mem_append.1 hy with e|e
      · exact h.held y e
      · simp at e;subst e;exact ⟨hm,rfl⟩
    · have:=h.quiet a b;exact ⟨this.1,this.2,this.3,this.4,this.5,this.6⟩
    · simp only at hd;rw [hu] at hd;cases hd
  · exact h
theorem vr_dp {x : Rcd} {p : Int} (h : VR x) (h1 : x.dp ≤ p) (h2 : p ≤ 1000000) : VR { x with dp:=p } :=
  { h with disk:=disk_promise h.disk h1 h2,lead:=fun hl=>by have:=h.lead hl;exact ⟨this.1,by have:=this.2;simp only;omega⟩,quiet:=fun a b=>by have:=h.quiet a b;exact ⟨this.1,this.2,this.3,this.4,this.5,this.6⟩,down:=fun hd=>by have:=h.down hd;exact ⟨⟨this.1.1,this.1.2,this.1.3,this.1.4,this.1.5,this.1.6⟩,this.2⟩ }
theorem vr_heard {x : Rcd} {n : Int} (h : VR x) (h0 : 0 ≤ n) (h1 : n ≤ 1000000) (hd : x.up = false → n = 0) : VR { x with heard:=n } :=
  { h with h0:=h0,h1:=h1,quiet:=fun a b=>by have:=h.quiet a b;exact ⟨this.1,this.2,this.3,this.4,this.5,this.6⟩,down:=fun hu=>by have:=h.down hu;exact ⟨⟨this.1.1,this.1.2,this.1.3,this.1.4,this.1.5,this.1.6⟩,this.2.1,this.2.2.1,hd hu⟩ }
theorem vr_follow {x : Rcd} {b : Int} (h : VR x) (h1 : b ≤ 1000000) : VR (followL x b):=by
  have hp:=h.disk.p1
  have h2 : VR { x with dp:=max x.dp b }:=vr_dp h (by omega) (by omega)
  unfold followL
  split
  · exact vr_heard h2 (by omega) (by omega) (fun _=>rfl)
  · exact vr_heard (vr_calm h2) (by omega) (by omega) (fun _=>rfl)
theorem vr_ds {x : Rcd} {k : Int} {ds : List Slot} (h : VR x) (hd : DiskP x.dp k ds) : VR { x with dk:=k,ds:=ds } :=
  { h with disk:=hd,quiet:=fun a b=>by have:=h.quiet a b;exact ⟨this.1,this.2,this.3,this.4,this.5,this.6⟩,down:=fun hd=>by have:=h.down hd;exact ⟨⟨this.1.1,this.1.2,this.1.3,this.1.4,this.1.5,this.1.6⟩,this.2⟩ }
theorem vr_set {x : Rcd} {ix : Int} {s : Slot} (h : VR x) (h1 : 1 ≤ ix) (h2 : ix ≤ 60) (hs : SlotP s) (hb : s.ballot ≤ x.dp) (h0 : ix ≤ x.dk → s.ballot ≠ 0) : VR (setL x ix s):=vr_ds h (disk_set h.disk h1 h2 hs hb h0)
theorem vr_got {x : Rcd} {f : Int} {bs : List Slot} (h : VR x) (ht : x.trying = true) (hf : 1 ≤ f ∧ f ≤ x.of) (hb : SlotsP bs) : VR (gotL x f bs) :=
  { h with yes:=nums_add h.yes hf.1 hf.2,best:=slots_merge h.best hb,leadY:=fun hl=>absurd ⟨hl,ht⟩ h.one,quiet:=(fun a b=>by simp only [gotL] at b;rw [ht] at b;cases b),down:=(fun hd=>by have:=(h.down hd).1.trying;rw [ht] at this;cases this) }
theorem vr_won {x : Rcd} (h : VR x) (ht : x.trying = true) : VR (wonL x):=by
  have hl:=h.lead (.inr ht)
  have hc:=vr_calm h
  exact { hc with one:=by simp [wonL,calmL],lead:=fun _=>hl,tryA:=by simp [wonL,calmL],leadY:=fun _=>⟨rfl,rfl⟩,quiet:=(fun a=>by simp [wonL] at a),down:=(fun hd=>by have:=(h.down hd).1.trying;rw [ht] at this;cases this) }
theorem lay_keep (b : Int) (best : List Slot) : ∀ (n k : Nat) (y : Rcd),∃ ds,layL b best n k y = { y with ds:=ds }
  | 0,k,y=>⟨y.ds,rfl⟩
  | n + 1,k,y=>by
    obtain ⟨ds,h⟩:=lay_keep b best n (k + 1) (setL y ((k : Int) + 1) ⟨b,(rd tSlot best k).text⟩)
    exact ⟨ds,by rw [layL,h];rfl⟩
theorem vr_lay {b : Int} {best : List Slot} (hb : SlotsP best) (hb1 : 1 ≤ b) (hb2 : b ≤ 1000000) : ∀ (n k : Nat) (y : Rcd),k + n ≤ best.length → VR y → b ≤ y.dp → VR (layL b best n k y)
  | 0,k,y,_,h,_=>h
  | n + 1,k,y,hn,h,hy=>by
    have hk : k < best.length:=by omega
    have hs:=hb.2 _ (List.getElem_mem hk)
    have hl:=hb.1
    rw [layL]
    refine vr_lay hb hb1 hb2 n (k + 1) _ (by omega) (vr_set h (by omega) (by omega) ?_ hy (fun _=>?_)) hy
    · rw [rd_at hk];exact ⟨by show 0 ≤ b;omega,hb2,hs.txt,fun e=>by simp only at e;omega⟩
    · simp only;omega
theorem vr_prom {x : Rcd} {f : Int} {bs : List Slot} (h : VR x) (ht : x.trying = true) (hf : 1 ≤ f ∧ f ≤ x.of) (hb : SlotsP bs) : VR (promL x f bs):=by
  have hg:=vr_got h ht hf hb
  unfold promL
  split
  · exact hg
  · have hl:=h.lead (.inr ht)
    have hp:=h.disk.p1
    have hm:=slots_merge h.best hb
    refine (if hk : x.dk.toNat ≤ (mergeL x.best bs).length then ?_ else ?_)
    · exact vr_lay hm hl.1 (by omega) _ _ _ (by omega) (vr_won hg ht) hl.2
    · rw [show (mergeL x.best bs).length - x.dk.toNat = 0 by omega]
      exact vr_won hg ht
theorem advF_in {x : Rcd} (hb : x.ballot ≠ 0) (hd : ∀ j (h : j < x.ds.length),(j : Int) < x.dk → x.ds[j].ballot ≠ 0) (l : List Ack) : ∀ d : Int,0 ≤ d → d ≤ x.ds.length → (∀ j (h : j < x.ds.length),(j : Int) < d → x.ds[j].ballot ≠ 0) → d ≤ l.foldl (advK x) d ∧ l.foldl (advK x) d ≤ x.ds.length ∧ ∀ j (h : j < x.ds.length),(j : Int) < l.foldl (advK x) d → x.ds[j].ballot ≠ 0:=by
  induction l with
  | nil=>intro d h0 h1 h2;exact ⟨Int.le_refl _,h1,h2⟩
  | cons a r ih =>
    intro d h0 h1 h2
    rw [List.foldl_cons]
    have hi:=advK_in (x:=x) (a:=a) h0 h1
    have h3 : d ≤ advK x d a ∧ ∀ j (h : j < x.ds.length),(j : Int) < advK x d a → x.ds[j].ballot ≠ 0:=by
      unfold advK
      split
      · rename_i h
        refine ⟨by omega,fun j hj hk=>?_⟩
        by_cases e : (j : Int) < d
        · exact h2 j hj e
        · have e2:=h.2.2.2
          rw [show a.index - 1 = (j : Int) by omega,rdR_at hj] at e2
          rw [e2];exact hb
      · exact ⟨Int.le_refl _,h2⟩
    obtain ⟨g1,g2,g3⟩:=ih _ hi.1 hi.2 h3.2
    exact ⟨by omega,g2,g3⟩
theorem vr_adv {x : Rcd} (h : VR x) (hl : x.lead = true) : VR (advL x) ∧ x.dk ≤ (advL x).dk:=by
  have hb:=(h.lead (.inl hl)).1
  obtain ⟨g1,g2,g3⟩:=advF_in (x:=x) (by omega) h.disk.known x.acks x.dk h.disk.k0 h.disk.k1 h.disk.known
  exact ⟨vr_ds h (disk_know h.disk (by have:=h.disk.k0;omega) g2 g3),g1⟩
theorem vr_acks {x : Rcd} {ix f : Int} (h : VR x) (hl : x.lead = true) (hi : 1 ≤ ix ∧ ix ≤ 60) (hf : 1 ≤ f ∧ f ≤ x.of) : VR { x with acks:=ackA x.acks ix f } :=
  { h with acks:=acks_ack h.acks hi hf,tryA:=fun ht=>absurd ⟨hl,ht⟩ h.one,quiet:=(fun a=>by simp only at a;rw [hl] at a;cases a),down:=(fun hd=>by have:=(h.down hd).1.lead;rw [hl] at this;cases this) }
theorem vr_ack {x : Rcd} {ix f : Int} (h : VR x) (hl : x.lead = true) (hi : 1 ≤ ix ∧ ix ≤ 60) (hf : 1 ≤ f ∧ f ≤ x.of) : VR (ackL x ix f) ∧ x.dk ≤ (ackL x ix f).dk:=vr_adv (vr_acks h hl hi hf) hl
theorem vr_wish {x : Rcd} {t : ByteArray} (h : VR x) (hu : x.up = true) : VR (wish1 x t):=by
  unfold wish1
  split
  · rename_i hw
    simp only [wishOk,Bool.and_eq_true,decide_eq_true_eq] at hw
    have hn:=(newB_iff (Nat.le_refl _)).1 hw.1.1.2
    rw [List.take_length] at hn
    refine { h with wishes:=⟨by simp only [List.length_append,List.length_cons,List.length_nil];have:=hw.1.2;omega,fun s hs=>?_,?_⟩,quiet:=fun a b=>by have:=h.quiet a b;exact ⟨this.1,this.2,this.3,this.4,this.5,this.6⟩,down:=fun hd=>by simp only at hd;rw [hu] at hd;cases hd }
    · rcases List.mem_append.1 hs with e|e
      · exact h.wishes.all s e
      · simp at e;subst e;have:=hw.1.1.1;omega
    · rw [List.nodup_append]
      refine ⟨h.wishes.nodup,by simp,fun a ha b hb e=>?_⟩
      simp at hb;subst hb;subst e;exact hn ha
  · exact h
end Go.Proofs.YtampmicahnnebaaGreat.Sp
namespace Go.Proofs.YtampmicahnnebaaGreat.Sp
open Go Go.RowKit
set_option maxRecDepth 10000
set_option maxHeartbeats 2000000
variable {w0 W : World} {L : List Asn}
theorem vr_ackAll {b num : Int} {ss : List Slot} (hs : ss.length ≤ 60) : ∀ (n k : Nat) (y : Rcd),k + n ≤ ss.length → VR y → y.lead = true → 1 ≤ num ∧ num ≤ y.of → VR (ackAllL b num ss n k y) ∧ (ackAllL b num ss n k y).lead = true
  | 0,k,y,_,h,hl,_=>⟨h,hl⟩
  | n + 1,k,y,hk,h,hl,hn=>by
    rw [ackAllL]
    split
    · exact vr_ackAll hs n (k + 1) _ (by omega) (vr_ack h hl ⟨by omega,by omega⟩ hn).1 hl hn
    · exact vr_ackAll hs n (k + 1) _ (by omega) h hl hn
theorem vr_layWish {y : Rcd} {w : ByteArray} (h : VR y) (hl : y.lead = true) (hw : w.size ≤ 100) : VR (layWish y w):=by
  unfold layWish
  split
  · rename_i hc
    have hb:=h.lead (.inl hl)
    have hp:=h.disk.p1
    exact vr_set h (by omega) (by omega) ⟨by show 0 ≤ y.ballot;omega,by show y.ballot ≤ 1000000;omega,hw,fun e=>by have : y.ballot = 0:=e;omega⟩ hb.2 (fun _=>by show y.ballot ≠ 0;omega)
  · exact h
theorem layWish_keep (y : Rcd) (w : ByteArray) : (layWish y w).wishes = y.wishes ∧ (layWish y w).lead = y.lead ∧ (layWish y w).of = y.of ∧ (layWish y w).number = y.number ∧ (layWish y w).ballot = y.ballot ∧ (layWish y w).up = y.up ∧ (layWish y w).dk = y.dk:=by
  unfold layWish;split <;> exact ⟨rfl,rfl,rfl,rfl,rfl,rfl,rfl⟩
theorem vr_layAll : ∀ (ws : List ByteArray) (y : Rcd),VR y → y.lead = true → (∀ w ∈ ws,w.size ≤ 100) → VR (ws.foldl layWish y) ∧ (ws.foldl layWish y).lead = true
  | [],y,h,hl,_=>⟨h,hl⟩
  | w :: r,y,h,hl,hw=>by
    rw [List.foldl_cons]
    exact vr_layAll r _ (vr_layWish h hl (hw w (by simp))) (by rw [(layWish_keep y w).2.1];exact hl) (fun v hv=>hw v (List.mem_cons_of_mem _ hv))
theorem vr_lead1 {x : Rcd} (h : VR x) (hl : x.lead = true) : VR (lead1 x) ∧ (lead1 x).lead = true:=by
  obtain ⟨a1,a2⟩:=vr_ackAll (b:=x.ballot) (num:=x.number) h.safe.slots.1 x.ss.length 0 x (by omega) h hl ⟨h.n1,h.no⟩
  exact vr_layAll x.wishes _ a1 a2 (fun w hw=>by have:=h.wishes.all w hw;omega)
theorem ackAll_keep (b num : Int) (ss : List Slot) : ∀ (n k : Nat) (y : Rcd),(ackAllL b num ss n k y).wishes = y.wishes ∧ (ackAllL b num ss n k y).number = y.number ∧ (ackAllL b num ss n k y).of = y.of ∧ (ackAllL b num ss n k y).ballot = y.ballot ∧ (ackAllL b num ss n k y).ss = y.ss ∧ (ackAllL b num ss n k y).lead = y.lead
  | 0,k,y=>⟨rfl,rfl,rfl,rfl,rfl,rfl⟩
  | n + 1,k,y=>by
    rw [ackAllL]
    obtain ⟨a1,a2,a3,a4,a5,a6⟩:=ackAll_keep b num ss n (k + 1) (if (rd tSlot ss k).ballot = b then ackL y ((k : Int) + 1) num else y)
    rw [a1,a2,a3,a4,a5,a6]
    split <;> exact ⟨rfl,rfl,rfl,rfl,rfl,rfl⟩
theorem accOut_len (x : Rcd) : ∀ (n k : Nat) (o : List Msg),(accOut x n k o).length ≤ o.length + n * x.of.toNat
  | 0,k,o=>by simp [accOut]
  | n + 1,k,o=>by
    rw [accOut]
    refine Nat.le_trans (accOut_len x n (k + 1) _) ?_
    have:=othersL_len x.number ⟨3,0,0,x.ballot,(k : Int) + 1,0,(rd tSlot x.ds k).text,[]⟩ x.of.toNat 1 o
    unfold othL
    rw [Nat.add_mul]
    omega
theorem leadS (x : Rcd) (i : AtRcd) {A : Option Addr} {c : Nat} {o : List Msg} (hv : VR x) (hl : x.lead = true) (hu : x.up = true) (ho : o.length ≤ 400) (HM : Mem w0 W (own (tMsg 91) 40 A c o :: (partRcd 91 40 9 3 66 x i ++ L))) : Calls Tryz.prog 28 #[.agg (encRcd x i).toArray,.slice A o.length c] W fun e W'=>∃ j A' c',e = .returned (.tuple #[.agg (encRcd (lead1 x) j).toArray,.slice A' (leadOut (lead1 x) o).length c']) ∧ Mem w0 W' (own (tMsg 91) 40 A' c' (leadOut (lead1 x) o) :: (partRcd 91 40 9 3 66 (lead1 x) j ++ L)):=by
  refine enter Tryz.func28 rfl Tryz.ntmps28 [(0,.agg (encRcd x i).toArray),(1,_)] rfl ⟨rfl,rfl,trivial⟩ ?_
  unfold encRcd
  simp only [boxR,partRcd,List.cons_append,List.nil_append] at HM
  repeat (first|refine Y ?_|(refine qg ?_;clear HM;intro g W1 HM))
  rename_i gr _
  have HMn:=(show Mem w0 _ (boxR 91 40 9 3 66 31 gr x i ++ _) from pk_boxr (HM.pk (A:=own (tMsg 91) 40 A c o))).name
  clear HM
  obtain ⟨R,hR,HM⟩:=HMn
  refine c_cut (σ:=AtRcd) (fun s=>[(1,.slice A o.length c),(2,.pointer (some ⟨gr,0,none⟩)),(4,.pointer (some ⟨g,0,none⟩))]) (fun s W1=>Mem w0 W1 (boxR 91 40 9 3 66 31 gr (ackAllL x.ballot x.number x.ss x.ss.length 0 x) s ++ R)) ?_ ?_
  · refine c_loop (σ:=Nat × Rcd) (fun s=>[(1,.slice A o.length c),(2,.pointer (some ⟨gr,0,none⟩)),(4,.pointer (some ⟨g,0,none⟩)),(6,.int .i64 s.1)]) (fun s W1=>s.1 ≤ x.ss.length ∧ ackAllL x.ballot x.number x.ss (x.ss.length - s.1) s.1 s.2 = ackAllL x.ballot x.number x.ss x.ss.length 0 x ∧ VR s.2 ∧ s.2.lead = true ∧ s.2.ss = x.ss ∧ s.2.ballot = x.ballot ∧ s.2.number = x.number ∧ s.2.of = x.of ∧ ∃ j,Mem w0 W1 (boxR 91 40 9 3 66 31 gr s.2 j ++ R)) (fun s=>x.ss.length - s.1) (0,x) U ⟨Nat.zero_le _,rfl,hv,hl,rfl,rfl,rfl,rfl,i,HM⟩ ?_
    clear HM
    subst hR
    rintro ⟨k,y⟩ W1 ⟨hk,hz,hvy,hly,e1,e2,e3,e4,j,HM⟩
    dsimp only at hk hz hvy hly e1 e2 e3 e4 HM ⊢
    simp only [boxR,partRcd,List.cons_append,List.nil_append] at HM
    have hsl:=hv.safe.slots.1
    have hn1:=hv.n1
    have hno:=hv.no
    have hdk0:=hvy.disk.k0
    have hdk1:=hvy.disk.k1
    have hdl:=hvy.disk.slots.1
    have hal:=acks_len hvy.acks
    have haf : ∀ a ∈ y.acks,a.frm.length ≤ 1000:=fun a ha=>by have:=nums_len (hvy.acks.all a ha).2 hvy.of5;omega
    rw [← e1] at hk hsl
    by_cases hlt : k < y.ss.length
    · by_cases c1 : (rd tSlot y.ss k).ballot = y.ballot
      · have hst : ackAllL x.ballot x.number x.ss (x.ss.length - (k + 1)) (k + 1) (ackL y ((k : Int) + 1) y.number) = ackAllL x.ballot x.number x.ss x.ss.length 0 x:=by
          rw [← hz,show x.ss.length - k = (x.ss.length - (k + 1)) + 1 by rw [← e1];omega,ackAllL,if_pos (by rw [← e1,← e2];exact c1),e3]
        have hva:=(vr_ack hvy hly (ix:=(k : Int) + 1) (f:=y.number) ⟨by omega,by omega⟩ (by rw [e3,e4];exact ⟨hn1,hno⟩)).1
        repeat (first|(refine gR ?_;refine d_start [] [(0,0),(0,1),(0,3),(0,7),(1,2),(0,4),(0,5),(1,6),(1,8),(0,9)] HM (by kernel_rfl) (by kernel_rfl) qq (by kernel_rfl) rfl ?_;intro HQ HS W1 HM1;replace HM:=HM1;clear HM1)|refine Y ?_|(refine qs ?_;clear HM;intro W1 HM)|(refine qf ?_;go_at_call 83;refine (ackS y j ((k : Int) + 1) y.number hdk0 hdk1 (by omega) (by omega) haf (by exact pk_rec HM)).mono ?_;rintro e W1 ⟨j2,rfl,HM1⟩;refine ⟨_,rfl,?_⟩;replace HM:=HM1;clear HM1;simp only [partRcd,List.cons_append,List.nil_append] at HM;simp only [encRcd]))
        exact n_round (k + 1,ackL y ((k : Int) + 1) y.number) U ⟨by rw [← e1];exact hlt,hst,hva,hly,e1,e2,e3,e4,j2,by exact pk_boxr HM⟩ (by dsimp only;rw [← e1];omega)
      · have hst : ackAllL x.ballot x.number x.ss (x.ss.length - (k + 1)) (k + 1) y = ackAllL x.ballot x.number x.ss x.ss.length 0 x:=by
          rw [← hz,show x.ss.length - k = (x.ss.length - (k + 1)) + 1 by rw [← e1];omega,ackAllL,if_neg (by rw [← e1,← e2];exact c1)]
        repeat (first|(refine gR ?_;refine d_start [] [(0,0),(0,1),(0,3),(0,7),(1,2),(0,4),(0,5),(1,6),(1,8),(0,9)] HM (by kernel_rfl) (by kernel_rfl) qq (by kernel_rfl) rfl ?_;intro HQ HS W1 HM1;replace HM:=HM1;clear HM1)|refine Y ?_)
        exact n_round (k + 1,y) U ⟨by rw [← e1];exact hlt,hst,hvy,hly,e1,e2,e3,e4,j,by exact pk_boxr HM⟩ (by dsimp only;rw [← e1];omega)
    · rw [← e1,show y.ss.length - k = 0 by omega,ackAllL] at hz
      rw [e1] at hz
      rw [← hz]
      repeat refine Y ?_
      exact n_mid j U (by exact pk_boxr HM)
  clear HM
  rintro j W1 HM
  obtain ⟨hv1,hl1⟩:=vr_ackAll (b:=x.ballot) (num:=x.number) hv.safe.slots.1 x.ss.length 0 x (by omega) hv hl ⟨hv.n1,hv.no⟩
  obtain ⟨k1,k2,k3,k4,k5,k6⟩:=ackAll_keep x.ballot x.number x.ss x.ss.length 0 x
  have hwx:=hv.wishes
  have hlead1 : lead1 x = x.wishes.foldl layWish (ackAllL x.ballot x.number x.ss x.ss.length 0 x):=rfl
  rw [← k1] at hlead1 hwx
  rw [hlead1]
  obtain ⟨hv2,hl2⟩:=vr_layAll _ _ hv1 hl1 (fun w hw=>by have:=hwx.all w hw;omega)
  clear k1 k2 k3 k4 k5 k6 hv hl hu hlead1
  generalize ackAllL x.ballot x.number x.ss x.ss.length 0 x = y at *
  refine c_seq ?_
  repeat refine Y ?_
  refine c_cut (σ:=AtRcd) (fun s=>[(1,.slice A o.length c),(2,.pointer (some ⟨gr,0,none⟩)),(4,.pointer (some ⟨g,0,none⟩))]) (fun s W1=>Mem w0 W1 (boxR 91 40 9 3 66 31 gr (y.wishes.foldl layWish y) s ++ R)) ?_ ?_
  · refine c_loop (σ:=Nat × Rcd) (fun s=>[(1,.slice A o.length c),(2,.pointer (some ⟨gr,0,none⟩)),(4,.pointer (some ⟨g,0,none⟩)),(7,.int .i64 s.1)]) (fun s W1=>s.1 ≤ y.wishes.length ∧ (y.wishes.drop s.1).foldl layWish s.2 = y.wishes.foldl layWish y ∧ VR s.2 ∧ s.2.lead = true ∧ s.2.wishes = y.wishes ∧ ∃ j,Mem w0 W1 (boxR 91 40 9 3 66 31 gr s.2 j ++ R)) (fun s=>y.wishes.length - s.1) (0,y) U ⟨Nat.zero_le _,rfl,hv1,hl1,rfl,j,HM⟩ ?_
    clear HM
    subst hR
    rintro ⟨k,u⟩ W1 ⟨hk,hz,hvu,hlu,e1,ju,HM⟩
    dsimp only at hk hz hvu hlu e1 HM ⊢
    simp only [boxR,partRcd,List.cons_append,List.nil_append] at HM
    have hwl:=hwx.len
    have hdl:=hvu.disk.slots.1
    rw [← e1] at hk hwl
    by_cases hlt : k < u.wishes.length
    · have hlt2 : k < y.wishes.length:=by rw [← e1];exact hlt
      have e0 : rd tStr u.wishes k = y.wishes[k]:=by rw [rd_at hlt];simp only [e1]
      have hst : (y.wishes.drop (k + 1)).foldl layWish (layWish u (rd tStr u.wishes k)) = y.wishes.foldl layWish y:=by
        rw [← hz,List.drop_eq_getElem_cons hlt2,List.foldl_cons,e0]
      have hws:=(hwx.all _ (List.getElem_mem hlt2)).2
      rw [← e0] at hws
      have hvn:=vr_layWish (w:=rd tStr u.wishes k) hvu hlu hws
      have hkp:=layWish_keep u (rd tStr u.wishes k)
      by_cases c1 : hasB u.ds (rd tStr u.wishes k) = true
      · have e : layWish u (rd tStr u.wishes k) = u:=if_neg (fun h=>by rw [c1] at h;cases h.1)
        rw [e] at hst
        repeat (first|(refine gR ?_;refine d_start [] [(0,0),(0,1),(0,3),(0,5),(1,2),(1,4),(0,6),(1,7),(2,8),(0,9),(0,10),(0,11),(0,12),(1,13),(0,14),(0,15),(0,16)] HM (by kernel_rfl) (by kernel_rfl) qq (by kernel_rfl) rfl ?_;intro HQ HS W1 HM1;replace HM:=HM1;clear HM1)|refine Y ?_|(refine qf ?_;go_at_call 26;obtain ⟨F1,hF1⟩:=HM.own (A:=ju.a1.1);refine (has3_c rfl (rd tStr u.wishes k) (ro_slots hF1) (Mem.start _)).mono ?_;clear hF1;rintro e W1 ⟨rfl,HM1⟩;refine ⟨_,rfl,?_⟩;have HM2:=HM.step HM1.below;clear HM HM1;have HM:=HM2;clear HM2))
        exact n_round (k + 1,u) U ⟨by rw [← e1];exact hlt,hst,hvu,hlu,e1,ju,by exact pk_boxr HM⟩ (by dsimp only;omega)
      simp only [Bool.not_eq_true] at c1
      by_cases c2 : (u.ds.length : Int) < 60
      · have e : layWish u (rd tStr u.wishes k) = setL u ((u.ds.length : Int) + 1) ⟨u.ballot,rd tStr u.wishes k⟩:=if_pos ⟨c1,c2⟩
        rw [e] at hst hvn
        repeat (first|(refine gR ?_;first|(refine d_start [14,15] [(0,1),(0,2),(0,6),(0,8),(0,10),(1,0),(1,3),(0,4),(0,5),(1,7),(1,9),(0,11),(1,12),(2,13),(3,14),(3,15)] HM (by kernel_rfl) (by kernel_rfl) qq (by kernel_rfl) rfl ?_;intro HQ HS W1 HM1;replace HM:=HM1;clear HM1)|(refine d_start [] [(0,0),(0,1),(0,3),(0,5),(1,2),(1,4),(0,6),(1,7),(2,8),(0,9),(0,10),(0,11),(0,12),(1,13),(0,14),(0,15),(0,16)] HM (by kernel_rfl) (by kernel_rfl) qq (by kernel_rfl) rfl ?_;intro HQ HS W1 HM1;replace HM:=HM1;clear HM1))|refine Y ?_|(refine qs ?_;clear HM;intro W1 HM)|(refine qf ?_;first|(go_at_call 26;obtain ⟨F1,hF1⟩:=HM.own (A:=ju.a1.1);refine (has3_c rfl (rd tStr u.wishes k) (ro_slots hF1) (Mem.start _)).mono ?_;clear hF1;rintro e W1 ⟨rfl,HM1⟩;refine ⟨_,rfl,?_⟩;have HM2:=HM.step HM1.below;clear HM HM1;have HM:=HM2;clear HM2)|(go_at_call 82;refine (slotSetS u ju ((u.ds.length : Int) + 1) ⟨u.ballot,rd tStr u.wishes k⟩ (by omega) (by omega) (by omega) (by exact pk_rec HM)).mono ?_;rintro e W1 ⟨j2,rfl,HM1⟩;refine ⟨_,rfl,?_⟩;replace HM:=HM1;clear HM1;simp only [partRcd,List.cons_append,List.nil_append] at HM;simp only [encRcd])))
        exact n_round (k + 1,setL u ((u.ds.length : Int) + 1) ⟨u.ballot,rd tStr u.wishes k⟩) U ⟨by rw [← e1];exact hlt,hst,hvn,hlu,e1,j2,by exact pk_boxr HM⟩ (by dsimp only;omega)
      · have e : layWish u (rd tStr u.wishes k) = u:=if_neg (fun h=>c2 h.2)
        rw [e] at hst
        repeat (first|(refine gR ?_;refine d_start [] [(0,0),(0,1),(0,3),(0,5),(1,2),(1,4),(0,6),(1,7),(2,8),(0,9),(0,10),(0,11),(0,12),(1,13),(0,14),(0,15),(0,16)] HM (by kernel_rfl) (by kernel_rfl) qq (by kernel_rfl) rfl ?_;intro HQ HS W1 HM1;replace HM:=HM1;clear HM1)|refine Y ?_|(refine qf ?_;go_at_call 26;obtain ⟨F1,hF1⟩:=HM.own (A:=ju.a1.1);refine (has3_c rfl (rd tStr u.wishes k) (ro_slots hF1) (Mem.start _)).mono ?_;clear hF1;rintro e W1 ⟨rfl,HM1⟩;refine ⟨_,rfl,?_⟩;have HM2:=HM.step HM1.below;clear HM HM1;have HM:=HM2;clear HM2))
        exact n_round (k + 1,u) U ⟨by rw [← e1];exact hlt,hst,hvu,hlu,e1,ju,by exact pk_boxr HM⟩ (by dsimp only;omega)
    · rw [List.drop_eq_nil_of_le (by rw [← e1];omega),List.foldl_nil] at hz
      rw [← hz]
      repeat refine Y ?_
      exact n_mid ju U (by exact pk_boxr HM)
  clear HM
  subst hR
  rintro j W1 HM
  generalize y.wishes.foldl layWish y = z at *
  have hof : 0 ≤ z.of ∧ z.of ≤ 5:=⟨by have:=hv2.of1;omega,hv2.of5⟩
  have hdk0:=hv2.disk.k0
  have hdk1:=hv2.disk.k1
  have hdl:=hv2.disk.slots.1
  simp only [boxR,partRcd,List.cons_append,List.nil_append] at HM
  refine c_seq ?_
  repeat (first|refine Y ?_|(refine qf ?_;go_at_call 32;refine (othersS z j ⟨5,0,0,z.ballot,0,z.dk,⟨#[]⟩,[]⟩ (o:=o) (A:=A) (c:=c) hof (by omega) (by exact HM.pk)).mono ?_;rintro e W1 ⟨A2,c2,rfl,HM1⟩;refine ⟨_,rfl,?_⟩;replace HM:=HM1;clear HM1))
  have ho2:=othersL_len z.number ⟨5,0,0,z.ballot,0,z.dk,⟨#[]⟩,[]⟩ z.of.toNat 1 o
  have hlo : leadOut z o = accOut z (z.ds.length - z.dk.toNat) z.dk.toNat (othL z o ⟨5,0,0,z.ballot,0,z.dk,⟨#[]⟩,[]⟩):=rfl
  have ho3 : (othL z o ⟨5,0,0,z.ballot,0,z.dk,⟨#[]⟩,[]⟩).length ≤ 1000:=by unfold othL;omega
  rw [hlo]
  generalize htg : accOut z (z.ds.length - z.dk.toNat) z.dk.toNat (othL z o ⟨5,0,0,z.ballot,0,z.dk,⟨#[]⟩,[]⟩) = tg
  have ho4 : othL z o ({ (⟨5,0,0,z.ballot,0,z.dk,⟨#[]⟩,[]⟩ : Msg) with slots:=[] }) = othL z o ⟨5,0,0,z.ballot,0,z.dk,⟨#[]⟩,[]⟩:=rfl
  simp only [ho4] at HM ⊢
  generalize othL z o ⟨5,0,0,z.ballot,0,z.dk,⟨#[]⟩,[]⟩ = o1 at *
  clear hlo ho4 ho2
  have hq : ((z.dk.toNat : Nat) : Int) = z.dk:=by omega
  refine c_loop2 (σ:=Nat × List Msg) (fun s A c=>[(2,.pointer (some ⟨gr,0,none⟩)),(4,.pointer (some ⟨g,0,none⟩)),(1,.slice A s.2.length c),(8,.int .i64 s.1)]) (fun s A c W1=>s.1 ≤ z.ds.length ∧ accOut z (z.ds.length - s.1) s.1 s.2 = tg ∧ s.2.length ≤ 1000 + 5 * s.1 ∧ Mem w0 W1 (own (tMsg 91) 40 A c s.2 :: _)) (fun s=>z.ds.length - s.1) (z.dk.toNat,o1) A2 c2 (by simp only [hq];exact U) ⟨by dsimp only;omega,htg,by dsimp only;omega,HM⟩ ?_
  clear HM
  rintro ⟨k,q⟩ A c W1 ⟨hk,hz,hql,HM⟩
  dsimp only at hk hz hql HM ⊢
  by_cases hlt : k < z.ds.length
  · have hst:=hz
    rw [show z.ds.length - k = (z.ds.length - (k + 1)) + 1 by omega,accOut] at hst
    have hq2:=othersL_len z.number ⟨3,0,0,z.ballot,(k : Int) + 1,0,(rd tSlot z.ds k).text,[]⟩ z.of.toNat 1 q
    have hq3 : (othL z q ⟨3,0,0,z.ballot,(k : Int) + 1,0,(rd tSlot z.ds k).text,[]⟩).length ≤ 1000 + 5 * (k + 1):=by unfold othL;omega
    repeat (first|(refine gR ?_;refine d_start [14] [(0,1),(0,2),(0,4),(0,5),(0,6),(0,7),(0,9),(1,0),(1,3),(1,8),(0,10),(0,11),(1,12),(2,13),(3,14),(0,15)] HM (by kernel_rfl) (by kernel_rfl) qq (by kernel_rfl) rfl ?_;intro HQ HS W1 HM1;replace HM:=HM1;clear HM1)|refine Y ?_|(refine qf ?_;go_at_call 32;refine (othersS z j ⟨3,0,0,z.ballot,(k : Int) + 1,0,(rd tSlot z.ds k).text,[]⟩ (o:=q) (A:=A) (c:=c) hof (by omega) (by exact HM.pk)).mono ?_;rintro e W1 ⟨A2,c2,rfl,HM1⟩;refine ⟨_,rfl,?_⟩;replace HM:=HM1;clear HM1))
    exact n_round2 (k + 1,othL z q ⟨3,0,0,z.ballot,(k : Int) + 1,0,(rd tSlot z.ds k).text,[]⟩) A2 c2 U ⟨hlt,hst,hq3,HM⟩ (by dsimp only;omega)
  · rw [show z.ds.length - k = 0 by omega,accOut] at hz
    subst hz
    repeat (first|refine Y ?_|(refine qs ?_;clear HM;intro W1 HM))
    exact ret_ct HM rfl rfl rfl rfl ⟨j,A,c,rfl,by simp only [boxR,partRcd,List.cons_append,List.nil_append];exact HM.sb⟩
end Go.Proofs.YtampmicahnnebaaGreat.Sp
namespace Go.Proofs.YtampmicahnnebaaGreat.Sp
open Go Go.RowKit
set_option maxRecDepth 10000
structure Kp (x y : Rcd) : Prop where
  number : y.number = x.number
  of : y.of = x.of
  up : y.up = x.up
  dp : x.dp ≤ y.dp
  dk : x.dk ≤ y.dk
theorem Kp.refl (x : Rcd) : Kp x x:=⟨rfl,rfl,rfl,Int.le_refl _,Int.le_refl _⟩
theorem Kp.trans {x y z : Rcd} (h : Kp x y) (g : Kp y z) : Kp x z:=⟨g.1.trans h.1,g.2.trans h.2,g.3.trans h.3,Int.le_trans h.4 g.4,Int.le_trans h.5 g.5⟩
theorem kp_hold (x : Rcd) (m : Msg) : Kp x (holdL x m):=by unfold holdL;split <;> exact ⟨rfl,rfl,rfl,Int.le_refl _,Int.le_refl _⟩
theorem kp_follow (x : Rcd) (b : Int) : Kp x (followL x b):=by
  unfold followL
  split <;> exact ⟨rfl,rfl,rfl,by show x.dp ≤ max x.dp b;omega,Int.le_refl _⟩
theorem follow_dp (x : Rcd) (b : Int) : (followL x b).dp = max x.dp b:=by unfold followL;split <;> rfl
theorem kp_set (x : Rcd) (ix : Int) (s : Slot) : Kp x (setL x ix s):=⟨rfl,rfl,rfl,Int.le_refl _,Int.le_refl _⟩
theorem kp_lay (b : Int) (best : List Slot) (n k : Nat) (y : Rcd) : Kp y (layL b best n k y):=by
  obtain ⟨ds,h⟩:=lay_keep b best n k y
  rw [h]
  exact ⟨rfl,rfl,rfl,Int.le_refl _,Int.le_refl _⟩
theorem kp_prom (x : Rcd) (f : Int) (bs : List Slot) : Kp x (promL x f bs):=by
  unfold promL
  split
  · exact ⟨rfl,rfl,rfl,Int.le_refl _,Int.le_refl _⟩
  · exact Kp.trans (y:=wonL (gotL x f bs)) ⟨rfl,rfl,rfl,Int.le_refl _,Int.le_refl _⟩ (kp_lay ..)
theorem empty_size : (⟨#[]⟩ : ByteArray).size ≤ 100:=by decide
theorem vr_hold0 {x : Rcd} {k fr to b ix kn : Int} {t : ByteArray} (h : VR x) (hu : x.up = true) (h1 : 1 ≤ k ∧ k ≤ 9) (h3 : 1 ≤ to ∧ to ≤ x.of) (h4 : 0 ≤ b ∧ b ≤ 1000000) (h5 : 0 ≤ ix ∧ ix ≤ 60) (h6 : 0 ≤ kn ∧ kn ≤ 60) (h7 : t.size ≤ 100) : VR (holdL x ⟨k,fr,to,b,ix,kn,t,[]⟩):=vr_hold h hu ⟨h1,⟨h.n1,h.no⟩,h3,h4,h5,h6,h7,slots_nil⟩
theorem vr_refuse {x : Rcd} {to : Int} (h : VR x) (hu : x.up = true) (ht : 1 ≤ to ∧ to ≤ x.of) : VR (refuseL x to):=vr_hold0 h hu (by omega) ht ⟨h.disk.p0,h.disk.p1⟩ (by omega) (by omega) empty_size
theorem vr_prep {x : Rcd} {m : Msg} (h : VR x) (hu : x.up = true) (hm : MsgP m x.of) : VR (prepL x m) ∧ Kp x (prepL x m):=by
  unfold prepL
  split
  · exact ⟨vr_refuse h hu hm.frm,kp_hold _ _⟩
  · have hf:=vr_follow (b:=m.ballot) h hm.ballot.2
    have kf:=kp_follow x m.ballot
    refine ⟨vr_hold hf (kf.up.trans hu) ?_,kf.trans (kp_hold _ _)⟩
    have h1:=h.n1
    have h2:=h.no
    exact ⟨(by show (1 : Int) ≤ 2 ∧ (2 : Int) ≤ 9;omega),(by show 1 ≤ (followL x m.ballot).number ∧ (followL x m.ballot).number ≤ _;rw [kf.number,kf.of];exact ⟨h1,h2⟩),(by rw [kf.of];exact hm.frm),hm.ballot,(by show (0 : Int) ≤ 0 ∧ (0 : Int) ≤ 60;omega),(by show (0 : Int) ≤ 0 ∧ (0 : Int) ≤ 60;omega),empty_size,hf.disk.slots⟩
theorem vr_acc {x : Rcd} {m : Msg} (h : VR x) (hu : x.up = true) (hm : MsgP m x.of) : VR (accL x m) ∧ Kp x (accL x m):=by
  unfold accL
  split
  · exact ⟨vr_refuse h hu hm.frm,kp_hold _ _⟩
  · split
    · exact ⟨h,Kp.refl x⟩
    · rename_i c1 c2
      have hf:=vr_follow (b:=m.ballot) h hm.ballot.2
      have kf:=kp_follow x m.ballot
      have hb1:=hm.ballot
      have hx1:=hm.index
      have hdp:=follow_dp x m.ballot
      have ha : VR (acc1 (followL x m.ballot) m) ∧ Kp (followL x m.ballot) (acc1 (followL x m.ballot) m):=by
        unfold acc1
        split
        · exact ⟨vr_set hf (by omega) (by omega) ⟨hb1.1,hb1.2,hm.text,fun e=>by simp only at e;omega⟩ (by rw [hdp];show m.ballot ≤ _;omega) (fun _=>by show m.ballot ≠ 0;omega),kp_set _ _ _⟩
        · exact ⟨hf,Kp.refl _⟩
      have ka:=kf.trans ha.2
      exact ⟨vr_hold0 ha.1 (ka.up.trans hu) (by omega) (by rw [ka.of];exact hm.frm) hb1 hx1 (by omega) empty_size,ka.trans (kp_hold _ _)⟩
theorem know_in {ds : List Slot} {b kn : Int} (hb : b ≠ 0) : ∀ (n : Nat) (d : Int),0 ≤ d → d ≤ ds.length → (∀ j (h : j < ds.length),(j : Int) < d → ds[j].ballot ≠ 0) → d ≤ knowL ds b kn n d ∧ knowL ds b kn n d ≤ ds.length ∧ ∀ j (h : j < ds.length),(j : Int) < knowL ds b kn n d → ds[j].ballot ≠ 0
  | 0,d,h0,h1,h2=>⟨Int.le_refl _,h1,h2⟩
  | n + 1,d,h0,h1,h2=>by
    rw [knowL]
    split
    · rename_i hc
      obtain ⟨g1,g2,g3⟩:=know_in (ds:=ds) (b:=b) (kn:=kn) hb n (d + 1) (by omega) (by omega) (fun j hj hk=>by
        by_cases e : (j : Int) < d
        · exact h2 j hj e
        · have e2:=hc.2.2
          rw [show d = (j : Int) by omega,rd_at hj] at e2
          rw [e2];exact hb)
      exact ⟨by omega,g2,g3⟩
    · exact ⟨Int.le_refl _,h1,h2⟩
theorem vr_wished {to : Int} : ∀ (l : List ByteArray) (y : Rcd),VR y → y.up = true → (1 ≤ to ∧ to ≤ y.of) → (∀ w ∈ l,w.size ≤ 100) → VR (wishedL to l y) ∧ Kp y (wishedL to l y)
  | [],y,h,_,_,_=>⟨h,Kp.refl y⟩
  | w :: r,y,h,hu,ht,hw=>by
    have k1:=kp_hold y ⟨8,0,to,0,0,0,w,[]⟩
    have h1 : VR (holdL y ⟨8,0,to,0,0,0,w,[]⟩):=vr_hold0 h hu (by omega) ht (by omega) (by omega) (by omega) (hw w (by simp))
    obtain ⟨a,b⟩:=vr_wished r _ h1 (k1.up.trans hu) (by rw [k1.of];exact ht) (fun v hv=>hw v (List.mem_cons_of_mem _ hv))
    exact ⟨a,k1.trans b⟩
theorem vr_beat {x : Rcd} {m : Msg} (h : VR x) (hu : x.up = true) (hm : MsgP m x.of) : VR (beatL x m) ∧ Kp x (beatL x m):=by
  unfold beatL
  split
  · exact ⟨h,Kp.refl x⟩
  · rename_i c1
    have hf:=vr_follow (b:=m.ballot) h hm.ballot.2
    have kf:=kp_follow x m.ballot
    have hk:=hm.known
    obtain ⟨g1,g2,g3⟩:=know_in (ds:=(followL x m.ballot).ds) (b:=m.ballot) (kn:=m.known) (by omega) (followL x m.ballot).ds.length (followL x m.ballot).dk hf.disk.k0 hf.disk.k1 hf.disk.known
    have h1 : VR (beat1 (followL x m.ballot) m):=vr_ds hf (disk_know hf.disk (by have:=hf.disk.k0;omega) g2 g3)
    have k1 : Kp x (beat1 (followL x m.ballot) m):=kf.trans ⟨rfl,rfl,rfl,Int.le_refl _,g1⟩
    have h2 : VR (beat2 (beat1 (followL x m.ballot) m) m) ∧ Kp (beat1 (followL x m.ballot) m) (beat2 (beat1 (followL x m.ballot) m) m):=by
      unfold beat2
      split
      · rename_i c2
        have:=h1.disk.k0
        exact ⟨vr_hold0 h1 (k1.up.trans hu) (by omega) (by rw [k1.of];exact hm.frm) hm.ballot (by omega) (by omega) empty_size,kp_hold _ _⟩
      · exact ⟨h1,Kp.refl _⟩
    have k2:=k1.trans h2.2
    obtain ⟨a,b⟩:=vr_wished (to:=m.frm) x.wishes _ h2.1 (k2.up.trans hu) (by rw [k2.of];exact hm.frm) (fun w hw=>by have:=h.wishes.all w hw;omega)
    exact ⟨a,k2.trans b⟩
theorem vr_cho {x : Rcd} {m : Msg} (h : VR x) (hm : MsgP m x.of) : VR (choL x m) ∧ Kp x (choL x m):=by
  unfold choL
  split
  · rename_i c
    have hk0:=h.disk.k0
    have hk1:=h.disk.k1
    have hi:=hm.index
    have hd:=disk_set (k:=x.dk) (ix:=m.index) (s:=⟨m.ballot,m.text⟩) h.disk (by omega) (by omega) ⟨hm.ballot.1,hm.ballot.2,hm.text,fun e=>by simp only at e;omega⟩ c.2.2 (fun _=>by show m.ballot ≠ 0;omega)
    have hd' : DiskP x.dp m.index ((padL x.ds m.index.toNat).set (m.index - 1).toNat ⟨m.ballot,m.text⟩):=disk_know hd (by omega) (by rw [List.length_set,padL_len];omega) (fun j hj hk=>by
      by_cases e : (j : Int) < x.dk
      · exact hd.known j hj e
      · rw [List.getElem_set,if_pos (by omega)]
        show m.ballot ≠ 0
        omega)
    exact ⟨vr_ds (x:=x) h hd',⟨rfl,rfl,rfl,Int.le_refl _,by show x.dk ≤ m.index;omega⟩⟩
  · exact ⟨h,Kp.refl x⟩
theorem vr_need {to : Int} : ∀ (n : Nat) (i : Int) (y : Rcd),VR y → y.up = true → y.lead = true → 1 ≤ i → (1 ≤ to ∧ to ≤ y.of) → VR (needL to n i y) ∧ Kp y (needL to n i y)
  | 0,i,y,h,_,_,_,_=>⟨h,Kp.refl y⟩
  | n + 1,i,y,h,hu,hl,hi,ht=>by
    rw [needL]
    split
    · rename_i c
      have hb:=h.lead (.inl hl)
      have hp:=h.disk.p1
      have hd:=h.disk.slots.1
      have hk:=h.disk.k1
      have htx : (rd tSlot y.ds (i - 1)).text.size ≤ 100:=by
        have hj : (i - 1).toNat < y.ds.length:=by omega
        have:=(h.disk.slots.2 _ (List.getElem_mem hj)).txt
        rw [show i - 1 = (((i - 1).toNat : Nat) : Int) by omega,rd_at hj]
        exact this
      have k1:=kp_hold y ⟨6,0,to,y.ballot,i,0,(rd tSlot y.ds (i - 1)).text,[]⟩
      have h1 : VR (holdL y ⟨6,0,to,y.ballot,i,0,(rd tSlot y.ds (i - 1)).text,[]⟩):=vr_hold0 h hu (by omega) ht (by omega) (by omega) (by omega) htx
      obtain ⟨a,b⟩:=vr_need n (i + 1) _ h1 (k1.up.trans hu) (by unfold holdL;split <;> exact hl) (by omega) (by rw [k1.of];exact ht)
      exact ⟨a,k1.trans b⟩
    · exact ⟨h,Kp.refl y⟩
theorem vr_ref {x : Rcd} {m : Msg} (h : VR x) (hm : MsgP m x.of) : VR (refL x m) ∧ Kp x (refL x m):=by
  unfold refL
  split
  · have:=h.disk.p1
    have:=hm.ballot
    exact ⟨vr_calmp h (by omega) (by omega),⟨rfl,rfl,rfl,by show x.dp ≤ max x.dp m.ballot;omega,Int.le_refl _⟩⟩
  · exact ⟨h,Kp.refl x⟩
theorem kp_wish (x : Rcd) (t : ByteArray) : Kp x (wish1 x t):=by unfold wish1;split <;> exact ⟨rfl,rfl,rfl,Int.le_refl _,Int.le_refl _⟩
theorem vr_take {x : Rcd} {m : Msg} (h : VR x) (hu : x.up = true) (hm : MsgP m x.of) : VR (takeL x m) ∧ Kp x (takeL x m):=by
  unfold takeL
  repeat' split
  · exact vr_prep h hu hm
  · rename_i c;exact ⟨vr_prom h c.1 hm.frm hm.slots,kp_prom _ _ _⟩
  · exact ⟨h,Kp.refl x⟩
  · exact vr_acc h hu hm
  · rename_i c
    have hi:=hm.index
    have:=vr_ack (ix:=m.index) (f:=m.frm) h c.1 (by omega) hm.frm
    exact ⟨this.1,rfl,rfl,rfl,Int.le_refl _,this.2⟩
  · exact ⟨h,Kp.refl x⟩
  · exact ⟨vr_refuse h hu hm.frm,kp_hold _ _⟩
  · exact vr_beat h hu hm
  · exact vr_cho h hm
  · rename_i c;exact vr_need 5 m.index x h hu c.1 (by omega) hm.frm
  · exact ⟨h,Kp.refl x⟩
  · exact ⟨vr_wish h hu,kp_wish _ _⟩
  · exact vr_ref h hm
  · exact ⟨h,Kp.refl x⟩
theorem vr_recTake {x : Rcd} {m : Msg} (h : validB x = true) : VR (recTakeL x m) ∧ Kp x (recTakeL x m):=by
  unfold recTakeL
  rw [if_pos h]
  split
  · rename_i c;exact vr_take (validB_iff.1 h) c.1 (msgB_iff.1 c.2.1)
  · exact ⟨validB_iff.1 h,Kp.refl x⟩
end Go.Proofs.YtampmicahnnebaaGreat.Sp
namespace Go.Proofs.YtampmicahnnebaaGreat.Sp
open Go Go.RowKit
set_option maxRecDepth 10000
theorem vr_tick1 {x : Rcd} (h : VR x) (hu : x.up = true) : VR (tick1 x) ∧ Kp x (tick1 x):=by
  have h0:=h.h0
  have h1:=h.h1
  refine ⟨{ h with safe:=h.disk,heldLen:=by simp [tick1],wishes:=⟨Nat.le_trans (List.length_filter_le _ _) h.wishes.len,fun s hs=>h.wishes.all s (List.mem_filter.1 hs).1,h.wishes.nodup.filter _⟩,h0:=?_,h1:=?_,held:=by simp [tick1],quiet:=fun a b=>?_,down:=fun hd=>?_ },rfl,rfl,rfl,Int.le_refl _,Int.le_refl _⟩
  · show 0 ≤ (if x.heard < 1000000 then x.heard + 1 else x.heard);split <;> omega
  · show (if x.heard < 1000000 then x.heard + 1 else x.heard) ≤ 1000000;split <;> omega
  · have:=h.quiet a b;exact ⟨this.1,this.2,this.3,this.4,this.5,this.6⟩
  · have : x.up = false:=hd;rw [hu] at this;cases this
theorem vr_tick2 {x : Rcd} (h : VR x) : VR (tick2 x) ∧ Kp x (tick2 x):=by
  unfold tick2
  split
  · rename_i c;exact ⟨vr_prom h c.1 ⟨h.n1,h.no⟩ h.disk.slots,kp_prom _ _ _⟩
  · exact ⟨h,Kp.refl x⟩
theorem nextL_range {a n o : Int} : 0 ≤ nextL a n o ∧ nextL a n o ≤ 1000000 ∧ (0 < nextL a n o → a < nextL a n o):=by
  unfold nextL
  split
  · rename_i c
    obtain ⟨N,hN⟩ : ∃ N,N = (if a.tdiv o * o + n ≤ a then a.tdiv o * o + n + o else a.tdiv o * o + n):=⟨_,rfl⟩
    rw [← hN]
    obtain ⟨h1,_,_,_⟩:=next_first c.1 c.2.1 c.2.2.1 hN
    clear hN
    split
    · omega
    · rename_i c2;exact ⟨by omega,by omega,fun _=>h1⟩
  · omega
theorem othersL_all2 {num : Int} {m : Msg} {p : Msg → Prop} : ∀ (n : Nat) (i : Int) (o : List Msg),(∀ k : Int,i ≤ k → k < i + n → p { m with frm:=num,to:=k }) → (∀ y ∈ o,p y) → ∀ y ∈ othersL num m n i o,p y
  | 0,_,o,_,ho=>ho
  | n + 1,i,o,h,ho=>by
    rw [othersL]
    refine othersL_all2 n (i + 1) _ (fun k h1 h2=>h k (by omega) (by omega)) ?_
    split
    · exact ho
    · intro y hy
      rcases List.mem_append.1 hy with e|e
      · exact ho y e
      · simp only [List.mem_singleton] at e
        rw [e];exact h i (by omega) (by omega)
theorem oth_ok {x : Rcd} {m : Msg} {o : List Msg} (h : VR x) (hm : ∀ k : Int,1 ≤ k → k ≤ x.of → MsgP { m with frm:=x.number,to:=k } x.of) (ho : ∀ y ∈ o,MsgP y x.of ∧ y.frm = x.number) : ∀ y ∈ othL x o m,MsgP y x.of ∧ y.frm = x.number :=
  othersL_all2 (p:=fun y=>MsgP y x.of ∧ y.frm = x.number) _ _ _ (fun k h1 h2=>⟨hm k h1 (by have:=h.of1;omega),rfl⟩) ho
theorem oth_ok0 {x : Rcd} {k b ix kn : Int} {t : ByteArray} {o : List Msg} (h : VR x) (h1 : 1 ≤ k ∧ k ≤ 9) (h4 : 0 ≤ b ∧ b ≤ 1000000) (h5 : 0 ≤ ix ∧ ix ≤ 60) (h6 : 0 ≤ kn ∧ kn ≤ 60) (h7 : t.size ≤ 100) (ho : ∀ y ∈ o,MsgP y x.of ∧ y.frm = x.number) : ∀ y ∈ othL x o ⟨k,0,0,b,ix,kn,t,[]⟩,MsgP y x.of ∧ y.frm = x.number:=oth_ok h (fun q q1 q2=>⟨h1,⟨h.n1,h.no⟩,⟨q1,q2⟩,h4,h5,h6,h7,slots_nil⟩) ho
theorem vr_holdAll : ∀ (l : List Msg) (y : Rcd),VR y → y.up = true → (∀ m ∈ l,MsgP { m with frm:=y.number } y.of) → VR (holdAll l y) ∧ Kp y (holdAll l y)
  | [],y,h,_,_=>⟨h,Kp.refl y⟩
  | m :: r,y,h,hu,hl=>by
    have k1:=kp_hold y m
    have h1 : VR (holdL y m):=vr_hold h hu (hl m (by simp))
    obtain ⟨a,b⟩:=vr_holdAll r _ h1 (k1.up.trans hu) (fun q hq=>by rw [k1.number,k1.of];exact hl q (List.mem_cons_of_mem _ hq))
    exact ⟨a,k1.trans b⟩
theorem vr_try {x : Rcd} {b : Int} (h : VR x) (hu : x.up = true) (h0 : 0 < b) (h1 : b ≤ 1000000) (h2 : x.dp < b) : VR { calmL x with heard:=0,dp:=b,ballot:=b,trying:=true }:=by
  have hc:=vr_calmp (p:=b) h (by omega) h1
  exact { hc with h0:=(by show (0 : Int) ≤ 0;omega),h1:=(by show (0 : Int) ≤ 1000000;omega),one:=(by simp [calmL]),lead:=(fun _=>⟨by show 1 ≤ b;omega,Int.le_refl b⟩),tryA:=(fun _=>rfl),leadY:=(by simp [calmL]),quiet:=(fun _ hq=>by cases hq),down:=(fun hd=>by have : x.up = false:=hd;rw [hu] at this;cases this) }
theorem try_ok {x : Rcd} {b : Int} (h : VR x) (h0 : 0 < b) (h1 : b ≤ 1000000) : ∀ y ∈ othL x [] ⟨1,0,0,b,0,0,⟨#[]⟩,[]⟩,MsgP y x.of ∧ y.frm = x.number:=oth_ok0 h (by omega) (by omega) (by omega) (by omega) empty_size (by simp)
theorem vr_tick3 {x : Rcd} (h : VR x) (hu : x.up = true) : VR (tick3 x) ∧ Kp x (tick3 x):=by
  unfold tick3
  split
  · split
    · rename_i c
      obtain ⟨g1,g2,g3⟩:=nextL_range (a:=x.dp) (n:=x.number) (o:=x.of)
      have h1:=vr_try h hu c g2 (g3 c)
      have h2:=try_ok h1 c g2
      unfold tick4
      obtain ⟨a,b⟩:=vr_holdAll _ _ h1 hu (fun m hm=>by
        obtain ⟨q1,q2⟩:=h2 m hm
        have : ({ m with frm:=x.number } : Msg) = m:=by
          have : x.number = m.frm:=q2.symm
          rw [this]
        rw [show ({ calmL x with heard:=0,dp:=nextL x.dp x.number x.of,ballot:=nextL x.dp x.number x.of,trying:=true } : Rcd).number = x.number from rfl,this]
        exact q1)
      exact ⟨a,Kp.trans (y:={ calmL x with heard:=0,dp:=nextL x.dp x.number x.of,ballot:=nextL x.dp x.number x.of,trying:=true }) ⟨rfl,rfl,rfl,by have:=g3 c;show x.dp ≤ nextL x.dp x.number x.of;omega,Int.le_refl _⟩ b⟩
    · exact ⟨vr_heard (vr_calm h) (by omega) (by omega) (fun _=>rfl),rfl,rfl,rfl,Int.le_refl _,Int.le_refl _⟩
  · exact ⟨h,Kp.refl x⟩
theorem kp_ackAll {b num : Int} {ss : List Slot} (hs : ss.length ≤ 60) : ∀ (n k : Nat) (y : Rcd),k + n ≤ ss.length → VR y → y.lead = true → 1 ≤ num ∧ num ≤ y.of → Kp y (ackAllL b num ss n k y)
  | 0,k,y,_,h,hl,_=>Kp.refl y
  | n + 1,k,y,hk,h,hl,hn=>by
    rw [ackAllL]
    split
    · have ha:=vr_ack (ix:=(k : Int) + 1) (f:=num) h hl ⟨by omega,by omega⟩ hn
      exact Kp.trans (y:=ackL y ((k : Int) + 1) num) ⟨rfl,rfl,rfl,Int.le_refl _,ha.2⟩ (kp_ackAll hs n (k + 1) _ (by omega) ha.1 hl hn)
    · exact kp_ackAll hs n (k + 1) _ (by omega) h hl hn
theorem layWish_dp (y : Rcd) (w : ByteArray) : Kp y (layWish y w):=by
  unfold layWish;split <;> exact ⟨rfl,rfl,rfl,Int.le_refl _,Int.le_refl _⟩
theorem kp_layAll : ∀ (ws : List ByteArray) (y : Rcd),Kp y (ws.foldl layWish y)
  | [],y=>Kp.refl y
  | w :: r,y=>by rw [List.foldl_cons];exact (layWish_dp y w).trans (kp_layAll r _)
theorem kp_lead1 {x : Rcd} (h : VR x) (hl : x.lead = true) : Kp x (lead1 x):=(kp_ackAll h.safe.slots.1 x.ss.length 0 x (by omega) h hl ⟨h.n1,h.no⟩).trans (kp_layAll _ _)
theorem accOut_ok {x : Rcd} (h : VR x) (hl : x.lead = true) : ∀ (n k : Nat) (o : List Msg),k + n ≤ x.ds.length → (∀ y ∈ o,MsgP y x.of ∧ y.frm = x.number) → ∀ y ∈ accOut x n k o,MsgP y x.of ∧ y.frm = x.number
  | 0,_,o,_,ho=>ho
  | n + 1,k,o,hk,ho=>by
    rw [accOut]
    have hb:=h.lead (.inl hl)
    have hp:=h.disk.p1
    have hd:=h.disk.slots.1
    have hkl : k < x.ds.length:=by omega
    have ht:=(h.disk.slots.2 _ (List.getElem_mem hkl)).txt
    exact accOut_ok h hl n (k + 1) _ (by omega) (oth_ok0 h (by omega) (by omega) (by omega) (by omega) (by rw [rd_at hkl];exact ht) ho)
theorem leadOut_ok {x : Rcd} (h : VR x) (hl : x.lead = true) {o : List Msg} (ho : ∀ y ∈ o,MsgP y x.of ∧ y.frm = x.number) : ∀ y ∈ leadOut x o,MsgP y x.of ∧ y.frm = x.number:=by
  have hb:=h.lead (.inl hl)
  have hp:=h.disk.p1
  have hd:=h.disk.slots.1
  have h0:=h.disk.k0
  have h1:=h.disk.k1
  exact accOut_ok h hl _ _ _ (by omega) (oth_ok0 h (by omega) (by omega) (by omega) (by omega) empty_size ho)
theorem vr_tick {x : Rcd} (h : VR x) (hu : x.up = true) : VR (tickL x) ∧ Kp x (tickL x) ∧ ∀ y ∈ tickOut x,MsgP y x.of ∧ y.frm = x.number:=by
  obtain ⟨a1,k1⟩:=vr_tick1 h hu
  obtain ⟨a2,k2⟩:=vr_tick2 a1
  have k12:=k1.trans k2
  unfold tickL tickOut
  split
  · rename_i c
    obtain ⟨a3,c3⟩:=vr_lead1 a2 c
    have k3:=k12.trans (kp_lead1 a2 c)
    refine ⟨a3,k3,?_⟩
    have:=leadOut_ok a3 c3 (o:=x.held) (by rw [k3.of,k3.number];exact h.held)
    rw [k3.of,k3.number] at this
    exact this
  · obtain ⟨a3,k3⟩:=vr_tick3 a2 (k12.up.trans hu)
    exact ⟨a3,k12.trans k3,h.held⟩
theorem vr_recTick {x : Rcd} (h : validB x = true) : VR (recTickL x) ∧ Kp x (recTickL x) ∧ ∀ y ∈ recTickO x,MsgP y x.of ∧ y.frm = x.number:=by
  unfold recTickL recTickO
  rw [if_pos h,if_pos h]
  by_cases hu : x.up = true
  · rw [if_pos hu,if_pos hu];exact vr_tick (validB_iff.1 h) hu
  · rw [if_neg hu,if_neg hu];exact ⟨validB_iff.1 h,Kp.refl x,by simp⟩
end Go.Proofs.YtampmicahnnebaaGreat.Sp
namespace Go.Proofs.YtampmicahnnebaaGreat.Sp
open Go Go.RowKit
set_option maxRecDepth 10000
set_option maxHeartbeats 4000000
variable {w0 W : World} {L : List Asn}
theorem promLong (x : Rcd) (i : AtRcd) (f : Int) {b : Bool} {B : Option Addr} {d : Nat} {bs : List Slot} (hb : ∀ W',Mem w0 W' (own tSlot 91 i.a1.1 i.a1.2 x.ds :: L) → RoRow (rSlot b) W' B bs) (h0 : 0 ≤ x.dk) (h1 : x.yes.length ≤ 1048575) (h2 : x.best.length ≤ 1048576) (h3 : bs.length ≤ 1048576) (h4 : x.ds.length ≤ 1048576) (hs : ¬ 2 * ((addL x.yes f).length : Int) ≤ x.of) (HM : Mem w0 W (partRcd 91 40 9 3 66 x i ++ L)) : Calls Tryz.prog 27 #[.agg (encRcd x i).toArray,.int .i64 f,.slice B bs.length d] W fun e W'=>∃ j,e = .returned (.agg (encRcd (promL x f bs) j).toArray) ∧ Mem w0 W' (partRcd 91 40 9 3 66 (promL x f bs) j ++ L):=by
  refine enter Tryz.func27 rfl Tryz.ntmps27 [(0,.agg (encRcd x i).toArray),(1,_),(2,_)] rfl ⟨rfl,rfl,rfl,trivial⟩ ?_
  unfold encRcd
  have hal:=addL_len x.yes f
  simp only [partRcd,List.cons_append,List.nil_append] at HM
  have hml:=mergeL_len x.best bs
  repeat (first|refine Y ?_|(refine qs ?_;clear HM;intro W1 HM)|(refine qf ?_;first|(go_at_call 80;refine (addS (xs:=x.yes) (A:=i.a4.1) (c:=i.a4.2) f (by omega) (by exact HM.pk)).mono ?_;rintro e2 W2 ⟨A2,c2,rfl,HM1⟩;refine ⟨_,rfl,?_⟩;replace HM:=HM1;clear HM1)|(go_at_call 81;obtain ⟨F1,hF1⟩:=HM.own (A:=i.a5.1);have hbs:=hb _ (by exact HM.sb);refine (recMergeS (ro_slots hF1) hbs h2 h3 (Mem.start _)).mono ?_;clear hF1 hbs;rintro e W1 ⟨A3,c3,rfl,HM1⟩;refine ⟨_,rfl,?_⟩;replace HM:=HM.join HM1;clear HM1;simp only [List.cons_append,List.nil_append] at HM)|(go_at_call 31;refine (calmSk { x with yes:=addL x.yes f,best:=mergeL x.best bs } ⟨i.a0,i.a1,i.a2,i.a3,(A2,c2),(A3,c3),i.a6⟩ (by exact pk_rec HM)).mono ?_;rintro e W1 ⟨j,rfl,HM1⟩;refine ⟨_,rfl,?_⟩;replace HM:=HM1;clear HM1;simp only [gotL,calmL,partRcd,List.cons_append,List.nil_append] at HM;simp only [gotL,calmL,encRcd]))|(refine qg ?_;clear HM;intro g W1 HM))
  have hq : ((x.dk.toNat : Nat) : Int) = x.dk:=by omega
  rename_i gr _ _ _ _ _ _ _ _
  have HM0 : Mem w0 _ (boxR 91 40 9 3 66 31 gr (wonL (gotL x f bs)) j ++ _):=pk_boxr (x:={ x with lead:=true,trying:=false,ballot:=x.ballot,yes:=[],best:=[],acks:=[] }) (i:=j) (HM.pk (A:=own tSlot 91 A3 c3 (mergeL x.best bs)))
  clear HM
  have ep : promL x f bs = layL x.ballot (mergeL x.best bs) ((mergeL x.best bs).length - x.dk.toNat) x.dk.toNat (wonL (gotL x f bs)):=if_neg hs
  rw [ep]
  generalize htg : layL x.ballot (mergeL x.best bs) ((mergeL x.best bs).length - x.dk.toNat) x.dk.toNat (wonL (gotL x f bs)) = tg
  have hbl : (mergeL x.best bs).length ≤ 1048576:=by omega
  have hy0 : (wonL (gotL x f bs)).ds.length ≤ 1048576:=h4
  generalize wonL (gotL x f bs) = y0 at HM0 htg hy0
  generalize mergeL x.best bs = best at *
  refine c_loop (σ:=Nat × Rcd) (fun s=>[(3,.pointer (some ⟨gr,0,none⟩)),(6,.pointer (some ⟨g,0,none⟩)),(7,.int .i64 x.ballot),(8,.slice A3 best.length c3),(9,.int .i64 s.1)]) (fun s W1=>layL x.ballot best (best.length - s.1) s.1 s.2 = tg ∧ s.2.ds.length ≤ 1048576 ∧ ∃ j,Mem w0 W1 (boxR 91 40 9 3 66 31 gr s.2 j ++ (own tSlot 91 A3 c3 best :: _))) (fun s=>best.length - s.1) (x.dk.toNat,y0) (by simp only [hq];exact U) ⟨htg,hy0,j,HM0⟩ ?_
  clear HM0
  rintro ⟨k,y⟩ W1 ⟨hl,hy,j,HM⟩
  dsimp only at hl hy HM ⊢
  simp only [boxR,partRcd,List.cons_append,List.nil_append] at HM
  by_cases hlt : k < best.length
  · have hst : layL x.ballot best (best.length - (k + 1)) (k + 1) (setL y ((k : Int) + 1) ⟨x.ballot,(rd tSlot best k).text⟩) = tg:=by
      rw [← hl,show best.length - k = (best.length - (k + 1)) + 1 by omega];rfl
    have hds:=setL_ds y ((k : Int) + 1) ⟨x.ballot,(rd tSlot best k).text⟩
    repeat (first|(refine gR ?_;refine d_start [10,11] [(0,1),(0,2),(0,3),(0,4),(0,5),(0,6),(0,7),(1,0),(1,8),(2,9),(3,10),(3,11)] HM (by kernel_rfl) (by kernel_rfl) qq (by kernel_rfl) rfl ?_;intro HQ HS W1 HM1;replace HM:=HM1;clear HM1)|refine Y ?_|(refine qs ?_;clear HM;intro W1 HM)|(refine qf ?_;go_at_call 82;refine (slotSetS y j ((k : Int) + 1) ⟨x.ballot,(rd tSlot best k).text⟩ (by omega) (by omega) hy (by exact pk_rec HM)).mono ?_;rintro e W1 ⟨j2,rfl,HM1⟩;refine ⟨_,rfl,?_⟩;replace HM:=HM1;clear HM1;simp only [partRcd,List.cons_append,List.nil_append] at HM;simp only [encRcd]))
    exact n_round (k + 1,setL y ((k : Int) + 1) ⟨x.ballot,(rd tSlot best k).text⟩) U ⟨hst,by rw [hds];omega,j2,by exact pk_boxr HM⟩ (by dsimp only;omega)
  · rw [show best.length - k = 0 by omega] at hl
    subst hl
    repeat (first|refine Y ?_|(refine qs ?_;clear HM;intro W1 HM))
    exact ret_cell HM rfl rfl rfl ⟨j,rfl,by simp only [layL,partRcd,List.cons_append,List.nil_append];exact HM.sb⟩
theorem promS (x : Rcd) (i : AtRcd) (f : Int) {b : Bool} {B : Option Addr} {d : Nat} {bs : List Slot} (hb : ∀ W',Mem w0 W' (own tSlot 91 i.a1.1 i.a1.2 x.ds :: L) → RoRow (rSlot b) W' B bs) (h0 : 0 ≤ x.dk) (h1 : x.yes.length ≤ 1048575) (h2 : x.best.length ≤ 1048576) (h3 : bs.length ≤ 1048576) (h4 : x.ds.length ≤ 1048576) (HM : Mem w0 W (partRcd 91 40 9 3 66 x i ++ L)) : Calls Tryz.prog 27 #[.agg (encRcd x i).toArray,.int .i64 f,.slice B bs.length d] W fun e W'=>∃ j,e = .returned (.agg (encRcd (promL x f bs) j).toArray) ∧ Mem w0 W' (partRcd 91 40 9 3 66 (promL x f bs) j ++ L):=by
  by_cases hs : 2 * ((addL x.yes f).length : Int) ≤ x.of
  · have e : promL x f bs = gotL x f bs:=if_pos hs
    rw [e]
    exact promShort x i f hb (by omega) h2 h3 hs HM
  · exact promLong x i f hb h0 h1 h2 h3 h4 hs HM
end Go.Proofs.YtampmicahnnebaaGreat.Sp
namespace Go.Proofs.YtampmicahnnebaaGreat.Sp
open Go Go.RowKit
section
variable {P : Program} {n : Nat} {ops : Array Oper} {Q : Exit → Act → World → Prop} {rest : List Oper} {E : Env} {w0 W : World} {L L' R : List Asn}
variable {d : Nat} {ty st st2 : TypeId} {pos : String} {after : Array Edge} {x y : Operand}
theorem p_makeFunc {f : FuncId} {first captured : List Operand} {vs ws : List Value} (h1 : evs E first = some vs) (h2 : evs E captured = some ws) : PV P E (.makeFunc (.func f) first.toArray captured.toArray) (.func (.func f) vs.toArray ws.toArray):=⟨fun n a ha dst ty pos after gd W=>by
  have e1:=ha.evals h1
  have e2:=ha.evals h2
  simp [execOp,Instr.makeFunc,e1,e2]⟩
theorem s_callv {f : FuncId} {fn : Func} {c : Operand} {as_ : List Operand} {ts : Array TypeId} {vs first captured : List Value} [hf : Fun P f fn] (hv : ev E c = some (.func (.func f) first.toArray captured.toArray)) (hvs : evs E as_ = some vs) (hn : Nat.blt d n = true)
    (h : Calls P f (first ++ vs ++ captured).toArray W fun e w=>∃ v,e = .returned v ∧ WL P n ops Q rest ((d,v) :: E) w) :
    WL P n ops Q (⟨some d,.call { callee:=.value c,args:=as_.toArray,argTypes:=ts },ty,pos,after,none⟩ :: rest) E W:=⟨fun a ha=>by
  refine wpList_plain rfl fun K hK=>?_
  have h1 : fn.name ≠ "runtime.NumGoroutine":=by simpa using hf.name
  obtain ⟨b,hc⟩:=Option.isSome_iff_exists.1 hf.body
  have hargs:=ha.evals hvs
  have hcv:=ha.eval hv
  have he : (callFunc f (first ++ vs ++ captured).toArray).run P W = .ok (.enter f (first ++ vs ++ captured).toArray) W:=by simp [callFunc,hf.out,h1,hc]
  have hrun : (execOp a.eval ⟨some d,.call { callee:=.value c,args:=as_.toArray,argTypes:=ts },ty,pos,after,none⟩).run P W = .ok (.enter f (first ++ vs ++ captured).toArray) W:=by
    unfold execOp
    simp [resolve,hcv,Deferred.ofValue,invoke]
    simpa [hargs] using he
  unfold Oper.wp
  rw [hrun,Oper.upon_enter]
  refine h.mono ?_
  rintro e w ⟨v,rfl,h2⟩
  refine hK _ _ ?_
  exact h2.out _ (ha.put (by simpa [Nat.blt_eq] using hn) v)⟩
end
section
variable {w0 W : World} {L : List Asn} {α : Type} {D : Ty α} {e c : Nat} {A : Option Addr} {xs : List α} {css : List (List Value)}
theorem cls_raw (h : Mem w0 W (own (tRaw D.sz) e A c css :: lels D xs css :: L)) : Mem w0 W (own D e A c xs :: L):=by
  obtain ⟨hb,F,h1,⟨css',hl,G,g1,hrow,hels⟩,F2,f1,⟨_,hl2,h4⟩,f3⟩:=h
  have hc : css' = css:=by
    refine List.ext_getElem hl fun i hi hi2=>?_
    obtain ⟨F',_,hA,_⟩:=els_get (d:=tRaw D.sz) i hi2 hi hels
    exact hA.1
  subst hc
  refine ⟨hb,fun k=>F k ∨ F2 k,fun k hk=>hk.elim (h1 k) (fun h=>(f1 k h).1),⟨css',hl2,G,fun k hk=>.inl (g1 k hk),by rw [← hl2];exact hrow,h4.mono (fun k hk=>⟨.inr hk,fun hg=>(f1 k hk).2 (g1 k hg)⟩)⟩,f3.mono (fun k hk=>⟨hk.1.1,fun h=>h.elim hk.1.2 hk.2⟩)⟩
theorem lels_ins {a : α} {cv : List Value} (k : Nat) (hA : ∀ W,(D.A a cv).H W (fun _=>False)) (hk : k ≤ xs.length) (h : Mem w0 W (lels D xs css :: L)) : Mem w0 W (lels D (xs.take k ++ [a] ++ xs.drop k) (css.take k ++ [cv] ++ css.drop k) :: L):=by
  obtain ⟨_,hl,h⟩:=h.ex
  have hl' : css.length = xs.length:=hl
  have h1 : (css.take k).length = (xs.take k).length:=by simp [hl']
  rw [lels_take css xs k hl',List.append_assoc] at h
  have h2 : Mem w0 W (D.A a cv :: (els D (xs.take k) (css.take k) ++ (els D (xs.drop k) (css.drop k) ++ L))):=⟨h.below,fun _=>False,fun _ h=>h.elim,hA W,h.sep.mono (fun k hk=>⟨hk,fun h=>h⟩)⟩
  refine Mem.mkx () (by simp [hl']) ?_
  rw [els_append _ _ _ _ (by simp [hl']),els_append _ _ _ _ h1,List.append_assoc,List.append_assoc]
  exact h2.perm (List.perm_middle (a:=D.A a cv) (l₁:=els D (xs.take k) (css.take k)) (l₂:=els D (xs.drop k) (css.drop k) ++ L)).symm
end
end Go.Proofs.YtampmicahnnebaaGreat.Sp
namespace Go.Proofs.YtampmicahnnebaaGreat.Sp
open Go Go.RowKit
set_option maxRecDepth 10000
set_option maxHeartbeats 2000000
variable {w0 W : World} {L : List Asn}
theorem knowL_stop {ds : List Slot} {b kn d : Int} (h : ¬ (d < kn ∧ d < ds.length ∧ (rd tSlot ds d).ballot = b)) (n : Nat) : knowL ds b kn n d = d:=by
  cases n with
  | zero=>rfl
  | succ n=>rw [knowL,if_neg h]
theorem knowL_le {ds : List Slot} {b kn : Int} (h : ds.length ≤ 60) : ∀ (n : Nat) (d : Int),d ≤ 1000 → knowL ds b kn n d ≤ 1000
  | 0,d,hd=>hd
  | n + 1,d,hd=>by
    rw [knowL]
    split
    · rename_i hh;exact knowL_le h n (d + 1) (by omega)
    · exact hd
theorem knowL_ge {ds : List Slot} {b kn : Int} : ∀ (n : Nat) (d : Int),0 ≤ d → 0 ≤ knowL ds b kn n d
  | 0,d,hd=>hd
  | n + 1,d,hd=>by
    rw [knowL]
    split
    · exact knowL_ge n (d + 1) (by omega)
    · exact hd
theorem beatS (x : Rcd) (i : AtRcd) (m : Msg) (am : At) (hv : VR x) (hu : x.up = true) (hm : MsgP m x.of) (HM : Mem w0 W (partRcd 91 40 9 3 66 x i ++ L)) : Calls Tryz.prog 96 #[.agg (encRcd x i).toArray,.agg (encMsg m am).toArray] W fun e W'=>∃ j,e = .returned (.agg (encRcd (beatL x m) j).toArray) ∧ Mem w0 W' (partRcd 91 40 9 3 66 (beatL x m) j ++ L):=by
  refine enter Tryz.func96 rfl Tryz.ntmps96 [(0,.agg (encRcd x i).toArray),(1,.agg (encMsg m am).toArray)] rfl ⟨rfl,rfl,trivial⟩ ?_
  unfold encRcd encMsg
  simp only [partRcd,List.cons_append,List.nil_append] at HM
  by_cases c1 : m.frm = x.number
  · have e : beatL x m = x:=by rw [beatL,if_pos (.inl c1)]
    repeat (first|refine Y ?_|(refine qs ?_;clear HM;intro W1 HM)|(refine qg ?_;clear HM;intro g W1 HM))
    rw [e]
    exact ret_cell HM rfl rfl rfl ⟨i,rfl,by simp only [partRcd,List.cons_append,List.nil_append];exact HM.sb⟩
  by_cases c2 : m.ballot < 1
  · have e : beatL x m = x:=by rw [beatL,if_pos (.inr c2)]
    repeat (first|refine Y ?_|(refine qs ?_;clear HM;intro W1 HM)|(refine qg ?_;clear HM;intro g W1 HM))
    rw [e]
    exact ret_cell HM rfl rfl rfl ⟨i,rfl,by simp only [partRcd,List.cons_append,List.nil_append];exact HM.sb⟩
  have ew : (followL x m.ballot).wishes = x.wishes:=by unfold followL;split <;> rfl
  have e : beatL x m = wishedL m.frm (followL x m.ballot).wishes (beat2 (beat1 (followL x m.ballot) m) m):=by rw [beatL,if_neg (by omega),ew]
  have hvy:=vr_follow (b:=m.ballot) hv hm.ballot.2
  rw [e]
  clear e ew
  repeat (first|refine Y ?_|(refine qs ?_;clear HM;intro W1 HM)|(refine qf ?_;go_at_call 95;refine (followS x i m.ballot (by exact pk_rec HM)).mono ?_;rintro e W1 ⟨j,rfl,HM1⟩;refine ⟨_,rfl,?_⟩;replace HM:=HM1;clear HM1;simp only [partRcd,List.cons_append,List.nil_append] at HM;simp only [encRcd])|(refine qg ?_;clear HM;intro g W1 HM))
  clear c1 hv hu
  generalize followL x m.ballot = y at *
  rename_i gr _ gm _ _ _
  have hd:=hvy.disk
  have hdl:=hd.slots.1
  have hdk0:=hd.k0
  have hdk1:=hd.k1
  have hkn:=hm.known
  have hwl:=hvy.wishes.len
  clear hvy hd
  have HMn:=(show Mem w0 _ (boxR 91 40 9 3 66 31 gr y j ++ _) from pk_boxr HM).name
  clear HM
  obtain ⟨R,hR,HM⟩:=HMn
  refine c_cut (σ:=Rcd × AtRcd) (fun s=>[(2,.pointer (some ⟨gr,0,none⟩)),(3,.pointer (some ⟨gm,0,none⟩)),(4,.pointer (some ⟨g,0,none⟩))]) (fun s W1=>s.1 = beat1 y m ∧ Mem w0 W1 (boxR 91 40 9 3 66 31 gr s.1 s.2 ++ R)) ?_ ?_
  · refine c_loop (σ:=Nat × Int) (fun s=>[(2,.pointer (some ⟨gr,0,none⟩)),(3,.pointer (some ⟨gm,0,none⟩)),(4,.pointer (some ⟨g,0,none⟩))]) (fun s W1=>knowL y.ds m.ballot m.known s.1 s.2 = knowL y.ds m.ballot m.known y.ds.length y.dk ∧ 0 ≤ s.2 ∧ s.2 ≤ y.ds.length ∧ (y.ds.length : Int) ≤ s.1 + s.2 ∧ Mem w0 W1 (boxR 91 40 9 3 66 31 gr { y with dk:=s.2 } j ++ _)) (fun s=>s.1) (y.ds.length,y.dk) U ⟨rfl,hdk0,hdk1,by dsimp only;omega,HM⟩ ?_
    clear HM
    subst hR
    rintro ⟨fu,d⟩ W1 ⟨hl,hd0,hd1,hf,HM⟩
    dsimp only at hl hd0 hd1 hf HM ⊢
    have HM0:=HM
    simp only [boxR,partRcd,List.cons_append,List.nil_append] at HM
    by_cases t1 : d < m.known
    rotate_left
    · have hb1 : ({ y with dk:=d } : Rcd) = beat1 y m:=by rw [beat1,← hl,knowL_stop (fun h=>t1 h.1)]
      repeat (first|(refine gR ?_;refine d_start [] [(0,0),(0,1),(0,3),(1,2),(1,4),(0,5),(0,6),(0,7),(0,8),(0,10),(0,11),(1,9),(1,12),(0,13),(0,14),(0,15),(0,16),(0,17),(0,18),(0,20),(0,21),(0,26),(1,19),(1,22),(0,23),(0,24),(1,25),(1,27),(0,28),(0,29)] HM (by kernel_rfl) (by kernel_rfl) qq (by kernel_rfl) rfl ?_;intro HQ HS W1 HM1;replace HM:=HM1;clear HM1)|refine Y ?_)
      exact n_mid ({ y with dk:=d },j) U ⟨hb1,by exact pk_boxr (x:={ y with dk:=d }) HM⟩
    by_cases t2 : d < y.ds.length
    rotate_left
    · have hb1 : ({ y with dk:=d } : Rcd) = beat1 y m:=by rw [beat1,← hl,knowL_stop (fun h=>t2 h.2.1)]
      repeat (first|(refine gR ?_;refine d_start [] [(0,0),(0,1),(0,3),(1,2),(1,4),(0,5),(0,6),(0,7),(0,8),(0,10),(0,11),(1,9),(1,12),(0,13),(0,14),(0,15),(0,16),(0,17),(0,18),(0,20),(0,21),(0,26),(1,19),(1,22),(0,23),(0,24),(1,25),(1,27),(0,28),(0,29)] HM (by kernel_rfl) (by kernel_rfl) qq (by kernel_rfl) rfl ?_;intro HQ HS W1 HM1;replace HM:=HM1;clear HM1)|refine Y ?_)
      exact n_mid ({ y with dk:=d },j) U ⟨hb1,by exact pk_boxr (x:={ y with dk:=d }) HM⟩
    by_cases t3 : (rd tSlot y.ds d).ballot = m.ballot
    rotate_left
    · have hb1 : ({ y with dk:=d } : Rcd) = beat1 y m:=by rw [beat1,← hl,knowL_stop (fun h=>t3 h.2.2)]
      repeat (first|(refine gR ?_;refine d_start [] [(0,0),(0,1),(0,3),(1,2),(1,4),(0,5),(0,6),(0,7),(0,8),(0,10),(0,11),(1,9),(1,12),(0,13),(0,14),(0,15),(0,16),(0,17),(0,18),(0,20),(0,21),(0,26),(1,19),(1,22),(0,23),(0,24),(1,25),(1,27),(0,28),(0,29)] HM (by kernel_rfl) (by kernel_rfl) qq (by kernel_rfl) rfl ?_;intro HQ HS W1 HM1;replace HM:=HM1;clear HM1)|refine Y ?_)
      exact n_mid ({ y with dk:=d },j) U ⟨hb1,by exact pk_boxr (x:={ y with dk:=d }) HM⟩
    obtain ⟨n,rfl⟩ : ∃ n,fu = n + 1:=⟨fu - 1,by omega⟩
    have hst : knowL y.ds m.ballot m.known n (d + 1) = knowL y.ds m.ballot m.known y.ds.length y.dk:=by rw [← hl,knowL,if_pos ⟨t1,t2,t3⟩]
    repeat (first|(refine gR ?_;refine d_start [] [(0,0),(0,1),(0,3),(1,2),(1,4),(0,5),(0,6),(0,7),(0,8),(0,10),(0,11),(1,9),(1,12),(0,13),(0,14),(0,15),(0,16),(0,17),(0,18),(0,20),(0,21),(0,26),(1,19),(1,22),(0,23),(0,24),(1,25),(1,27),(0,28),(0,29)] HM (by kernel_rfl) (by kernel_rfl) qq (by kernel_rfl) rfl ?_;intro HQ HS W1 HM1;replace HM:=HM1;clear HM1)|refine Y ?_|(refine qs ?_;clear HM;intro W1 HM))
    exact n_round (n,d + 1) U ⟨hst,by dsimp only;omega,by dsimp only;omega,by dsimp only;omega,by exact pk_boxr (x:={ y with dk:=d + 1 }) HM⟩ (by dsimp only;omega)
  clear HM
  subst hR
  rintro ⟨z,jz⟩ W1 ⟨hz,HM⟩
  dsimp only at hz HM ⊢
  rw [← hz]
  have hzd : 0 ≤ z.dk ∧ z.dk ≤ 1000:=by
    rw [hz]
    exact ⟨knowL_ge _ _ hdk0,knowL_le hdl _ _ (by omega)⟩
  have hzw : (beat2 z m).wishes = y.wishes:=by rw [beat2];split <;> (try unfold holdL) <;> (try split) <;> rw [hz] <;> rfl
  simp only [boxR,partRcd,List.cons_append,List.nil_append] at HM
  rw [← hzw]
  rw [← hzw] at hwl
  clear hz hzw
  repeat refine Y ?_
  have HMn:=(show Mem w0 _ (boxR 91 40 9 3 66 31 gr z jz ++ _) from pk_boxr HM).name
  clear HM
  obtain ⟨R,hR,HM⟩:=HMn
  refine c_cutn (σ:=Rcd × AtRcd) (fun s=>[(2,.pointer (some ⟨gr,0,none⟩)),(3,.pointer (some ⟨gm,0,none⟩)),(4,.pointer (some ⟨g,0,none⟩))]) (fun s W1=>s.1 = beat2 z m ∧ Mem w0 W1 (boxR 91 40 9 3 66 31 gr s.1 s.2 ++ R)) ?_ ?_
  · subst hR
    simp only [boxR,partRcd,List.cons_append,List.nil_append] at HM
    by_cases t1 : z.dk < m.known
    · have e : beat2 z m = holdL z ⟨7,0,m.frm,m.ballot,z.dk + 1,0,⟨#[]⟩,[]⟩:=if_pos t1
      repeat (first|refine Y ?_|(refine qs ?_;clear HM;intro W1 HM)|(refine qf ?_;go_at_call 33;have HM2:=HM.nil tSlot 91;refine (holdS z jz ⟨7,0,m.frm,m.ballot,z.dk + 1,0,⟨#[]⟩,[]⟩ (none,0) (by exact pk_holds HM2)).mono ?_;clear HM2;rintro e W1 ⟨j2,rfl,HM1⟩;refine ⟨_,rfl,?_⟩;replace HM:=HM1;clear HM1;simp only [partRcd,List.cons_append,List.nil_append] at HM;simp only [encRcd]))
      exact n_mid (beat2 z m,j2) U ⟨rfl,by rw [e];exact pk_boxr HM⟩
    · have e : beat2 z m = z:=if_neg t1
      repeat ((refine gC ?_;first|refine c_skip ?_|refine c_no rfl (by (simp;omega)) ?_))
      exact n_mid (z,jz) U ⟨e.symm,by exact pk_boxr HM⟩
  clear HM
  subst hR
  rintro ⟨q,jq⟩ W1 ⟨hq,HM⟩
  dsimp only at hq HM ⊢
  rw [← hq]
  rw [← hq] at hwl
  clear hq hzd
  repeat refine Y ?_
  refine c_loop (σ:=Nat × Rcd) (fun s=>[(2,.pointer (some ⟨gr,0,none⟩)),(3,.pointer (some ⟨gm,0,none⟩)),(4,.pointer (some ⟨g,0,none⟩)),(5,.int .i64 s.1)]) (fun s W1=>s.1 ≤ q.wishes.length ∧ wishedL m.frm (q.wishes.drop s.1) s.2 = wishedL m.frm q.wishes q ∧ s.2.wishes = q.wishes ∧ ∃ j,Mem w0 W1 (boxR 91 40 9 3 66 31 gr s.2 j ++ _)) (fun s=>q.wishes.length - s.1) (0,q) U ⟨Nat.zero_le _,rfl,rfl,jq,HM⟩ ?_
  clear HM
  rintro ⟨k,u⟩ W1 ⟨hk,hl,hw,ju,HM⟩
  dsimp only at hk hl hw HM ⊢
  simp only [boxR,partRcd,List.cons_append,List.nil_append] at HM
  by_cases hlt : k < q.wishes.length
  · have hlt2 : k < u.wishes.length:=by rw [hw];exact hlt
    have hst : wishedL m.frm (q.wishes.drop (k + 1)) (holdL u ⟨8,0,m.frm,0,0,0,rd tStr u.wishes k,[]⟩) = wishedL m.frm q.wishes q:=by
      rw [← hl,List.drop_eq_getElem_cons hlt,wishedL,rd_at hlt2];simp only [hw]
    have hst2 : (holdL u ⟨8,0,m.frm,0,0,0,rd tStr u.wishes k,[]⟩).wishes = q.wishes:=by rw [← hw];unfold holdL;split <;> rfl
    have hwu : u.wishes.length ≤ 20:=by rw [hw];exact hwl
    repeat (first|(refine gR ?_;refine d_start [9,10] [(0,1),(0,3),(0,5),(1,0),(1,2),(1,4),(0,6),(1,7),(2,8),(3,9),(3,10)] HM (by kernel_rfl) (by kernel_rfl) qq (by kernel_rfl) rfl ?_;intro HQ HS W1 HM1;replace HM:=HM1;clear HM1)|refine Y ?_|(refine qs ?_;clear HM;intro W1 HM)|(refine qf ?_;go_at_call 33;have HM2:=HM.nil tSlot 91;refine (holdS u ju ⟨8,0,m.frm,0,0,0,rd tStr u.wishes k,[]⟩ (none,0) (by exact pk_holds HM2)).mono ?_;clear HM2;rintro e W1 ⟨j2,rfl,HM1⟩;refine ⟨_,rfl,?_⟩;replace HM:=HM1;clear HM1;simp only [partRcd,List.cons_append,List.nil_append] at HM;simp only [encRcd]))
    exact n_round (k + 1,holdL u ⟨8,0,m.frm,0,0,0,rd tStr u.wishes k,[]⟩) U ⟨by dsimp only;omega,hst,hst2,j2,by exact pk_boxr HM⟩ (by dsimp only;omega)
  · have hlt2 : ¬ k < u.wishes.length:=by rw [hw];exact hlt
    have hwu : u.wishes.length ≤ 20:=by rw [hw];exact hwl
    rw [List.drop_eq_nil_of_le (by omega)] at hl
    rw [← hl]
    repeat (first|refine Y ?_|(refine qs ?_;clear HM;intro W1 HM))
    exact ret_cell HM rfl rfl rfl ⟨ju,rfl,by simp only [wishedL,partRcd,List.cons_append,List.nil_append];exact HM.sb⟩
end Go.Proofs.YtampmicahnnebaaGreat.Sp
namespace Go.Proofs.YtampmicahnnebaaGreat.Sp
open Go Go.RowKit
set_option maxRecDepth 10000
set_option maxHeartbeats 4000000
variable {w0 W : World} {L : List Asn}
theorem takePrep (x : Rcd) (i : AtRcd) (m : Msg) (am : At) (hv : VR x) (hk : m.kind = 1) (HM : Mem w0 W (partRcd 91 40 9 3 66 x i ++ L)) : Calls Tryz.prog 56 #[.agg (encRcd x i).toArray,.agg (encMsg m am).toArray] W fun e W'=>∃ j,e = .returned (.agg (encRcd (prepL x m) j).toArray) ∧ Mem w0 W' (partRcd 91 40 9 3 66 (prepL x m) j ++ L):=by
  refine enter Tryz.func56 rfl Tryz.ntmps56 [(0,.agg (encRcd x i).toArray),(1,.agg (encMsg m am).toArray)] rfl ⟨rfl,rfl,trivial⟩ ?_
  unfold encRcd encMsg
  simp only [boxR,partRcd,List.cons_append,List.nil_append] at HM
  by_cases c1 : m.ballot ≤ x.dp
  · have e : prepL x m = holdL x ⟨9,0,m.frm,x.dp,0,0,⟨#[]⟩,[]⟩:=if_pos c1
    repeat (first|refine Y ?_|(refine qs ?_;clear HM;intro W1 HM)|(refine qf ?_;go_at_call 33;have HM2:=HM.nil tSlot 91;refine (holdS x i ⟨9,0,m.frm,x.dp,0,0,⟨#[]⟩,[]⟩ (none,0) (by exact pk_holds HM2)).mono ?_;clear HM2;rintro e W1 ⟨j2,rfl,HM1⟩;refine ⟨_,rfl,?_⟩;replace HM:=HM1;clear HM1;simp only [partRcd,List.cons_append,List.nil_append] at HM;simp only [encRcd])|(refine qg ?_;clear HM;intro g W1 HM))
    rw [e]
    exact ret_cell HM rfl rfl rfl ⟨j2,rfl,by simp only [boxR,partRcd,List.cons_append,List.nil_append];exact HM.sb⟩
  · have e : prepL x m = holdL (followL x m.ballot) ⟨2,0,m.frm,m.ballot,0,0,⟨#[]⟩,(followL x m.ballot).ds⟩:=if_neg c1
    have hds : (followL x m.ballot).ds = x.ds:=by unfold followL;split <;> rfl
    have hd:=hv.disk.slots.1
    rw [← hds] at hd
    rw [e]
    repeat (first|(refine gR ?_;refine d_start [10,11] [(0,1),(0,3),(0,5),(0,6),(1,0),(1,2),(1,4),(1,7),(2,8),(2,9),(3,10),(3,11)] HM (by kernel_rfl) (by kernel_rfl) qq (by kernel_rfl) rfl ?_;intro HQ HS W1 HM1;replace HM:=HM1;clear HM1)|refine Y ?_|(refine qs ?_;clear HM;intro W1 HM)|(refine qf ?_;first|(go_at_call 95;refine (followS x i m.ballot (by exact pk_rec HM)).mono ?_;rintro e W1 ⟨j2,rfl,HM1⟩;refine ⟨_,rfl,?_⟩;replace HM:=HM1;clear HM1;simp only [partRcd,List.cons_append,List.nil_append] at HM;simp only [encRcd];clear e hds c1;generalize followL x m.ballot = y at *)|(go_at_call 79;obtain ⟨F1,hF1⟩:=HM.own (A:=j2.a1.1);refine (l1Slots_c (ro_slots hF1) (by omega) (Mem.start _)).mono ?_;clear hF1;rintro e W1 ⟨A3,c3,rfl,HM1⟩;refine ⟨_,rfl,?_⟩;replace HM:=HM.join HM1;clear HM1;simp only [List.cons_append,List.nil_append] at HM)|(go_at_call 33;refine (holdS y j2 ⟨2,0,m.frm,m.ballot,0,0,⟨#[]⟩,y.ds⟩ (A3,c3) (by exact pk_holds HM)).mono ?_;rintro e W1 ⟨j3,rfl,HM1⟩;refine ⟨_,rfl,?_⟩;replace HM:=HM1;clear HM1;simp only [partRcd,List.cons_append,List.nil_append] at HM;simp only [encRcd]))|(refine qg ?_;clear HM;intro g W1 HM))
    exact ret_cell HM rfl rfl rfl ⟨j3,rfl,by simp only [boxR,partRcd,List.cons_append,List.nil_append];exact HM.sb⟩
theorem takePromised (x : Rcd) (i : AtRcd) (m : Msg) (am : At) (hv : VR x) (hm : MsgP m x.of) (hk : m.kind = 2) {b : Bool} (hb : ∀ W',Mem w0 W' L → RoRow (rSlot b) W' am.1 m.slots) (HM : Mem w0 W (partRcd 91 40 9 3 66 x i ++ L)) : Calls Tryz.prog 56 #[.agg (encRcd x i).toArray,.agg (encMsg m am).toArray] W fun e W'=>∃ j,e = .returned (.agg (encRcd (if x.trying = true ∧ m.ballot = x.ballot then promL x m.frm m.slots else x) j).toArray) ∧ Mem w0 W' (partRcd 91 40 9 3 66 (if x.trying = true ∧ m.ballot = x.ballot then promL x m.frm m.slots else x) j ++ L):=by
  refine enter Tryz.func56 rfl Tryz.ntmps56 [(0,.agg (encRcd x i).toArray),(1,.agg (encMsg m am).toArray)] rfl ⟨rfl,rfl,trivial⟩ ?_
  unfold encRcd encMsg
  simp only [boxR,partRcd,List.cons_append,List.nil_append] at HM
  by_cases c1 : x.trying = true
  rotate_left
  · rw [if_neg (fun h=>c1 h.1)]
    simp only [Bool.not_eq_true] at c1
    repeat (first|refine Y ?_|(refine qs ?_;clear HM;intro W1 HM)|(refine qg ?_;clear HM;intro g W1 HM))
    exact ret_cell HM rfl rfl rfl ⟨i,rfl,by simp only [boxR,partRcd,List.cons_append,List.nil_append];exact HM.sb⟩
  by_cases c2 : m.ballot = x.ballot
  rotate_left
  · rw [if_neg (fun h=>c2 h.2)]
    repeat (first|refine Y ?_|(refine qs ?_;clear HM;intro W1 HM)|(refine qg ?_;clear HM;intro g W1 HM))
    exact ret_cell HM rfl rfl rfl ⟨i,rfl,by simp only [boxR,partRcd,List.cons_append,List.nil_append];exact HM.sb⟩
  rw [if_pos ⟨c1,c2⟩]
  have h0:=hv.disk.k0
  have h1:=nums_len hv.yes hv.of5
  have h2:=hv.best.1
  have h3:=hm.slots.1
  have h4:=hv.disk.slots.1
  repeat (first|refine Y ?_|(refine qs ?_;clear HM;intro W1 HM)|(refine qf ?_;go_at_call 27;have HMp:=(show Mem w0 _ (partRcd 91 40 9 3 66 x i ++ _) from pk_rec HM);refine (promS x i m.frm (fun W' h=>hb W' (by exact h.sb)) h0 (by omega) (by omega) (by omega) (by omega) HMp).mono ?_;clear HMp;rintro e W1 ⟨j2,rfl,HM1⟩;refine ⟨_,rfl,?_⟩;replace HM:=HM1;clear HM1;simp only [partRcd,List.cons_append,List.nil_append] at HM;simp only [encRcd])|(refine qg ?_;clear HM;intro g W1 HM))
  exact ret_cell HM rfl rfl rfl ⟨j2,rfl,by simp only [boxR,partRcd,List.cons_append,List.nil_append];exact HM.sb⟩
theorem takeAccept (x : Rcd) (i : AtRcd) (m : Msg) (am : At) (hv : VR x) (hm : MsgP m x.of) (hk : m.kind = 3) (HM : Mem w0 W (partRcd 91 40 9 3 66 x i ++ L)) : Calls Tryz.prog 56 #[.agg (encRcd x i).toArray,.agg (encMsg m am).toArray] W fun e W'=>∃ j,e = .returned (.agg (encRcd (accL x m) j).toArray) ∧ Mem w0 W' (partRcd 91 40 9 3 66 (accL x m) j ++ L):=by
  refine enter Tryz.func56 rfl Tryz.ntmps56 [(0,.agg (encRcd x i).toArray),(1,.agg (encMsg m am).toArray)] rfl ⟨rfl,rfl,trivial⟩ ?_
  unfold encRcd encMsg
  simp only [boxR,partRcd,List.cons_append,List.nil_append] at HM
  by_cases c1 : m.ballot < x.dp
  · have e : accL x m = holdL x ⟨9,0,m.frm,x.dp,0,0,⟨#[]⟩,[]⟩:=if_pos c1
    repeat (first|refine Y ?_|(refine qs ?_;clear HM;intro W1 HM)|(refine qf ?_;go_at_call 33;have HM2:=HM.nil tSlot 91;refine (holdS x i ⟨9,0,m.frm,x.dp,0,0,⟨#[]⟩,[]⟩ (none,0) (by exact pk_holds HM2)).mono ?_;clear HM2;rintro e W1 ⟨j2,rfl,HM1⟩;refine ⟨_,rfl,?_⟩;replace HM:=HM1;clear HM1;simp only [partRcd,List.cons_append,List.nil_append] at HM;simp only [encRcd])|(refine qg ?_;clear HM;intro g W1 HM))
    rw [e]
    exact ret_cell HM rfl rfl rfl ⟨j2,rfl,by simp only [boxR,partRcd,List.cons_append,List.nil_append];exact HM.sb⟩
  by_cases c2 : m.index < 1
  · have e : accL x m = x:=by rw [accL,if_neg c1,if_pos (.inl c2)]
    repeat (first|refine Y ?_|(refine qs ?_;clear HM;intro W1 HM)|(refine qg ?_;clear HM;intro g W1 HM))
    rw [e]
    exact ret_cell HM rfl rfl rfl ⟨i,rfl,by simp only [boxR,partRcd,List.cons_append,List.nil_append];exact HM.sb⟩
  by_cases c3 : m.ballot < 1
  · have e : accL x m = x:=by rw [accL,if_neg c1,if_pos (.inr (.inl c3))]
    repeat (first|refine Y ?_|(refine qs ?_;clear HM;intro W1 HM)|(refine qg ?_;clear HM;intro g W1 HM))
    rw [e]
    exact ret_cell HM rfl rfl rfl ⟨i,rfl,by simp only [boxR,partRcd,List.cons_append,List.nil_append];exact HM.sb⟩
  by_cases c4 : m.frm = x.number
  · have e : accL x m = x:=by rw [accL,if_neg c1,if_pos (.inr (.inr c4))]
    repeat (first|refine Y ?_|(refine qs ?_;clear HM;intro W1 HM)|(refine qg ?_;clear HM;intro g W1 HM))
    rw [e]
    exact ret_cell HM rfl rfl rfl ⟨i,rfl,by simp only [boxR,partRcd,List.cons_append,List.nil_append];exact HM.sb⟩
  have e : accL x m = holdL (acc1 (followL x m.ballot) m) ⟨4,0,m.frm,m.ballot,m.index,0,⟨#[]⟩,[]⟩:=by rw [accL,if_neg c1,if_neg (by omega)]
  have hds : (followL x m.ballot).ds = x.ds:=by unfold followL;split <;> rfl
  have hd:=hv.disk.slots.1
  have hix:=hm.index
  rw [← hds] at hd
  rw [e]
  by_cases c5 : (followL x m.ballot).dk < m.index
  · have e1 : acc1 (followL x m.ballot) m = setL (followL x m.ballot) m.index ⟨m.ballot,m.text⟩:=if_pos c5
    rw [e1]
    repeat (first|refine Y ?_|(refine qs ?_;clear HM;intro W1 HM)|(refine qf ?_;first|(go_at_call 95;refine (followS x i m.ballot (by exact pk_rec HM)).mono ?_;rintro e W1 ⟨j2,rfl,HM1⟩;refine ⟨_,rfl,?_⟩;replace HM:=HM1;clear HM1;simp only [partRcd,List.cons_append,List.nil_append] at HM;simp only [encRcd];clear e hds e1;generalize followL x m.ballot = y at *)|(go_at_call 82;refine (slotSetS y j2 m.index ⟨m.ballot,m.text⟩ (by omega) (by omega) (by omega) (by exact pk_rec HM)).mono ?_;rintro e W1 ⟨j3,rfl,HM1⟩;refine ⟨_,rfl,?_⟩;replace HM:=HM1;clear HM1;simp only [partRcd,List.cons_append,List.nil_append] at HM;simp only [encRcd])|(go_at_call 33;have HM2:=HM.nil tSlot 91;refine (holdS (setL y m.index ⟨m.ballot,m.text⟩) j3 ⟨4,0,m.frm,m.ballot,m.index,0,⟨#[]⟩,[]⟩ (none,0) (by exact pk_holds HM2)).mono ?_;clear HM2;rintro e W1 ⟨j4,rfl,HM1⟩;refine ⟨_,rfl,?_⟩;replace HM:=HM1;clear HM1;simp only [partRcd,List.cons_append,List.nil_append] at HM;simp only [encRcd]))|(refine qg ?_;clear HM;intro g W1 HM))
    exact ret_cell HM rfl rfl rfl ⟨j4,rfl,by simp only [boxR,partRcd,List.cons_append,List.nil_append];exact HM.sb⟩
  · have e1 : acc1 (followL x m.ballot) m = followL x m.ballot:=if_neg c5
    rw [e1]
    repeat (first|refine Y ?_|(refine qs ?_;clear HM;intro W1 HM)|(refine qf ?_;first|(go_at_call 95;refine (followS x i m.ballot (by exact pk_rec HM)).mono ?_;rintro e W1 ⟨j2,rfl,HM1⟩;refine ⟨_,rfl,?_⟩;replace HM:=HM1;clear HM1;simp only [partRcd,List.cons_append,List.nil_append] at HM;simp only [encRcd];clear e hds e1;generalize followL x m.ballot = y at *)|(go_at_call 33;have HM2:=HM.nil tSlot 91;refine (holdS y j2 ⟨4,0,m.frm,m.ballot,m.index,0,⟨#[]⟩,[]⟩ (none,0) (by exact pk_holds HM2)).mono ?_;clear HM2;rintro e W1 ⟨j4,rfl,HM1⟩;refine ⟨_,rfl,?_⟩;replace HM:=HM1;clear HM1;simp only [partRcd,List.cons_append,List.nil_append] at HM;simp only [encRcd]))|(refine qg ?_;clear HM;intro g W1 HM))
    exact ret_cell HM rfl rfl rfl ⟨j4,rfl,by simp only [boxR,partRcd,List.cons_append,List.nil_append];exact HM.sb⟩
theorem takeAccepted (x : Rcd) (i : AtRcd) (m : Msg) (am : At) (hv : VR x) (hm : MsgP m x.of) (hk : m.kind = 4) (HM : Mem w0 W (partRcd 91 40 9 3 66 x i ++ L)) : Calls Tryz.prog 56 #[.agg (encRcd x i).toArray,.agg (encMsg m am).toArray] W fun e W'=>∃ j,e = .returned (.agg (encRcd (if x.lead = true ∧ m.ballot = x.ballot ∧ 0 < m.index then ackL x m.index m.frm else x) j).toArray) ∧ Mem w0 W' (partRcd 91 40 9 3 66 (if x.lead = true ∧ m.ballot = x.ballot ∧ 0 < m.index then ackL x m.index m.frm else x) j ++ L):=by
  refine enter Tryz.func56 rfl Tryz.ntmps56 [(0,.agg (encRcd x i).toArray),(1,.agg (encMsg m am).toArray)] rfl ⟨rfl,rfl,trivial⟩ ?_
  unfold encRcd encMsg
  simp only [boxR,partRcd,List.cons_append,List.nil_append] at HM
  by_cases c1 : x.lead = true
  rotate_left
  · rw [if_neg (fun h=>c1 h.1)]
    simp only [Bool.not_eq_true] at c1
    repeat (first|refine Y ?_|(refine qs ?_;clear HM;intro W1 HM)|(refine qg ?_;clear HM;intro g W1 HM))
    exact ret_cell HM rfl rfl rfl ⟨i,rfl,by simp only [boxR,partRcd,List.cons_append,List.nil_append];exact HM.sb⟩
  by_cases c2 : m.ballot = x.ballot
  rotate_left
  · rw [if_neg (fun h=>c2 h.2.1)]
    repeat (first|refine Y ?_|(refine qs ?_;clear HM;intro W1 HM)|(refine qg ?_;clear HM;intro g W1 HM))
    exact ret_cell HM rfl rfl rfl ⟨i,rfl,by simp only [boxR,partRcd,List.cons_append,List.nil_append];exact HM.sb⟩
  by_cases c3 : 0 < m.index
  rotate_left
  · rw [if_neg (fun h=>c3 h.2.2)]
    repeat (first|refine Y ?_|(refine qs ?_;clear HM;intro W1 HM)|(refine qg ?_;clear HM;intro g W1 HM))
    exact ret_cell HM rfl rfl rfl ⟨i,rfl,by simp only [boxR,partRcd,List.cons_append,List.nil_append];exact HM.sb⟩
  rw [if_pos ⟨c1,c2,c3⟩]
  have h0:=hv.disk.k0
  have h1:=hv.disk.k1
  have h2:=hv.disk.slots.1
  have h3:=acks_len hv.acks
  have h4 : ∀ a ∈ x.acks,a.frm.length ≤ 1000:=fun a ha=>by have:=nums_len (hv.acks.all a ha).2 hv.of5;omega
  repeat (first|refine Y ?_|(refine qs ?_;clear HM;intro W1 HM)|(refine qf ?_;go_at_call 83;refine (ackS x i m.index m.frm h0 h1 (by omega) (by omega) h4 (by exact pk_rec HM)).mono ?_;rintro e W1 ⟨j2,rfl,HM1⟩;refine ⟨_,rfl,?_⟩;replace HM:=HM1;clear HM1;simp only [partRcd,List.cons_append,List.nil_append] at HM;simp only [encRcd])|(refine qg ?_;clear HM;intro g W1 HM))
  exact ret_cell HM rfl rfl rfl ⟨j2,rfl,by simp only [boxR,partRcd,List.cons_append,List.nil_append];exact HM.sb⟩
end Go.Proofs.YtampmicahnnebaaGreat.Sp
namespace Go.Proofs.YtampmicahnnebaaGreat.Sp
open Go Go.RowKit
set_option maxRecDepth 10000
set_option maxHeartbeats 2000000
variable {w0 W : World} {L : List Asn}
theorem takeBeat (x : Rcd) (i : AtRcd) (m : Msg) (am : At) (hv : VR x) (hu : x.up = true) (hm : MsgP m x.of) (hk : m.kind = 5) (HM : Mem w0 W (partRcd 91 40 9 3 66 x i ++ L)) : Calls Tryz.prog 56 #[.agg (encRcd x i).toArray,.agg (encMsg m am).toArray] W fun e W'=>∃ j,e = .returned (.agg (encRcd (if m.ballot < x.dp then refuseL x m.frm else beatL x m) j).toArray) ∧ Mem w0 W' (partRcd 91 40 9 3 66 (if m.ballot < x.dp then refuseL x m.frm else beatL x m) j ++ L):=by
  refine enter Tryz.func56 rfl Tryz.ntmps56 [(0,.agg (encRcd x i).toArray),(1,.agg (encMsg m am).toArray)] rfl ⟨rfl,rfl,trivial⟩ ?_
  unfold encRcd encMsg
  simp only [boxR,partRcd,List.cons_append,List.nil_append] at HM
  by_cases c1 : m.ballot < x.dp
  · rw [if_pos c1]
    unfold refuseL
    repeat (first|refine Y ?_|(refine qs ?_;clear HM;intro W1 HM)|(refine qf ?_;go_at_call 33;have HM2:=HM.nil tSlot 91;refine (holdS x i ⟨9,0,m.frm,x.dp,0,0,⟨#[]⟩,[]⟩ (none,0) (by exact pk_holds HM2)).mono ?_;clear HM2;rintro e W1 ⟨j2,rfl,HM1⟩;refine ⟨_,rfl,?_⟩;replace HM:=HM1;clear HM1;simp only [partRcd,List.cons_append,List.nil_append] at HM;simp only [encRcd])|(refine qg ?_;clear HM;intro g W1 HM))
    exact ret_cell HM rfl rfl rfl ⟨j2,rfl,by simp only [boxR,partRcd,List.cons_append,List.nil_append];exact HM.sb⟩
  rw [if_neg c1]
  repeat (first|refine Y ?_|(refine qs ?_;clear HM;intro W1 HM)|(refine qf ?_;go_at_call 96;refine (beatS x i m am hv hu hm (by exact pk_rec HM)).mono ?_;rintro e W1 ⟨j2,rfl,HM1⟩;refine ⟨_,rfl,?_⟩;replace HM:=HM1;clear HM1;simp only [partRcd,List.cons_append,List.nil_append] at HM;simp only [encRcd])|(refine qg ?_;clear HM;intro g W1 HM))
  exact ret_cell HM rfl rfl rfl ⟨j2,rfl,by simp only [boxR,partRcd,List.cons_append,List.nil_append];exact HM.sb⟩
theorem takeChosen (x : Rcd) (i : AtRcd) (m : Msg) (am : At) (hv : VR x) (hm : MsgP m x.of) (hk : m.kind = 6) (HM : Mem w0 W (partRcd 91 40 9 3 66 x i ++ L)) : Calls Tryz.prog 56 #[.agg (encRcd x i).toArray,.agg (encMsg m am).toArray] W fun e W'=>∃ j,e = .returned (.agg (encRcd (choL x m) j).toArray) ∧ Mem w0 W' (partRcd 91 40 9 3 66 (choL x m) j ++ L):=by
  refine enter Tryz.func56 rfl Tryz.ntmps56 [(0,.agg (encRcd x i).toArray),(1,.agg (encMsg m am).toArray)] rfl ⟨rfl,rfl,trivial⟩ ?_
  unfold encRcd encMsg
  have hd0:=hv.disk.k0
  have hd1:=hv.disk.k1
  have hdl:=hv.disk.slots.1
  have hix:=hm.index
  simp only [boxR,partRcd,List.cons_append,List.nil_append] at HM
  by_cases c1 : m.index = x.dk + 1
  rotate_left
  · have e : choL x m = x:=if_neg (fun h=>c1 h.1)
    rw [e]
    repeat (first|refine Y ?_|(refine qs ?_;clear HM;intro W1 HM)|(refine qg ?_;clear HM;intro g W1 HM))
    exact ret_cell HM rfl rfl rfl ⟨i,rfl,by simp only [boxR,partRcd,List.cons_append,List.nil_append];exact HM.sb⟩
  by_cases c2 : 0 < m.ballot
  rotate_left
  · have e : choL x m = x:=if_neg (fun h=>c2 h.2.1)
    rw [e]
    repeat (first|refine Y ?_|(refine qs ?_;clear HM;intro W1 HM)|(refine qg ?_;clear HM;intro g W1 HM))
    exact ret_cell HM rfl rfl rfl ⟨i,rfl,by simp only [boxR,partRcd,List.cons_append,List.nil_append];exact HM.sb⟩
  by_cases c3 : m.ballot ≤ x.dp
  rotate_left
  · have e : choL x m = x:=if_neg (fun h=>c3 h.2.2)
    rw [e]
    repeat (first|refine Y ?_|(refine qs ?_;clear HM;intro W1 HM)|(refine qg ?_;clear HM;intro g W1 HM))
    exact ret_cell HM rfl rfl rfl ⟨i,rfl,by simp only [boxR,partRcd,List.cons_append,List.nil_append];exact HM.sb⟩
  have e : choL x m = { setL x m.index ⟨m.ballot,m.text⟩ with dk:=m.index }:=if_pos ⟨c1,c2,c3⟩
  rw [e]
  repeat (first|refine Y ?_|(refine qs ?_;clear HM;intro W1 HM)|(refine qf ?_;go_at_call 82;refine (slotSetS x i m.index ⟨m.ballot,m.text⟩ (by omega) (by omega) (by omega) (by exact pk_rec HM)).mono ?_;rintro e W1 ⟨j2,rfl,HM1⟩;refine ⟨_,rfl,?_⟩;replace HM:=HM1;clear HM1;simp only [partRcd,List.cons_append,List.nil_append] at HM;simp only [encRcd])|(refine qg ?_;clear HM;intro g W1 HM))
  exact ret_cell HM rfl rfl rfl ⟨j2,rfl,by simp only [boxR,partRcd,List.cons_append,List.nil_append];exact HM.sb⟩
theorem takeWished (x : Rcd) (i : AtRcd) (m : Msg) (am : At) (hv : VR x) (hn : SmallR x) (hm : MsgP m x.of) (hk : m.kind = 8) (HM : Mem w0 W (partRcd 91 40 9 3 66 x i ++ L)) : Calls Tryz.prog 56 #[.agg (encRcd x i).toArray,.agg (encMsg m am).toArray] W fun e W'=>∃ j,e = .returned (.agg (encRcd (wish1 x m.text) j).toArray) ∧ Mem w0 W' (partRcd 91 40 9 3 66 (wish1 x m.text) j ++ L):=by
  refine enter Tryz.func56 rfl Tryz.ntmps56 [(0,.agg (encRcd x i).toArray),(1,.agg (encMsg m am).toArray)] rfl ⟨rfl,rfl,trivial⟩ ?_
  unfold encRcd encMsg
  have ht:=hm.text
  simp only [boxR,partRcd,List.cons_append,List.nil_append] at HM
  repeat (first|refine Y ?_|(refine qs ?_;clear HM;intro W1 HM)|(refine qf ?_;go_at_call 61;refine (l3Wish_c x i m.text (validB_iff.2 hv) hn (by omega) (by exact pk_rec HM)).mono ?_;rintro e W1 ⟨j2,rfl,HM1⟩;refine ⟨_,rfl,?_⟩;replace HM:=HM1;clear HM1;simp only [partRcd,List.cons_append,List.nil_append] at HM;simp only [encRcd])|(refine qg ?_;clear HM;intro g W1 HM))
  exact ret_cell HM rfl rfl rfl ⟨j2,rfl,by simp only [boxR,partRcd,List.cons_append,List.nil_append];exact HM.sb⟩
theorem takeRefuse (x : Rcd) (i : AtRcd) (m : Msg) (am : At) (hk : m.kind = 9) (HM : Mem w0 W (partRcd 91 40 9 3 66 x i ++ L)) : Calls Tryz.prog 56 #[.agg (encRcd x i).toArray,.agg (encMsg m am).toArray] W fun e W'=>∃ j,e = .returned (.agg (encRcd (refL x m) j).toArray) ∧ Mem w0 W' (partRcd 91 40 9 3 66 (refL x m) j ++ L):=by
  refine enter Tryz.func56 rfl Tryz.ntmps56 [(0,.agg (encRcd x i).toArray),(1,.agg (encMsg m am).toArray)] rfl ⟨rfl,rfl,trivial⟩ ?_
  unfold encRcd encMsg
  simp only [boxR,partRcd,List.cons_append,List.nil_append] at HM
  by_cases c1 : x.ballot < m.ballot
  rotate_left
  · have e : refL x m = x:=if_neg (fun h=>c1 h.1)
    rw [e]
    repeat (first|refine Y ?_|(refine qs ?_;clear HM;intro W1 HM)|(refine qg ?_;clear HM;intro g W1 HM))
    exact ret_cell HM rfl rfl rfl ⟨i,rfl,by simp only [boxR,partRcd,List.cons_append,List.nil_append];exact HM.sb⟩
  by_cases c0 : x.lead = true ∨ x.trying = true
  rotate_left
  · have e : refL x m = x:=if_neg (fun h=>c0 h.2)
    have c2 : x.lead = false:=by cases h : x.lead <;> simp_all
    have c3 : x.trying = false:=by cases h : x.trying <;> simp_all
    rw [e]
    repeat (first|refine Y ?_|(refine qs ?_;clear HM;intro W1 HM)|(refine qg ?_;clear HM;intro g W1 HM))
    exact ret_cell HM rfl rfl rfl ⟨i,rfl,by simp only [boxR,partRcd,List.cons_append,List.nil_append];exact HM.sb⟩
  have e : refL x m = { calmL x with dp:=max x.dp m.ballot }:=if_pos ⟨c1,c0⟩
  rw [e]
  by_cases c4 : x.dp < m.ballot
  · rw [show max x.dp m.ballot = m.ballot by omega]
    by_cases c2 : x.lead = true
    · repeat (first|refine Y ?_|(refine qs ?_;clear HM;intro W1 HM)|(refine qf ?_;go_at_call 31;refine (calmS x i (by exact pk_rec HM)).mono ?_;rintro e W1 ⟨j2,rfl,HM1⟩;refine ⟨_,rfl,?_⟩;replace HM:=HM1;clear HM1;simp only [calmL,partRcd,List.cons_append,List.nil_append] at HM;simp only [calmL,encRcd])|(refine qg ?_;clear HM;intro g W1 HM))
      exact ret_cell HM rfl rfl rfl ⟨j2,rfl,by simp only [calmL,partRcd,List.cons_append,List.nil_append];exact HM.sb⟩
    · simp only [Bool.not_eq_true] at c2
      have c3 : x.trying = true:=by cases h : x.trying <;> simp_all
      repeat (first|refine Y ?_|(refine qs ?_;clear HM;intro W1 HM)|(refine qf ?_;go_at_call 31;refine (calmS x i (by exact pk_rec HM)).mono ?_;rintro e W1 ⟨j2,rfl,HM1⟩;refine ⟨_,rfl,?_⟩;replace HM:=HM1;clear HM1;simp only [calmL,partRcd,List.cons_append,List.nil_append] at HM;simp only [calmL,encRcd])|(refine qg ?_;clear HM;intro g W1 HM))
      exact ret_cell HM rfl rfl rfl ⟨j2,rfl,by simp only [calmL,partRcd,List.cons_append,List.nil_append];exact HM.sb⟩
  · rw [show max x.dp m.ballot = x.dp by omega]
    by_cases c2 : x.lead = true
    · repeat (first|refine Y ?_|(refine qs ?_;clear HM;intro W1 HM)|(refine qf ?_;go_at_call 31;refine (calmS x i (by exact pk_rec HM)).mono ?_;rintro e W1 ⟨j2,rfl,HM1⟩;refine ⟨_,rfl,?_⟩;replace HM:=HM1;clear HM1;simp only [calmL,partRcd,List.cons_append,List.nil_append] at HM;simp only [calmL,encRcd])|(refine qg ?_;clear HM;intro g W1 HM))
      exact ret_cell HM rfl rfl rfl ⟨j2,rfl,by simp only [calmL,partRcd,List.cons_append,List.nil_append];exact HM.sb⟩
    · simp only [Bool.not_eq_true] at c2
      have c3 : x.trying = true:=by cases h : x.trying <;> simp_all
      repeat (first|refine Y ?_|(refine qs ?_;clear HM;intro W1 HM)|(refine qf ?_;go_at_call 31;refine (calmS x i (by exact pk_rec HM)).mono ?_;rintro e W1 ⟨j2,rfl,HM1⟩;refine ⟨_,rfl,?_⟩;replace HM:=HM1;clear HM1;simp only [calmL,partRcd,List.cons_append,List.nil_append] at HM;simp only [calmL,encRcd])|(refine qg ?_;clear HM;intro g W1 HM))
      exact ret_cell HM rfl rfl rfl ⟨j2,rfl,by simp only [calmL,partRcd,List.cons_append,List.nil_append];exact HM.sb⟩
end Go.Proofs.YtampmicahnnebaaGreat.Sp
namespace Go.Proofs.YtampmicahnnebaaGreat.Sp
open Go Go.RowKit
set_option maxRecDepth 10000
set_option maxHeartbeats 2000000
variable {w0 W : World} {L : List Asn}
theorem hold_ds (y : Rcd) (m : Msg) : (holdL y m).ds = y.ds ∧ (holdL y m).dk = y.dk ∧ (holdL y m).ballot = y.ballot ∧ (holdL y m).lead = y.lead:=by unfold holdL;split <;> exact ⟨rfl,rfl,rfl,rfl⟩
theorem needL_out {to : Int} {n : Nat} {i : Int} {y : Rcd} (h : ¬ i ≤ y.dk) : needL to n i y = y:=by
  cases n with
  | zero=>rfl
  | succ n=>rw [needL,if_neg h]
theorem takeNeed (x : Rcd) (i : AtRcd) (m : Msg) (am : At) (hv : VR x) (hm : MsgP m x.of) (hk : m.kind = 7) (HM : Mem w0 W (partRcd 91 40 9 3 66 x i ++ L)) : Calls Tryz.prog 56 #[.agg (encRcd x i).toArray,.agg (encMsg m am).toArray] W fun e W'=>∃ j,e = .returned (.agg (encRcd (if x.lead = true ∧ 0 < m.index then needL m.frm 5 m.index x else x) j).toArray) ∧ Mem w0 W' (partRcd 91 40 9 3 66 (if x.lead = true ∧ 0 < m.index then needL m.frm 5 m.index x else x) j ++ L):=by
  refine enter Tryz.func56 rfl Tryz.ntmps56 [(0,.agg (encRcd x i).toArray),(1,.agg (encMsg m am).toArray)] rfl ⟨rfl,rfl,trivial⟩ ?_
  unfold encRcd encMsg
  have hd0:=hv.disk.k0
  have hd1:=hv.disk.k1
  have hdl:=hv.disk.slots.1
  have hix:=hm.index
  simp only [boxR,partRcd,List.cons_append,List.nil_append] at HM
  by_cases c1 : x.lead = true
  rotate_left
  · rw [if_neg (fun h=>c1 h.1)]
    simp only [Bool.not_eq_true] at c1
    repeat (first|refine Y ?_|(refine qg ?_;clear HM;intro g W1 HM))
    refine c_once ?_
    repeat (first|refine Y ?_|(refine qs ?_;clear HM;intro W1 HM))
    exact ret_cell HM rfl rfl rfl ⟨i,rfl,by simp only [boxR,partRcd,List.cons_append,List.nil_append];exact HM.sb⟩
  by_cases c2 : 0 < m.index
  rotate_left
  · rw [if_neg (fun h=>c2 h.2)]
    repeat (first|refine Y ?_|(refine qg ?_;clear HM;intro g W1 HM))
    refine c_once ?_
    repeat (first|refine Y ?_|(refine qs ?_;clear HM;intro W1 HM))
    exact ret_cell HM rfl rfl rfl ⟨i,rfl,by simp only [boxR,partRcd,List.cons_append,List.nil_append];exact HM.sb⟩
  rw [if_pos ⟨c1,c2⟩]
  repeat (first|refine Y ?_|(refine qg ?_;clear HM;intro g W1 HM))
  rename_i gr _ gm _
  replace HM : Mem w0 _ (boxR 91 40 9 3 66 31 gr x i ++ _):=pk_boxr HM
  refine c_loop (σ:=Nat × Rcd) (fun s=>[(2,.pointer (some ⟨gr,0,none⟩)),(3,.pointer (some ⟨gm,0,none⟩)),(4,.pointer (some ⟨g,0,none⟩)),(5,.int .i64 (m.index + s.1))]) (fun s W1=>s.1 ≤ 5 ∧ needL m.frm (5 - s.1) (m.index + s.1) s.2 = needL m.frm 5 m.index x ∧ s.2.ds = x.ds ∧ s.2.dk = x.dk ∧ s.2.lead = true ∧ ∃ j,Mem w0 W1 (boxR 91 40 9 3 66 31 gr s.2 j ++ _)) (fun s=>5 - s.1) (0,x) (by simp only [Int.add_zero,Int.natCast_zero];exact U) ⟨Nat.zero_le _,by simp,rfl,rfl,c1,i,HM⟩ ?_
  clear HM
  rintro ⟨k,y⟩ W1 ⟨hk,hl,e1,e2,e3,j,HM⟩
  dsimp only at hk hl e1 e2 e3 HM ⊢
  simp only [boxR,partRcd,List.cons_append,List.nil_append] at HM
  rw [← e1,← e2] at hd1
  rw [← e1] at hdl
  by_cases h5 : k < 5
  rotate_left
  · rw [show 5 - k = 0 by omega,needL] at hl
    rw [← hl]
    repeat (first|refine Y ?_|(refine qs ?_;clear HM;intro W1 HM))
    exact ret_cell HM rfl rfl rfl ⟨j,rfl,by simp only [boxR,partRcd,List.cons_append,List.nil_append];exact HM.sb⟩
  by_cases hi : m.index + k ≤ y.dk
  rotate_left
  · rw [needL_out hi] at hl
    rw [← hl]
    repeat (first|refine Y ?_|(refine qs ?_;clear HM;intro W1 HM))
    exact ret_cell HM rfl rfl rfl ⟨j,rfl,by simp only [boxR,partRcd,List.cons_append,List.nil_append];exact HM.sb⟩
  obtain ⟨q1,q2,q3,q4⟩:=hold_ds y ⟨6,0,m.frm,y.ballot,m.index + k,0,(rd tSlot y.ds (m.index + k - 1)).text,[]⟩
  have hst : needL m.frm (5 - (k + 1)) (m.index + ((k + 1 : Nat) : Int)) (holdL y ⟨6,0,m.frm,y.ballot,m.index + k,0,(rd tSlot y.ds (m.index + k - 1)).text,[]⟩) = needL m.frm 5 m.index x:=by
    rw [← hl,show 5 - k = (5 - (k + 1)) + 1 by omega,needL,if_pos hi,show m.index + ((k + 1 : Nat) : Int) = m.index + k + 1 by omega]
  repeat (first|(refine gR ?_;refine d_start [15,16] [(0,1),(0,3),(0,5),(0,6),(0,7),(0,9),(0,10),(1,0),(1,2),(1,4),(1,8),(0,11),(0,12),(1,13),(2,14),(3,15),(3,16)] HM (by kernel_rfl) (by kernel_rfl) qq (by kernel_rfl) rfl ?_;intro HQ HS W1 HM1;replace HM:=HM1;clear HM1)|refine Y ?_|(refine qs ?_;clear HM;intro W1 HM)|(refine qf ?_;go_at_call 33;have HM2:=HM.nil tSlot 91;refine (holdS y j ⟨6,0,m.frm,y.ballot,m.index + k,0,(rd tSlot y.ds (m.index + k - 1)).text,[]⟩ (none,0) (by exact pk_holds HM2)).mono ?_;clear HM2;rintro e W1 ⟨j2,rfl,HM1⟩;refine ⟨_,rfl,?_⟩;replace HM:=HM1;clear HM1;simp only [partRcd,List.cons_append,List.nil_append] at HM;simp only [encRcd]))
  exact n_round (k + 1,holdL y ⟨6,0,m.frm,y.ballot,m.index + k,0,(rd tSlot y.ds (m.index + k - 1)).text,[]⟩) (by simp only [Int.natCast_add,Int.natCast_one,← Int.add_assoc];exact U) ⟨by dsimp only;omega,hst,by rw [q1];exact e1,by rw [q2];exact e2,by rw [q4];exact e3,j2,by exact pk_boxr HM⟩ (by dsimp only;omega)
end Go.Proofs.YtampmicahnnebaaGreat.Sp
namespace Go.Proofs.YtampmicahnnebaaGreat.Sp
open Go Go.RowKit
set_option maxRecDepth 10000
set_option maxHeartbeats 2000000
variable {w0 W : World} {L : List Asn}
theorem vr_small {x : Rcd} (h : VR x) : SmallR x:=by
  have h1:=h.safe.slots.1
  have h2:=h.disk.slots.1
  have h3:=h.heldLen
  have h4:=h.wishes.len
  have h5:=nums_len h.yes h.of5
  have h6:=h.best.1
  have h7:=acks_len h.acks
  exact ⟨by omega,by omega,by omega,fun m hm=>by have:=(h.held m hm).1.slots.1;omega,by omega,by omega,by omega,by omega,fun a ha=>by have:=nums_len (h.acks.all a ha).2 h.of5;omega⟩
theorem takeS (x : Rcd) (i : AtRcd) (m : Msg) (am : At) (hv : VR x) (hu : x.up = true) (hm : MsgP m x.of) {b : Bool} (hb : ∀ W',Mem w0 W' L → RoRow (rSlot b) W' am.1 m.slots) (HM : Mem w0 W (partRcd 91 40 9 3 66 x i ++ L)) : Calls Tryz.prog 56 #[.agg (encRcd x i).toArray,.agg (encMsg m am).toArray] W fun e W'=>∃ j,e = .returned (.agg (encRcd (takeL x m) j).toArray) ∧ Mem w0 W' (partRcd 91 40 9 3 66 (takeL x m) j ++ L):=by
  have hk:=hm.kind
  unfold takeL
  by_cases k1 : m.kind = 1
  · rw [if_pos k1];exact takePrep x i m am hv k1 HM
  rw [if_neg k1]
  by_cases k2 : m.kind = 2
  · rw [if_pos k2];exact takePromised x i m am hv hm k2 hb HM
  rw [if_neg k2]
  by_cases k3 : m.kind = 3
  · rw [if_pos k3];exact takeAccept x i m am hv hm k3 HM
  rw [if_neg k3]
  by_cases k4 : m.kind = 4
  · rw [if_pos k4];exact takeAccepted x i m am hv hm k4 HM
  rw [if_neg k4]
  by_cases k5 : m.kind = 5
  · rw [if_pos k5];exact takeBeat x i m am hv hu hm k5 HM
  rw [if_neg k5]
  by_cases k6 : m.kind = 6
  · rw [if_pos k6];exact takeChosen x i m am hv hm k6 HM
  rw [if_neg k6]
  by_cases k7 : m.kind = 7
  · rw [if_pos k7];exact takeNeed x i m am hv hm k7 HM
  rw [if_neg k7]
  by_cases k8 : m.kind = 8
  · rw [if_pos k8];exact takeWished x i m am hv (vr_small hv) hm k8 HM
  rw [if_neg k8,if_pos (show m.kind = 9 by omega)]
  exact takeRefuse x i m am (by omega) HM
end Go.Proofs.YtampmicahnnebaaGreat.Sp
namespace Go.Proofs.YtampmicahnnebaaGreat.Sp
open Go Go.RowKit
set_option maxRecDepth 10000
set_option maxHeartbeats 2000000
variable {w0 W : World} {L : List Asn}
instance {n : Nat} : Flat (tRaw n) id:=⟨fun ⟨_,h,_⟩=>h.1⟩
theorem lels_cons {α : Type} {D : Ty α} {y : α} {ys : List α} {c : List Value} {css : List (List Value)} (h : Mem w0 W (lels D (y :: ys) (c :: css) :: L)) : Mem w0 W (D.A y c :: lels D ys css :: L):=by
  obtain ⟨_,hl,h⟩:=h.ex
  have h2 : Mem w0 W (els D ys css ++ (D.A y c :: L)):=h.perm (List.perm_middle (a:=D.A y c) (l₁:=els D ys css) (l₂:=L)).symm
  exact (Mem.mkx () (by simpa using hl) h2 : Mem w0 W (lels D ys css :: D.A y c :: L)).perm (List.Perm.swap ..)
theorem mid_drop {A R : List Asn} {B : Asn} (h : Mem w0 W (A ++ (B :: R))) : Mem w0 W (A ++ R):=(h.perm List.perm_middle).drop
theorem tick_off (x : Rcd) (i : AtRcd) (h : RoRcd false w0 x i) (hn : SmallR x) (hv : validB x = false) (HM : Mem w0 W L) : Calls Tryz.prog 6 #[.agg (encRcd x i).toArray] W fun e W'=>∃ j A c,e = .returned (.tuple #[.agg (encRcd zeroR j).toArray,.slice A ([] : List Msg).length c]) ∧ Mem w0 W' (own (tMsg 91) 40 A c [] :: (partRcd 91 40 9 3 66 zeroR j ++ L)):=by
  refine enter Tryz.func6 rfl Tryz.ntmps6 [(0,.agg (encRcd x i).toArray)] rfl ⟨rfl,trivial⟩ ?_
  have h0:=h
  unfold encRcd
  repeat (first|refine Y ?_|(refine qs ?_;clear HM;intro W1 HM)|(refine qf ?_;go_at_call 9;refine (specValid x i h0 hn HM).mono ?_;rintro e W1 ⟨rfl,HM1⟩;refine ⟨_,rfl,?_⟩;replace HM:=HM1;clear HM1)|(refine qg ?_;clear HM;intro g W1 HM)|(refine qz ?_;clear HM;intro A1 W1 HM))
  have HM2:=HM.zeroR 91 40 9 3 66
  simp only [partRcd,zeroR,atZ,List.cons_append,List.nil_append] at HM2
  exact ret_ct HM2 rfl rfl rfl rfl ⟨atZ,_,_,rfl,by simp only [partRcd,zeroR,atZ,List.cons_append,List.nil_append];exact HM2.sb⟩
theorem tick_down (x : Rcd) (i : AtRcd) (h : RoRcd false w0 x i) (hn : SmallR x) (hv : validB x = true) (hu : x.up = false) (HM : Mem w0 W L) : Calls Tryz.prog 6 #[.agg (encRcd x i).toArray] W fun e W'=>∃ j A c,e = .returned (.tuple #[.agg (encRcd x j).toArray,.slice A ([] : List Msg).length c]) ∧ Mem w0 W' (own (tMsg 91) 40 A c [] :: (partRcd 91 40 9 3 66 x j ++ L)):=by
  refine enter Tryz.func6 rfl Tryz.ntmps6 [(0,.agg (encRcd x i).toArray)] rfl ⟨rfl,trivial⟩ ?_
  have h0:=h
  unfold encRcd
  repeat (first|refine Y ?_|(refine qs ?_;clear HM;intro W1 HM)|(refine qf ?_;first|(go_at_call 9;refine (specValid x i h0 hn HM).mono ?_;rintro e W1 ⟨rfl,HM1⟩;refine ⟨_,rfl,?_⟩;replace HM:=HM1;clear HM1)|(go_at_call 24;refine (l2Copy_c x _ h0 hn HM).mono ?_;rintro e W1 ⟨j2,rfl,HM1⟩;refine ⟨_,rfl,?_⟩;replace HM:=HM1;clear HM1;simp only [partRcd,List.cons_append,List.nil_append] at HM;simp only [encRcd]))|(refine qg ?_;clear HM;intro g W1 HM)|(refine qz ?_;clear HM;intro A1 W1 HM))
  exact ret_ct HM rfl rfl rfl rfl ⟨j2,_,_,rfl,by simp only [boxR,partRcd,List.cons_append,List.nil_append];exact HM.sb⟩
theorem tickS (x : Rcd) (i : AtRcd) (h : RoRcd false w0 x i) (hn : SmallR x) (hv : validB x = true) (hu : x.up = true) (HM : Mem w0 W L) : Calls Tryz.prog 6 #[.agg (encRcd x i).toArray] W fun e W'=>∃ j A c,e = .returned (.tuple #[.agg (encRcd (tickL x) j).toArray,.slice A (tickOut x).length c]) ∧ Mem w0 W' (own (tMsg 91) 40 A c (tickOut x) :: (partRcd 91 40 9 3 66 (tickL x) j ++ L)):=by
  refine enter Tryz.func6 rfl Tryz.ntmps6 [(0,.agg (encRcd x i).toArray)] rfl ⟨rfl,trivial⟩ ?_
  have h0:=h
  have hV:=validB_iff.1 hv
  have hdl:=hV.disk.slots.1
  have hdk0:=hV.disk.k0
  have hdk1:=hV.disk.k1
  have hhl:=hV.heldLen
  have hwl:=hV.wishes.len
  unfold encRcd
  repeat (first|(refine gCall ?_;obtain ⟨css,hcl,HMr⟩:=opn_raw (HM.pk (A:=own (tMsg 91) 40 j2.a2.1 j2.a2.2 x.held));clear HM;obtain ⟨F1,hF1⟩:=HMr.own (A:=j2.a2.1);have hd:=ro_rdc (ro_raws hF1);rw [List.map_id,hcl] at hd;clear hF1;refine s_appn (ys:=x.held) (css:=css) HMr rfl rfl rfl rfl hd (by omega) (by simp only [List.length_nil];omega) rfl ?_;clear hd;intro A1 c1 W1 HM1;clear HMr;have HM:=HM1;clear HM1)|refine Y ?_|(refine qs ?_;clear HM;intro W1 HM)|(refine qf ?_;first|(go_at_call 9;refine (specValid x i h0 hn HM).mono ?_;rintro e W1 ⟨rfl,HM1⟩;refine ⟨_,rfl,?_⟩;replace HM:=HM1;clear HM1)|(go_at_call 24;refine (l2Copy_c x _ h0 hn HM).mono ?_;rintro e W1 ⟨j2,rfl,HM1⟩;refine ⟨_,rfl,?_⟩;replace HM:=HM1;clear HM1;simp only [partRcd,List.cons_append,List.nil_append] at HM;simp only [encRcd])|(go_at_call 25;obtain ⟨F1,hF1⟩:=HM.own (A:=j2.a1.1);refine (l1Disk_c x.dp x.dk (ro_slots hF1) (by omega) (Mem.start _)).mono ?_;clear hF1;rintro e W1 ⟨A3,c3,rfl,HM1⟩;refine ⟨_,rfl,?_⟩;replace HM:=HM.join HM1;clear HM1;simp only [List.cons_append,List.nil_append] at HM))|(refine qg ?_;clear HM;intro g W1 HM)|(refine qz ?_;clear HM;intro A1 W1 HM))
  rename_i Ao _ Ah _ _
  rename_i g0 _ _ _ _ _ _ _ _ _ _ _ _ _
  have e0 : ([] ++ x.held) = x.held:=List.nil_append _
  simp only [e0] at HM ⊢
  obtain ⟨co,hco⟩ : ∃ co,co = c1:=⟨_,rfl⟩
  subst hco
  have hcd : x.ds.length ≤ j2.a1.2:=by obtain ⟨F1,hF1⟩:=HM.own (A:=j2.a1.1);exact (own_max hF1).2
  have HMn:=(show Mem w0 _ (own tStr 9 A1 0 [] :: (boxR 91 40 9 3 66 31 g { x with sp:=x.dp,sk:=x.dk,ss:=x.ds,held:=[] } ⟨(A3,c3),j2.a1,(Ah,0),j2.a3,j2.a4,j2.a5,j2.a6⟩ ++ _)) from (pk_boxr (x:={ x with sp:=x.dp,sk:=x.dk,ss:=x.ds,held:=[] }) (i:=⟨(A3,c3),j2.a1,(Ah,0),j2.a3,j2.a4,j2.a5,j2.a6⟩) (HM.pk (A:=own tStr 9 A1 0 []))).perm List.perm_middle).name2
  clear HM
  obtain ⟨R,hR,HM⟩:=HMn
  refine c_loop2 (σ:=Nat × List ByteArray) (fun s A c=>[(2,.pointer (some ⟨g0,0,none⟩)),(4,.slice Ao x.held.length co),(5,.pointer (some ⟨g,0,none⟩)),(6,.slice A s.2.length c),(7,.int .i64 s.1)]) (fun s A c W1=>s.1 ≤ x.wishes.length ∧ s.2 = (x.wishes.take s.1).filter (fun w=>!hasB (x.ds.take x.dk.toNat) w) ∧ Mem w0 W1 (own tStr 9 A c s.2 :: (boxR 91 40 9 3 66 31 g { x with sp:=x.dp,sk:=x.dk,ss:=x.ds,held:=[] } ⟨(A3,c3),j2.a1,(Ah,0),j2.a3,j2.a4,j2.a5,j2.a6⟩ ++ R))) (fun s=>x.wishes.length - s.1) (0,[]) A1 0 U ⟨Nat.zero_le _,rfl,HM⟩ ?_
  clear HM
  rintro ⟨k,q⟩ A c W1 ⟨hk,hq,HM⟩
  dsimp only at hk hq HM ⊢
  subst hR
  simp only [boxR,partRcd,List.cons_append,List.nil_append] at HM
  have hql : q.length ≤ k:=by rw [hq];exact Nat.le_trans (List.length_filter_le _ _) (by rw [List.length_take];omega)
  by_cases hlt : k < x.wishes.length
  · have e1:=rd_at (d:=tStr) hlt
    by_cases c1 : hasB (x.ds.take x.dk.toNat) (rd tStr x.wishes k) = true
    · have hst : q = (x.wishes.take (k + 1)).filter (fun w=>!hasB (x.ds.take x.dk.toNat) w):=by
        rw [List.take_succ_eq_append_getElem hlt,List.filter_append,← hq,← e1,List.filter_cons,List.filter_nil,c1];simp
      repeat (first|(refine gR ?_;refine d_start [] [(0,0),(0,1),(0,3),(0,4),(0,7),(0,9),(1,2),(1,5),(0,6),(1,8),(0,10),(1,11),(2,12),(0,13)] HM (by kernel_rfl) (by kernel_rfl) qq (by kernel_rfl) rfl ?_;intro HQ HS W1 HM1;replace HM:=HM1;clear HM1)|refine Y ?_|(refine qf ?_;go_at_call 26;obtain ⟨F1,hF1⟩:=HM.own (A:=j2.a1.1);refine (has3_c (l:=x.dk.toNat) (zs:=x.ds.take x.dk.toNat) (by simp only [List.length_take];omega) (rd tStr x.wishes k) (ro_take (ro_slots hF1) x.dk.toNat) (Mem.start _)).mono ?_;clear hF1;rintro e W1 ⟨rfl,HM1⟩;refine ⟨_,rfl,?_⟩;have HM2:=HM.step HM1.below;clear HM HM1;have HM:=HM2;clear HM2))
      exact n_round2 (k + 1,q) A c U ⟨hlt,hst,by exact (pk_boxr (x:={ x with sp:=x.dp,sk:=x.dk,ss:=x.ds,held:=[] }) (i:=⟨(A3,c3),j2.a1,(Ah,0),j2.a3,j2.a4,j2.a5,j2.a6⟩) (HM.pk (A:=own tStr 9 A c q))).perm List.perm_middle⟩ (by dsimp only;omega)
    · simp only [Bool.not_eq_true] at c1
      have hst : q ++ [rd tStr x.wishes k] = (x.wishes.take (k + 1)).filter (fun w=>!hasB (x.ds.take x.dk.toNat) w):=by
        rw [List.take_succ_eq_append_getElem hlt,List.filter_append,← hq,← e1,List.filter_cons,List.filter_nil,c1];simp
      repeat (first|(refine gR ?_;refine d_start [] [(0,0),(0,1),(0,3),(0,4),(0,7),(0,9),(1,2),(1,5),(0,6),(1,8),(0,10),(1,11),(2,12),(0,13)] HM (by kernel_rfl) (by kernel_rfl) qq (by kernel_rfl) rfl ?_;intro HQ HS W1 HM1;replace HM:=HM1;clear HM1)|refine Y ?_|(refine qf ?_;go_at_call 26;obtain ⟨F1,hF1⟩:=HM.own (A:=j2.a1.1);refine (has3_c (l:=x.dk.toNat) (zs:=x.ds.take x.dk.toNat) (by simp only [List.length_take];omega) (rd tStr x.wishes k) (ro_take (ro_slots hF1) x.dk.toNat) (Mem.start _)).mono ?_;clear hF1;rintro e W1 ⟨rfl,HM1⟩;refine ⟨_,rfl,?_⟩;have HM2:=HM.step HM1.below;clear HM HM1;have HM:=HM2;clear HM2)|(refine qa ?_;clear HM;intro A1 c1 W1 HM)|(refine qg ?_;clear HM;intro g W1 HM))
      exact n_round2 (k + 1,q ++ [rd tStr x.wishes k]) A1 c1 U ⟨hlt,hst,by exact (pk_boxr (x:={ x with sp:=x.dp,sk:=x.dk,ss:=x.ds,held:=[] }) (i:=⟨(A3,c3),j2.a1,(Ah,0),j2.a3,j2.a4,j2.a5,j2.a6⟩) (HM.pk (A:=own tStr 9 A1 c1 (q ++ [rd tStr x.wishes k])))).perm List.perm_middle⟩ (by dsimp only;omega)
  obtain rfl : k = x.wishes.length:=by omega
  rw [List.take_length] at hq
  subst hq
  repeat (first|refine Y ?_|(refine qs ?_;clear HM;intro W1 HM))
  have HMn:=(show Mem w0 _ (boxR 91 40 9 3 66 31 g { x with sp:=x.dp,sk:=x.dk,ss:=x.ds,held:=[],wishes:=x.wishes.filter (fun w=>!hasB (x.ds.take x.dk.toNat) w) } ⟨(A3,c3),j2.a1,(Ah,0),(A,c),j2.a4,j2.a5,j2.a6⟩ ++ _) from pk_boxr (x:={ x with sp:=x.dp,sk:=x.dk,ss:=x.ds,held:=[],wishes:=x.wishes.filter (fun w=>!hasB (x.ds.take x.dk.toNat) w) }) (i:=⟨(A3,c3),j2.a1,(Ah,0),(A,c),j2.a4,j2.a5,j2.a6⟩) HM).name
  clear HM
  obtain ⟨R,hR,HM⟩:=HMn
  refine c_cutn (σ:=AtRcd) (fun s=>[(2,.pointer (some ⟨g0,0,none⟩)),(4,.slice Ao x.held.length co),(5,.pointer (some ⟨g,0,none⟩))]) (fun s W1=>Mem w0 W1 (boxR 91 40 9 3 66 31 g (tick1 x) s ++ R)) ?_ ?_
  · subst hR
    simp only [boxR,partRcd,List.cons_append,List.nil_append] at HM
    have hh1:=hV.h1
    by_cases c1 : x.heard < 1000000
    · have e : tick1 x = { x with sp:=x.dp,sk:=x.dk,ss:=x.ds,held:=[],wishes:=x.wishes.filter (fun w=>!hasB (x.ds.take x.dk.toNat) w),heard:=x.heard + 1 }:=by unfold tick1;rw [if_pos c1]
      have hh0:=hV.h0
      repeat (first|refine Y ?_|(refine qs ?_;clear HM;intro W1 HM))
      exact n_mid ⟨(A3,c3),j2.a1,(Ah,0),(A,c),j2.a4,j2.a5,j2.a6⟩ U (by rw [e];exact pk_boxr (x:={ x with sp:=x.dp,sk:=x.dk,ss:=x.ds,held:=[],wishes:=x.wishes.filter (fun w=>!hasB (x.ds.take x.dk.toNat) w),heard:=x.heard + 1 }) (i:=⟨(A3,c3),j2.a1,(Ah,0),(A,c),j2.a4,j2.a5,j2.a6⟩) HM)
    · have e : tick1 x = { x with sp:=x.dp,sk:=x.dk,ss:=x.ds,held:=[],wishes:=x.wishes.filter (fun w=>!hasB (x.ds.take x.dk.toNat) w) }:=by unfold tick1;rw [if_neg c1]
      repeat ((refine gC ?_;first|refine c_skip ?_|refine c_no rfl (by (simp;omega)) ?_))
      exact n_mid ⟨(A3,c3),j2.a1,(Ah,0),(A,c),j2.a4,j2.a5,j2.a6⟩ U (by rw [e];exact pk_boxr (x:={ x with sp:=x.dp,sk:=x.dk,ss:=x.ds,held:=[],wishes:=x.wishes.filter (fun w=>!hasB (x.ds.take x.dk.toNat) w) }) (i:=⟨(A3,c3),j2.a1,(Ah,0),(A,c),j2.a4,j2.a5,j2.a6⟩) HM)
  clear HM
  rintro j W1 HM
  obtain ⟨hv1,k1⟩:=vr_tick1 hV hu
  have hO : tickOut x = (if (tick2 (tick1 x)).lead = true then leadOut (lead1 (tick2 (tick1 x))) x.held else x.held):=rfl
  have hT : tickL x = (if (tick2 (tick1 x)).lead = true then lead1 (tick2 (tick1 x)) else tick3 (tick2 (tick1 x))):=rfl
  rw [hO,hT]
  clear hO hT
  generalize tick1 x = y at *
  refine c_seq ?_
  refine c_cutn (σ:=AtRcd) (fun s=>[(2,.pointer (some ⟨g0,0,none⟩)),(4,.slice Ao x.held.length co),(5,.pointer (some ⟨g,0,none⟩))]) (fun s W1=>Mem w0 W1 (boxR 91 40 9 3 66 31 g (tick2 y) s ++ R)) ?_ ?_
  · subst hR
    simp only [boxR,partRcd,List.cons_append,List.nil_append] at HM
    by_cases c1 : y.trying = true
    rotate_left
    · have e : tick2 y = y:=if_neg (fun h=>c1 h.1)
      simp only [Bool.not_eq_true] at c1
      repeat refine Y ?_
      exact n_mid j U (by rw [e];exact pk_boxr HM)
    by_cases c2 : y.sp = y.ballot
    rotate_left
    · have e : tick2 y = y:=if_neg (fun h=>c2 h.2)
      repeat refine Y ?_
      exact n_mid j U (by rw [e];exact pk_boxr HM)
    have e : tick2 y = promL y y.number y.ds:=if_pos ⟨c1,c2⟩
    have p0:=hv1.disk.k0
    have p1:=nums_len hv1.yes hv1.of5
    have p2:=hv1.best.1
    have p4:=hv1.disk.slots.1
    repeat (first|refine Y ?_|(refine qs ?_;clear HM;intro W1 HM)|(refine qf ?_;go_at_call 27;have HMp:=(show Mem w0 _ (partRcd 91 40 9 3 66 y j ++ _) from pk_rec HM);refine (promS y j y.number (b:=false) (fun W' h=>by obtain ⟨F1,hF1⟩:=h.own (A:=j.a1.1);exact ro_slots hF1) p0 (by omega) (by omega) (by omega) (by omega) HMp).mono ?_;clear HMp;rintro e W1 ⟨j3,rfl,HM1⟩;refine ⟨_,rfl,?_⟩;replace HM:=HM1;clear HM1;simp only [partRcd,List.cons_append,List.nil_append] at HM;simp only [encRcd]))
    exact n_mid j3 U (by rw [e];exact pk_boxr HM)
  clear HM
  rintro jz W1 HM
  obtain ⟨hv2,k2⟩:=vr_tick2 hv1
  have k12:=k1.trans k2
  have hzu : (tick2 y).up = true:=k12.up.trans hu
  have hzo:=k12.of
  have hzn:=k12.number
  clear k1 k2 hv1
  generalize tick2 y = z at *
  by_cases cl : z.lead = true
  · rw [if_pos cl,if_pos cl]
    subst hR
    simp only [boxR,partRcd,List.cons_append,List.nil_append] at HM
    obtain ⟨hv3,hl3⟩:=vr_lead1 hv2 cl
    have k3:=kp_lead1 hv2 cl
    have hok:=leadOut_ok hv3 hl3 (o:=x.held) (by rw [k3.of,k3.number,hzo,hzn];exact hV.held)
    have hos : ∀ m ∈ leadOut (lead1 z) x.held,m.slots.length ≤ 1048576:=fun m hm=>by have:=(hok m hm).1.slots.1;omega
    have hol : (leadOut (lead1 z) x.held).length ≤ 1048576:=by
      have a1:=accOut_len (lead1 z) ((lead1 z).ds.length - (lead1 z).dk.toNat) (lead1 z).dk.toNat (othL (lead1 z) x.held ⟨5,0,0,(lead1 z).ballot,0,(lead1 z).dk,⟨#[]⟩,[]⟩)
      have a2:=othersL_len (lead1 z).number ⟨5,0,0,(lead1 z).ballot,0,(lead1 z).dk,⟨#[]⟩,[]⟩ (lead1 z).of.toNat 1 x.held
      have a3:=hv3.of5
      have a4:=hv3.disk.slots.1
      have a5 : ((lead1 z).ds.length - (lead1 z).dk.toNat) * (lead1 z).of.toNat ≤ 60 * 5:=Nat.mul_le_mul (by omega) (by omega)
      unfold leadOut
      unfold othL at a1 ⊢
      omega
    repeat (first|refine Y ?_|(refine qs ?_;clear HM;intro W1 HM)|(refine qf ?_;go_at_call 28;refine (leadS z jz (A:=Ao) (c:=co) (o:=x.held) hv2 cl hzu (by omega) ((show Mem w0 _ (partRcd 91 40 9 3 66 z jz ++ _) from pk_rec (HM.pk (A:=own (tMsg 91) 40 Ao co x.held))).perm List.perm_middle)).mono ?_;rintro e W1 ⟨j3,A4,c4,rfl,HM1⟩;refine ⟨_,rfl,?_⟩;replace HM:=HM1;clear HM1;simp only [partRcd,List.cons_append,List.nil_append] at HM;simp only [encRcd]))
    repeat (first|refine Y ?_|(refine qs ?_;clear HM;intro W1 HM)|(refine qf ?_;first|(go_at_call 24;have hro:=ro_rec1 (eS:=91) (eM:=40) (eT:=9) (eI:=3) (eA:=66) (x:=lead1 z) (i:=j3) HM;refine (l2Copy_c (lead1 z) j3 hro (vr_small hv3) (Mem.start _)).mono ?_;clear hro;rintro e W1 ⟨j4,rfl,HM1⟩;refine ⟨_,rfl,?_⟩;replace HM:=HM.join HM1;clear HM1;simp only [partRcd,List.cons_append,List.nil_append] at HM;simp only [encRcd])|(go_at_call 29;obtain ⟨F1,hF1⟩:=HM.own (A:=A4);refine (l2Messages_c (xs:=leadOut (lead1 z) x.held) (ro_msgs hF1) hol hos (Mem.start _)).mono ?_;clear hF1;rintro e W1 ⟨A5,c5,rfl,HM1⟩;refine ⟨_,rfl,?_⟩;replace HM:=HM.join HM1;clear HM1;simp only [List.cons_append,List.nil_append] at HM)))
    exact ret_ct HM rfl rfl rfl rfl ⟨j4,A5,c5,rfl,by simp only [boxR,partRcd,List.cons_append,List.nil_append];exact HM.sb⟩
  rw [if_neg cl,if_neg cl]
  simp only [Bool.not_eq_true] at cl
  subst hR
  simp only [boxR,partRcd,List.cons_append,List.nil_append] at HM
  have hz0:=hv2.h0
  have hz1:=hv2.h1
  have hzn1:=hv2.n1
  have hzno:=hv2.no
  have hzo5:=hv2.of5
  repeat refine Y ?_
  have HMn:=(show Mem w0 _ (boxR 91 40 9 3 66 31 g z jz ++ _) from pk_boxr HM).name
  clear HM
  obtain ⟨R,hR,HM⟩:=HMn
  refine c_cutn (σ:=AtRcd) (fun s=>[(2,.pointer (some ⟨g0,0,none⟩)),(4,.slice Ao x.held.length co),(5,.pointer (some ⟨g,0,none⟩))]) (fun s W1=>Mem w0 W1 (boxR 91 40 9 3 66 31 g (tick3 z) s ++ R)) ?_ ?_
  · by_cases c1 : 4 + 3 * z.number < z.heard
    rotate_left
    · have e : tick3 z = z:=if_neg c1
      subst hR
      simp only [boxR,partRcd,List.cons_append,List.nil_append] at HM
      repeat ((refine gC ?_;first|refine c_skip ?_|refine c_no rfl (by (simp;omega)) ?_))
      exact n_mid jz U (by rw [e];exact pk_boxr HM)
    obtain ⟨n1,n2,n3⟩:=nextL_range (a:=z.dp) (n:=z.number) (o:=z.of)
    have hvt:=vr_try (b:=nextL z.dp z.number z.of) hv2 hzu
    by_cases c2 : 0 < nextL z.dp z.number z.of
    rotate_left
    · have e : tick3 z = { calmL z with heard:=0 }:=by unfold tick3;rw [if_pos c1,if_neg c2]
      subst hR
      simp only [boxR,partRcd,List.cons_append,List.nil_append] at HM
      repeat (first|refine Y ?_|(refine qs ?_;clear HM;intro W1 HM)|(refine qf ?_;first|(go_at_call 30;refine (nextS z.dp z.number z.of HM).mono ?_;rintro e W1 ⟨rfl,HM1⟩;refine ⟨_,rfl,?_⟩;replace HM:=HM1;clear HM1)|(go_at_call 31;refine (calmS z jz (by exact pk_rec HM)).mono ?_;rintro e W1 ⟨j3,rfl,HM1⟩;refine ⟨_,rfl,?_⟩;replace HM:=HM1;clear HM1;simp only [calmL,partRcd,List.cons_append,List.nil_append] at HM;simp only [calmL,encRcd])))
      exact n_mid j3 U (by rw [e];exact pk_boxr (x:={ z with lead:=false,trying:=false,ballot:=0,yes:=[],best:=[],acks:=[],heard:=0 }) (i:=j3) HM)
    have e : tick3 z = holdAll (othL { z with lead:=false,yes:=[],best:=[],acks:=[],heard:=0,dp:=nextL z.dp z.number z.of,ballot:=nextL z.dp z.number z.of,trying:=true } [] ⟨1,0,0,nextL z.dp z.number z.of,0,0,⟨#[]⟩,[]⟩) { z with lead:=false,yes:=[],best:=[],acks:=[],heard:=0,dp:=nextL z.dp z.number z.of,ballot:=nextL z.dp z.number z.of,trying:=true }:=by unfold tick3;rw [if_pos c1,if_pos c2];rfl
    rw [e]
    clear e
    have hvt2:=hvt c2 n2 (n3 c2)
    have hof : 0 ≤ z.of ∧ z.of ≤ 5:=⟨by omega,hzo5⟩
    clear hR
    simp only [boxR,partRcd,List.cons_append,List.nil_append] at HM
    repeat (first|refine Y ?_|(refine qs ?_;clear HM;intro W1 HM)|(refine qf ?_;first|(go_at_call 30;refine (nextS z.dp z.number z.of HM).mono ?_;rintro e W1 ⟨rfl,HM1⟩;refine ⟨_,rfl,?_⟩;replace HM:=HM1;clear HM1)|(go_at_call 31;refine (calmS z jz (by exact pk_rec HM)).mono ?_;rintro e W1 ⟨j3,rfl,HM1⟩;refine ⟨_,rfl,?_⟩;replace HM:=HM1;clear HM1;simp only [calmL,partRcd,List.cons_append,List.nil_append] at HM;simp only [calmL,encRcd])|(go_at_call 32;refine (othersS { z with lead:=false,yes:=[],best:=[],acks:=[],heard:=0,dp:=nextL z.dp z.number z.of,ballot:=nextL z.dp z.number z.of,trying:=true } j3 ⟨1,0,0,nextL z.dp z.number z.of,0,0,⟨#[]⟩,[]⟩ (o:=[]) hof (by simp) (by exact HM.pk)).mono ?_;rintro e W1 ⟨A2,c2,rfl,HM1⟩;refine ⟨_,rfl,?_⟩;replace HM:=HM1;clear HM1))|(refine qz ?_;clear HM;intro A1 W1 HM))
    have hol1:=othersL_len { z with lead:=false,yes:=[],best:=[],acks:=[],heard:=0,dp:=nextL z.dp z.number z.of,ballot:=nextL z.dp z.number z.of,trying:=true }.number ⟨1,0,0,nextL z.dp z.number z.of,0,0,⟨#[]⟩,[]⟩ { z with lead:=false,yes:=[],best:=[],acks:=[],heard:=0,dp:=nextL z.dp z.number z.of,ballot:=nextL z.dp z.number z.of,trying:=true }.of.toNat 1 []
    have HM0:=(show Mem w0 _ (own (tMsg 91) 40 A2 c2 (othL { z with lead:=false,yes:=[],best:=[],acks:=[],heard:=0,dp:=nextL z.dp z.number z.of,ballot:=nextL z.dp z.number z.of,trying:=true } [] ⟨1,0,0,nextL z.dp z.number z.of,0,0,⟨#[]⟩,[]⟩) :: (boxR 91 40 9 3 66 31 g { z with lead:=false,yes:=[],best:=[],acks:=[],heard:=0,dp:=nextL z.dp z.number z.of,ballot:=nextL z.dp z.number z.of,trying:=true } j3 ++ R)) from (pk_boxr (x:={ z with lead:=false,yes:=[],best:=[],acks:=[],heard:=0,dp:=nextL z.dp z.number z.of,ballot:=nextL z.dp z.number z.of,trying:=true }) (i:=j3) (HM.pk (A:=own (tMsg 91) 40 A2 c2 (othL { z with lead:=false,yes:=[],best:=[],acks:=[],heard:=0,dp:=nextL z.dp z.number z.of,ballot:=nextL z.dp z.number z.of,trying:=true } [] ⟨1,0,0,nextL z.dp z.number z.of,0,0,⟨#[]⟩,[]⟩)))).perm List.perm_middle)
    clear HM
    have hll : (othL { z with lead:=false,yes:=[],best:=[],acks:=[],heard:=0,dp:=nextL z.dp z.number z.of,ballot:=nextL z.dp z.number z.of,trying:=true } [] ⟨1,0,0,nextL z.dp z.number z.of,0,0,⟨#[]⟩,[]⟩).length ≤ 5:=by
      have h5 : z.of.toNat ≤ 5:=by omega
      unfold othL
      exact Nat.le_trans hol1 (by show 0 + z.of.toNat ≤ 5;omega)
    have el : othL { z with lead:=false,yes:=[],best:=[],acks:=[],heard:=0,dp:=nextL z.dp z.number z.of,ballot:=nextL z.dp z.number z.of,trying:=true } [] ({ (⟨1,0,0,nextL z.dp z.number z.of,0,0,⟨#[]⟩,[]⟩ : Msg) with slots:=[] }) = othL { z with lead:=false,yes:=[],best:=[],acks:=[],heard:=0,dp:=nextL z.dp z.number z.of,ballot:=nextL z.dp z.number z.of,trying:=true } [] ⟨1,0,0,nextL z.dp z.number z.of,0,0,⟨#[]⟩,[]⟩:=rfl
    simp only [el]
    clear el hol1 hvt2 hvt
    generalize othL { z with lead:=false,yes:=[],best:=[],acks:=[],heard:=0,dp:=nextL z.dp z.number z.of,ballot:=nextL z.dp z.number z.of,trying:=true } [] ⟨1,0,0,nextL z.dp z.number z.of,0,0,⟨#[]⟩,[]⟩ = list at *
    obtain ⟨css,hcl,HM⟩:=opn_raw HM0
    clear HM0
    replace HM:=(show Mem w0 _ (own (tRaw 8) 40 A2 c2 css :: lels (tMsg 91) list css :: (boxR 91 40 9 3 66 31 g { z with lead:=false,yes:=[],best:=[],acks:=[],heard:=0,dp:=nextL z.dp z.number z.of,ballot:=nextL z.dp z.number z.of,trying:=true } j3 ++ R)) from HM)
    obtain ⟨y0,hy0⟩ : ∃ y0 : Rcd,y0 = { z with lead:=false,yes:=[],best:=[],acks:=[],heard:=0,dp:=nextL z.dp z.number z.of,ballot:=nextL z.dp z.number z.of,trying:=true }:=⟨_,rfl⟩
    rw [← hy0] at HM ⊢
    clear hy0
    have HM0:=(HM.perm (show List.Perm _ (boxR 91 40 9 3 66 31 g y0 j3 ++ (lels (tMsg 91) list css :: own (tRaw 8) 40 A2 c2 css :: R)) from (List.Perm.swap ..).trans ((List.Perm.cons _ List.perm_middle.symm).trans List.perm_middle.symm)))
    clear HM
    refine c_loop (σ:=Nat × Rcd) (fun s=>[(2,.pointer (some ⟨g0,0,none⟩)),(4,.slice Ao x.held.length co),(5,.pointer (some ⟨g,0,none⟩)),(9,.slice A2 list.length c2),(10,.int .i64 s.1)]) (fun s W1=>s.1 ≤ list.length ∧ holdAll (list.drop s.1) s.2 = holdAll list y0 ∧ ∃ j,Mem w0 W1 (boxR 91 40 9 3 66 31 g s.2 j ++ (lels (tMsg 91) (list.drop s.1) (css.drop s.1) :: own (tRaw 8) 40 A2 c2 css :: R))) (fun s=>list.length - s.1) (0,y0) U ⟨Nat.zero_le _,rfl,j3,HM0⟩ ?_
    clear HM0
    rintro ⟨k,u⟩ W1 ⟨hk,hl,ju,HM⟩
    dsimp only at hk hl HM ⊢
    simp only [boxR,partRcd,List.cons_append,List.nil_append] at HM
    by_cases hlt : k < list.length
    · have hlc : k < css.length:=by omega
      have hst : holdAll (list.drop (k + 1)) (holdL u list[k]) = holdAll list y0:=by rw [← hl,List.drop_eq_getElem_cons hlt,holdAll]
      replace HM:=HM.pk (A:=lels (tMsg 91) (list.drop k) (css.drop k))
      rw [List.drop_eq_getElem_cons hlt,List.drop_eq_getElem_cons hlc] at HM
      obtain ⟨ik,hik,HMe⟩:=(lels_cons HM).ex
      clear HM
      have HM:=(show Mem w0 _ (own tSlot 91 ik.1 ik.2 list[k].slots :: _) from HMe)
      clear HMe
      simp only [List.cons_append,List.nil_append,List.append_eq] at HM
      have hload : id (rd (tRaw 8) css (k : Int)) = encMsg list[k] ik:=by rw [rd_at hlc];exact hik
      repeat (first|(refine gR ?_;refine d_start [5,6] [(0,1),(0,2),(0,3),(1,0),(1,4),(3,5),(3,6)] HM (by kernel_rfl) (by kernel_rfl) qq (by kernel_rfl) rfl ?_;intro HQ HS W1 HM1;replace HM:=HM1;clear HM1)|refine Y ?_|(refine qs ?_;clear HM;intro W1 HM)|(refine qf ?_;go_at_call 33;rw [hload];refine (holdS u ju list[k] ik (by exact pk_holds HM)).mono ?_;rintro e W1 ⟨j2,rfl,HM1⟩;refine ⟨_,rfl,?_⟩;replace HM:=HM1;clear HM1;simp only [partRcd,List.cons_append,List.nil_append] at HM;simp only [encRcd]))
      exact n_round (k + 1,holdL u list[k]) U ⟨hlt,hst,j2,by exact pk_boxr HM⟩ (by dsimp only;omega)
    · rw [List.drop_eq_nil_of_le (by omega),holdAll] at hl
      rw [← hl]
      repeat refine Y ?_
      exact n_mid ju U (mid_drop (mid_drop (show Mem w0 _ (boxR 91 40 9 3 66 31 g u ju ++ (lels (tMsg 91) (list.drop k) (css.drop k) :: own (tRaw 8) 40 A2 c2 css :: R)) from pk_boxr HM)))
  clear HM
  rintro j3 W1 HM
  obtain ⟨hv3,k3⟩:=vr_tick3 hv2 hzu
  have hos : ∀ m ∈ x.held,m.slots.length ≤ 1048576:=fun m hm=>by have:=(hV.held m hm).1.slots.1;omega
  have hol : x.held.length ≤ 1048576:=by omega
  generalize tick3 z = u at *
  subst hR
  simp only [boxR,partRcd,List.cons_append,List.nil_append] at HM
  repeat (first|refine Y ?_|(refine qs ?_;clear HM;intro W1 HM)|(refine qf ?_;first|(go_at_call 24;have hro:=ro_rec1 (eS:=91) (eM:=40) (eT:=9) (eI:=3) (eA:=66) (x:=u) (i:=j3) HM;refine (l2Copy_c (u) j3 hro (vr_small hv3) (Mem.start _)).mono ?_;clear hro;rintro e W1 ⟨j4,rfl,HM1⟩;refine ⟨_,rfl,?_⟩;replace HM:=HM.join HM1;clear HM1;simp only [partRcd,List.cons_append,List.nil_append] at HM;simp only [encRcd])|(go_at_call 29;obtain ⟨F1,hF1⟩:=HM.own (A:=Ao);refine (l2Messages_c (xs:=x.held) (ro_msgs hF1) hol hos (Mem.start _)).mono ?_;clear hF1;rintro e W1 ⟨A5,c5,rfl,HM1⟩;refine ⟨_,rfl,?_⟩;replace HM:=HM.join HM1;clear HM1;simp only [List.cons_append,List.nil_append] at HM)))
  exact ret_ct HM rfl rfl rfl rfl ⟨j4,A5,c5,rfl,by simp only [boxR,partRcd,List.cons_append,List.nil_append];exact HM.sb⟩
end Go.Proofs.YtampmicahnnebaaGreat.Sp
