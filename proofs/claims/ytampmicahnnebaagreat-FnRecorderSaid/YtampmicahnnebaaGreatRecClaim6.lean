/- follow, slot, refuse, of both sides. No condition. -/
import Derived.Test.YtampmicahnnebaaGreatRecClaim4
import Derived.Test.YtampmicahnnebaaGreatRecClaim3
import Derived.Test.YtampmicahnnebaaGreatRecClaim2
import Derived.Test.YtampmicahnnebaaGreatRecClaim5
import Derived.Test.YtampmicahnnebaaGreatRecClaim1
set_option linter.unusedVariables false
set_option linter.unusedSimpArgs false
namespace Go.Proofs.YtampmicahnnebaaGreat.Sp
open Go Go.RowKit
set_option maxRecDepth 10000
set_option maxHeartbeats 1000000
variable {w0 W : World} {L : List Asn}
theorem p_max {P : Program} {E : Env} {x y : Operand} {ts : Array TypeId} {k : IntKind} {m q : Int} (hx : ev E x = some (.int k m)) (hy : ev E y = some (.int k q)) : PV P E (.call { callee:=.builtin .max,args:=#[x,y],argTypes:=ts }) (.int k (max m q)):=⟨fun n a ha dst ty pos after gd W=>by
  have : (if q > m then q else m) = max m q:=by split <;> omega
  simp [execOp,ha.eval hx,ha.eval hy,resolve,invoke,builtin,Builtin.max_,Builtin.max2,this]⟩
theorem followM (x : Rcd) (i : AtRcd) (g : Nat) (b : Int) (HM : Mem w0 W (boxR 91 40 9 3 66 31 g x i ++ L)) : Calls Tryz.prog 93 #[.pointer (some ⟨g,0,none⟩),.int .i64 b] W fun e W'=>∃ j,e = .returned (.tuple #[]) ∧ Mem w0 W' (boxR 91 40 9 3 66 31 g (followL x b) j ++ L):=by
  refine enter Tryz.func93 rfl Tryz.ntmps93 [(0,_),(1,_)] rfl ⟨rfl,rfl,trivial⟩ ?_
  simp only [boxR,partRcd,List.cons_append,List.nil_append] at HM
  by_cases c1 : b = x.ballot
  · have e : followL x b = { x with dp:=max x.dp b,heard:=0 }:=by rw [followL,if_pos c1]
    repeat (first|(refine gGP ?_;refine gp (p_max rfl rfl) ?_)|refine Y ?_|(refine qs ?_;clear HM;intro W1 HM))
    rw [e]
    exact end_none rfl ⟨i,rfl,by simp only [boxR,partRcd,List.cons_append,List.nil_append];exact HM.sb⟩
  · have e : followL x b = { calmL { x with dp:=max x.dp b } with heard:=0 }:=by rw [followL,if_neg c1]
    repeat (first|(refine gGP ?_;refine gp (p_max rfl rfl) ?_)|refine Y ?_|(refine qs ?_;clear HM;intro W1 HM)|(refine qf ?_;go_at_call 75;refine (quietM { x with dp:=max x.dp b } i _ (by exact pk_boxr HM)).mono ?_;rintro e W1 ⟨j,rfl,HM1⟩;refine ⟨_,rfl,?_⟩;replace HM:=HM1;clear HM1;simp only [calmL,boxR,partRcd,List.cons_append,List.nil_append] at HM))
    rw [e]
    exact end_none rfl ⟨j,rfl,by simp only [calmL,boxR,partRcd,List.cons_append,List.nil_append];exact HM.sb⟩
theorem followS (x : Rcd) (i : AtRcd) (b : Int) (HM : Mem w0 W (partRcd 91 40 9 3 66 x i ++ L)) : Calls Tryz.prog 95 #[.agg (encRcd x i).toArray,.int .i64 b] W fun e W'=>∃ j,e = .returned (.agg (encRcd (followL x b) j).toArray) ∧ Mem w0 W' (partRcd 91 40 9 3 66 (followL x b) j ++ L):=by
  refine enter Tryz.func95 rfl Tryz.ntmps95 [(0,.agg (encRcd x i).toArray),(1,_)] rfl ⟨rfl,rfl,trivial⟩ ?_
  unfold encRcd
  simp only [partRcd,List.cons_append,List.nil_append] at HM
  by_cases c0 : x.dp < b
  · have em : max x.dp b = b:=by omega
    by_cases c1 : b = x.ballot
    · have e : followL x b = { x with dp:=b,heard:=0 }:=by rw [followL,if_pos c1,em]
      repeat (first|refine Y ?_|(refine qs ?_;clear HM;intro W1 HM)|(refine qg ?_;clear HM;intro g W1 HM))
      rw [e]
      exact ret_cell HM rfl rfl rfl ⟨i,rfl,by simp only [partRcd,List.cons_append,List.nil_append];exact HM.sb⟩
    · have e : followL x b = { calmL { x with dp:=b } with heard:=0 }:=by rw [followL,if_neg c1,em]
      repeat (first|refine Y ?_|(refine qs ?_;clear HM;intro W1 HM)|(refine qf ?_;go_at_call 31;refine (calmS { x with dp:=b } i (by exact pk_rec HM)).mono ?_;rintro e W1 ⟨j,rfl,HM1⟩;refine ⟨_,rfl,?_⟩;replace HM:=HM1;clear HM1;simp only [calmL,partRcd,List.cons_append,List.nil_append] at HM;simp only [calmL,encRcd])|(refine qg ?_;clear HM;intro g W1 HM))
      rw [e]
      exact ret_cell HM rfl rfl rfl ⟨j,rfl,by simp only [calmL,partRcd,List.cons_append,List.nil_append];exact HM.sb⟩
  · have em : max x.dp b = x.dp:=by omega
    by_cases c1 : b = x.ballot
    · have e : followL x b = { x with heard:=0 }:=by rw [followL,if_pos c1,em]
      repeat (first|refine Y ?_|(refine qs ?_;clear HM;intro W1 HM)|(refine qg ?_;clear HM;intro g W1 HM))
      rw [e]
      exact ret_cell HM rfl rfl rfl ⟨i,rfl,by simp only [partRcd,List.cons_append,List.nil_append];exact HM.sb⟩
    · have e : followL x b = { calmL x with heard:=0 }:=by rw [followL,if_neg c1,em]
      repeat (first|refine Y ?_|(refine qs ?_;clear HM;intro W1 HM)|(refine qf ?_;go_at_call 31;refine (calmS x i (by exact pk_rec HM)).mono ?_;rintro e W1 ⟨j,rfl,HM1⟩;refine ⟨_,rfl,?_⟩;replace HM:=HM1;clear HM1;simp only [calmL,partRcd,List.cons_append,List.nil_append] at HM;simp only [calmL,encRcd])|(refine qg ?_;clear HM;intro g W1 HM))
      rw [e]
      exact ret_cell HM rfl rfl rfl ⟨j,rfl,by simp only [calmL,partRcd,List.cons_append,List.nil_append];exact HM.sb⟩
theorem refuseM (x : Rcd) (i : AtRcd) (g : Nat) (to : Int) (HM : Mem w0 W (boxR 91 40 9 3 66 31 g x i ++ L)) : Calls Tryz.prog 92 #[.pointer (some ⟨g,0,none⟩),.int .i64 to] W fun e W'=>∃ j,e = .returned (.tuple #[]) ∧ Mem w0 W' (boxR 91 40 9 3 66 31 g (holdL x ⟨9,0,to,x.dp,0,0,⟨#[]⟩,[]⟩) j ++ L):=by
  refine enter Tryz.func92 rfl Tryz.ntmps92 [(0,_),(1,_)] rfl ⟨rfl,rfl,trivial⟩ ?_
  simp only [boxR,partRcd,List.cons_append,List.nil_append] at HM
  repeat (first|refine Y ?_|(refine qf ?_;go_at_call 78;have HM2:=HM.nil tSlot 91;refine (holdM x i g ⟨9,0,to,x.dp,0,0,⟨#[]⟩,[]⟩ (none,0) (by exact pk_hold HM2)).mono ?_;clear HM2;rintro e W1 ⟨j,rfl,HM1⟩;refine ⟨_,rfl,?_⟩;replace HM:=HM1;clear HM1))
  exact end_none rfl ⟨j,rfl,HM⟩
end Go.Proofs.YtampmicahnnebaaGreat.Sp
namespace Go.Proofs.YtampmicahnnebaaGreat.Sp
open Go Go.RowKit
set_option maxRecDepth 10000
set_option maxHeartbeats 1000000
variable {w0 W : World} {L : List Asn}
theorem slotM (x : Rcd) (i : AtRcd) (gr : Nat) (ix : Int) (s : Slot) (h1 : 1 ≤ ix) (h2 : ix ≤ 1048576) (hn : x.ds.length ≤ 1048576) (HM : Mem w0 W (boxR 91 40 9 3 66 31 gr x i ++ L)) : Calls Tryz.prog 94 #[.pointer (some ⟨gr,0,none⟩),.int .i64 ix,.agg (encSlot s ()).toArray] W fun e W'=>∃ j,e = .returned (.tuple #[]) ∧ Mem w0 W' (boxR 91 40 9 3 66 31 gr (setL x ix s) j ++ L):=by
  refine enter Tryz.func94 rfl Tryz.ntmps94 [(0,_),(1,_),(2,.agg (encSlot s ()).toArray)] rfl ⟨rfl,rfl,rfl,trivial⟩ ?_
  unfold encSlot
  simp only [boxR,partRcd,List.cons_append,List.nil_append] at HM
  repeat (first|(refine qg ?_;clear HM;intro g W1 HM)|refine Y ?_)
  refine c_loop2 (σ:=List Slot) (fun ds A c=>[(0,.pointer (some ⟨gr,0,none⟩)),(1,.int .i64 ix),(5,.pointer (some ⟨g,0,none⟩))]) (fun ds A c W1=>padL ds ix.toNat = padL x.ds ix.toNat ∧ ds.length ≤ max x.ds.length ix.toNat ∧ Mem w0 W1 (box gr 31 [.int .i64 x.number,.int .i64 x.of,.bool x.up,.int .i64 x.sp,.int .i64 x.sk,.slice i.a0.1 x.ss.length i.a0.2,.int .i64 x.dp,.int .i64 x.dk,.slice A ds.length c,.slice i.a2.1 x.held.length i.a2.2,.slice i.a3.1 x.wishes.length i.a3.2,.bool x.lead,.bool x.trying,.int .i64 x.ballot,.slice i.a4.1 x.yes.length i.a4.2,.slice i.a5.1 x.best.length i.a5.2,.slice i.a6.1 x.acks.length i.a6.2,.int .i64 x.heard] :: own tSlot 91 A c ds :: _)) (fun ds=>ix.toNat - ds.length) x.ds i.a1.1 i.a1.2 U ⟨rfl,by omega,(HM.pk (A:=own tSlot 91 i.a1.1 i.a1.2 x.ds)).pk (A:=box gr 31 [.int .i64 x.number,.int .i64 x.of,.bool x.up,.int .i64 x.sp,.int .i64 x.sk,.slice i.a0.1 x.ss.length i.a0.2,.int .i64 x.dp,.int .i64 x.dk,.slice i.a1.1 x.ds.length i.a1.2,.slice i.a2.1 x.held.length i.a2.2,.slice i.a3.1 x.wishes.length i.a3.2,.bool x.lead,.bool x.trying,.int .i64 x.ballot,.slice i.a4.1 x.yes.length i.a4.2,.slice i.a5.1 x.best.length i.a5.2,.slice i.a6.1 x.acks.length i.a6.2,.int .i64 x.heard])⟩ ?_
  clear HM
  rintro ds A c W1 ⟨hp,hl,HM⟩
  by_cases hlt : (ds.length : Int) < ix
  · repeat (first|refine Y ?_|(refine qs ?_;clear HM;intro W1 HM)|(refine qa ?_;clear HM;intro A1 c1 W1 HM)|(refine qg ?_;clear HM;intro g W1 HM))
    have e1 : (ds ++ [(⟨0,⟨#[]⟩⟩ : Slot)]).length = ds.length + 1:=by simp
    exact n_round2 (ds ++ [⟨0,⟨#[]⟩⟩]) A1 c1 U ⟨by rw [padL_step (by omega)];exact hp,by rw [e1];omega,HM.sb⟩ (by rw [e1];omega)
  · have e : setL x ix s = { x with ds:=ds.set (ix - 1).toNat s }:=by rw [setL,← hp,padL_le (by omega)]
    have hi : (ix - 1).toNat < ds.length:=by omega
    repeat (first|(refine gR ?_;refine d_start [9] [(0,0),(0,1),(0,2),(0,3),(0,5),(0,6),(1,4),(1,7),(0,8),(3,9)] HM (by kernel_rfl) (by kernel_rfl) qq (by kernel_rfl) rfl ?_;intro HQ HS W1 HM1;replace HM:=HM1;clear HM1)|refine Y ?_|(refine gStore ?_;refine s_storew HM rfl rfl rfl (by omega) (by omega) rfl ?_;clear HM;intro W1 HM))
    rw [e]
    exact end_none rfl ⟨⟨i.a0,(A,c),i.a2,i.a3,i.a4,i.a5,i.a6⟩,rfl,by simp only [boxR,partRcd,List.cons_append,List.nil_append,List.length_set];exact HM.sb⟩
theorem slotSetS (x : Rcd) (i : AtRcd) (ix : Int) (s : Slot) (h1 : 1 ≤ ix) (h2 : ix ≤ 1048576) (hn : x.ds.length ≤ 1048576) (HM : Mem w0 W (partRcd 91 40 9 3 66 x i ++ L)) : Calls Tryz.prog 82 #[.agg (encRcd x i).toArray,.int .i64 ix,.agg (encSlot s ()).toArray] W fun e W'=>∃ j,e = .returned (.agg (encRcd (setL x ix s) j).toArray) ∧ Mem w0 W' (partRcd 91 40 9 3 66 (setL x ix s) j ++ L):=by
  refine enter Tryz.func82 rfl Tryz.ntmps82 [(0,.agg (encRcd x i).toArray),(1,_),(2,.agg (encSlot s ()).toArray)] rfl ⟨rfl,rfl,rfl,trivial⟩ ?_
  unfold encSlot encRcd
  simp only [partRcd,List.cons_append,List.nil_append] at HM
  repeat (first|(refine qg ?_;clear HM;intro g W1 HM)|refine Y ?_)
  rename_i gr _ gs _
  refine c_loop2 (σ:=List Slot) (fun ds A c=>[(1,.int .i64 ix),(3,.pointer (some ⟨gr,0,none⟩)),(5,.pointer (some ⟨gs,0,none⟩)),(6,.pointer (some ⟨g,0,none⟩))]) (fun ds A c W1=>padL ds ix.toNat = padL x.ds ix.toNat ∧ ds.length ≤ max x.ds.length ix.toNat ∧ Mem w0 W1 (box gr 31 [.int .i64 x.number,.int .i64 x.of,.bool x.up,.int .i64 x.sp,.int .i64 x.sk,.slice i.a0.1 x.ss.length i.a0.2,.int .i64 x.dp,.int .i64 x.dk,.slice A ds.length c,.slice i.a2.1 x.held.length i.a2.2,.slice i.a3.1 x.wishes.length i.a3.2,.bool x.lead,.bool x.trying,.int .i64 x.ballot,.slice i.a4.1 x.yes.length i.a4.2,.slice i.a5.1 x.best.length i.a5.2,.slice i.a6.1 x.acks.length i.a6.2,.int .i64 x.heard] :: own tSlot 91 A c ds :: _)) (fun ds=>ix.toNat - ds.length) x.ds i.a1.1 i.a1.2 U ⟨rfl,by omega,(HM.pk (A:=own tSlot 91 i.a1.1 i.a1.2 x.ds)).pk (A:=box gr 31 [.int .i64 x.number,.int .i64 x.of,.bool x.up,.int .i64 x.sp,.int .i64 x.sk,.slice i.a0.1 x.ss.length i.a0.2,.int .i64 x.dp,.int .i64 x.dk,.slice i.a1.1 x.ds.length i.a1.2,.slice i.a2.1 x.held.length i.a2.2,.slice i.a3.1 x.wishes.length i.a3.2,.bool x.lead,.bool x.trying,.int .i64 x.ballot,.slice i.a4.1 x.yes.length i.a4.2,.slice i.a5.1 x.best.length i.a5.2,.slice i.a6.1 x.acks.length i.a6.2,.int .i64 x.heard])⟩ ?_
  clear HM
  rintro ds A c W1 ⟨hp,hl,HM⟩
  by_cases hlt : (ds.length : Int) < ix
  · repeat (first|refine Y ?_|(refine qs ?_;clear HM;intro W1 HM)|(refine qa ?_;clear HM;intro A1 c1 W1 HM)|(refine qg ?_;clear HM;intro g W1 HM))
    have e1 : (ds ++ [(⟨0,⟨#[]⟩⟩ : Slot)]).length = ds.length + 1:=by simp
    exact n_round2 (ds ++ [⟨0,⟨#[]⟩⟩]) A1 c1 U ⟨by rw [padL_step (by omega)];exact hp,by rw [e1];omega,HM.sb⟩ (by rw [e1];omega)
  · have e : setL x ix s = { x with ds:=ds.set (ix - 1).toNat s }:=by rw [setL,← hp,padL_le (by omega)]
    have hi : (ix - 1).toNat < ds.length:=by omega
    repeat (first|refine Y ?_|(refine qs ?_;clear HM;intro W1 HM)|(refine gStore ?_;refine s_storew HM rfl rfl rfl (by omega) (by omega) rfl ?_;clear HM;intro W1 HM))
    rw [e]
    refine ret_cell HM rfl rfl rfl ⟨⟨i.a0,(A,c),i.a2,i.a3,i.a4,i.a5,i.a6⟩,?_,?_⟩
    · simp only [encRcd,List.length_set]
    · simp only [partRcd,List.cons_append,List.nil_append];exact HM.sb
end Go.Proofs.YtampmicahnnebaaGreat.Sp
namespace Go.Proofs.YtampmicahnnebaaGreat.Sp
open Go Go.RowKit
set_option maxRecDepth 10000
set_option maxHeartbeats 4000000
variable {w0 W : World} {L : List Asn}
def gotL (x : Rcd) (f : Int) (bs : List Slot) : Rcd:={ x with yes:=addL x.yes f,best:=mergeL x.best bs }
theorem promShort (x : Rcd) (i : AtRcd) (f : Int) {b : Bool} {B : Option Addr} {d : Nat} {bs : List Slot} (hb : ∀ W',Mem w0 W' (own tSlot 91 i.a1.1 i.a1.2 x.ds :: L) → RoRow (rSlot b) W' B bs) (h1 : x.yes.length ≤ 1048576) (h2 : x.best.length ≤ 1048576) (h3 : bs.length ≤ 1048576) (hs : 2 * ((addL x.yes f).length : Int) ≤ x.of) (HM : Mem w0 W (partRcd 91 40 9 3 66 x i ++ L)) : Calls Tryz.prog 27 #[.agg (encRcd x i).toArray,.int .i64 f,.slice B bs.length d] W fun e W'=>∃ j,e = .returned (.agg (encRcd (gotL x f bs) j).toArray) ∧ Mem w0 W' (partRcd 91 40 9 3 66 (gotL x f bs) j ++ L):=by
  refine enter Tryz.func27 rfl Tryz.ntmps27 [(0,.agg (encRcd x i).toArray),(1,_),(2,_)] rfl ⟨rfl,rfl,rfl,trivial⟩ ?_
  unfold encRcd
  have hal:=addL_len x.yes f
  simp only [partRcd,List.cons_append,List.nil_append] at HM
  repeat (first|refine Y ?_|(refine qs ?_;clear HM;intro W1 HM)|(refine qf ?_;first|(go_at_call 80;refine (addS (xs:=x.yes) (A:=i.a4.1) (c:=i.a4.2) f h1 (by exact HM.pk)).mono ?_;rintro e2 W2 ⟨A2,c2,rfl,HM1⟩;refine ⟨_,rfl,?_⟩;replace HM:=HM1;clear HM1)|(go_at_call 81;obtain ⟨F1,hF1⟩:=HM.own (A:=i.a5.1);have hbs:=hb _ (by exact HM.sb);refine (recMergeS (ro_slots hF1) hbs h2 h3 (Mem.start _)).mono ?_;clear hF1 hbs;rintro e W1 ⟨A3,c3,rfl,HM1⟩;refine ⟨_,rfl,?_⟩;replace HM:=HM.join HM1;clear HM1;simp only [List.cons_append,List.nil_append] at HM))|(refine qg ?_;clear HM;intro g W1 HM))
  exact ret_cell HM rfl rfl rfl ⟨⟨i.a0,i.a1,i.a2,i.a3,(A2,c2),(A3,c3),i.a6⟩,rfl,by simp only [gotL,partRcd,List.cons_append,List.nil_append];exact HM.sb⟩
theorem calmSk (x : Rcd) (i : AtRcd) (HM : Mem w0 W (partRcd 91 40 9 3 66 x i ++ L)) : Calls Tryz.prog 31 #[.agg (encRcd x i).toArray] W fun e W'=>∃ j,e = .returned (.agg (encRcd (calmL x) j).toArray) ∧ Mem w0 W' (partRcd 91 40 9 3 66 (calmL x) j ++ own tSlot 91 i.a5.1 i.a5.2 x.best :: L):=by
  refine enter Tryz.func31 rfl Tryz.ntmps31 [(0,.agg (encRcd x i).toArray)] rfl ⟨rfl,trivial⟩ ?_
  unfold encRcd
  simp only [partRcd,List.cons_append,List.nil_append] at HM
  repeat (first|refine Y ?_|(refine qs ?_;clear HM;intro W1 HM)|(refine qg ?_;clear HM;intro g W1 HM)|(refine qz ?_;clear HM;intro A1 W1 HM))
  have e : calmL x = { x with lead:=false,trying:=false,ballot:=0,yes:=[],best:=[],acks:=[] }:=rfl
  rw [e]
  rename_i Ay _ _ Ab _ _ _ _
  exact ret_cell HM rfl rfl rfl ⟨⟨i.a0,i.a1,i.a2,i.a3,(Ay,0),(Ab,0),(A1,0)⟩,rfl,by simp only [partRcd,List.cons_append,List.nil_append];exact HM.sb⟩
def layL (b : Int) (best : List Slot) : Nat → Nat → Rcd → Rcd
  | 0,_,y=>y
  | n + 1,k,y=>layL b best n (k + 1) (setL y ((k : Int) + 1) ⟨b,(rd tSlot best k).text⟩)
def wonL (x : Rcd) : Rcd:={ calmL x with lead:=true,ballot:=x.ballot }
def promL (x : Rcd) (f : Int) (bs : List Slot) : Rcd :=
  if 2 * ((addL x.yes f).length : Int) ≤ x.of then gotL x f bs
  else layL x.ballot (mergeL x.best bs) ((mergeL x.best bs).length - x.dk.toNat) x.dk.toNat (wonL (gotL x f bs))
theorem setL_ds (x : Rcd) (ix : Int) (s : Slot) : (setL x ix s).ds.length = max x.ds.length ix.toNat:=by simp only [setL,List.length_set,padL_len]
end Go.Proofs.YtampmicahnnebaaGreat.Sp
namespace Go.Proofs.YtampmicahnnebaaGreat.Sp
open Go Go.RowKit
set_option maxRecDepth 10000
set_option maxHeartbeats 1000000
variable {w0 W : World} {L : List Asn} {A : Option Addr} {c : Nat} {b : Bool}
def hasB (zs : List Slot) (t : ByteArray) : Bool:=zs.any (fun s=>decide (0 < s.ballot) && decide (s.text = t))
def knownB (zs : List Slot) (t : ByteArray) : Bool:=zs.any (fun s=>decide (s.text = t))
theorem any_hit {α : Type} {p : α → Bool} {zs : List α} {k : Nat} (hk : k < zs.length) (h : p zs[k] = true) : zs.any p = true:=List.any_eq_true.2 ⟨_,List.getElem_mem hk,h⟩
theorem any_succ {α : Type} {p : α → Bool} {zs : List α} {k : Nat} (hk : k < zs.length) (h0 : (zs.take k).any p = false) (h : p zs[k] = false) : (zs.take (k + 1)).any p = false:=by
  rw [List.take_succ_eq_append_getElem hk,List.any_append,h0];simp [h]
theorem has3_c {zs : List Slot} {l : Nat} (hl : l = zs.length) (t : ByteArray) (h : RoRow (rSlot b) w0 A zs) (HM : Mem w0 W L) : Calls Tryz.prog 26 #[.slice A l c,.string t] W fun e W'=>e = .returned (.bool (hasB zs t)) ∧ Mem w0 W' L:=by
  subst hl
  refine enter Tryz.func26 rfl Tryz.ntmps26 [(0,_),(1,_)] rfl ⟨rfl,rfl,trivial⟩ ?_
  have hmax:=h.max
  replace HM:=HM.rod h
  repeat refine Y ?_
  refine c_loop (σ:=Nat) (fun k=>[(0,.slice A zs.length c),(1,.string t),(5,.int .i64 k)]) (fun k W1=>k ≤ zs.length ∧ hasB (zs.take k) t = false ∧ Mem w0 W1 (ro (rSlot b) w0 A zs :: L)) (fun k=>zs.length - k) 0 U ⟨Nat.zero_le _,rfl,HM⟩ ?_
  clear HM
  rintro k W1 ⟨hk,hp,HM⟩
  by_cases hlt : k < zs.length
  · have e0:=rdR_at (D:=rSlot b) hlt
    by_cases hb : 0 < (rdR (rSlot b) zs k).ballot
    · by_cases ht : (rdR (rSlot b) zs k).text = t
      · repeat refine Y ?_
        rw [e0] at hb ht
        exact ret_tmp rfl rfl ⟨by rw [hasB,any_hit hlt (by simp [hb,ht])],HM.sb⟩
      · repeat refine Y ?_
        rw [e0] at hb ht
        exact n_round (k + 1) U ⟨by omega,any_succ hlt hp (by simp [hb,ht]),HM.sb⟩ (by omega)
    · repeat refine Y ?_
      rw [e0] at hb
      exact n_round (k + 1) U ⟨by omega,any_succ hlt hp (by simp [hb]),HM.sb⟩ (by omega)
  · repeat refine Y ?_
    obtain rfl : k = zs.length:=by omega
    rw [List.take_length] at hp
    exact ret_tmp rfl rfl ⟨by rw [hp],HM.sb⟩
theorem knownM (x : Rcd) (i : AtRcd) (g : Nat) (t : ByteArray) (hk0 : 0 ≤ x.dk) (hk1 : x.dk ≤ x.ds.length) (hc : x.ds.length ≤ i.a1.2) (h : RoRow (rSlot false) w0 i.a1.1 x.ds) (hb : w0.heap[g]? = some (.cells ([.int .i64 x.number,.int .i64 x.of,.bool x.up,.int .i64 x.sp,.int .i64 x.sk,.slice i.a0.1 x.ss.length i.a0.2,.int .i64 x.dp,.int .i64 x.dk,.slice i.a1.1 x.ds.length i.a1.2,.slice i.a2.1 x.held.length i.a2.2,.slice i.a3.1 x.wishes.length i.a3.2,.bool x.lead,.bool x.trying,.int .i64 x.ballot,.slice i.a4.1 x.yes.length i.a4.2,.slice i.a5.1 x.best.length i.a5.2,.slice i.a6.1 x.acks.length i.a6.2,.int .i64 x.heard]).toArray 31 (0,0))) (HM : Mem w0 W L) : Calls Tryz.prog 67 #[.pointer (some ⟨g,0,none⟩),.string t] W fun e W'=>e = .returned (.bool (knownB (x.ds.take x.dk.toNat) t)) ∧ Mem w0 W' L:=by
  refine enter Tryz.func67 rfl Tryz.ntmps67 [(0,_),(1,_)] rfl ⟨rfl,rfl,trivial⟩ ?_
  have hz : (x.ds.take x.dk.toNat).length = x.dk.toNat:=by simp;omega
  have h1:=ro_take h x.dk.toNat
  have hmax:=h.max
  generalize x.ds.take x.dk.toNat = zs at hz h1 ⊢
  replace HM:=(HM.rod h1).robox hb
  repeat (first|(refine gR ?_;refine d_start [] [(0,0),(0,1),(0,2),(0,3),(0,5),(0,6),(0,7),(0,8),(0,12),(1,4),(1,9),(0,10),(0,11)] HM (by kernel_rfl) (by kernel_rfl) qq (by kernel_rfl) rfl ?_;intro HQ HS W1 HM1;replace HM:=HM1;clear HM1)|refine Y ?_)
  refine c_loop (σ:=Nat) (fun k=>[(1,.string t),(17,.slice i.a1.1 x.dk.toNat i.a1.2),(18,.int .i64 x.dk.toNat),(19,.int .i64 k)]) (fun k W1=>k ≤ zs.length ∧ knownB (zs.take k) t = false ∧ Mem w0 W1 (ro (rSlot false) w0 i.a1.1 zs :: L)) (fun k=>zs.length - k) 0 U ⟨Nat.zero_le _,rfl,HM.sb⟩ ?_
  clear HM
  rintro k W1 ⟨hk,hp,HM⟩
  by_cases hlt : k < zs.length
  · have hlt2 : k < x.dk.toNat:=by omega
    obtain ⟨cc,⟨j,rfl,_⟩,HM⟩:=HM.roOpen (A:=i.a1.1) k hlt
    unfold encSlot at HM
    by_cases ht : zs[k].text = t
    · repeat (first|refine Y ?_|(refine qs ?_;clear HM;intro W1 HM)|(refine qg ?_;clear HM;intro g W1 HM))
      exact ret_tmp rfl rfl ⟨by rw [knownB,any_hit hlt (by simp [ht])],HM.sb⟩
    · repeat (first|refine Y ?_|(refine qs ?_;clear HM;intro W1 HM)|(refine qg ?_;clear HM;intro g W1 HM))
      exact n_round (k + 1) U ⟨by omega,any_succ hlt hp (by simp [ht]),HM.sb⟩ (by omega)
  · have hlt2 : ¬ k < x.dk.toNat:=by omega
    repeat refine Y ?_
    obtain rfl : k = zs.length:=by omega
    rw [List.take_length] at hp
    exact ret_tmp rfl rfl ⟨by rw [hp],HM.sb⟩
end Go.Proofs.YtampmicahnnebaaGreat.Sp
namespace Go.Proofs.YtampmicahnnebaaGreat.Sp
open Go Go.RowKit
set_option maxRecDepth 10000
set_option maxHeartbeats 1000000
variable {w0 W : World} {L : List Asn} {A : Option Addr} {c : Nat} {b : Bool}
def wishOk (x : Rcd) (t : ByteArray) : Bool:=decide (1 ≤ (t.size : Int) ∧ (t.size : Int) ≤ 100) && newB x.wishes x.wishes.length t && decide ((x.wishes.length : Int) < 20) && !knownB (x.ds.take x.dk.toNat) t
def wish1 (x : Rcd) (t : ByteArray) : Rcd:=if wishOk x t = true then { x with wishes:=x.wishes ++ [t] } else x
def wishL (x : Rcd) (t : ByteArray) : Rcd:=if validB x = true then (if x.up = true then wish1 x t else x) else zeroR
theorem small_wish1 (x : Rcd) (t : ByteArray) (hn : SmallR x) : SmallR (wish1 x t):=by
  unfold wish1
  split
  · rename_i h
    simp only [wishOk,Bool.and_eq_true,decide_eq_true_eq] at h
    obtain ⟨_,_,_,_,_,_,_,_,_⟩:=hn
    constructor <;> first|assumption|(simp;omega)
  · exact hn
theorem any_pos {l : List Slot} (h : ∀ s ∈ l,0 < s.ballot) (t : ByteArray) : hasB l t = knownB l t:=by
  unfold hasB knownB
  rw [Bool.eq_iff_iff]
  simp only [List.any_eq_true,Bool.and_eq_true,decide_eq_true_eq]
  constructor
  · rintro ⟨s,hs,h1,h2⟩;exact ⟨s,hs,h2⟩
  · rintro ⟨s,hs,h2⟩;exact ⟨s,hs,h s hs,h2⟩
theorem known_eq {x : Rcd} (h : validB x = true) (t : ByteArray) : hasB (x.ds.take x.dk.toNat) t = knownB (x.ds.take x.dk.toNat) t:=by
  have hd:=(validB_iff.1 h).disk
  refine any_pos (fun s hs=>?_) t
  obtain ⟨i,hi,rfl⟩:=List.getElem_of_mem hs
  rw [List.getElem_take]
  have h1 : i < x.ds.length:=by simp at hi;omega
  have h2:=hd.known i h1 (by simp at hi;have:=hd.k0;omega)
  have h3:=(hd.slots.2 _ (List.getElem_mem h1)).lo
  omega
theorem disk_of_valid2 {x : Rcd} (h : validB x = true) : (0 ≤ x.dk ∧ x.dk ≤ x.ds.length) ∧ x.ds.length ≤ 60:=by
  simp only [validB,headB,diskB,slotsB,Bool.and_eq_true,decide_eq_true_eq] at h
  omega
theorem l3Wish_c (x : Rcd) (i : AtRcd) (t : ByteArray) (hv : validB x = true) (hn : SmallR x) (ht : t.size ≤ 1048576) (HM : Mem w0 W (partRcd 91 40 9 3 66 x i ++ L)) : Calls Tryz.prog 61 #[.agg (encRcd x i).toArray,.string t] W fun e W'=>∃ j,e = .returned (.agg (encRcd (wish1 x t) j).toArray) ∧ Mem w0 W' (partRcd 91 40 9 3 66 (wish1 x t) j ++ L):=by
  refine enter Tryz.func61 rfl Tryz.ntmps61 [(0,.agg (encRcd x i).toArray),(1,_)] rfl ⟨rfl,rfl,trivial⟩ ?_
  obtain ⟨⟨hk0,hk1⟩,hd⟩:=disk_of_valid2 hv
  have hw:=hn.wishes
  have hcd:=(caps_parts HM).1
  have hke:=known_eq hv t
  unfold encRcd
  simp only [partRcd,List.cons_append,List.nil_append] at HM
  by_cases c1 : (t.size : Int) < 1
  · have e : wish1 x t = x:=if_neg (by simp [wishOk];omega)
    repeat (first|refine Y ?_|(refine qs ?_;clear HM;intro W1 HM)|(refine qg ?_;clear HM;intro g W1 HM))
    rw [e]
    exact ret_cell HM rfl rfl rfl ⟨i,rfl,by simp only [partRcd,List.cons_append,List.nil_append];exact HM.sb⟩
  by_cases c2 : (100 : Int) < t.size
  · have e : wish1 x t = x:=if_neg (by simp [wishOk];omega)
    repeat (first|refine Y ?_|(refine qs ?_;clear HM;intro W1 HM)|(refine qg ?_;clear HM;intro g W1 HM))
    rw [e]
    exact ret_cell HM rfl rfl rfl ⟨i,rfl,by simp only [partRcd,List.cons_append,List.nil_append];exact HM.sb⟩
  by_cases c3 : (20 : Int) ≤ x.wishes.length
  · have e : wish1 x t = x:=if_neg (by simp [wishOk];omega)
    repeat (first|refine Y ?_|(refine qs ?_;clear HM;intro W1 HM)|(refine qg ?_;clear HM;intro g W1 HM))
    rw [e]
    exact ret_cell HM rfl rfl rfl ⟨i,rfl,by simp only [partRcd,List.cons_append,List.nil_append];exact HM.sb⟩
  by_cases c4 : hasB (x.ds.take x.dk.toNat) t = true
  · have e : wish1 x t = x:=if_neg (by simp [wishOk,← hke,c4])
    repeat (first|refine Y ?_|(refine qs ?_;clear HM;intro W1 HM)|(refine qf ?_;go_at_call 26;obtain ⟨F1,hF1⟩:=HM.own (A:=i.a1.1);refine (has3_c (by simp;omega) t (ro_take (ro_slots hF1) x.dk.toNat) (Mem.start _)).mono ?_;clear hF1;rintro e W1 ⟨rfl,HM1⟩;refine ⟨_,rfl,?_⟩;have HM2:=HM.step HM1.below;clear HM HM1;have HM:=HM2;clear HM2)|(refine qg ?_;clear HM;intro g W1 HM))
    rw [e]
    exact ret_cell HM rfl rfl rfl ⟨i,rfl,by simp only [partRcd,List.cons_append,List.nil_append];exact HM.sb⟩
  simp only [Bool.not_eq_true] at c4
  repeat (first|refine Y ?_|(refine qf ?_;go_at_call 26;obtain ⟨F1,hF1⟩:=HM.own (A:=i.a1.1);refine (has3_c (by simp;omega) t (ro_take (ro_slots hF1) x.dk.toNat) (Mem.start _)).mono ?_;clear hF1;rintro e W1 ⟨rfl,HM1⟩;refine ⟨_,rfl,?_⟩;have HM2:=HM.step HM1.below;clear HM HM1;have HM:=HM2;clear HM2)|(refine qg ?_;clear HM;intro g W1 HM))
  refine c_loop (σ:=Nat) (fun k=>[(1,.string t),(2,.pointer (some ⟨_,0,none⟩)),(4,.pointer (some ⟨g,0,none⟩)),(5,.int .i64 k)]) (fun k W1=>k ≤ x.wishes.length ∧ newB x.wishes k t = true ∧ Mem w0 W1 _) (fun k=>x.wishes.length - k) 0 U ⟨Nat.zero_le _,allN_zero,HM⟩ ?_
  clear HM
  rintro k W1 ⟨hk,hp,HM⟩
  by_cases hlt : k < x.wishes.length
  · by_cases he : rd tStr x.wishes k = t
    · have he2 : rdR (rStr false) x.wishes k = t:=by rw [← he,rdR_at hlt,rd_at hlt]
      have hf : newB x.wishes x.wishes.length t = false:=allN_fail hlt (by simp [he2])
      have e : wish1 x t = x:=if_neg (by simp [wishOk,hf])
      repeat (first|refine Y ?_|(refine qs ?_;clear HM;intro W1 HM))
      rw [e]
      exact ret_cell HM rfl rfl rfl ⟨i,rfl,by simp only [partRcd,List.cons_append,List.nil_append];exact HM.sb⟩
    · have he2 : rdR (rStr false) x.wishes k ≠ t:=by rw [rdR_at hlt,← rd_at (d:=tStr) hlt];exact he
      repeat refine Y ?_
      exact n_round (k + 1) U ⟨by omega,allN_succ hp (by simp [he2]),HM⟩ (by omega)
  · obtain rfl : k = x.wishes.length:=by omega
    have e : wish1 x t = { x with wishes:=x.wishes ++ [t] }:=if_pos (by simp only [wishOk,hp,← hke,c4];simp;omega)
    repeat (first|refine Y ?_|(refine qs ?_;clear HM;intro W1 HM)|(refine qa ?_;clear HM;intro A1 c1 W1 HM)|(refine qg ?_;clear HM;intro g W1 HM))
    rw [e]
    exact ret_cell HM rfl rfl rfl ⟨⟨i.a0,i.a1,i.a2,(A1,c1),i.a4,i.a5,i.a6⟩,rfl,by simp only [partRcd,List.cons_append,List.nil_append];exact HM.sb⟩
end Go.Proofs.YtampmicahnnebaaGreat.Sp
namespace Go.Proofs.YtampmicahnnebaaGreat.Sp
open Go Go.RowKit
def knowL (ds : List Slot) (b kn : Int) : Nat → Int → Int
  | 0,d=>d
  | n + 1,d=>if d < kn ∧ d < ds.length ∧ (rd tSlot ds d).ballot = b then knowL ds b kn n (d + 1) else d
def wishedL (to : Int) : List ByteArray → Rcd → Rcd
  | [],y=>y
  | w :: r,y=>wishedL to r (holdL y ⟨8,0,to,0,0,0,w,[]⟩)
def beat1 (y : Rcd) (m : Msg) : Rcd:={ y with dk:=knowL y.ds m.ballot m.known y.ds.length y.dk }
def beat2 (y : Rcd) (m : Msg) : Rcd:=if y.dk < m.known then holdL y ⟨7,0,m.frm,m.ballot,y.dk + 1,0,⟨#[]⟩,[]⟩ else y
def beatL (x : Rcd) (m : Msg) : Rcd :=
  if m.frm = x.number ∨ m.ballot < 1 then x
  else wishedL m.frm x.wishes (beat2 (beat1 (followL x m.ballot) m) m)
def refuseL (x : Rcd) (to : Int) : Rcd:=holdL x ⟨9,0,to,x.dp,0,0,⟨#[]⟩,[]⟩
def needL (to : Int) : Nat → Int → Rcd → Rcd
  | 0,_,y=>y
  | n + 1,i,y=>if i ≤ y.dk then needL to n (i + 1) (holdL y ⟨6,0,to,y.ballot,i,0,(rd tSlot y.ds (i - 1)).text,[]⟩) else y
def prepL (x : Rcd) (m : Msg) : Rcd:=if m.ballot ≤ x.dp then refuseL x m.frm else holdL (followL x m.ballot) ⟨2,0,m.frm,m.ballot,0,0,⟨#[]⟩,(followL x m.ballot).ds⟩
def acc1 (y : Rcd) (m : Msg) : Rcd:=if y.dk < m.index then setL y m.index ⟨m.ballot,m.text⟩ else y
def accL (x : Rcd) (m : Msg) : Rcd:=if m.ballot < x.dp then refuseL x m.frm else if m.index < 1 ∨ m.ballot < 1 ∨ m.frm = x.number then x else holdL (acc1 (followL x m.ballot) m) ⟨4,0,m.frm,m.ballot,m.index,0,⟨#[]⟩,[]⟩
def choL (x : Rcd) (m : Msg) : Rcd:=if m.index = x.dk + 1 ∧ 0 < m.ballot ∧ m.ballot ≤ x.dp then { setL x m.index ⟨m.ballot,m.text⟩ with dk:=m.index } else x
def refL (x : Rcd) (m : Msg) : Rcd:=if x.ballot < m.ballot ∧ (x.lead = true ∨ x.trying = true) then { calmL x with dp:=max x.dp m.ballot } else x
def takeL (x : Rcd) (m : Msg) : Rcd :=
  if m.kind = 1 then prepL x m
  else if m.kind = 2 then (if x.trying = true ∧ m.ballot = x.ballot then promL x m.frm m.slots else x)
  else if m.kind = 3 then accL x m
  else if m.kind = 4 then (if x.lead = true ∧ m.ballot = x.ballot ∧ 0 < m.index then ackL x m.index m.frm else x)
  else if m.kind = 5 then (if m.ballot < x.dp then refuseL x m.frm else beatL x m)
  else if m.kind = 6 then choL x m
  else if m.kind = 7 then (if x.lead = true ∧ 0 < m.index then needL m.frm 5 m.index x else x)
  else if m.kind = 8 then wish1 x m.text
  else if m.kind = 9 then refL x m
  else x
def recTakeL (x : Rcd) (m : Msg) : Rcd:=if validB x = true then (if x.up = true ∧ msgB m x.of = true ∧ m.to = x.number then takeL x m else x) else zeroR
def nextL (above number of : Int) : Int :=
  if (1 ≤ of ∧ of ≤ 5) ∧ (1 ≤ number ∧ number ≤ of) ∧ (0 ≤ above ∧ above ≤ 1000000) then
    (if 1000000 < (if above.tdiv of * of + number ≤ above then above.tdiv of * of + number + of else above.tdiv of * of + number) then 0
     else (if above.tdiv of * of + number ≤ above then above.tdiv of * of + number + of else above.tdiv of * of + number))
  else 0
def othersL (num : Int) (m : Msg) : Nat → Int → List Msg → List Msg
  | 0,_,o=>o
  | n + 1,i,o=>othersL num m n (i + 1) (if i = num then o else o ++ [{ m with frm:=num,to:=i }])
def othL (x : Rcd) (o : List Msg) (m : Msg) : List Msg:=othersL x.number m x.of.toNat 1 o
def ackAllL (b num : Int) (ss : List Slot) : Nat → Nat → Rcd → Rcd
  | 0,_,y=>y
  | n + 1,i,y=>ackAllL b num ss n (i + 1) (if (rd tSlot ss i).ballot = b then ackL y ((i : Int) + 1) num else y)
def layWish (y : Rcd) (w : ByteArray) : Rcd:=if hasB y.ds w = false ∧ (y.ds.length : Int) < 60 then setL y ((y.ds.length : Int) + 1) ⟨y.ballot,w⟩ else y
def accOut (x : Rcd) : Nat → Nat → List Msg → List Msg
  | 0,_,o=>o
  | n + 1,i,o=>accOut x n (i + 1) (othL x o ⟨3,0,0,x.ballot,(i : Int) + 1,0,(rd tSlot x.ds i).text,[]⟩)
def lead1 (x : Rcd) : Rcd:=x.wishes.foldl layWish (ackAllL x.ballot x.number x.ss x.ss.length 0 x)
def leadOut (x : Rcd) (o : List Msg) : List Msg:=accOut x (x.ds.length - x.dk.toNat) x.dk.toNat (othL x o ⟨5,0,0,x.ballot,0,x.dk,⟨#[]⟩,[]⟩)
def tick1 (x : Rcd) : Rcd:={ x with sp:=x.dp,sk:=x.dk,ss:=x.ds,held:=[],wishes:=x.wishes.filter (fun w=>!hasB (x.ds.take x.dk.toNat) w),heard:=if x.heard < 1000000 then x.heard + 1 else x.heard }
def tick2 (x : Rcd) : Rcd:=if x.trying = true ∧ x.sp = x.ballot then promL x x.number x.ds else x
def holdAll : List Msg → Rcd → Rcd
  | [],y=>y
  | m :: r,y=>holdAll r (holdL y m)
def tick4 (x : Rcd) (b : Int) : Rcd:=holdAll (othL { calmL x with heard:=0,dp:=b,ballot:=b,trying:=true } [] ⟨1,0,0,b,0,0,⟨#[]⟩,[]⟩) { calmL x with heard:=0,dp:=b,ballot:=b,trying:=true }
def tick3 (x : Rcd) : Rcd:=if 4 + 3 * x.number < x.heard then (if 0 < nextL x.dp x.number x.of then tick4 x (nextL x.dp x.number x.of) else { calmL x with heard:=0 }) else x
def tickL (x : Rcd) : Rcd:=if (tick2 (tick1 x)).lead = true then lead1 (tick2 (tick1 x)) else tick3 (tick2 (tick1 x))
def tickOut (x : Rcd) : List Msg:=if (tick2 (tick1 x)).lead = true then leadOut (lead1 (tick2 (tick1 x))) x.held else x.held
def recTickL (x : Rcd) : Rcd:=if validB x = true then (if x.up = true then tickL x else x) else zeroR
def recTickO (x : Rcd) : List Msg:=if validB x = true then (if x.up = true then tickOut x else []) else []
end Go.Proofs.YtampmicahnnebaaGreat.Sp
namespace Go.Proofs.YtampmicahnnebaaGreat.Sp
open Go
section
variable {P : Program} {n : Nat} {Q Q' : Exit → Act → World → Prop} {E : Env} {W : World} {σ : Type}
structure MidP (n : Nat) (J : σ → Env) (M : σ → World → Prop) (a : Act) (w : World) : Prop where out : ∃ s,Fits n (J s) a ∧ M s w
theorem mid_wp {y : Code} {J : σ → Env} {M : σ → World → Prop} (h : ∀ s W,M s W → WC P n y Q (J s) W) {a : Act} {w : World} (hm : MidP n J M a w) : y.wp P Q a w:=by
  obtain ⟨s,hf,hM⟩:=hm.out
  exact (h s w hM).out a hf
theorem c_cut {id : Nat} {c y : Code} (J : σ → Env) (M : σ → World → Prop) (h1 : WC P n c (Exit.inBlock id (Exit.then (MidP n J M) Q')) E W) (h2 : ∀ s W,M s W → WC P n y Q (J s) W) : WC P n c (Exit.inBlock id (Exit.then (y.wp P Q) Q')) E W:=⟨fun a ha=>by
  refine wp_mono (h1.out a ha) fun e a' w' hq=>?_
  cases e with
  | normal=>exact mid_wp h2 hq
  | exit k =>
    by_cases hk : k = id
    · subst hk
      have hq2 : (if k = k then Exit.then (MidP n J M) Q' .normal a' w' else Exit.then (MidP n J M) Q' (.exit k) a' w'):=hq
      rw [if_pos rfl] at hq2
      show (if k = k then Exit.then (y.wp P Q) Q' .normal a' w' else Exit.then (y.wp P Q) Q' (.exit k) a' w')
      rw [if_pos rfl]
      exact mid_wp h2 hq2
    · have hq2 : (if k = id then Exit.then (MidP n J M) Q' .normal a' w' else Exit.then (MidP n J M) Q' (.exit k) a' w'):=hq
      rw [if_neg hk] at hq2
      show (if k = id then Exit.then (y.wp P Q) Q' .normal a' w' else Exit.then (y.wp P Q) Q' (.exit k) a' w')
      rw [if_neg hk]
      exact hq2
  | _=>exact hq⟩
theorem c_cutn {c y : Code} (J : σ → Env) (M : σ → World → Prop) (h1 : WC P n c (Exit.then (MidP n J M) Q') E W) (h2 : ∀ s W,M s W → WC P n y Q (J s) W) : WC P n c (Exit.then (y.wp P Q) Q') E W:=⟨fun a ha=>by
  refine wp_mono (h1.out a ha) fun e a' w' hq=>?_
  cases e with
  | normal=>exact mid_wp h2 hq
  | _=>exact hq⟩
theorem n_mid {J : σ → Env} {M : σ → World → Prop} (s : σ) (hJ : subE E (J s)) (hM : M s W) : WN n .normal (Exit.then (MidP n J M) Q') E W:=⟨fun _ ha=>⟨s,ha.sub (subE_look hJ),hM⟩⟩
end
theorem Mem.name {w0 W : World} {A R : List Asn} (h : Mem w0 W (A ++ R)) : ∃ R',R' = R ∧ Mem w0 W (A ++ R'):=⟨R,rfl,h⟩
theorem Mem.name2 {w0 W : World} {A R : List Asn} {B : Asn} (h : Mem w0 W (B :: (A ++ R))) : ∃ R',R' = R ∧ Mem w0 W (B :: (A ++ R')):=⟨R,rfl,h⟩
theorem Mem.nam {w0 W : World} {L : List Asn} (h : Mem w0 W L) : ∃ L',L' = L ∧ Mem w0 W L':=⟨L,rfl,h⟩
theorem ret_ct {P : Program} {n : Nat} {E : Env} {w0 W : World} {L : List Asn} {fn : Func} {R : Ending → World → Prop} {p u m pt g t : Nat} {cs : List Value} {v : Value} [hB : BoxAt L g t cs] [hA : Agg P pt m] (hm : Mem w0 W L) (hf : fn.results = #[.cell p pt,.tmp u]) (hp : look E p = some (.pointer (some ⟨g,0,none⟩))) (hv : look E u = some v) (hl : cs.length = m) (h : R (.returned (.tuple #[.agg cs.toArray,v])) W) : WN n .ret (bodyPost P fn R) E W:=⟨fun a ha=>by
  obtain ⟨d,hu,hu2,hi⟩:=hA.out
  have hp' : a.tmps[p]?.getD undef = .pointer (some ⟨g,0,none⟩):=by simpa using ha.slots p _ hp
  have hv' : a.tmps[u]?.getD undef = v:=by simpa using ha.slots u _ hv
  have hr:=run_loadVar_row (P:=P) W g t pt cs.toArray (0,0) d hm.heap hu (by cases d <;> first|rfl|(simp at hu2)) (by rw [hi];simp [hl])
  exact ⟨ha.defers,_,by simp [results,hf,hp',hv',asAddr,hr],h⟩⟩
end Go.Proofs.YtampmicahnnebaaGreat.Sp
namespace Go.Proofs.YtampmicahnnebaaGreat.Sp
open Go Go.RowKit
set_option maxRecDepth 10000
set_option maxHeartbeats 2000000
variable {w0 W : World} {L : List Asn} {A : Option Addr} {c : Nat}
theorem next_first {above number of N : Int} (h1 : 1 ≤ of ∧ of ≤ 5) (h2 : 1 ≤ number ∧ number ≤ of) (h3 : 0 ≤ above) (hN : N = if above.tdiv of * of + number ≤ above then above.tdiv of * of + number + of else above.tdiv of * of + number) : above < N ∧ N ≤ above + of ∧ N.tmod of = number.tmod of ∧ ∀ b,above < b → b < N → b.tmod of ≠ number.tmod of:=by
  rw [Int.tdiv_eq_ediv_of_nonneg h3] at hN
  have hof : of = 1 ∨ of = 2 ∨ of = 3 ∨ of = 4 ∨ of = 5:=by omega
  have hA : above < N ∧ N ≤ above + of ∧ N % of = number % of ∧ ∀ b,above < b → b < N → b % of ≠ number % of:=by
    rcases hof with rfl|rfl|rfl|rfl|rfl <;> (split at hN <;> refine ⟨by omega,by omega,by omega,fun b hb hb2=>by omega⟩)
  obtain ⟨g1,g2,g3,g4⟩:=hA
  refine ⟨g1,g2,?_,fun b hb hb2=>?_⟩
  · rw [Int.tmod_eq_emod_of_nonneg (by omega),Int.tmod_eq_emod_of_nonneg (by omega)];exact g3
  · rw [Int.tmod_eq_emod_of_nonneg (by omega),Int.tmod_eq_emod_of_nonneg (by omega)];exact g4 b hb hb2
theorem next_q {above of : Int} (h1 : 1 ≤ of ∧ of ≤ 5) (h3 : 0 ≤ above) (h4 : above ≤ 1000000) : 0 ≤ above.tdiv of ∧ above.tdiv of ≤ 1000000 ∧ 0 ≤ above.tdiv of * of ∧ above.tdiv of * of ≤ 1000000:=by
  rw [Int.tdiv_eq_ediv_of_nonneg h3]
  have hof : of = 1 ∨ of = 2 ∨ of = 3 ∨ of = 4 ∨ of = 5:=by omega
  rcases hof with rfl|rfl|rfl|rfl|rfl <;> omega
theorem nextS (above number of : Int) (HM : Mem w0 W L) : Calls Tryz.prog 30 #[.int .i64 above,.int .i64 number,.int .i64 of] W fun e W'=>e = .returned (.int .i64 (nextL above number of)) ∧ Mem w0 W' L:=by
  refine enter Tryz.func30 rfl Tryz.ntmps30 [(0,_),(1,_),(2,_)] rfl ⟨rfl,rfl,rfl,trivial⟩ ?_
  by_cases c1 : 1 ≤ of ∧ of ≤ 5
  rotate_left
  · have e : nextL above number of = 0:=if_neg (fun h=>c1 h.1)
    rw [e]
    repeat (first|refine Y ?_|(refine qf ?_;go_at_call 39;refine (l1In_c _ _ _ _).mono ?_;rintro e W1 ⟨rfl,rfl⟩;refine ⟨_,rfl,?_⟩))
    exact ret_tmp rfl rfl ⟨rfl,HM⟩
  by_cases c2 : 1 ≤ number ∧ number ≤ of
  rotate_left
  · have e : nextL above number of = 0:=if_neg (fun h=>c2 h.2.1)
    rw [e]
    repeat (first|refine Y ?_|(refine qf ?_;go_at_call 39;refine (l1In_c _ _ _ _).mono ?_;rintro e W1 ⟨rfl,rfl⟩;refine ⟨_,rfl,?_⟩))
    exact ret_tmp rfl rfl ⟨rfl,HM⟩
  by_cases c3 : 0 ≤ above ∧ above ≤ 1000000
  rotate_left
  · have e : nextL above number of = 0:=if_neg (fun h=>c3 h.2.2)
    rw [e]
    repeat (first|refine Y ?_|(refine qf ?_;go_at_call 39;refine (l1In_c _ _ _ _).mono ?_;rintro e W1 ⟨rfl,rfl⟩;refine ⟨_,rfl,?_⟩))
    exact ret_tmp rfl rfl ⟨rfl,HM⟩
  obtain ⟨q1,q2,q3,q4⟩:=next_q c1 c3.1 c3.2
  have e : nextL above number of = (if 1000000 < (if above.tdiv of * of + number ≤ above then above.tdiv of * of + number + of else above.tdiv of * of + number) then 0 else (if above.tdiv of * of + number ≤ above then above.tdiv of * of + number + of else above.tdiv of * of + number)):=if_pos ⟨c1,c2,c3⟩
  rw [e]
  clear e
  by_cases c4 : above.tdiv of * of + number ≤ above
  · rw [if_pos c4]
    by_cases c5 : 1000000 < above.tdiv of * of + number + of
    · rw [if_pos c5]
      repeat (first|(refine gGP ?_;refine gGB ?_;refine gp (p_quo rfl rfl (by omega) (wr (by omega) (by omega))) ?_)|refine Y ?_|(refine qf ?_;go_at_call 39;refine (l1In_c _ _ _ _).mono ?_;rintro e W1 ⟨rfl,rfl⟩;refine ⟨_,rfl,?_⟩))
      exact ret_tmp rfl rfl ⟨rfl,HM⟩
    · rw [if_neg c5]
      repeat (first|(refine gGP ?_;refine gGB ?_;refine gp (p_quo rfl rfl (by omega) (wr (by omega) (by omega))) ?_)|refine Y ?_|(refine qf ?_;go_at_call 39;refine (l1In_c _ _ _ _).mono ?_;rintro e W1 ⟨rfl,rfl⟩;refine ⟨_,rfl,?_⟩))
      exact ret_tmp rfl rfl ⟨rfl,HM⟩
  · rw [if_neg c4]
    by_cases c5 : 1000000 < above.tdiv of * of + number
    · rw [if_pos c5]
      repeat (first|(refine gGP ?_;refine gGB ?_;refine gp (p_quo rfl rfl (by omega) (wr (by omega) (by omega))) ?_)|refine Y ?_|(refine qf ?_;go_at_call 39;refine (l1In_c _ _ _ _).mono ?_;rintro e W1 ⟨rfl,rfl⟩;refine ⟨_,rfl,?_⟩))
      exact ret_tmp rfl rfl ⟨rfl,HM⟩
    · rw [if_neg c5]
      repeat (first|(refine gGP ?_;refine gGB ?_;refine gp (p_quo rfl rfl (by omega) (wr (by omega) (by omega))) ?_)|refine Y ?_|(refine qf ?_;go_at_call 39;refine (l1In_c _ _ _ _).mono ?_;rintro e W1 ⟨rfl,rfl⟩;refine ⟨_,rfl,?_⟩))
      exact ret_tmp rfl rfl ⟨rfl,HM⟩
theorem nextM (above number of : Int) (HM : Mem w0 W L) : Calls Tryz.prog 76 #[.int .i64 above,.int .i64 number,.int .i64 of] W fun e W'=>e = .returned (.int .i64 (nextL above number of)) ∧ Mem w0 W' L:=by
  refine enter Tryz.func76 rfl Tryz.ntmps76 [(0,_),(1,_),(2,_)] rfl ⟨rfl,rfl,rfl,trivial⟩ ?_
  by_cases c3 : 0 ≤ above ∧ above ≤ 1000000
  rotate_left
  · have e : nextL above number of = 0:=if_neg (fun h=>c3 h.2.2)
    rw [e]
    repeat (first|refine Y ?_|(refine qf ?_;go_at_call 47;refine (within_c _ _ _ _).mono ?_;rintro e W1 ⟨rfl,rfl⟩;refine ⟨_,rfl,?_⟩))
    exact ret_tmp rfl rfl ⟨rfl,HM⟩
  by_cases c1 : 1 ≤ of ∧ of ≤ 5
  rotate_left
  · have e : nextL above number of = 0:=if_neg (fun h=>c1 h.1)
    rw [e]
    repeat (first|refine Y ?_|(refine qf ?_;go_at_call 47;refine (within_c _ _ _ _).mono ?_;rintro e W1 ⟨rfl,rfl⟩;refine ⟨_,rfl,?_⟩))
    exact ret_tmp rfl rfl ⟨rfl,HM⟩
  by_cases c2 : 1 ≤ number ∧ number ≤ of
  rotate_left
  · have e : nextL above number of = 0:=if_neg (fun h=>c2 h.2.1)
    rw [e]
    repeat (first|refine Y ?_|(refine qf ?_;go_at_call 47;refine (within_c _ _ _ _).mono ?_;rintro e W1 ⟨rfl,rfl⟩;refine ⟨_,rfl,?_⟩))
    exact ret_tmp rfl rfl ⟨rfl,HM⟩
  have e : nextL above number of = (if 1000000 < (if above.tdiv of * of + number ≤ above then above.tdiv of * of + number + of else above.tdiv of * of + number) then 0 else (if above.tdiv of * of + number ≤ above then above.tdiv of * of + number + of else above.tdiv of * of + number)):=if_pos ⟨c1,c2,c3⟩
  rw [e]
  clear e
  obtain ⟨N,hN⟩ : ∃ N,N = (if above.tdiv of * of + number ≤ above then above.tdiv of * of + number + of else above.tdiv of * of + number):=⟨_,rfl⟩
  rw [← hN]
  obtain ⟨n1,n2,n3,n4⟩:=next_first c1 c2 c3.1 hN
  clear hN
  repeat (first|refine Y ?_|(refine qf ?_;go_at_call 47;refine (within_c _ _ _ _).mono ?_;rintro e W1 ⟨rfl,rfl⟩;refine ⟨_,rfl,?_⟩))
  refine c_loop (σ:=Int) (fun b=>[(1,.int .i64 number),(2,.int .i64 of),(7,.int .i64 b)]) (fun b W1=>above < b ∧ b ≤ N ∧ b ≤ 1000001 ∧ Mem w0 W1 L) (fun b=>(1000002 - b).toNat) (above + 1) U ⟨by omega,by omega,by omega,HM⟩ ?_
  clear HM
  rintro b W1 ⟨b1,b2,b3,HM⟩
  by_cases c4 : b ≤ 1000000
  · by_cases c5 : b = N
    · have e1 : b.tmod of = number.tmod of:=by rw [c5];exact n3
      repeat (first|refine Y ?_|(refine gR ?_;refine d_start [] [(0,0),(0,1),(0,2),(0,3),(0,4),(0,5),(0,6)] HM (by kernel_rfl) (by kernel_rfl) qq (by kernel_rfl) rfl ?_;intro HQ HS W1 HM1;replace HM:=HM1;clear HM1))
      rw [if_neg (by omega),← c5]
      exact ret_tmp rfl rfl ⟨rfl,HM⟩
    · have e1 : ¬ b.tmod of = number.tmod of:=n4 b b1 (by omega)
      repeat (first|refine Y ?_|(refine gR ?_;refine d_start [] [(0,0),(0,1),(0,2),(0,3),(0,4),(0,5),(0,6)] HM (by kernel_rfl) (by kernel_rfl) qq (by kernel_rfl) rfl ?_;intro HQ HS W1 HM1;replace HM:=HM1;clear HM1))
      exact n_round (b + 1) U ⟨by omega,by omega,by omega,HM⟩ (by omega)
  · rw [if_pos (by omega)]
    repeat refine Y ?_
    exact ret_tmp rfl rfl ⟨rfl,HM⟩
instance mkMsg0 {L : List Asn} {eS : Nat} {kind frm to ballot index known : Int} {text : ByteArray} : MkIn L (tMsg eS) [.int .i64 kind,.int .i64 frm,.int .i64 to,.int .i64 ballot,.int .i64 index,.int .i64 known,.string text,.slice none 0 0] ⟨kind,frm,to,ballot,index,known,text,[]⟩ L :=
  mk_nest (M:=[own tSlot eS none 0 []]) (fun W ok hs=>⟨fun _=>False,fun _ h=>h.elim,own_nil tSlot eS,hs.mono (fun k hk=>⟨hk,fun h=>h⟩)⟩) (fun W F hs=>⟨(none,0),rfl,hs⟩)
theorem othersL_len (num : Int) (m : Msg) : ∀ (n : Nat) (i : Int) (o : List Msg),(othersL num m n i o).length ≤ o.length + n
  | 0,_,o=>Nat.le_refl _
  | n + 1,i,o=>by
    rw [othersL]
    refine Nat.le_trans (othersL_len num m n (i + 1) _) ?_
    split <;> simp <;> omega
theorem othersS (x : Rcd) (i : AtRcd) (m : Msg) {o : List Msg} (hof : 0 ≤ x.of ∧ x.of ≤ 5) (hl : o.length ≤ 100000) (HM : Mem w0 W (own (tMsg 91) 40 A c o :: L)) : Calls Tryz.prog 32 #[.agg (encRcd x i).toArray,.slice A o.length c,.agg (encMsg { m with slots:=[] } (none,0)).toArray] W fun e W'=>∃ A' c',e = .returned (.slice A' (othL x o { m with slots:=[] }).length c') ∧ Mem w0 W' (own (tMsg 91) 40 A' c' (othL x o { m with slots:=[] }) :: L):=by
  refine enter Tryz.func32 rfl Tryz.ntmps32 [(0,.agg (encRcd x i).toArray),(1,_),(2,.agg (encMsg { m with slots:=[] } (none,0)).toArray)] rfl ⟨rfl,rfl,rfl,trivial⟩ ?_
  unfold encRcd encMsg
  simp only [List.length_nil]
  repeat (first|refine Y ?_|(refine qg ?_;clear HM;intro g W1 HM))
  rename_i gr _
  generalize htg : othL x o { m with slots:=[] } = tg
  unfold othL at htg
  refine c_loop2 (σ:=Nat × List Msg) (fun s A c=>[(3,.pointer (some ⟨gr,0,none⟩)),(5,.pointer (some ⟨g,0,none⟩)),(1,.slice A s.2.length c),(7,.int .i64 ((s.1 : Int) + 1))]) (fun s A c W1=>(s.1 : Int) ≤ x.of ∧ othersL x.number { m with slots:=[] } (x.of.toNat - s.1) ((s.1 : Int) + 1) s.2 = tg ∧ s.2.length ≤ 100000 + s.1 ∧ Mem w0 W1 (own (tMsg 91) 40 A c s.2 :: box g 40 [.int .i64 m.kind,.int .i64 m.frm,.int .i64 m.to,.int .i64 m.ballot,.int .i64 m.index,.int .i64 m.known,.string m.text,.slice none 0 0] :: box gr 31 [.int .i64 x.number,.int .i64 x.of,.bool x.up,.int .i64 x.sp,.int .i64 x.sk,.slice i.a0.1 x.ss.length i.a0.2,.int .i64 x.dp,.int .i64 x.dk,.slice i.a1.1 x.ds.length i.a1.2,.slice i.a2.1 x.held.length i.a2.2,.slice i.a3.1 x.wishes.length i.a3.2,.bool x.lead,.bool x.trying,.int .i64 x.ballot,.slice i.a4.1 x.yes.length i.a4.2,.slice i.a5.1 x.best.length i.a5.2,.slice i.a6.1 x.acks.length i.a6.2,.int .i64 x.heard] :: L)) (fun s=>x.of.toNat - s.1) (0,o) A c (by simp only [Int.natCast_zero,Int.zero_add];exact U) ⟨by omega,htg,by omega,HM.sb⟩ ?_
  clear HM
  rintro ⟨k,z⟩ A c W1 ⟨hk,hz,hzl,HM⟩
  dsimp only at hk hz hzl HM ⊢
  by_cases hlt : (k : Int) + 1 ≤ x.of
  · have hst:=hz
    rw [show x.of.toNat - k = (x.of.toNat - (k + 1)) + 1 by omega,othersL] at hst
    by_cases c1 : (k : Int) + 1 = x.number
    · rw [if_pos c1] at hst
      repeat refine Y ?_
      exact n_round2 (k + 1,z) A c (by simp only [Int.natCast_add,Int.natCast_one];exact U) ⟨by dsimp only;omega,by simpa only [Int.natCast_add,Int.natCast_one] using hst,by dsimp only;omega,HM.sb⟩ (by dsimp only;omega)
    · rw [if_neg c1] at hst
      repeat (first|refine Y ?_|(refine qs ?_;clear HM;intro W1 HM)|(refine qa ?_;clear HM;intro A1 c1 W1 HM)|(refine qg ?_;clear HM;intro g W1 HM))
      have hzl2 : (z ++ [({ m with frm:=x.number,to:=(k : Int) + 1,slots:=[] } : Msg)]).length = z.length + 1:=by simp
      exact n_round2 (k + 1,z ++ [{ m with frm:=x.number,to:=(k : Int) + 1,slots:=[] }]) A1 c1 (by simp only [Int.natCast_add,Int.natCast_one];exact U) ⟨by dsimp only;omega,by simpa only [Int.natCast_add,Int.natCast_one] using hst,by dsimp only;omega,HM.sb⟩ (by dsimp only;omega)
  · rw [show x.of.toNat - k = 0 by omega,othersL] at hz
    subst hz
    repeat refine Y ?_
    exact ret_tmp rfl rfl ⟨A,c,rfl,HM.sb⟩
end Go.Proofs.YtampmicahnnebaaGreat.Sp
namespace Go.Proofs.YtampmicahnnebaaGreat.Sp
open Go Go.RowKit
set_option maxRecDepth 10000
theorem addL_mem {n : Int} : ∀ {l : List Int} {a : Int},a ∈ addL l n → a = n ∨ a ∈ l
  | [],a,h=>by simp [addL] at h;exact .inl h
  | b :: r,a,h=>by
    rw [addL] at h
    split at h
    · rcases List.mem_cons.1 h with e|e
      · exact .inr (by simp [e])
      · rcases addL_mem e with e|e
        · exact .inl e
        · exact .inr (List.mem_cons_of_mem _ e)
    · split at h
      · exact .inr h
      · rcases List.mem_cons.1 h with e|e
        · exact .inl e
        · exact .inr e
theorem addL_sorted {n : Int} : ∀ {l : List Int},l.Pairwise (· < ·) → (addL l n).Pairwise (· < ·)
  | [],_=>by simp [addL]
  | b :: r,h=>by
    have h1:=List.pairwise_cons.1 h
    rw [addL]
    split
    · rename_i hb
      refine List.pairwise_cons.2 ⟨fun a ha=>?_,addL_sorted h1.2⟩
      rcases addL_mem ha with e|e
      · omega
      · exact h1.1 a e
    · split
      · exact h
      · rename_i h2 h3
        refine List.pairwise_cons.2 ⟨fun a ha=>?_,h⟩
        rcases List.mem_cons.1 ha with e|e
        · omega
        · have:=h1.1 a e;omega
theorem nums_add {l : List Int} {n o : Int} (h : NumsP l o) (h1 : 1 ≤ n) (h2 : n ≤ o) : NumsP (addL l n) o:=⟨fun a ha=>by
  rcases addL_mem ha with e|e
  · omega
  · exact h.all a e,addL_sorted h.sorted⟩
theorem nums_nil (o : Int) : NumsP [] o:=⟨by simp,List.Pairwise.nil⟩
theorem sorted_len {l : List Int} {o : Int} {b : Int} (h : l.Pairwise (· < ·)) (ha : ∀ n ∈ l,b ≤ n ∧ n ≤ o) : (l.length : Int) ≤ max 0 (o - b + 1):=by
  induction l generalizing b with
  | nil=>simp;omega
  | cons a r ih =>
    have h1:=List.pairwise_cons.1 h
    have h2:=ih (b:=a + 1) h1.2 (fun n hn=>⟨by have:=h1.1 n hn;omega,(ha n (by simp [hn])).2⟩)
    have h3:=ha a (by simp)
    simp only [List.length_cons]
    omega
theorem nums_len {l : List Int} {o : Int} (h : NumsP l o) (h5 : o ≤ 5) : l.length ≤ 5:=by
  have:=sorted_len (b:=1) h.sorted h.all
  omega
theorem acks_len {l : List Ack} {o : Int} (h : AcksP l o) : l.length ≤ 60:=by
  have h1 : (l.map (·.index)).Pairwise (· < ·):=by rw [List.pairwise_map];exact h.sorted
  have:=sorted_len (b:=1) (o:=60) h1 (fun n hn=>by obtain ⟨a,ha,rfl⟩:=List.mem_map.1 hn;exact (h.all a ha).1)
  simp at this
  omega
theorem slots_nil : SlotsP []:=⟨by simp,by simp⟩
theorem mgS_or (s t : Slot) : mgS s t = s ∨ mgS s t = t:=by unfold mgS;split <;> simp
theorem mergeL_mem : ∀ {a b : List Slot} {s : Slot},s ∈ mergeL a b → s ∈ a ∨ s ∈ b
  | [],r,s,h=>.inr h
  | x :: l,[],s,h=>.inl h
  | x :: l,t :: r,s,h=>by
    rw [mergeL] at h
    rcases List.mem_cons.1 h with e|e
    · rcases mgS_or x t with h2|h2
      · rw [h2] at e;exact .inl (by simp [e])
      · rw [h2] at e;exact .inr (by simp [e])
    · rcases mergeL_mem e with h2|h2
      · exact .inl (List.mem_cons_of_mem _ h2)
      · exact .inr (List.mem_cons_of_mem _ h2)
theorem slots_merge {a b : List Slot} (h1 : SlotsP a) (h2 : SlotsP b) : SlotsP (mergeL a b):=⟨by rw [mergeL_len];have:=h1.1;have:=h2.1;omega,fun s hs=>by
  rcases mergeL_mem hs with e|e
  · exact h1.2 s e
  · exact h2.2 s e⟩
theorem ackA_idx {n f : Int} : ∀ {l : List Ack} {a : Ack},a ∈ ackA l n f → a.index = n ∨ ∃ b ∈ l,b.index = a.index
  | [],a,h=>by simp [ackA] at h;subst h;exact .inl rfl
  | b :: r,a,h=>by
    rw [ackA] at h
    split at h
    · rcases List.mem_cons.1 h with e|e
      · exact .inr ⟨b,by simp,by rw [e]⟩
      · rcases ackA_idx e with e|⟨c,hc,e⟩
        · exact .inl e
        · exact .inr ⟨c,List.mem_cons_of_mem _ hc,e⟩
    · split at h
      · rcases List.mem_cons.1 h with e|e
        · exact .inr ⟨b,by simp,by rw [e]⟩
        · exact .inr ⟨a,List.mem_cons_of_mem _ e,rfl⟩
      · rcases List.mem_cons.1 h with e|e
        · exact .inl (by rw [e])
        · exact .inr ⟨a,e,rfl⟩
theorem ackA_sorted {n f : Int} : ∀ {l : List Ack},l.Pairwise (fun a b=>a.index < b.index) → (ackA l n f).Pairwise (fun a b=>a.index < b.index)
  | [],_=>by simp [ackA]
  | b :: r,h=>by
    have h1:=List.pairwise_cons.1 h
    rw [ackA]
    split
    · rename_i hb
      refine List.pairwise_cons.2 ⟨fun a ha=>?_,ackA_sorted h1.2⟩
      rcases ackA_idx ha with e|⟨c,hc,e⟩
      · omega
      · have:=h1.1 c hc;omega
    · split
      · exact List.pairwise_cons.2 ⟨fun a ha=>h1.1 a ha,h1.2⟩
      · rename_i h2 h3
        refine List.pairwise_cons.2 ⟨fun a ha=>?_,h⟩
        rcases List.mem_cons.1 ha with e|e
        · subst e;show n < a.index;omega
        · have:=h1.1 a e;show n < a.index;omega
theorem ackA_all {n f o : Int} (hn : 1 ≤ n ∧ n ≤ 60) (hf : 1 ≤ f ∧ f ≤ o) : ∀ {l : List Ack},(∀ a ∈ l,(1 ≤ a.index ∧ a.index ≤ 60) ∧ NumsP a.frm o) → ∀ a ∈ ackA l n f,(1 ≤ a.index ∧ a.index ≤ 60) ∧ NumsP a.frm o
  | [],h,a,ha=>by simp [ackA] at ha;subst ha;exact ⟨hn,nums_add (nums_nil o) hf.1 hf.2⟩
  | b :: r,h,a,ha=>by
    have hb:=h b (by simp)
    have hr : ∀ a ∈ r,(1 ≤ a.index ∧ a.index ≤ 60) ∧ NumsP a.frm o:=fun a ha=>h a (List.mem_cons_of_mem _ ha)
    rw [ackA] at ha
    split at ha
    · rcases List.mem_cons.1 ha with e|e
      · subst e;exact hb
      · exact ackA_all hn hf hr a e
    · split at ha
      · rcases List.mem_cons.1 ha with e|e
        · subst e;exact ⟨hb.1,nums_add hb.2 hf.1 hf.2⟩
        · exact hr a e
      · rcases List.mem_cons.1 ha with e|e
        · subst e;exact ⟨hn,nums_add (nums_nil o) hf.1 hf.2⟩
        · exact h a e
theorem acks_ack {l : List Ack} {n f o : Int} (h : AcksP l o) (hn : 1 ≤ n ∧ n ≤ 60) (hf : 1 ≤ f ∧ f ≤ o) : AcksP (ackA l n f) o:=⟨ackA_all hn hf h.all,ackA_sorted h.sorted⟩
theorem slot_zero : SlotP ⟨0,⟨#[]⟩⟩:=⟨by simp,by simp,by simp;decide,by simp⟩
theorem padL_mem {ds : List Slot} {n : Nat} {s : Slot} (h : s ∈ padL ds n) : s ∈ ds ∨ s = ⟨0,⟨#[]⟩⟩:=by
  rw [padL,List.mem_append] at h
  rcases h with h|h
  · exact .inl h
  · exact .inr (List.eq_of_mem_replicate h)
theorem padL_at {ds : List Slot} {n j : Nat} (hj : j < ds.length) (h2 : j < (padL ds n).length) : (padL ds n)[j] = ds[j]:=by simp [padL,List.getElem_append,hj]
theorem disk_set {p k : Int} {ds : List Slot} {ix : Int} {s : Slot} (h : DiskP p k ds) (h1 : 1 ≤ ix) (h2 : ix ≤ 60) (hs : SlotP s) (hb : s.ballot ≤ p) (h0 : ix ≤ k → s.ballot ≠ 0) : DiskP p k ((padL ds ix.toNat).set (ix - 1).toNat s):=by
  have hl : ((padL ds ix.toNat).set (ix - 1).toNat s).length = max ds.length ix.toNat:=by rw [List.length_set,padL_len]
  have hm : ∀ t ∈ (padL ds ix.toNat).set (ix - 1).toNat s,t = s ∨ t ∈ ds ∨ t = ⟨0,⟨#[]⟩⟩:=fun t ht=>by
    rcases List.mem_or_eq_of_mem_set ht with e|e
    · exact .inr (padL_mem e)
    · exact .inl e
  refine ⟨h.p0,h.p1,⟨by rw [hl];have:=h.slots.1;omega,fun t ht=>?_⟩,h.k0,by rw [hl];have:=h.k1;omega,fun t ht=>?_,fun j hj hk=>?_⟩
  · rcases hm t ht with e|e|e
    · rw [e];exact hs
    · exact h.slots.2 t e
    · rw [e];exact slot_zero
  · rcases hm t ht with e|e|e
    · rw [e];exact hb
    · exact h.le t e
    · rw [e];exact h.p0
  · have hk1:=h.k1
    have hjd : j < ds.length:=by omega
    rw [List.getElem_set]
    split
    · exact h0 (by omega)
    · rw [padL_at hjd];exact h.known j hjd hk
theorem disk_promise {p q k : Int} {ds : List Slot} (h : DiskP p k ds) (hq : p ≤ q) (h1 : q ≤ 1000000) : DiskP q k ds:=⟨by have:=h.p0;omega,h1,h.slots,h.k0,h.k1,fun s hs=>by have:=h.le s hs;omega,h.known⟩
theorem disk_know {p k q : Int} {ds : List Slot} (h : DiskP p k ds) (h0 : 0 ≤ q) (h1 : q ≤ ds.length) (hk : ∀ j (h : j < ds.length),(j : Int) < q → ds[j].ballot ≠ 0) : DiskP p q ds:=⟨h.p0,h.p1,h.slots,h0,h1,h.le,hk⟩
theorem quiet_calm (x : Rcd) : QuietP (calmL x):=⟨rfl,rfl,rfl,rfl,rfl,rfl⟩
theorem acks_nil (o : Int) : AcksP [] o:=⟨by simp,List.Pairwise.nil⟩
theorem vr_calm {x : Rcd} (h : VR x) : VR (calmL x):=⟨h.of1,h.of5,h.n1,h.no,h.safe,h.disk,h.heldLen,h.wishes,h.h0,h.h1,h.held,nums_nil _,slots_nil,acks_nil _,by simp [calmL],by simp [calmL],by simp [calmL],by simp [calmL],fun _ _=>quiet_calm x,fun hu=>⟨quiet_calm x,(h.down hu).2⟩⟩
theorem vr_calmp {x : Rcd} {p : Int} (h : VR x) (h1 : x.dp ≤ p) (h2 : p ≤ 1000000) : VR { calmL x with dp:=p }:=⟨h.of1,h.of5,h.n1,h.no,h.safe,disk_promise h.disk h1 h2,h.heldLen,h.wishes,h.h0,h.h1,h.held,nums_nil _,slots_nil,acks_nil _,by simp [calmL],by simp [calmL],by simp [calmL],by simp [calmL],fun _ _=>⟨rfl,rfl,rfl,rfl,rfl,rfl⟩,fun hu=>⟨⟨rfl,rfl,rfl,rfl,rfl,rfl⟩,(h.down hu).2⟩⟩
theorem vr_hold {x : Rcd} {m : Msg} (h : VR x) (hu : x.up = true) (hm : MsgP { m with frm:=x.number } x.of) : VR (holdL x m):=by
  unfold holdL
  split
  · rename_i hl
    refine { h with heldLen:=?_,held:=?_,quiet:=fun a b=>?_,down:=fun hd=>?_ }
    · simp only [List.length_append,List.length_cons,List.length_nil];omega
    · intro y hy
      rcases List.mem_append.1 hy with e|e
      · exact h.held y e
      · simp at e;subst e;exact ⟨hm,rfl⟩
    · have:=h.quiet a b;exact ⟨this.1,this.2,this.3,this.4,this.5,this.6⟩
    · simp only at hd;rw [hu] at hd;cases hd
  · exact h
theorem vr_dp {x : Rcd} {p : Int} (h : VR x) (h1 : x.dp ≤ p) (h2 : p ≤ 1000000) : VR { x with dp:=p } :=
  { h with disk:=disk_promise h.disk h1 h2,lead:=fun hl=>by have:=h.lead hl;exact ⟨this.1,by have:=this.2;simp only;omega⟩,quiet:=fun a b=>by have:=h.quiet a b;exact ⟨this.1,this.2,this.3,this.4,this.5,this.6⟩,down:=fun hd=>by have:=h.down hd;exact ⟨⟨this.1.1,this.1.2,this.1.3,this.1.4,this.1.5,this.1.6⟩,this.2⟩ }
theorem vr_heard {x : Rcd} {n : Int} (h : VR x) (h0 : 0 ≤ n) (h1 : n ≤ 1000000) (hd : x.up = false → n = 0) : VR { x with heard:=n } :=
  { h with h0:=h0,h1:=h1,quiet:=fun a b=>by have:=h.quiet a b;exact ⟨this.1,this.2,this.3,this.4,this.5,this.6⟩,down:=fun hu=>by have:=h.down hu;exact ⟨⟨this.1.1,this.1.2,this.1.3,this.1.4,this.1.5,this.1.6⟩,this.2.1,this.2.2.1,hd hu⟩ }
theorem vr_follow {x : Rcd} {b : Int} (h : VR x) (h1 : b ≤ 1000000) : VR (followL x b):=by
  have hp:=h.disk.p1
  have h2 : VR { x with dp:=max x.dp b }:=vr_dp h (by omega) (by omega)
  unfold followL
  split
  · exact vr_heard h2 (by omega) (by omega) (fun _=>rfl)
  · exact vr_heard (vr_calm h2) (by omega) (by omega) (fun _=>rfl)
theorem vr_ds {x : Rcd} {k : Int} {ds : List Slot} (h : VR x) (hd : DiskP x.dp k ds) : VR { x with dk:=k,ds:=ds } :=
  { h with disk:=hd,quiet:=fun a b=>by have:=h.quiet a b;exact ⟨this.1,this.2,this.3,this.4,this.5,this.6⟩,down:=fun hd=>by have:=h.down hd;exact ⟨⟨this.1.1,this.1.2,this.1.3,this.1.4,this.1.5,this.1.6⟩,this.2⟩ }
theorem vr_set {x : Rcd} {ix : Int} {s : Slot} (h : VR x) (h1 : 1 ≤ ix) (h2 : ix ≤ 60) (hs : SlotP s) (hb : s.ballot ≤ x.dp) (h0 : ix ≤ x.dk → s.ballot ≠ 0) : VR (setL x ix s):=vr_ds h (disk_set h.disk h1 h2 hs hb h0)
theorem vr_got {x : Rcd} {f : Int} {bs : List Slot} (h : VR x) (ht : x.trying = true) (hf : 1 ≤ f ∧ f ≤ x.of) (hb : SlotsP bs) : VR (gotL x f bs) :=
  { h with yes:=nums_add h.yes hf.1 hf.2,best:=slots_merge h.best hb,leadY:=fun hl=>absurd ⟨hl,ht⟩ h.one,quiet:=(fun a b=>by simp only [gotL] at b;rw [ht] at b;cases b),down:=(fun hd=>by have:=(h.down hd).1.trying;rw [ht] at this;cases this) }
theorem vr_won {x : Rcd} (h : VR x) (ht : x.trying = true) : VR (wonL x):=by
  have hl:=h.lead (.inr ht)
  have hc:=vr_calm h
  exact { hc with one:=by simp [wonL,calmL],lead:=fun _=>hl,tryA:=by simp [wonL,calmL],leadY:=fun _=>⟨rfl,rfl⟩,quiet:=(fun a=>by simp [wonL] at a),down:=(fun hd=>by have:=(h.down hd).1.trying;rw [ht] at this;cases this) }
theorem lay_keep (b : Int) (best : List Slot) : ∀ (n k : Nat) (y : Rcd),∃ ds,layL b best n k y = { y with ds:=ds }
  | 0,k,y=>⟨y.ds,rfl⟩
  | n + 1,k,y=>by
    obtain ⟨ds,h⟩:=lay_keep b best n (k + 1) (setL y ((k : Int) + 1) ⟨b,(rd tSlot best k).text⟩)
    exact ⟨ds,by rw [layL,h];rfl⟩
theorem vr_lay {b : Int} {best : List Slot} (hb : SlotsP best) (hb1 : 1 ≤ b) (hb2 : b ≤ 1000000) : ∀ (n k : Nat) (y : Rcd),k + n ≤ best.length → VR y → b ≤ y.dp → VR (layL b best n k y)
  | 0,k,y,_,h,_=>h
  | n + 1,k,y,hn,h,hy=>by
    have hk : k < best.length:=by omega
    have hs:=hb.2 _ (List.getElem_mem hk)
    have hl:=hb.1
    rw [layL]
    refine vr_lay hb hb1 hb2 n (k + 1) _ (by omega) (vr_set h (by omega) (by omega) ?_ hy (fun _=>?_)) hy
    · rw [rd_at hk];exact ⟨by show 0 ≤ b;omega,hb2,hs.txt,fun e=>by simp only at e;omega⟩
    · simp only;omega
theorem vr_prom {x : Rcd} {f : Int} {bs : List Slot} (h : VR x) (ht : x.trying = true) (hf : 1 ≤ f ∧ f ≤ x.of) (hb : SlotsP bs) : VR (promL x f bs):=by
  have hg:=vr_got h ht hf hb
  unfold promL
  split
  · exact hg
  · have hl:=h.lead (.inr ht)
    have hp:=h.disk.p1
    have hm:=slots_merge h.best hb
    refine (if hk : x.dk.toNat ≤ (mergeL x.best bs).length then ?_ else ?_)
    · exact vr_lay hm hl.1 (by omega) _ _ _ (by omega) (vr_won hg ht) hl.2
    · rw [show (mergeL x.best bs).length - x.dk.toNat = 0 by omega]
      exact vr_won hg ht
theorem advF_in {x : Rcd} (hb : x.ballot ≠ 0) (hd : ∀ j (h : j < x.ds.length),(j : Int) < x.dk → x.ds[j].ballot ≠ 0) (l : List Ack) : ∀ d : Int,0 ≤ d → d ≤ x.ds.length → (∀ j (h : j < x.ds.length),(j : Int) < d → x.ds[j].ballot ≠ 0) → d ≤ l.foldl (advK x) d ∧ l.foldl (advK x) d ≤ x.ds.length ∧ ∀ j (h : j < x.ds.length),(j : Int) < l.foldl (advK x) d → x.ds[j].ballot ≠ 0:=by
  induction l with
  | nil=>intro d h0 h1 h2;exact ⟨Int.le_refl _,h1,h2⟩
  | cons a r ih =>
    intro d h0 h1 h2
    rw [List.foldl_cons]
    have hi:=advK_in (x:=x) (a:=a) h0 h1
    have h3 : d ≤ advK x d a ∧ ∀ j (h : j < x.ds.length),(j : Int) < advK x d a → x.ds[j].ballot ≠ 0:=by
      unfold advK
      split
      · rename_i h
        refine ⟨by omega,fun j hj hk=>?_⟩
        by_cases e : (j : Int) < d
        · exact h2 j hj e
        · have e2:=h.2.2.2
          rw [show a.index - 1 = (j : Int) by omega,rdR_at hj] at e2
          rw [e2];exact hb
      · exact ⟨Int.le_refl _,h2⟩
    obtain ⟨g1,g2,g3⟩:=ih _ hi.1 hi.2 h3.2
    exact ⟨by omega,g2,g3⟩
theorem vr_adv {x : Rcd} (h : VR x) (hl : x.lead = true) : VR (advL x) ∧ x.dk ≤ (advL x).dk:=by
  have hb:=(h.lead (.inl hl)).1
  obtain ⟨g1,g2,g3⟩:=advF_in (x:=x) (by omega) h.disk.known x.acks x.dk h.disk.k0 h.disk.k1 h.disk.known
  exact ⟨vr_ds h (disk_know h.disk (by have:=h.disk.k0;omega) g2 g3),g1⟩
theorem vr_acks {x : Rcd} {ix f : Int} (h : VR x) (hl : x.lead = true) (hi : 1 ≤ ix ∧ ix ≤ 60) (hf : 1 ≤ f ∧ f ≤ x.of) : VR { x with acks:=ackA x.acks ix f } :=
  { h with acks:=acks_ack h.acks hi hf,tryA:=fun ht=>absurd ⟨hl,ht⟩ h.one,quiet:=(fun a=>by simp only at a;rw [hl] at a;cases a),down:=(fun hd=>by have:=(h.down hd).1.lead;rw [hl] at this;cases this) }
theorem vr_ack {x : Rcd} {ix f : Int} (h : VR x) (hl : x.lead = true) (hi : 1 ≤ ix ∧ ix ≤ 60) (hf : 1 ≤ f ∧ f ≤ x.of) : VR (ackL x ix f) ∧ x.dk ≤ (ackL x ix f).dk:=vr_adv (vr_acks h hl hi hf) hl
theorem vr_wish {x : Rcd} {t : ByteArray} (h : VR x) (hu : x.up = true) : VR (wish1 x t):=by
  unfold wish1
  split
  · rename_i hw
    simp only [wishOk,Bool.and_eq_true,decide_eq_true_eq] at hw
    have hn:=(newB_iff (Nat.le_refl _)).1 hw.1.1.2
    rw [List.take_length] at hn
    refine { h with wishes:=⟨by simp only [List.length_append,List.length_cons,List.length_nil];have:=hw.1.2;omega,fun s hs=>?_,?_⟩,quiet:=fun a b=>by have:=h.quiet a b;exact ⟨this.1,this.2,this.3,this.4,this.5,this.6⟩,down:=fun hd=>by simp only at hd;rw [hu] at hd;cases hd }
    · rcases List.mem_append.1 hs with e|e
      · exact h.wishes.all s e
      · simp at e;subst e;have:=hw.1.1.1;omega
    · rw [List.nodup_append]
      refine ⟨h.wishes.nodup,by simp,fun a ha b hb e=>?_⟩
      simp at hb;subst hb;subst e;exact hn ha
  · exact h
end Go.Proofs.YtampmicahnnebaaGreat.Sp
