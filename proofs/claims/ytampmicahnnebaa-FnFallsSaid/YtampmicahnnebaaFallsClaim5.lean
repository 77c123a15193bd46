/- Draws: numbers, digits, texts. No condition. -/
import Derived.Test.YtampmicahnnebaaFallsClaim3
import Derived.Test.YtampmicahnnebaaFallsClaim1
import Derived.Test.YtampmicahnnebaaFallsClaim2
import Derived.Laws.BytesArg
import Derived.Test.YtampmicahnnebaaFallsClaim4
import Derived.Lib.AppendZerosOnto
import Derived.Lib.Overlaps
import Derived.Laws.IdiomCopy
set_option linter.unusedVariables false
set_option linter.unusedSimpArgs false
namespace Go.Proofs.Ytampmicahnnebaa.Sp
open Go Go.RowKit
set_option maxRecDepth 10000
set_option maxHeartbeats 4000000
section
variable {P : Program} {n : Nat} {ops : Array Oper} {Q : Exit → Act → World → Prop} {rest : List Oper} {E : Env} {w0 W : World} {L : List Asn} {d src dst e g t : Nat} {ty : TypeId} {pos : String} {after : Array Edge} {x y : Operand} {s s' : ByteArray} {xt yt : TypeId} {k k' : IntKind} {m q r : Int} {us : TypeDesc}
theorem p_concat2 (hx : ev E x = some (.string s)) (hy : ev E y = some (.string s')) (hl : (s.size : Int) + s'.size ≤ 9223372036854775807) : PV P E (.binOp .add xt x y yt) (.string (s ++ s')):=⟨fun n a ha dst ty pos after gd W=>by simp [execOp,ha.eval hx,ha.eval hy,eqGuard,binOp,Op.stringOp,hl]⟩
theorem p_conv2 [hs : Und P src us] [hd : Und P dst (.int k')] (hx : ev E x = some (.int k m)) (hr : k'.wrap m = r) : PV P E (.convert src dst x) (.int k' r):=⟨fun n a ha dst ty pos after gd W=>by
  simp [execOp,ha.eval hx,convert,underlying,hs.out,hd.out,Conv.intToInt,hr]⟩
theorem s_convb2 [hs : Und P src (.slice e)] [he : Und P e (.int .u8)] [hd : Und P dst .string] [hB : BoxAt L g t [.int .u8 m]] (hm : Mem w0 W L) (hx : ev E x = some (.slice (some ⟨g,0,none⟩) 1 1)) (hn : Nat.blt d n = true)
    (h : WL P n ops Q rest ((d,.string (strOfNums [m])) :: E) W) : WL P n ops Q (⟨some d,.convert src dst x,ty,pos,after,none⟩ :: rest) E W:=by
  have hrun:=run_convert_bytes_arg (P:=P) W src e hs.out he.out g 0 1 1 [m] rfl (fun i hi=>by
    obtain rfl : i = 0:=by omega
    rw [cell_of_row W g _ _ t (0,0) hm.heap];rfl) dst hd.out
  exact s_run rfl rfl hn (fun a ha=>by simp [execOp,ha.eval hx,hrun]) h
def xorI (a b : Int) : Int:=IntKind.i64.wrap ((BitVec.ofInt 64 a ^^^ BitVec.ofInt 64 b).toNat : Int)
theorem p_xor (hx : ev E x = some (.int .i64 m)) (hy : ev E y = some (.int .i64 q)) : PV P E (.binOp .xor xt x y yt) (.int .i64 (xorI m q)):=⟨fun n a ha dst ty pos after gd W=>by
  simp [execOp,ha.eval hx,ha.eval hy,eqGuard,binOp,Op.intBits,xorI]
  exact congrArg (fun k : Nat=>IntKind.i64.wrap (k : Int)) rfl⟩
theorem xorI_range {a b : Int} (ha : 0 ≤ a) (ha1 : a < 1000000000000) (hb : 0 ≤ b) (hb1 : b < 1000000000000) : 0 ≤ xorI a b ∧ xorI a b < 1099511627776:=by
  obtain ⟨x,rfl⟩:=Int.eq_ofNat_of_zero_le ha
  obtain ⟨y,rfl⟩:=Int.eq_ofNat_of_zero_le hb
  have h1 : (BitVec.ofInt 64 (x : Int) ^^^ BitVec.ofInt 64 (y : Int)).toNat = x ^^^ y:=by
    rw [BitVec.toNat_xor]
    have e1 : (BitVec.ofInt 64 (x : Int)).toNat = x:=by rw [BitVec.toNat_ofInt];omega
    have e2 : (BitVec.ofInt 64 (y : Int)).toNat = y:=by rw [BitVec.toNat_ofInt];omega
    rw [e1,e2]
  have h2 : x ^^^ y < 2 ^ 40:=Nat.xor_lt_two_pow (by omega) (by omega)
  have h3 : (2 : Nat) ^ 40 = 1099511627776:=by decide
  unfold xorI
  rw [h1,wr (by omega) (by omega)]
  omega
end
def rByte : TyR Int:=nestR (ι:=Unit) 1 0 (fun n _=>[.int .u8 n]) (fun _ n _=>0 ≤ n ∧ n < 256) (fun n j=>match j with|0=>some (.int .u8 n)|_=>none) (fun _ _=>rfl)
  (fun x j v i h=>by match j with|0=>simpa using h|j + 1=>simp at h)
theorem byte_at_ {w : World} {A : Option Addr} {bs : List Int} (h : RoRow rByte w A bs) (i : Int) : 0 ≤ rdR rByte bs i ∧ rdR rByte bs i < 256:=by
  unfold rdR
  rw [List.getD_eq_getElem?_getD]
  by_cases hi : i.toNat < bs.length
  · rw [List.getElem?_eq_getElem hi]
    obtain ⟨c,⟨_,_,h2⟩,_⟩:=h.cell i.toNat hi
    exact h2
  · rw [List.getElem?_eq_none (by omega)]
    exact ⟨by decide,by decide⟩
variable {w0 W : World} {L R : List Asn} {A : Option Addr} {c : Nat} {bs : List Int}
theorem tdiv_range {a b : Int} (ha : 0 ≤ a) (hb : 0 < b) : 0 ≤ a.tdiv b ∧ a.tdiv b ≤ a:=⟨Int.tdiv_nonneg ha (by omega),by rw [Int.tdiv_eq_ediv_of_nonneg ha];exact Int.ediv_le_self _ ha⟩
theorem tmod_range {a b : Int} (ha : 0 ≤ a) (hb : 0 < b) : 0 ≤ a.tmod b ∧ a.tmod b < b:=⟨Int.tmod_nonneg _ ha,Int.tmod_lt_of_pos _ hb⟩
theorem pick_p {g : Nat} (hb : RoRow rByte w0 A bs) (hl : bs.length ≤ 2000) (n p : Int) (h0 : 0 ≤ p) (h1 : p ≤ 1000000) (HM : Mem w0 W (box g 77 [.slice A bs.length c,.int .i64 p] :: L)) : Calls Try.prog 30 #[.pointer (some ⟨g,0,none⟩),.int .i64 n] W fun e W'=>∃ v : Int,(0 ≤ v ∧ (n < 1 → v = 0) ∧ (1 ≤ n → v < n)) ∧ e = .returned (.int .i64 v) ∧ Mem w0 W' (box g 77 [.slice A bs.length c,.int .i64 (p + 1)] :: L):=by
  refine enter Try.func30 rfl Try.ntmps30 [(0,_),(1,_)] rfl ⟨rfl,rfl,trivial⟩ ?_
  replace HM:=HM.rod hb
  by_cases c1 : n < 1
  · repeat (first|(refine gGP ?_;first|refine gp (p_move rfl) ?_|refine gp (p_assign rfl) ?_|(refine gGB ?_;first|refine gp (p_lss rfl rfl) ?_|refine gp (p_add rfl rfl (by exact wr (by omega) (by omega))) ?_)|refine gp (p_field rfl (by simp only [Nat.reduceAdd];rfl)) ?_|refine gp (p_pick1 rfl (by (simp;omega)) rfl) ?_)|(refine gGV ?_;refine gv (p_load rfl) ?_)|(refine gL ?_;first|refine s_gp rfl rfl ?_|refine s_gv HM rfl ?_|refine s_pv (p_nil rfl) rfl ?_|(refine gStore ?_;(refine s_store HM rfl rfl rfl rfl ?_;clear HM;intro W1 HM))|refine l_nil ?_|refine s_guard_off rfl rfl rfl rfl (by (simp;omega)) rfl rfl ?_)|(refine gC ?_;first|refine c_seq ?_|refine c_region ?_|refine c_ret ?_|refine c_yes rfl (by rfl) ?_)|(refine gN ?_;first|refine n_then ?_|refine r_then ?_))
    exact ret_tmp rfl rfl ⟨0,⟨by omega,fun _=>rfl,fun h=>by omega⟩,rfl,HM.drop⟩
  by_cases c2 : bs.length = 0
  · have c2d : decide ((bs.length : Int) = 0) = true:=decide_eq_true (by omega)
    repeat (first|(refine gGP ?_;first|refine gp (p_move rfl) ?_|refine gp (p_assign rfl) ?_|(refine gGB ?_;first|refine gp (p_lss rfl rfl) ?_|refine gp (p_eql rfl rfl) ?_|refine gp (p_add rfl rfl (by exact wr (by omega) (by omega))) ?_)|refine gp (p_field rfl (by simp only [Nat.reduceAdd];rfl)) ?_|refine gp (p_len rfl) ?_|refine gp (p_pick0 rfl (by (simp;omega)) rfl) ?_)|(refine gGV ?_;refine gv (p_load rfl) ?_)|(refine gL ?_;first|refine s_gp rfl rfl ?_|refine s_gv HM rfl ?_|refine s_pv (p_nil rfl) rfl ?_|(refine gStore ?_;(refine s_store HM rfl rfl rfl rfl ?_;clear HM;intro W1 HM))|refine l_nil ?_|refine s_guard_on rfl rfl rfl rfl (by (simp;omega)) ?_)|(refine gC ?_;first|refine c_seq ?_|refine c_region ?_|refine c_ret ?_|refine c_yes rfl (by assumption) ?_)|(refine gN ?_;first|refine n_then ?_|refine r_then ?_))
    exact ret_tmp rfl rfl ⟨0,⟨by omega,fun _=>rfl,fun h=>by omega⟩,rfl,HM.drop⟩
  have c2d : decide ((bs.length : Int) = 0) = false:=decide_eq_false (by omega)
  by_cases c3 : p < bs.length
  · have hw:=fun i=>(byte_at_ hb i)
    have hr:=hw (p + 1 - 1)
    have hm:=tmod_range (a:=rdR rByte bs (p + 1 - 1)) (b:=n) hr.1 (by omega)
    repeat (first|(refine gL ?_;refine s_pv (p_conv2 rfl (wr (by omega) (by omega))) rfl ?_)|(refine gGP ?_;refine gGB ?_;refine gp (p_rem rfl rfl (by omega) rfl) ?_)|(refine gGP ?_;first|refine gp (p_move rfl) ?_|refine gp (p_assign rfl) ?_|(refine gGB ?_;first|refine gp (p_lss rfl rfl) ?_|refine gp (p_eql rfl rfl) ?_|refine gp (p_add rfl rfl (by first|exact wr (by omega) (by omega)|rfl)) ?_|refine gp (p_sub rfl rfl (by exact wr (by omega) (by omega))) ?_)|refine gp (p_field rfl (by simp only [Nat.reduceAdd];rfl)) ?_|refine gp (p_indexr HM rfl (by first|with_reducible rfl|omega) rfl (by omega) (by omega)) ?_|refine gp (p_len rfl) ?_|refine gp (p_pick0 rfl (by (simp;omega)) rfl) ?_)|(refine gGV ?_;first|refine gv (p_load rfl) ?_|refine gv (p_loadr rfl rfl (by omega) (by omega) rfl) ?_)|(refine gL ?_;first|refine s_gp rfl rfl ?_|refine s_gv HM rfl ?_|refine s_pv (p_nil rfl) rfl ?_|(refine gStore ?_;(refine s_store HM rfl rfl rfl rfl ?_;clear HM;intro W1 HM))|refine l_nil ?_|refine s_guard_on rfl rfl rfl rfl (by (simp;omega)) ?_)|(refine gC ?_;first|refine c_seq ?_|refine c_region ?_|refine c_skip ?_|refine c_ret ?_|refine c_yes rfl (by (simp;omega)) ?_|refine c_no rfl (by assumption) ?_)|(refine gN ?_;first|refine n_then ?_|refine r_then ?_))
    exact ret_tmp rfl rfl ⟨_,⟨hm.1,fun h=>by omega,fun _=>hm.2⟩,rfl,HM.drop⟩
  have hw:=fun i=>(byte_at_ hb i)
  have hk0 : 0 ≤ p + 1 - 1:=by omega
  have hL : (0 : Int) < bs.length:=by omega
  have hd:=tdiv_range (a:=p + 1 - 1) (b:=bs.length) hk0 hL
  have hm1:=tmod_range (a:=p + 1 - 1) (b:=bs.length) hk0 hL
  have hm2:=tmod_range (a:=(p + 1 - 1) * 7 + 3) (b:=bs.length) (by omega) hL
  have hb1:=hw ((p + 1 - 1).tmod bs.length)
  have hb2:=hw (((p + 1 - 1) * 7 + 3).tmod bs.length)
  generalize hk : p + 1 - 1 = k at *
  repeat (first|(refine gGP ?_;refine gGB ?_;refine gp (p_sub rfl rfl (r:=k) (by rw [hk];exact wr (by omega) (by omega))) ?_)|(refine gGP ?_;first|refine gp (p_move rfl) ?_|refine gp (p_assign rfl) ?_|(refine gGB ?_;first|refine gp (p_lss rfl rfl) ?_|refine gp (p_eql rfl rfl) ?_|refine gp (p_add rfl rfl (by exact wr (by omega) (by omega))) ?_)|refine gp (p_field rfl (by simp only [Nat.reduceAdd];rfl)) ?_|refine gp (p_len rfl) ?_|refine gp (p_pick0 rfl (by (simp;omega)) rfl) ?_)|(refine gGV ?_;refine gv (p_load rfl) ?_)|(refine gL ?_;first|refine s_gp rfl rfl ?_|refine s_gv HM rfl ?_|refine s_pv (p_nil rfl) rfl ?_|(refine gStore ?_;(refine s_store HM rfl rfl rfl rfl ?_;clear HM;intro W1 HM))|refine l_nil ?_|refine s_guard_on rfl rfl rfl rfl (by (simp;omega)) ?_)|(refine gC ?_;first|refine c_seq ?_|refine c_region ?_|refine c_skip ?_|refine c_no rfl (by first|rfl|assumption|(simp;omega)) ?_)|(refine gN ?_;refine n_then ?_))
  refine gR ?_
  refine x_start (ds:=[]) HM (fun w hw=>hw) (by kernel_rfl) (by kernel_rfl) (by repeat (first|exact qp_body|refine qp_then ?_|refine qp_block ?_)) ?_
  intro HQ HS W1 HM1;replace HM:=HM1;clear HM1
  refine x_pv HQ HS 0 rfl (by kernel_rfl) (by kernel_rfl) (l':=#[true,false,false,false,false,false,false,false,false,false,false,false,false,false,false,false,false,false,false,false,false,false,false,false,false,false,false,false,false,false,false,false,false,false,false,false,false,false,false,false,false,false,false,false,false,false]) (by kernel_rfl) rfl ?_
  refine gGP ?_;refine gp (p_move rfl) ?_
  refine x_pv HQ HS 1 rfl (by kernel_rfl) (by kernel_rfl) (l':=#[true,true,false,false,false,false,false,false,false,false,false,false,false,false,false,false,false,false,false,false,false,false,false,false,false,false,false,false,false,false,false,false,false,false,false,false,false,false,false,false,false,false,false,false,false,false]) (by kernel_rfl) rfl ?_
  refine gGP ?_;refine gp (p_nil rfl) ?_
  refine x_pv HQ HS 2 rfl (by kernel_rfl) (by kernel_rfl) (l':=#[true,true,true,false,false,false,false,false,false,false,false,false,false,false,false,false,false,false,false,false,false,false,false,false,false,false,false,false,false,false,false,false,false,false,false,false,false,false,false,false,false,false,false,false,false,false]) (by kernel_rfl) rfl ?_
  refine gGP ?_;refine gp (p_field rfl (by simp only [Nat.reduceAdd];rfl)) ?_
  refine x_pv HQ HS 4 rfl (by kernel_rfl) (by kernel_rfl) (l':=#[true,true,true,false,true,false,false,false,false,false,false,false,false,false,false,false,false,false,false,false,false,false,false,false,false,false,false,false,false,false,false,false,false,false,false,false,false,false,false,false,false,false,false,false,false,false]) (by kernel_rfl) rfl ?_
  refine gGP ?_;refine gp (p_move rfl) ?_
  refine x_pv HQ HS 5 rfl (by kernel_rfl) (by kernel_rfl) (l':=#[true,true,true,false,true,true,false,false,false,false,false,false,false,false,false,false,false,false,false,false,false,false,false,false,false,false,false,false,false,false,false,false,false,false,false,false,false,false,false,false,false,false,false,false,false,false]) (by kernel_rfl) rfl ?_
  refine gGP ?_;refine gp (p_move rfl) ?_
  refine x_pv HQ HS 6 rfl (by kernel_rfl) (by kernel_rfl) (l':=#[true,true,true,false,true,true,true,false,false,false,false,false,false,false,false,false,false,false,false,false,false,false,false,false,false,false,false,false,false,false,false,false,false,false,false,false,false,false,false,false,false,false,false,false,false,false]) (by kernel_rfl) rfl ?_
  refine gGP ?_;refine gp (p_nil rfl) ?_
  refine x_pv HQ HS 7 rfl (by kernel_rfl) (by kernel_rfl) (l':=#[true,true,true,false,true,true,true,true,false,false,false,false,false,false,false,false,false,false,false,false,false,false,false,false,false,false,false,false,false,false,false,false,false,false,false,false,false,false,false,false,false,false,false,false,false,false]) (by kernel_rfl) rfl ?_
  refine gGP ?_;refine gp (p_field rfl (by simp only [Nat.reduceAdd];rfl)) ?_
  refine x_pv HQ HS 15 rfl (by kernel_rfl) (by kernel_rfl) (l':=#[true,true,true,false,true,true,true,true,false,false,false,false,false,false,false,true,false,false,false,false,false,false,false,false,false,false,false,false,false,false,false,false,false,false,false,false,false,false,false,false,false,false,false,false,false,false]) (by kernel_rfl) rfl ?_
  refine gGP ?_;refine gp (p_move rfl) ?_
  refine x_pv HQ HS 16 rfl (by kernel_rfl) (by kernel_rfl) (l':=#[true,true,true,false,true,true,true,true,false,false,false,false,false,false,false,true,true,false,false,false,false,false,false,false,false,false,false,false,false,false,false,false,false,false,false,false,false,false,false,false,false,false,false,false,false,false]) (by kernel_rfl) rfl ?_
  refine gGP ?_;refine gp (p_nil rfl) ?_
  refine x_pv HQ HS 17 rfl (by kernel_rfl) (by kernel_rfl) (l':=#[true,true,true,false,true,true,true,true,false,false,false,false,false,false,false,true,true,true,false,false,false,false,false,false,false,false,false,false,false,false,false,false,false,false,false,false,false,false,false,false,false,false,false,false,false,false]) (by kernel_rfl) rfl ?_
  refine gGP ?_;refine gp (p_field rfl (by simp only [Nat.reduceAdd];rfl)) ?_
  refine x_pv HQ HS 19 rfl (by kernel_rfl) (by kernel_rfl) (l':=#[true,true,true,false,true,true,true,true,false,false,false,false,false,false,false,true,true,true,false,true,false,false,false,false,false,false,false,false,false,false,false,false,false,false,false,false,false,false,false,false,false,false,false,false,false,false]) (by kernel_rfl) rfl ?_
  refine gGP ?_;refine gp (p_move rfl) ?_
  refine x_pv HQ HS 20 rfl (by kernel_rfl) (by kernel_rfl) (l':=#[true,true,true,false,true,true,true,true,false,false,false,false,false,false,false,true,true,true,false,true,true,false,false,false,false,false,false,false,false,false,false,false,false,false,false,false,false,false,false,false,false,false,false,false,false,false]) (by kernel_rfl) rfl ?_
  refine gGP ?_;(refine gGB ?_;refine gp (p_mul rfl rfl (by exact wr (by omega) (by omega))) ?_)
  refine x_pv HQ HS 21 rfl (by kernel_rfl) (by kernel_rfl) (l':=#[true,true,true,false,true,true,true,true,false,false,false,false,false,false,false,true,true,true,false,true,true,true,false,false,false,false,false,false,false,false,false,false,false,false,false,false,false,false,false,false,false,false,false,false,false,false]) (by kernel_rfl) rfl ?_
  refine gGP ?_;(refine gGB ?_;refine gp (p_add rfl rfl (by exact wr (by omega) (by omega))) ?_)
  refine x_pv HQ HS 22 rfl (by kernel_rfl) (by kernel_rfl) (l':=#[true,true,true,false,true,true,true,true,false,false,false,false,false,false,false,true,true,true,false,true,true,true,true,false,false,false,false,false,false,false,false,false,false,false,false,false,false,false,false,false,false,false,false,false,false,false]) (by kernel_rfl) rfl ?_
  refine gGP ?_;refine gp (p_move rfl) ?_
  refine x_pv HQ HS 23 rfl (by kernel_rfl) (by kernel_rfl) (l':=#[true,true,true,false,true,true,true,true,false,false,false,false,false,false,false,true,true,true,false,true,true,true,true,true,false,false,false,false,false,false,false,false,false,false,false,false,false,false,false,false,false,false,false,false,false,false]) (by kernel_rfl) rfl ?_
  refine gGP ?_;refine gp (p_nil rfl) ?_
  refine x_pv HQ HS 24 rfl (by kernel_rfl) (by kernel_rfl) (l':=#[true,true,true,false,true,true,true,true,false,false,false,false,false,false,false,true,true,true,false,true,true,true,true,true,true,false,false,false,false,false,false,false,false,false,false,false,false,false,false,false,false,false,false,false,false,false]) (by kernel_rfl) rfl ?_
  refine gGP ?_;refine gp (p_field rfl (by simp only [Nat.reduceAdd];rfl)) ?_
  refine x_pv HQ HS 33 rfl (by kernel_rfl) (by kernel_rfl) (l':=#[true,true,true,false,true,true,true,true,false,false,false,false,false,false,false,true,true,true,false,true,true,true,true,true,true,false,false,false,false,false,false,false,false,true,false,false,false,false,false,false,false,false,false,false,false,false]) (by kernel_rfl) rfl ?_
  refine gGP ?_;refine gp (p_move rfl) ?_
  refine x_pv HQ HS 34 rfl (by kernel_rfl) (by kernel_rfl) (l':=#[true,true,true,false,true,true,true,true,false,false,false,false,false,false,false,true,true,true,false,true,true,true,true,true,true,false,false,false,false,false,false,false,false,true,true,false,false,false,false,false,false,false,false,false,false,false]) (by kernel_rfl) rfl ?_
  refine gGP ?_;(refine gGB ?_;refine gp (p_mul rfl rfl (by exact wr (by omega) (by omega))) ?_)
  refine x_pv HQ HS 36 rfl (by kernel_rfl) (by kernel_rfl) (l':=#[true,true,true,false,true,true,true,true,false,false,false,false,false,false,false,true,true,true,false,true,true,true,true,true,true,false,false,false,false,false,false,false,false,true,true,false,true,false,false,false,false,false,false,false,false,false]) (by kernel_rfl) rfl ?_
  refine gGP ?_;refine gp (p_move rfl) ?_
  refine x_pv HQ HS 37 rfl (by kernel_rfl) (by kernel_rfl) (l':=#[true,true,true,false,true,true,true,true,false,false,false,false,false,false,false,true,true,true,false,true,true,true,true,true,true,false,false,false,false,false,false,false,false,true,true,false,true,true,false,false,false,false,false,false,false,false]) (by kernel_rfl) rfl ?_
  refine gGP ?_;refine gp (p_move rfl) ?_
  refine x_pv HQ HS 38 rfl (by kernel_rfl) (by kernel_rfl) (l':=#[true,true,true,false,true,true,true,true,false,false,false,false,false,false,false,true,true,true,false,true,true,true,true,true,true,false,false,false,false,false,false,false,false,true,true,false,true,true,true,false,false,false,false,false,false,false]) (by kernel_rfl) rfl ?_
  refine gGP ?_;refine gp (p_nil rfl) ?_
  refine x_pv HQ HS 39 rfl (by kernel_rfl) (by kernel_rfl) (l':=#[true,true,true,false,true,true,true,true,false,false,false,false,false,false,false,true,true,true,false,true,true,true,true,true,true,false,false,false,false,false,false,false,false,true,true,false,true,true,true,true,false,false,false,false,false,false]) (by kernel_rfl) rfl ?_
  refine gGP ?_;refine gp (p_field rfl (by simp only [Nat.reduceAdd];rfl)) ?_
  refine x_ld HQ HS 3 rfl (by kernel_rfl) (by kernel_rfl) (by kernel_rfl) (by kernel_rfl) (l':=#[true,true,true,true,true,true,true,true,false,false,false,false,false,false,false,true,true,true,false,true,true,true,true,true,true,false,false,false,false,false,false,false,false,true,true,false,true,true,true,true,false,false,false,false,false,false]) (by kernel_rfl) rfl ?_
  refine gGV ?_;refine gv (p_load rfl) ?_
  refine x_ld HQ HS 8 rfl (by kernel_rfl) (by kernel_rfl) (by kernel_rfl) (by kernel_rfl) (l':=#[true,true,true,true,true,true,true,true,true,false,false,false,false,false,false,true,true,true,false,true,true,true,true,true,true,false,false,false,false,false,false,false,false,true,true,false,true,true,true,true,false,false,false,false,false,false]) (by kernel_rfl) rfl ?_
  refine gGV ?_;refine gv (p_load rfl) ?_
  refine x_pv HQ HS 9 rfl (by kernel_rfl) (by kernel_rfl) (l':=#[true,true,true,true,true,true,true,true,true,true,false,false,false,false,false,true,true,true,false,true,true,true,true,true,true,false,false,false,false,false,false,false,false,true,true,false,true,true,true,true,false,false,false,false,false,false]) (by kernel_rfl) rfl ?_
  refine gGP ?_;refine gp (p_len rfl) ?_
  refine x_pv HQ HS 10 rfl (by kernel_rfl) (by kernel_rfl) (l':=#[true,true,true,true,true,true,true,true,true,true,true,false,false,false,false,true,true,true,false,true,true,true,true,true,true,false,false,false,false,false,false,false,false,true,true,false,true,true,true,true,false,false,false,false,false,false]) (by kernel_rfl) rfl ?_
  refine gGP ?_;(refine gGB ?_;refine gp (p_rem rfl rfl (by omega) rfl) ?_)
  refine x_pv HQ HS 11 rfl (by kernel_rfl) (by kernel_rfl) (l':=#[true,true,true,true,true,true,true,true,true,true,true,true,false,false,false,true,true,true,false,true,true,true,true,true,true,false,false,false,false,false,false,false,false,true,true,false,true,true,true,true,false,false,false,false,false,false]) (by kernel_rfl) rfl ?_
  refine gGP ?_;refine gp (p_indexr HM rfl (by first|with_reducible rfl|omega) rfl (by omega) (by omega)) ?_
  refine x_ld HQ HS 12 rfl (by kernel_rfl) (by kernel_rfl) (by kernel_rfl) (by kernel_rfl) (l':=#[true,true,true,true,true,true,true,true,true,true,true,true,true,false,false,true,true,true,false,true,true,true,true,true,true,false,false,false,false,false,false,false,false,true,true,false,true,true,true,true,false,false,false,false,false,false]) (by kernel_rfl) rfl ?_
  refine gGV ?_;refine gv (p_loadr rfl rfl (by omega) (by omega) rfl) ?_
  refine x_ld HQ HS 18 rfl (by kernel_rfl) (by kernel_rfl) (by kernel_rfl) (by kernel_rfl) (l':=#[true,true,true,true,true,true,true,true,true,true,true,true,true,false,false,true,true,true,true,true,true,true,true,true,true,false,false,false,false,false,false,false,false,true,true,false,true,true,true,true,false,false,false,false,false,false]) (by kernel_rfl) rfl ?_
  refine gGV ?_;refine gv (p_load rfl) ?_
  refine x_ld HQ HS 25 rfl (by kernel_rfl) (by kernel_rfl) (by kernel_rfl) (by kernel_rfl) (l':=#[true,true,true,true,true,true,true,true,true,true,true,true,true,false,false,true,true,true,true,true,true,true,true,true,true,true,false,false,false,false,false,false,false,true,true,false,true,true,true,true,false,false,false,false,false,false]) (by kernel_rfl) rfl ?_
  refine gGV ?_;refine gv (p_load rfl) ?_
  refine x_pv HQ HS 26 rfl (by kernel_rfl) (by kernel_rfl) (l':=#[true,true,true,true,true,true,true,true,true,true,true,true,true,false,false,true,true,true,true,true,true,true,true,true,true,true,true,false,false,false,false,false,false,true,true,false,true,true,true,true,false,false,false,false,false,false]) (by kernel_rfl) rfl ?_
  refine gGP ?_;refine gp (p_len rfl) ?_
  refine x_pv HQ HS 27 rfl (by kernel_rfl) (by kernel_rfl) (l':=#[true,true,true,true,true,true,true,true,true,true,true,true,true,false,false,true,true,true,true,true,true,true,true,true,true,true,true,true,false,false,false,false,false,true,true,false,true,true,true,true,false,false,false,false,false,false]) (by kernel_rfl) rfl ?_
  refine gGP ?_;(refine gGB ?_;refine gp (p_rem rfl rfl (by omega) rfl) ?_)
  refine x_pv HQ HS 28 rfl (by kernel_rfl) (by kernel_rfl) (l':=#[true,true,true,true,true,true,true,true,true,true,true,true,true,false,false,true,true,true,true,true,true,true,true,true,true,true,true,true,true,false,false,false,false,true,true,false,true,true,true,true,false,false,false,false,false,false]) (by kernel_rfl) rfl ?_
  refine gGP ?_;refine gp (p_indexr HM rfl (by first|with_reducible rfl|omega) rfl (by omega) (by omega)) ?_
  refine x_ld HQ HS 29 rfl (by kernel_rfl) (by kernel_rfl) (by kernel_rfl) (by kernel_rfl) (l':=#[true,true,true,true,true,true,true,true,true,true,true,true,true,false,false,true,true,true,true,true,true,true,true,true,true,true,true,true,true,true,false,false,false,true,true,false,true,true,true,true,false,false,false,false,false,false]) (by kernel_rfl) rfl ?_
  refine gGV ?_;refine gv (p_loadr rfl rfl (by omega) (by omega) rfl) ?_
  refine x_ld HQ HS 40 rfl (by kernel_rfl) (by kernel_rfl) (by kernel_rfl) (by kernel_rfl) (l':=#[true,true,true,true,true,true,true,true,true,true,true,true,true,false,false,true,true,true,true,true,true,true,true,true,true,true,true,true,true,true,false,false,false,true,true,false,true,true,true,true,true,false,false,false,false,false]) (by kernel_rfl) rfl ?_
  refine gGV ?_;refine gv (p_load rfl) ?_
  refine x_pv HQ HS 41 rfl (by kernel_rfl) (by kernel_rfl) (l':=#[true,true,true,true,true,true,true,true,true,true,true,true,true,false,false,true,true,true,true,true,true,true,true,true,true,true,true,true,true,true,false,false,false,true,true,false,true,true,true,true,true,true,false,false,false,false]) (by kernel_rfl) rfl ?_
  refine gGP ?_;refine gp (p_len rfl) ?_
  refine x_pv HQ HS 42 rfl (by kernel_rfl) (by kernel_rfl) (l':=#[true,true,true,true,true,true,true,true,true,true,true,true,true,false,false,true,true,true,true,true,true,true,true,true,true,true,true,true,true,true,false,false,false,true,true,false,true,true,true,true,true,true,true,false,false,false]) (by kernel_rfl) rfl ?_
  refine gGP ?_;(refine gGB ?_;refine gp (p_quo rfl rfl (by omega) (by exact wr (by omega) (by omega))) ?_)
  refine x_pv HQ HS 43 rfl (by kernel_rfl) (by kernel_rfl) (l':=#[true,true,true,true,true,true,true,true,true,true,true,true,true,false,false,true,true,true,true,true,true,true,true,true,true,true,true,true,true,true,false,false,false,true,true,false,true,true,true,true,true,true,true,true,false,false]) (by kernel_rfl) rfl ?_
  refine gGP ?_;(refine gGB ?_;refine gp (p_mul rfl rfl (by exact wr (by omega) (by omega))) ?_)
  refine x_two 13 30 (by kernel_rfl) rfl rfl (l':=#[true,true,true,true,true,true,true,true,true,true,true,true,true,true,false,true,true,true,true,true,true,true,true,true,true,true,true,true,true,true,false,false,false,true,true,false,true,true,true,true,true,true,true,true,false,false]) (l'':=#[true,true,true,true,true,true,true,true,true,true,true,true,true,false,false,true,true,true,true,true,true,true,true,true,true,true,true,true,true,true,true,false,false,true,true,false,true,true,true,true,true,true,true,true,false,false]) (by kernel_rfl) (by kernel_rfl) (x_go ?_) (x_go ?_)
  · repeat (first|(refine gL ?_;refine s_pv (p_conv2 rfl (wr (by omega) (by omega))) rfl ?_)|(refine gL ?_;refine l_nil ?_)|(refine gN ?_;refine x_back (by exact HM) ?_))
    refine x_pv HQ HS 14 rfl (by kernel_rfl) (by kernel_rfl) (l':=#[true,true,true,true,true,true,true,true,true,true,true,true,true,true,true,true,true,true,true,true,true,true,true,true,true,true,true,true,true,true,false,false,false,true,true,false,true,true,true,true,true,true,true,true,false,false]) (by kernel_rfl) rfl ?_
    refine gGP ?_;(refine gGB ?_;refine gp (p_mul rfl rfl (by exact wr (by omega) (by omega))) ?_)
    refine x_one 30 (by kernel_rfl) rfl (l':=#[true,true,true,true,true,true,true,true,true,true,true,true,true,true,true,true,true,true,true,true,true,true,true,true,true,true,true,true,true,true,true,false,false,true,true,false,true,true,true,true,true,true,true,true,false,false]) (by kernel_rfl) (x_go ?_)
    repeat (first|(refine gL ?_;refine s_pv (p_conv2 rfl (wr (by omega) (by omega))) rfl ?_)|(refine gL ?_;refine l_nil ?_)|(refine gN ?_;refine x_back (by exact HM) ?_))
    refine x_pv HQ HS 31 rfl (by kernel_rfl) (by kernel_rfl) (l':=#[true,true,true,true,true,true,true,true,true,true,true,true,true,true,true,true,true,true,true,true,true,true,true,true,true,true,true,true,true,true,true,true,false,true,true,false,true,true,true,true,true,true,true,true,false,false]) (by kernel_rfl) rfl ?_
    refine gGP ?_;(refine gGB ?_;refine gp (p_mul rfl rfl (by exact wr (by omega) (by omega))) ?_)
    refine x_pv HQ HS 32 rfl (by kernel_rfl) (by kernel_rfl) (l':=#[true,true,true,true,true,true,true,true,true,true,true,true,true,true,true,true,true,true,true,true,true,true,true,true,true,true,true,true,true,true,true,true,true,true,true,false,true,true,true,true,true,true,true,true,false,false]) (by kernel_rfl) rfl ?_
    refine gGP ?_;(refine gGB ?_;refine gp (p_add rfl rfl (by exact wr (by omega) (by omega))) ?_)
    refine x_pv HQ HS 35 rfl (by kernel_rfl) (by kernel_rfl) (l':=#[true,true,true,true,true,true,true,true,true,true,true,true,true,true,true,true,true,true,true,true,true,true,true,true,true,true,true,true,true,true,true,true,true,true,true,true,true,true,true,true,true,true,true,true,false,false]) (by kernel_rfl) rfl ?_
    refine gGP ?_;(refine gGB ?_;refine gp (p_add rfl rfl (by exact wr (by omega) (by omega))) ?_)
    refine x_pv HQ HS 44 rfl (by kernel_rfl) (by kernel_rfl) (l':=#[true,true,true,true,true,true,true,true,true,true,true,true,true,true,true,true,true,true,true,true,true,true,true,true,true,true,true,true,true,true,true,true,true,true,true,true,true,true,true,true,true,true,true,true,true,false]) (by kernel_rfl) rfl ?_
    refine gGP ?_;(refine gGB ?_;refine gp (p_add rfl rfl (by exact wr (by omega) (by omega))) ?_)
    refine x_pv HQ HS 45 rfl (by kernel_rfl) (by kernel_rfl) (l':=#[true,true,true,true,true,true,true,true,true,true,true,true,true,true,true,true,true,true,true,true,true,true,true,true,true,true,true,true,true,true,true,true,true,true,true,true,true,true,true,true,true,true,true,true,true,true]) (by kernel_rfl) rfl ?_
    refine gGP ?_;refine gp (p_assign rfl) ?_
    refine x_done (by kernel_rfl) ?_
    have hX : 0 ≤ rdR rByte bs (k.tmod bs.length) * 131 + rdR rByte bs ((k * 7 + 3).tmod bs.length) * 1117 + k * 29 + k.tdiv bs.length * 53 ∧ rdR rByte bs (k.tmod bs.length) * 131 + rdR rByte bs ((k * 7 + 3).tmod bs.length) * 1117 + k * 29 + k.tdiv bs.length * 53 < 1000000000:=by omega
    generalize rdR rByte bs (k.tmod bs.length) * 131 + rdR rByte bs ((k * 7 + 3).tmod bs.length) * 1117 + k * 29 + k.tdiv bs.length * 53 = X at *
    have hq:=tdiv_range (a:=X) (b:=64) hX.1 (by decide)
    have hx:=xorI_range (a:=X) (b:=X.tdiv 64) hX.1 (by omega) hq.1 (by omega)
    have hm:=tmod_range (a:=xorI X (X.tdiv 64)) (b:=n) hx.1 (by omega)
    repeat (first|(refine gL ?_;refine s_pv (p_xor rfl rfl) rfl ?_)|(refine gGP ?_;first|refine gp (p_move rfl) ?_|refine gp (p_assign rfl) ?_|(refine gGB ?_;first|refine gp (p_rem rfl rfl (by omega) rfl) ?_|refine gp (p_quo rfl rfl (by omega) (by exact wr (by omega) (by omega))) ?_))|(refine gL ?_;first|refine s_gp rfl rfl ?_|refine l_nil ?_)|(refine gC ?_;first|refine c_seq ?_|refine c_region ?_|refine c_ret ?_)|(refine gN ?_;refine n_then ?_))
    exact ret_tmp rfl rfl ⟨_,⟨hm.1,fun h=>by omega,fun _=>hm.2⟩,rfl,HM.drop⟩
  · repeat (first|(refine gL ?_;refine s_pv (p_conv2 rfl (wr (by omega) (by omega))) rfl ?_)|(refine gL ?_;refine l_nil ?_)|(refine gN ?_;refine x_back (by exact HM) ?_))
    refine x_pv HQ HS 31 rfl (by kernel_rfl) (by kernel_rfl) (l':=#[true,true,true,true,true,true,true,true,true,true,true,true,true,false,false,true,true,true,true,true,true,true,true,true,true,true,true,true,true,true,true,true,false,true,true,false,true,true,true,true,true,true,true,true,false,false]) (by kernel_rfl) rfl ?_
    refine gGP ?_;(refine gGB ?_;refine gp (p_mul rfl rfl (by exact wr (by omega) (by omega))) ?_)
    refine x_one 13 (by kernel_rfl) rfl (l':=#[true,true,true,true,true,true,true,true,true,true,true,true,true,true,false,true,true,true,true,true,true,true,true,true,true,true,true,true,true,true,true,true,false,true,true,false,true,true,true,true,true,true,true,true,false,false]) (by kernel_rfl) (x_go ?_)
    repeat (first|(refine gL ?_;refine s_pv (p_conv2 rfl (wr (by omega) (by omega))) rfl ?_)|(refine gL ?_;refine l_nil ?_)|(refine gN ?_;refine x_back (by exact HM) ?_))
    refine x_pv HQ HS 14 rfl (by kernel_rfl) (by kernel_rfl) (l':=#[true,true,true,true,true,true,true,true,true,true,true,true,true,true,true,true,true,true,true,true,true,true,true,true,true,true,true,true,true,true,true,true,false,true,true,false,true,true,true,true,true,true,true,true,false,false]) (by kernel_rfl) rfl ?_
    refine gGP ?_;(refine gGB ?_;refine gp (p_mul rfl rfl (by exact wr (by omega) (by omega))) ?_)
    refine x_pv HQ HS 32 rfl (by kernel_rfl) (by kernel_rfl) (l':=#[true,true,true,true,true,true,true,true,true,true,true,true,true,true,true,true,true,true,true,true,true,true,true,true,true,true,true,true,true,true,true,true,true,true,true,false,true,true,true,true,true,true,true,true,false,false]) (by kernel_rfl) rfl ?_
    refine gGP ?_;(refine gGB ?_;refine gp (p_add rfl rfl (by exact wr (by omega) (by omega))) ?_)
    refine x_pv HQ HS 35 rfl (by kernel_rfl) (by kernel_rfl) (l':=#[true,true,true,true,true,true,true,true,true,true,true,true,true,true,true,true,true,true,true,true,true,true,true,true,true,true,true,true,true,true,true,true,true,true,true,true,true,true,true,true,true,true,true,true,false,false]) (by kernel_rfl) rfl ?_
    refine gGP ?_;(refine gGB ?_;refine gp (p_add rfl rfl (by exact wr (by omega) (by omega))) ?_)
    refine x_pv HQ HS 44 rfl (by kernel_rfl) (by kernel_rfl) (l':=#[true,true,true,true,true,true,true,true,true,true,true,true,true,true,true,true,true,true,true,true,true,true,true,true,true,true,true,true,true,true,true,true,true,true,true,true,true,true,true,true,true,true,true,true,true,false]) (by kernel_rfl) rfl ?_
    refine gGP ?_;(refine gGB ?_;refine gp (p_add rfl rfl (by exact wr (by omega) (by omega))) ?_)
    refine x_pv HQ HS 45 rfl (by kernel_rfl) (by kernel_rfl) (l':=#[true,true,true,true,true,true,true,true,true,true,true,true,true,true,true,true,true,true,true,true,true,true,true,true,true,true,true,true,true,true,true,true,true,true,true,true,true,true,true,true,true,true,true,true,true,true]) (by kernel_rfl) rfl ?_
    refine gGP ?_;refine gp (p_assign rfl) ?_
    refine x_done (by kernel_rfl) ?_
    have hX : 0 ≤ rdR rByte bs (k.tmod bs.length) * 131 + rdR rByte bs ((k * 7 + 3).tmod bs.length) * 1117 + k * 29 + k.tdiv bs.length * 53 ∧ rdR rByte bs (k.tmod bs.length) * 131 + rdR rByte bs ((k * 7 + 3).tmod bs.length) * 1117 + k * 29 + k.tdiv bs.length * 53 < 1000000000:=by omega
    generalize rdR rByte bs (k.tmod bs.length) * 131 + rdR rByte bs ((k * 7 + 3).tmod bs.length) * 1117 + k * 29 + k.tdiv bs.length * 53 = X at *
    have hq:=tdiv_range (a:=X) (b:=64) hX.1 (by decide)
    have hx:=xorI_range (a:=X) (b:=X.tdiv 64) hX.1 (by omega) hq.1 (by omega)
    have hm:=tmod_range (a:=xorI X (X.tdiv 64)) (b:=n) hx.1 (by omega)
    repeat (first|(refine gL ?_;refine s_pv (p_xor rfl rfl) rfl ?_)|(refine gGP ?_;first|refine gp (p_move rfl) ?_|refine gp (p_assign rfl) ?_|(refine gGB ?_;first|refine gp (p_rem rfl rfl (by omega) rfl) ?_|refine gp (p_quo rfl rfl (by omega) (by exact wr (by omega) (by omega))) ?_))|(refine gL ?_;first|refine s_gp rfl rfl ?_|refine l_nil ?_)|(refine gC ?_;first|refine c_seq ?_|refine c_region ?_|refine c_ret ?_)|(refine gN ?_;refine n_then ?_))
    exact ret_tmp rfl rfl ⟨_,⟨hm.1,fun h=>by omega,fun _=>hm.2⟩,rfl,HM.drop⟩
def rdr (A : Option Addr) (n c q g : Nat) : Asn:=exP (fun p : Int=>0 ≤ p ∧ p ≤ q) (fun p=>[box g 77 [.slice A n c,.int .i64 p]])
class RdAt (L : List Asn) (A : outParam (Option Addr)) (n c : outParam Nat) (g : Nat) (q : outParam Nat) (R : outParam (List Asn)) : Prop where out : L.Perm (rdr A n c q g :: R)
instance RdAt.here {A : Option Addr} {n c g q : Nat} {L : List Asn} : RdAt (rdr A n c q g :: L) A n c g q L:=⟨List.Perm.refl _⟩
instance (priority:=low) RdAt.there {A : Option Addr} {n c g q : Nat} {B : Asn} {L R : List Asn} [h : RdAt L A n c g q R] : RdAt (B :: L) A n c g q (B :: R):=⟨(List.Perm.cons B h.out).trans (List.Perm.swap ..)⟩
theorem Mem.rdr_up {q q' n g : Nat} (hq : q ≤ q') (h : Mem w0 W (rdr A n c q g :: L)) : Mem w0 W (rdr A n c q' g :: L):=by
  obtain ⟨p,hp,h⟩:=h.ex
  exact Mem.mkx p (by omega) h
theorem pick_c {g q : Nat} (hb : RoRow rByte w0 A bs) (hl : bs.length ≤ 2000) (n : Int) [hr : RdAt L A bs.length c g q R] (hq : q ≤ 1000000) (HM : Mem w0 W L) : Calls Try.prog 30 #[.pointer (some ⟨g,0,none⟩),.int .i64 n] W fun e W'=>∃ v : Int,(0 ≤ v ∧ (n < 1 → v = 0) ∧ (1 ≤ n → v < n)) ∧ e = .returned (.int .i64 v) ∧ Mem w0 W' (rdr A bs.length c (q + 1) g :: R):=by
  obtain ⟨p,hp,h⟩:=(HM.perm hr.out).ex
  refine (pick_p hb hl n p hp.1 (by omega) h).mono ?_
  rintro e W1 ⟨v,hv,rfl,HM1⟩
  exact ⟨v,hv,rfl,Mem.mkx (p + 1) (by omega) HM1⟩
theorem open_c (hb : RoRow rByte w0 A bs) (hc : bs.length ≤ c) (HM : Mem w0 W L) : Calls Try.prog 27 #[.slice A bs.length c] W fun e W'=>∃ (g : Nat) (bs' : List Int),RoRow rByte w0 A bs' ∧ bs'.length ≤ 2000 ∧ e = .returned (.pointer (some ⟨g,0,none⟩)) ∧ Mem w0 W' (rdr A bs'.length c 0 g :: L):=by
  refine enter Try.func27 rfl Try.ntmps27 [(0,_)] rfl ⟨rfl,trivial⟩ ?_
  by_cases c1 : (2000 : Int) < bs.length
  · repeat (first|(refine gGP ?_;first|refine gp (p_move rfl) ?_|refine gp (p_assign rfl) ?_|(refine gGB ?_;refine gp (p_gtr rfl rfl) ?_)|refine gp (p_sliceto rfl rfl (by omega) (by omega)) ?_|refine gp (p_len rfl) ?_|refine gp (p_build rfl) ?_)|(refine gL ?_;first|refine s_gp rfl rfl ?_|(refine s_box HM rfl rfl ?_;clear HM;intro g W1 HM)|refine l_nil ?_)|(refine gC ?_;first|refine c_seq ?_|refine c_region ?_|refine c_ret ?_|refine c_yes rfl (by (simp;omega)) ?_)|(refine gN ?_;refine n_then ?_))
    refine ret_tmp rfl rfl ⟨g,bs.take 2000,ro_take hb 2000,by rw [List.length_take];omega,rfl,?_⟩
    rw [show (bs.take 2000).length = 2000 by rw [List.length_take];omega]
    exact Mem.mkx 0 (by omega) HM
  · repeat (first|(refine gGP ?_;first|refine gp (p_move rfl) ?_|refine gp (p_assign rfl) ?_|(refine gGB ?_;refine gp (p_gtr rfl rfl) ?_)|refine gp (p_len rfl) ?_|refine gp (p_build rfl) ?_)|(refine gL ?_;first|refine s_gp rfl rfl ?_|(refine s_box HM rfl rfl ?_;clear HM;intro g W1 HM)|refine l_nil ?_)|(refine gC ?_;first|refine c_seq ?_|refine c_region ?_|refine c_skip ?_|refine c_ret ?_|refine c_no rfl (by (simp;omega)) ?_)|(refine gN ?_;refine n_then ?_))
    exact ret_tmp rfl rfl ⟨g,bs,hb,by omega,rfl,Mem.mkx 0 (by omega) HM⟩
theorem nums1 (m : Int) : (strOfNums [m]).size = 1:=rfl
theorem dec_c : ∀ (k : Nat) (n : Int),n ≤ k → 0 ≤ n → n ≤ 100000 → ∀ {W : World} {L : List Asn},Mem w0 W L → Calls Try.prog 57 #[.int .i64 n] W fun e W'=>∃ t : ByteArray,(1 ≤ t.size ∧ (t.size : Int) ≤ n + 1) ∧ e = .returned (.string t) ∧ Mem w0 W' L
  | k,n,hk,h0,h1,W,L,HM=>by
    refine enter Try.func57 rfl Try.ntmps57 [(0,_)] rfl ⟨rfl,trivial⟩ ?_
    by_cases c1 : n < 10
    · repeat (first|(refine gL ?_;refine s_pv (p_conv2 rfl rfl) rfl ?_)|(refine gL ?_;refine s_convb2 HM rfl rfl ?_)|(refine gGP ?_;first|refine gp (p_move rfl) ?_|refine gp (p_assign rfl) ?_|(refine gGB ?_;first|refine gp (p_lss rfl rfl) ?_|refine gp (p_add rfl rfl (by exact wr (by omega) (by omega))) ?_))|(refine gL ?_;first|refine s_gp rfl rfl ?_|(refine s_lit1 HM rfl rfl rfl ?_;clear HM;intro g W1 HM)|refine l_nil ?_)|(refine gC ?_;first|refine c_seq ?_|refine c_region ?_|refine c_ret ?_|refine c_yes rfl (by (simp;omega)) ?_)|(refine gN ?_;first|refine n_then ?_|refine r_then ?_))
      exact ret_tmp rfl rfl ⟨_,⟨by rw [nums1];exact Nat.le_refl _,by rw [nums1];omega⟩,rfl,HM.drop⟩
    · have hd:=tdiv_range (a:=n) (b:=10) h0 (by decide)
      have hd2 : n.tdiv 10 < n:=by rw [Int.tdiv_eq_ediv_of_nonneg h0];omega
      have hk1 : (n.tdiv 10) ≤ ((k - 1 : Nat) : Int):=by omega
      have hm:=tmod_range (a:=n) (b:=10) h0 (by decide)
      obtain ⟨k',rfl⟩ : ∃ k',k = k' + 1:=⟨k - 1,by omega⟩
      repeat (first|(refine gGP ?_;first|refine gp (p_move rfl) ?_|refine gp (p_assign rfl) ?_|(refine gGB ?_;refine gp (p_lss rfl rfl) ?_))|(refine gL ?_;first|refine s_gp rfl rfl ?_|refine l_nil ?_)|(refine gC ?_;first|refine c_seq ?_|refine c_region ?_|refine c_skip ?_|refine c_no rfl (by first|rfl|(simp;omega)) ?_)|(refine gN ?_;refine n_then ?_))
      refine gR ?_
      refine x_start (ds:=[]) HM (fun w hw=>hw) (by kernel_rfl) (by kernel_rfl) (by repeat (first|exact qp_body|refine qp_then ?_|refine qp_block ?_)) ?_
      intro HQ HS W1 HM1;replace HM:=HM1;clear HM1
      refine x_pv HQ HS 0 rfl (by kernel_rfl) (by kernel_rfl) (l':=#[true,false,false,false,false,false,false,false,false,false,false]) (by kernel_rfl) rfl ?_
      refine gGP ?_;refine gp (p_move rfl) ?_
      refine x_pv HQ HS 1 rfl (by kernel_rfl) (by kernel_rfl) (l':=#[true,true,false,false,false,false,false,false,false,false,false]) (by kernel_rfl) rfl ?_
      refine gGP ?_;(refine gGB ?_;refine gp (p_quo rfl rfl (by omega) (by exact wr (by omega) (by omega))) ?_)
      refine x_pv HQ HS 3 rfl (by kernel_rfl) (by kernel_rfl) (l':=#[true,true,false,true,false,false,false,false,false,false,false]) (by kernel_rfl) rfl ?_
      refine gGP ?_;refine gp (p_move rfl) ?_
      refine x_pv HQ HS 4 rfl (by kernel_rfl) (by kernel_rfl) (l':=#[true,true,false,true,true,false,false,false,false,false,false]) (by kernel_rfl) rfl ?_
      refine gGP ?_;(refine gGB ?_;refine gp (p_rem rfl rfl (by decide) rfl) ?_)
      refine x_pv HQ HS 5 rfl (by kernel_rfl) (by kernel_rfl) (l':=#[true,true,false,true,true,true,false,false,false,false,false]) (by kernel_rfl) rfl ?_
      refine gGP ?_;(refine gGB ?_;refine gp (p_add rfl rfl (by exact wr (by omega) (by omega))) ?_)
      refine x_two 2 6 (by kernel_rfl) rfl rfl (l':=#[true,true,true,true,true,true,false,false,false,false,false]) (l'':=#[true,true,false,true,true,true,true,false,false,false,false]) (by kernel_rfl) (by kernel_rfl) (x_go ?_) (x_go ?_)
      · repeat (first|(refine gL ?_;first|(refine gCall ?_;(refine s_fn rfl rfl ?_;(go_at_call 57;refine (dec_c k' (n.tdiv 10) (by omega) hd.1 (by omega) HM).mono ?_;rintro e W1 ⟨t,ht,rfl,HM1⟩;refine ⟨_,rfl,?_⟩;replace HM:=HM1;clear HM1)))|refine l_nil ?_)|(refine gN ?_;refine x_back (by exact HM) ?_))
        refine x_one 6 (by kernel_rfl) rfl (l':=#[true,true,true,true,true,true,true,false,false,false,false]) (by kernel_rfl) (x_go ?_)
        repeat (first|(refine gL ?_;refine s_pv (p_conv2 rfl rfl) rfl ?_)|(refine gL ?_;refine l_nil ?_)|(refine gN ?_;refine x_back (by exact HM) ?_))
        refine x_one 7 (by kernel_rfl) rfl (l':=#[true,true,true,true,true,true,true,true,false,false,false]) (by kernel_rfl) (x_go ?_)
        repeat (first|(refine gL ?_;first|(refine s_lit1 HM rfl rfl rfl ?_;clear HM;intro g W1 HM)|refine l_nil ?_)|(refine gN ?_;refine x_back (by exact HM.drop) ?_))
        refine x_one 8 (by kernel_rfl) rfl (l':=#[true,true,true,true,true,true,true,true,true,false,false]) (by kernel_rfl) (x_go ?_)
        repeat (first|(refine gL ?_;refine s_convb2 HM rfl rfl ?_)|(refine gL ?_;refine l_nil ?_)|(refine gN ?_;refine x_back (by exact HM.drop) ?_))
        refine x_pv HQ HS 9 rfl (by kernel_rfl) (by kernel_rfl) (l':=#[true,true,true,true,true,true,true,true,true,true,false]) (by kernel_rfl) rfl ?_
        refine gGP ?_;(refine gGB ?_;refine gp (p_concat2 rfl rfl (by (simp only [nums1];omega))) ?_)
        refine x_pv HQ HS 10 rfl (by kernel_rfl) (by kernel_rfl) (l':=#[true,true,true,true,true,true,true,true,true,true,true]) (by kernel_rfl) rfl ?_
        refine gGP ?_;refine gp (p_assign rfl) ?_
        refine x_done (by kernel_rfl) ?_
        repeat (first|(refine gC ?_;refine c_ret ?_)|(refine gN ?_;refine n_then ?_))
        exact ret_tmp rfl rfl ⟨_,⟨by rw [ByteArray.size_append,nums1];omega,by rw [ByteArray.size_append,nums1];omega⟩,rfl,by first|exact HM|exact HM.drop⟩
      · repeat (first|(refine gL ?_;refine s_pv (p_conv2 rfl rfl) rfl ?_)|(refine gL ?_;refine l_nil ?_)|(refine gN ?_;refine x_back (by exact HM) ?_))
        refine x_two 2 7 (by kernel_rfl) rfl rfl (l':=#[true,true,true,true,true,true,true,false,false,false,false]) (l'':=#[true,true,false,true,true,true,true,true,false,false,false]) (by kernel_rfl) (by kernel_rfl) (x_go ?_) (x_go ?_)
        · repeat (first|(refine gL ?_;first|(refine gCall ?_;(refine s_fn rfl rfl ?_;(go_at_call 57;refine (dec_c k' (n.tdiv 10) (by omega) hd.1 (by omega) HM).mono ?_;rintro e W1 ⟨t,ht,rfl,HM1⟩;refine ⟨_,rfl,?_⟩;replace HM:=HM1;clear HM1)))|refine l_nil ?_)|(refine gN ?_;refine x_back (by exact HM) ?_))
          refine x_one 7 (by kernel_rfl) rfl (l':=#[true,true,true,true,true,true,true,true,false,false,false]) (by kernel_rfl) (x_go ?_)
          repeat (first|(refine gL ?_;first|(refine s_lit1 HM rfl rfl rfl ?_;clear HM;intro g W1 HM)|refine l_nil ?_)|(refine gN ?_;refine x_back (by exact HM.drop) ?_))
          refine x_one 8 (by kernel_rfl) rfl (l':=#[true,true,true,true,true,true,true,true,true,false,false]) (by kernel_rfl) (x_go ?_)
          repeat (first|(refine gL ?_;refine s_convb2 HM rfl rfl ?_)|(refine gL ?_;refine l_nil ?_)|(refine gN ?_;refine x_back (by exact HM.drop) ?_))
          refine x_pv HQ HS 9 rfl (by kernel_rfl) (by kernel_rfl) (l':=#[true,true,true,true,true,true,true,true,true,true,false]) (by kernel_rfl) rfl ?_
          refine gGP ?_;(refine gGB ?_;refine gp (p_concat2 rfl rfl (by (simp only [nums1];omega))) ?_)
          refine x_pv HQ HS 10 rfl (by kernel_rfl) (by kernel_rfl) (l':=#[true,true,true,true,true,true,true,true,true,true,true]) (by kernel_rfl) rfl ?_
          refine gGP ?_;refine gp (p_assign rfl) ?_
          refine x_done (by kernel_rfl) ?_
          repeat (first|(refine gC ?_;refine c_ret ?_)|(refine gN ?_;refine n_then ?_))
          exact ret_tmp rfl rfl ⟨_,⟨by rw [ByteArray.size_append,nums1];omega,by rw [ByteArray.size_append,nums1];omega⟩,rfl,by first|exact HM|exact HM.drop⟩
        · repeat (first|(refine gL ?_;first|(refine s_lit1 HM rfl rfl rfl ?_;clear HM;intro g W1 HM)|refine l_nil ?_)|(refine gN ?_;refine x_back (by exact HM.drop) ?_))
          refine x_two 2 8 (by kernel_rfl) rfl rfl (l':=#[true,true,true,true,true,true,true,true,false,false,false]) (l'':=#[true,true,false,true,true,true,true,true,true,false,false]) (by kernel_rfl) (by kernel_rfl) (x_go ?_) (x_go ?_)
          · repeat (first|(refine gL ?_;first|(refine gCall ?_;(refine s_fn rfl rfl ?_;(go_at_call 57;refine (dec_c k' (n.tdiv 10) (by omega) hd.1 (by omega) HM).mono ?_;rintro e W1 ⟨t,ht,rfl,HM1⟩;refine ⟨_,rfl,?_⟩;replace HM:=HM1;clear HM1)))|refine l_nil ?_)|(refine gN ?_;refine x_back (by exact HM.drop) ?_))
            refine x_one 8 (by kernel_rfl) rfl (l':=#[true,true,true,true,true,true,true,true,true,false,false]) (by kernel_rfl) (x_go ?_)
            repeat (first|(refine gL ?_;refine s_convb2 HM rfl rfl ?_)|(refine gL ?_;refine l_nil ?_)|(refine gN ?_;refine x_back (by exact HM.drop) ?_))
            refine x_pv HQ HS 9 rfl (by kernel_rfl) (by kernel_rfl) (l':=#[true,true,true,true,true,true,true,true,true,true,false]) (by kernel_rfl) rfl ?_
            refine gGP ?_;(refine gGB ?_;refine gp (p_concat2 rfl rfl (by (simp only [nums1];omega))) ?_)
            refine x_pv HQ HS 10 rfl (by kernel_rfl) (by kernel_rfl) (l':=#[true,true,true,true,true,true,true,true,true,true,true]) (by kernel_rfl) rfl ?_
            refine gGP ?_;refine gp (p_assign rfl) ?_
            refine x_done (by kernel_rfl) ?_
            repeat (first|(refine gC ?_;refine c_ret ?_)|(refine gN ?_;refine n_then ?_))
            exact ret_tmp rfl rfl ⟨_,⟨by rw [ByteArray.size_append,nums1];omega,by rw [ByteArray.size_append,nums1];omega⟩,rfl,by first|exact HM|exact HM.drop⟩
          · repeat (first|(refine gL ?_;refine s_convb2 HM rfl rfl ?_)|(refine gL ?_;refine l_nil ?_)|(refine gN ?_;refine x_back (by exact HM.drop) ?_))
            refine x_one 2 (by kernel_rfl) rfl (l':=#[true,true,true,true,true,true,true,true,true,false,false]) (by kernel_rfl) (x_go ?_)
            repeat (first|(refine gL ?_;first|(refine gCall ?_;(refine s_fn rfl rfl ?_;(go_at_call 57;refine (dec_c k' (n.tdiv 10) (by omega) hd.1 (by omega) HM).mono ?_;rintro e W1 ⟨t,ht,rfl,HM1⟩;refine ⟨_,rfl,?_⟩;replace HM:=HM1;clear HM1)))|refine l_nil ?_)|(refine gN ?_;refine x_back (by exact HM.drop) ?_))
            refine x_pv HQ HS 9 rfl (by kernel_rfl) (by kernel_rfl) (l':=#[true,true,true,true,true,true,true,true,true,true,false]) (by kernel_rfl) rfl ?_
            refine gGP ?_;(refine gGB ?_;refine gp (p_concat2 rfl rfl (by (simp only [nums1];omega))) ?_)
            refine x_pv HQ HS 10 rfl (by kernel_rfl) (by kernel_rfl) (l':=#[true,true,true,true,true,true,true,true,true,true,true]) (by kernel_rfl) rfl ?_
            refine gGP ?_;refine gp (p_assign rfl) ?_
            refine x_done (by kernel_rfl) ?_
            repeat (first|(refine gC ?_;refine c_ret ?_)|(refine gN ?_;refine n_then ?_))
            exact ret_tmp rfl rfl ⟨_,⟨by rw [ByteArray.size_append,nums1];omega,by rw [ByteArray.size_append,nums1];omega⟩,rfl,by first|exact HM|exact HM.drop⟩
termination_by k=>k
theorem text_c {g q : Nat} (hb : RoRow rByte w0 A bs) (hl : bs.length ≤ 2000) [hr : RdAt L A bs.length c g q R] (hq : q ≤ 1000000) (HM : Mem w0 W L) : Calls Try.prog 54 #[.pointer (some ⟨g,0,none⟩)] W fun e W'=>∃ t : ByteArray,t.size ≤ 20 ∧ e = .returned (.string t) ∧ Mem w0 W' (rdr A bs.length c (q + 1) g :: R):=by
  refine enter Try.func54 rfl Try.ntmps54 [(0,_)] rfl ⟨rfl,trivial⟩ ?_
  repeat (first|(refine gL ?_;refine s_pv (p_concat2 rfl rfl (by rw [show (ByteArray.mk #[116]).size = 1 from rfl];omega)) rfl ?_)|(refine gGP ?_;first|refine gp (p_move rfl) ?_|refine gp (p_assign rfl) ?_)|(refine gL ?_;first|refine s_gp rfl rfl ?_|(refine gCall ?_;(refine s_fn rfl rfl ?_;first|(go_at_call 30;refine (pick_c hb hl 9 hq HM).mono ?_;rintro e W1 ⟨v,hv,rfl,HM1⟩;refine ⟨_,rfl,?_⟩;replace HM:=HM1;clear HM1;have hv2:=hv.2.2 (by decide))|(go_at_call 57;refine (dec_c 9 v (by omega) hv.1 (by omega) HM).mono ?_;rintro e W1 ⟨t,ht,rfl,HM1⟩;refine ⟨_,rfl,?_⟩;replace HM:=HM1;clear HM1;have ht2 : t.size ≤ 10:=by omega)))|refine l_nil ?_)|(refine gC ?_;first|refine c_seq ?_|refine c_region ?_|refine c_ret ?_)|(refine gN ?_;refine n_then ?_))
  exact ret_tmp rfl rfl ⟨_,by rw [ByteArray.size_append,show (ByteArray.mk #[116]).size = 1 from rfl];omega,rfl,HM⟩
end Go.Proofs.Ytampmicahnnebaa.Sp
namespace Go.Proofs.Ytampmicahnnebaa.Sp
open Go Go.RowKit
set_option maxRecDepth 10000
set_option maxHeartbeats 4000000
variable {w0 W : World} {L R : List Asn} {A : Option Addr} {c : Nat} {bs : List Int}
theorem Mem.rdr_to {n q q' g : Nat} [h : RdAt L A n c g q R] (hq : q ≤ q') (hm : Mem w0 W L) : Mem w0 W (rdr A n c q' g :: R):=(hm.perm h.out).rdr_up hq
theorem event_c {gr q : Nat} (hb : RoRow rByte w0 A bs) (hl : bs.length ≤ 2000) (n : Int) [hr : RdAt L A bs.length c gr q R] (hq : q ≤ 900000) (HM : Mem w0 W L) : Calls Try.prog 67 #[.pointer (some ⟨gr,0,none⟩),.int .i64 n] W fun e W'=>∃ (kd a : Int) (t : ByteArray),t.size ≤ 20 ∧ e = .returned (.agg #[.int .i64 kd,.int .i64 a,.string t]) ∧ Mem w0 W' (rdr A bs.length c (q + 6) gr :: R):=by
  refine enter Try.func67 rfl Try.ntmps67 [(0,_),(1,_)] rfl ⟨rfl,rfl,trivial⟩ ?_
  have hz : (⟨#[]⟩ : ByteArray).size ≤ 20:=by decide
  repeat' (first|(refine gGP ?_;first|refine gp (p_move rfl) ?_|refine gp (p_assign rfl) ?_|(refine gGB ?_;first|refine gp (p_lss rfl rfl) ?_|refine gp (p_eql rfl rfl) ?_)|refine gp (p_build rfl) ?_)|(refine gL ?_;first|refine s_gp rfl rfl ?_|(refine gStore ?_;(refine s_store HM rfl rfl rfl rfl ?_;clear HM;intro W1 HM))|(refine gCall ?_;(refine s_fn rfl rfl ?_;first|(go_at_call 30;refine (pick_c hb hl _ (by omega) HM).mono ?_;rintro e W1 ⟨v,hv,rfl,HM1⟩;refine ⟨_,rfl,?_⟩;replace HM:=HM1;clear HM1)|(go_at_call 54;refine (text_c hb hl (by omega) HM).mono ?_;rintro e W1 ⟨t,ht,rfl,HM1⟩;refine ⟨_,rfl,?_⟩;replace HM:=HM1;clear HM1)))|(refine s_alloc HM rfl ?_;clear HM;intro g W1 HM)|refine l_nil ?_)|(refine gC ?_;first|refine c_seq ?_|refine c_region ?_|refine c_block ?_|refine c_skip ?_|refine c_ret ?_)|(refine gN ?_;first|refine n_then ?_|refine n_block ?_|refine r_then ?_|refine r_block ?_)|refine c_cond rfl (fun h=>?_) (fun h=>?_))
  all_goals exact ret_cell HM rfl rfl rfl ⟨_,_,_,by assumption,rfl,(HM.rdr_to (g:=gr) (q':=q + 6) (by omega)).sb⟩
end Go.Proofs.Ytampmicahnnebaa.Sp
namespace Go.Proofs.Ytampmicahnnebaa.Sp
open Go Go.RowKit
set_option maxRecDepth 10000
set_option maxHeartbeats 4000000
variable {w0 W : World} {L : List Asn}
theorem do_no2 (x : Wld) (i : AtW) (kd a : Int) (t : ByteArray) (hv : WP x) (ht : t.size ≤ 1048576) (hk : kd = 2) (hf : ¬ (0 ≤ a ∧ a < x.flight.length)) (HM : Mem w0 W (wldP x i ++ L)) : Calls Try.prog 66 #[.agg (encW x i).toArray,.agg #[.int .i64 kd,.int .i64 a,.string t]] W fun e W'=>∃ y j,(WP y ∧ y.recs.length = x.recs.length) ∧ e = .returned (.agg (encW y j).toArray) ∧ Mem w0 W' (wldP y j ++ L):=by
  refine enter Try.func66 rfl Try.ntmps66 [(0,.agg (encW x i).toArray),(1,.agg #[.int .i64 kd,.int .i64 a,.string t])] rfl ⟨rfl,rfl,trivial⟩ ?_
  obtain ⟨rs,fl,fx⟩:=x
  unfold encW
  simp only [wldP,List.cons_append,List.nil_append] at HM
  have hn5:=hv.n5
  have hfl6:=hv.fl
  have hmsg:=hv.msg
  dsimp only at *
  subst hk
  repeat (first|(refine gGP ?_;first|refine gp (p_move rfl) ?_|refine gp (p_assign rfl) ?_|(refine gGB ?_;first|refine gp (p_eql rfl rfl) ?_|refine gp (p_sub rfl rfl (by exact wr (by omega) (by omega))) ?_)|refine gp (p_field rfl (by simp only [Nat.reduceAdd];rfl)) ?_|refine gp (p_len rfl) ?_|refine gp (p_pick1 rfl (by rfl) rfl) ?_|refine gp (p_pick0 rfl (by rfl) rfl) ?_)|(refine gGV ?_;first|refine gv (p_load rfl) ?_|refine gv (p_loads rfl) ?_)|(refine gL ?_;first|refine s_gp rfl rfl ?_|refine s_gv HM rfl ?_|(refine gStore ?_;(refine s_store HM rfl rfl rfl rfl ?_;clear HM;intro W1 HM))|(refine gCall ?_;(refine s_fn rfl rfl ?_;(go_at_call 32;refine (l1In_c _ _ _ _).mono ?_;rintro e W1 ⟨rfl,rfl⟩;refine ⟨_,rfl,?_⟩)))|(refine s_box HM rfl rfl ?_;clear HM;intro g W1 HM)|(refine s_alloc HM rfl ?_;clear HM;intro g W1 HM)|refine l_nil ?_|refine s_guard_on rfl rfl rfl rfl (by rfl) ?_|refine s_guard_off rfl rfl rfl rfl (by rfl) rfl rfl ?_)|(refine gC ?_;first|refine c_seq ?_|refine c_region ?_|refine c_block ?_|refine c_skip ?_|refine c_ret ?_|refine c_no rfl (by first|rfl|(simp;omega)) ?_)|(refine gN ?_;first|refine n_then ?_|refine n_block ?_))
  exact ret_cell HM rfl rfl rfl ⟨⟨rs,fl,fx⟩,i,⟨hv,rfl⟩,rfl,by simp only [wldP,List.cons_append,List.nil_append];exact HM.sb⟩
theorem do_no3 (x : Wld) (i : AtW) (kd a : Int) (t : ByteArray) (hv : WP x) (ht : t.size ≤ 1048576) (hk : kd = 3) (hf : ¬ (0 ≤ a ∧ a < x.flight.length)) (HM : Mem w0 W (wldP x i ++ L)) : Calls Try.prog 66 #[.agg (encW x i).toArray,.agg #[.int .i64 kd,.int .i64 a,.string t]] W fun e W'=>∃ y j,(WP y ∧ y.recs.length = x.recs.length) ∧ e = .returned (.agg (encW y j).toArray) ∧ Mem w0 W' (wldP y j ++ L):=by
  refine enter Try.func66 rfl Try.ntmps66 [(0,.agg (encW x i).toArray),(1,.agg #[.int .i64 kd,.int .i64 a,.string t])] rfl ⟨rfl,rfl,trivial⟩ ?_
  obtain ⟨rs,fl,fx⟩:=x
  unfold encW
  simp only [wldP,List.cons_append,List.nil_append] at HM
  have hn5:=hv.n5
  have hfl6:=hv.fl
  have hmsg:=hv.msg
  dsimp only at *
  subst hk
  repeat (first|(refine gGP ?_;first|refine gp (p_move rfl) ?_|refine gp (p_assign rfl) ?_|(refine gGB ?_;first|refine gp (p_eql rfl rfl) ?_|refine gp (p_sub rfl rfl (by exact wr (by omega) (by omega))) ?_)|refine gp (p_field rfl (by simp only [Nat.reduceAdd];rfl)) ?_|refine gp (p_len rfl) ?_|refine gp (p_pick1 rfl (by rfl) rfl) ?_|refine gp (p_pick0 rfl (by rfl) rfl) ?_)|(refine gGV ?_;first|refine gv (p_load rfl) ?_|refine gv (p_loads rfl) ?_)|(refine gL ?_;first|refine s_gp rfl rfl ?_|refine s_gv HM rfl ?_|(refine gStore ?_;(refine s_store HM rfl rfl rfl rfl ?_;clear HM;intro W1 HM))|(refine gCall ?_;(refine s_fn rfl rfl ?_;(go_at_call 32;refine (l1In_c _ _ _ _).mono ?_;rintro e W1 ⟨rfl,rfl⟩;refine ⟨_,rfl,?_⟩)))|(refine s_box HM rfl rfl ?_;clear HM;intro g W1 HM)|(refine s_alloc HM rfl ?_;clear HM;intro g W1 HM)|refine l_nil ?_|refine s_guard_on rfl rfl rfl rfl (by rfl) ?_|refine s_guard_off rfl rfl rfl rfl (by rfl) rfl rfl ?_)|(refine gC ?_;first|refine c_seq ?_|refine c_region ?_|refine c_block ?_|refine c_skip ?_|refine c_ret ?_|refine c_no rfl (by first|rfl|(simp;omega)) ?_)|(refine gN ?_;first|refine n_then ?_|refine n_block ?_))
  exact ret_cell HM rfl rfl rfl ⟨⟨rs,fl,fx⟩,i,⟨hv,rfl⟩,rfl,by simp only [wldP,List.cons_append,List.nil_append];exact HM.sb⟩
theorem do_no4 (x : Wld) (i : AtW) (kd a : Int) (t : ByteArray) (hv : WP x) (ht : t.size ≤ 1048576) (hk : kd = 4) (hf : ¬ (0 ≤ a ∧ a < x.flight.length)) (HM : Mem w0 W (wldP x i ++ L)) : Calls Try.prog 66 #[.agg (encW x i).toArray,.agg #[.int .i64 kd,.int .i64 a,.string t]] W fun e W'=>∃ y j,(WP y ∧ y.recs.length = x.recs.length) ∧ e = .returned (.agg (encW y j).toArray) ∧ Mem w0 W' (wldP y j ++ L):=by
  refine enter Try.func66 rfl Try.ntmps66 [(0,.agg (encW x i).toArray),(1,.agg #[.int .i64 kd,.int .i64 a,.string t])] rfl ⟨rfl,rfl,trivial⟩ ?_
  obtain ⟨rs,fl,fx⟩:=x
  unfold encW
  simp only [wldP,List.cons_append,List.nil_append] at HM
  have hn5:=hv.n5
  have hfl6:=hv.fl
  have hmsg:=hv.msg
  dsimp only at *
  subst hk
  repeat (first|(refine gGP ?_;first|refine gp (p_move rfl) ?_|refine gp (p_assign rfl) ?_|(refine gGB ?_;first|refine gp (p_eql rfl rfl) ?_|refine gp (p_sub rfl rfl (by exact wr (by omega) (by omega))) ?_)|refine gp (p_field rfl (by simp only [Nat.reduceAdd];rfl)) ?_|refine gp (p_len rfl) ?_|refine gp (p_pick1 rfl (by rfl) rfl) ?_|refine gp (p_pick0 rfl (by rfl) rfl) ?_)|(refine gGV ?_;first|refine gv (p_load rfl) ?_|refine gv (p_loads rfl) ?_)|(refine gL ?_;first|refine s_gp rfl rfl ?_|refine s_gv HM rfl ?_|(refine gStore ?_;(refine s_store HM rfl rfl rfl rfl ?_;clear HM;intro W1 HM))|(refine gCall ?_;(refine s_fn rfl rfl ?_;(go_at_call 32;refine (l1In_c _ _ _ _).mono ?_;rintro e W1 ⟨rfl,rfl⟩;refine ⟨_,rfl,?_⟩)))|(refine s_box HM rfl rfl ?_;clear HM;intro g W1 HM)|(refine s_alloc HM rfl ?_;clear HM;intro g W1 HM)|refine l_nil ?_|refine s_guard_on rfl rfl rfl rfl (by rfl) ?_|refine s_guard_off rfl rfl rfl rfl (by rfl) rfl rfl ?_)|(refine gC ?_;first|refine c_seq ?_|refine c_region ?_|refine c_block ?_|refine c_skip ?_|refine c_ret ?_|refine c_no rfl (by first|rfl|(simp;omega)) ?_)|(refine gN ?_;first|refine n_then ?_|refine n_block ?_))
  exact ret_cell HM rfl rfl rfl ⟨⟨rs,fl,fx⟩,i,⟨hv,rfl⟩,rfl,by simp only [wldP,List.cons_append,List.nil_append];exact HM.sb⟩
theorem do_no5 (x : Wld) (i : AtW) (kd a : Int) (t : ByteArray) (hv : WP x) (ht : t.size ≤ 1048576) (hk : kd = 5) (hf : ¬ (0 ≤ a ∧ a < x.recs.length)) (HM : Mem w0 W (wldP x i ++ L)) : Calls Try.prog 66 #[.agg (encW x i).toArray,.agg #[.int .i64 kd,.int .i64 a,.string t]] W fun e W'=>∃ y j,(WP y ∧ y.recs.length = x.recs.length) ∧ e = .returned (.agg (encW y j).toArray) ∧ Mem w0 W' (wldP y j ++ L):=by
  refine enter Try.func66 rfl Try.ntmps66 [(0,.agg (encW x i).toArray),(1,.agg #[.int .i64 kd,.int .i64 a,.string t])] rfl ⟨rfl,rfl,trivial⟩ ?_
  obtain ⟨rs,fl,fx⟩:=x
  unfold encW
  simp only [wldP,List.cons_append,List.nil_append] at HM
  have hn5:=hv.n5
  have hfl6:=hv.fl
  have hmsg:=hv.msg
  dsimp only at *
  subst hk
  repeat (first|(refine gGP ?_;first|refine gp (p_move rfl) ?_|refine gp (p_assign rfl) ?_|(refine gGB ?_;first|refine gp (p_eql rfl rfl) ?_|refine gp (p_sub rfl rfl (by exact wr (by omega) (by omega))) ?_)|refine gp (p_field rfl (by simp only [Nat.reduceAdd];rfl)) ?_|refine gp (p_len rfl) ?_|refine gp (p_pick1 rfl (by rfl) rfl) ?_|refine gp (p_pick0 rfl (by rfl) rfl) ?_)|(refine gGV ?_;first|refine gv (p_load rfl) ?_|refine gv (p_loads rfl) ?_)|(refine gL ?_;first|refine s_gp rfl rfl ?_|refine s_gv HM rfl ?_|(refine gStore ?_;(refine s_store HM rfl rfl rfl rfl ?_;clear HM;intro W1 HM))|(refine gCall ?_;(refine s_fn rfl rfl ?_;(go_at_call 32;refine (l1In_c _ _ _ _).mono ?_;rintro e W1 ⟨rfl,rfl⟩;refine ⟨_,rfl,?_⟩)))|(refine s_box HM rfl rfl ?_;clear HM;intro g W1 HM)|(refine s_alloc HM rfl ?_;clear HM;intro g W1 HM)|refine l_nil ?_|refine s_guard_on rfl rfl rfl rfl (by rfl) ?_|refine s_guard_off rfl rfl rfl rfl (by rfl) rfl rfl ?_)|(refine gC ?_;first|refine c_seq ?_|refine c_region ?_|refine c_block ?_|refine c_skip ?_|refine c_ret ?_|refine c_no rfl (by first|rfl|(simp;omega)) ?_)|(refine gN ?_;first|refine n_then ?_|refine n_block ?_))
  exact ret_cell HM rfl rfl rfl ⟨⟨rs,fl,fx⟩,i,⟨hv,rfl⟩,rfl,by simp only [wldP,List.cons_append,List.nil_append];exact HM.sb⟩
theorem do_no6 (x : Wld) (i : AtW) (kd a : Int) (t : ByteArray) (hv : WP x) (ht : t.size ≤ 1048576) (hk : kd = 6) (hf : ¬ (0 ≤ a ∧ a < x.recs.length)) (HM : Mem w0 W (wldP x i ++ L)) : Calls Try.prog 66 #[.agg (encW x i).toArray,.agg #[.int .i64 kd,.int .i64 a,.string t]] W fun e W'=>∃ y j,(WP y ∧ y.recs.length = x.recs.length) ∧ e = .returned (.agg (encW y j).toArray) ∧ Mem w0 W' (wldP y j ++ L):=by
  refine enter Try.func66 rfl Try.ntmps66 [(0,.agg (encW x i).toArray),(1,.agg #[.int .i64 kd,.int .i64 a,.string t])] rfl ⟨rfl,rfl,trivial⟩ ?_
  obtain ⟨rs,fl,fx⟩:=x
  unfold encW
  simp only [wldP,List.cons_append,List.nil_append] at HM
  have hn5:=hv.n5
  have hfl6:=hv.fl
  have hmsg:=hv.msg
  dsimp only at *
  subst hk
  repeat (first|(refine gGP ?_;first|refine gp (p_move rfl) ?_|refine gp (p_assign rfl) ?_|(refine gGB ?_;first|refine gp (p_eql rfl rfl) ?_|refine gp (p_sub rfl rfl (by exact wr (by omega) (by omega))) ?_)|refine gp (p_field rfl (by simp only [Nat.reduceAdd];rfl)) ?_|refine gp (p_len rfl) ?_|refine gp (p_pick1 rfl (by rfl) rfl) ?_|refine gp (p_pick0 rfl (by rfl) rfl) ?_)|(refine gGV ?_;first|refine gv (p_load rfl) ?_|refine gv (p_loads rfl) ?_)|(refine gL ?_;first|refine s_gp rfl rfl ?_|refine s_gv HM rfl ?_|(refine gStore ?_;(refine s_store HM rfl rfl rfl rfl ?_;clear HM;intro W1 HM))|(refine gCall ?_;(refine s_fn rfl rfl ?_;(go_at_call 32;refine (l1In_c _ _ _ _).mono ?_;rintro e W1 ⟨rfl,rfl⟩;refine ⟨_,rfl,?_⟩)))|(refine s_box HM rfl rfl ?_;clear HM;intro g W1 HM)|(refine s_alloc HM rfl ?_;clear HM;intro g W1 HM)|refine l_nil ?_|refine s_guard_on rfl rfl rfl rfl (by rfl) ?_|refine s_guard_off rfl rfl rfl rfl (by rfl) rfl rfl ?_)|(refine gC ?_;first|refine c_seq ?_|refine c_region ?_|refine c_block ?_|refine c_skip ?_|refine c_ret ?_|refine c_no rfl (by first|rfl|(simp;omega)) ?_)|(refine gN ?_;first|refine n_then ?_|refine n_block ?_))
  exact ret_cell HM rfl rfl rfl ⟨⟨rs,fl,fx⟩,i,⟨hv,rfl⟩,rfl,by simp only [wldP,List.cons_append,List.nil_append];exact HM.sb⟩
theorem do_no7 (x : Wld) (i : AtW) (kd a : Int) (t : ByteArray) (hv : WP x) (ht : t.size ≤ 1048576) (hk : kd = 7) (hf : ¬ (0 ≤ a ∧ a < x.recs.length)) (HM : Mem w0 W (wldP x i ++ L)) : Calls Try.prog 66 #[.agg (encW x i).toArray,.agg #[.int .i64 kd,.int .i64 a,.string t]] W fun e W'=>∃ y j,(WP y ∧ y.recs.length = x.recs.length) ∧ e = .returned (.agg (encW y j).toArray) ∧ Mem w0 W' (wldP y j ++ L):=by
  refine enter Try.func66 rfl Try.ntmps66 [(0,.agg (encW x i).toArray),(1,.agg #[.int .i64 kd,.int .i64 a,.string t])] rfl ⟨rfl,rfl,trivial⟩ ?_
  obtain ⟨rs,fl,fx⟩:=x
  unfold encW
  simp only [wldP,List.cons_append,List.nil_append] at HM
  have hn5:=hv.n5
  have hfl6:=hv.fl
  have hmsg:=hv.msg
  dsimp only at *
  subst hk
  repeat (first|(refine gGP ?_;first|refine gp (p_move rfl) ?_|refine gp (p_assign rfl) ?_|(refine gGB ?_;first|refine gp (p_eql rfl rfl) ?_|refine gp (p_sub rfl rfl (by exact wr (by omega) (by omega))) ?_)|refine gp (p_field rfl (by simp only [Nat.reduceAdd];rfl)) ?_|refine gp (p_len rfl) ?_|refine gp (p_pick1 rfl (by rfl) rfl) ?_|refine gp (p_pick0 rfl (by rfl) rfl) ?_)|(refine gGV ?_;first|refine gv (p_load rfl) ?_|refine gv (p_loads rfl) ?_)|(refine gL ?_;first|refine s_gp rfl rfl ?_|refine s_gv HM rfl ?_|(refine gStore ?_;(refine s_store HM rfl rfl rfl rfl ?_;clear HM;intro W1 HM))|(refine gCall ?_;(refine s_fn rfl rfl ?_;(go_at_call 32;refine (l1In_c _ _ _ _).mono ?_;rintro e W1 ⟨rfl,rfl⟩;refine ⟨_,rfl,?_⟩)))|(refine s_box HM rfl rfl ?_;clear HM;intro g W1 HM)|(refine s_alloc HM rfl ?_;clear HM;intro g W1 HM)|refine l_nil ?_|refine s_guard_on rfl rfl rfl rfl (by rfl) ?_|refine s_guard_off rfl rfl rfl rfl (by rfl) rfl rfl ?_)|(refine gC ?_;first|refine c_seq ?_|refine c_region ?_|refine c_block ?_|refine c_skip ?_|refine c_ret ?_|refine c_no rfl (by first|rfl|(simp;omega)) ?_)|(refine gN ?_;first|refine n_then ?_|refine n_block ?_))
  exact ret_cell HM rfl rfl rfl ⟨⟨rs,fl,fx⟩,i,⟨hv,rfl⟩,rfl,by simp only [wldP,List.cons_append,List.nil_append];exact HM.sb⟩
theorem do_no (x : Wld) (i : AtW) (kd a : Int) (t : ByteArray) (hv : WP x) (ht : t.size ≤ 1048576) (h1 : kd ≠ 1) (h2 : kd ≠ 2) (h3 : kd ≠ 3) (h4 : kd ≠ 4) (h5 : kd ≠ 5) (h6 : kd ≠ 6) (h7 : kd ≠ 7) (HM : Mem w0 W (wldP x i ++ L)) : Calls Try.prog 66 #[.agg (encW x i).toArray,.agg #[.int .i64 kd,.int .i64 a,.string t]] W fun e W'=>∃ y j,(WP y ∧ y.recs.length = x.recs.length) ∧ e = .returned (.agg (encW y j).toArray) ∧ Mem w0 W' (wldP y j ++ L):=by
  refine enter Try.func66 rfl Try.ntmps66 [(0,.agg (encW x i).toArray),(1,.agg #[.int .i64 kd,.int .i64 a,.string t])] rfl ⟨rfl,rfl,trivial⟩ ?_
  obtain ⟨rs,fl,fx⟩:=x
  unfold encW
  simp only [wldP,List.cons_append,List.nil_append] at HM
  have hn5:=hv.n5
  have hfl6:=hv.fl
  have hmsg:=hv.msg
  dsimp only at *
  repeat (first|(refine gGP ?_;first|refine gp (p_move rfl) ?_|refine gp (p_assign rfl) ?_|(refine gGB ?_;first|refine gp (p_eql rfl rfl) ?_|refine gp (p_sub rfl rfl (by exact wr (by omega) (by omega))) ?_)|refine gp (p_field rfl (by simp only [Nat.reduceAdd];rfl)) ?_|refine gp (p_len rfl) ?_|refine gp (p_pick0 rfl (by (simp;omega)) rfl) ?_)|(refine gGV ?_;first|refine gv (p_load rfl) ?_|refine gv (p_loads rfl) ?_)|(refine gL ?_;first|refine s_gp rfl rfl ?_|refine s_gv HM rfl ?_|(refine gStore ?_;(refine s_store HM rfl rfl rfl rfl ?_;clear HM;intro W1 HM))|(refine gCall ?_;(refine s_fn rfl rfl ?_;(go_at_call 32;refine (l1In_c _ _ _ _).mono ?_;rintro e W1 ⟨rfl,rfl⟩;refine ⟨_,rfl,?_⟩)))|(refine s_box HM rfl rfl ?_;clear HM;intro g W1 HM)|(refine s_alloc HM rfl ?_;clear HM;intro g W1 HM)|refine l_nil ?_|refine s_guard_off rfl rfl rfl rfl (by (simp;omega)) rfl rfl ?_)|(refine gC ?_;first|refine c_seq ?_|refine c_region ?_|refine c_block ?_|refine c_skip ?_|refine c_ret ?_|refine c_no rfl (by first|rfl|(simp;omega)) ?_)|(refine gN ?_;first|refine n_then ?_|refine n_block ?_))
  exact ret_cell HM rfl rfl rfl ⟨⟨rs,fl,fx⟩,i,⟨hv,rfl⟩,rfl,by simp only [wldP,List.cons_append,List.nil_append];exact HM.sb⟩
theorem do_c (x : Wld) (i : AtW) (kd a : Int) (t : ByteArray) (hv : WP x) (ht : t.size ≤ 1048576) (HM : Mem w0 W (wldP x i ++ L)) : Calls Try.prog 66 #[.agg (encW x i).toArray,.agg #[.int .i64 kd,.int .i64 a,.string t]] W fun e W'=>∃ y j,(WP y ∧ y.recs.length = x.recs.length) ∧ e = .returned (.agg (encW y j).toArray) ∧ Mem w0 W' (wldP y j ++ L):=by
  by_cases h1 : kd = 1
  · exact do_tick x i kd a t hv ht h1 HM
  by_cases h2 : kd = 2
  · by_cases hf : 0 ≤ a ∧ a < x.flight.length
    · exact do_bring x i kd a t hv ht h2 hf HM
    · exact do_no2 x i kd a t hv ht h2 hf HM
  by_cases h3 : kd = 3
  · by_cases hf : 0 ≤ a ∧ a < x.flight.length
    · exact do_double x i kd a t hv ht h3 hf HM
    · exact do_no3 x i kd a t hv ht h3 hf HM
  by_cases h4 : kd = 4
  · by_cases hf : 0 ≤ a ∧ a < x.flight.length
    · exact do_lose x i kd a t hv ht h4 hf HM
    · exact do_no4 x i kd a t hv ht h4 hf HM
  by_cases h5 : kd = 5
  · by_cases hf : 0 ≤ a ∧ a < x.recs.length
    · exact do_fall x i kd a t hv ht h5 hf HM
    · exact do_no5 x i kd a t hv ht h5 hf HM
  by_cases h6 : kd = 6
  · by_cases hf : 0 ≤ a ∧ a < x.recs.length
    · exact do_rise x i kd a t hv ht h6 hf HM
    · exact do_no6 x i kd a t hv ht h6 hf HM
  by_cases h7 : kd = 7
  · by_cases hf : 0 ≤ a ∧ a < x.recs.length
    · exact do_wish x i kd a t hv ht h7 hf HM
    · exact do_no7 x i kd a t hv ht h7 hf HM
  exact do_no x i kd a t hv ht h1 h2 h3 h4 h5 h6 h7 HM
end Go.Proofs.Ytampmicahnnebaa.Sp
namespace Go.Proofs.Ytampmicahnnebaa.Sp
open Go Go.RowKit
section
variable {w0 W : World} {L : List Asn} {e c n : Nat} {A : Option Addr} {css : List (List Value)}
theorem cls_box {g : Nat} {cur : List Value} (h : Mem w0 W (box g e cur :: L)) (hc : cur.length = c * n) (ht : cur.take (css.length * n) = css.flatten) (h1 : css.length ≤ c) (h2 : c ≤ maxLen) (h3 : ∀ x ∈ css,x.length = n) (h4 : ∀ u ∈ css.flatten,u.oneCell' = true) : Mem w0 W (own (tRaw n) e (some ⟨g,0,none⟩) c css :: L):=by
  obtain ⟨hb,F,f1,⟨hg,hh⟩,f3⟩:=h
  refine ⟨hb,F,f1,⟨css,rfl,F,fun _ h=>h,⟨⟨flat_length h3,.inr ⟨g,c,cur.toArray,rfl,Nat.zero_le _,hh,h1,h2,(by rw [List.size_toArray];exact hc),ht⟩⟩,fun k hk=>?_⟩,els_raw W css _ h3 h4⟩,f3⟩
  have : g = k:=by simpa [Value.ownBlock] using hk
  subst this
  exact hg
end
section
variable {P : Program} {n : Nat} {ops : Array Oper} {Q : Exit → Act → World → Prop} {rest : List Oper} {E : Env} {w0 W : World} {L L' R : List Asn}
variable {d : Nat} {ty st st2 : TypeId} {pos : String} {after : Array Edge} {x y : Operand} {e sz bytes : Nat}
end
end Go.Proofs.Ytampmicahnnebaa.Sp
namespace Go.Proofs.Ytampmicahnnebaa.Sp
open Go Go.RowKit
set_option maxRecDepth 10000
set_option maxHeartbeats 2000000
variable {w0 W : World} {L : List Asn}
end Go.Proofs.Ytampmicahnnebaa.Sp
namespace Go.Proofs.Ytampmicahnnebaa.Sp
open Go Go.RowKit
set_option maxRecDepth 10000
set_option maxHeartbeats 2000000
variable {w0 W : World} {L : List Asn} {A : Option Addr} {c : Nat}
section
variable {P : Program} {E : Env} {x y : Operand} {t1 t2 xt yt : TypeId} {m : Int}
end
end Go.Proofs.Ytampmicahnnebaa.Sp
namespace Go.Proofs.Ytampmicahnnebaa.Sp
open Go Go.RowKit
set_option maxRecDepth 10000
set_option maxHeartbeats 2000000
variable {w0 W : World} {L : List Asn} {A : Option Addr} {c : Nat}
section
variable {P : Program} {n : Nat} {ops : Array Oper} {Q : Exit → Act → World → Prop} {rest : List Oper} {E : Env} {L' R : List Asn}
variable {d : Nat} {ty st : TypeId} {pos : String} {after : Array Edge} {x y : Operand} {e sz : Nat}
end
theorem raw_flat {α : Type} {D : Ty α} {enc : α → List Value} [ho : FlatO D enc] {e : Nat} {xs : List α} (h : Mem w0 W (own (tRaw D.sz) e A c (xs.map enc) :: L)) : Mem w0 W (own D e A c xs :: L):=cls_raw ((h.flat (D:=D) xs).perm (List.Perm.swap ..))
end Go.Proofs.Ytampmicahnnebaa.Sp
namespace Go.Proofs.Ytampmicahnnebaa.Sp
open Go Go.RowKit
set_option maxRecDepth 10000
def enumF {α : Type} (mk : α → Value) : Nat → List α → List (Nat × Value)
  | _,[]=>[]
  | k,m :: r=>(k,mk m) :: enumF mk (k + 1) r
theorem fill_enum {α : Type} (mk : α → Value) (hc : ∀ m,(mk m).cells = #[mk m]) : ∀ (ms : List α) (k : Nat) (cs : List Value),k + ms.length = cs.length → Instr.fill (fun i=>some (i * 1,1)) cs.toArray (enumF mk k ms) = some (cs.take k ++ ms.map mk).toArray
  | [],k,cs,h=>by
    simp only [enumF,Instr.fill,List.map_nil,List.append_nil]
    rw [List.take_of_length_le (by simp at h;omega)]
  | m :: r,k,cs,h=>by
    have hk : k < cs.length:=by simp at h;omega
    have ih:=fill_enum mk hc r (k + 1) (cs.set k (mk m)) (by simp at h ⊢;omega)
    unfold enumF Instr.fill
    simp only [hc,Nat.mul_one,List.size_toArray,List.length_cons,List.length_nil]
    rw [if_neg (by simp;omega)]
    have e : (#[mk m].zipIdx.foldl (fun cs (x : Value × Nat)=>cs.setIfInBounds (k + x.2) x.1) cs.toArray) = (cs.set k (mk m)).toArray:=by simp
    have e2 : ((cs.set k (mk m)).take (k + 1) ++ r.map mk) = cs.take k ++ (m :: r).map mk:=by
      rw [List.take_add_one,List.take_set_of_le (Nat.le_refl _)]
      simp [hk]
    rw [← e2]
    simp only [Nat.mul_one] at ih
    rw [← ih]
    exact congrArg (fun c=>Instr.fill (fun i=>some (i,1)) c (enumF mk (k + 1) r)) e
section
variable {P : Program} {n : Nat} {ops : Array Oper} {Q : Exit → Act → World → Prop} {rest : List Oper} {E : Env} {w0 W : World} {L : List Asn} {d : Nat} {ty : TypeId} {pos : String} {after : Array Edge} {t e bytes : Nat} {parts : List (Nat × Operand)}
theorem s_litk {α : Type} {D : Ty α} {enc : α → List Value} [ho : FlatO D enc] (mk : α → Value) (he : ∀ m,enc m = [mk m]) (hc : ∀ m,(mk m).cells = #[mk m]) (ho1 : ∀ m,(mk m).oneCell' = true) (hs : D.sz = 1) (ms : List α) [hU : Und P t (.slice e)] [hE : Elt P e 1 bytes] (hm : Mem w0 W L) (hx : evp E parts = some (enumF mk 0 ms)) (hn : Nat.blt d n = true) (hl0 : 0 < ms.length) (hl : ms.length ≤ 1000)
    (h : ∀ g W1,Mem w0 W1 (own D e (some ⟨g,0,none⟩) ms.length ms :: L) → WL P n ops Q rest ((d,.slice (some ⟨g,0,none⟩) ms.length ms.length) :: E) W1) :
    WL P n ops Q (⟨some d,.buildSlice t ms.length parts.toArray,ty,pos,after,none⟩ :: rest) E W:=by
  obtain ⟨i,z,hi,hz,hzs,hss,hb,hs0,hb0⟩:=hE.spec
  have hbox:=hm.alloc e (ms.map mk)
  have hrow : Mem w0 (W.alloc (.cells (ms.map mk).toArray e)) (own D e (some ⟨W.heap.size,0,none⟩) ms.length ms :: L):=by
    refine raw_flat (enc:=enc) ?_
    rw [hs]
    have hf : (ms.map enc).flatten = ms.map mk:=by
      clear hx h hl hl0 hbox
      induction ms with
      | nil=>rfl
      | cons m r ih=>simp [he,ih]
    refine cls_box (n:=1) (cur:=ms.map mk) hbox (by simp) (by rw [hf,List.length_map,Nat.mul_one,List.take_of_length_le (by simp)]) (by simp) (by unfold maxLen;omega) (fun x hx=>by obtain ⟨m,_,rfl⟩:=List.mem_map.1 hx;rw [he];rfl) (fun u hu=>by rw [hf] at hu;obtain ⟨m,_,rfl⟩:=List.mem_map.1 hu;exact ho1 m)
  refine s_run (W1:=W.alloc (.cells (ms.map mk).toArray e)) rfl rfl hn (fun a ha=>?_) (h W.heap.size _ hrow)
  have hp : (parts.toArray.map fun (i,x)=>(i,a.eval x)).toList = enumF mk 0 ms:=by rw [← ha.evp hx];simp
  have hfill : ∀ cs : Array Value,cs.size = ms.length → Instr.fill (fun i=>some (i * 1,1)) cs (enumF mk 0 ms) = some (ms.map mk).toArray:=by
    intro cs hcs
    have h6 : cs = cs.toList.toArray:=by simp
    rw [h6,fill_enum mk hc ms 0 cs.toList (by simp [hcs])]
    simp
  have hrun : (Instr.buildSlice t ms.length (parts.toArray.map fun (i,x)=>(i,a.eval x))).run P W = .ok (.slice (some ⟨W.heap.size,0,none⟩) ms.length ms.length) (W.alloc (.cells (ms.map mk).toArray e)):=by
    have h7 : ¬ 16777216 < ms.length * 1:=by omega
    have h8 : ms.length * 1 ≠ 0:=by omega
    have h9 : ms ≠ []:=fun h=>by rw [h] at hl0;simp at hl0
    have hp2:=ha.evp hx
    simp [Instr.buildSlice,underlying,hU.out,sizeOf,typeInfo,hi,hss,zeroValue,hz,h9,newRow,World.alloc_eq,hp2]
    rw [if_neg (by omega)]
    simp only [Nat.mul_one] at hfill
    rw [hfill _ (by simp)]
    simp
  have h10 : (execOp a.eval ⟨some d,.buildSlice t ms.length parts.toArray,ty,pos,after,none⟩) = (Instr.buildSlice t ms.length (parts.toArray.map fun (i,x)=>(i,a.eval x)) >>= fun v=>pure (Next.value v)):=rfl
  rw [h10]
  simp only [Sem.run_bind,hrun,Result.andThen_ok,Sem.run_pure]
end
end Go.Proofs.Ytampmicahnnebaa.Sp
namespace Go.Proofs.Ytampmicahnnebaa.Sp
open Go Go.RowKit
set_option maxRecDepth 10000
set_option maxHeartbeats 4000000
variable {w0 W : World} {L : List Asn}
theorem calm_c (x : Wld) (i : AtW) (n : Int) (hv : WP x) (HM : Mem w0 W (wldP x i ++ L)) : Calls Try.prog 68 #[.agg (encW x i).toArray,.int .i64 n] W fun e W'=>∃ y j,WP y ∧ e = .returned (.agg (encW y j).toArray) ∧ Mem w0 W' (wldP y j ++ L):=by
  refine enter Try.func68 rfl Try.ntmps68 [(0,.agg (encW x i).toArray),(1,_)] rfl ⟨rfl,rfl,trivial⟩ ?_
  unfold encW
  simp only [wldP,List.cons_append,List.nil_append] at HM
  repeat (first|(refine gGP ?_;first|refine gp (p_assign rfl) ?_|refine gp (p_not rfl) ?_)|(refine gGV ?_;refine gv (p_loads rfl) ?_)|(refine gL ?_;first|refine s_gp rfl rfl ?_|refine s_gv HM rfl ?_|(refine gStore ?_;(refine s_store HM rfl rfl rfl rfl ?_;clear HM;intro W1 HM))|(refine gCall ?_;(refine s_fn rfl rfl ?_;first|(go_at_call 77;refine (specWorldOk x i (ro_w3 x i HM) hv.small (Mem.start _)).mono ?_;rw [worldB_iff.2 hv];rintro e W1 ⟨rfl,HM1⟩;refine ⟨_,rfl,?_⟩;have HM2:=HM.step HM1.below;clear HM HM1;have HM:=HM2;clear HM2)|(go_at_call 70;refine (copy_c x i (ro_w3 x i HM) hv.small (Mem.start _)).mono ?_;rintro e W1 ⟨jc,rfl,HM1⟩;refine ⟨_,rfl,?_⟩;replace HM:=HM.join HM1;clear HM1;simp only [wldP,List.cons_append,List.nil_append] at HM;simp only [encW])))|(refine s_box HM rfl rfl ?_;clear HM;intro g W1 HM)|(refine s_alloc HM rfl ?_;clear HM;intro g W1 HM)|refine l_nil ?_)|(refine gC ?_;first|refine c_seq ?_|refine c_region ?_|refine c_block ?_|refine c_skip ?_|refine c_no rfl (by rfl) ?_)|(refine gN ?_;refine n_then ?_))
  rename_i ga Wa gz Wb Wc Wd We
  refine c_loop (σ:=Nat × Wld × AtW) (fun s=>[(1,.int .i64 n),(4,.pointer (some ⟨gz,0,none⟩)),(5,.pointer (some ⟨g,0,none⟩)),(6,.int .i64 s.1)]) (fun s W1=>s.1 ≤ 1000 ∧ WP s.2.1 ∧ Mem w0 W1 (box gz 82 [.slice none 0 0,.slice none 0 0,.slice none 0 0] :: box g 82 [.slice s.2.2.b0.1 s.2.1.recs.length s.2.2.b0.2,.slice s.2.2.b1.1 s.2.1.flight.length s.2.2.b1.2,.slice s.2.2.b2.1 s.2.1.fixed.length s.2.2.b2.2] :: own (tRec 29 37 9 3 70) 48 s.2.2.b0.1 s.2.2.b0.2 s.2.1.recs :: flt 29 37 s.2.2.b1.1 s.2.2.b1.2 s.2.1.flight :: own tFix 107 s.2.2.b2.1 s.2.2.b2.2 s.2.1.fixed :: L)) (fun s=>1000 - s.1) (0,x,jc) (by repeat (first|exact trivial|refine And.intro (by first|rfl|exact look_int rfl (by omega)) ?_)) ⟨Nat.zero_le _,hv,HM.sb⟩ ?_
  clear HM hv
  rintro ⟨k,y,j⟩ W1 ⟨hk,hv,HM⟩
  dsimp only at hk hv HM ⊢
  by_cases hlt : (k : Int) < n ∧ (k : Int) < 1000
  · obtain ⟨h1,h2⟩:=hlt
    repeat (first|(refine gGP ?_;first|refine gp (p_move rfl) ?_|refine gp (p_assign rfl) ?_|(refine gGB ?_;refine gp (p_lss rfl rfl) ?_)|refine gp (p_field rfl (by simp only [Nat.reduceAdd];rfl)) ?_|refine gp (p_len rfl) ?_|refine gp (p_pick1 rfl (by (simp;omega)) rfl) ?_)|(refine gGV ?_;first|refine gv (p_load rfl) ?_|refine gv (p_loads rfl) ?_)|(refine gL ?_;first|refine s_gp rfl rfl ?_|refine s_gv HM rfl ?_|(refine gStore ?_;(refine s_store HM rfl rfl rfl rfl ?_;clear HM;intro W1 HM))|(refine gCall ?_;(refine s_fn rfl rfl ?_;(go_at_call 73;refine (tick_c y j hv (pk_wld y j HM)).mono ?_;rintro e W1 ⟨y2,j2,hy,rfl,HM1⟩;refine ⟨_,rfl,?_⟩;replace HM:=HM1;clear HM1;simp only [wldP,List.cons_append,List.nil_append] at HM;simp only [encW])))|refine l_nil ?_|refine s_guard_on rfl rfl rfl rfl (by (simp;omega)) ?_)|(refine gC ?_;first|refine c_seq ?_|refine c_region ?_|refine c_block ?_|refine c_skip ?_|refine c_yes rfl (by first|rfl|(simp;omega)) ?_)|(refine gN ?_;refine n_then ?_))
    have hv2:=hy.1
    have hfl:=hv2.fl
    refine c_loop (σ:=Nat × Wld × AtW) (fun s=>[(1,.int .i64 n),(4,.pointer (some ⟨gz,0,none⟩)),(5,.pointer (some ⟨g,0,none⟩)),(6,.int .i64 k),(7,.int .i64 s.1)]) (fun s W1=>s.1 = s.2.1.flight.length ∧ WP s.2.1 ∧ Mem w0 W1 (box gz 82 [.slice none 0 0,.slice none 0 0,.slice none 0 0] :: box g 82 [.slice s.2.2.b0.1 s.2.1.recs.length s.2.2.b0.2,.slice s.2.2.b1.1 s.2.1.flight.length s.2.2.b1.2,.slice s.2.2.b2.1 s.2.1.fixed.length s.2.2.b2.2] :: own (tRec 29 37 9 3 70) 48 s.2.2.b0.1 s.2.2.b0.2 s.2.1.recs :: flt 29 37 s.2.2.b1.1 s.2.2.b1.2 s.2.1.flight :: own tFix 107 s.2.2.b2.1 s.2.2.b2.2 s.2.1.fixed :: L)) (fun s=>s.1) (y2.flight.length,y2,j2) (by repeat (first|exact trivial|refine And.intro (by first|rfl|exact look_int rfl (by omega)) ?_)) ⟨rfl,hv2,HM.sb⟩ ?_
    clear HM hv2 hy hfl hv
    rintro ⟨q,u,ju⟩ W1 ⟨hq,hv,HM⟩
    dsimp only at hq hv HM ⊢
    have hfl2:=hv.fl
    by_cases hq0 : 0 < q
    · repeat (first|(refine gGP ?_;first|refine gp (p_move rfl) ?_|refine gp (p_assign rfl) ?_|(refine gGB ?_;first|refine gp (p_gtr rfl rfl) ?_|refine gp (p_sub rfl rfl (by exact wr (by omega) (by omega))) ?_))|(refine gGV ?_;refine gv (p_loads rfl) ?_)|(refine gL ?_;first|refine s_gp rfl rfl ?_|refine s_gv HM rfl ?_|(refine gStore ?_;(refine s_store HM rfl rfl rfl rfl ?_;clear HM;intro W1 HM))|(refine gCall ?_;(refine s_fn rfl rfl ?_;(go_at_call 74;refine (bring_c u ju 0 hv (by omega) (pk_wld u ju HM)).mono ?_;rintro e W1 ⟨y3,j3,hy,rfl,HM1⟩;refine ⟨_,rfl,?_⟩;replace HM:=HM1;clear HM1;simp only [wldP,List.cons_append,List.nil_append] at HM;simp only [encW])))|refine l_nil ?_)|(refine gC ?_;first|refine c_seq ?_|refine c_region ?_|refine c_block ?_|refine c_skip ?_|refine c_yes rfl (by (simp;omega)) ?_)|(refine gN ?_;first|refine n_then ?_|refine n_block ?_))
      have hq1 : (q : Int) - 1 = ((q - 1 : Nat) : Int):=by omega
      exact n_round (q - 1,y3,j3) (by dsimp only;rw [← hq1];exact (by repeat (first|exact trivial|refine And.intro (by first|rfl|exact look_int rfl (by omega)) ?_))) ⟨by dsimp only;omega,hy.1,HM.sb⟩ (by dsimp only;omega)
    · repeat (first|(refine gGP ?_;first|refine gp (p_move rfl) ?_|refine gp (p_assign rfl) ?_|(refine gGB ?_;first|refine gp (p_gtr rfl rfl) ?_|refine gp (p_add rfl rfl (by exact wr (by omega) (by omega))) ?_))|(refine gL ?_;first|refine s_gp rfl rfl ?_|refine l_nil ?_)|(refine gC ?_;first|refine c_seq ?_|refine c_region ?_|refine c_exit ?_|refine c_no rfl (by (simp;omega)) ?_)|(refine gN ?_;first|refine n_then ?_|refine n_block ?_|refine x_then ?_|refine x_here ?_))
      exact n_round (k + 1,u,ju) (by repeat (first|exact trivial|refine And.intro (by first|rfl|exact look_int rfl (by omega)) ?_)) ⟨by dsimp only;omega,hv,HM.sb⟩ (by dsimp only;omega)
  · by_cases h1 : (k : Int) < n
    · have h2 : ¬ (k : Int) < 1000:=fun h=>hlt ⟨h1,h⟩
      repeat (first|(refine gGP ?_;first|refine gp (p_move rfl) ?_|(refine gGB ?_;refine gp (p_lss rfl rfl) ?_)|refine gp (p_pick1 rfl (by (simp;omega)) rfl) ?_)|(refine gGV ?_;refine gv (p_loads rfl) ?_)|(refine gL ?_;first|refine s_gp rfl rfl ?_|refine s_gv HM rfl ?_|(refine gStore ?_;(refine s_store HM rfl rfl rfl rfl ?_;clear HM;intro W1 HM))|(refine gCall ?_;(refine s_fn rfl rfl ?_;(go_at_call 70;refine (copy_c y j (ro_w3 y j HM) hv.small (Mem.start _)).mono ?_;rintro e W1 ⟨jc,rfl,HM1⟩;refine ⟨_,rfl,?_⟩;replace HM:=HM.join HM1;clear HM1;simp only [wldP,List.cons_append,List.nil_append] at HM;simp only [encW])))|refine l_nil ?_|refine s_guard_on rfl rfl rfl rfl (by (simp;omega)) ?_)|(refine gC ?_;first|refine c_seq ?_|refine c_region ?_|refine c_exit ?_|refine c_ret ?_|refine c_no rfl (by (simp;omega)) ?_)|(refine gN ?_;first|refine n_then ?_|refine x_then ?_|refine x_here ?_))
      exact ret_cell HM rfl rfl rfl ⟨y,jc,hv,rfl,by simp only [wldP,List.cons_append,List.nil_append];exact HM.sb⟩
    · repeat (first|(refine gGP ?_;first|refine gp (p_move rfl) ?_|(refine gGB ?_;refine gp (p_lss rfl rfl) ?_)|refine gp (p_pick0 rfl (by (simp;omega)) rfl) ?_)|(refine gGV ?_;refine gv (p_loads rfl) ?_)|(refine gL ?_;first|refine s_gp rfl rfl ?_|refine s_gv HM rfl ?_|(refine gStore ?_;(refine s_store HM rfl rfl rfl rfl ?_;clear HM;intro W1 HM))|(refine gCall ?_;(refine s_fn rfl rfl ?_;(go_at_call 70;refine (copy_c y j (ro_w3 y j HM) hv.small (Mem.start _)).mono ?_;rintro e W1 ⟨jc,rfl,HM1⟩;refine ⟨_,rfl,?_⟩;replace HM:=HM.join HM1;clear HM1;simp only [wldP,List.cons_append,List.nil_append] at HM;simp only [encW])))|refine l_nil ?_|refine s_guard_off rfl rfl rfl rfl (by (simp;omega)) rfl rfl ?_)|(refine gC ?_;first|refine c_seq ?_|refine c_region ?_|refine c_exit ?_|refine c_ret ?_|refine c_no rfl (by rfl) ?_)|(refine gN ?_;first|refine n_then ?_|refine x_then ?_|refine x_here ?_))
      exact ret_cell HM rfl rfl rfl ⟨y,jc,hv,rfl,by simp only [wldP,List.cons_append,List.nil_append];exact HM.sb⟩
def nr (a o : Int) : Rcd:=⟨a,o,true,0,0,[],0,0,[],[],[],false,false,0,[],[],[],0⟩
theorem vr_nr {a o : Int} (h1 : 1 ≤ a) (h2 : a ≤ o) (h5 : o ≤ 5) : VR (nr a o):=⟨by unfold nr;dsimp only;omega,h5,h1,h2,⟨by simp [nr],by simp [nr],slots_nil,by simp [nr],by simp [nr],by simp [nr],by simp [nr]⟩,⟨by simp [nr],by simp [nr],slots_nil,by simp [nr],by simp [nr],by simp [nr],by simp [nr]⟩,by simp [nr],⟨by simp [nr],by simp [nr],by simp [nr]⟩,by simp [nr],by simp [nr],by simp [nr],nums_nil _,slots_nil,acks_nil _,by simp [nr],by simp [nr],by simp [nr],by simp [nr],fun _ _=>⟨rfl,rfl,rfl,rfl,rfl,rfl⟩,by simp [nr]⟩
theorem new_c (a o : Int) (h : (1 ≤ o ∧ o ≤ 5) ∧ 1 ≤ a ∧ a ≤ o) (HM : Mem w0 W L) : Calls Try.prog 72 #[.int .i64 a,.int .i64 o] W fun e W'=>e = .returned (.agg (encRcd (nr a o) atZ).toArray) ∧ Mem w0 W' (partRcd 29 37 9 3 70 (nr a o) atZ ++ L):=by
  refine enter Try.func72 rfl Try.ntmps72 [(0,_),(1,_)] rfl ⟨rfl,rfl,trivial⟩ ?_
  obtain ⟨h1,h2⟩:=h
  repeat (first|(refine gGP ?_;first|refine gp (p_move rfl) ?_|refine gp (p_not rfl) ?_|refine gp (p_build rfl) ?_|refine gp (p_pick0 rfl (by (simp;omega)) rfl) ?_)|(refine gL ?_;first|refine s_gp rfl rfl ?_|(refine gStore ?_;(refine s_store HM rfl rfl rfl rfl ?_;clear HM;intro W1 HM))|(refine gCall ?_;(refine s_fn rfl rfl ?_;(go_at_call 32;refine (l1In_c _ _ _ _).mono ?_;rintro e W1 ⟨rfl,rfl⟩;refine ⟨_,rfl,?_⟩)))|(refine s_alloc HM rfl ?_;clear HM;intro g W1 HM)|refine l_nil ?_|refine s_guard_on rfl rfl rfl rfl (by (simp;omega)) ?_)|(refine gC ?_;first|refine c_seq ?_|refine c_region ?_|refine c_skip ?_|refine c_ret ?_|refine c_no rfl (by (simp;omega)) ?_)|(refine gN ?_;refine n_then ?_))
  have HM2:=HM.zeroR 29 37 9 3 70
  simp only [partRcd,zeroR,atZ,List.cons_append,List.nil_append] at HM2
  exact ret_cell HM2 rfl rfl rfl ⟨rfl,by simp only [partRcd,nr,atZ,List.cons_append,List.nil_append];exact HM2.sb⟩
theorem neww_c (n : Int) (h1 : 1 ≤ n) (h5 : n ≤ 5) (HM : Mem w0 W L) : Calls Try.prog 65 #[.int .i64 n] W fun e W'=>∃ y j,WP y ∧ e = .returned (.agg (encW y j).toArray) ∧ Mem w0 W' (wldP y j ++ L):=by
  refine enter Try.func65 rfl Try.ntmps65 [(0,_)] rfl ⟨rfl,trivial⟩ ?_
  have hin : 1 ≤ n ∧ n ≤ 5:=⟨h1,h5⟩
  replace HM:=HM.nil (tRec 29 37 9 3 70) 48
  repeat (first|(refine gGP ?_;first|refine gp (p_move rfl) ?_|refine gp (p_assign rfl) ?_|refine gp (p_not rfl) ?_|refine gp (p_build rfl) ?_)|(refine gL ?_;first|refine s_gp rfl rfl ?_|(refine gStore ?_;(refine s_store HM rfl rfl rfl rfl ?_;clear HM;intro W1 HM))|(refine gCall ?_;(refine s_fn rfl rfl ?_;(go_at_call 32;refine (l1In_c _ _ _ _).mono ?_;rintro e W1 ⟨rfl,rfl⟩;refine ⟨_,rfl,?_⟩)))|(refine s_alloc HM rfl ?_;clear HM;intro g W1 HM)|refine l_nil ?_)|(refine gC ?_;first|refine c_seq ?_|refine c_region ?_|refine c_block ?_|refine c_skip ?_|refine c_no rfl (by first|rfl|(simp;omega)) ?_)|(refine gN ?_;refine n_then ?_))
  rename_i gz Wa Wb
  refine c_loop2 (σ:=Nat × List Rcd) (fun s A c=>[(0,.int .i64 n),(2,.pointer (some ⟨gz,0,none⟩)),(3,.pointer (some ⟨g,0,none⟩)),(4,.int .i64 ((s.1 : Int) + 1))]) (fun s A c W1=>(s.1 : Int) ≤ n ∧ s.2 = (List.range s.1).map (fun q : Nat=>nr ((q : Int) + 1) n) ∧ Mem w0 W1 (box gz 82 [.slice none 0 0,.slice none 0 0,.slice none 0 0] :: box g 82 [.slice A s.2.length c,.slice none 0 0,.slice none 0 0] :: own (tRec 29 37 9 3 70) 48 A c s.2 :: L)) (fun s=>n.toNat - s.1) (0,[]) none 0 (by dsimp only;simp only [Int.natCast_zero,Int.zero_add];exact (by repeat (first|exact trivial|refine And.intro (by first|rfl|exact look_int rfl (by omega)) ?_))) ⟨by dsimp only;omega,rfl,HM.sb⟩ ?_
  clear HM
  rintro ⟨k,ys⟩ A c W1 ⟨hk,hys,HM⟩
  dsimp only at hk hys HM ⊢
  have hyl : ys.length = k:=by rw [hys];simp
  by_cases hlt : (k : Int) + 1 ≤ n
  · repeat (first|(refine gR ?_;refine d_start [6,8] [(0,0),(0,2),(0,3),(1,1),(2,4),(2,5),(3,6),(0,7),(3,8)] HM (by kernel_rfl) (by kernel_rfl) (by repeat (first|exact qp_body|refine qp_then ?_|refine qp_block ?_)) (by kernel_rfl) rfl ?_;intro HQ HS W1 HM1;replace HM:=HM1;clear HM1)|(refine gGP ?_;first|refine gp (p_move rfl) ?_|refine gp (p_assign rfl) ?_|(refine gGB ?_;first|refine gp (p_leq rfl rfl) ?_|refine gp (p_add rfl rfl (by exact wr (by omega) (by omega))) ?_)|refine gp (p_field rfl (by simp only [Nat.reduceAdd];rfl)) ?_)|(refine gGV ?_;refine gv (p_load rfl) ?_)|(refine gL ?_;first|refine s_gp rfl rfl ?_|(refine gStore ?_;(refine s_store HM rfl rfl rfl rfl ?_;clear HM;intro W1 HM))|(refine gCall ?_;first|(refine s_fn rfl rfl ?_;(go_at_call 72;refine (new_c ((k : Int) + 1) n ⟨hin,by omega,hlt⟩ HM).mono ?_;rintro e W1 ⟨rfl,HM1⟩;refine ⟨_,rfl,?_⟩;replace HM:=HM1;clear HM1;simp only [partRcd,List.cons_append,List.nil_append] at HM;simp only [encRcd]))|(refine s_append1 HM rfl rfl (by first|with_reducible rfl|omega) rfl rfl (by omega) rfl ?_;intro A1 c1 W1 HM1;replace HM:=HM1;clear HM1))|(refine s_lit1 HM rfl rfl rfl ?_;clear HM;intro g W1 HM)|refine l_nil ?_)|(refine gC ?_;first|refine c_seq ?_|refine c_region ?_|refine c_block ?_|refine c_skip ?_|refine c_yes rfl (by (simp;omega)) ?_)|(refine gN ?_;first|refine n_then ?_|refine n_block ?_|refine d_back (by (show Mem _ _ _;exact HM.sb)) ?_|refine d_backT ?_)|(refine gD ?_;refine d_next rfl ?_)|(refine gO ?_;first|refine d_gp HQ HS rfl ?_|refine d_gv HQ HS rfl ?_|refine d_one ?_|refine d_last ?_)|(refine gT ?_;first|refine d_gpT HQ HS rfl rfl ?_|refine d_nextT rfl ?_|refine d_doneT ?_))
    exact n_round2 (k + 1,ys ++ [nr ((k : Int) + 1) n]) A1 c1 (by simp only [Int.natCast_add,Int.natCast_one];exact (by repeat (first|exact trivial|refine And.intro (by first|rfl|exact look_int rfl (by omega)) ?_))) ⟨by dsimp only;omega,by dsimp only;rw [hys,List.range_succ,List.map_append];rfl,HM.sb⟩ (by dsimp only;omega)
  · have hkn : (k : Int) = n:=by omega
    repeat (first|(refine gGP ?_;first|refine gp (p_move rfl) ?_|(refine gGB ?_;refine gp (p_leq rfl rfl) ?_))|(refine gGV ?_;refine gv (p_loads rfl) ?_)|(refine gL ?_;first|refine s_gp rfl rfl ?_|refine s_gv HM rfl ?_|(refine gStore ?_;(refine s_store HM rfl rfl rfl rfl ?_;clear HM;intro W1 HM))|refine l_nil ?_)|(refine gC ?_;first|refine c_seq ?_|refine c_region ?_|refine c_exit ?_|refine c_ret ?_|refine c_no rfl (by (simp;omega)) ?_)|(refine gN ?_;first|refine n_then ?_|refine x_then ?_|refine x_here ?_))
    have HM2:=flt_of (HM.nil (tMsg 29) 37)
    clear HM
    have HM:=HM2.nil tFix 107
    clear HM2
    have hv : WP ⟨ys,[],[]⟩:=by
      refine ⟨by dsimp only;omega,by dsimp only;omega,by simp,fun q hq=>?_,by simp,⟨by simp,by simp⟩⟩
      dsimp only at hq ⊢
      have e : ys[q] = nr ((q : Int) + 1) n:=by simp only [hys,List.getElem_map,List.getElem_range]
      rw [e]
      exact ⟨vr_nr (by omega) (by omega) h5,rfl,by rw [hyl];exact hkn.symm⟩
    exact ret_cell HM rfl rfl rfl ⟨⟨ys,[],[]⟩,⟨(A,c),(none,0),(none,0)⟩,hv,rfl,by simp only [wldP,List.cons_append,List.nil_append];exact HM.sb⟩
end Go.Proofs.Ytampmicahnnebaa.Sp
namespace Go.Proofs.Ytampmicahnnebaa.Sp
open Go Go.RowKit
set_option maxRecDepth 10000
set_option maxHeartbeats 4000000
variable {w0 W : World} {L : List Asn} {A : Option Addr} {c : Nat} {bs : List Int}
theorem vr_heard30 {x : Rcd} (h : VR x) (hu : x.up = true) : VR { x with heard:=30 }:=vr_heard h (by omega) (by omega) (fun e=>by rw [hu] at e;cases e)
theorem impat_c {gr q : Nat} {R : List Asn} (x : Wld) (i : AtW) (hb : RoRow rByte w0 A bs) (hl : bs.length ≤ 2000) (hv : WP x) [hrd : RdAt L A bs.length c gr q R] (hq : q ≤ 900000) (HM : Mem w0 W (wldP x i ++ L)) : Calls Try.prog 69 #[.pointer (some ⟨gr,0,none⟩),.agg (encW x i).toArray] W fun e W'=>∃ y,(WP y ∧ y.recs.length = x.recs.length) ∧ e = .returned (.agg (encW y i).toArray) ∧ Mem w0 W' (wldP y i ++ (rdr A bs.length c (q + 1) gr :: R)):=by
  refine enter Try.func69 rfl Try.ntmps69 [(0,_),(1,.agg (encW x i).toArray)] rfl ⟨rfl,rfl,trivial⟩ ?_
  obtain ⟨rs,fl,fx⟩:=x
  unfold encW
  simp only [wldP,List.cons_append,List.nil_append] at HM
  have hn1:=hv.n1
  have hn5:=hv.n5
  dsimp only at *
  repeat (first|(refine gGP ?_;first|refine gp (p_move rfl) ?_|refine gp (p_assign rfl) ?_|refine gp (p_field rfl (by simp only [Nat.reduceAdd];rfl)) ?_|refine gp (p_fieldo rfl (by simp only [Nat.reduceAdd];rfl)) ?_|refine gp (p_indexo HM rfl (by first|with_reducible rfl|omega) rfl (by omega) (by omega)) ?_|refine gp (p_len rfl) ?_)|(refine gGV ?_;first|refine gv (p_load rfl) ?_|refine gv (p_loado rfl rfl (by omega) (by omega) rfl) ?_)|(refine gL ?_;first|refine s_gp rfl rfl ?_|refine s_gv HM rfl ?_|(refine gCall ?_;(refine s_fn rfl rfl ?_;(go_at_call 30;refine (pick_c hb hl _ (by omega) HM).mono ?_;rintro e W1 ⟨v,hv0,rfl,HM1⟩;obtain ⟨p,rfl⟩ : ∃ p : Nat,v = p:=⟨v.toNat,by omega⟩;refine ⟨_,rfl,?_⟩;replace HM:=HM1;clear HM1)))|(refine s_box HM rfl rfl ?_;clear HM;intro g W1 HM)|(refine s_alloc HM rfl ?_;clear HM;intro g W1 HM)|refine l_nil ?_)|(refine gC ?_;first|refine c_seq ?_|refine c_region ?_)|(refine gN ?_;refine n_then ?_))
  have hpl : p < rs.length:=by omega
  have e0:=rd_at (d:=(tRec 29 37 9 3 70)) hpl
  by_cases cu : (rd (tRec 29 37 9 3 70) rs (p : Int)).up = true
  rotate_left
  · simp only [Bool.not_eq_true] at cu
    repeat (first|(refine gGP ?_;refine gp (p_pick0 rfl (by assumption) rfl) ?_)|(refine gGV ?_;refine gv (p_loads rfl) ?_)|(refine gL ?_;first|refine s_gp rfl rfl ?_|refine s_gv HM rfl ?_|(refine gStore ?_;(refine s_store HM rfl rfl rfl rfl ?_;clear HM;intro W1 HM))|refine l_nil ?_|refine s_guard_off rfl rfl rfl rfl (by assumption) rfl rfl ?_)|(refine gC ?_;first|refine c_seq ?_|refine c_region ?_|refine c_skip ?_|refine c_ret ?_|refine c_no rfl (by rfl) ?_)|(refine gN ?_;refine n_then ?_))
    exact ret_cell HM rfl rfl rfl ⟨⟨rs,fl,fx⟩,⟨hv,rfl⟩,rfl,by simp only [wldP,List.cons_append,List.nil_append];exact HM.sb⟩
  by_cases cl : (rd (tRec 29 37 9 3 70) rs (p : Int)).lead = true
  · repeat (first|(refine gGP ?_;first|refine gp (p_move rfl) ?_|refine gp (p_field rfl (by simp only [Nat.reduceAdd];rfl)) ?_|refine gp (p_fieldo rfl (by simp only [Nat.reduceAdd];rfl)) ?_|refine gp (p_indexo HM rfl (by first|with_reducible rfl|omega) rfl (by omega) (by omega)) ?_|refine gp (p_not rfl) ?_|refine gp (p_pick1 rfl (by assumption) rfl) ?_)|(refine gGV ?_;first|refine gv (p_load rfl) ?_|refine gv (p_loado rfl rfl (by omega) (by omega) rfl) ?_|refine gv (p_loads rfl) ?_)|(refine gL ?_;first|refine s_gp rfl rfl ?_|refine s_gv HM rfl ?_|(refine gStore ?_;(refine s_store HM rfl rfl rfl rfl ?_;clear HM;intro W1 HM))|refine l_nil ?_|refine s_guard_on rfl rfl rfl rfl (by assumption) ?_)|(refine gC ?_;first|refine c_seq ?_|refine c_region ?_|refine c_skip ?_|refine c_ret ?_|refine c_no rfl (by (simp;omega)) ?_)|(refine gN ?_;refine n_then ?_))
    exact ret_cell HM rfl rfl rfl ⟨⟨rs,fl,fx⟩,⟨hv,rfl⟩,rfl,by simp only [wldP,List.cons_append,List.nil_append];exact HM.sb⟩
  · simp only [Bool.not_eq_true] at cl
    repeat (first|(refine gGP ?_;first|refine gp (p_move rfl) ?_|refine gp (p_field rfl (by simp only [Nat.reduceAdd];rfl)) ?_|refine gp (p_fieldo rfl (by simp only [Nat.reduceAdd];rfl)) ?_|refine gp (p_indexo HM rfl (by first|with_reducible rfl|omega) rfl (by omega) (by omega)) ?_|refine gp (p_not rfl) ?_|refine gp (p_pick1 rfl (by assumption) rfl) ?_)|(refine gGV ?_;first|refine gv (p_load rfl) ?_|refine gv (p_loado rfl rfl (by omega) (by omega) rfl) ?_|refine gv (p_loads rfl) ?_)|(refine gL ?_;first|refine s_gp rfl rfl ?_|refine s_gv HM rfl ?_|(refine gStore ?_;first|(refine s_store HM rfl rfl rfl rfl ?_;clear HM;intro W1 HM)|(refine s_storeo HM rfl rfl rfl (by omega) (by omega) rfl ?_;clear HM;intro W1 HM;(try dsimp only at HM)))|refine l_nil ?_|refine s_guard_on rfl rfl rfl rfl (by assumption) ?_)|(refine gC ?_;first|refine c_seq ?_|refine c_region ?_|refine c_ret ?_|refine c_yes rfl (by (simp;omega)) ?_)|(refine gN ?_;refine n_then ?_))
    obtain ⟨hV,hnum,hof⟩:=hv.recs p hpl
    dsimp only at hV hnum hof
    rw [e0] at cu
    have hr:=wp_set (r:={ rs[p] with heard:=30 }) hv hpl (vr_heard30 hV cu) hnum hof
    simp only [Int.toNat_natCast,e0] at HM
    dsimp only at hr
    have hsl : rs.length = (rs.set p { rs[p] with heard:=30 }).length:=(List.length_set ..).symm
    generalize rs.set p { rs[p] with heard:=30 } = rs2 at *
    rw [hsl] at HM ⊢
    exact ret_cell HM rfl rfl rfl ⟨⟨rs2,fl,fx⟩,⟨hr,rfl⟩,rfl,by simp only [wldP,List.cons_append,List.nil_append];exact HM.sb⟩
theorem Mem.rdr_first {n q g : Nat} {R : List Asn} [h : RdAt L A n c g q R] (hm : Mem w0 W L) : Mem w0 W (rdr A n c q g :: R):=hm.perm h.out
theorem lit5 {p : Nat} (h : p < 5) : 1 ≤ rd tInt [3,3,5,1,2] (p : Int) ∧ rd tInt [3,3,5,1,2] (p : Int) ≤ 5:=by
  have : p = 0 ∨ p = 1 ∨ p = 2 ∨ p = 3 ∨ p = 4:=by omega
  rcases this with rfl|rfl|rfl|rfl|rfl <;> decide
theorem reach_c {gr q : Nat} (hb : RoRow rByte w0 A bs) (hl : bs.length ≤ 2000) (hq : q ≤ 800000) (HM : Mem w0 W (rdr A bs.length c (q) gr :: L)) : Calls Try.prog 55 #[.pointer (some ⟨gr,0,none⟩)] W fun e W'=>∃ y j,WP y ∧ e = .returned (.agg (encW y j).toArray) ∧ Mem w0 W' (wldP y j ++ (rdr A bs.length c (q + 2000) gr :: L)):=by
  refine enter Try.func55 rfl Try.ntmps55 [(0,_)] rfl ⟨rfl,trivial⟩ ?_
  repeat (first|(refine gL ?_;refine s_litk (D:=tInt) (fun n=>.int .i64 n) (fun _=>rfl) (fun _=>rfl) (fun _=>rfl) rfl [3,3,5,1,2] HM rfl rfl (by decide) (by decide) ?_;clear HM;intro g W1 HM)|(refine gGP ?_;first|refine gp (p_move rfl) ?_|refine gp (p_indexo HM rfl (by first|with_reducible rfl|(simp only [List.length_set,List.length_append,List.length_cons,List.length_nil];omega)) rfl (by omega) (by (simp only [List.length_set,List.length_append,List.length_cons,List.length_nil];omega))) ?_)|(refine gGV ?_;refine gv (p_loado rfl rfl (by omega) (by (simp only [List.length_set,List.length_append,List.length_cons,List.length_nil];omega)) rfl) ?_)|(refine gL ?_;first|refine s_gp rfl rfl ?_|refine s_gv HM rfl ?_|(refine gStore ?_;(refine s_store HM rfl rfl rfl rfl ?_;clear HM;intro W1 HM))|(refine gCall ?_;(refine s_fn rfl rfl ?_;first|(go_at_call 30;refine (pick_c hb hl _ (by omega) HM).mono ?_;rintro e W1 ⟨v,hv0,rfl,HM1⟩;obtain ⟨p,rfl⟩ : ∃ p : Nat,v = p:=⟨v.toNat,by omega⟩;refine ⟨_,rfl,?_⟩;replace HM:=HM1;clear HM1;have hp5 : p < 5:=(by omega);have hl5:=lit5 hp5;have hll : ([3,3,5,1,2] : List Int).length = 5:=rfl)|(go_at_call 65;refine (neww_c _ hl5.1 hl5.2 HM).mono ?_;rintro e W1 ⟨y,j,hv,rfl,HM1⟩;refine ⟨_,rfl,?_⟩;replace HM:=HM1;clear HM1;simp only [wldP,List.cons_append,List.nil_append] at HM;simp only [encW])))|(refine s_alloc HM rfl ?_;clear HM;intro g W1 HM)|refine l_nil ?_)|(refine gC ?_;first|refine c_seq ?_|refine c_region ?_)|(refine gN ?_;refine n_then ?_))
  rename_i gz Wa gl Wb Wc Wd We
  repeat (first|(refine gGP ?_;refine gp (p_assign rfl) ?_)|(refine gL ?_;first|refine s_gp rfl rfl ?_|(refine gCall ?_;(refine s_fn rfl rfl ?_;(go_at_call 30;refine (pick_c hb hl _ (by omega) HM).mono ?_;rintro e W1 ⟨v,hv0,rfl,HM1⟩;obtain ⟨p,rfl⟩ : ∃ p : Nat,v = p:=⟨v.toNat,by omega⟩;refine ⟨_,rfl,?_⟩;replace HM:=HM1;clear HM1)))|refine l_nil ?_)|(refine gC ?_;refine c_block ?_)|(refine gN ?_;refine n_then ?_))
  refine c_loop (σ:=Nat × Wld × AtW) (fun s=>[(0,.pointer (some ⟨gr,0,none⟩)),(2,.pointer (some ⟨gz,0,none⟩)),(3,.pointer (some ⟨g,0,none⟩)),(4,.int .i64 s.1)]) (fun s W1=>s.1 ≤ 5 ∧ WP s.2.1 ∧ Mem w0 W1 (box gz 82 [.slice none 0 0,.slice none 0 0,.slice none 0 0] :: box g 82 [.slice s.2.2.b0.1 s.2.1.recs.length s.2.2.b0.2,.slice s.2.2.b1.1 s.2.1.flight.length s.2.2.b1.2,.slice s.2.2.b2.1 s.2.1.fixed.length s.2.2.b2.2] :: own (tRec 29 37 9 3 70) 48 s.2.2.b0.1 s.2.2.b0.2 s.2.1.recs :: flt 29 37 s.2.2.b1.1 s.2.2.b1.2 s.2.1.flight :: own tFix 107 s.2.2.b2.1 s.2.2.b2.2 s.2.1.fixed :: rdr A bs.length c (q + 2 + (5 - s.1) * 80) gr :: L)) (fun s=>s.1) (p,y,j) (by repeat (first|exact trivial|refine And.intro (by first|rfl|exact look_int rfl (by omega)) ?_)) ⟨by dsimp only;omega,hv,(HM.rdr_to (g:=gr) (q':=q + 2 + (5 - p) * 80) (by omega)).sb⟩ ?_
  clear HM hv hv0 hl5 hll hp5
  clear p y j
  rintro ⟨m,y,j⟩ W1 ⟨hm,hv,HM⟩
  dsimp only at hm hv HM ⊢
  by_cases h0 : 0 < m
  rotate_left
  · repeat (first|(refine gGP ?_;first|refine gp (p_move rfl) ?_|(refine gGB ?_;refine gp (p_gtr rfl rfl) ?_))|(refine gGV ?_;refine gv (p_loads rfl) ?_)|(refine gL ?_;first|refine s_gp rfl rfl ?_|refine s_gv HM rfl ?_|(refine gStore ?_;(refine s_store HM rfl rfl rfl rfl ?_;clear HM;intro W1 HM))|(refine gCall ?_;(refine s_fn rfl rfl ?_;(go_at_call 70;refine (copy_c y j (ro_w3 y j HM) hv.small (Mem.start _)).mono ?_;rintro e W1 ⟨jc,rfl,HM1⟩;refine ⟨_,rfl,?_⟩;replace HM:=HM.join HM1;clear HM1;simp only [wldP,List.cons_append,List.nil_append] at HM;simp only [encW])))|refine l_nil ?_)|(refine gC ?_;first|refine c_seq ?_|refine c_region ?_|refine c_exit ?_|refine c_ret ?_|refine c_no rfl (by (simp;omega)) ?_)|(refine gN ?_;first|refine n_then ?_|refine x_then ?_|refine x_here ?_))
    exact ret_cell HM rfl rfl rfl ⟨y,jc,hv,rfl,by simp only [wldP,List.cons_append,List.nil_append];exact (HM.rdr_to (g:=gr) (q':=q + 2000) (by omega)).sb⟩
  have hm1 : (m : Int) - 1 = ((m - 1 : Nat) : Int):=by omega
  repeat (first|(refine gGP ?_;first|refine gp (p_move rfl) ?_|refine gp (p_assign rfl) ?_|(refine gGB ?_;refine gp (p_gtr rfl rfl) ?_))|(refine gL ?_;first|refine s_gp rfl rfl ?_|(refine gCall ?_;(refine s_fn rfl rfl ?_;(go_at_call 30;refine (pick_c hb hl _ (by omega) HM).mono ?_;rintro e W1 ⟨v,hv0,rfl,HM1⟩;obtain ⟨p,rfl⟩ : ∃ p : Nat,v = p:=⟨v.toNat,by omega⟩;refine ⟨_,rfl,?_⟩;replace HM:=HM1;clear HM1)))|refine l_nil ?_)|(refine gC ?_;first|refine c_seq ?_|refine c_region ?_|refine c_block ?_|refine c_skip ?_|refine c_yes rfl (by first|rfl|(simp;omega)) ?_)|(refine gN ?_;refine n_then ?_))
  refine c_loop (σ:=Nat × Wld × AtW) (fun s=>[(0,.pointer (some ⟨gr,0,none⟩)),(2,.pointer (some ⟨gz,0,none⟩)),(3,.pointer (some ⟨g,0,none⟩)),(4,.int .i64 m),(5,.int .i64 s.1)]) (fun s W1=>s.1 ≤ 11 ∧ WP s.2.1 ∧ Mem w0 W1 (box gz 82 [.slice none 0 0,.slice none 0 0,.slice none 0 0] :: box g 82 [.slice s.2.2.b0.1 s.2.1.recs.length s.2.2.b0.2,.slice s.2.2.b1.1 s.2.1.flight.length s.2.2.b1.2,.slice s.2.2.b2.1 s.2.1.fixed.length s.2.2.b2.2] :: own (tRec 29 37 9 3 70) 48 s.2.2.b0.1 s.2.2.b0.2 s.2.1.recs :: flt 29 37 s.2.2.b1.1 s.2.2.b1.2 s.2.1.flight :: own tFix 107 s.2.2.b2.1 s.2.2.b2.2 s.2.1.fixed :: rdr A bs.length c (q + 3 + (5 - m) * 80 + (11 - s.1) * 6) gr :: L)) (fun s=>s.1) (p,y,j) (by repeat (first|exact trivial|refine And.intro (by first|rfl|exact look_int rfl (by omega)) ?_)) ⟨by dsimp only;omega,hv,(HM.rdr_to (g:=gr) (q':=q + 3 + (5 - m) * 80 + (11 - p) * 6) (by omega)).sb⟩ ?_
  clear HM hv hv0
  clear p y j
  rintro ⟨k,u,ju⟩ W1 ⟨hk,hv,HM⟩
  dsimp only at hk hv HM ⊢
  by_cases hk0 : 0 < k
  · have hk1 : (k : Int) - 1 = ((k - 1 : Nat) : Int):=by omega
    repeat (first|(refine gR ?_;have HM2:=HM.rdr_first (g:=gr);clear HM;have HM:=HM2;clear HM2;(refine gR ?_;refine d_startd [6,7] [(0,1),(0,2),(1,0),(1,3),(0,4),(2,5),(3,6),(3,7)] HM (by kernel_rfl) (by kernel_rfl) (by repeat (first|exact qp_body|refine qp_then ?_|refine qp_block ?_)) (by kernel_rfl) rfl ?_;intro HQ HS W1 HM1;replace HM:=HM1;clear HM1))|(refine gGP ?_;first|refine gp (p_move rfl) ?_|refine gp (p_assign rfl) ?_|(refine gGB ?_;first|refine gp (p_gtr rfl rfl) ?_|refine gp (p_sub rfl rfl (by exact wr (by omega) (by omega))) ?_)|refine gp (p_field rfl (by simp only [Nat.reduceAdd];rfl)) ?_|refine gp (p_len rfl) ?_)|(refine gGV ?_;first|refine gv (p_load rfl) ?_|refine gv (p_loads rfl) ?_)|(refine gL ?_;first|refine s_gp rfl rfl ?_|(refine gStore ?_;(refine s_store HM rfl rfl rfl rfl ?_;clear HM;intro W1 HM))|(refine gCall ?_;(refine s_fn rfl rfl ?_;first|(go_at_call 67;refine (event_c hb hl _ (by omega) HM).mono ?_;rintro e W1 ⟨kd,a,t,ht,rfl,HM1⟩;refine ⟨_,rfl,?_⟩;replace HM:=HM1;clear HM1)|(go_at_call 66;refine (do_c u ju kd a t hv (by omega) (pk_wld u ju HM)).mono ?_;rintro e W1 ⟨y2,j2,hy,rfl,HM1⟩;refine ⟨_,rfl,?_⟩;replace HM:=HM1;clear HM1;simp only [wldP,List.cons_append,List.nil_append] at HM;simp only [encW])))|refine l_nil ?_)|(refine gC ?_;first|refine c_seq ?_|refine c_region ?_|refine c_block ?_|refine c_skip ?_|refine c_yes rfl (by (simp;omega)) ?_)|(refine gN ?_;first|refine n_then ?_|refine n_block ?_|refine d_back (by exact HM.drop) ?_|refine d_backT ?_)|(refine gD ?_;refine d_next rfl ?_)|(refine gO ?_;first|refine d_gp HQ HS rfl ?_|refine d_gv HQ HS rfl ?_|refine d_one ?_|refine d_last ?_)|(refine gT ?_;first|refine d_nextT rfl ?_|refine d_doneT ?_))
    exact n_round (k - 1,y2,j2) (by dsimp only;rw [← hk1];exact (by repeat (first|exact trivial|refine And.intro (by first|rfl|exact look_int rfl (by omega)) ?_))) ⟨by dsimp only;omega,hy.1,(HM.rdr_to (g:=gr) (q':=q + 3 + (5 - m) * 80 + (11 - (k - 1)) * 6) (by omega)).sb⟩ (by dsimp only;omega)
  repeat (first|(refine gGP ?_;first|refine gp (p_move rfl) ?_|refine gp (p_assign rfl) ?_|(refine gGB ?_;first|refine gp (p_eql rfl rfl) ?_|refine gp (p_gtr rfl rfl) ?_))|(refine gL ?_;first|refine s_gp rfl rfl ?_|(refine gCall ?_;(refine s_fn rfl rfl ?_;(go_at_call 30;refine (pick_c hb hl _ (by omega) HM).mono ?_;rintro e W1 ⟨v,hv0,rfl,HM1⟩;obtain ⟨p,rfl⟩ : ∃ p : Nat,v = p:=⟨v.toNat,by omega⟩;refine ⟨_,rfl,?_⟩;replace HM:=HM1;clear HM1)))|refine l_nil ?_)|(refine gC ?_;first|refine c_seq ?_|refine c_region ?_|refine c_block ?_|refine c_exit ?_|refine c_no rfl (by (simp;omega)) ?_)|(refine gN ?_;first|refine n_then ?_|refine x_then ?_|refine x_here ?_))
  have hp4 : p < 4:=by omega
  by_cases p0 : p = 0
  · subst p0
    repeat (first|(refine gR ?_;have HM2:=HM.rdr_first (g:=gr);clear HM;have HM:=HM2;clear HM2;(refine gR ?_;refine d_startd [3,4] [(0,1),(1,0),(2,2),(3,3),(3,4)] HM (by kernel_rfl) (by kernel_rfl) (by repeat (first|exact qp_body|refine qp_then ?_|refine qp_block ?_)) (by kernel_rfl) rfl ?_;intro HQ HS W1 HM1;replace HM:=HM1;clear HM1))|(refine gGP ?_;first|refine gp (p_move rfl) ?_|refine gp (p_assign rfl) ?_|(refine gGB ?_;refine gp (p_sub rfl rfl (by exact wr (by omega) (by omega))) ?_))|(refine gGV ?_;refine gv (p_loads rfl) ?_)|(refine gL ?_;first|refine s_gp rfl rfl ?_|(refine gStore ?_;(refine s_store HM rfl rfl rfl rfl ?_;clear HM;intro W1 HM))|(refine gCall ?_;(refine s_fn rfl rfl ?_;first|(go_at_call 30;refine (pick_c hb hl _ (by omega) HM).mono ?_;rintro e W1 ⟨v,hv0,rfl,HM1⟩;obtain ⟨p,rfl⟩ : ∃ p : Nat,v = p:=⟨v.toNat,by omega⟩;refine ⟨_,rfl,?_⟩;replace HM:=HM1;clear HM1)|(go_at_call 68;refine (calm_c u ju _ hv (pk_wld u ju HM)).mono ?_;rintro e W1 ⟨y2,j2,hy,rfl,HM1⟩;refine ⟨_,rfl,?_⟩;replace HM:=HM1;clear HM1;simp only [wldP,List.cons_append,List.nil_append] at HM;simp only [encW])))|refine l_nil ?_)|(refine gC ?_;first|refine c_region ?_|refine c_yes rfl (by rfl) ?_)|(refine gN ?_;first|refine n_then ?_|refine n_block ?_|refine d_back (by exact HM.drop) ?_|refine d_backT ?_)|(refine gD ?_;refine d_next rfl ?_)|(refine gO ?_;first|refine d_gp HQ HS rfl ?_|refine d_gv HQ HS rfl ?_|refine d_one ?_|refine d_last ?_)|(refine gT ?_;first|refine d_nextT rfl ?_|refine d_doneT ?_))
    exact n_round (m - 1,y2,j2) (by dsimp only;rw [← hm1];exact (by repeat (first|exact trivial|refine And.intro (by first|rfl|exact look_int rfl (by omega)) ?_))) ⟨by dsimp only;omega,hy,(HM.rdr_to (g:=gr) (q':=q + 2 + (5 - (m - 1)) * 80) (by omega)).sb⟩ (by dsimp only;omega)
  by_cases p3 : p = 3
  · subst p3
    repeat (first|(refine gGP ?_;first|refine gp (p_move rfl) ?_|refine gp (p_assign rfl) ?_|(refine gGB ?_;first|refine gp (p_eql rfl rfl) ?_|refine gp (p_sub rfl rfl (by exact wr (by omega) (by omega))) ?_))|(refine gL ?_;first|refine s_gp rfl rfl ?_|refine l_nil ?_)|(refine gC ?_;first|refine c_seq ?_|refine c_region ?_|refine c_skip ?_|refine c_no rfl (by rfl) ?_)|(refine gN ?_;first|refine n_then ?_|refine n_block ?_))
    exact n_round (m - 1,u,ju) (by dsimp only;rw [← hm1];exact (by repeat (first|exact trivial|refine And.intro (by first|rfl|exact look_int rfl (by omega)) ?_))) ⟨by dsimp only;omega,hv,(HM.rdr_to (g:=gr) (q':=q + 2 + (5 - (m - 1)) * 80) (by omega)).sb⟩ (by dsimp only;omega)
  by_cases p1 : p = 1
  · subst p1
    repeat (first|(refine gR ?_;have HM2:=HM.rdr_first (g:=gr);clear HM;have HM:=HM2;clear HM2;(refine gR ?_;refine d_startd [3,4] [(0,1),(1,0),(2,2),(3,3),(3,4)] HM (by kernel_rfl) (by kernel_rfl) (by repeat (first|exact qp_body|refine qp_then ?_|refine qp_block ?_)) (by kernel_rfl) rfl ?_;intro HQ HS W1 HM1;replace HM:=HM1;clear HM1))|(refine gGP ?_;first|refine gp (p_move rfl) ?_|refine gp (p_assign rfl) ?_|(refine gGB ?_;first|refine gp (p_eql rfl rfl) ?_|refine gp (p_sub rfl rfl (by exact wr (by omega) (by omega))) ?_))|(refine gGV ?_;refine gv (p_loads rfl) ?_)|(refine gL ?_;first|refine s_gp rfl rfl ?_|refine s_gv HM rfl ?_|(refine gStore ?_;(refine s_store HM rfl rfl rfl rfl ?_;clear HM;intro W1 HM))|(refine gCall ?_;(refine s_fn rfl rfl ?_;first|(go_at_call 30;refine (pick_c hb hl _ (by omega) HM).mono ?_;rintro e W1 ⟨v,hv0,rfl,HM1⟩;obtain ⟨p,rfl⟩ : ∃ p : Nat,v = p:=⟨v.toNat,by omega⟩;refine ⟨_,rfl,?_⟩;replace HM:=HM1;clear HM1)|(go_at_call 69;refine (impat_c u ju hb hl hv (by omega) (pk_wld u ju HM)).mono ?_;rintro e W1 ⟨y3,hy3,rfl,HM1⟩;refine ⟨_,rfl,?_⟩;replace HM:=HM1;clear HM1;simp only [wldP,List.cons_append,List.nil_append] at HM;simp only [encW])|(go_at_call 68;refine (calm_c y3 ju _ hy3.1 (pk_wld y3 ju HM)).mono ?_;rintro e W1 ⟨y2,j2,hy,rfl,HM1⟩;refine ⟨_,rfl,?_⟩;replace HM:=HM1;clear HM1;simp only [wldP,List.cons_append,List.nil_append] at HM;simp only [encW])))|refine l_nil ?_)|(refine gC ?_;first|refine c_seq ?_|refine c_region ?_|refine c_skip ?_|refine c_yes rfl (by rfl) ?_|refine c_no rfl (by rfl) ?_)|(refine gN ?_;first|refine n_then ?_|refine n_block ?_|refine d_back (by exact HM.drop) ?_|refine d_backT ?_)|(refine gD ?_;refine d_next rfl ?_)|(refine gO ?_;first|refine d_gp HQ HS rfl ?_|refine d_gv HQ HS rfl ?_|refine d_one ?_|refine d_last ?_)|(refine gT ?_;first|refine d_nextT rfl ?_|refine d_doneT ?_))
    exact n_round (m - 1,y2,j2) (by dsimp only;rw [← hm1];exact (by repeat (first|exact trivial|refine And.intro (by first|rfl|exact look_int rfl (by omega)) ?_))) ⟨by dsimp only;omega,hy,(HM.rdr_to (g:=gr) (q':=q + 2 + (5 - (m - 1)) * 80) (by omega)).sb⟩ (by dsimp only;omega)
  obtain rfl : p = 2:=by omega
  repeat (first|(refine gR ?_;have HM2:=HM.rdr_first (g:=gr);clear HM;have HM:=HM2;clear HM2;(refine gR ?_;refine d_startd [3,4] [(0,1),(1,0),(2,2),(3,3),(3,4)] HM (by kernel_rfl) (by kernel_rfl) (by repeat (first|exact qp_body|refine qp_then ?_|refine qp_block ?_)) (by kernel_rfl) rfl ?_;intro HQ HS W1 HM1;replace HM:=HM1;clear HM1))|(refine gGP ?_;first|refine gp (p_move rfl) ?_|refine gp (p_assign rfl) ?_|(refine gGB ?_;first|refine gp (p_eql rfl rfl) ?_|refine gp (p_sub rfl rfl (by exact wr (by omega) (by omega))) ?_))|(refine gGV ?_;refine gv (p_loads rfl) ?_)|(refine gL ?_;first|refine s_gp rfl rfl ?_|refine s_gv HM rfl ?_|(refine gStore ?_;(refine s_store HM rfl rfl rfl rfl ?_;clear HM;intro W1 HM))|(refine gCall ?_;(refine s_fn rfl rfl ?_;first|(go_at_call 30;refine (pick_c hb hl _ (by omega) HM).mono ?_;rintro e W1 ⟨v,hv0,rfl,HM1⟩;obtain ⟨p,rfl⟩ : ∃ p : Nat,v = p:=⟨v.toNat,by omega⟩;refine ⟨_,rfl,?_⟩;replace HM:=HM1;clear HM1)|(go_at_call 69;refine (impat_c u ju hb hl hv (by omega) (pk_wld u ju HM)).mono ?_;rintro e W1 ⟨y3,hy3,rfl,HM1⟩;refine ⟨_,rfl,?_⟩;replace HM:=HM1;clear HM1;simp only [wldP,List.cons_append,List.nil_append] at HM;simp only [encW])|(go_at_call 68;refine (calm_c y3 ju _ hy3.1 (pk_wld y3 ju HM)).mono ?_;rintro e W1 ⟨y2,j2,hy,rfl,HM1⟩;refine ⟨_,rfl,?_⟩;replace HM:=HM1;clear HM1;simp only [wldP,List.cons_append,List.nil_append] at HM;simp only [encW])))|refine l_nil ?_)|(refine gC ?_;first|refine c_seq ?_|refine c_region ?_|refine c_yes rfl (by rfl) ?_|refine c_no rfl (by rfl) ?_)|(refine gN ?_;first|refine n_then ?_|refine n_block ?_|refine d_back (by exact HM.drop) ?_|refine d_backT ?_)|(refine gD ?_;refine d_next rfl ?_)|(refine gO ?_;first|refine d_gp HQ HS rfl ?_|refine d_gv HQ HS rfl ?_|refine d_one ?_|refine d_last ?_)|(refine gT ?_;first|refine d_nextT rfl ?_|refine d_doneT ?_))
  exact n_round (m - 1,y2,j2) (by dsimp only;rw [← hm1];exact (by repeat (first|exact trivial|refine And.intro (by first|rfl|exact look_int rfl (by omega)) ?_))) ⟨by dsimp only;omega,hy,(HM.rdr_to (g:=gr) (q':=q + 2 + (5 - (m - 1)) * 80) (by omega)).sb⟩ (by dsimp only;omega)
end Go.Proofs.Ytampmicahnnebaa.Sp
namespace Go.Proofs.Ytampmicahnnebaa.Sp
open Go Go.RowKit
set_option maxRecDepth 10000
set_option maxHeartbeats 4000000
variable {w0 W : World} {L : List Asn} {A : Option Addr} {c : Nat} {bs : List Int}
theorem draw_c {gr q : Nat} {R : List Asn} (hb : RoRow rByte w0 A bs) (hl : bs.length ≤ 2000) [hrd : RdAt L A bs.length c gr q R] (hq : q ≤ 800000) (HM : Mem w0 W L) : Calls Try.prog 35 #[.pointer (some ⟨gr,0,none⟩)] W fun e W'=>∃ y j,VR y ∧ e = .returned (.agg (encRcd y j).toArray) ∧ Mem w0 W' (partRcd 29 37 9 3 70 y j ++ (rdr A bs.length c (q + 2001) gr :: R)):=by
  refine enter Try.func35 rfl Try.ntmps35 [(0,_)] rfl ⟨rfl,trivial⟩ ?_
  replace HM:=HM.rdr_first (g:=gr)
  repeat (first|(refine gGP ?_;refine gp (p_move rfl) ?_)|(refine gL ?_;first|refine s_gp rfl rfl ?_|(refine gStore ?_;(refine s_store HM rfl rfl rfl rfl ?_;clear HM;intro W1 HM))|(refine gCall ?_;(refine s_fn rfl rfl ?_;(go_at_call 55;refine (reach_c hb hl hq (by exact HM.rdr_first (g:=gr))).mono ?_;rintro e W1 ⟨y,j,hv,rfl,HM1⟩;refine ⟨_,rfl,?_⟩;replace HM:=HM1;clear HM1;simp only [wldP,List.cons_append,List.nil_append] at HM;simp only [encW])))|(refine s_alloc HM rfl ?_;clear HM;intro g W1 HM)|refine l_nil ?_)|(refine gC ?_;first|refine c_seq ?_|refine c_region ?_)|(refine gN ?_;refine n_then ?_))
  have hn1:=hv.n1
  have hn5:=hv.n5
  repeat (first|(refine gR ?_;have HM2:=HM.rdr_first (g:=gr);clear HM;have HM:=HM2;clear HM2;(refine gR ?_;refine d_startd [8,9] [(0,0),(0,2),(0,3),(1,1),(1,4),(0,5),(2,6),(0,7),(3,8),(3,9)] HM (by kernel_rfl) (by kernel_rfl) (by repeat (first|exact qp_body|refine qp_then ?_|refine qp_block ?_)) (by kernel_rfl) rfl ?_;intro HQ HS W1 HM1;replace HM:=HM1;clear HM1))|(refine gL ?_;have hpl : p < y.recs.length:=(by omega);have HMa:=HM.pk (A:=own (tRec 29 37 9 3 70) 48 j.b0.1 j.b0.2 y.recs);obtain ⟨jr,HM2⟩:=opn_rec HMa p hpl;clear HMa HM;have HM:=HM2;clear HM2;simp only [encRcd,partRcd,List.cons_append,List.nil_append] at HM;refine s_gv HM rfl ?_;refine gv (p_loadsh rfl rfl rfl) ?_)|(refine gGP ?_;first|refine gp (p_move rfl) ?_|refine gp (p_field rfl (by simp only [Nat.reduceAdd];rfl)) ?_|refine gp (p_indexo HM rfl (by first|with_reducible rfl|omega) rfl (by omega) (by omega)) ?_|refine gp (p_len rfl) ?_)|(refine gGV ?_;refine gv (p_load rfl) ?_)|(refine gL ?_;first|(refine gStore ?_;(refine s_store HM rfl rfl rfl rfl ?_;clear HM;intro W1 HM))|(refine gCall ?_;(refine s_fn rfl rfl ?_;(go_at_call 30;refine (pick_c hb hl _ (by omega) HM).mono ?_;rintro e W1 ⟨v,hv0,rfl,HM1⟩;obtain ⟨p,rfl⟩ : ∃ p : Nat,v = p:=⟨v.toNat,by omega⟩;refine ⟨_,rfl,?_⟩;replace HM:=HM1;clear HM1)))|refine l_nil ?_)|(refine gC ?_;refine c_ret ?_)|(refine gN ?_;first|refine n_then ?_|refine d_back (by exact HM.drop) ?_|refine d_backT ?_)|(refine gD ?_;refine d_next rfl ?_)|(refine gO ?_;first|refine d_gp HQ HS rfl ?_|refine d_gv HQ HS rfl ?_|refine d_one ?_|refine d_last ?_)|(refine gT ?_;first|refine d_nextT rfl ?_|refine d_doneT ?_))
  have hpl : p < y.recs.length:=by omega
  exact ret_cell HM rfl rfl rfl ⟨y.recs[p],jr,(hv.recs p hpl).1,rfl,by simp only [partRcd,List.cons_append,List.nil_append];exact (HM.rdr_to (g:=gr) (q':=q + 2001) (by omega)).sb⟩
end Go.Proofs.Ytampmicahnnebaa.Sp
namespace Go.Proofs.Ytampmicahnnebaa.Sp
open Go Go.RowKit
set_option maxRecDepth 10000
set_option maxHeartbeats 4000000
variable {w0 W : World} {L R : List Asn} {A : Option Addr} {c : Nat} {bs : List Int}
theorem many_c (s : ByteArray) (n : Int) (h0 : 0 ≤ n) (h1 : n ≤ 1000) (hs : s.size ≤ 1000) (HM : Mem w0 W L) : Calls Try.prog 37 #[.string s,.int .i64 n] W fun e W'=>∃ t : ByteArray,t.size ≤ 1000000 ∧ e = .returned (.string t) ∧ Mem w0 W' L:=by
  refine enter Try.func37 rfl Try.ntmps37 [(0,_),(1,_)] rfl ⟨rfl,rfl,trivial⟩ ?_
  obtain ⟨n,rfl⟩ : ∃ k : Nat,n = k:=⟨n.toNat,by omega⟩
  have hz0 : (⟨#[]⟩ : ByteArray).size = 0:=rfl
  repeat (first|(refine gGP ?_;refine gp (p_assign rfl) ?_)|(refine gL ?_;first|refine s_gp rfl rfl ?_|refine l_nil ?_)|(refine gC ?_;first|refine c_seq ?_|refine c_region ?_|refine c_block ?_)|(refine gN ?_;refine n_then ?_))
  refine c_loop (σ:=Nat × ByteArray × ByteArray) (fun z=>[(0,.string z.2.1),(1,.int .i64 z.1),(5,.string z.2.2)]) (fun z W1=>z.2.2.size + z.2.1.size * z.1 ≤ 1000000 ∧ (z.2.1.size ≤ 2000000 ∧ z.2.2.size ≤ 1000000 ∧ z.1 ≤ 1000) ∧ Mem w0 W1 L) (fun z=>z.1) (n,s,⟨#[]⟩) (by repeat (first|exact trivial|refine And.intro (by first|rfl|exact look_int rfl (by omega)) ?_)) ⟨by
    have : s.size * n ≤ 1000 * 1000:=Nat.mul_le_mul hs (by omega)
    dsimp only;rw [hz0];omega,⟨by dsimp only;omega,by dsimp only;rw [hz0];omega,by dsimp only;omega⟩,HM⟩ ?_
  clear HM
  rintro ⟨m,z,o⟩ W1 ⟨ht,⟨hz,ho,hm1⟩,HM⟩
  dsimp only at ht hz ho hm1 HM ⊢
  by_cases hm : 0 < m
  rotate_left
  · repeat (first|(refine gGP ?_;first|refine gp (p_move rfl) ?_|refine gp (p_assign rfl) ?_|(refine gGB ?_;refine gp (p_gtr rfl rfl) ?_))|(refine gL ?_;first|refine s_gp rfl rfl ?_|refine l_nil ?_)|(refine gC ?_;first|refine c_seq ?_|refine c_region ?_|refine c_exit ?_|refine c_ret ?_|refine c_no rfl (by (simp;omega)) ?_)|(refine gN ?_;first|refine n_then ?_|refine x_then ?_|refine x_here ?_))
    exact ret_tmp rfl rfl ⟨o,ho,rfl,HM⟩
  have hzm : z.size ≤ 1000000:=by
    have : z.size * 1 ≤ z.size * m:=Nat.mul_le_mul (Nat.le_refl _) hm
    omega
  have hd : (m : Int).tdiv 2 = ((m / 2 : Nat) : Int):=by rw [Int.tdiv_eq_ediv_of_nonneg (by omega)];omega
  have hr : (m : Int).tmod 2 = ((m % 2 : Nat) : Int):=by rw [Int.tmod_eq_emod_of_nonneg (by omega)];omega
  have hmod : m = 2 * (m / 2) + m % 2:=by omega
  have h2 : (z ++ z).size * (m / 2) = z.size * (2 * (m / 2)):=by rw [ByteArray.size_append,← Nat.two_mul,Nat.mul_comm 2 z.size,Nat.mul_assoc]
  by_cases hc : m % 2 = 1
  · have hsum : z.size * m = z.size * (2 * (m / 2)) + z.size:=by
      have e : m = 2 * (m / 2) + 1:=by omega
      rw [show z.size * m = z.size * (2 * (m / 2) + 1) by rw [← e],Nat.mul_add,Nat.mul_one]
    have hos : o.size + z.size ≤ 1000000:=by omega
    repeat (first|(refine gGP ?_;refine gGB ?_;refine gp (p_rem rfl rfl (by decide) hr) ?_)|(refine gGP ?_;refine gGB ?_;refine gp (p_quo (r:=((m / 2 : Nat) : Int)) rfl rfl (by decide) (by rw [hd];exact wr (by omega) (by omega))) ?_)|(refine gGP ?_;refine gGB ?_;refine gp (p_concat2 rfl rfl (by omega)) ?_)|(refine gGP ?_;first|refine gp (p_move rfl) ?_|refine gp (p_assign rfl) ?_|(refine gGB ?_;first|refine gp (p_eql rfl rfl) ?_|refine gp (p_gtr rfl rfl) ?_))|(refine gL ?_;first|refine s_gp rfl rfl ?_|refine l_nil ?_)|(refine gC ?_;first|refine c_seq ?_|refine c_region ?_|refine c_block ?_|refine c_skip ?_|refine c_yes rfl (by (simp;omega)) ?_)|(refine gN ?_;first|refine n_then ?_|refine n_block ?_))
    exact n_round (m / 2,z ++ z,o ++ z) (by repeat (first|exact trivial|refine And.intro (by first|rfl|exact look_int rfl (by omega)) ?_)) ⟨by dsimp only;rw [h2,ByteArray.size_append];omega,⟨by dsimp only;rw [ByteArray.size_append];omega,by dsimp only;rw [ByteArray.size_append];omega,by dsimp only;omega⟩,HM⟩ (by dsimp only;omega)
  · have hsum : z.size * m = z.size * (2 * (m / 2)):=by
      have e : m = 2 * (m / 2):=by omega
      rw [← e]
    repeat (first|(refine gGP ?_;refine gGB ?_;refine gp (p_rem rfl rfl (by decide) hr) ?_)|(refine gGP ?_;refine gGB ?_;refine gp (p_quo (r:=((m / 2 : Nat) : Int)) rfl rfl (by decide) (by rw [hd];exact wr (by omega) (by omega))) ?_)|(refine gGP ?_;refine gGB ?_;refine gp (p_concat2 rfl rfl (by omega)) ?_)|(refine gGP ?_;first|refine gp (p_move rfl) ?_|refine gp (p_assign rfl) ?_|(refine gGB ?_;first|refine gp (p_eql rfl rfl) ?_|refine gp (p_gtr rfl rfl) ?_))|(refine gL ?_;first|refine s_gp rfl rfl ?_|refine l_nil ?_)|(refine gC ?_;first|refine c_seq ?_|refine c_region ?_|refine c_block ?_|refine c_skip ?_|refine c_yes rfl (by (simp;omega)) ?_|refine c_no rfl (by (simp;omega)) ?_)|(refine gN ?_;first|refine n_then ?_|refine n_block ?_))
    exact n_round (m / 2,z ++ z,o) (by repeat (first|exact trivial|refine And.intro (by first|rfl|exact look_int rfl (by omega)) ?_)) ⟨by dsimp only;rw [h2];omega,⟨by dsimp only;rw [ByteArray.size_append];omega,ho,by dsimp only;omega⟩,HM⟩ (by dsimp only;omega)
end Go.Proofs.Ytampmicahnnebaa.Sp
namespace Go.Proofs.Ytampmicahnnebaa.Sp
open Go Go.RowKit
set_option maxRecDepth 10000
set_option maxHeartbeats 4000000
variable {w0 W : World} {L R : List Asn} {A : Option Addr} {c : Nat} {bs : List Int}
theorem rd_bd {ms : List Int} {lo hi : Int} (h : ∀ m ∈ ms,lo ≤ m ∧ m ≤ hi) (h0 : lo ≤ 0 ∧ 0 ≤ hi) (i : Int) : lo ≤ rd tInt ms i ∧ rd tInt ms i ≤ hi:=by
  unfold rd
  rw [List.getD_eq_getElem?_getD]
  by_cases hi : i.toNat < ms.length
  · rw [List.getElem?_eq_getElem hi];exact h _ (List.getElem_mem hi)
  · rw [List.getElem?_eq_none (by omega)];exact h0
theorem spoil_c {gr q cB e : Nat} {B : Option Addr} {ss : List Slot} (p k : Int) (hp : -10 ≤ p ∧ p ≤ 2000000) (hb : RoRow rByte w0 A bs) (hl : bs.length ≤ 2000) (hn : ss.length ≤ 60) [hO : OwnAt L B cB Slot tSlot e ss] [hrd : RdAt L A bs.length c gr q R] (hq : q ≤ 850000) (HM : Mem w0 W L) : Calls Try.prog 34 #[.pointer (some ⟨gr,0,none⟩),.agg #[.int .i64 p,.int .i64 k,.slice B ss.length cB]] W fun e W'=>∃ (p' k' : Int) (ss' : List Slot) (A' : Option Addr) (c' : Nat),((-10 ≤ p' ∧ p' ≤ 2000001) ∧ ss'.length ≤ 62 ∧ (-10 ≤ k ∧ k ≤ 1000 → -10 ≤ k' ∧ k' ≤ 1000)) ∧ e = .returned (.agg #[.int .i64 p',.int .i64 k',.slice A' ss'.length c']) ∧ Mem w0 W' (own tSlot 29 A' c' ss' :: rdr A bs.length c (q + 10) gr :: R):=by
  refine enter Try.func34 rfl Try.ntmps34 [(0,_),(1,.agg #[.int .i64 p,.int .i64 k,.slice B ss.length cB])] rfl ⟨rfl,rfl,trivial⟩ ?_
  repeat (first|(refine gGP ?_;first|refine gp (p_move rfl) ?_|refine gp (p_assign rfl) ?_|(refine gGB ?_;refine gp (p_eql rfl rfl) ?_))|(refine gGV ?_;refine gv (p_loads rfl) ?_)|(refine gL ?_;first|refine s_gp rfl rfl ?_|refine s_gv HM rfl ?_|(refine gStore ?_;(refine s_store HM rfl rfl rfl rfl ?_;clear HM;intro W1 HM))|(refine gCall ?_;(refine s_fn rfl rfl ?_;first|(go_at_call 46;obtain ⟨F1,hF1⟩:=HM.own (A:=B);refine (l1Disk_c p k (ro_slots hF1) (by omega) (Mem.start _)).mono ?_;clear hF1;rintro e2 W1 ⟨A5,c5,rfl,HM1⟩;refine ⟨_,rfl,?_⟩;replace HM:=HM.join HM1;clear HM1;simp only [List.cons_append,List.nil_append] at HM)|(go_at_call 30;refine (pick_c hb hl _ (by omega) HM).mono ?_;rintro e W1 ⟨v,hp0,rfl,HM1⟩;obtain ⟨p0,rfl⟩ : ∃ k : Nat,v = k:=⟨v.toNat,(by omega)⟩;have hp0b : p0 < 6:=(by omega);refine ⟨_,rfl,?_⟩;replace HM:=HM1;clear HM1)))|(refine s_box HM rfl rfl ?_;clear HM;intro g W1 HM)|(refine s_alloc HM rfl ?_;clear HM;intro g W1 HM)|refine l_nil ?_)|(refine gC ?_;first|refine c_seq ?_|refine c_region ?_|refine c_block ?_)|(refine gN ?_;refine n_then ?_))
  by_cases p00 : p0 = 0
  · subst p00
    repeat (first|(refine gL ?_;refine s_litk (D:=tInt) (fun n=>.int .i64 n) (fun _=>rfl) (fun _=>rfl) (fun _=>rfl) rfl [-1,0,1000000,1000001] HM rfl rfl (by simp) (by simp) ?_;clear HM;intro g W1 HM)|(refine gGP ?_;first|refine gp (p_move rfl) ?_|refine gp (p_field rfl (by simp only [Nat.reduceAdd];rfl)) ?_|refine gp (p_indexo HM rfl (by first|with_reducible rfl|(simp only [List.length_set,List.length_append,List.length_cons,List.length_nil];omega)) rfl (by omega) (by (simp only [List.length_set,List.length_append,List.length_cons,List.length_nil];omega))) ?_)|(refine gGV ?_;first|refine gv (p_loado rfl rfl (by omega) (by (simp only [List.length_set,List.length_append,List.length_cons,List.length_nil];omega)) rfl) ?_|refine gv (p_loads rfl) ?_)|(refine gL ?_;first|refine s_gp rfl rfl ?_|refine s_gv HM rfl ?_|(refine gStore ?_;(refine s_store HM rfl rfl rfl rfl ?_;clear HM;intro W1 HM))|(refine gCall ?_;(refine s_fn rfl rfl ?_;(go_at_call 30;refine (pick_c hb hl _ (by omega) HM).mono ?_;rintro e W1 ⟨v,hp1,rfl,HM1⟩;obtain ⟨p1,rfl⟩ : ∃ k : Nat,v = k:=⟨v.toNat,(by omega)⟩;have hp1b : p1 < 4:=(by omega);refine ⟨_,rfl,?_⟩;replace HM:=HM1;clear HM1)))|refine l_nil ?_)|(refine gC ?_;first|refine c_seq ?_|refine c_region ?_|refine c_ret ?_|refine c_yes rfl (by rfl) ?_)|(refine gN ?_;first|refine n_then ?_|refine n_block ?_))
    have hr:=rd_bd (ms:=[-1,0,1000000,1000001]) (lo:=-10) (hi:=2000000) (by simp) (by omega) (p1 : Int)
    exact ret_cell HM rfl rfl rfl ⟨rd tInt [-1,0,1000000,1000001] (p1 : Int),k,ss,A5,c5,⟨by omega,by first|omega|(simp only [List.length_append,List.length_cons,List.length_nil];omega),by intro hk;first|exact hk|omega⟩,rfl,(HM.rdr_to (g:=gr) (q':=q + 10) (by omega)).sb⟩
  by_cases p01 : p0 = 1
  · subst p01
    have hr2:=rd_bd (ms:=[-1,(ss.length : Int),(ss.length : Int) + 1]) (lo:=-10) (hi:=1000) (by intro m hm;simp only [List.mem_cons,List.not_mem_nil,or_false] at hm;omega) (by omega)
    replace HM:=HM.rdr_first (g:=gr)
    repeat (first|(refine gGP ?_;first|refine gp (p_assign rfl) ?_|(refine gGB ?_;refine gp (p_eql rfl rfl) ?_))|(refine gL ?_;first|refine s_gp rfl rfl ?_|refine l_nil ?_)|(refine gC ?_;first|refine c_seq ?_|refine c_region ?_|refine c_yes rfl (by rfl) ?_|refine c_no rfl (by rfl) ?_)|(refine gN ?_;refine n_then ?_))
    refine gR ?_
    refine x_start (ds:=[13]) HM (fun w hw=>hw.drop) (by kernel_rfl) (by kernel_rfl) (by repeat (first|exact qp_body|refine qp_then ?_|refine qp_block ?_)) ?_
    intro HQ HS W1 HM1;replace HM:=HM1;clear HM1
    refine x_pv HQ HS 0 rfl (by kernel_rfl) (by kernel_rfl) (l':=#[true,false,false,false,false,false,false,false,false,false,false,false,false,false]) (by kernel_rfl) rfl ?_
    refine gGP ?_;refine gp (p_field rfl (by simp only [Nat.reduceAdd];rfl)) ?_
    refine x_pv HQ HS 3 rfl (by kernel_rfl) (by kernel_rfl) (l':=#[true,false,false,true,false,false,false,false,false,false,false,false,false,false]) (by kernel_rfl) rfl ?_
    refine gGP ?_;refine gp (p_field rfl (by simp only [Nat.reduceAdd];rfl)) ?_
    refine x_pv HQ HS 8 rfl (by kernel_rfl) (by kernel_rfl) (l':=#[true,false,false,true,false,false,false,false,true,false,false,false,false,false]) (by kernel_rfl) rfl ?_
    refine gGP ?_;refine gp (p_move rfl) ?_
    refine x_ld HQ HS 1 rfl (by kernel_rfl) (by kernel_rfl) (by kernel_rfl) (by kernel_rfl) (l':=#[true,true,false,true,false,false,false,false,true,false,false,false,false,false]) (by kernel_rfl) rfl ?_
    refine gGV ?_;refine gv (p_load rfl) ?_
    refine x_pv HQ HS 2 rfl (by kernel_rfl) (by kernel_rfl) (l':=#[true,true,true,true,false,false,false,false,true,false,false,false,false,false]) (by kernel_rfl) rfl ?_
    refine gGP ?_;refine gp (p_len rfl) ?_
    refine x_ld HQ HS 4 rfl (by kernel_rfl) (by kernel_rfl) (by kernel_rfl) (by kernel_rfl) (l':=#[true,true,true,true,true,false,false,false,true,false,false,false,false,false]) (by kernel_rfl) rfl ?_
    refine gGV ?_;refine gv (p_load rfl) ?_
    refine x_pv HQ HS 5 rfl (by kernel_rfl) (by kernel_rfl) (l':=#[true,true,true,true,true,true,false,false,true,false,false,false,false,false]) (by kernel_rfl) rfl ?_
    refine gGP ?_;refine gp (p_len rfl) ?_
    refine x_pv HQ HS 6 rfl (by kernel_rfl) (by kernel_rfl) (l':=#[true,true,true,true,true,true,true,false,true,false,false,false,false,false]) (by kernel_rfl) rfl ?_
    refine gGP ?_;(refine gGB ?_;refine gp (p_add rfl rfl (by exact wr (by omega) (by omega))) ?_)
    refine x_two 7 9 (by kernel_rfl) rfl rfl (l':=#[true,true,true,true,true,true,true,true,true,false,false,false,false,false]) (l'':=#[true,true,true,true,true,true,true,false,true,true,false,false,false,false]) (by kernel_rfl) (by kernel_rfl) (x_go ?_) (x_go ?_)
    · repeat (first|(refine gL ?_;refine s_litk (D:=tInt) (fun n=>.int .i64 n) (fun _=>rfl) (fun _=>rfl) (fun _=>rfl) rfl [-1,(ss.length : Int),(ss.length : Int) + 1] HM rfl rfl (by simp) (by simp) ?_;clear HM;intro g W1 HM)|(refine gL ?_;refine l_nil ?_)|(refine gN ?_;refine x_back (by exact HM.drop.drop) ?_))
      refine x_one 9 (by kernel_rfl) rfl (l':=#[true,true,true,true,true,true,true,true,true,true,false,false,false,false]) (by kernel_rfl) (x_go ?_)
      repeat (first|(refine gL ?_;first|(refine gCall ?_;(refine s_fn rfl rfl ?_;(go_at_call 30;refine (pick_c hb hl _ (by omega) HM).mono ?_;rintro e W1 ⟨v,hp1,rfl,HM1⟩;obtain ⟨p1,rfl⟩ : ∃ k : Nat,v = k:=⟨v.toNat,(by omega)⟩;have hp1b : p1 < 3:=(by omega);refine ⟨_,rfl,?_⟩;replace HM:=HM1;clear HM1)))|refine l_nil ?_)|(refine gN ?_;refine x_back (by exact HM.drop.drop) ?_))
      refine x_pv HQ HS 10 rfl (by kernel_rfl) (by kernel_rfl) (l':=#[true,true,true,true,true,true,true,true,true,true,true,false,false,false]) (by kernel_rfl) rfl ?_
      refine gGP ?_;refine gp (p_indexo HM rfl (by first|with_reducible rfl|(simp only [List.length_set,List.length_append,List.length_cons,List.length_nil];omega)) rfl (by omega) (by (simp only [List.length_set,List.length_append,List.length_cons,List.length_nil];omega))) ?_
      refine x_one 11 (by kernel_rfl) rfl (l':=#[true,true,true,true,true,true,true,true,true,true,true,true,false,false]) (by kernel_rfl) (x_go ?_)
      repeat (first|(refine gGV ?_;refine gv (p_loado rfl rfl (by omega) (by (simp only [List.length_set,List.length_append,List.length_cons,List.length_nil];omega)) rfl) ?_)|(refine gL ?_;first|refine s_gv HM rfl ?_|refine l_nil ?_)|(refine gN ?_;refine x_back (by exact HM.drop.drop) ?_))
      refine x_pv HQ HS 12 rfl (by kernel_rfl) (by kernel_rfl) (l':=#[true,true,true,true,true,true,true,true,true,true,true,true,true,false]) (by kernel_rfl) rfl ?_
      refine gGP ?_;refine gp (p_field rfl (by simp only [Nat.reduceAdd];rfl)) ?_
      refine x_last 13 (by kernel_rfl) rfl (l':=#[true,true,true,true,true,true,true,true,true,true,true,true,true,true]) (by kernel_rfl) (by kernel_rfl) rfl ?_
      repeat (first|(refine gGV ?_;refine gv (p_loads rfl) ?_)|(refine gL ?_;first|refine s_gv HM rfl ?_|(refine gStore ?_;(refine s_store HM rfl rfl rfl rfl ?_;clear HM;intro W1 HM))|refine l_nil ?_)|(refine gC ?_;first|refine c_seq ?_|refine c_region ?_|refine c_ret ?_)|(refine gN ?_;refine n_then ?_))
      have hr3:=hr2 (p1 : Int)
      exact ret_cell HM rfl rfl rfl ⟨p,rd tInt [-1,(ss.length : Int),(ss.length : Int) + 1] (p1 : Int),ss,A5,c5,⟨by omega,by first|omega|(simp only [List.length_append,List.length_cons,List.length_nil];omega),by intro hk;first|exact hk|omega⟩,rfl,(HM.rdr_to (g:=gr) (q':=q + 10) (by omega)).sb⟩
    · repeat (first|(refine gL ?_;first|(refine gCall ?_;(refine s_fn rfl rfl ?_;(go_at_call 30;refine (pick_c hb hl _ (by omega) HM).mono ?_;rintro e W1 ⟨v,hp1,rfl,HM1⟩;obtain ⟨p1,rfl⟩ : ∃ k : Nat,v = k:=⟨v.toNat,(by omega)⟩;have hp1b : p1 < 3:=(by omega);refine ⟨_,rfl,?_⟩;replace HM:=HM1;clear HM1)))|refine l_nil ?_)|(refine gN ?_;refine x_back (by exact HM.drop) ?_))
      refine x_one 7 (by kernel_rfl) rfl (l':=#[true,true,true,true,true,true,true,true,true,true,false,false,false,false]) (by kernel_rfl) (x_go ?_)
      repeat (first|(refine gL ?_;refine s_litk (D:=tInt) (fun n=>.int .i64 n) (fun _=>rfl) (fun _=>rfl) (fun _=>rfl) rfl [-1,(ss.length : Int),(ss.length : Int) + 1] HM rfl rfl (by simp) (by simp) ?_;clear HM;intro g W1 HM)|(refine gL ?_;refine l_nil ?_)|(refine gN ?_;refine x_back (by exact HM.drop.drop) ?_))
      refine x_pv HQ HS 10 rfl (by kernel_rfl) (by kernel_rfl) (l':=#[true,true,true,true,true,true,true,true,true,true,true,false,false,false]) (by kernel_rfl) rfl ?_
      refine gGP ?_;refine gp (p_indexo HM rfl (by first|with_reducible rfl|(simp only [List.length_set,List.length_append,List.length_cons,List.length_nil];omega)) rfl (by omega) (by (simp only [List.length_set,List.length_append,List.length_cons,List.length_nil];omega))) ?_
      refine x_one 11 (by kernel_rfl) rfl (l':=#[true,true,true,true,true,true,true,true,true,true,true,true,false,false]) (by kernel_rfl) (x_go ?_)
      repeat (first|(refine gGV ?_;refine gv (p_loado rfl rfl (by omega) (by (simp only [List.length_set,List.length_append,List.length_cons,List.length_nil];omega)) rfl) ?_)|(refine gL ?_;first|refine s_gv HM rfl ?_|refine l_nil ?_)|(refine gN ?_;refine x_back (by exact HM.drop.drop) ?_))
      refine x_pv HQ HS 12 rfl (by kernel_rfl) (by kernel_rfl) (l':=#[true,true,true,true,true,true,true,true,true,true,true,true,true,false]) (by kernel_rfl) rfl ?_
      refine gGP ?_;refine gp (p_field rfl (by simp only [Nat.reduceAdd];rfl)) ?_
      refine x_last 13 (by kernel_rfl) rfl (l':=#[true,true,true,true,true,true,true,true,true,true,true,true,true,true]) (by kernel_rfl) (by kernel_rfl) rfl ?_
      repeat (first|(refine gGV ?_;refine gv (p_loads rfl) ?_)|(refine gL ?_;first|refine s_gv HM rfl ?_|(refine gStore ?_;(refine s_store HM rfl rfl rfl rfl ?_;clear HM;intro W1 HM))|refine l_nil ?_)|(refine gC ?_;first|refine c_seq ?_|refine c_region ?_|refine c_ret ?_)|(refine gN ?_;refine n_then ?_))
      have hr3:=hr2 (p1 : Int)
      exact ret_cell HM rfl rfl rfl ⟨p,rd tInt [-1,(ss.length : Int),(ss.length : Int) + 1] (p1 : Int),ss,A5,c5,⟨by omega,by first|omega|(simp only [List.length_append,List.length_cons,List.length_nil];omega),by intro hk;first|exact hk|omega⟩,rfl,(HM.rdr_to (g:=gr) (q':=q + 10) (by omega)).sb⟩
  by_cases p02 : p0 = 2
  · subst p02
    have HM2:=HM.rdr_first (g:=gr)
    have HM3:=HM2.pk (A:=own tSlot 29 A5 c5 ss)
    clear HM HM2
    have HM:=HM3
    clear HM3
    repeat (first|(refine gGP ?_;first|refine gp (p_assign rfl) ?_|(refine gGB ?_;refine gp (p_eql rfl rfl) ?_))|(refine gL ?_;first|refine s_gp rfl rfl ?_|refine l_nil ?_)|(refine gC ?_;first|refine c_seq ?_|refine c_region ?_|refine c_yes rfl (by rfl) ?_|refine c_no rfl (by rfl) ?_)|(refine gN ?_;refine n_then ?_))
    refine gR ?_
    refine x_start (ds:=[11]) HM (fun w hw=>hw.drop.drop) (by kernel_rfl) (by kernel_rfl) (by repeat (first|exact qp_body|refine qp_then ?_|refine qp_block ?_)) ?_
    intro HQ HS W1 HM1;replace HM:=HM1;clear HM1
    refine x_pv HQ HS 0 rfl (by kernel_rfl) (by kernel_rfl) (l':=#[true,false,false,false,false,false,false,false,false,false,false,false]) (by kernel_rfl) rfl ?_
    refine gGP ?_;refine gp (p_field rfl (by simp only [Nat.reduceAdd];rfl)) ?_
    refine x_pv HQ HS 3 rfl (by kernel_rfl) (by kernel_rfl) (l':=#[true,false,false,true,false,false,false,false,false,false,false,false]) (by kernel_rfl) rfl ?_
    refine gGP ?_;refine gp (p_move rfl) ?_
    refine x_ld HQ HS 1 rfl (by kernel_rfl) (by kernel_rfl) (by kernel_rfl) (by kernel_rfl) (l':=#[true,true,false,true,false,false,false,false,false,false,false,false]) (by kernel_rfl) rfl ?_
    refine gGV ?_;refine gv (p_load rfl) ?_
    refine x_two 2 4 (by kernel_rfl) rfl rfl (l':=#[true,true,true,true,false,false,false,false,false,false,false,false]) (l'':=#[true,true,false,true,true,false,false,false,false,false,false,false]) (by kernel_rfl) (by kernel_rfl) (x_go ?_) (x_go ?_)
    · repeat (first|(refine gL ?_;refine s_litk (D:=tStr) (fun n=>.string n) (fun _=>rfl) (fun _=>rfl) (fun _=>rfl) rfl [⟨#[120]⟩,⟨#[]⟩] HM rfl rfl (by simp) (by simp) ?_;clear HM;intro g W1 HM)|(refine gL ?_;refine l_nil ?_)|(refine gN ?_;refine x_back (by (show Mem _ _ _;exact HM.sb)) ?_))
      refine x_one 4 (by kernel_rfl) rfl (l':=#[true,true,true,true,true,false,false,false,false,false,false,false]) (by kernel_rfl) (x_go ?_)
      repeat (first|(refine gL ?_;first|(refine gCall ?_;(refine s_fn rfl rfl ?_;(go_at_call 30;refine (pick_c hb hl _ (by omega) HM).mono ?_;rintro e W1 ⟨v,hp1,rfl,HM1⟩;obtain ⟨p1,rfl⟩ : ∃ k : Nat,v = k:=⟨v.toNat,(by omega)⟩;have hp1b : p1 < 2:=(by omega);refine ⟨_,rfl,?_⟩;replace HM:=HM1;clear HM1)))|refine l_nil ?_)|(refine gN ?_;refine x_back (by (show Mem _ _ _;exact HM.sb)) ?_))
      refine x_pv HQ HS 5 rfl (by kernel_rfl) (by kernel_rfl) (l':=#[true,true,true,true,true,true,false,false,false,false,false,false]) (by kernel_rfl) rfl ?_
      refine gGP ?_;refine gp (p_indexo HM rfl (by first|with_reducible rfl|(simp only [List.length_set,List.length_append,List.length_cons,List.length_nil];omega)) rfl (by omega) (by (simp only [List.length_set,List.length_append,List.length_cons,List.length_nil];omega))) ?_
      refine x_one 6 (by kernel_rfl) rfl (l':=#[true,true,true,true,true,true,true,false,false,false,false,false]) (by kernel_rfl) (x_go ?_)
      repeat (first|(refine gGV ?_;refine gv (p_loado rfl rfl (by omega) (by (simp only [List.length_set,List.length_append,List.length_cons,List.length_nil];omega)) rfl) ?_)|(refine gL ?_;first|refine s_gv HM rfl ?_|refine l_nil ?_)|(refine gN ?_;refine x_back (by (show Mem _ _ _;exact HM.sb)) ?_))
      refine x_one 7 (by kernel_rfl) rfl (l':=#[true,true,true,true,true,true,true,true,false,false,false,false]) (by kernel_rfl) (x_go ?_)
      repeat (first|(refine gGP ?_;refine gp (p_build rfl) ?_)|(refine gL ?_;first|refine s_gp rfl rfl ?_|refine l_nil ?_)|(refine gN ?_;refine x_back (by (show Mem _ _ _;exact HM.sb)) ?_))
      refine x_one 8 (by kernel_rfl) rfl (l':=#[true,true,true,true,true,true,true,true,true,false,false,false]) (by kernel_rfl) (x_go ?_)
      repeat (first|(refine gL ?_;first|(refine s_lit1 HM rfl rfl rfl ?_;clear HM;intro g W1 HM)|refine l_nil ?_)|(refine gN ?_;refine x_back (by (show Mem _ _ _;exact HM.sb)) ?_))
      refine x_one 9 (by kernel_rfl) rfl (l':=#[true,true,true,true,true,true,true,true,true,true,false,false]) (by kernel_rfl) (x_go ?_)
      repeat (first|(refine gL ?_;first|(refine gCall ?_;(refine s_append1 HM rfl rfl (by first|with_reducible rfl|omega) rfl rfl (by omega) rfl ?_;intro A1 c1 W1 HM1;replace HM:=HM1;clear HM1))|refine l_nil ?_)|(refine gN ?_;refine x_back (by (show Mem _ _ _;exact HM.sb)) ?_))
      refine x_pv HQ HS 10 rfl (by kernel_rfl) (by kernel_rfl) (l':=#[true,true,true,true,true,true,true,true,true,true,true,false]) (by kernel_rfl) rfl ?_
      refine gGP ?_;refine gp (p_field rfl (by simp only [Nat.reduceAdd];rfl)) ?_
      refine x_last 11 (by kernel_rfl) rfl (l':=#[true,true,true,true,true,true,true,true,true,true,true,true]) (by kernel_rfl) (by kernel_rfl) rfl ?_
      repeat (first|(refine gGV ?_;refine gv (p_loads rfl) ?_)|(refine gL ?_;first|refine s_gv HM rfl ?_|(refine gStore ?_;(refine s_store HM rfl rfl rfl rfl ?_;clear HM;intro W1 HM))|refine l_nil ?_)|(refine gC ?_;first|refine c_seq ?_|refine c_region ?_|refine c_ret ?_)|(refine gN ?_;refine n_then ?_))
      exact ret_cell HM rfl rfl rfl ⟨p,k,ss ++ [_],A1,c1,⟨by omega,by first|omega|(simp only [List.length_append,List.length_cons,List.length_nil];omega),by intro hk;first|exact hk|omega⟩,rfl,(HM.rdr_to (g:=gr) (q':=q + 10) (by omega)).sb⟩
    · repeat (first|(refine gL ?_;first|(refine gCall ?_;(refine s_fn rfl rfl ?_;(go_at_call 30;refine (pick_c hb hl _ (by omega) HM).mono ?_;rintro e W1 ⟨v,hp1,rfl,HM1⟩;obtain ⟨p1,rfl⟩ : ∃ k : Nat,v = k:=⟨v.toNat,(by omega)⟩;have hp1b : p1 < 2:=(by omega);refine ⟨_,rfl,?_⟩;replace HM:=HM1;clear HM1)))|refine l_nil ?_)|(refine gN ?_;refine x_back (by exact HM.drop.drop) ?_))
      refine x_one 2 (by kernel_rfl) rfl (l':=#[true,true,true,true,true,false,false,false,false,false,false,false]) (by kernel_rfl) (x_go ?_)
      repeat (first|(refine gL ?_;refine s_litk (D:=tStr) (fun n=>.string n) (fun _=>rfl) (fun _=>rfl) (fun _=>rfl) rfl [⟨#[120]⟩,⟨#[]⟩] HM rfl rfl (by simp) (by simp) ?_;clear HM;intro g W1 HM)|(refine gL ?_;refine l_nil ?_)|(refine gN ?_;refine x_back (by (show Mem _ _ _;exact HM.sb)) ?_))
      refine x_pv HQ HS 5 rfl (by kernel_rfl) (by kernel_rfl) (l':=#[true,true,true,true,true,true,false,false,false,false,false,false]) (by kernel_rfl) rfl ?_
      refine gGP ?_;refine gp (p_indexo HM rfl (by first|with_reducible rfl|(simp only [List.length_set,List.length_append,List.length_cons,List.length_nil];omega)) rfl (by omega) (by (simp only [List.length_set,List.length_append,List.length_cons,List.length_nil];omega))) ?_
      refine x_one 6 (by kernel_rfl) rfl (l':=#[true,true,true,true,true,true,true,false,false,false,false,false]) (by kernel_rfl) (x_go ?_)
      repeat (first|(refine gGV ?_;refine gv (p_loado rfl rfl (by omega) (by (simp only [List.length_set,List.length_append,List.length_cons,List.length_nil];omega)) rfl) ?_)|(refine gL ?_;first|refine s_gv HM rfl ?_|refine l_nil ?_)|(refine gN ?_;refine x_back (by (show Mem _ _ _;exact HM.sb)) ?_))
      refine x_one 7 (by kernel_rfl) rfl (l':=#[true,true,true,true,true,true,true,true,false,false,false,false]) (by kernel_rfl) (x_go ?_)
      repeat (first|(refine gGP ?_;refine gp (p_build rfl) ?_)|(refine gL ?_;first|refine s_gp rfl rfl ?_|refine l_nil ?_)|(refine gN ?_;refine x_back (by (show Mem _ _ _;exact HM.sb)) ?_))
      refine x_one 8 (by kernel_rfl) rfl (l':=#[true,true,true,true,true,true,true,true,true,false,false,false]) (by kernel_rfl) (x_go ?_)
      repeat (first|(refine gL ?_;first|(refine s_lit1 HM rfl rfl rfl ?_;clear HM;intro g W1 HM)|refine l_nil ?_)|(refine gN ?_;refine x_back (by (show Mem _ _ _;exact HM.sb)) ?_))
      refine x_one 9 (by kernel_rfl) rfl (l':=#[true,true,true,true,true,true,true,true,true,true,false,false]) (by kernel_rfl) (x_go ?_)
      repeat (first|(refine gL ?_;first|(refine gCall ?_;(refine s_append1 HM rfl rfl (by first|with_reducible rfl|omega) rfl rfl (by omega) rfl ?_;intro A1 c1 W1 HM1;replace HM:=HM1;clear HM1))|refine l_nil ?_)|(refine gN ?_;refine x_back (by (show Mem _ _ _;exact HM.sb)) ?_))
      refine x_pv HQ HS 10 rfl (by kernel_rfl) (by kernel_rfl) (l':=#[true,true,true,true,true,true,true,true,true,true,true,false]) (by kernel_rfl) rfl ?_
      refine gGP ?_;refine gp (p_field rfl (by simp only [Nat.reduceAdd];rfl)) ?_
      refine x_last 11 (by kernel_rfl) rfl (l':=#[true,true,true,true,true,true,true,true,true,true,true,true]) (by kernel_rfl) (by kernel_rfl) rfl ?_
      repeat (first|(refine gGV ?_;refine gv (p_loads rfl) ?_)|(refine gL ?_;first|refine s_gv HM rfl ?_|(refine gStore ?_;(refine s_store HM rfl rfl rfl rfl ?_;clear HM;intro W1 HM))|refine l_nil ?_)|(refine gC ?_;first|refine c_seq ?_|refine c_region ?_|refine c_ret ?_)|(refine gN ?_;refine n_then ?_))
      exact ret_cell HM rfl rfl rfl ⟨p,k,ss ++ [_],A1,c1,⟨by omega,by first|omega|(simp only [List.length_append,List.length_cons,List.length_nil];omega),by intro hk;first|exact hk|omega⟩,rfl,(HM.rdr_to (g:=gr) (q':=q + 10) (by omega)).sb⟩
  by_cases p03 : p0 = 3
  · subst p03
    have HM2:=HM.rdr_first (g:=gr)
    have HM3:=HM2.pk (A:=own tSlot 29 A5 c5 ss)
    clear HM HM2
    have HM:=HM3
    clear HM3
    repeat (first|(refine gGP ?_;first|refine gp (p_assign rfl) ?_|(refine gGB ?_;refine gp (p_eql rfl rfl) ?_))|(refine gL ?_;first|refine s_gp rfl rfl ?_|refine l_nil ?_)|(refine gC ?_;first|refine c_seq ?_|refine c_region ?_|refine c_yes rfl (by rfl) ?_|refine c_no rfl (by rfl) ?_)|(refine gN ?_;refine n_then ?_))
    refine gR ?_
    refine x_start (ds:=[16]) HM (fun w hw=>hw.drop.drop) (by kernel_rfl) (by kernel_rfl) (by repeat (first|exact qp_body|refine qp_then ?_|refine qp_block ?_)) ?_
    intro HQ HS W1 HM1;replace HM:=HM1;clear HM1
    refine x_pv HQ HS 0 rfl (by kernel_rfl) (by kernel_rfl) (l':=#[true,false,false,false,false,false,false,false,false,false,false,false,false,false,false,false,false]) (by kernel_rfl) rfl ?_
    refine gGP ?_;refine gp (p_field rfl (by simp only [Nat.reduceAdd];rfl)) ?_
    refine x_pv HQ HS 2 rfl (by kernel_rfl) (by kernel_rfl) (l':=#[true,false,true,false,false,false,false,false,false,false,false,false,false,false,false,false,false]) (by kernel_rfl) rfl ?_
    refine gGP ?_;refine gp (p_field rfl (by simp only [Nat.reduceAdd];rfl)) ?_
    refine x_pv HQ HS 4 rfl (by kernel_rfl) (by kernel_rfl) (l':=#[true,false,true,false,true,false,false,false,false,false,false,false,false,false,false,false,false]) (by kernel_rfl) rfl ?_
    refine gGP ?_;refine gp (p_field rfl (by simp only [Nat.reduceAdd];rfl)) ?_
    refine x_pv HQ HS 8 rfl (by kernel_rfl) (by kernel_rfl) (l':=#[true,false,true,false,true,false,false,false,true,false,false,false,false,false,false,false,false]) (by kernel_rfl) rfl ?_
    refine gGP ?_;refine gp (p_move rfl) ?_
    refine x_ld HQ HS 1 rfl (by kernel_rfl) (by kernel_rfl) (by kernel_rfl) (by kernel_rfl) (l':=#[true,true,true,false,true,false,false,false,true,false,false,false,false,false,false,false,false]) (by kernel_rfl) rfl ?_
    refine gGV ?_;refine gv (p_load rfl) ?_
    refine x_ld HQ HS 3 rfl (by kernel_rfl) (by kernel_rfl) (by kernel_rfl) (by kernel_rfl) (l':=#[true,true,true,true,true,false,false,false,true,false,false,false,false,false,false,false,false]) (by kernel_rfl) rfl ?_
    refine gGV ?_;refine gv (p_load rfl) ?_
    refine x_ld HQ HS 5 rfl (by kernel_rfl) (by kernel_rfl) (by kernel_rfl) (by kernel_rfl) (l':=#[true,true,true,true,true,true,false,false,true,false,false,false,false,false,false,false,false]) (by kernel_rfl) rfl ?_
    refine gGV ?_;refine gv (p_load rfl) ?_
    refine x_pv HQ HS 6 rfl (by kernel_rfl) (by kernel_rfl) (l':=#[true,true,true,true,true,true,true,false,true,false,false,false,false,false,false,false,false]) (by kernel_rfl) rfl ?_
    refine gGP ?_;(refine gGB ?_;refine gp (p_add rfl rfl (by exact wr (by omega) (by omega))) ?_)
    refine x_two 7 9 (by kernel_rfl) rfl rfl (l':=#[true,true,true,true,true,true,true,true,true,false,false,false,false,false,false,false,false]) (l'':=#[true,true,true,true,true,true,true,false,true,true,false,false,false,false,false,false,false]) (by kernel_rfl) (by kernel_rfl) (x_go ?_) (x_go ?_)
    · repeat (first|(refine gL ?_;refine s_litk (D:=tInt) (fun n=>.int .i64 n) (fun _=>rfl) (fun _=>rfl) (fun _=>rfl) rfl [-1,p,p + 1] HM rfl rfl (by simp) (by simp) ?_;clear HM;intro g W1 HM)|(refine gL ?_;refine l_nil ?_)|(refine gN ?_;refine x_back (by (show Mem _ _ _;exact HM.sb)) ?_))
      refine x_one 9 (by kernel_rfl) rfl (l':=#[true,true,true,true,true,true,true,true,true,true,false,false,false,false,false,false,false]) (by kernel_rfl) (x_go ?_)
      repeat (first|(refine gL ?_;first|(refine gCall ?_;(refine s_fn rfl rfl ?_;(go_at_call 30;refine (pick_c hb hl _ (by omega) HM).mono ?_;rintro e W1 ⟨v,hp1,rfl,HM1⟩;obtain ⟨p1,rfl⟩ : ∃ k : Nat,v = k:=⟨v.toNat,(by omega)⟩;have hp1b : p1 < 3:=(by omega);refine ⟨_,rfl,?_⟩;replace HM:=HM1;clear HM1)))|refine l_nil ?_)|(refine gN ?_;refine x_back (by (show Mem _ _ _;exact HM.sb)) ?_))
      refine x_pv HQ HS 10 rfl (by kernel_rfl) (by kernel_rfl) (l':=#[true,true,true,true,true,true,true,true,true,true,true,false,false,false,false,false,false]) (by kernel_rfl) rfl ?_
      refine gGP ?_;refine gp (p_indexo HM rfl (by first|with_reducible rfl|(simp only [List.length_set,List.length_append,List.length_cons,List.length_nil];omega)) rfl (by omega) (by (simp only [List.length_set,List.length_append,List.length_cons,List.length_nil];omega))) ?_
      refine x_one 11 (by kernel_rfl) rfl (l':=#[true,true,true,true,true,true,true,true,true,true,true,true,false,false,false,false,false]) (by kernel_rfl) (x_go ?_)
      repeat (first|(refine gGV ?_;refine gv (p_loado rfl rfl (by omega) (by (simp only [List.length_set,List.length_append,List.length_cons,List.length_nil];omega)) rfl) ?_)|(refine gL ?_;first|refine s_gv HM rfl ?_|refine l_nil ?_)|(refine gN ?_;refine x_back (by (show Mem _ _ _;exact HM.sb)) ?_))
      refine x_one 12 (by kernel_rfl) rfl (l':=#[true,true,true,true,true,true,true,true,true,true,true,true,true,false,false,false,false]) (by kernel_rfl) (x_go ?_)
      repeat (first|(refine gGP ?_;refine gp (p_build rfl) ?_)|(refine gL ?_;first|refine s_gp rfl rfl ?_|refine l_nil ?_)|(refine gN ?_;refine x_back (by (show Mem _ _ _;exact HM.sb)) ?_))
      refine x_one 13 (by kernel_rfl) rfl (l':=#[true,true,true,true,true,true,true,true,true,true,true,true,true,true,false,false,false]) (by kernel_rfl) (x_go ?_)
      repeat (first|(refine gL ?_;first|(refine s_lit1 HM rfl rfl rfl ?_;clear HM;intro g W1 HM)|refine l_nil ?_)|(refine gN ?_;refine x_back (by (show Mem _ _ _;exact HM.sb)) ?_))
      refine x_one 14 (by kernel_rfl) rfl (l':=#[true,true,true,true,true,true,true,true,true,true,true,true,true,true,true,false,false]) (by kernel_rfl) (x_go ?_)
      repeat (first|(refine gL ?_;first|(refine gCall ?_;(refine s_append1 HM rfl rfl (by first|with_reducible rfl|omega) rfl rfl (by omega) rfl ?_;intro A1 c1 W1 HM1;replace HM:=HM1;clear HM1))|refine l_nil ?_)|(refine gN ?_;refine x_back (by (show Mem _ _ _;exact HM.sb)) ?_))
      refine x_pv HQ HS 15 rfl (by kernel_rfl) (by kernel_rfl) (l':=#[true,true,true,true,true,true,true,true,true,true,true,true,true,true,true,true,false]) (by kernel_rfl) rfl ?_
      refine gGP ?_;refine gp (p_field rfl (by simp only [Nat.reduceAdd];rfl)) ?_
      refine x_last 16 (by kernel_rfl) rfl (l':=#[true,true,true,true,true,true,true,true,true,true,true,true,true,true,true,true,true]) (by kernel_rfl) (by kernel_rfl) rfl ?_
      repeat (first|(refine gGV ?_;refine gv (p_loads rfl) ?_)|(refine gL ?_;first|refine s_gv HM rfl ?_|(refine gStore ?_;(refine s_store HM rfl rfl rfl rfl ?_;clear HM;intro W1 HM))|refine l_nil ?_)|(refine gC ?_;first|refine c_seq ?_|refine c_region ?_|refine c_ret ?_)|(refine gN ?_;refine n_then ?_))
      exact ret_cell HM rfl rfl rfl ⟨p,k,ss ++ [_],A1,c1,⟨by omega,by first|omega|(simp only [List.length_append,List.length_cons,List.length_nil];omega),by intro hk;first|exact hk|omega⟩,rfl,(HM.rdr_to (g:=gr) (q':=q + 10) (by omega)).sb⟩
    · repeat (first|(refine gL ?_;first|(refine gCall ?_;(refine s_fn rfl rfl ?_;(go_at_call 30;refine (pick_c hb hl _ (by omega) HM).mono ?_;rintro e W1 ⟨v,hp1,rfl,HM1⟩;obtain ⟨p1,rfl⟩ : ∃ k : Nat,v = k:=⟨v.toNat,(by omega)⟩;have hp1b : p1 < 3:=(by omega);refine ⟨_,rfl,?_⟩;replace HM:=HM1;clear HM1)))|refine l_nil ?_)|(refine gN ?_;refine x_back (by exact HM.drop.drop) ?_))
      refine x_one 7 (by kernel_rfl) rfl (l':=#[true,true,true,true,true,true,true,true,true,true,false,false,false,false,false,false,false]) (by kernel_rfl) (x_go ?_)
      repeat (first|(refine gL ?_;refine s_litk (D:=tInt) (fun n=>.int .i64 n) (fun _=>rfl) (fun _=>rfl) (fun _=>rfl) rfl [-1,p,p + 1] HM rfl rfl (by simp) (by simp) ?_;clear HM;intro g W1 HM)|(refine gL ?_;refine l_nil ?_)|(refine gN ?_;refine x_back (by (show Mem _ _ _;exact HM.sb)) ?_))
      refine x_pv HQ HS 10 rfl (by kernel_rfl) (by kernel_rfl) (l':=#[true,true,true,true,true,true,true,true,true,true,true,false,false,false,false,false,false]) (by kernel_rfl) rfl ?_
      refine gGP ?_;refine gp (p_indexo HM rfl (by first|with_reducible rfl|(simp only [List.length_set,List.length_append,List.length_cons,List.length_nil];omega)) rfl (by omega) (by (simp only [List.length_set,List.length_append,List.length_cons,List.length_nil];omega))) ?_
      refine x_one 11 (by kernel_rfl) rfl (l':=#[true,true,true,true,true,true,true,true,true,true,true,true,false,false,false,false,false]) (by kernel_rfl) (x_go ?_)
      repeat (first|(refine gGV ?_;refine gv (p_loado rfl rfl (by omega) (by (simp only [List.length_set,List.length_append,List.length_cons,List.length_nil];omega)) rfl) ?_)|(refine gL ?_;first|refine s_gv HM rfl ?_|refine l_nil ?_)|(refine gN ?_;refine x_back (by (show Mem _ _ _;exact HM.sb)) ?_))
      refine x_one 12 (by kernel_rfl) rfl (l':=#[true,true,true,true,true,true,true,true,true,true,true,true,true,false,false,false,false]) (by kernel_rfl) (x_go ?_)
      repeat (first|(refine gGP ?_;refine gp (p_build rfl) ?_)|(refine gL ?_;first|refine s_gp rfl rfl ?_|refine l_nil ?_)|(refine gN ?_;refine x_back (by (show Mem _ _ _;exact HM.sb)) ?_))
      refine x_one 13 (by kernel_rfl) rfl (l':=#[true,true,true,true,true,true,true,true,true,true,true,true,true,true,false,false,false]) (by kernel_rfl) (x_go ?_)
      repeat (first|(refine gL ?_;first|(refine s_lit1 HM rfl rfl rfl ?_;clear HM;intro g W1 HM)|refine l_nil ?_)|(refine gN ?_;refine x_back (by (show Mem _ _ _;exact HM.sb)) ?_))
      refine x_one 14 (by kernel_rfl) rfl (l':=#[true,true,true,true,true,true,true,true,true,true,true,true,true,true,true,false,false]) (by kernel_rfl) (x_go ?_)
      repeat (first|(refine gL ?_;first|(refine gCall ?_;(refine s_append1 HM rfl rfl (by first|with_reducible rfl|omega) rfl rfl (by omega) rfl ?_;intro A1 c1 W1 HM1;replace HM:=HM1;clear HM1))|refine l_nil ?_)|(refine gN ?_;refine x_back (by (show Mem _ _ _;exact HM.sb)) ?_))
      refine x_pv HQ HS 15 rfl (by kernel_rfl) (by kernel_rfl) (l':=#[true,true,true,true,true,true,true,true,true,true,true,true,true,true,true,true,false]) (by kernel_rfl) rfl ?_
      refine gGP ?_;refine gp (p_field rfl (by simp only [Nat.reduceAdd];rfl)) ?_
      refine x_last 16 (by kernel_rfl) rfl (l':=#[true,true,true,true,true,true,true,true,true,true,true,true,true,true,true,true,true]) (by kernel_rfl) (by kernel_rfl) rfl ?_
      repeat (first|(refine gGV ?_;refine gv (p_loads rfl) ?_)|(refine gL ?_;first|refine s_gv HM rfl ?_|(refine gStore ?_;(refine s_store HM rfl rfl rfl rfl ?_;clear HM;intro W1 HM))|refine l_nil ?_)|(refine gC ?_;first|refine c_seq ?_|refine c_region ?_|refine c_ret ?_)|(refine gN ?_;refine n_then ?_))
      exact ret_cell HM rfl rfl rfl ⟨p,k,ss ++ [_],A1,c1,⟨by omega,by first|omega|(simp only [List.length_append,List.length_cons,List.length_nil];omega),by intro hk;first|exact hk|omega⟩,rfl,(HM.rdr_to (g:=gr) (q':=q + 10) (by omega)).sb⟩
  by_cases p04 : p0 = 4
  · subst p04
    repeat (first|(refine gGP ?_;first|refine gp (p_move rfl) ?_|refine gp (p_assign rfl) ?_|(refine gGB ?_;first|refine gp (p_eql rfl rfl) ?_|refine gp (p_add rfl rfl (by exact wr (by omega) (by omega))) ?_))|(refine gL ?_;first|refine s_gp rfl rfl ?_|(refine gCall ?_;(refine s_fn rfl rfl ?_;(go_at_call 30;refine (pick_c hb hl _ (by omega) HM).mono ?_;rintro e W1 ⟨v,hp1,rfl,HM1⟩;obtain ⟨p1,rfl⟩ : ∃ k : Nat,v = k:=⟨v.toNat,(by omega)⟩;have hp1b : p1 < 2:=(by omega);refine ⟨_,rfl,?_⟩;replace HM:=HM1;clear HM1)))|refine l_nil ?_)|(refine gC ?_;first|refine c_seq ?_|refine c_region ?_|refine c_block ?_|refine c_yes rfl (by rfl) ?_|refine c_no rfl (by rfl) ?_)|(refine gN ?_;refine n_then ?_))
    rename_i g3 Wa gz Wb Wc Wd We Wf
    refine c_loop2 (σ:=List Slot) (fun s A c=>[(4,.pointer (some ⟨gz,0,none⟩)),(5,.pointer (some ⟨g,0,none⟩)),(6,.int .i64 (60 + (p1 : Int)))]) (fun s A' c' W1=>s.length ≤ 61 ∧ Mem w0 W1 (box gz 34 [.int .i64 0,.int .i64 0,.slice none 0 0] :: box g 34 [.int .i64 p,.int .i64 k,.slice A' s.length c'] :: own tSlot 29 A' c' s :: rdr A bs.length c (q + 10) gr :: R)) (fun s=>62 - s.length) ss A5 c5 (by repeat (first|exact trivial|refine And.intro (by first|rfl|exact look_int rfl (by omega)) ?_)) ⟨by omega,(HM.rdr_to (g:=gr) (q':=q + 10) (by omega)).sb⟩ ?_
    clear HM
    rintro zs A6 c6 W1 ⟨hzl,HM⟩
    by_cases hlt : (zs.length : Int) < 60 + p1
    · repeat (first|(refine gGP ?_;first|refine gp (p_move rfl) ?_|(refine gGB ?_;refine gp (p_lss rfl rfl) ?_)|refine gp (p_field rfl (by simp only [Nat.reduceAdd];rfl)) ?_|refine gp (p_len rfl) ?_|refine gp (p_build rfl) ?_)|(refine gGV ?_;refine gv (p_load rfl) ?_)|(refine gL ?_;first|refine s_gp rfl rfl ?_|refine s_gv HM rfl ?_|(refine gStore ?_;(refine s_store HM rfl rfl rfl rfl ?_;clear HM;intro W1 HM))|(refine gCall ?_;(refine s_append1 HM rfl rfl (by first|with_reducible rfl|omega) rfl rfl (by omega) rfl ?_;intro A1 c1 W1 HM1;replace HM:=HM1;clear HM1))|(refine s_lit1 HM rfl rfl rfl ?_;clear HM;intro g W1 HM)|refine l_nil ?_)|(refine gC ?_;first|refine c_seq ?_|refine c_region ?_|refine c_block ?_|refine c_skip ?_|refine c_yes rfl (by (simp;omega)) ?_)|(refine gN ?_;first|refine n_then ?_|refine n_block ?_))
      exact n_round2 (zs ++ [⟨0,⟨#[]⟩⟩]) A1 c1 (by repeat (first|exact trivial|refine And.intro (by first|rfl|exact look_int rfl (by omega)) ?_)) ⟨by simp only [List.length_append,List.length_cons,List.length_nil];omega,HM.sb⟩ (by simp only [List.length_append,List.length_cons,List.length_nil];omega)
    · repeat (first|(refine gGP ?_;first|refine gp (p_move rfl) ?_|(refine gGB ?_;refine gp (p_lss rfl rfl) ?_)|refine gp (p_field rfl (by simp only [Nat.reduceAdd];rfl)) ?_|refine gp (p_len rfl) ?_)|(refine gGV ?_;first|refine gv (p_load rfl) ?_|refine gv (p_loads rfl) ?_)|(refine gL ?_;first|refine s_gp rfl rfl ?_|refine s_gv HM rfl ?_|(refine gStore ?_;(refine s_store HM rfl rfl rfl rfl ?_;clear HM;intro W1 HM))|refine l_nil ?_)|(refine gC ?_;first|refine c_seq ?_|refine c_region ?_|refine c_exit ?_|refine c_ret ?_|refine c_no rfl (by (simp;omega)) ?_)|(refine gN ?_;first|refine n_then ?_|refine n_block ?_|refine x_then ?_|refine x_here ?_))
      exact ret_cell HM rfl rfl rfl ⟨p,k,zs,A6,c6,⟨by omega,by omega,fun hk=>hk⟩,rfl,HM.sb⟩
  · obtain rfl : p0 = 5:=by omega
    have HM2:=HM.rdr_first (g:=gr)
    have HM3:=HM2.pk (A:=own tSlot 29 A5 c5 ss)
    clear HM HM2
    have HM:=HM3
    clear HM3
    repeat (first|(refine gGP ?_;first|refine gp (p_assign rfl) ?_|(refine gGB ?_;refine gp (p_eql rfl rfl) ?_))|(refine gL ?_;first|refine s_gp rfl rfl ?_|refine l_nil ?_)|(refine gC ?_;first|refine c_seq ?_|refine c_region ?_|refine c_no rfl (by rfl) ?_)|(refine gN ?_;refine n_then ?_))
    refine gR ?_
    refine x_start (ds:=[10]) HM (fun w hw=>hw.drop.drop) (by kernel_rfl) (by kernel_rfl) (by repeat (first|exact qp_body|refine qp_then ?_|refine qp_block ?_)) ?_
    intro HQ HS W1 HM1;replace HM:=HM1;clear HM1
    refine x_pv HQ HS 0 rfl (by kernel_rfl) (by kernel_rfl) (l':=#[true,false,false,false,false,false,false,false,false,false,false]) (by kernel_rfl) rfl ?_
    refine gGP ?_;refine gp (p_field rfl (by simp only [Nat.reduceAdd];rfl)) ?_
    refine x_pv HQ HS 2 rfl (by kernel_rfl) (by kernel_rfl) (l':=#[true,false,true,false,false,false,false,false,false,false,false]) (by kernel_rfl) rfl ?_
    refine gGP ?_;refine gp (p_move rfl) ?_
    refine x_ld HQ HS 1 rfl (by kernel_rfl) (by kernel_rfl) (by kernel_rfl) (by kernel_rfl) (l':=#[true,true,true,false,false,false,false,false,false,false,false]) (by kernel_rfl) rfl ?_
    refine gGV ?_;refine gv (p_load rfl) ?_
    refine x_one 3 (by kernel_rfl) rfl (l':=#[true,true,true,true,false,false,false,false,false,false,false]) (by kernel_rfl) (x_go ?_)
    repeat (first|(refine gL ?_;first|(refine gCall ?_;(refine s_fn rfl rfl ?_;(go_at_call 30;refine (pick_c hb hl _ (by omega) HM).mono ?_;rintro e W1 ⟨v,hp1,rfl,HM1⟩;obtain ⟨p1,rfl⟩ : ∃ k : Nat,v = k:=⟨v.toNat,(by omega)⟩;have hp1b : p1 < 2:=(by omega);refine ⟨_,rfl,?_⟩;replace HM:=HM1;clear HM1)))|refine l_nil ?_)|(refine gN ?_;refine x_back (by exact HM.drop.drop) ?_))
    refine x_pv HQ HS 4 rfl (by kernel_rfl) (by kernel_rfl) (l':=#[true,true,true,true,true,false,false,false,false,false,false]) (by kernel_rfl) rfl ?_
    refine gGP ?_;(refine gGB ?_;refine gp (p_add rfl rfl (by exact wr (by omega) (by omega))) ?_)
    refine x_one 5 (by kernel_rfl) rfl (l':=#[true,true,true,true,true,true,false,false,false,false,false]) (by kernel_rfl) (x_go ?_)
    repeat (first|(refine gL ?_;first|(refine gCall ?_;(refine s_fn rfl rfl ?_;(go_at_call 37;refine (many_c ⟨#[116]⟩ _ (by omega) (by omega) (by decide) HM).mono ?_;rintro e W1 ⟨t,ht,rfl,HM1⟩;refine ⟨_,rfl,?_⟩;replace HM:=HM1;clear HM1)))|refine l_nil ?_)|(refine gN ?_;refine x_back (by exact HM.drop.drop) ?_))
    refine x_one 6 (by kernel_rfl) rfl (l':=#[true,true,true,true,true,true,true,false,false,false,false]) (by kernel_rfl) (x_go ?_)
    repeat (first|(refine gGP ?_;refine gp (p_build rfl) ?_)|(refine gL ?_;first|refine s_gp rfl rfl ?_|refine l_nil ?_)|(refine gN ?_;refine x_back (by exact HM.drop.drop) ?_))
    refine x_one 7 (by kernel_rfl) rfl (l':=#[true,true,true,true,true,true,true,true,false,false,false]) (by kernel_rfl) (x_go ?_)
    repeat (first|(refine gL ?_;first|(refine s_lit1 HM rfl rfl rfl ?_;clear HM;intro g W1 HM)|refine l_nil ?_)|(refine gN ?_;refine x_back (by (show Mem _ _ _;exact HM.sb)) ?_))
    refine x_one 8 (by kernel_rfl) rfl (l':=#[true,true,true,true,true,true,true,true,true,false,false]) (by kernel_rfl) (x_go ?_)
    repeat (first|(refine gL ?_;first|(refine gCall ?_;(refine s_append1 HM rfl rfl (by first|with_reducible rfl|omega) rfl rfl (by omega) rfl ?_;intro A1 c1 W1 HM1;replace HM:=HM1;clear HM1))|refine l_nil ?_)|(refine gN ?_;refine x_back (by exact HM.drop.drop) ?_))
    refine x_pv HQ HS 9 rfl (by kernel_rfl) (by kernel_rfl) (l':=#[true,true,true,true,true,true,true,true,true,true,false]) (by kernel_rfl) rfl ?_
    refine gGP ?_;refine gp (p_field rfl (by simp only [Nat.reduceAdd];rfl)) ?_
    refine x_last 10 (by kernel_rfl) rfl (l':=#[true,true,true,true,true,true,true,true,true,true,true]) (by kernel_rfl) (by kernel_rfl) rfl ?_
    repeat (first|(refine gGV ?_;refine gv (p_loads rfl) ?_)|(refine gL ?_;first|refine s_gv HM rfl ?_|(refine gStore ?_;(refine s_store HM rfl rfl rfl rfl ?_;clear HM;intro W1 HM))|refine l_nil ?_)|(refine gC ?_;first|refine c_seq ?_|refine c_region ?_|refine c_ret ?_)|(refine gN ?_;refine n_then ?_))
    exact ret_cell HM rfl rfl rfl ⟨p,k,ss ++ [_],A1,c1,⟨by omega,by first|omega|(simp only [List.length_append,List.length_cons,List.length_nil];omega),by intro hk;first|exact hk|omega⟩,rfl,(HM.rdr_to (g:=gr) (q':=q + 10) (by omega)).sb⟩
theorem vr_ballot {x : Rcd} (h : VR x) : 0 ≤ x.ballot ∧ x.ballot ≤ 1000000:=by
  by_cases hl : x.lead = true ∨ x.trying = true
  · have h1:=h.lead hl
    have h2:=h.disk.p1
    omega
  · have h1 : x.lead = false:=by cases e : x.lead <;> simp_all
    have h2 : x.trying = false:=by cases e : x.trying <;> simp_all
    rw [(h.quiet h1 h2).ballot];omega
structure Bd (x : Rcd) : Prop where
  of0 : 0 ≤ x.of ∧ x.of ≤ 6
  n0 : 0 ≤ x.number ∧ x.number ≤ 6
  p0 : -10 ≤ x.dp ∧ x.dp ≤ 2000001
  k0 : -10 ≤ x.dk ∧ x.dk ≤ 1000
  dsl : x.ds.length ≤ 62
  b0 : -10 ≤ x.ballot ∧ x.ballot ≤ 2000002
  wl : x.wishes.length ≤ 1000
theorem VR.bd {x : Rcd} (hv : VR x) : Bd x:=by
  have hdp0:=hv.disk.p0
  have hdp1:=hv.disk.p1
  have hdk0:=hv.disk.k0
  have hdk1:=hv.disk.k1
  have hds:=hv.disk.slots.1
  have hwl:=hv.wishes.len
  have hof1:=hv.of1
  have hof5:=hv.of5
  have hn1:=hv.n1
  have hno:=hv.no
  have hvb:=vr_ballot hv
  constructor <;> omega
end Go.Proofs.Ytampmicahnnebaa.Sp
