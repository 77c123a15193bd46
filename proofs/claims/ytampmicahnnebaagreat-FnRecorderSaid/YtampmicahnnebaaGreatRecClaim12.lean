/- Draws of events. No condition. -/
import Derived.Test.YtampmicahnnebaaGreatRecClaim11
import Derived.Test.YtampmicahnnebaaGreatRecClaim4
import Derived.Lib.AppendZerosOnto
import Derived.Lib.Overlaps
import Derived.Laws.IdiomCopy
import Derived.Test.YtampmicahnnebaaGreatRecClaim2
import Derived.Test.YtampmicahnnebaaGreatRecClaim6
import Derived.Test.YtampmicahnnebaaGreatRecClaim7
set_option linter.unusedVariables false
set_option linter.unusedSimpArgs false
namespace Go.Proofs.YtampmicahnnebaaGreat.Sp
open Go Go.RowKit
set_option maxRecDepth 10000
set_option maxHeartbeats 4000000
variable {w0 W : World} {L R : List Asn} {A : Option Addr} {c : Nat} {bs : List Int}
theorem Mem.rdr_to {n q q' g : Nat} [h : RdAt L A n c g q R] (hq : q ≤ q') (hm : Mem w0 W L) : Mem w0 W (rdr A n c q' g :: R):=(hm.perm h.out).rdr_up hq
theorem event_c {gr q : Nat} (hb : RoRow rByte w0 A bs) (hl : bs.length ≤ 2000) (n : Int) [hr : RdAt L A bs.length c gr q R] (hq : q ≤ 900000) (HM : Mem w0 W L) : Calls Tryz.prog 87 #[.pointer (some ⟨gr,0,none⟩),.int .i64 n] W fun e W'=>∃ (kd a : Int) (t : ByteArray),t.size ≤ 20 ∧ e = .returned (.agg #[.int .i64 kd,.int .i64 a,.string t]) ∧ Mem w0 W' (rdr A bs.length c (q + 6) gr :: R):=by
  refine enter Tryz.func87 rfl Tryz.ntmps87 [(0,_),(1,_)] rfl ⟨rfl,rfl,trivial⟩ ?_
  have hz : (⟨#[]⟩ : ByteArray).size ≤ 20:=by decide
  repeat' (first|refine Y ?_|(refine qs ?_;clear HM;intro W1 HM)|(refine qf ?_;first|(go_at_call 20;refine (pick_c hb hl _ (by omega) HM).mono ?_;rintro e W1 ⟨v,hv,rfl,HM1⟩;refine ⟨_,rfl,?_⟩;replace HM:=HM1;clear HM1)|(go_at_call 58;refine (text_c hb hl (by omega) HM).mono ?_;rintro e W1 ⟨t,ht,rfl,HM1⟩;refine ⟨_,rfl,?_⟩;replace HM:=HM1;clear HM1))|(refine qg ?_;clear HM;intro g W1 HM)|refine c_cond rfl (fun h=>?_) (fun h=>?_))
  all_goals exact ret_cell HM rfl rfl rfl ⟨_,_,_,by assumption,rfl,(HM.rdr_to (g:=gr) (q':=q + 6) (by omega)).sb⟩
end Go.Proofs.YtampmicahnnebaaGreat.Sp
namespace Go.Proofs.YtampmicahnnebaaGreat.Sp
open Go Go.RowKit
set_option maxRecDepth 10000
set_option maxHeartbeats 4000000
variable {w0 W : World} {L : List Asn}
theorem do_no2 (x : Wld) (i : AtW) (kd a : Int) (t : ByteArray) (hv : WP x) (ht : t.size ≤ 1048576) (hk : kd = 2) (hf : ¬ (0 ≤ a ∧ a < x.flight.length)) (HM : Mem w0 W (wldP x i ++ L)) : Calls Tryz.prog 86 #[.agg (encW x i).toArray,.agg #[.int .i64 kd,.int .i64 a,.string t]] W fun e W'=>∃ y j,(WP y ∧ y.recs.length = x.recs.length) ∧ e = .returned (.agg (encW y j).toArray) ∧ Mem w0 W' (wldP y j ++ L):=by
  refine enter Tryz.func86 rfl Tryz.ntmps86 [(0,.agg (encW x i).toArray),(1,.agg #[.int .i64 kd,.int .i64 a,.string t])] rfl ⟨rfl,rfl,trivial⟩ ?_
  obtain ⟨rs,fl,fx⟩:=x
  unfold encW
  simp only [wldP,List.cons_append,List.nil_append] at HM
  have hn5:=hv.n5
  have hfl6:=hv.fl
  have hmsg:=hv.msg
  dsimp only at *
  subst hk
  repeat (first|refine Y ?_|(refine qs ?_;clear HM;intro W1 HM)|(refine qf ?_;go_at_call 39;refine (l1In_c _ _ _ _).mono ?_;rintro e W1 ⟨rfl,rfl⟩;refine ⟨_,rfl,?_⟩)|(refine qg ?_;clear HM;intro g W1 HM))
  exact ret_cell HM rfl rfl rfl ⟨⟨rs,fl,fx⟩,i,⟨hv,rfl⟩,rfl,by simp only [wldP,List.cons_append,List.nil_append];exact HM.sb⟩
theorem do_no3 (x : Wld) (i : AtW) (kd a : Int) (t : ByteArray) (hv : WP x) (ht : t.size ≤ 1048576) (hk : kd = 3) (hf : ¬ (0 ≤ a ∧ a < x.flight.length)) (HM : Mem w0 W (wldP x i ++ L)) : Calls Tryz.prog 86 #[.agg (encW x i).toArray,.agg #[.int .i64 kd,.int .i64 a,.string t]] W fun e W'=>∃ y j,(WP y ∧ y.recs.length = x.recs.length) ∧ e = .returned (.agg (encW y j).toArray) ∧ Mem w0 W' (wldP y j ++ L):=by
  refine enter Tryz.func86 rfl Tryz.ntmps86 [(0,.agg (encW x i).toArray),(1,.agg #[.int .i64 kd,.int .i64 a,.string t])] rfl ⟨rfl,rfl,trivial⟩ ?_
  obtain ⟨rs,fl,fx⟩:=x
  unfold encW
  simp only [wldP,List.cons_append,List.nil_append] at HM
  have hn5:=hv.n5
  have hfl6:=hv.fl
  have hmsg:=hv.msg
  dsimp only at *
  subst hk
  repeat (first|refine Y ?_|(refine qs ?_;clear HM;intro W1 HM)|(refine qf ?_;go_at_call 39;refine (l1In_c _ _ _ _).mono ?_;rintro e W1 ⟨rfl,rfl⟩;refine ⟨_,rfl,?_⟩)|(refine qg ?_;clear HM;intro g W1 HM))
  exact ret_cell HM rfl rfl rfl ⟨⟨rs,fl,fx⟩,i,⟨hv,rfl⟩,rfl,by simp only [wldP,List.cons_append,List.nil_append];exact HM.sb⟩
theorem do_no4 (x : Wld) (i : AtW) (kd a : Int) (t : ByteArray) (hv : WP x) (ht : t.size ≤ 1048576) (hk : kd = 4) (hf : ¬ (0 ≤ a ∧ a < x.flight.length)) (HM : Mem w0 W (wldP x i ++ L)) : Calls Tryz.prog 86 #[.agg (encW x i).toArray,.agg #[.int .i64 kd,.int .i64 a,.string t]] W fun e W'=>∃ y j,(WP y ∧ y.recs.length = x.recs.length) ∧ e = .returned (.agg (encW y j).toArray) ∧ Mem w0 W' (wldP y j ++ L):=by
  refine enter Tryz.func86 rfl Tryz.ntmps86 [(0,.agg (encW x i).toArray),(1,.agg #[.int .i64 kd,.int .i64 a,.string t])] rfl ⟨rfl,rfl,trivial⟩ ?_
  obtain ⟨rs,fl,fx⟩:=x
  unfold encW
  simp only [wldP,List.cons_append,List.nil_append] at HM
  have hn5:=hv.n5
  have hfl6:=hv.fl
  have hmsg:=hv.msg
  dsimp only at *
  subst hk
  repeat (first|refine Y ?_|(refine qs ?_;clear HM;intro W1 HM)|(refine qf ?_;go_at_call 39;refine (l1In_c _ _ _ _).mono ?_;rintro e W1 ⟨rfl,rfl⟩;refine ⟨_,rfl,?_⟩)|(refine qg ?_;clear HM;intro g W1 HM))
  exact ret_cell HM rfl rfl rfl ⟨⟨rs,fl,fx⟩,i,⟨hv,rfl⟩,rfl,by simp only [wldP,List.cons_append,List.nil_append];exact HM.sb⟩
theorem do_no5 (x : Wld) (i : AtW) (kd a : Int) (t : ByteArray) (hv : WP x) (ht : t.size ≤ 1048576) (hk : kd = 5) (hf : ¬ (0 ≤ a ∧ a < x.recs.length)) (HM : Mem w0 W (wldP x i ++ L)) : Calls Tryz.prog 86 #[.agg (encW x i).toArray,.agg #[.int .i64 kd,.int .i64 a,.string t]] W fun e W'=>∃ y j,(WP y ∧ y.recs.length = x.recs.length) ∧ e = .returned (.agg (encW y j).toArray) ∧ Mem w0 W' (wldP y j ++ L):=by
  refine enter Tryz.func86 rfl Tryz.ntmps86 [(0,.agg (encW x i).toArray),(1,.agg #[.int .i64 kd,.int .i64 a,.string t])] rfl ⟨rfl,rfl,trivial⟩ ?_
  obtain ⟨rs,fl,fx⟩:=x
  unfold encW
  simp only [wldP,List.cons_append,List.nil_append] at HM
  have hn5:=hv.n5
  have hfl6:=hv.fl
  have hmsg:=hv.msg
  dsimp only at *
  subst hk
  repeat (first|refine Y ?_|(refine qs ?_;clear HM;intro W1 HM)|(refine qf ?_;go_at_call 39;refine (l1In_c _ _ _ _).mono ?_;rintro e W1 ⟨rfl,rfl⟩;refine ⟨_,rfl,?_⟩)|(refine qg ?_;clear HM;intro g W1 HM))
  exact ret_cell HM rfl rfl rfl ⟨⟨rs,fl,fx⟩,i,⟨hv,rfl⟩,rfl,by simp only [wldP,List.cons_append,List.nil_append];exact HM.sb⟩
theorem do_no6 (x : Wld) (i : AtW) (kd a : Int) (t : ByteArray) (hv : WP x) (ht : t.size ≤ 1048576) (hk : kd = 6) (hf : ¬ (0 ≤ a ∧ a < x.recs.length)) (HM : Mem w0 W (wldP x i ++ L)) : Calls Tryz.prog 86 #[.agg (encW x i).toArray,.agg #[.int .i64 kd,.int .i64 a,.string t]] W fun e W'=>∃ y j,(WP y ∧ y.recs.length = x.recs.length) ∧ e = .returned (.agg (encW y j).toArray) ∧ Mem w0 W' (wldP y j ++ L):=by
  refine enter Tryz.func86 rfl Tryz.ntmps86 [(0,.agg (encW x i).toArray),(1,.agg #[.int .i64 kd,.int .i64 a,.string t])] rfl ⟨rfl,rfl,trivial⟩ ?_
  obtain ⟨rs,fl,fx⟩:=x
  unfold encW
  simp only [wldP,List.cons_append,List.nil_append] at HM
  have hn5:=hv.n5
  have hfl6:=hv.fl
  have hmsg:=hv.msg
  dsimp only at *
  subst hk
  repeat (first|refine Y ?_|(refine qs ?_;clear HM;intro W1 HM)|(refine qf ?_;go_at_call 39;refine (l1In_c _ _ _ _).mono ?_;rintro e W1 ⟨rfl,rfl⟩;refine ⟨_,rfl,?_⟩)|(refine qg ?_;clear HM;intro g W1 HM))
  exact ret_cell HM rfl rfl rfl ⟨⟨rs,fl,fx⟩,i,⟨hv,rfl⟩,rfl,by simp only [wldP,List.cons_append,List.nil_append];exact HM.sb⟩
theorem do_no7 (x : Wld) (i : AtW) (kd a : Int) (t : ByteArray) (hv : WP x) (ht : t.size ≤ 1048576) (hk : kd = 7) (hf : ¬ (0 ≤ a ∧ a < x.recs.length)) (HM : Mem w0 W (wldP x i ++ L)) : Calls Tryz.prog 86 #[.agg (encW x i).toArray,.agg #[.int .i64 kd,.int .i64 a,.string t]] W fun e W'=>∃ y j,(WP y ∧ y.recs.length = x.recs.length) ∧ e = .returned (.agg (encW y j).toArray) ∧ Mem w0 W' (wldP y j ++ L):=by
  refine enter Tryz.func86 rfl Tryz.ntmps86 [(0,.agg (encW x i).toArray),(1,.agg #[.int .i64 kd,.int .i64 a,.string t])] rfl ⟨rfl,rfl,trivial⟩ ?_
  obtain ⟨rs,fl,fx⟩:=x
  unfold encW
  simp only [wldP,List.cons_append,List.nil_append] at HM
  have hn5:=hv.n5
  have hfl6:=hv.fl
  have hmsg:=hv.msg
  dsimp only at *
  subst hk
  repeat (first|refine Y ?_|(refine qs ?_;clear HM;intro W1 HM)|(refine qf ?_;go_at_call 39;refine (l1In_c _ _ _ _).mono ?_;rintro e W1 ⟨rfl,rfl⟩;refine ⟨_,rfl,?_⟩)|(refine qg ?_;clear HM;intro g W1 HM))
  exact ret_cell HM rfl rfl rfl ⟨⟨rs,fl,fx⟩,i,⟨hv,rfl⟩,rfl,by simp only [wldP,List.cons_append,List.nil_append];exact HM.sb⟩
theorem do_no (x : Wld) (i : AtW) (kd a : Int) (t : ByteArray) (hv : WP x) (ht : t.size ≤ 1048576) (h1 : kd ≠ 1) (h2 : kd ≠ 2) (h3 : kd ≠ 3) (h4 : kd ≠ 4) (h5 : kd ≠ 5) (h6 : kd ≠ 6) (h7 : kd ≠ 7) (HM : Mem w0 W (wldP x i ++ L)) : Calls Tryz.prog 86 #[.agg (encW x i).toArray,.agg #[.int .i64 kd,.int .i64 a,.string t]] W fun e W'=>∃ y j,(WP y ∧ y.recs.length = x.recs.length) ∧ e = .returned (.agg (encW y j).toArray) ∧ Mem w0 W' (wldP y j ++ L):=by
  refine enter Tryz.func86 rfl Tryz.ntmps86 [(0,.agg (encW x i).toArray),(1,.agg #[.int .i64 kd,.int .i64 a,.string t])] rfl ⟨rfl,rfl,trivial⟩ ?_
  obtain ⟨rs,fl,fx⟩:=x
  unfold encW
  simp only [wldP,List.cons_append,List.nil_append] at HM
  have hn5:=hv.n5
  have hfl6:=hv.fl
  have hmsg:=hv.msg
  dsimp only at *
  repeat (first|refine Y ?_|(refine qs ?_;clear HM;intro W1 HM)|(refine qf ?_;go_at_call 39;refine (l1In_c _ _ _ _).mono ?_;rintro e W1 ⟨rfl,rfl⟩;refine ⟨_,rfl,?_⟩)|(refine qg ?_;clear HM;intro g W1 HM))
  exact ret_cell HM rfl rfl rfl ⟨⟨rs,fl,fx⟩,i,⟨hv,rfl⟩,rfl,by simp only [wldP,List.cons_append,List.nil_append];exact HM.sb⟩
theorem do_c (x : Wld) (i : AtW) (kd a : Int) (t : ByteArray) (hv : WP x) (ht : t.size ≤ 1048576) (HM : Mem w0 W (wldP x i ++ L)) : Calls Tryz.prog 86 #[.agg (encW x i).toArray,.agg #[.int .i64 kd,.int .i64 a,.string t]] W fun e W'=>∃ y j,(WP y ∧ y.recs.length = x.recs.length) ∧ e = .returned (.agg (encW y j).toArray) ∧ Mem w0 W' (wldP y j ++ L):=by
  by_cases h1 : kd = 1
  · exact do_tick x i kd a t hv ht h1 HM
  by_cases h2 : kd = 2
  · by_cases hf : 0 ≤ a ∧ a < x.flight.length
    · exact do_bring x i kd a t hv ht h2 hf HM
    · exact do_no2 x i kd a t hv ht h2 hf HM
  by_cases h3 : kd = 3
  · by_cases hf : 0 ≤ a ∧ a < x.flight.length
    · exact do_double x i kd a t hv ht h3 hf HM
    · exact do_no3 x i kd a t hv ht h3 hf HM
  by_cases h4 : kd = 4
  · by_cases hf : 0 ≤ a ∧ a < x.flight.length
    · exact do_lose x i kd a t hv ht h4 hf HM
    · exact do_no4 x i kd a t hv ht h4 hf HM
  by_cases h5 : kd = 5
  · by_cases hf : 0 ≤ a ∧ a < x.recs.length
    · exact do_fall x i kd a t hv ht h5 hf HM
    · exact do_no5 x i kd a t hv ht h5 hf HM
  by_cases h6 : kd = 6
  · by_cases hf : 0 ≤ a ∧ a < x.recs.length
    · exact do_rise x i kd a t hv ht h6 hf HM
    · exact do_no6 x i kd a t hv ht h6 hf HM
  by_cases h7 : kd = 7
  · by_cases hf : 0 ≤ a ∧ a < x.recs.length
    · exact do_wish x i kd a t hv ht h7 hf HM
    · exact do_no7 x i kd a t hv ht h7 hf HM
  exact do_no x i kd a t hv ht h1 h2 h3 h4 h5 h6 h7 HM
end Go.Proofs.YtampmicahnnebaaGreat.Sp
namespace Go.Proofs.YtampmicahnnebaaGreat.Sp
open Go Go.RowKit
section
variable {w0 W : World} {L : List Asn} {e c n : Nat} {A : Option Addr} {css : List (List Value)}
theorem puts_eq (ws cs : List Value) (j : Nat) (h : j + ws.length ≤ cs.length) : puts cs j ws = cs.take j ++ ws ++ cs.drop (j + ws.length):=by
  have h1 : (cs.take j).length = j:=by simp;omega
  have h2 : ws.length = ((cs.drop j).take ws.length).length:=by simp;omega
  have h3 : cs = cs.take j ++ ((cs.drop j).take ws.length ++ (cs.drop j).drop ws.length):=by rw [List.take_append_drop,List.take_append_drop]
  have h4:=puts_skip (cs.take j) ((cs.drop j).take ws.length ++ (cs.drop j).drop ws.length) ws 0
  rw [← h3,h1,Nat.add_zero,puts_app ws _ _ h2,List.drop_drop] at h4
  rw [h4,List.append_assoc]
theorem opn_box (h : Mem w0 W (own (tRaw n) e A c css :: L)) : (A = none ∧ css = [] ∧ c = 0) ∨ ∃ g cur,A = some ⟨g,0,none⟩ ∧ cur.length = c * n ∧ cur.take (css.length * n) = css.flatten ∧ css.length ≤ c ∧ c ≤ maxLen ∧ (∀ x ∈ css,x.length = n) ∧ (∀ u ∈ css.flatten,u.oneCell' = true) ∧ Mem w0 W (box g e cur :: L):=by
  obtain ⟨hb,F,h1,⟨css',hl,G,g1,⟨⟨hlen,ho⟩,hblk⟩,hels⟩,h3⟩:=h
  have hc : css' = css:=by
    refine List.ext_getElem hl fun i hi hi2=>?_
    obtain ⟨F',_,hA,_⟩:=els_get (d:=tRaw n) i hi2 hi hels
    exact hA.1
  subst hc
  have e1 : ∀ x ∈ css',x.length = n:=els_len (d:=tRaw n) hl hels
  have e2:=els_one (d:=tRaw n) hl hels
  rcases ho with ⟨ho,h0⟩|⟨g,cap,cur,he,hb0,hh,hn,hm,hs,ht⟩
  · simp only [Value.slice.injEq] at ho
    exact .inl ⟨ho.1,List.eq_nil_of_length_eq_zero h0,ho.2.2⟩
  · simp only [Value.slice.injEq] at he
    obtain ⟨rfl,_,rfl⟩:=he
    refine .inr ⟨g,cur.toList,rfl,by rw [Array.length_toList];exact hs,ht,hn,hm,e1,e2,hb,F,h1,⟨g1 _ (hblk g rfl),by simpa using hh⟩,h3⟩
theorem cls_box {g : Nat} {cur : List Value} (h : Mem w0 W (box g e cur :: L)) (hc : cur.length = c * n) (ht : cur.take (css.length * n) = css.flatten) (h1 : css.length ≤ c) (h2 : c ≤ maxLen) (h3 : ∀ x ∈ css,x.length = n) (h4 : ∀ u ∈ css.flatten,u.oneCell' = true) : Mem w0 W (own (tRaw n) e (some ⟨g,0,none⟩) c css :: L):=by
  obtain ⟨hb,F,f1,⟨hg,hh⟩,f3⟩:=h
  refine ⟨hb,F,f1,⟨css,rfl,F,fun _ h=>h,⟨⟨flat_length h3,.inr ⟨g,c,cur.toArray,rfl,Nat.zero_le _,hh,h1,h2,(by rw [List.size_toArray];exact hc),ht⟩⟩,fun k hk=>?_⟩,els_raw W css _ h3 h4⟩,f3⟩
  have : g = k:=by simpa [Value.ownBlock] using hk
  subst this
  exact hg
theorem box_ne {g g2 t t2 : Nat} {cs cs2 : List Value} {R : List Asn} [hp : Pk L (box g t cs) R] [hq : BoxAt R g2 t2 cs2] (h : Mem w0 W L) : g ≠ g2:=by
  obtain ⟨R2,hq⟩:=hq.mem
  have h:=(h.perm hp.out).perm (List.Perm.cons _ hq)
  obtain ⟨_,F,_,⟨f1,_⟩,G,g1,⟨f2,_⟩,_⟩:=h
  intro e
  subst e
  exact (g1 _ f2).2 f1
end
section
variable {P : Program} {n : Nat} {ops : Array Oper} {Q : Exit → Act → World → Prop} {rest : List Oper} {E : Env} {w0 W : World} {L L' R : List Asn}
variable {d : Nat} {ty st st2 : TypeId} {pos : String} {after : Array Edge} {x y : Operand} {e sz bytes : Nat}
theorem run_copy (W : World) (t1 t2 ty : TypeId) [hU : Und P t1 (.slice e)] [hS : Siz P e sz] (g o dl dc g2 o2 sl sc k : Nat) (ws : List Value) (hk : Nat.min sl dl = k) (hl : ws.length = k * sz)
    (hsrc : ∀ j v,ws[j]? = some v → W.cell? ⟨g2,o2 + j,none⟩ = some v) (ht : ∀ j,j < ws.length → (W.cell? ⟨g,o + j,none⟩).isSome = true) (hf : ∀ j,j < ws.length → W.frozen? ⟨g,o + j,none⟩ = false) (h1 : ∀ v ∈ ws,v.oneCell' = true) :
    (Builtin.copy_ #[t1,t2] ty #[.slice (some ⟨g,o,none⟩) dl dc,.slice (some ⟨g2,o2,none⟩) sl sc]).run P W = .ok (goInt k) (W.setCells g o ws):=by
  obtain ⟨i,hi,hs⟩:=Option.map_eq_some_iff.1 hS.out
  subst hs
  have h2:=run_firstCells_some (P:=P) W i.size k ⟨g2,o2,none⟩ sl sc ws hl (fun j v hj=>by rw [add_plain];exact hsrc j v hj)
  have h3:=run_storeCells_cells (P:=P) g o ws 0 W (by simpa using ht) (by simpa using hf) h1
  simp only [Nat.add_zero] at h3
  simp [Builtin.copy_,run_underlying hU.out,Builtin.lenOf,sizeOf,typeInfo,hi,hk,h2,h3]
theorem s_copy {g o dl dc g2 o2 sl sc k t t2 : Nat} {cs cs2 ws : List Value} [hU : Und P st (.slice e)] [hS : Siz P e sz] (hm : Mem w0 W L) (hx : ev E x = some (.slice (some ⟨g,o,none⟩) dl dc)) (hy : ev E y = some (.slice (some ⟨g2,o2,none⟩) sl sc))
    [hB : BoxAt L g t cs] [hB2 : BoxAt L g2 t2 cs2] (hk : Nat.min sl dl = k) (hw : (cs2.drop o2).take (k * sz) = ws) (ho2 : o2 + k * sz ≤ cs2.length) (ho : o + k * sz ≤ cs.length) (h1 : ∀ v ∈ ws,v.oneCell' = true) [hr : Rp L (box g t cs) (box g t (puts cs o ws)) L'] (hn : Nat.blt d n = true)
    (h : ∀ W1,Mem w0 W1 L' → WL P n ops Q rest ((d,.int .i64 k) :: E) W1) :
    WL P n ops Q (⟨some d,.call { callee:=.builtin .copy,args:=#[x,y],argTypes:=#[st,st2] },ty,pos,after,none⟩ :: rest) E W:=by
  have hl : ws.length = k * sz:=by rw [← hw];simp;omega
  have hh:=hm.heap (g:=g)
  have hh2:=hm.heap (g:=g2)
  have hth:=there_box hh (n:=ws.length) (by rw [hl];exact ho)
  have hrun:=run_copy (P:=P) W st st2 ty g o dl dc g2 o2 sl sc k ws hk hl (fun j v hj=>by
      rw [cell_of_row W g2 (o2 + j) _ t2 (0,0) hh2]
      rw [← hw,List.getElem?_take] at hj
      split at hj
      · simpa [List.getElem?_drop] using hj
      · cases hj) (fun j hj=>(hth j hj).1) (fun j hj=>(hth j hj).2) h1
  have h3:=setCells_heap g t (0,0) ws o W cs hh
  refine s_run (W1:=W.setCells g o ws) rfl rfl hn (fun a ha=>?_) (h _ (hm.put (cs:=cs) (cs':=puts cs o ws) h3 (grown_setCells g ws o W)))
  simp [execOp,ha.eval hx,ha.eval hy,resolve,invoke,builtin,hrun,goInt]
theorem s_appz {g t l c k : Nat} {cs zs : List Value} {stn : TypeId} {kn : IntKind} [hU : Und P st (.slice e)] [hU2 : Und P stn (.int kn)] [hE : Elt P e sz bytes] [hz : Zer P e zs] (hm : Mem w0 W L) (hx : ev E x = some (.slice (some ⟨g,0,none⟩) l c)) {kv : Int} (hy : ev E y = some (.int .i64 kv)) (hkv : kv = (k : Nat)) [hB : BoxAt L g t cs]
    (hl : l * sz ≤ cs.length) (hk : 0 < k) (hc : c < l + k) (hlim : (l + k) * bytes ≤ 140737488355328) (hn : Nat.blt d n = true)
    (h : ∀ g1 G W1 zz,l + k ≤ G → G ≤ maxLen → (cs.take (l * sz) ++ zz).length = G * sz → Mem w0 W1 (box g1 e (cs.take (l * sz) ++ zz) :: L) → WL P n ops Q rest ((d,.slice (some ⟨g1,0,none⟩) (l + k) G) :: E) W1) :
    WL P n ops Q (⟨some d,.call { callee:=.builtin .append,args:=#[x,y],argTypes:=#[st,stn] },ty,pos,after,none⟩ :: rest) E W:=by
  obtain ⟨i0,z,hi,hzz,hzs,hs1,hb1,hs0,hb0⟩:=hE.spec
  subst hkv hs1
  have hh:=hm.drew.heap (g:=g)
  have hlen : l + k ≤ 140737488355328:=Nat.le_trans (Nat.le_mul_of_pos_right _ hb0) hlim
  have hold:=run_firstCells_some (P:=P) W.drew i0.size l ⟨g,0,none⟩ l c (cs.take (l * i0.size)) (by simp;omega) (fun j v hj=>by
      rw [add_plain,Nat.zero_add,cell_of_row W.drew g j _ t (0,0) hh]
      rw [List.getElem?_take] at hj
      split at hj
      · simpa using hj
      · cases hj)
  have hkb : k * bytes ≤ (l + k) * bytes:=Nat.mul_le_mul_right _ (by omega)
  have hnx : Builtin.nextslicecap (l + k) c * i0.bytes ≤ 281474976710656:=by
    have:=nextslicecap_le (need:=l + k) (old:=c) (by omega)
    rw [hb1]
    have h2 : Builtin.nextslicecap (l + k) c * bytes ≤ (2 * (l + k)) * bytes:=Nat.mul_le_mul_right _ this
    rw [Nat.mul_assoc] at h2
    omega
  have hrun:=Lib.run_append_grow_zeros (P:=P) W st stn ty e i0 z .i64 kn hU.out hU2.out hi hzz (some ⟨g,0,none⟩) l c _ hold k hk (by omega) hc (by omega) (by rw [hb1];omega) hnx
  have hG1:=grownCap_ge W (l + k) c e
  have hG2:=grownCap_le_maxLen W (l + k) c e (by unfold maxLen;omega)
  generalize grownCap W (l + k) c e = G at hrun hG1 hG2
  have hzc : z.cells.size = i0.size:=hzs
  obtain ⟨zz,hzz2⟩ : ∃ zz : List Value,(cs.take (l * i0.size)).toArray ++ Builtin.zeroCells z.cells k ++ Builtin.zeroCells z.cells (G - (l + k)) = (cs.take (l * i0.size) ++ zz).toArray:=⟨(Builtin.zeroCells z.cells k).toList ++ (Builtin.zeroCells z.cells (G - (l + k))).toList,by simp⟩
  have hsize : (cs.take (l * i0.size) ++ zz).length = G * i0.size:=by
    have:=congrArg Array.size hzz2
    simp only [Array.size_append,List.size_toArray,Builtin.zeroCells,Array.size_map,Array.size_range,hzc] at this
    rw [← this]
    have h1 : (cs.take (l * i0.size)).length = l * i0.size:=by simp;omega
    rw [h1,← Nat.add_mul,← Nat.add_mul]
    congr 1
    omega
  rw [hzz2] at hrun
  refine s_run (W1:=W.drew.alloc (.cells (cs.take (l * i0.size) ++ zz).toArray e)) rfl rfl hn (fun a ha=>?_) (h W.heap.size G _ zz hG1 hG2 hsize (hm.drew.alloc e _))
  simp [execOp,ha.eval hx,ha.eval hy,resolve,invoke,builtin,hrun]
theorem p_cap {c l : Nat} {A : Option Addr} [hU : Und P st (.slice e)] (hx : ev E x = some (.slice A l c)) : PV P E (.call { callee:=.builtin .cap,args:=#[x],argTypes:=#[st] }) (.int .i64 c):=⟨fun n a ha dst ty pos after gd W=>by simp [execOp,ha.eval hx,resolve,invoke,builtin,Builtin.cap_,underlying,hU.out,goInt]⟩
theorem p_from {g o l c : Nat} {k : IntKind} {m : Int} [hU : Und P st (.slice e)] [hS : Siz P e sz] (hx : ev E x = some (.slice (some ⟨g,o,none⟩) l c)) (hy : ev E y = some (.int k m)) (h0 : 0 ≤ m) (h1 : m ≤ l) (hc : m < c) : PV P E (.slice st x (some y) none none) (.slice (some ⟨g,o + m.toNat * sz,none⟩) (l - m.toNat) (c - m.toNat)):=by
  have h:=p_slicefrom (P:=P) (E:=E) (st:=st) (sz:=sz) hx hy h0 h1
  rw [fromA,if_neg (by omega)] at h
  simpa [add_plain] using h
theorem s_overlaps {f : FuncId} {fn : Func} {g o la ca g2 o2 lb cb t t2 tR : Nat} {cs cs2 : List Value} [hU : Und P st (.slice e)] [hS : Siz P e sz] (hf : P.funcs[f]? = some fn) (hname : (fn.name == "runtime.NumGoroutine") = false) (hb : fn.body.isNone = true) (hn1 : Extern.findNext fn = none) (he : Extern.find fn = some (Extern.SlicesOverlaps.overlaps #[st,st] #[tR]))
    {xs : List Operand} {ts : Array TypeId} (hvs : evs E xs = some [.slice (some ⟨g,o,none⟩) la ca,.slice (some ⟨g2,o2,none⟩) lb cb]) (hm : Mem w0 W L) [hB : BoxAt L g t cs] [hB2 : BoxAt L g2 t2 cs2] (hne : g ≠ g2) (h0 : cs2.length ≠ 0) (hn : Nat.blt d n = true)
    (h : WL P n ops Q rest ((d,.bool false) :: E) W) :
    WL P n ops Q (⟨some d,.call { callee:=.value (.func f),args:=xs.toArray,argTypes:=ts },ty,pos,after,none⟩ :: rest) E W:=by
  have hh:=hm.heap (g:=g)
  have hh2:=hm.heap (g:=g2)
  obtain ⟨i,hi,hs⟩:=Option.map_eq_some_iff.1 hS.out
  have hov:=Lib.run_overlaps_apart (P:=P) W st tR e hU.out sz (fun w=>by simp [Go.sizeOf,typeInfo,hi,hs]) ⟨g,o,none⟩ ⟨g2,o2,none⟩ la ca lb cb hne t t2 cs.length cs2.length (by simp [World.shape?,hh]) (by simp [World.shape?,hh2]) h0 (by simp [World.frozen?,hh]) (by simp [World.frozen?,hh])
  refine s_run (W1:=W) rfl rfl hn (fun a ha=>?_) h
  have hargs:=ha.evals hvs
  have hcall : (callFunc f #[.slice (some ⟨g,o,none⟩) la ca,.slice (some ⟨g2,o2,none⟩) lb cb]).run P W = .ok (.value (.bool false)) W:=by
    rw [run_callFunc_extern hf hname hb hn1 he,hov]
    rfl
  unfold execOp
  simp [resolve,Deferred.ofValue,invoke,Act.eval]
  simpa [hargs] using hcall
end
end Go.Proofs.YtampmicahnnebaaGreat.Sp
namespace Go.Proofs.YtampmicahnnebaaGreat.Sp
open Go Go.RowKit
set_option maxRecDepth 10000
set_option maxHeartbeats 2000000
variable {w0 W : World} {L : List Asn}
theorem flat_drop {sz : Nat} : ∀ (css : List (List Value)) (i : Nat),(∀ x ∈ css,x.length = sz) → css.flatten.drop (i * sz) = (css.drop i).flatten
  | css,0,_=>by simp
  | [],i + 1,_=>by simp
  | x :: r,i + 1,h=>by
    have hx:=h x (by simp)
    rw [List.flatten_cons,List.drop_succ_cons,← flat_drop r i (fun y hy=>h y (List.mem_cons_of_mem _ hy)),List.drop_append,List.drop_eq_nil_of_le (by rw [hx,Nat.add_mul];omega),hx,List.nil_append]
    congr 1
    rw [Nat.add_mul];omega
theorem flat_take {sz : Nat} : ∀ (css : List (List Value)) (i : Nat),(∀ x ∈ css,x.length = sz) → css.flatten.take (i * sz) = (css.take i).flatten
  | css,0,_=>by simp
  | [],i + 1,_=>by simp
  | x :: r,i + 1,h=>by
    have hx:=h x (by simp)
    rw [List.flatten_cons,List.take_succ_cons,List.flatten_cons,← flat_take r i (fun y hy=>h y (List.mem_cons_of_mem _ hy)),List.take_append,List.take_of_length_le (by rw [hx,Nat.add_mul];omega),hx]
    congr 2
    rw [Nat.add_mul];omega
theorem raw_from {cur : List Value} {css : List (List Value)} {sz i : Nat} (ht : cur.take (css.length * sz) = css.flatten) (h3 : ∀ x ∈ css,x.length = sz) (hi : i ≤ css.length) : (cur.drop (0 + ((i : Nat) : Int).toNat * sz)).take ((css.length - i) * sz) = (css.drop i).flatten:=by
  rw [Int.toNat_natCast,Nat.zero_add,← flat_drop css i h3,← ht,List.drop_take]
  congr 1
  rw [Nat.sub_mul]
theorem ins_t {T cv D : List Value} : (∀ R : List Value,(T ++ cv ++ R).take (T.length + cv.length) = T ++ cv) ∧ (∀ R : List Value,(T ++ cv ++ D ++ R).take (T.length + cv.length + D.length) = T ++ cv ++ D):=by
  have h1 : (T ++ cv).length = T.length + cv.length:=List.length_append
  have h2 : (T ++ cv ++ D).length = T.length + cv.length + D.length:=by rw [List.length_append,h1]
  exact ⟨fun R=>by rw [← h1];exact List.take_left,fun R=>by rw [← h2];exact List.take_left⟩
theorem ins_a {cur T cv D : List Value} (hT : cur.take T.length = T) (hl : T.length + cv.length + D.length ≤ cur.length) : (puts (puts cur T.length cv) (T.length + cv.length) D).take (T.length + cv.length + D.length) = T ++ cv ++ D:=by
  rw [puts_eq D _ _ (by rw [puts_len];omega),puts_eq cv cur _ (by omega),hT,(ins_t (D:=D)).1,ins_t.2]
theorem ins_b {cur T cv D : List Value} (hT : cur.take T.length = T) (hl : T.length + cv.length + D.length ≤ cur.length) : (puts (puts cur (T.length + cv.length) D) T.length cv).take (T.length + cv.length + D.length) = T ++ cv ++ D:=by
  rw [puts_eq cv _ _ (by rw [puts_len];omega),puts_eq D cur _ (by omega)]
  have h0 : (cur.take (T.length + cv.length)).length = T.length + cv.length:=by simp;omega
  have h3 : (cur.take (T.length + cv.length) ++ D ++ cur.drop (T.length + cv.length + D.length)).take T.length = T:=by
    rw [List.append_assoc,List.take_append,List.take_take,Nat.min_eq_left (by omega),hT,h0,show T.length - (T.length + cv.length) = 0 by omega,List.take_zero,List.append_nil]
  have h4 : (cur.take (T.length + cv.length) ++ D ++ cur.drop (T.length + cv.length + D.length)).drop (T.length + cv.length) = D ++ cur.drop (T.length + cv.length + D.length):=by
    rw [List.append_assoc,List.drop_append,List.drop_eq_nil_of_le (by omega),h0,Nat.sub_self,List.drop_zero,List.nil_append]
  rw [h3,h4,← List.append_assoc,ins_t.2]
theorem mk_raw {n : Nat} {cv : List Value} (hv : cv.length = n) (h1 : ∀ u ∈ cv,u.oneCell' = true) (R : List Asn) : MkIn R (tRaw n) cv cv R:=⟨fun W ok h=>⟨fun _=>False,fun _ h=>h.elim,⟨(),⟨rfl,hv,h1⟩,trivial⟩,h.mono (fun k hk=>⟨hk,fun h=>h⟩)⟩⟩
theorem ins_parts {css : List (List Value)} {cv : List Value} {sz i : Nat} (h3 : ∀ x ∈ css,x.length = sz) (hv : cv.length = sz) (hi : i ≤ css.length) : ((css.take i).flatten.length = i * sz ∧ (css.drop i).flatten.length = (css.length - i) * sz) ∧ (∀ x ∈ css.take i ++ [cv] ++ css.drop i,x.length = sz) ∧ (css.take i ++ [cv] ++ css.drop i).flatten = (css.take i).flatten ++ cv ++ (css.drop i).flatten ∧ (css.take i ++ [cv] ++ css.drop i).length = css.length + 1:=by
  refine ⟨⟨?_,?_⟩,fun x hx=>?_,by simp,?_⟩
  · rw [flat_length (sz:=sz) (fun x hx=>h3 x (List.mem_of_mem_take hx)),List.length_take,Nat.min_eq_left hi]
  · rw [flat_length (sz:=sz) (fun x hx=>h3 x (List.mem_of_mem_drop hx)),List.length_drop]
  · simp only [List.mem_append,List.mem_singleton] at hx
    rcases hx with (hx|hx)|hx
    · exact h3 x (List.mem_of_mem_take hx)
    · rw [hx];exact hv
    · exact h3 x (List.mem_of_mem_drop hx)
  · simp only [List.length_append,List.length_take,List.length_drop,List.length_singleton];omega
theorem insertI {A : Option Addr} {c gv : Nat} {css : List (List Value)} {cv : List Value} (i : Nat) (hi : i ≤ css.length) (hn : css.length ≤ 1000) (hv : cv.length = 1) (h1 : ∀ u ∈ cv,u.oneCell' = true) (HM : Mem w0 W (own (tRaw 1) 3 A c css :: box gv 3 cv :: L)) : Calls Tryz.prog 114 #[.slice A css.length c,.int .i64 i,.slice (some ⟨gv,0,none⟩) 1 1] W fun e W'=>∃ A' c',e = .returned (.slice A' (css.take i ++ [cv] ++ css.drop i).length c') ∧ Mem w0 W' (own (tRaw 1) 3 A' c' (css.take i ++ [cv] ++ css.drop i) :: L):=by
  refine enter Tryz.func114 rfl Tryz.ntmps114 [(0,_),(1,_),(2,_)] rfl ⟨rfl,rfl,rfl,trivial⟩ ?_
  haveI hmk:=mk_raw hv h1
  by_cases c1 : i = css.length
  · subst c1
    have e : css.take css.length ++ [cv] ++ css.drop css.length = css ++ [cv]:=by simp
    rw [e]
    repeat (first|refine Y ?_|(refine qa ?_;clear HM;intro A1 c1 W1 HM))
    exact ret_tmp rfl rfl ⟨A1,c1,rfl,HM⟩
  have hlt : i < css.length:=by omega
  rcases opn_box HM with ⟨_,rfl,_⟩|⟨g,cur,rfl,hcl,hct,hnc,hcm,h3,h4,HM1⟩
  · simp at hlt
  clear HM
  have HM:=HM1
  clear HM1 hmk
  obtain ⟨⟨hT,hD⟩,hx3,hxf,hxl⟩:=ins_parts (cv:=cv) h3 hv hi
  have hD1 : ∀ u ∈ (css.drop i).flatten,u.oneCell' = true:=fun u hu=>h4 u (by
    obtain ⟨y,hy,hu⟩:=List.mem_flatten.1 hu
    exact List.mem_flatten.2 ⟨y,List.mem_of_mem_drop hy,hu⟩)
  have hx1 : ∀ u ∈ (css.take i ++ [cv] ++ css.drop i).flatten,u.oneCell' = true:=fun u hu=>by
    rw [hxf] at hu
    simp only [List.mem_append] at hu
    rcases hu with (hu|hu)|hu
    · obtain ⟨y,hy,hu⟩:=List.mem_flatten.1 hu
      exact h4 u (List.mem_flatten.2 ⟨y,List.mem_of_mem_take hy,hu⟩)
    · exact h1 u hu
    · exact hD1 u hu
  have hw1 : (cv.drop 0).take (1 * 1) = cv:=by rw [List.drop_zero,List.take_of_length_le (by omega)]
  have hw2:=raw_from hct h3 hi
  have hgv : g ≠ gv:=box_ne (t:=3) (cs:=cur) (t2:=3) (cs2:=cv) HM
  have hTc : cur.take (i * 1) = (css.take i).flatten:=by
    rw [← flat_take css i h3,← hct,List.take_take,Nat.min_eq_left (by omega)]
  by_cases c2 : c < css.length + 1
  · repeat (first|(refine gL ?_;refine s_pv (p_cap rfl) rfl ?_)|(refine gGP ?_;refine gp (p_from rfl rfl (by omega) (by omega) (by omega)) ?_)|(refine gCall ?_;first|(refine s_appz (k:=css.length + 1 - i) HM rfl rfl (by omega) (by omega) (by omega) (by omega) (by omega) rfl ?_;intro g1 G W1 zz hG1 hG2 hG3 HM1;replace HM:=HM1;clear HM1;simp only [Int.toNat_natCast] at hG1 hG2 hG3 HM;simp only [Int.toNat_natCast])|(refine s_copy (k:=1) (ws:=cv) HM rfl rfl (by show min _ _ = _;omega) hw1 (by omega) (by omega) h1 rfl ?_;clear HM;intro W1 HM)|(refine s_copy (k:=css.length - i) (ws:=(css.drop i).flatten) HM rfl rfl (by show min _ _ = _;omega) hw2 (by omega) (by rw [puts_len];omega) hD1 rfl ?_;clear HM;intro W1 HM))|(refine gR ?_;refine d_start [8] [(0,0),(0,1),(0,2),(0,3),(0,4),(0,5),(0,6),(0,7),(3,8)] HM (by kernel_rfl) (by kernel_rfl) qq (by kernel_rfl) rfl ?_;intro HQ HS W1 HM1;replace HM:=HM1;clear HM1)|refine Y ?_)
    have hcur:=ins_a (cur:=cur.take (i * 1) ++ zz) (T:=(css.take i).flatten) (cv:=cv) (D:=(css.drop i).flatten) (by rw [hTc];exact List.take_left) (by rw [hT,hv,hD];omega)
    rw [hT,hv,hD,← hxf] at hcur
    refine ret_tmp rfl rfl ⟨some ⟨g1,0,none⟩,G,by rw [hxl,show i + (css.length + 1 - i) = css.length + 1 by omega],?_⟩
    rw [show 0 + ((i : Nat) : Int).toNat * 1 = i * 1 by omega,show 0 + (((i : Nat) : Int) + ((1 : Nat) : Int)).toNat * 1 = i * 1 + 1 by omega] at HM
    refine cls_box (cur:=puts (puts (cur.take (i * 1) ++ zz) (i * 1) cv) (i * 1 + 1) (css.drop i).flatten) (by exact HM.sb) (by rw [puts_len,puts_len];exact hG3) ?_ (by rw [hxl];omega) hG2 hx3 hx1
    rw [hxl,← hcur]
    congr 1
    omega
  · repeat (first|(refine gL ?_;refine s_pv (p_cap rfl) rfl ?_)|(refine gGP ?_;refine gp (p_from rfl rfl (by omega) (by omega) (by omega)) ?_)|(refine gCall ?_;first|refine s_overlaps (st:=28) (e:=3) (tR:=4) Tryz.func120 (by kernel_rfl) (by kernel_rfl) (by kernel_rfl) (by kernel_rfl) rfl HM hgv.symm (by omega) rfl ?_|(refine s_copy (k:=1) (ws:=cv) HM rfl rfl (by show min _ _ = _;omega) hw1 (by omega) (by rw [puts_len];omega) h1 rfl ?_;clear HM;intro W1 HM)|(refine s_copy (k:=css.length - i) (ws:=(css.drop i).flatten) HM rfl rfl (by show min _ _ = _;omega) hw2 (by omega) (by omega) hD1 rfl ?_;clear HM;intro W1 HM))|(refine gR ?_;refine d_start [8] [(0,0),(0,1),(0,2),(0,3),(0,4),(0,5),(0,6),(0,7),(3,8)] HM (by kernel_rfl) (by kernel_rfl) qq (by kernel_rfl) rfl ?_;intro HQ HS W1 HM1;replace HM:=HM1;clear HM1)|refine Y ?_)
    have hcur:=ins_b (cur:=cur) (T:=(css.take i).flatten) (cv:=cv) (D:=(css.drop i).flatten) (by rw [hT,hTc]) (by rw [hT,hv,hD];omega)
    rw [hT,hv,hD,← hxf] at hcur
    refine ret_tmp rfl rfl ⟨some ⟨g,0,none⟩,c,by rw [hxl];rfl,?_⟩
    rw [show 0 + ((i : Nat) : Int).toNat * 1 = i * 1 by omega,show 0 + (((i : Nat) : Int) + ((1 : Nat) : Int)).toNat * 1 = i * 1 + 1 by omega] at HM
    refine cls_box (cur:=puts (puts cur (i * 1 + 1) (css.drop i).flatten) (i * 1) cv) (by exact HM.sb) (by rw [puts_len,puts_len];exact hcl) ?_ (by rw [hxl];omega) hcm hx3 hx1
    rw [hxl,← hcur]
    congr 1
    omega
theorem insertA {A : Option Addr} {c gv : Nat} {css : List (List Value)} {cv : List Value} (i : Nat) (hi : i ≤ css.length) (hn : css.length ≤ 1000) (hv : cv.length = 2) (h1 : ∀ u ∈ cv,u.oneCell' = true) (HM : Mem w0 W (own (tRaw 2) 66 A c css :: box gv 66 cv :: L)) : Calls Tryz.prog 103 #[.slice A css.length c,.int .i64 i,.slice (some ⟨gv,0,none⟩) 1 1] W fun e W'=>∃ A' c',e = .returned (.slice A' (css.take i ++ [cv] ++ css.drop i).length c') ∧ Mem w0 W' (own (tRaw 2) 66 A' c' (css.take i ++ [cv] ++ css.drop i) :: L):=by
  refine enter Tryz.func103 rfl Tryz.ntmps103 [(0,_),(1,_),(2,_)] rfl ⟨rfl,rfl,rfl,trivial⟩ ?_
  haveI hmk:=mk_raw hv h1
  by_cases c1 : i = css.length
  · subst c1
    have e : css.take css.length ++ [cv] ++ css.drop css.length = css ++ [cv]:=by simp
    rw [e]
    repeat (first|refine Y ?_|(refine qa ?_;clear HM;intro A1 c1 W1 HM))
    exact ret_tmp rfl rfl ⟨A1,c1,rfl,HM⟩
  have hlt : i < css.length:=by omega
  rcases opn_box HM with ⟨_,rfl,_⟩|⟨g,cur,rfl,hcl,hct,hnc,hcm,h3,h4,HM1⟩
  · simp at hlt
  clear HM
  have HM:=HM1
  clear HM1 hmk
  obtain ⟨⟨hT,hD⟩,hx3,hxf,hxl⟩:=ins_parts (cv:=cv) h3 hv hi
  have hD1 : ∀ u ∈ (css.drop i).flatten,u.oneCell' = true:=fun u hu=>h4 u (by
    obtain ⟨y,hy,hu⟩:=List.mem_flatten.1 hu
    exact List.mem_flatten.2 ⟨y,List.mem_of_mem_drop hy,hu⟩)
  have hx1 : ∀ u ∈ (css.take i ++ [cv] ++ css.drop i).flatten,u.oneCell' = true:=fun u hu=>by
    rw [hxf] at hu
    simp only [List.mem_append] at hu
    rcases hu with (hu|hu)|hu
    · obtain ⟨y,hy,hu⟩:=List.mem_flatten.1 hu
      exact h4 u (List.mem_flatten.2 ⟨y,List.mem_of_mem_take hy,hu⟩)
    · exact h1 u hu
    · exact hD1 u hu
  have hw1 : (cv.drop 0).take (1 * 2) = cv:=by rw [List.drop_zero,List.take_of_length_le (by omega)]
  have hw2:=raw_from hct h3 hi
  have hgv : g ≠ gv:=box_ne (t:=66) (cs:=cur) (t2:=66) (cs2:=cv) HM
  have hTc : cur.take (i * 2) = (css.take i).flatten:=by
    rw [← flat_take css i h3,← hct,List.take_take,Nat.min_eq_left (by omega)]
  by_cases c2 : c < css.length + 1
  · repeat (first|(refine gL ?_;refine s_pv (p_cap rfl) rfl ?_)|(refine gGP ?_;refine gp (p_from rfl rfl (by omega) (by omega) (by omega)) ?_)|(refine gCall ?_;first|(refine s_appz (k:=css.length + 1 - i) HM rfl rfl (by omega) (by omega) (by omega) (by omega) (by omega) rfl ?_;intro g1 G W1 zz hG1 hG2 hG3 HM1;replace HM:=HM1;clear HM1;simp only [Int.toNat_natCast] at hG1 hG2 hG3 HM;simp only [Int.toNat_natCast])|(refine s_copy (k:=1) (ws:=cv) HM rfl rfl (by show min _ _ = _;omega) hw1 (by omega) (by omega) h1 rfl ?_;clear HM;intro W1 HM)|(refine s_copy (k:=css.length - i) (ws:=(css.drop i).flatten) HM rfl rfl (by show min _ _ = _;omega) hw2 (by omega) (by rw [puts_len];omega) hD1 rfl ?_;clear HM;intro W1 HM))|(refine gR ?_;refine d_start [8] [(0,0),(0,1),(0,2),(0,3),(0,4),(0,5),(0,6),(0,7),(3,8)] HM (by kernel_rfl) (by kernel_rfl) qq (by kernel_rfl) rfl ?_;intro HQ HS W1 HM1;replace HM:=HM1;clear HM1)|refine Y ?_)
    have hcur:=ins_a (cur:=cur.take (i * 2) ++ zz) (T:=(css.take i).flatten) (cv:=cv) (D:=(css.drop i).flatten) (by rw [hTc];exact List.take_left) (by rw [hT,hv,hD];omega)
    rw [hT,hv,hD,← hxf] at hcur
    refine ret_tmp rfl rfl ⟨some ⟨g1,0,none⟩,G,by rw [hxl,show i + (css.length + 1 - i) = css.length + 1 by omega],?_⟩
    rw [show 0 + ((i : Nat) : Int).toNat * 2 = i * 2 by omega,show 0 + (((i : Nat) : Int) + ((1 : Nat) : Int)).toNat * 2 = i * 2 + 2 by omega] at HM
    refine cls_box (cur:=puts (puts (cur.take (i * 2) ++ zz) (i * 2) cv) (i * 2 + 2) (css.drop i).flatten) (by exact HM.sb) (by rw [puts_len,puts_len];exact hG3) ?_ (by rw [hxl];omega) hG2 hx3 hx1
    rw [hxl,← hcur]
    congr 1
    omega
  · repeat (first|(refine gL ?_;refine s_pv (p_cap rfl) rfl ?_)|(refine gGP ?_;refine gp (p_from rfl rfl (by omega) (by omega) (by omega)) ?_)|(refine gCall ?_;first|refine s_overlaps (st:=29) (e:=66) (tR:=4) Tryz.func115 (by kernel_rfl) (by kernel_rfl) (by kernel_rfl) (by kernel_rfl) rfl HM hgv.symm (by omega) rfl ?_|(refine s_copy (k:=1) (ws:=cv) HM rfl rfl (by show min _ _ = _;omega) hw1 (by omega) (by rw [puts_len];omega) h1 rfl ?_;clear HM;intro W1 HM)|(refine s_copy (k:=css.length - i) (ws:=(css.drop i).flatten) HM rfl rfl (by show min _ _ = _;omega) hw2 (by omega) (by omega) hD1 rfl ?_;clear HM;intro W1 HM))|(refine gR ?_;refine d_start [8] [(0,0),(0,1),(0,2),(0,3),(0,4),(0,5),(0,6),(0,7),(3,8)] HM (by kernel_rfl) (by kernel_rfl) qq (by kernel_rfl) rfl ?_;intro HQ HS W1 HM1;replace HM:=HM1;clear HM1)|refine Y ?_)
    have hcur:=ins_b (cur:=cur) (T:=(css.take i).flatten) (cv:=cv) (D:=(css.drop i).flatten) (by rw [hT,hTc]) (by rw [hT,hv,hD];omega)
    rw [hT,hv,hD,← hxf] at hcur
    refine ret_tmp rfl rfl ⟨some ⟨g,0,none⟩,c,by rw [hxl];rfl,?_⟩
    rw [show 0 + ((i : Nat) : Int).toNat * 2 = i * 2 by omega,show 0 + (((i : Nat) : Int) + ((1 : Nat) : Int)).toNat * 2 = i * 2 + 2 by omega] at HM
    refine cls_box (cur:=puts (puts cur (i * 2 + 2) (css.drop i).flatten) (i * 2) cv) (by exact HM.sb) (by rw [puts_len,puts_len];exact hcl) ?_ (by rw [hxl];omega) hcm hx3 hx1
    rw [hxl,← hcur]
    congr 1
    omega
end Go.Proofs.YtampmicahnnebaaGreat.Sp
namespace Go.Proofs.YtampmicahnnebaaGreat.Sp
open Go Go.RowKit
set_option maxRecDepth 10000
set_option maxHeartbeats 2000000
variable {w0 W : World} {L : List Asn} {A : Option Addr} {c : Nat}
section
variable {P : Program} {E : Env} {x y : Operand} {t1 t2 xt yt : TypeId} {m : Int}
theorem p_i2u [hU : Und P t1 (.int .i64)] [hV : Und P t2 (.int .u64)] (hx : ev E x = some (.int .i64 m)) (h0 : 0 ≤ m) (h1 : m ≤ 9223372036854775807) : PV P E (.convert t1 t2 x) (.int .u64 m):=⟨fun n a ha dst ty pos after gd W=>by
  have hw : IntKind.u64.wrap m = m:=by simp [IntKind.wrap,IntKind.bits,IntKind.signed];omega
  simp [execOp,ha.eval hx,convert,underlying,hU.out,hV.out,Conv.intToInt,hw]⟩
theorem p_u2i [hU : Und P t1 (.int .u64)] [hV : Und P t2 (.int .i64)] (hx : ev E x = some (.int .u64 m)) (h0 : 0 ≤ m) (h1 : m ≤ 9223372036854775807) : PV P E (.convert t1 t2 x) (.int .i64 m):=⟨fun n a ha dst ty pos after gd W=>by
  have hw : IntKind.i64.wrap m = m:=wr (by omega) h1
  simp [execOp,ha.eval hx,convert,underlying,hU.out,hV.out,Conv.intToInt,hw]⟩
theorem p_shr1 (hx : ev E x = some (.int .u64 m)) (hy : ev E y = some (.int .u64 1)) (h0 : 0 ≤ m) : PV P E (.binOp .shr xt x y yt) (.int .u64 (m / 2)):=⟨fun n a ha dst ty pos after gd W=>by
  have h2 : m.fdiv 2 = m / 2:=Int.fdiv_eq_ediv_of_nonneg _ (by omega)
  simp [execOp,ha.eval hx,ha.eval hy,eqGuard,binOp,Op.shift,IntKind.bits,h2]⟩
end
instance : Und Tryz.prog 135 (.int .u64):=⟨by kernel_rfl⟩
theorem cmpNaN (m : Int) : Calls Tryz.prog 125 #[.int .i64 m] W fun e W'=>e = .returned (.bool false) ∧ W' = W:=by
  refine enter Tryz.func125 rfl Tryz.ntmps125 [(0,_)] rfl ⟨rfl,trivial⟩ ?_
  have HM:=Mem.start W
  repeat refine Y ?_
  exact ret_tmp rfl rfl ⟨by simp,rfl⟩
theorem slNaN (m : Int) : Calls Tryz.prog 119 #[.int .i64 m] W fun e W'=>e = .returned (.bool false) ∧ W' = W:=by
  refine enter Tryz.func119 rfl Tryz.ntmps119 [(0,_)] rfl ⟨rfl,trivial⟩ ?_
  have HM:=Mem.start W
  repeat refine Y ?_
  exact ret_tmp rfl rfl ⟨by simp,rfl⟩
theorem cmpLess (m q : Int) : Calls Tryz.prog 118 #[.int .i64 m,.int .i64 q] W fun e W'=>e = .returned (.bool (decide (m < q))) ∧ W' = W:=by
  refine enter Tryz.func118 rfl Tryz.ntmps118 [(0,_),(1,_)] rfl ⟨rfl,rfl,trivial⟩ ?_
  have HM:=Mem.start W
  repeat (first|refine Y ?_|(refine qf ?_;go_at_call 125;refine (cmpNaN _).mono ?_;rintro e W1 ⟨rfl,rfl⟩;refine ⟨_,rfl,?_⟩))
  exact ret_tmp rfl rfl ⟨rfl,rfl⟩
theorem bsearch {xs : List Int} (n : Int) (hs : xs.Pairwise (· < ·)) (hn : xs.length ≤ 1048576) (HM : Mem w0 W (own tInt 3 A c xs :: L)) : Calls Tryz.prog 113 #[.slice A xs.length c,.int .i64 n] W fun e W'=>∃ (k : Nat) (b : Bool),e = .returned (.tuple #[.int .i64 k,.bool b]) ∧ k ≤ xs.length ∧ (∀ j (h : j < xs.length),j < k → xs[j] < n) ∧ (∀ j (h : j < xs.length),k ≤ j → n ≤ xs[j]) ∧ b = decide (∃ h : k < xs.length,xs[k] = n) ∧ Mem w0 W' (own tInt 3 A c xs :: L):=by
  refine enter Tryz.func113 rfl Tryz.ntmps113 [(0,_),(1,_)] rfl ⟨rfl,rfl,trivial⟩ ?_
  repeat refine Y ?_
  rw [List.pairwise_iff_getElem] at hs
  refine c_loop (σ:=Nat × Nat) (fun s=>[(0,.slice A xs.length c),(1,.int .i64 n),(6,.int .i64 xs.length),(7,.int .i64 s.1),(8,.int .i64 s.2)]) (fun s W1=>s.1 ≤ s.2 ∧ s.2 ≤ xs.length ∧ (∀ j (h : j < xs.length),j < s.1 → xs[j] < n) ∧ (∀ j (h : j < xs.length),s.2 ≤ j → n ≤ xs[j]) ∧ Mem w0 W1 (own tInt 3 A c xs :: L)) (fun s=>s.2 - s.1) (0,xs.length) U ⟨Nat.zero_le _,Nat.le_refl _,fun j h hj=>by omega,fun j h hj=>by omega,HM⟩ ?_
  clear HM
  rintro ⟨i,j⟩ W1 ⟨h1,h2,h3,h4,HM⟩
  dsimp only at h1 h2 h3 h4 HM ⊢
  by_cases hlt : i < j
  · obtain ⟨h,hh,hh1,hh2⟩ : ∃ h : Nat,((i : Int) + (j : Int)) / 2 = (h : Nat) ∧ i ≤ h ∧ h < j:=⟨(i + j) / 2,by omega,by omega,by omega⟩
    have hhl : h < xs.length:=by omega
    have e0:=rd_at (d:=tInt) hhl
    by_cases c1 : rd tInt xs h < n
    · have hA : ∀ q (hq : q < xs.length),q < h + 1 → xs[q] < n:=fun q hq hq2=>by
        by_cases e : q = h
        · subst e;rw [← e0];exact c1
        · have:=hs q h hq hhl (by omega);rw [← e0] at this;omega
      repeat (first|(refine gL ?_;refine s_pv (p_i2u rfl (by omega) (by omega)) rfl ?_)|(refine gGP ?_;refine gp (p_shr1 rfl rfl (by omega)) ?_)|(refine gL ?_;rw [hh];refine s_pv (p_u2i rfl (by omega) (by omega)) rfl ?_)|refine Y ?_|(refine qf ?_;go_at_call 118;refine (cmpLess _ _).mono ?_;rintro e W1 ⟨rfl,rfl⟩;refine ⟨_,rfl,?_⟩))
      exact n_round (h + 1,j) U ⟨by dsimp only;omega,h2,hA,h4,HM⟩ (by dsimp only;omega)
    · have hA : ∀ q (hq : q < xs.length),h ≤ q → n ≤ xs[q]:=fun q hq hq2=>by
        by_cases e : q = h
        · subst e;rw [← e0];omega
        · have:=hs h q hhl hq (by omega);rw [← e0] at this;omega
      repeat (first|(refine gL ?_;refine s_pv (p_i2u rfl (by omega) (by omega)) rfl ?_)|(refine gGP ?_;refine gp (p_shr1 rfl rfl (by omega)) ?_)|(refine gL ?_;rw [hh];refine s_pv (p_u2i rfl (by omega) (by omega)) rfl ?_)|refine Y ?_|(refine qf ?_;go_at_call 118;refine (cmpLess _ _).mono ?_;rintro e W1 ⟨rfl,rfl⟩;refine ⟨_,rfl,?_⟩))
      exact n_round (i,h) U ⟨hh1,by dsimp only;omega,h3,hA,HM⟩ (by dsimp only;omega)
  · obtain rfl : i = j:=by omega
    by_cases c1 : i < xs.length
    rotate_left
    · have eb : decide (∃ h : i < xs.length,xs[i] = n) = false:=by simp only [decide_eq_false_iff_not];rintro ⟨h,_⟩;exact c1 h
      repeat refine Y ?_
      exact ret_two rfl rfl rfl ⟨i,false,rfl,h2,h3,h4,eb.symm,HM⟩
    have e0:=rd_at (d:=tInt) c1
    by_cases c2 : rd tInt xs i = n
    · have eb : decide (∃ h : i < xs.length,xs[i] = n) = true:=by simp only [decide_eq_true_eq];exact ⟨c1,by rw [← e0];exact c2⟩
      repeat refine Y ?_
      exact ret_two rfl rfl rfl ⟨i,true,rfl,h2,h3,h4,eb.symm,HM⟩
    · have eb : decide (∃ h : i < xs.length,xs[i] = n) = false:=by simp only [decide_eq_false_iff_not];rintro ⟨h,e⟩;rw [← e0] at e;exact c2 e
      repeat (first|refine Y ?_|(refine qf ?_;go_at_call 119;refine (slNaN _).mono ?_;rintro e W1 ⟨rfl,rfl⟩;refine ⟨_,rfl,?_⟩))
      exact ret_two rfl rfl rfl ⟨i,false,rfl,h2,h3,h4,eb.symm,HM⟩
theorem int_raw {e : Nat} {xs : List Int} (h : Mem w0 W (own tInt e A c xs :: L)) : Mem w0 W (own (tRaw 1) e A c (xs.map (fun n=>[.int .i64 n])) :: L):=by
  obtain ⟨hb,F,h1,⟨css,hl,G,g1,hrow,hels⟩,h3⟩:=h
  have hc : css = xs.map (fun n=>[Value.int .i64 n]):=by
    refine List.ext_getElem (by simpa using hl) fun i hi hi2=>?_
    obtain ⟨F',_,hA,_⟩:=els_get (d:=tInt) i (by simpa using hi2) hi hels
    simpa using hA
  subst hc
  have h4 : (xs.map (fun n=>[Value.int .i64 n])).length = xs.length:=List.length_map ..
  refine ⟨hb,F,h1,⟨_,rfl,G,g1,by rw [h4];exact hrow,els_raw W _ _ (by simp) (fun u hu=>by simp only [List.mem_flatten,List.mem_map] at hu;obtain ⟨_,⟨m,_,rfl⟩,hu⟩:=hu;simp only [List.mem_singleton] at hu;subst hu;rfl)⟩,h3⟩
theorem raw_int {e : Nat} {xs : List Int} (h : Mem w0 W (own (tRaw 1) e A c (xs.map (fun n=>[.int .i64 n])) :: L)) : Mem w0 W (own tInt e A c xs :: L):=by
  obtain ⟨hb,F,h1,⟨css,hl,G,g1,hrow,hels⟩,h3⟩:=h
  have hc : css = xs.map (fun n=>[Value.int .i64 n]):=by
    refine List.ext_getElem hl fun i hi hi2=>?_
    obtain ⟨F',_,hA,_⟩:=els_get (d:=tRaw 1) i hi2 hi hels
    exact hA.1
  subst hc
  rw [List.length_map] at hrow
  exact ⟨hb,F,h1,⟨_,List.length_map ..,G,g1,hrow,els_flat (D:=tInt) (enc:=fun n=>[Value.int .i64 n]) W xs _⟩,h3⟩
theorem joinC {xs : List Int} (n : Int) (hs : xs.Pairwise (· < ·)) (hn : xs.length ≤ 1000) (HM : Mem w0 W (own tInt 3 A c xs :: L)) : Calls Tryz.prog 99 #[.slice A xs.length c,.int .i64 n] W fun e W'=>∃ A' c',e = .returned (.slice A' (addL xs n).length c') ∧ Mem w0 W' (own tInt 3 A' c' (addL xs n) :: L):=by
  refine enter Tryz.func99 rfl Tryz.ntmps99 [(0,_),(1,_)] rfl ⟨rfl,rfl,trivial⟩ ?_
  repeat (first|refine Y ?_|(refine qf ?_;go_at_call 113;refine (bsearch n hs (by omega) HM).mono ?_;rintro e W1 ⟨k,b,rfl,hk,h1,h2,hb,HM1⟩;refine ⟨_,rfl,?_⟩;replace HM:=HM1;clear HM1))
  by_cases c1 : ∃ h : k < xs.length,xs[k] = n
  · have hb1 : b = true:=by rw [hb];simpa using c1
    obtain ⟨hk2,e1⟩:=c1
    have e : addL xs n = xs:=addL_in hk2 h1 e1
    rw [e]
    repeat refine Y ?_
    exact ret_tmp rfl rfl ⟨A,c,rfl,HM⟩
  · have hb1 : b = false:=by rw [hb];simpa using c1
    have e : addL xs n = xs.take k ++ [n] ++ xs.drop k:=addL_new hk h1 (fun h=>by
      have:=h2 k h (Nat.le_refl _)
      by_cases e : xs[k] = n
      · exact absurd ⟨h,e⟩ c1
      · omega)
    have em : (xs.take k ++ [n] ++ xs.drop k).map (fun n=>[Value.int .i64 n]) = (xs.map (fun n=>[Value.int .i64 n])).take k ++ [[Value.int .i64 n]] ++ (xs.map (fun n=>[Value.int .i64 n])).drop k:=by simp
    have el : (xs.take k ++ [n] ++ xs.drop k).length = ((xs.map (fun n=>[Value.int .i64 n])).take k ++ [[Value.int .i64 n]] ++ (xs.map (fun n=>[Value.int .i64 n])).drop k).length:=by rw [← em,List.length_map]
    rw [e]
    repeat (first|refine Y ?_|(refine qf ?_;go_at_call 114;have HM2:=int_raw (HM.pk (A:=own tInt 3 A c xs));have HM3:=(insertI (A:=A) (c:=c) (css:=xs.map (fun n=>[.int .i64 n])) (cv:=[.int .i64 n]) k (by rw [List.length_map];exact hk) (by rw [List.length_map];exact hn) rfl (fun u hu=>by simp only [List.mem_singleton] at hu;subst hu;rfl) HM2);rw [List.length_map] at HM3;refine HM3.mono ?_;clear HM2 HM3;rintro e W1 ⟨A1,c1,rfl,HM1⟩;refine ⟨_,rfl,?_⟩;clear HM;rw [← em] at HM1;have HM:=raw_int HM1;clear HM1)|(refine qg ?_;clear HM;intro g W1 HM))
    exact ret_tmp rfl rfl ⟨A1,c1,by rw [el],HM⟩
end Go.Proofs.YtampmicahnnebaaGreat.Sp
namespace Go.Proofs.YtampmicahnnebaaGreat.Sp
open Go Go.RowKit
set_option maxRecDepth 10000
set_option maxHeartbeats 2000000
variable {w0 W : World} {L : List Asn} {A : Option Addr} {c : Nat}
section
variable {P : Program} {n : Nat} {ops : Array Oper} {Q : Exit → Act → World → Prop} {rest : List Oper} {E : Env} {L' R : List Asn}
variable {d : Nat} {ty st : TypeId} {pos : String} {after : Array Edge} {x y : Operand} {e sz : Nat}
theorem s_clear {g o l q t : Nat} {cs : List Value} {zv : Value} [hU : Und P st (.slice e)] [hz : Zer P e [zv]] (hm : Mem w0 W L) (hx : ev E x = some (.slice (some ⟨g,o,none⟩) l q)) [hB : BoxAt L g t cs] (hl : o + l ≤ cs.length) (h1 : zv.oneCell' = true) [hr : Rp L (box g t cs) (box g t (puts cs o (List.replicate l zv))) L']
    (h : ∀ W1,Mem w0 W1 L' → WL P n ops Q rest E W1) :
    WL P n ops Q (⟨none,.call { callee:=.builtin .clear,args:=#[x],argTypes:=#[st] },ty,pos,after,none⟩ :: rest) E W:=by
  obtain ⟨i0,z,hi,hzz,hzc⟩:=hz.out
  have hh:=hm.heap (g:=g)
  have hzz2 : z.cells = #[zv]:=by rw [← Array.toList_inj];simpa using hzc
  have hth:=there_box hh (n:=l) hl
  have hzl : (Builtin.zeroCells z.cells l).toList = List.replicate l zv:=by
    rw [hzz2]
    refine List.ext_getElem (by simp [Builtin.zeroCells]) fun i h1 h2=>?_
    simp [Builtin.zeroCells,Nat.mod_one]
  have h3:=run_storeCells_cells (P:=P) g o (List.replicate l zv) 0 W (by simpa using fun j hj=>(hth j hj).1) (by simpa using fun j hj=>(hth j hj).2) (fun v hv=>by rw [List.eq_of_mem_replicate hv];exact h1)
  simp only [Nat.add_zero] at h3
  have h4:=setCells_heap g t (0,0) (List.replicate l zv) o W cs hh
  have hrun : (Builtin.clear_ #[st] ty #[.slice (some ⟨g,o,none⟩) l q]).run P W = .ok (.tuple #[]) (W.setCells g o (List.replicate l zv)):=by
    cases l with
    | zero=>simp [Builtin.clear_,run_underlying hU.out,World.setCells]
    | succ l=>simp [Builtin.clear_,run_underlying hU.out,zeroValue,typeInfo,hi,hzz,hzl,h3]
  refine ⟨fun a ha=>?_⟩
  have h5:=(h _ (hm.put (cs:=cs) (cs':=puts cs o (List.replicate l zv)) h4 (grown_setCells g _ o W))).out a ha
  refine wpList_plain rfl fun K hK=>?_
  unfold Oper.wp
  have hex : (execOp a.eval ⟨none,.call { callee:=.builtin .clear,args:=#[x],argTypes:=#[st] },ty,pos,after,none⟩).run P W = .ok (.value (.tuple #[])) (W.setCells g o (List.replicate l zv)):=by
    simp [execOp,ha.eval hx,resolve,invoke,builtin,hrun]
  rw [hex]
  exact hK _ _ h5
end
theorem flat_raw {α : Type} {D : Ty α} {enc : α → List Value} [hf : Flat D enc] [ho : FlatO D enc] {e : Nat} {xs : List α} (h : Mem w0 W (own D e A c xs :: L)) : Mem w0 W (own (tRaw D.sz) e A c (xs.map enc) :: L):=by
  obtain ⟨css,hl,h1⟩:=opn_raw h
  have h2:=h1
  obtain ⟨_,_,h3⟩:=(h1.perm (List.Perm.swap ..)).ex
  have hc : css = xs.map enc:=by
    refine List.ext_getElem (by simpa using hl) fun i hi hi2=>?_
    obtain ⟨F0,_,hs,_⟩:=SepIn.append h3.sep
    obtain ⟨F',hA⟩:=els_get (d:=D) i (by simpa using hi2) hi hs
    simpa using hf.out hA
  rw [hc] at h2
  exact (h2.perm (List.Perm.swap ..)).drop
theorem raw_flat {α : Type} {D : Ty α} {enc : α → List Value} [ho : FlatO D enc] {e : Nat} {xs : List α} (h : Mem w0 W (own (tRaw D.sz) e A c (xs.map enc) :: L)) : Mem w0 W (own D e A c xs :: L):=cls_raw ((h.flat (D:=D) xs).perm (List.Perm.swap ..))
theorem indexStr {ws : List ByteArray} {gr : Nat} (p : ByteArray → Bool) (hkn : ∀ (R : List Asn) (t : ByteArray) (W' : World),Mem w0 W' (R ++ L) → Calls Tryz.prog 67 #[.pointer (some ⟨gr,0,none⟩),.string t] W' fun e W''=>e = .returned (.bool (p t)) ∧ Mem w0 W'' (R ++ L)) (hn : ws.length ≤ 1048576) (HM : Mem w0 W (own tStr 9 A c ws :: L)) : Calls Tryz.prog 98 #[.slice A ws.length c,.func (.func 67) #[.pointer (some ⟨gr,0,none⟩)] #[]] W fun e W'=>∃ r : Int,e = .returned (.int .i64 r) ∧ ((r = -1 ∧ ∀ j (h : j < ws.length),p ws[j] = false) ∨ ∃ k : Nat,r = k ∧ (∀ j (h : j < ws.length),j < k → p ws[j] = false) ∧ ∃ h : k < ws.length,p ws[k] = true) ∧ Mem w0 W' (own tStr 9 A c ws :: L):=by
  refine enter Tryz.func98 rfl Tryz.ntmps98 [(0,_),(1,_)] rfl ⟨rfl,rfl,trivial⟩ ?_
  repeat refine Y ?_
  refine c_loop (σ:=Nat) (fun k=>[(0,.slice A ws.length c),(1,.func (.func 67) #[.pointer (some ⟨gr,0,none⟩)] #[]),(7,.int .i64 ws.length),(8,.int .i64 k)]) (fun k W1=>k ≤ ws.length ∧ (∀ j (h : j < ws.length),j < k → p ws[j] = false) ∧ Mem w0 W1 (own tStr 9 A c ws :: L)) (fun k=>ws.length - k) 0 U ⟨Nat.zero_le _,fun j h hj=>by omega,HM⟩ ?_
  clear HM
  rintro k W1 ⟨hk,hp,HM⟩
  by_cases hlt : k < ws.length
  · have e0:=rd_at (d:=tStr) hlt
    by_cases c1 : p (rd tStr ws k) = true
    · repeat (first|(refine gCall ?_;refine s_callv (f:=67) (first:=[.pointer (some ⟨gr,0,none⟩)]) (captured:=[]) rfl rfl rfl ?_;refine (hkn [own tStr 9 A c ws] (rd tStr ws k) _ HM).mono ?_;rintro e W1 ⟨rfl,HM1⟩;refine ⟨_,rfl,?_⟩;replace HM:=HM1;clear HM1;simp only [List.cons_append,List.nil_append] at HM)|refine Y ?_)
      exact ret_tmp rfl rfl ⟨k,rfl,.inr ⟨k,rfl,hp,hlt,by rw [← e0];exact c1⟩,HM⟩
    · simp only [Bool.not_eq_true] at c1
      have hp2 : ∀ q (h : q < ws.length),q < k + 1 → p ws[q] = false:=fun q hq hq2=>by
        by_cases e : q = k
        · subst e;rw [← e0];exact c1
        · exact hp q hq (by omega)
      repeat (first|(refine gCall ?_;refine s_callv (f:=67) (first:=[.pointer (some ⟨gr,0,none⟩)]) (captured:=[]) rfl rfl rfl ?_;refine (hkn [own tStr 9 A c ws] (rd tStr ws k) _ HM).mono ?_;rintro e W1 ⟨rfl,HM1⟩;refine ⟨_,rfl,?_⟩;replace HM:=HM1;clear HM1;simp only [List.cons_append,List.nil_append] at HM)|refine Y ?_)
      exact n_round (k + 1) U ⟨by omega,hp2,HM⟩ (by omega)
  · have hp2 : ∀ j (h : j < ws.length),p ws[j] = false:=fun j h=>hp j h (by omega)
    repeat refine Y ?_
    exact ret_tmp rfl rfl ⟨-1,rfl,.inl ⟨rfl,hp2⟩,HM⟩
theorem deleteStr {ws : List ByteArray} {gr : Nat} (p : ByteArray → Bool) (hkn : ∀ (R : List Asn) (t : ByteArray) (W' : World),Mem w0 W' (R ++ L) → Calls Tryz.prog 67 #[.pointer (some ⟨gr,0,none⟩),.string t] W' fun e W''=>e = .returned (.bool (p t)) ∧ Mem w0 W'' (R ++ L)) (hn : ws.length ≤ 1000) (HM : Mem w0 W (own tStr 9 A c ws :: L)) : Calls Tryz.prog 66 #[.slice A ws.length c,.func (.func 67) #[.pointer (some ⟨gr,0,none⟩)] #[]] W fun e W'=>e = .returned (.slice A (ws.filter (fun w=>!p w)).length c) ∧ Mem w0 W' (own tStr 9 A c (ws.filter (fun w=>!p w)) :: L):=by
  refine enter Tryz.func66 rfl Tryz.ntmps66 [(0,_),(1,_)] rfl ⟨rfl,rfl,trivial⟩ ?_
  repeat (first|refine Y ?_|(refine qf ?_;go_at_call 98;refine (indexStr p hkn (by omega) HM).mono ?_;rintro e W1 ⟨r,rfl,hr,HM1⟩;refine ⟨_,rfl,?_⟩;replace HM:=HM1;clear HM1))
  rcases hr with ⟨rfl,hp⟩|⟨k,rfl,hp,hk,hpk⟩
  · have e : ws.filter (fun w=>!p w) = ws:=List.filter_eq_self.2 (fun w hw=>by
      obtain ⟨j,hj,rfl⟩:=List.getElem_of_mem hw
      simp [hp j hj])
    rw [e]
    repeat refine Y ?_
    exact ret_tmp rfl rfl ⟨rfl,HM⟩
  repeat refine Y ?_
  have hpre : ws.take k = (ws.take (k + 1)).filter (fun w=>!p w):=by
    rw [List.take_succ_eq_append_getElem hk,List.filter_append,List.filter_cons,hpk]
    simp only [Bool.not_true,List.filter_nil,List.append_nil,Bool.false_eq_true,if_false]
    refine (List.filter_eq_self.2 (fun w hw=>?_)).symm
    obtain ⟨j,hj,rfl⟩:=List.getElem_of_mem hw
    rw [List.getElem_take]
    simp at hj
    simp [hp j (by omega) (by omega)]
  refine c_loop (σ:=Nat × Nat × List ByteArray) (fun s=>[(0,.slice A ws.length c),(1,.func (.func 67) #[.pointer (some ⟨gr,0,none⟩)] #[]),(5,.int .i64 s.1),(6,.int .i64 s.2.1)]) (fun s W1=>s.1 < s.2.1 ∧ s.2.1 ≤ ws.length ∧ s.2.2.length = ws.length ∧ s.2.2.take s.1 = (ws.take s.2.1).filter (fun w=>!p w) ∧ s.2.2.drop s.2.1 = ws.drop s.2.1 ∧ Mem w0 W1 (own tStr 9 A c s.2.2 :: L)) (fun s=>ws.length - s.2.1) (k,k + 1,ws) (by simp only [Int.natCast_add,Int.natCast_one];exact U) ⟨by dsimp only;omega,hk,rfl,hpre,rfl,HM⟩ ?_
  clear HM
  rintro ⟨i,j,ys⟩ W1 ⟨h1,h2,h3,h4,h5,HM⟩
  dsimp only at h1 h2 h3 h4 h5 HM ⊢
  by_cases hlt : j < ws.length
  · have hly : j < ys.length:=by omega
    have e0 : rd tStr ys j = ws[j]:=by
      rw [rd_at hly]
      have:=congrArg (fun l=>l[0]?) h5
      simpa [hlt,hly] using this
    have hd : ys.drop (j + 1) = ws.drop (j + 1):=by
      have:=congrArg (List.drop 1) h5
      simpa [List.drop_drop] using this
    by_cases c1 : p (rd tStr ys j) = true
    · have hst : ys.take i = (ws.take (j + 1)).filter (fun w=>!p w):=by
        rw [List.take_succ_eq_append_getElem hlt,List.filter_append,← h4,← e0,List.filter_cons,c1];simp
      repeat (first|(refine gCall ?_;refine s_callv (f:=67) (first:=[.pointer (some ⟨gr,0,none⟩)]) (captured:=[]) rfl rfl rfl ?_;refine (hkn [own tStr 9 A c ys] (rd tStr ys j) _ HM).mono ?_;rintro e W1 ⟨rfl,HM1⟩;refine ⟨_,rfl,?_⟩;replace HM:=HM1;clear HM1;simp only [List.cons_append,List.nil_append] at HM)|refine Y ?_)
      exact n_round (i,j + 1,ys) (by simp only [Int.natCast_add,Int.natCast_one];exact U) ⟨by dsimp only;omega,hlt,h3,hst,hd,HM⟩ (by dsimp only;omega)
    · simp only [Bool.not_eq_true] at c1
      have hst : (ys.set i (rd tStr ys j)).take (i + 1) = (ws.take (j + 1)).filter (fun w=>!p w):=by
        rw [List.take_succ_eq_append_getElem hlt,List.filter_append,← h4,← e0,List.filter_cons,c1,List.take_succ_eq_append_getElem (by rw [List.length_set];omega),List.getElem_set_self,List.take_set_of_le (Nat.le_refl _)];simp
      have hd2 : (ys.set i (rd tStr ys j)).drop (j + 1) = ws.drop (j + 1):=by rw [List.drop_set_of_lt (by omega)];exact hd
      repeat (first|(refine gCall ?_;refine s_callv (f:=67) (first:=[.pointer (some ⟨gr,0,none⟩)]) (captured:=[]) rfl rfl rfl ?_;refine (hkn [own tStr 9 A c ys] (rd tStr ys j) _ HM).mono ?_;rintro e W1 ⟨rfl,HM1⟩;refine ⟨_,rfl,?_⟩;replace HM:=HM1;clear HM1;simp only [List.cons_append,List.nil_append] at HM)|refine Y ?_|(refine gStore ?_;refine s_storeo HM rfl rfl rfl (by omega) (by omega) rfl ?_;clear HM;intro W1 HM;(try dsimp only at HM)))
      simp only [Int.toNat_natCast] at HM
      exact n_round (i + 1,j + 1,ys.set i (rd tStr ys j)) (by simp only [Int.natCast_add,Int.natCast_one];exact U) ⟨by dsimp only;omega,hlt,by dsimp only;rw [List.length_set];exact h3,hst,hd2,HM⟩ (by dsimp only;omega)
  · obtain rfl : j = ws.length:=by omega
    rw [List.take_length] at h4
    have hil : (ws.filter (fun w=>!p w)).length = i:=by rw [← h4,List.length_take];omega
    have HMr:=flat_raw (D:=tStr) (enc:=fun n=>[Value.string n]) HM
    clear HM
    rcases opn_box HMr with ⟨_,h0,_⟩|⟨g,cur,rfl,hcl,hct,hnc,hcm,hx3,hx4,HM⟩
    · rw [List.map_eq_nil_iff] at h0
      rw [h0,List.length_nil] at h3
      omega
    clear HMr
    have hic : i < c:=by rw [List.length_map] at hnc;omega
    have hcl2 : cur.length = c:=by rw [hcl];exact Nat.mul_one c
    have hcy : ys.length ≤ c:=by rw [List.length_map] at hnc;exact hnc
    have hfl : ∀ l : List ByteArray,(l.map (fun n=>[Value.string n])).flatten = l.map Value.string:=fun l=>by
      induction l with
      | nil=>rfl
      | cons a r ih=>rw [List.map_cons,List.flatten_cons,ih];rfl
    repeat (first|(refine gGP ?_;refine gp (p_from rfl rfl (by omega) (by omega) (by omega)) ?_)|(refine gCall ?_;refine s_clear (zv:=.string ⟨#[]⟩) HM rfl (by show _ ≤ cur.length;omega) rfl ?_;clear HM;intro W1 HM)|refine Y ?_)
    rw [hfl] at hct
    have hct2 : cur.take ys.length = ys.map Value.string:=by rw [← hct,List.length_map];exact congrArg (fun q=>cur.take q) (Nat.mul_one ys.length).symm
    simp only [Int.toNat_natCast,Nat.zero_add,Nat.mul_one] at HM
    refine ret_tmp rfl rfl ⟨by rw [hil];simp only [Int.toNat_natCast],?_⟩
    refine raw_flat (enc:=fun n=>[Value.string n]) (cls_box (cur:=_) HM (by rw [puts_len];exact hcl) ?_ (by rw [List.length_map,hil];omega) hcm (fun x hx=>?_) (fun u hu=>?_))
    · rw [hfl,List.length_map,hil,← h4]
      show List.take (i * 1) _ = _
      rw [Nat.mul_one,puts_eq _ _ _ (by rw [List.length_replicate];omega),List.append_assoc,List.take_append_of_le_length (by rw [List.length_take];omega),List.take_take,Nat.min_self,List.map_take,← hct2,List.take_take,Nat.min_eq_left (by omega)]
    · obtain ⟨n,_,rfl⟩:=List.mem_map.1 hx
      rfl
    · rw [hfl] at hu
      obtain ⟨n,_,rfl⟩:=List.mem_map.1 hu
      rfl
end Go.Proofs.YtampmicahnnebaaGreat.Sp
namespace Go.Proofs.YtampmicahnnebaaGreat.Sp
open Go Go.RowKit
set_option maxRecDepth 10000
def enumF {α : Type} (mk : α → Value) : Nat → List α → List (Nat × Value)
  | _,[]=>[]
  | k,m :: r=>(k,mk m) :: enumF mk (k + 1) r
theorem fill_enum {α : Type} (mk : α → Value) (hc : ∀ m,(mk m).cells = #[mk m]) : ∀ (ms : List α) (k : Nat) (cs : List Value),k + ms.length = cs.length → Instr.fill (fun i=>some (i * 1,1)) cs.toArray (enumF mk k ms) = some (cs.take k ++ ms.map mk).toArray
  | [],k,cs,h=>by
    simp only [enumF,Instr.fill,List.map_nil,List.append_nil]
    rw [List.take_of_length_le (by simp at h;omega)]
  | m :: r,k,cs,h=>by
    have hk : k < cs.length:=by simp at h;omega
    have ih:=fill_enum mk hc r (k + 1) (cs.set k (mk m)) (by simp at h ⊢;omega)
    unfold enumF Instr.fill
    simp only [hc,Nat.mul_one,List.size_toArray,List.length_cons,List.length_nil]
    rw [if_neg (by simp;omega)]
    have e : (#[mk m].zipIdx.foldl (fun cs (x : Value × Nat)=>cs.setIfInBounds (k + x.2) x.1) cs.toArray) = (cs.set k (mk m)).toArray:=by simp
    have e2 : ((cs.set k (mk m)).take (k + 1) ++ r.map mk) = cs.take k ++ (m :: r).map mk:=by
      rw [List.take_add_one,List.take_set_of_le (Nat.le_refl _)]
      simp [hk]
    rw [← e2]
    simp only [Nat.mul_one] at ih
    rw [← ih]
    exact congrArg (fun c=>Instr.fill (fun i=>some (i,1)) c (enumF mk (k + 1) r)) e
section
variable {P : Program} {n : Nat} {ops : Array Oper} {Q : Exit → Act → World → Prop} {rest : List Oper} {E : Env} {w0 W : World} {L : List Asn} {d : Nat} {ty : TypeId} {pos : String} {after : Array Edge} {t e bytes : Nat} {parts : List (Nat × Operand)}
theorem s_litk {α : Type} {D : Ty α} {enc : α → List Value} [ho : FlatO D enc] (mk : α → Value) (he : ∀ m,enc m = [mk m]) (hc : ∀ m,(mk m).cells = #[mk m]) (ho1 : ∀ m,(mk m).oneCell' = true) (hs : D.sz = 1) (ms : List α) [hU : Und P t (.slice e)] [hE : Elt P e 1 bytes] (hm : Mem w0 W L) (hx : evp E parts = some (enumF mk 0 ms)) (hn : Nat.blt d n = true) (hl0 : 0 < ms.length) (hl : ms.length ≤ 1000)
    (h : ∀ g W1,Mem w0 W1 (own D e (some ⟨g,0,none⟩) ms.length ms :: L) → WL P n ops Q rest ((d,.slice (some ⟨g,0,none⟩) ms.length ms.length) :: E) W1) :
    WL P n ops Q (⟨some d,.buildSlice t ms.length parts.toArray,ty,pos,after,none⟩ :: rest) E W:=by
  obtain ⟨i,z,hi,hz,hzs,hss,hb,hs0,hb0⟩:=hE.spec
  have hbox:=hm.alloc e (ms.map mk)
  have hrow : Mem w0 (W.alloc (.cells (ms.map mk).toArray e)) (own D e (some ⟨W.heap.size,0,none⟩) ms.length ms :: L):=by
    refine raw_flat (enc:=enc) ?_
    rw [hs]
    have hf : (ms.map enc).flatten = ms.map mk:=by
      clear hx h hl hl0 hbox
      induction ms with
      | nil=>rfl
      | cons m r ih=>simp [he,ih]
    refine cls_box (n:=1) (cur:=ms.map mk) hbox (by simp) (by rw [hf,List.length_map,Nat.mul_one,List.take_of_length_le (by simp)]) (by simp) (by unfold maxLen;omega) (fun x hx=>by obtain ⟨m,_,rfl⟩:=List.mem_map.1 hx;rw [he];rfl) (fun u hu=>by rw [hf] at hu;obtain ⟨m,_,rfl⟩:=List.mem_map.1 hu;exact ho1 m)
  refine s_run (W1:=W.alloc (.cells (ms.map mk).toArray e)) rfl rfl hn (fun a ha=>?_) (h W.heap.size _ hrow)
  have hp : (parts.toArray.map fun (i,x)=>(i,a.eval x)).toList = enumF mk 0 ms:=by rw [← ha.evp hx];simp
  have hfill : ∀ cs : Array Value,cs.size = ms.length → Instr.fill (fun i=>some (i * 1,1)) cs (enumF mk 0 ms) = some (ms.map mk).toArray:=by
    intro cs hcs
    have h6 : cs = cs.toList.toArray:=by simp
    rw [h6,fill_enum mk hc ms 0 cs.toList (by simp [hcs])]
    simp
  have hrun : (Instr.buildSlice t ms.length (parts.toArray.map fun (i,x)=>(i,a.eval x))).run P W = .ok (.slice (some ⟨W.heap.size,0,none⟩) ms.length ms.length) (W.alloc (.cells (ms.map mk).toArray e)):=by
    have h7 : ¬ 16777216 < ms.length * 1:=by omega
    have h8 : ms.length * 1 ≠ 0:=by omega
    have h9 : ms ≠ []:=fun h=>by rw [h] at hl0;simp at hl0
    have hp2:=ha.evp hx
    simp [Instr.buildSlice,underlying,hU.out,sizeOf,typeInfo,hi,hss,zeroValue,hz,h9,newRow,World.alloc_eq,hp2]
    rw [if_neg (by omega)]
    simp only [Nat.mul_one] at hfill
    rw [hfill _ (by simp)]
    simp
  have h10 : (execOp a.eval ⟨some d,.buildSlice t ms.length parts.toArray,ty,pos,after,none⟩) = (Instr.buildSlice t ms.length (parts.toArray.map fun (i,x)=>(i,a.eval x)) >>= fun v=>pure (Next.value v)):=rfl
  rw [h10]
  simp only [Sem.run_bind,hrun,Result.andThen_ok,Sem.run_pure]
end
end Go.Proofs.YtampmicahnnebaaGreat.Sp
namespace Go.Proofs.YtampmicahnnebaaGreat.Sp
open Go Go.RowKit
set_option maxRecDepth 10000
set_option maxHeartbeats 4000000
variable {w0 W : World} {L : List Asn}
theorem calm_c (x : Wld) (i : AtW) (n : Int) (hv : WP x) (HM : Mem w0 W (wldP x i ++ L)) : Calls Tryz.prog 88 #[.agg (encW x i).toArray,.int .i64 n] W fun e W'=>∃ y j,WP y ∧ e = .returned (.agg (encW y j).toArray) ∧ Mem w0 W' (wldP y j ++ L):=by
  refine enter Tryz.func88 rfl Tryz.ntmps88 [(0,.agg (encW x i).toArray),(1,_)] rfl ⟨rfl,rfl,trivial⟩ ?_
  unfold encW
  simp only [wldP,List.cons_append,List.nil_append] at HM
  repeat (first|refine Y ?_|(refine qs ?_;clear HM;intro W1 HM)|(refine qf ?_;first|(go_at_call 112;refine (specWorldOk x i (ro_w3 x i HM) hv.small (Mem.start _)).mono ?_;rw [worldB_iff.2 hv];rintro e W1 ⟨rfl,HM1⟩;refine ⟨_,rfl,?_⟩;have HM2:=HM.step HM1.below;clear HM HM1;have HM:=HM2;clear HM2)|(go_at_call 90;refine (copy_c x i (ro_w3 x i HM) hv.small (Mem.start _)).mono ?_;rintro e W1 ⟨jc,rfl,HM1⟩;refine ⟨_,rfl,?_⟩;replace HM:=HM.join HM1;clear HM1;simp only [wldP,List.cons_append,List.nil_append] at HM;simp only [encW]))|(refine qg ?_;clear HM;intro g W1 HM))
  rename_i ga Wa gz Wb Wc Wd We
  refine c_loop (σ:=Nat × Wld × AtW) (fun s=>[(1,.int .i64 n),(4,.pointer (some ⟨gz,0,none⟩)),(5,.pointer (some ⟨g,0,none⟩)),(6,.int .i64 s.1)]) (fun s W1=>s.1 ≤ 1000 ∧ WP s.2.1 ∧ Mem w0 W1 (box gz 78 [.slice none 0 0,.slice none 0 0,.slice none 0 0] :: box g 78 [.slice s.2.2.b0.1 s.2.1.recs.length s.2.2.b0.2,.slice s.2.2.b1.1 s.2.1.flight.length s.2.2.b1.2,.slice s.2.2.b2.1 s.2.1.fixed.length s.2.2.b2.2] :: own (tRec 91 40 9 3 66) 31 s.2.2.b0.1 s.2.2.b0.2 s.2.1.recs :: flt 91 40 s.2.2.b1.1 s.2.2.b1.2 s.2.1.flight :: own tFix 134 s.2.2.b2.1 s.2.2.b2.2 s.2.1.fixed :: L)) (fun s=>1000 - s.1) (0,x,jc) U ⟨Nat.zero_le _,hv,HM.sb⟩ ?_
  clear HM hv
  rintro ⟨k,y,j⟩ W1 ⟨hk,hv,HM⟩
  dsimp only at hk hv HM ⊢
  by_cases hlt : (k : Int) < n ∧ (k : Int) < 1000
  · obtain ⟨h1,h2⟩:=hlt
    repeat (first|refine Y ?_|(refine qs ?_;clear HM;intro W1 HM)|(refine qf ?_;go_at_call 107;refine (tick_c y j hv (pk_wld y j HM)).mono ?_;rintro e W1 ⟨y2,j2,hy,rfl,HM1⟩;refine ⟨_,rfl,?_⟩;replace HM:=HM1;clear HM1;simp only [wldP,List.cons_append,List.nil_append] at HM;simp only [encW]))
    have hv2:=hy.1
    have hfl:=hv2.fl
    refine c_loop (σ:=Nat × Wld × AtW) (fun s=>[(1,.int .i64 n),(4,.pointer (some ⟨gz,0,none⟩)),(5,.pointer (some ⟨g,0,none⟩)),(6,.int .i64 k),(7,.int .i64 s.1)]) (fun s W1=>s.1 = s.2.1.flight.length ∧ WP s.2.1 ∧ Mem w0 W1 (box gz 78 [.slice none 0 0,.slice none 0 0,.slice none 0 0] :: box g 78 [.slice s.2.2.b0.1 s.2.1.recs.length s.2.2.b0.2,.slice s.2.2.b1.1 s.2.1.flight.length s.2.2.b1.2,.slice s.2.2.b2.1 s.2.1.fixed.length s.2.2.b2.2] :: own (tRec 91 40 9 3 66) 31 s.2.2.b0.1 s.2.2.b0.2 s.2.1.recs :: flt 91 40 s.2.2.b1.1 s.2.2.b1.2 s.2.1.flight :: own tFix 134 s.2.2.b2.1 s.2.2.b2.2 s.2.1.fixed :: L)) (fun s=>s.1) (y2.flight.length,y2,j2) U ⟨rfl,hv2,HM.sb⟩ ?_
    clear HM hv2 hy hfl hv
    rintro ⟨q,u,ju⟩ W1 ⟨hq,hv,HM⟩
    dsimp only at hq hv HM ⊢
    have hfl2:=hv.fl
    by_cases hq0 : 0 < q
    · repeat (first|refine Y ?_|(refine qs ?_;clear HM;intro W1 HM)|(refine qf ?_;go_at_call 108;refine (bring_c u ju 0 hv (by omega) (pk_wld u ju HM)).mono ?_;rintro e W1 ⟨y3,j3,hy,rfl,HM1⟩;refine ⟨_,rfl,?_⟩;replace HM:=HM1;clear HM1;simp only [wldP,List.cons_append,List.nil_append] at HM;simp only [encW]))
      have hq1 : (q : Int) - 1 = ((q - 1 : Nat) : Int):=by omega
      exact n_round (q - 1,y3,j3) (by dsimp only;rw [← hq1];exact U) ⟨by dsimp only;omega,hy.1,HM.sb⟩ (by dsimp only;omega)
    · repeat refine Y ?_
      exact n_round (k + 1,u,ju) U ⟨by dsimp only;omega,hv,HM.sb⟩ (by dsimp only;omega)
  · by_cases h1 : (k : Int) < n
    · have h2 : ¬ (k : Int) < 1000:=fun h=>hlt ⟨h1,h⟩
      repeat (first|refine Y ?_|(refine qs ?_;clear HM;intro W1 HM)|(refine qf ?_;go_at_call 90;refine (copy_c y j (ro_w3 y j HM) hv.small (Mem.start _)).mono ?_;rintro e W1 ⟨jc,rfl,HM1⟩;refine ⟨_,rfl,?_⟩;replace HM:=HM.join HM1;clear HM1;simp only [wldP,List.cons_append,List.nil_append] at HM;simp only [encW]))
      exact ret_cell HM rfl rfl rfl ⟨y,jc,hv,rfl,by simp only [wldP,List.cons_append,List.nil_append];exact HM.sb⟩
    · repeat (first|refine Y ?_|(refine qs ?_;clear HM;intro W1 HM)|(refine qf ?_;go_at_call 90;refine (copy_c y j (ro_w3 y j HM) hv.small (Mem.start _)).mono ?_;rintro e W1 ⟨jc,rfl,HM1⟩;refine ⟨_,rfl,?_⟩;replace HM:=HM.join HM1;clear HM1;simp only [wldP,List.cons_append,List.nil_append] at HM;simp only [encW]))
      exact ret_cell HM rfl rfl rfl ⟨y,jc,hv,rfl,by simp only [wldP,List.cons_append,List.nil_append];exact HM.sb⟩
def nr (a o : Int) : Rcd:=⟨a,o,true,0,0,[],0,0,[],[],[],false,false,0,[],[],[],0⟩
theorem vr_nr {a o : Int} (h1 : 1 ≤ a) (h2 : a ≤ o) (h5 : o ≤ 5) : VR (nr a o):=⟨by unfold nr;dsimp only;omega,h5,h1,h2,⟨by simp [nr],by simp [nr],slots_nil,by simp [nr],by simp [nr],by simp [nr],by simp [nr]⟩,⟨by simp [nr],by simp [nr],slots_nil,by simp [nr],by simp [nr],by simp [nr],by simp [nr]⟩,by simp [nr],⟨by simp [nr],by simp [nr],by simp [nr]⟩,by simp [nr],by simp [nr],by simp [nr],nums_nil _,slots_nil,acks_nil _,by simp [nr],by simp [nr],by simp [nr],by simp [nr],fun _ _=>⟨rfl,rfl,rfl,rfl,rfl,rfl⟩,by simp [nr]⟩
theorem new_c (a o : Int) (h : (1 ≤ o ∧ o ≤ 5) ∧ 1 ≤ a ∧ a ≤ o) (HM : Mem w0 W L) : Calls Tryz.prog 106 #[.int .i64 a,.int .i64 o] W fun e W'=>e = .returned (.agg (encRcd (nr a o) atZ).toArray) ∧ Mem w0 W' (partRcd 91 40 9 3 66 (nr a o) atZ ++ L):=by
  refine enter Tryz.func106 rfl Tryz.ntmps106 [(0,_),(1,_)] rfl ⟨rfl,rfl,trivial⟩ ?_
  obtain ⟨h1,h2⟩:=h
  repeat (first|refine Y ?_|(refine qs ?_;clear HM;intro W1 HM)|(refine qf ?_;go_at_call 39;refine (l1In_c _ _ _ _).mono ?_;rintro e W1 ⟨rfl,rfl⟩;refine ⟨_,rfl,?_⟩)|(refine qg ?_;clear HM;intro g W1 HM))
  have HM2:=HM.zeroR 91 40 9 3 66
  simp only [partRcd,zeroR,atZ,List.cons_append,List.nil_append] at HM2
  exact ret_cell HM2 rfl rfl rfl ⟨rfl,by simp only [partRcd,nr,atZ,List.cons_append,List.nil_append];exact HM2.sb⟩
theorem neww_c (n : Int) (h1 : 1 ≤ n) (h5 : n ≤ 5) (HM : Mem w0 W L) : Calls Tryz.prog 85 #[.int .i64 n] W fun e W'=>∃ y j,WP y ∧ e = .returned (.agg (encW y j).toArray) ∧ Mem w0 W' (wldP y j ++ L):=by
  refine enter Tryz.func85 rfl Tryz.ntmps85 [(0,_)] rfl ⟨rfl,trivial⟩ ?_
  have hin : 1 ≤ n ∧ n ≤ 5:=⟨h1,h5⟩
  replace HM:=HM.nil (tRec 91 40 9 3 66) 31
  repeat (first|refine Y ?_|(refine qs ?_;clear HM;intro W1 HM)|(refine qf ?_;go_at_call 39;refine (l1In_c _ _ _ _).mono ?_;rintro e W1 ⟨rfl,rfl⟩;refine ⟨_,rfl,?_⟩)|(refine qg ?_;clear HM;intro g W1 HM))
  rename_i gz Wa Wb
  refine c_loop2 (σ:=Nat × List Rcd) (fun s A c=>[(0,.int .i64 n),(2,.pointer (some ⟨gz,0,none⟩)),(3,.pointer (some ⟨g,0,none⟩)),(4,.int .i64 ((s.1 : Int) + 1))]) (fun s A c W1=>(s.1 : Int) ≤ n ∧ s.2 = (List.range s.1).map (fun q : Nat=>nr ((q : Int) + 1) n) ∧ Mem w0 W1 (box gz 78 [.slice none 0 0,.slice none 0 0,.slice none 0 0] :: box g 78 [.slice A s.2.length c,.slice none 0 0,.slice none 0 0] :: own (tRec 91 40 9 3 66) 31 A c s.2 :: L)) (fun s=>n.toNat - s.1) (0,[]) none 0 (by dsimp only;simp only [Int.natCast_zero,Int.zero_add];exact U) ⟨by dsimp only;omega,rfl,HM.sb⟩ ?_
  clear HM
  rintro ⟨k,ys⟩ A c W1 ⟨hk,hys,HM⟩
  dsimp only at hk hys HM ⊢
  have hyl : ys.length = k:=by rw [hys];simp
  by_cases hlt : (k : Int) + 1 ≤ n
  · repeat (first|(refine gR ?_;refine d_start [6,8] [(0,0),(0,2),(0,3),(1,1),(2,4),(2,5),(3,6),(0,7),(3,8)] HM (by kernel_rfl) (by kernel_rfl) qq (by kernel_rfl) rfl ?_;intro HQ HS W1 HM1;replace HM:=HM1;clear HM1)|refine Y ?_|(refine qs ?_;clear HM;intro W1 HM)|(refine qf ?_;go_at_call 106;refine (new_c ((k : Int) + 1) n ⟨hin,by omega,hlt⟩ HM).mono ?_;rintro e W1 ⟨rfl,HM1⟩;refine ⟨_,rfl,?_⟩;replace HM:=HM1;clear HM1;simp only [partRcd,List.cons_append,List.nil_append] at HM;simp only [encRcd])|(refine qa ?_;clear HM;intro A1 c1 W1 HM)|(refine qg ?_;clear HM;intro g W1 HM))
    exact n_round2 (k + 1,ys ++ [nr ((k : Int) + 1) n]) A1 c1 (by simp only [Int.natCast_add,Int.natCast_one];exact U) ⟨by dsimp only;omega,by dsimp only;rw [hys,List.range_succ,List.map_append];rfl,HM.sb⟩ (by dsimp only;omega)
  · have hkn : (k : Int) = n:=by omega
    repeat (first|refine Y ?_|(refine qs ?_;clear HM;intro W1 HM))
    have HM2:=flt_of (HM.nil (tMsg 91) 40)
    clear HM
    have HM:=HM2.nil tFix 134
    clear HM2
    have hv : WP ⟨ys,[],[]⟩:=by
      refine ⟨by dsimp only;omega,by dsimp only;omega,by simp,fun q hq=>?_,by simp,⟨by simp,by simp⟩⟩
      dsimp only at hq ⊢
      have e : ys[q] = nr ((q : Int) + 1) n:=by simp only [hys,List.getElem_map,List.getElem_range]
      rw [e]
      exact ⟨vr_nr (by omega) (by omega) h5,rfl,by rw [hyl];exact hkn.symm⟩
    exact ret_cell HM rfl rfl rfl ⟨⟨ys,[],[]⟩,⟨(A,c),(none,0),(none,0)⟩,hv,rfl,by simp only [wldP,List.cons_append,List.nil_append];exact HM.sb⟩
end Go.Proofs.YtampmicahnnebaaGreat.Sp
