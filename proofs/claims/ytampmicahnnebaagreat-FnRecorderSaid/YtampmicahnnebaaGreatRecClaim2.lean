/- Rows of the call's own: made of zeros, an element written whole, an element laid open. Any program; no condition. -/
import Derived.Test.YtampmicahnnebaaGreatRecClaim1
import Derived.Test.YtampmicahnnebaaGreatWLast
set_option linter.unusedVariables false
set_option linter.unusedSimpArgs false
namespace Go.Proofs.YtampmicahnnebaaGreat.Sp
open Go Go.RowKit
theorem puts_app : ∀ (ws c r : List Value),ws.length = c.length → puts (c ++ r) 0 ws = ws ++ r
  | [],[],r,_=>rfl
  | w :: ws,a :: c,r,h=>by simp only [List.cons_append,puts,List.set_cons_zero];rw [puts_cons,puts_app ws c r (by simpa using h)]
theorem puts_skip : ∀ (c r ws : List Value) (o : Nat),puts (c ++ r) (c.length + o) ws = c ++ puts r o ws
  | [],r,ws,o=>by simp
  | a :: c,r,ws,o=>by
    have : (a :: c).length + o = (c.length + o) + 1:=by simp;omega
    rw [this,List.cons_append,puts_cons,puts_skip c r ws o];rfl
theorem put_part {cs : List Value} : ∀ (ws : List Value) (css1 css2 : List Value) (j : Nat),j + ws.length ≤ cs.length → puts (css1 ++ cs ++ css2) (css1.length + j) ws = css1 ++ puts cs j ws ++ css2:=by
  intro ws
  induction ws generalizing cs with
  | nil=>intros;rfl
  | cons w r ih =>
    intro c1 c2 j hj
    simp only [puts]
    have hj' : j < cs.length:=by simp at hj;omega
    have e : (c1 ++ cs ++ c2).set (c1.length + j) w = c1 ++ cs.set j w ++ c2:=by
      rw [List.append_assoc,List.set_append_right _ _ (by omega),Nat.add_sub_cancel_left,List.set_append_left _ _ hj',List.append_assoc]
    rw [e,Nat.add_assoc,ih c1 c2 (j + 1) (by simp at hj ⊢;omega)]
theorem flat_part {sz : Nat} : ∀ (css : List (List Value)) (i j : Nat) (ws : List Value),(∀ c ∈ css,c.length = sz) → (hi : i < css.length) → j + ws.length ≤ sz → puts css.flatten (i * sz + j) ws = (css.set i (puts css[i] j ws)).flatten
  | c :: r,0,j,ws,h,_,hw=>by
    have hc:=h c (List.mem_cons_self ..)
    have:=put_part (cs:=c) ws [] r.flatten j (by omega)
    simp only [List.nil_append,List.length_nil,Nat.zero_add] at this
    rw [Nat.zero_mul,Nat.zero_add,List.flatten_cons,this];rfl
  | c :: r,i + 1,j,ws,h,hi,hw=>by
    have hc:=h c (List.mem_cons_self ..)
    have : (i + 1) * sz + j = c.length + (i * sz + j):=by rw [Nat.add_mul,hc];omega
    rw [this,List.flatten_cons,puts_skip,flat_part r i j ws (fun x hx=>h x (List.mem_cons_of_mem _ hx)) (by simpa using hi) hw];rfl
theorem puts_len : ∀ (ws cs : List Value) (j : Nat),(puts cs j ws).length = cs.length
  | [],_,_=>rfl
  | w :: r,cs,j=>by simp only [puts];rw [puts_len];simp
theorem owns_puts {e sz n cap g : Nat} : ∀ (ws : List Value) (j : Nat) (W : World) (xs : List Value),W.ownsRow 0 e sz (.slice (some ⟨g,0,none⟩) n cap) n xs → (W.setCells g j ws).ownsRow 0 e sz (.slice (some ⟨g,0,none⟩) n cap) n (puts xs j ws)
  | [],_,_,_,h=>h
  | w :: r,j,W,xs,h=>owns_puts r (j + 1) _ _ (h.stored j w).1
theorem heap_setCells (g : Nat) : ∀ (ws : List Value) (j : Nat) (W : World) (k : Nat),k ≠ g → (W.setCells g j ws).heap[k]? = W.heap[k]?
  | [],_,_,_,_=>rfl
  | w :: r,j,W,k,h=>(heap_setCells g r (j + 1) _ k h).trans (Below.heap_setCell _ _ _ k (fun e=>h e))
section
variable {α : Type} {D : Ty α} {e c : Nat} {A : Option Addr} {xs : List α} {w0 W : World} {L L' R : List Asn}
def hol (D : Ty α) (e : Nat) (A : Option Addr) (c : Nat) (xs : List α) (i : Nat) (cs : List Value) : Asn :=
  exP (fun css : List (List Value)=>css.length = xs.length ∧ i < xs.length ∧ css[i]? = some cs ∧ (∀ c ∈ css,c.length = D.sz) ∧ ∀ u ∈ cs,u.oneCell' = true) (fun css=>row e D.sz A xs.length c css.flatten :: els D (xs.eraseIdx i) (css.eraseIdx i))
class HolAt (L : List Asn) (A : Option Addr) (c : outParam Nat) (α : outParam Type) (D : outParam (Ty α)) (e : outParam Nat) (xs : outParam (List α)) (i : outParam Nat) (cs : outParam (List Value)) : Prop where mem : ∃ R,L.Perm (hol D e A c xs i cs :: R)
instance HolAt.here {i : Nat} {cs : List Value} : HolAt (hol D e A c xs i cs :: L) A c α D e xs i cs:=⟨L,List.Perm.refl _⟩
instance (priority:=low) HolAt.there {i : Nat} {cs : List Value} {B : Asn} [h : HolAt L A c α D e xs i cs] : HolAt (B :: L) A c α D e xs i cs:=⟨by
  obtain ⟨R,h⟩:=h.mem
  exact ⟨B :: R,(List.Perm.cons B h).trans (List.Perm.swap _ B R)⟩⟩
theorem opn_ (h : Mem w0 W (own D e A c xs :: L)) (i : Nat) (hi : i < xs.length) : ∃ cs,Mem w0 W (hol D e A c xs i cs :: D.A xs[i] cs :: L):=by
  obtain ⟨css,hl,h⟩:=h.ex
  have hel : Mem w0 W (row e D.sz A xs.length c css.flatten :: D.A xs[i] (css[i]'(by omega)) :: (els D (xs.eraseIdx i) (css.eraseIdx i) ++ L)) :=
    h.perm (List.Perm.cons _ ((els_perm xs css i hi (by omega)).append_right L))
  have hs : ∀ c ∈ css,c.length = D.sz:=by
    obtain ⟨F,_,_,h3⟩:=h.sep
    obtain ⟨G,_,h4,_⟩:=SepIn.append h3
    exact els_len hl h4
  have hone : ∀ u ∈ css[i]'(by omega),u.oneCell' = true:=by
    obtain ⟨F,_,_,G,_,h3,_⟩:=hel.sep
    exact D.one h3
  refine ⟨css[i]'(by omega),Mem.mkx css ⟨hl,hi,List.getElem?_eq_getElem (by omega),hs,hone⟩ ?_⟩
  refine hel.perm (List.Perm.cons _ ?_)
  exact (List.perm_middle (a:=D.A xs[i] (css[i]'(by omega))) (l₁:=els D (xs.eraseIdx i) (css.eraseIdx i)) (l₂:=L)).symm
theorem els_put2 : ∀ (xs : List α) (css : List (List Value)) (i : Nat) (hi : i < xs.length) (hc : i < css.length) (x : α),(D.A x css[i] :: els D (xs.eraseIdx i) (css.eraseIdx i)).Perm (els D (xs.set i x) css):=by
  intro xs css i hi hc x
  have:=els_put (d:=D) xs css i hi hc x css[i]
  rwa [List.set_getElem_self] at this
theorem cls_ {i : Nat} {cs : List Value} {x : α} (h : Mem w0 W (hol D e A c xs i cs :: D.A x cs :: L)) : Mem w0 W (own D e A c (xs.set i x) :: L):=by
  obtain ⟨css,⟨hl,hi,hc,hs,hone⟩,h⟩:=h.ex
  have hci : css[i]'(by omega) = cs:=by rw [List.getElem?_eq_getElem (by omega)] at hc;exact Option.some.inj hc
  refine Mem.mkx css (by simpa using hl) ?_
  rw [List.length_set]
  refine h.perm (List.Perm.cons _ ?_)
  refine (List.perm_middle (a:=D.A x cs) (l₁:=els D (xs.eraseIdx i) (css.eraseIdx i)) (l₂:=L)).trans ?_
  have:=els_put2 (D:=D) xs css i hi (by omega) x
  rw [hci] at this
  exact this.append_right L
theorem hol_at {i : Nat} {cs : List Value} {F : Nat → Prop} (h : (hol D e A c xs i cs).H W F) : ∃ g,A = some ⟨g,0,none⟩ ∧ F g ∧ cs.length = D.sz ∧ (∀ j v,cs[j]? = some v → W.cell? ⟨g,i * D.sz + j,none⟩ = some v) ∧ (∀ j,W.frozen? ⟨g,j,none⟩ = false) ∧ i < xs.length:=by
  obtain ⟨css,⟨hl,hi,hc,hs,hone⟩,G,h1,⟨ho,h4⟩,h3⟩:=h
  have hci : css[i]'(by omega) = cs:=by rw [List.getElem?_eq_getElem (by omega)] at hc;exact Option.some.inj hc
  rcases ho.2 with ⟨_,h0⟩|⟨g,cap,cur,he,hb,hh,_⟩
  · omega
  injection he with he
  subst he
  have hcs : cs.length = D.sz:=by rw [← hci];exact hs _ (List.getElem_mem ..)
  refine ⟨g,rfl,h1 g (h4 g rfl),hcs,fun j v hv=>?_,fun j=>?_,hi⟩
  · have hj : j < D.sz:=by rw [← hcs];exact (List.getElem?_eq_some_iff.1 hv).1
    have:=ho.cells (g:=g) rfl (i * D.sz + j) v (by rw [flat_get i j hs (by omega) hj,hci];exact hv)
    rwa [add_plain,Nat.zero_add] at this
  · simp [World.frozen?,hh]
theorem hol_put {i j : Nat} {cs ws : List Value} {F : Nat → Prop} (h : (hol D e A c xs i cs).H W F) (hj : j + ws.length ≤ cs.length) (h1 : ∀ u ∈ ws,u.oneCell' = true) {g : Nat} (hA : A = some ⟨g,0,none⟩) : (hol D e A c xs i (puts cs j ws)).H (W.setCells g (i * D.sz + j) ws) F:=by
  subst hA
  obtain ⟨css,⟨hl,hi,hc,hs,hone⟩,G,g1,⟨ho,h4⟩,h3⟩:=h
  have hci : css[i]'(by omega) = cs:=by rw [List.getElem?_eq_getElem (by omega)] at hc;exact Option.some.inj hc
  have hcs : cs.length = D.sz:=by rw [← hci];exact hs _ (List.getElem_mem ..)
  have hone2 : ∀ (ws cs : List Value) (j : Nat),(∀ u ∈ cs,u.oneCell' = true) → (∀ u ∈ ws,u.oneCell' = true) → ∀ u ∈ puts cs j ws,u.oneCell' = true:=by
    intro ws
    induction ws with
    | nil=>intro cs j h _;exact h
    | cons w r ih =>
      intro cs j h h2
      refine ih _ _ (fun u hu=>?_) (fun u hu=>h2 u (List.mem_cons_of_mem _ hu))
      rcases List.mem_or_eq_of_mem_set hu with hu|hu
      · exact h u hu
      · subst hu;exact h2 _ (List.mem_cons_self ..)
  have hfl:=flat_part css i j ws hs (by omega) (by omega)
  rw [hci] at hfl
  refine ⟨css.set i (puts cs j ws),⟨by simpa using hl,hi,by simp [hl,hi],fun c hc=>?_,hone2 ws cs j hone h1⟩,G,g1,⟨?_,h4⟩,?_⟩
  · rcases List.mem_or_eq_of_mem_set hc with hc|hc
    · exact hs c hc
    · rw [hc,puts_len,hcs]
  · rw [← hfl]
    exact owns_puts ws _ W _ ho
  · rw [erase_set]
    exact h3.move (fun k hk _=>heap_setCells g ws _ W k (fun e=>hk.2 (by subst e;exact h4 _ rfl)))
theorem Mem.hol {i : Nat} {cs : List Value} [h : HolAt L A c α D e xs i cs] (hm : Mem w0 W L) : ∃ F,(Sp.hol D e A c xs i cs).H W F:=by
  obtain ⟨R,hp⟩:=h.mem
  obtain ⟨F,_,h2,_⟩:=(hm.perm hp).sep
  exact ⟨F,h2⟩
end
section
variable {P : Program} {n : Nat} {ops : Array Oper} {Q : Exit → Act → World → Prop} {rest : List Oper} {E : Env} {w0 W : World} {L L' R R1 R2 : List Asn}
variable {d : Nat} {ty pt st : TypeId} {pos : String} {after : Array Edge} {x y : Operand} {v : Value} {e sz j c l q m bytes : Nat} {A : Option Addr} {i : Int} {k k' : IntKind} {α : Type} {D : Ty α} {xs : List α} {cs cs' ws zs : List Value}
theorem p_indexh [hU : Und P st (.slice e)] [hS : Siz P e sz] [hO : HolAt L A c α D e xs q cs] (hm : Mem w0 W L) (hx : ev E x = some (.slice A l c)) (hl : l = xs.length) (hy : ev E y = some (.int k i)) (h0 : 0 ≤ i) (h1 : i < xs.length) : PV P E (.indexAddr st x y) (.pointer (some (rp A i sz 0))):=by
  obtain ⟨F,hF⟩:=hm.hol (A:=A)
  obtain ⟨g,hA,_⟩:=hol_at hF
  subst hA
  exact p_index (ad:=adr (some ⟨g,0,none⟩)) hx rfl hy h0 (by omega)
theorem p_loadh [hO : HolAt L A c α D e xs q cs] [h1c : One P pt] [hv : Nth cs j v] (hx : ev E x = some (.pointer (some (rp A i sz j)))) (hs : sz = D.sz) (hi : i = q) : LV P E w0 L (.load pt x) v :=
  ⟨fun W hm n a ha dst ty pos after gd=>by
    obtain ⟨F,hF⟩:=hm.hol (A:=A)
    obtain ⟨g,hA,_,hl,hc,_⟩:=hol_at hF
    obtain ⟨u,hu,hu2⟩:=h1c.out
    subst hs hA hi
    have hcell:=hc j v hv.out
    have hl : (loadVar pt (⟨g,q * D.sz + j,none⟩ : Addr)).run P W = .ok v W:=by
      unfold loadVar isAgg
      cases u <;> simp_all [underlying,load,Sem.run]
    simp [execOp,ha.eval hx,Instr.loadAt,Instr.sureAddr,rp,adr,add_plain,hl]⟩
theorem p_loadsh [hO : HolAt L A c α D e xs q cs] [hA : Agg P pt m] [hv : Sub cs j m ws] (hx : ev E x = some (.pointer (some (rp A i sz j)))) (hs : sz = D.sz) (hi : i = q) : LV P E w0 L (.load pt x) (.agg ws.toArray) :=
  ⟨fun W hm n a ha dst ty pos after gd=>by
    obtain ⟨F,hF⟩:=hm.hol (A:=A)
    obtain ⟨g,hAe,_,hl,hc,_⟩:=hol_at hF
    obtain ⟨u,hu,hu2,hinf⟩:=hA.out
    subst hs hAe hi
    obtain ⟨h1,h2⟩:=hv.out
    have hr : W.rangeAt g (q * D.sz + j) ws:=by
      intro i z hz
      rw [← h1,List.getElem?_take] at hz
      split at hz
      · rw [List.getElem?_drop] at hz
        rw [Nat.add_assoc]
        exact hc _ _ hz
      · cases hz
    have hl2 : ws.length = m:=by rw [← h1];simp;omega
    have:=run_loadVar_mid (P:=P) W g (q * D.sz + j) pt ws u hr hu (by cases u <;> simp_all [TypeDesc.isRow]) (by rw [hinf,hl2])
    simp [execOp,ha.eval hx,Instr.loadAt,Instr.sureAddr,rp,adr,add_plain,this]⟩
theorem s_storeh [hO : HolAt L A c α D e xs q cs] [hS : Siz P pt m] (hm : Mem w0 W L) (hx : ev E x = some (.pointer (some (rp A i sz j)))) (hy : ev E y = some v) (hs : sz = D.sz) (hi : i = q) [hv : Cel v ws] (hl : ws.length = m) (h1 : ws.all (·.oneCell') = true)
    [hp : Pts cs j ws cs'] [hr : Rp L (hol D e A c xs q cs) (hol D e A c xs q cs') L'] (h : ∀ W1,Mem w0 W1 L' → WL P n ops Q rest E W1) :
    WL P n ops Q (⟨none,.store pt x y,ty,pos,after,none⟩ :: rest) E W:=by
  obtain ⟨F,hF⟩:=hm.hol (A:=A)
  obtain ⟨g,hA,_,hlen,hc,hfz,_⟩:=hol_at hF
  subst hs hi
  obtain ⟨e1,e2⟩:=hp.out
  have hone : ∀ u ∈ ws,u.oneCell' = true:=by simpa [List.all_eq_true] using h1
  have ht : W.there g (q * D.sz + j) ws.length:=fun j2 hj2=>by
    have hlt : j + j2 < cs.length:=by omega
    refine ⟨?_,hfz _⟩
    rw [Nat.add_assoc,hc (j + j2) _ (List.getElem?_eq_getElem hlt)];simp
  have hrun:=run_store (P:=P) W g (q * D.sz + j) pt v ws hv.out ht (by rw [hS.out,hl]) hone
  obtain ⟨R,p1,p2⟩:=hr.out
  refine s_act (W1:=W.setCells g (q * D.sz + j) ws) rfl rfl (fun a ha=>?_) (h _ (Mem.perm (L:=hol D e A c xs q cs' :: R) ?_ p2.symm))
  · simp [execOp,ha.eval hx,ha.eval hy,Instr.storeAt,Instr.sureAddr,rp,hA,adr,add_plain,hrun]
  · refine (hm.perm p1).turn1 (fun F2 hF2 hH=>?_)
    have h3:=hol_put hH e2 hone hA
    rw [e1] at h3
    have hgr:=grown_setCells g ws (q * D.sz + j) W
    obtain ⟨g',hA',hFg',_⟩:=hol_at hH
    have : g' = g:=by rw [hA] at hA';injection hA' with h;injection h with h;exact h.symm
    subst this
    exact ⟨hgr.os,hgr.tape,hgr.output,hgr.size,fun k hk hn=>hgr.block k hk (fun e=>hn (Option.some.inj e ▸ hFg')),(hol D e A c xs q cs').mono (fun k hk=>.inl hk) h3⟩
theorem s_storew {x1 : α} [hO : OwnAt L A c α D e xs] [hS : Siz P pt m] (hm : Mem w0 W L) (hx : ev E x = some (.pointer (some (rp A i sz 0)))) (hy : ev E y = some v) (hs : sz = D.sz) (h0 : 0 ≤ i) (h1 : i < xs.length) [hv : Cel v ws] (hl : D.sz = m)
    [hp : Pk L (own D e A c xs) R1] [hk : MkIn R1 D ws x1 R2] (h : ∀ W1,Mem w0 W1 (own D e A c (xs.set i.toNat x1) :: R2) → WL P n ops Q rest E W1) :
    WL P n ops Q (⟨none,.store pt x y,ty,pos,after,none⟩ :: rest) E W:=by
  subst hs
  have hi : i.toNat < xs.length:=by omega
  obtain ⟨cs,hm2⟩:=opn_ (hm.pk (A:=own D e A c xs)) i.toNat hi
  have hm3 : Mem w0 W (hol D e A c xs i.toNat cs :: R1):=by
    have:=hm2.perm (List.Perm.swap _ _ _)
    exact this.drop
  have hm4 : Mem w0 W (hol D e A c xs i.toNat cs :: D.A x1 ws :: R2):=by
    obtain ⟨hb,F,f1,f2,f3⟩:=hm3
    exact ⟨hb,F,f1,f2,hk.out _ _ f3⟩
  have hwl : ws.length = D.sz ∧ ∀ u ∈ ws,u.oneCell' = true:=by
    obtain ⟨F,_,_,G,_,h3,_⟩:=hm4.sep
    exact ⟨D.len h3,D.one h3⟩
  obtain ⟨F,hF⟩ : ∃ F,(hol D e A c xs i.toNat cs).H W F:=⟨_,hm3.sep.choose_spec.2.1⟩
  obtain ⟨g,hA,_,hlen,hc,hfz,_⟩:=hol_at hF
  have ht : W.there g (i.toNat * D.sz + 0) ws.length:=fun j2 hj2=>by
    have hlt : 0 + j2 < cs.length:=by omega
    refine ⟨?_,hfz _⟩
    rw [Nat.add_assoc,hc (0 + j2) _ (List.getElem?_eq_getElem hlt)];simp
  have hrun:=run_store (P:=P) W g (i.toNat * D.sz + 0) pt v ws hv.out ht (by rw [hS.out,hwl.1,hl]) hwl.2
  have hpw : puts cs 0 ws = ws:=by
    have:=puts_app ws cs [] (by rw [hwl.1,hlen])
    simpa using this
  have hm5 : Mem w0 (W.setCells g (i.toNat * D.sz + 0) ws) (hol D e A c xs i.toNat ws :: D.A x1 ws :: R2):=by
    refine hm4.turn1 (fun F2 hF2 hH=>?_)
    have h3:=hol_put (j:=0) hH (by omega) hwl.2 hA
    rw [hpw] at h3
    have hgr:=grown_setCells g ws (i.toNat * D.sz + 0) W
    obtain ⟨g',hA',hFg',_⟩:=hol_at hH
    have : g' = g:=by rw [hA] at hA';injection hA' with h;injection h with h;exact h.symm
    subst this
    exact ⟨hgr.os,hgr.tape,hgr.output,hgr.size,fun k hk hn=>hgr.block k hk (fun e=>hn (Option.some.inj e ▸ hFg')),(hol D e A c xs i.toNat ws).mono (fun k hk=>.inl hk) h3⟩
  refine s_act (W1:=W.setCells g (i.toNat * D.sz + 0) ws) rfl rfl (fun a ha=>?_) (h _ (cls_ hm5))
  simp only [Nat.add_zero] at hrun ⊢
  simp [execOp,ha.eval hx,ha.eval hy,Instr.storeAt,Instr.sureAddr,rp,hA,adr,add_plain,hrun]
class ZD {α : Type} (D : Ty α) (zs : List Value) : Prop where out : ∀ W F,(D.A D.z zs).H W F
end
end Go.Proofs.YtampmicahnnebaaGreat.Sp
namespace Go.Proofs.YtampmicahnnebaaGreat.Sp
open Go Go.RowKit
def nestR {α ι : Type} (sz : Nat) (z : α) (enc : α → ι → List Value) (facts : World → α → ι → Prop) (get : α → Nat → Option Value) (hl : ∀ x i,(enc x i).length = sz)
    (hg : ∀ x j v i,get x j = some v → (enc x i)[j]? = some v) : TyR α where
  sz:=sz
  z:=z
  R:=fun w x c=>∃ i,c = enc x i ∧ facts w x i
  get:=get
  len:=by rintro w x c ⟨i,rfl,_⟩;exact hl x i
  get_ok:=by rintro w x c j v ⟨i,rfl,_⟩ h;exact hg x j v i h
def rInt : TyR Int:=nestR (ι:=Unit) 1 0 (fun n _=>[.int .i64 n]) (fun _ _ _=>True) (fun n j=>match j with|0=>some (.int .i64 n)|_=>none) (fun _ _=>rfl)
  (fun x j v i h=>by match j with|0=>simpa using h|j + 1=>simp at h)
def rStr (b : Bool) : TyR ByteArray:=nestR (ι:=Unit) 1 ⟨#[]⟩ (fun n _=>[.string n]) (fun _ n _=>b = true → n.size ≤ maxLen) (fun n j=>match j with|0=>some (.string n)|_=>none) (fun _ _=>rfl)
  (fun x j v i h=>by match j with|0=>simpa using h|j + 1=>simp at h)
def rSlot (b : Bool) : TyR Slot:=nestR (ι:=Unit) 2 ⟨0,⟨#[]⟩⟩ encSlot (fun w x i=>(b = true → x.text.size ≤ maxLen)) getSlot (fun _ _=>rfl)
  (fun x j v i h=>by
    match j with
    | 0|1=>simpa [encSlot,getSlot] using h
    | j + 2=>simp [getSlot] at h)
def rFix (b : Bool) : TyR Fix:=nestR (ι:=Unit) 2 ⟨0,⟨#[]⟩⟩ encFix (fun w x i=>(b = true → x.text.size ≤ maxLen)) getFix (fun _ _=>rfl)
  (fun x j v i h=>by
    match j with
    | 0|1=>simpa [encFix,getFix] using h
    | j + 2=>simp [getFix] at h)
def rMsg (b : Bool) : TyR Msg:=nestR (ι:=At) 8 ⟨0,0,0,0,0,0,⟨#[]⟩,[]⟩ encMsg (fun w x i=>(b = true → x.text.size ≤ maxLen) ∧ RoRow (rSlot b) w i.1 x.slots) getMsg (fun _ _=>rfl)
  (fun x j v i h=>by
    match j with
    | 0|1|2|3|4|5|6=>simpa [encMsg,getMsg] using h
    | 7=>simp [getMsg] at h
    | j + 8=>simp [getMsg] at h)
def rAck : TyR Ack:=nestR (ι:=At) 2 ⟨0,[]⟩ encAck (fun w x i=>RoRow rInt w i.1 x.frm) getAck (fun _ _=>rfl)
  (fun x j v i h=>by
    match j with
    | 0=>simpa [encAck,getAck] using h
    | 1=>simp [getAck] at h
    | j + 2=>simp [getAck] at h)
structure RoRcd (b : Bool) (w : World) (x : Rcd) (i : AtRcd) : Prop where
  ss : RoRow (rSlot b) w i.a0.1 x.ss
  ds : RoRow (rSlot b) w i.a1.1 x.ds
  held : RoRow (rMsg b) w i.a2.1 x.held
  wishes : RoRow (rStr b) w i.a3.1 x.wishes
  yes : RoRow rInt w i.a4.1 x.yes
  best : RoRow (rSlot b) w i.a5.1 x.best
  acks : RoRow rAck w i.a6.1 x.acks
def rRcd (b : Bool) : TyR Rcd:=nestR (ι:=AtRcd) 18 ⟨0,0,false,0,0,[],0,0,[],[],[],false,false,0,[],[],[],0⟩ encRcd (fun w x i=>RoRcd b w x i) getRcd (fun _ _=>rfl)
  (fun x j v i h=>by
    match j with
    | 0|1|2|3|4|6|7|11|12|13|17=>simpa [encRcd,getRcd] using h
    | 5|8|9|10|14|15|16=>simp [getRcd] at h
    | j + 18=>simp [getRcd] at h)
theorem own_ro {α : Type} {D : Ty α} {DR : TyR α} {e c : Nat} {A : Option Addr} {xs : List α} {W : World} {F : Nat → Prop} (hz : D.sz = DR.sz) (h : ∀ {x c F},(D.A x c).H W F → DR.R W x c) (ho : (own D e A c xs).H W F) : RoRow DR W A xs:=by
  refine ⟨(own_max ho).1,fun hl=>(own_addr ho hl).1,fun i hi=>?_⟩
  obtain ⟨_,g,hg,_⟩:=own_addr ho (by omega)
  have hA:=(own_addr ho (by omega)).1
  obtain ⟨css,hl,G,h2,⟨hr,h4⟩,h3⟩:=ho
  obtain ⟨G2,h5⟩:=els_get i hi (by omega) h3
  refine ⟨css[i]'(by omega),h h5,fun j v hv=>?_⟩
  have hj : j < D.sz:=by rw [← D.len h5];exact (List.getElem?_eq_some_iff.1 hv).1
  rw [hg,← hz]
  refine hr.cells (g:=g) (by rw [hA,hg];rfl) _ v ?_
  rw [flat_get i j (els_len hl h3) (by omega) hj];exact hv
section
variable {W : World} {c : List Value} {F : Nat → Prop} {eS eM eT eI eA q : Nat} {A : Option Addr}
theorem ro_int {x : Int} (h : (tInt.A x c).H W F) : rInt.R W x c:=by obtain ⟨_,h,_⟩:=h;exact ⟨(),h,trivial⟩
theorem ro_str {x : ByteArray} (h : (tStr.A x c).H W F) : (rStr false).R W x c:=by obtain ⟨_,h,_⟩:=h;exact ⟨(),h,fun h=>by cases h⟩
theorem ro_slot {x : Slot} (h : (tSlot.A x c).H W F) : (rSlot false).R W x c:=by obtain ⟨i,h,_⟩:=h;exact ⟨i,h,fun h=>by cases h⟩
theorem ro_ints {xs : List Int} (h : (own tInt eI A q xs).H W F) : RoRow rInt W A xs:=own_ro rfl ro_int h
theorem ro_strs {xs : List ByteArray} (h : (own tStr eT A q xs).H W F) : RoRow (rStr false) W A xs:=own_ro rfl ro_str h
theorem ro_slots {xs : List Slot} (h : (own tSlot eS A q xs).H W F) : RoRow (rSlot false) W A xs:=own_ro rfl ro_slot h
theorem ro_msg {x : Msg} (h : ((tMsg eS).A x c).H W F) : (rMsg false).R W x c:=by obtain ⟨i,h,F2,_,h2,_⟩:=h;exact ⟨i,h,⟨(fun h=>by cases h),ro_slots h2⟩⟩
theorem ro_ack {x : Ack} (h : ((tAck eI).A x c).H W F) : rAck.R W x c:=by obtain ⟨i,h,F2,_,h2,_⟩:=h;exact ⟨i,h,ro_ints h2⟩
theorem ro_msgs {xs : List Msg} (h : (own (tMsg eS) eM A q xs).H W F) : RoRow (rMsg false) W A xs:=own_ro rfl ro_msg h
theorem ro_acks {xs : List Ack} (h : (own (tAck eI) eA A q xs).H W F) : RoRow rAck W A xs:=own_ro rfl ro_ack h
theorem ro_parts {x : Rcd} {i : AtRcd} {w0 : World} {L : List Asn} (h : Mem w0 W (partRcd eS eM eT eI eA x i ++ L)) : RoRcd false W x i:=by
  obtain ⟨_,_,_,a0,_,_,a1,_,_,a2,_,_,a3,_,_,a4,_,_,a5,_,_,a6,_⟩:=h
  exact ⟨ro_slots a0,ro_slots a1,ro_msgs a2,ro_strs a3,ro_ints a4,ro_slots a5,ro_acks a6⟩
end
theorem Mem.join {w0 W W1 : World} {L M : List Asn} (h : Mem w0 W L) (h2 : Mem W W1 M) : Mem w0 W1 (M ++ L) :=
  ⟨(h.step h2.below).below,SepIn.join (F:=fun k=>W.heap.size ≤ k) (fun k hk=>Nat.le_trans h.below.size hk) h2.sep ((h.sep.bound.move (fun k hk _=>h2.below.block k hk.2)).mono (fun k hk=>⟨hk.1,fun hg=>by have:=hk.2;omega⟩))⟩
def allN (p : Nat → Bool) (n : Nat) : Bool:=(List.range n).all p
theorem allN_zero {p : Nat → Bool} : allN p 0 = true:=rfl
theorem allN_succ {p : Nat → Bool} {i : Nat} (h : allN p i = true) (h1 : p i = true) : allN p (i + 1) = true:=by simp [allN,List.range_succ] at h ⊢;exact ⟨h,h1⟩
theorem allN_fail {p : Nat → Bool} {i n : Nat} (hi : i < n) (h1 : p i = false) : allN p n = false:=by
  simp only [allN,List.all_eq_false,List.mem_range];exact ⟨i,hi,by simp [h1]⟩
instance : ZD tInt [.int .i64 0]:=⟨fun W F=>⟨(),rfl,trivial⟩⟩
instance : ZD tStr [.string ⟨#[]⟩]:=⟨fun W F=>⟨(),rfl,trivial⟩⟩
instance : ZD tSlot [.int .i64 0,.string ⟨#[]⟩]:=⟨fun W F=>⟨(),rfl,trivial⟩⟩
instance : ZD tFix [.int .i64 0,.string ⟨#[]⟩]:=⟨fun W F=>⟨(),rfl,trivial⟩⟩
instance {eS : Nat} : ZD (tMsg eS) [.int .i64 0,.int .i64 0,.int .i64 0,.int .i64 0,.int .i64 0,.int .i64 0,.string ⟨#[]⟩,.slice none 0 0]:=⟨fun W F=>⟨(none,0),rfl,_,fun _ h=>h,own_nil tSlot eS,trivial⟩⟩
instance {eI : Nat} : ZD (tAck eI) [.int .i64 0,.slice none 0 0]:=⟨fun W F=>⟨(none,0),rfl,_,fun _ h=>h,own_nil tInt eI,trivial⟩⟩
theorem mk_nest {α : Type} {D : Ty α} {x : α} {ws : List Value} {L R : List Asn} {M : List Asn} (hp : ∀ W ok,SepIn W ok L → SepIn W ok (M ++ R)) (h : ∀ W F,SepIn W F M → (D.A x ws).H W F) : MkIn L D ws x R:=⟨fun W ok hs=>by
  obtain ⟨F,h1,h2,h3⟩:=SepIn.append (hp W ok hs)
  exact ⟨F,h1,h W F h2,h3⟩⟩
instance {L R : List Asn} {eS : Nat} {kind frm to ballot index known : Int} {text : ByteArray} {A : Option Addr} {c : Nat} {slots : List Slot} [h : Pk L (own tSlot eS A c slots) R] : MkIn L (tMsg eS) [.int .i64 kind,.int .i64 frm,.int .i64 to,.int .i64 ballot,.int .i64 index,.int .i64 known,.string text,.slice A slots.length c] ⟨kind,frm,to,ballot,index,known,text,slots⟩ R :=
  mk_nest (M:=[own tSlot eS A c slots]) (fun W ok hs=>hs.perm h.out) (fun W F hs=>⟨(A,c),rfl,hs⟩)
instance {L R : List Asn} {eI : Nat} {index : Int} {A : Option Addr} {c : Nat} {frm : List Int} [h : Pk L (own tInt eI A c frm) R] : MkIn L (tAck eI) [.int .i64 index,.slice A frm.length c] ⟨index,frm⟩ R :=
  mk_nest (M:=[own tInt eI A c frm]) (fun W ok hs=>hs.perm h.out) (fun W F hs=>⟨(A,c),rfl,hs⟩)
instance {L : List Asn} {x : Slot} {i : Unit} : MkIn L tSlot (encSlot x i) x L:=mk_flat fun _=>⟨(),rfl,trivial⟩
instance {L : List Asn} {x : Fix} {i : Unit} : MkIn L tFix (encFix x i) x L:=mk_flat fun _=>⟨(),rfl,trivial⟩
instance {L R : List Asn} {eS : Nat} {x : Msg} {i : At} [h : Pk L (own tSlot eS i.1 i.2 x.slots) R] : MkIn L (tMsg eS) (encMsg x i) x R:=mk_nest (M:=[own tSlot eS i.1 i.2 x.slots]) (fun W ok hs=>hs.perm h.out) (fun W F hs=>⟨i,rfl,hs⟩)
instance {L R : List Asn} {eI : Nat} {x : Ack} {i : At} [h : Pk L (own tInt eI i.1 i.2 x.frm) R] : MkIn L (tAck eI) (encAck x i) x R:=mk_nest (M:=[own tInt eI i.1 i.2 x.frm]) (fun W ok hs=>hs.perm h.out) (fun W F hs=>⟨i,rfl,hs⟩)
instance {x : Slot} {i : Unit} : Len (encSlot x i) 2:=⟨rfl⟩
instance {x : Msg} {i : At} : Len (encMsg x i) 8:=⟨rfl⟩
instance {x : Ack} {i : At} : Len (encAck x i) 2:=⟨rfl⟩
end Go.Proofs.YtampmicahnnebaaGreat.Sp
namespace Go.Proofs.YtampmicahnnebaaGreat.Sp
open Go Go.RowKit Go.Proofs.YtampmicahnnebaaGreatW.PrintLast
structure QP (Q : Exit → Act → World → Prop) : Prop where out : ∀ c (a : Act) d v w,Q (.panic c) (a.put d v) w → Q (.panic c) a w
theorem qp_then {N : Act → World → Prop} {Q : Exit → Act → World → Prop} (h : QP Q) : QP (Exit.then N Q):=⟨fun c a d v w hq=>h.out c a d v w hq⟩
theorem qp_block {id : Nat} {Q : Exit → Act → World → Prop} (h : QP Q) : QP (Exit.inBlock id Q):=⟨fun c a d v w hq=>h.out c a d v w hq⟩
theorem qp_body {P : Program} {fn : Func} {R : Ending → World → Prop} : QP (bodyPost P fn R):=⟨fun c a d v w hq=>by cases d <;> exact hq⟩
def planB (ops : Array Oper) (ds : List Nat) : Array Bool → List (Nat × Nat) → Bool
  | l,[]=>Region.ready .any ops l == []
  | l,(0,i) :: r=>Region.free .any ops l i && (Region.ready .any ops l).contains i && planB ops ds (l.setIfInBounds i true) r
  | l,(1,i) :: r=>Region.free .any ops l i && (Region.ready .any ops l).contains i && Region.closedB .any ops l && Region.lastB .any ops l ds i && planB ops ds (l.setIfInBounds i true) r
  | l,(2,i) :: r=>Region.ready .any ops l == [i] && !ds.contains i && planB ops ds (l.setIfInBounds i true) r
  | l,(_,i) :: r=>Region.ready .any ops l == [i] && ds.contains i && planB ops ds (l.setIfInBounds i true) r
section
variable {P : Program} {n : Nat} {ops : Array Oper} {Q : Exit → Act → World → Prop} {S : World → Prop} {ds : List Nat} {plan : List (Nat × Nat)} {E : Env} {W : World} {i md : Nat} {o : Oper}
structure WD (P : Program) (n : Nat) (ops : Array Oper) (Q : Exit → Act → World → Prop) (S : World → Prop) (ds : List Nat) (plan : List (Nat × Nat)) (E : Env) (W : World) : Prop where
  out : ∀ l,planB ops ds l plan = true → ∀ a,Fits n E a → S W → wpAnyLast P .any ops Q S ds plan.length l a W
structure WT (P : Program) (n : Nat) (ops : Array Oper) (Q : Exit → Act → World → Prop) (S : World → Prop) (ds : List Nat) (plan : List (Nat × Nat)) (E : Env) (W : World) : Prop where
  out : ∀ l,planB ops ds l plan = true → ∀ a,Fits n E a → wpAnyLast P .any ops Q S ds plan.length l a W
structure WO (P : Program) (n : Nat) (ops : Array Oper) (Q : Exit → Act → World → Prop) (S : World → Prop) (ds : List Nat) (md i : Nat) (o : Oper) (plan : List (Nat × Nat)) (E : Env) (W : World) : Prop where
  out : ops[i]? = some o → WD P n ops Q S ds ((md,i) :: plan) E W
theorem d_start {id : Nat} {l : List Oper} {L : List Asn} {w0 : World} (ds : List Nat) (plan : List (Nat × Nat)) (hm : Mem w0 W L) (hmix : P.follows .mixedOrders = true) (hsel : Region.noSelect l.toArray = true) (hq : QP Q)
    (hp : planB l.toArray ds (Array.replicate l.toArray.size false) plan = true) (hlen : plan.length = l.toArray.size) (h : QP Q → Region.noSelect l.toArray = true → ∀ W1,Mem w0 W1 L → WD P n l.toArray Q (fun w=>Mem w0 w L) ds plan E W1) : WC P n (.region id l.toArray true) Q E W:=by
  refine ⟨fun a ha=>?_⟩
  refine start_ (S:=fun w=>Mem w0 w L) (ds:=ds) (n:=plan.length) (Array.replicate l.toArray.size false) hmix hlen.symm (by rw [hlen]) hm.drew (fun hS=>?_)
  exact (h hq hsel _ hS).out _ hp a ha hS
def nthO : List Oper → Nat → Option Oper
  | o :: _,0=>some o
  | _ :: r,i + 1=>nthO r i
  | [],_=>none
theorem nthO_eq : ∀ (l : List Oper) (i : Nat),nthO l i = l[i]?
  | [],i=>by cases i <;> rfl
  | o :: r,0=>rfl
  | o :: r,i + 1=>by rw [nthO,nthO_eq r i,List.getElem?_cons_succ]
theorem d_next {l : List Oper} (ho : nthO l i = some o) (h : WO P n l.toArray Q S ds md i o plan E W) : WD P n l.toArray Q S ds ((md,i) :: plan) E W:=h.out (by rw [nthO_eq] at ho;simpa using ho)
variable {dst : Option Tmp} {d : Nat} {op : Op} {ty : TypeId} {pos : String} {after : Array Edge} {v : Value}
theorem d_pv (hq : QP Q) (hsel : Region.noSelect ops = true) (hp : PV P E op v) (hn : Nat.blt d n = true) (h : WD P n ops Q S ds plan ((d,v) :: E) W) : WO P n ops Q S ds 0 i ⟨some d,op,ty,pos,after,none⟩ plan E W:=by
  refine ⟨fun ho=>⟨fun l hl a ha hS=>?_⟩⟩
  simp only [planB,Bool.and_eq_true] at hl
  obtain ⟨⟨h1,h2⟩,h3⟩:=hl
  refine wpAnyLast_any (v:=v) ho (Region.noSelect_spec hsel) (fun c a w=>hq.out c a _ _ w) _ l a W (Region.free_spec ho h1) (by simpa using h2) (.inl ⟨by simp [Region.wanted],fun w=>hp.out n a ha _ _ _ _ _ _⟩) ?_
  exact h.out _ h3 _ (ha.put (by simpa [Nat.blt_eq] using hn) v) hS
theorem d_ld {L : List Asn} {w0 : World} (hq : QP Q) (hsel : Region.noSelect ops = true) (hl : LV P E w0 L op v) (hn : Nat.blt d n = true)
    (h : WD P n ops Q (fun w=>Mem w0 w L) ds plan ((d,v) :: E) W) : WO P n ops Q (fun w=>Mem w0 w L) ds 1 i ⟨some d,op,ty,pos,after,none⟩ plan E W:=by
  refine ⟨fun ho=>⟨fun l hb a ha hS=>?_⟩⟩
  simp only [planB,Bool.and_eq_true] at hb
  obtain ⟨⟨⟨⟨h1,h2⟩,h4⟩,h5⟩,h3⟩:=hb
  refine wpAnyLast_take (v:=v) ho hsel h1 h2 h4 h5 (fun c a w=>hq.out c a _ _ w) ?_ hS ?_
  · exact .inl ⟨by simp [Region.wanted],fun w hw=>hl.out w hw n a ha _ _ _ _ _⟩
  · exact h.out _ h3 _ (ha.put (by simpa [Nat.blt_eq] using hn) v) hS
theorem d_gp (hq : QP Q) (hsel : Region.noSelect ops = true) (hn : Nat.blt d n = true) (h : GP P E op fun v=>WD P n ops Q S ds plan ((d,v) :: E) W) : WO P n ops Q S ds 0 i ⟨some d,op,ty,pos,after,none⟩ plan E W:=by
  obtain ⟨v,hp,h⟩:=h.out
  exact d_pv hq hsel hp hn h
theorem d_gv {L : List Asn} {w0 : World} (hq : QP Q) (hsel : Region.noSelect ops = true) (hn : Nat.blt d n = true) (h : GV P E w0 L op fun v=>WD P n ops Q (fun w=>Mem w0 w L) ds plan ((d,v) :: E) W) : WO P n ops Q (fun w=>Mem w0 w L) ds 1 i ⟨some d,op,ty,pos,after,none⟩ plan E W:=by
  obtain ⟨v,hp,h⟩:=h.out
  exact d_ld hq hsel hp hn h
theorem d_off {j : Nat} {u u' : Bool} {oj : Oper} {t : Nat} (hm : md = 0 ∨ md = 1) (hq : QP Q) (hsel : Region.noSelect ops = true) (ho2 : o.guard = some (j,u)) (hj : ops[j]? = some oj) (hd : oj.dst = some t) (ht : look E t = some (.bool u')) (hb : u' = !u) (hdd : o.dst = some d) (hn : Nat.blt d n = true)
    (h : WD P n ops Q S ds plan ((d,undef) :: E) W) : WO P n ops Q S ds md i o plan E W:=by
  refine ⟨fun ho=>⟨fun l hl a ha hS=>?_⟩⟩
  have hne : (u' == u) = false:=by subst hb;cases u <;> rfl
  have hw : Region.wanted o (yielded ops a.tmps) = false:=by
    have h1:=ha.slots t _ ht
    have h2 : a.tmps[t]? = some (.bool u'):=by
      cases hq : a.tmps[t]? with
      | none=>simp [hq] at h1;cases h1
      | some q=>simp [hq] at h1;rw [h1]
    simpa [Region.wanted,ho2,yielded,hj,hd,h2] using hne
  have key : Region.free .any ops l i = true ∧ (Region.ready .any ops l).contains i = true ∧ planB ops ds (l.setIfInBounds i true) plan = true:=by
    rcases hm with rfl|rfl
    · simp only [planB,Bool.and_eq_true] at hl;exact ⟨hl.1.1,hl.1.2,hl.2⟩
    · simp only [planB,Bool.and_eq_true] at hl;exact ⟨hl.1.1.1.1,hl.1.1.1.2,hl.2⟩
  obtain ⟨h1,h2,h3⟩:=key
  refine wpAnyLast_any (v:=undef) ho (Region.noSelect_spec hsel) (fun c a w=>hq.out c a _ _ w) _ l a W (Region.free_spec ho h1) (by simpa using h2) (.inr ⟨hw,rfl⟩) ?_
  rw [hdd]
  exact h.out _ h3 _ (ha.put (by simpa [Nat.blt_eq] using hn) undef) hS
theorem d_on {j : Nat} {u : Bool} {oj : Oper} {t : Nat} (hq : QP Q) (hsel : Region.noSelect ops = true) {L : List Asn} {w0 : World} (hmd : md = 0 ∨ md = 1) (hj : ops[j]? = some oj) (hd : oj.dst = some t) (ht : look E t = some (.bool u))
    (hl : LV P E w0 L op v) (hp : md = 0 → PV P E op v) (hn : Nat.blt d n = true)
    (h : WD P n ops Q (fun w=>Mem w0 w L) ds plan ((d,v) :: E) W) : WO P n ops Q (fun w=>Mem w0 w L) ds md i ⟨some d,op,ty,pos,after,some (j,u)⟩ plan E W:=by
  refine ⟨fun ho=>⟨fun l hb a ha hS=>?_⟩⟩
  have hw : Region.wanted (⟨some d,op,ty,pos,after,some (j,u)⟩ : Oper) (yielded ops a.tmps) = true:=by
    have h1:=ha.slots t _ ht
    have h2 : a.tmps[t]? = some (.bool u):=by
      cases hq : a.tmps[t]? with
      | none=>simp [hq] at h1;cases h1
      | some q=>simp [hq] at h1;rw [h1]
    simp [Region.wanted,yielded,hj,hd,h2]
  rcases hmd with rfl|rfl
  · simp only [planB,Bool.and_eq_true] at hb
    obtain ⟨⟨h1,h2⟩,h3⟩:=hb
    refine wpAnyLast_any (v:=v) ho (Region.noSelect_spec hsel) (fun c a w=>hq.out c a _ _ w) _ l a W (Region.free_spec ho h1) (by simpa using h2) (.inl ⟨hw,fun w=>(hp rfl).out n a ha _ _ _ _ _ _⟩) ?_
    exact h.out _ h3 _ (ha.put (by simpa [Nat.blt_eq] using hn) v) hS
  · simp only [planB,Bool.and_eq_true] at hb
    obtain ⟨⟨⟨⟨h1,h2⟩,h4⟩,h5⟩,h3⟩:=hb
    refine wpAnyLast_take (v:=v) ho hsel h1 h2 h4 h5 (fun c a w=>hq.out c a _ _ w) ?_ hS ?_
    · exact .inl ⟨hw,fun w hw=>hl.out w hw n a ha _ _ _ _ _⟩
    · exact h.out _ h3 _ (ha.put (by simpa [Nat.blt_eq] using hn) v) hS
theorem d_onp {j : Nat} {u : Bool} {oj : Oper} {t : Nat} {L : List Asn} {w0 : World} (hq : QP Q) (hsel : Region.noSelect ops = true) (hj : ops[j]? = some oj) (hd : oj.dst = some t) (ht : look E t = some (.bool u)) (hp : PV P E op v) (hn : Nat.blt d n = true)
    (h : WD P n ops Q (fun w=>Mem w0 w L) ds plan ((d,v) :: E) W) : WO P n ops Q (fun w=>Mem w0 w L) ds 0 i ⟨some d,op,ty,pos,after,some (j,u)⟩ plan E W:=d_on hq hsel (.inl rfl) hj hd ht hp.lv (fun _=>hp) hn h
theorem d_onl {j : Nat} {u : Bool} {oj : Oper} {t : Nat} {L : List Asn} {w0 : World} (hq : QP Q) (hsel : Region.noSelect ops = true) (hj : ops[j]? = some oj) (hd : oj.dst = some t) (ht : look E t = some (.bool u)) (hl : LV P E w0 L op v) (hn : Nat.blt d n = true)
    (h : WD P n ops Q (fun w=>Mem w0 w L) ds plan ((d,v) :: E) W) : WO P n ops Q (fun w=>Mem w0 w L) ds 1 i ⟨some d,op,ty,pos,after,some (j,u)⟩ plan E W:=d_on hq hsel (.inr rfl) hj hd ht hl (fun h=>by cases h) hn h
theorem d_gpg {j : Nat} {u b : Bool} {oj : Oper} {t : Nat} {L : List Asn} {w0 : World} (hq : QP Q) (hsel : Region.noSelect ops = true) (hj : ops[j]? = some oj) (hd : oj.dst = some t) (ht : look E t = some (.bool b)) (hb : b = u) (hn : Nat.blt d n = true)
    (h : GP P E op fun v=>WD P n ops Q (fun w=>Mem w0 w L) ds plan ((d,v) :: E) W) : WO P n ops Q (fun w=>Mem w0 w L) ds 0 i ⟨some d,op,ty,pos,after,some (j,u)⟩ plan E W:=by
  rw [hb] at ht
  obtain ⟨v,hp,h⟩:=h.out
  exact d_onp hq hsel hj hd ht hp hn h
theorem d_gvg {j : Nat} {u b : Bool} {oj : Oper} {t : Nat} {L : List Asn} {w0 : World} (hq : QP Q) (hsel : Region.noSelect ops = true) (hj : ops[j]? = some oj) (hd : oj.dst = some t) (ht : look E t = some (.bool b)) (hb : b = u) (hn : Nat.blt d n = true)
    (h : GV P E w0 L op fun v=>WD P n ops Q (fun w=>Mem w0 w L) ds plan ((d,v) :: E) W) : WO P n ops Q (fun w=>Mem w0 w L) ds 1 i ⟨some d,op,ty,pos,after,some (j,u)⟩ plan E W:=by
  rw [hb] at ht
  obtain ⟨v,hp,h⟩:=h.out
  exact d_onl hq hsel hj hd ht hp hn h
theorem list_wpOp {K : Act → World → Prop} {a : Act} {w : World} (ho : ops[i]? = some o) (h : wpList P ops (Exit.then K Q) [o] a w) : wpOp P ops Q i K a w:=by
  unfold wpOp
  simp only [ho]
  unfold wpList at h
  split at h
  · rename_i hw
    rw [if_pos hw]
    rcases h with h|⟨h1,h2⟩
    · refine .inl ?_
      unfold Oper.wp at h ⊢
      generalize (execOp a.eval o).run P w = r at h ⊢
      cases r with
      | ok q w'=>cases q <;> simp only [Oper.upon,wpList] at h ⊢ <;> exact h
      | halt q w'=>cases q <;> simp only [Oper.upon,wpList] at h ⊢ <;> exact h
    · exact .inr ⟨h1,by obtain ⟨a0,w1,hh⟩:=h2;exact ⟨a0,w1,hh⟩⟩
  · rename_i hw
    rw [if_neg hw]
    exact h
theorem d_one0 (h : WL P n ops (Exit.then (fun a w=>S w ∧ ∀ l,planB ops ds l plan = true → wpAnyLast P .any ops Q S ds plan.length l a w) Q) [o] E W) : WO P n ops Q S ds 2 i o plan E W:=by
  refine ⟨fun ho=>⟨fun l hl a ha hS=>?_⟩⟩
  simp only [planB,Bool.and_eq_true,beq_iff_eq] at hl
  obtain ⟨⟨h1,h2⟩,h3⟩:=hl
  refine wpAnyLast_all h1 (by simp) (fun j hj=>?_)
  obtain rfl : j = i:=by simpa using hj
  refine wpOp_mono (fun a' w' hk=>⟨fun _ _=>hk.1,hk.2 _ h3⟩) (list_wpOp ho (h.out a ha))
theorem d_one {L : List Asn} {w0 : World} (h : WL P n ops (Exit.then (fun a w=>Mem w0 w L ∧ ∀ l,planB ops ds l plan = true → wpAnyLast P .any ops Q (fun w=>Mem w0 w L) ds plan.length l a w) Q) [o] E W) : WO P n ops Q (fun w=>Mem w0 w L) ds 2 i o plan E W:=d_one0 h
theorem d_last (h : WL P n ops (Exit.then (fun a w=>∀ l,planB ops ds l plan = true → wpAnyLast P .any ops Q S ds plan.length l a w) Q) [o] E W) : WO P n ops Q S ds 3 i o plan E W:=by
  refine ⟨fun ho=>⟨fun l hl a ha hS=>?_⟩⟩
  simp only [planB,Bool.and_eq_true,beq_iff_eq] at hl
  obtain ⟨⟨h1,h2⟩,h3⟩:=hl
  refine wpAnyLast_all h1 (by simp) (fun j hj=>?_)
  obtain rfl : j = i:=by simpa using hj
  refine wpOp_mono (fun a' w' hk=>⟨fun hn=>absurd (by simpa using h2) hn,hk _ h3⟩) (list_wpOp ho (h.out a ha))
theorem d_back (hS : S W) (h : WD P n ops Q S ds plan E W) : WN n .normal (Exit.then (fun a w=>S w ∧ ∀ l,planB ops ds l plan = true → wpAnyLast P .any ops Q S ds plan.length l a w) Q) E W:=⟨fun a ha=>⟨hS,fun l hl=>h.out l hl a ha hS⟩⟩
theorem d_backT (h : WT P n ops Q S ds plan E W) : WN n .normal (Exit.then (fun a w=>∀ l,planB ops ds l plan = true → wpAnyLast P .any ops Q S ds plan.length l a w) Q) E W:=⟨fun a ha=>fun l hl=>h.out l hl a ha⟩
theorem gR {id : Nat} {ops : Array Oper} (h : WC P n (.region id ops true) Q E W) : WC P n (.region id ops true) Q E W:=h
theorem gD {l : List (Nat × Nat)} (h : WD P n ops Q S ds l E W) : WD P n ops Q S ds l E W:=h
theorem gT {l : List (Nat × Nat)} (h : WT P n ops Q S ds l E W) : WT P n ops Q S ds l E W:=h
theorem d_done (h : WN n .normal Q E W) : WD P n ops Q S ds [] E W:=⟨fun l hl a ha hS=>wpAnyLast_done (by simpa [planB] using hl) (h.out a ha) _⟩
theorem d_doneT (h : WN n .normal Q E W) : WT P n ops Q S ds [] E W:=⟨fun l hl a ha=>wpAnyLast_done (by simpa [planB] using hl) (h.out a ha) _⟩
theorem d_pvT (hq : QP Q) (hsel : Region.noSelect ops = true) (ho : ops[i]? = some ⟨some d,op,ty,pos,after,none⟩) (hp : PV P E op v) (hn : Nat.blt d n = true) (h : WT P n ops Q S ds plan ((d,v) :: E) W) : WT P n ops Q S ds ((0,i) :: plan) E W:=by
  refine ⟨fun l hl a ha=>?_⟩
  simp only [planB,Bool.and_eq_true] at hl
  obtain ⟨⟨h1,h2⟩,h3⟩:=hl
  refine wpAnyLast_any (v:=v) ho (Region.noSelect_spec hsel) (fun c a w=>hq.out c a _ _ w) _ l a W (Region.free_spec ho h1) (by simpa using h2) (.inl ⟨by simp [Region.wanted],fun w=>hp.out n a ha _ _ _ _ _ _⟩) ?_
  exact h.out _ h3 _ (ha.put (by simpa [Nat.blt_eq] using hn) v)
theorem d_gpT {ll : List Oper} (hq : QP Q) (hsel : Region.noSelect ll.toArray = true) (ho : nthO ll i = some ⟨some d,op,ty,pos,after,none⟩) (hn : Nat.blt d n = true) (h : GP P E op fun v=>WT P n ll.toArray Q S ds plan ((d,v) :: E) W) : WT P n ll.toArray Q S ds ((0,i) :: plan) E W:=by
  have ho : ll.toArray[i]? = some (⟨some d,op,ty,pos,after,none⟩ : Oper):=by rw [nthO_eq] at ho;simpa using ho
  obtain ⟨v,hp,h⟩:=h.out
  exact d_pvT hq hsel ho hp hn h
theorem d_nextT {ll : List Oper} (ho : nthO ll i = some o) (h : WL P n ll.toArray (Exit.then (fun a w=>∀ l,planB ll.toArray ds l plan = true → wpAnyLast P .any ll.toArray Q S ds plan.length l a w) Q) [o] E W) : WT P n ll.toArray Q S ds ((3,i) :: plan) E W:=by
  have ho : ll.toArray[i]? = some o:=by rw [nthO_eq] at ho;simpa using ho
  refine ⟨fun l hl a ha=>?_⟩
  simp only [planB,Bool.and_eq_true,beq_iff_eq] at hl
  obtain ⟨⟨h1,h2⟩,h3⟩:=hl
  refine wpAnyLast_all h1 (by simp) (fun j hj=>?_)
  obtain rfl : j = i:=by simpa using hj
  refine wpOp_mono (fun a' w' hk=>⟨fun hn=>absurd (by simpa using h2) hn,hk _ h3⟩) (list_wpOp ho (h.out a ha))
end
end Go.Proofs.YtampmicahnnebaaGreat.Sp
namespace Go.Proofs.YtampmicahnnebaaGreat.Sp
open Go Go.RowKit Go.Proofs.YtampmicahnnebaaGreatW.PrintLast
section
variable {P : Program} {n : Nat} {ops : Array Oper} {Q : Exit → Act → World → Prop} {rest : List Oper} {E : Env} {W : World} {o oj : Oper} {j t : Nat} {u b : Bool}
theorem s_split (ho : o.guard = some (j,u)) (hj : ops[j]? = some oj) (hd : oj.dst = some t) (ht : look E t = some (.bool b)) (h1 : b = true → WL P n ops Q (o :: rest) E W) (h0 : b = false → WL P n ops Q (o :: rest) E W) : WL P n ops Q (o :: rest) E W:=by
  cases b with
  | true=>exact h1 rfl
  | false=>exact h0 rfl
theorem d_split {S : World → Prop} {ds : List Nat} {md i : Nat} {plan : List (Nat × Nat)} (ho : o.guard = some (j,u)) (hj : ops[j]? = some oj) (hd : oj.dst = some t) (ht : look E t = some (.bool b)) (h1 : b = true → WO P n ops Q S ds md i o plan E W) (h0 : b = false → WO P n ops Q S ds md i o plan E W) : WO P n ops Q S ds md i o plan E W:=by
  cases b with
  | true=>exact h1 rfl
  | false=>exact h0 rfl
theorem addr_zero (a : Addr) : a.add 0 = a:=by unfold Addr.add;simp
theorem p_sliceto {st e sz : Nat} {x y : Operand} {A : Option Addr} {l c : Nat} {k : IntKind} {m : Int} [hU : Und P st (.slice e)] [hS : Siz P e sz] (hx : ev E x = some (.slice A l c)) (hy : ev E y = some (.int k m)) (h0 : 0 ≤ m) (h1 : m ≤ c) : PV P E (.slice st x none (some y) none) (.slice A m.toNat c):=⟨fun n a ha dst ty pos after gd W=>by
  obtain ⟨i0,hi,hs⟩:=Option.map_eq_some_iff.1 hS.out
  have hA : A.map (·.add 0) = A:=by cases A <;> simp [addr_zero]
  have hu:=hU.out
  simp [execOp,ha.eval hx,ha.eval hy,Instr.sliceAt,Instr.slice,Instr.sliceBounds,Instr.sliceBound,asIntOf,underlying,hu,h0,h1,sizeOf,typeInfo,hi,hA]⟩
theorem ro_take {α : Type} {D : TyR α} {w : World} {A : Option Addr} {xs : List α} (h : RoRow D w A xs) (k : Nat) : RoRow D w A (xs.take k):=by
  have hl : (xs.take k).length ≤ xs.length:=by simp;omega
  refine ⟨Nat.le_trans hl h.max,fun hp=>h.some_ (by omega),fun i hi=>?_⟩
  obtain ⟨c,h1,h2⟩:=h.cell i (by omega)
  exact ⟨c,by rw [List.getElem_take];exact h1,h2⟩
theorem p_loadrc {E : Env} {w0 : World} {L : List Asn} {pt : TypeId} {x : Operand} {A : Option Addr} {i : Int} {sz q j : Nat} {ws : List Value} {v : Value} [hO : RoCAt L A w0 q sz ws] [h1c : One P pt] [hv : Nth ws j v] (hx : ev E x = some (.pointer (some (rp A i sz j)))) (hi : i = q) : LV P E w0 L (.load pt x) v :=
  ⟨fun W hmem n a ha dst ty pos after gd=>by
    obtain ⟨R,hp⟩:=hO.mem
    obtain ⟨hA1,hl,hc⟩:=Mem.pure_ hp hmem
    obtain ⟨u,hu,hu2⟩:=h1c.out
    subst hi
    have hcell:=hmem.old (hc j v hv.out)
    clear hA1
    have hl : (loadVar pt ((adr A).add (q * sz + j))).run P W = .ok v W:=by
      unfold loadVar isAgg
      cases u <;> simp_all [underlying,load,Sem.run]
    simp [execOp,ha.eval hx,Instr.loadAt,Instr.sureAddr,rp,hl]⟩
theorem allN_congr {p q : Nat → Bool} {n : Nat} (h : ∀ j,j < n → p j = q j) : allN p n = allN q n:=by
  unfold allN
  rw [Bool.eq_iff_iff,List.all_eq_true,List.all_eq_true]
  constructor
  · intro hp j hj;rw [← h j (by simpa using hj)];exact hp j hj
  · intro hp j hj;rw [h j (by simpa using hj)];exact hp j hj
theorem rdR_take {α : Type} {D : TyR α} {xs : List α} {k j : Nat} (h : j < k) : rdR D (xs.take k) (j : Int) = rdR D xs (j : Int):=by
  simp [rdR,List.getD_eq_getElem?_getD,List.getElem?_take,h]
theorem un_off {a : Act} (ha : Fits n E a) (ho : o.guard = some (j,u)) (hj : ops[j]? = some oj) (hd : oj.dst = some t) (ht : look E t = some undef) : Region.wanted o (yielded ops a.tmps) = false:=by
  have h1:=ha.slots t _ ht
  have h2 : a.tmps[t]? = some undef ∨ a.tmps[t]? = none:=by
    cases hq : a.tmps[t]? with
    | none=>exact .inr rfl
    | some q=>simp [hq] at h1;exact .inl (by rw [h1])
  rcases h2 with h2|h2 <;> simp [Region.wanted,ho,yielded,hj,hd,h2,undef]
theorem s_guard_un {d : Nat} (ho : o.guard = some (j,u)) (hj : ops[j]? = some oj) (hd : oj.dst = some t) (ht : look E t = some undef) (hdd : o.dst = some d) (hn : Nat.blt d n = true) (h : WL P n ops Q rest ((d,undef) :: E) W) : WL P n ops Q (o :: rest) E W:=⟨fun a ha=>by
  have hw:=un_off ha ho hj hd ht
  have h3:=h.out _ (ha.put (by simpa [Nat.blt_eq] using hn) undef)
  unfold wpList
  rw [if_neg (by simp [hw]),hdd]
  exact h3⟩
theorem d_off_un {S : World → Prop} {ds : List Nat} {md i d : Nat} {plan : List (Nat × Nat)} (hm : md = 0 ∨ md = 1) (hq : QP Q) (hsel : Region.noSelect ops = true) (ho2 : o.guard = some (j,u)) (hj : ops[j]? = some oj) (hd : oj.dst = some t) (ht : look E t = some undef) (hdd : o.dst = some d) (hn : Nat.blt d n = true)
    (h : WD P n ops Q S ds plan ((d,undef) :: E) W) : WO P n ops Q S ds md i o plan E W:=by
  refine ⟨fun ho=>⟨fun l hl a ha hS=>?_⟩⟩
  have hw:=un_off ha ho2 hj hd ht
  have key : Region.free .any ops l i = true ∧ (Region.ready .any ops l).contains i = true ∧ planB ops ds (l.setIfInBounds i true) plan = true:=by
    rcases hm with rfl|rfl
    · simp only [planB,Bool.and_eq_true] at hl;exact ⟨hl.1.1,hl.1.2,hl.2⟩
    · simp only [planB,Bool.and_eq_true] at hl;exact ⟨hl.1.1.1.1,hl.1.1.1.2,hl.2⟩
  obtain ⟨h1,h2,h3⟩:=key
  refine wpAnyLast_any (v:=undef) ho (Region.noSelect_spec hsel) (fun c a w=>hq.out c a _ _ w) _ l a W (Region.free_spec ho h1) (by simpa using h2) (.inr ⟨hw,rfl⟩) ?_
  rw [hdd]
  exact h.out _ h3 _ (ha.put (by simpa [Nat.blt_eq] using hn) undef) hS
theorem gO {S : World → Prop} {ds : List Nat} {md i : Nat} {plan : List (Nat × Nat)} (h : WO P n ops Q S ds md i o plan E W) : WO P n ops Q S ds md i o plan E W:=h
end
end Go.Proofs.YtampmicahnnebaaGreat.Sp
namespace Go.Proofs.YtampmicahnnebaaGreat.Sp
open Go Go.RowKit
structure Rdc (w : World) (sz : Nat) (A : Option Addr) (n : Nat) (cs : List Value) : Prop where
  len : cs.length = n * sz
  some_ : 0 < n → A = some (adr A)
  cell : ∀ j v,cs[j]? = some v → w.cell? ((adr A).add j) = some v
def lels {α : Type} (D : Ty α) (ys : List α) (css : List (List Value)) : Asn:=exP (fun _ : Unit=>css.length = ys.length) (fun _=>els D ys css)
section
variable {P : Program} {w0 W : World} {L R : List Asn} {α : Type} {D : Ty α} {e sz bytes c c2 st : Nat} {A A2 : Option Addr} {xs ys : List α} {css : List (List Value)}
theorem run_append_none [hU : Und P st (.slice e)] [hE : Elt P e sz bytes] (v : Value) (n : Nat) (cs : List Value) (hown : W.ownsRow 0 e sz v n cs) (ty : TypeId) (c2 : Nat) : (Builtin.append_ #[st,st] ty #[v,.slice none 0 c2]).run P W = .ok v W:=by
  obtain ⟨i,z,hi,hz,hzs,hs1,hb1,hs0,hb0⟩:=hE.spec
  rcases hown.2 with ⟨rfl,rfl⟩|⟨g,cap,cur,rfl,_,_,hnc,_⟩
  · simp [Builtin.append_,run_underlying hU.out,sizeOf,typeInfo,hi,Builtin.lenOf,Builtin.firstCells]
  · simp [Builtin.append_,run_underlying hU.out,sizeOf,typeInfo,hi,Builtin.lenOf,Builtin.firstCells,hnc,storeCells]
theorem lels_take (css : List (List Value)) (xs : List α) (k : Nat) (hl : css.length = xs.length) : els D xs css = els D (xs.take k) (css.take k) ++ els D (xs.drop k) (css.drop k):=by
  rw [← els_append _ _ _ _ (by simp;omega),List.take_append_drop,List.take_append_drop]
theorem run_appendn [hU : Und P st (.slice e)] [hE : Elt P e sz bytes] (hm : Mem w0 W (own D e A c xs :: lels D ys css :: R)) (hs : sz = D.sz) (hr : Rdc W sz A2 ys.length css.flatten) (hlim : (xs.length + ys.length) * bytes ≤ 140737488355328) (ty : TypeId) :
    ∃ A1 c1 W1,(Builtin.append_ #[st,st] ty #[.slice A xs.length c,.slice A2 ys.length c2]).run P W = .ok (.slice A1 (xs ++ ys).length c1) W1 ∧ Mem w0 W1 (own D e A1 c1 (xs ++ ys) :: R):=by
  obtain ⟨i0,z,hi,hz,hzs,hs1,hb1,hs0,hb0⟩:=hE.spec
  subst hs
  obtain ⟨F,hF,⟨_,_,F1,h1,⟨css0,hl,G,h2,⟨ho,h4⟩,h3⟩,F2,h5,⟨_,hcl,h6⟩,_⟩,key⟩:=hm.two.split
  by_cases hy0 : ys.length = 0
  · have hys : ys = []:=List.eq_nil_of_length_eq_zero hy0
    subst hys
    have hrun : ∃ W1,(Builtin.append_ #[st,st] ty #[.slice A xs.length c,.slice A2 0 c2]).run P W = .ok (.slice A xs.length c) W1 ∧ W1 = W:=by
      cases A2 with
      | none=>exact ⟨W,run_append_none _ _ _ ho ty c2,rfl⟩
      | some a2 =>
        rcases ho.2 with ⟨he,h0⟩|⟨g,cap,cur,he,_,hh,hnc,_,hcs,_⟩
        · injection he with he1 he2 he3
          subst he1 he3
          exact ⟨W,by simp [Builtin.append_,run_underlying hU.out,sizeOf,typeInfo,hi,Builtin.lenOf,Builtin.firstCells,h0,loadCells,loadCellsFrom],rfl⟩
        · injection he with he1 he2 he3
          subst he1 he3
          exact ⟨W,by simp [Builtin.append_,run_underlying hU.out,sizeOf,typeInfo,hi,Builtin.lenOf,Builtin.firstCells,hnc,storeCells,loadCells,loadCellsFrom],rfl⟩
    obtain ⟨W1,hrun,rfl⟩:=hrun
    refine ⟨A,c,W1,by simpa using hrun,?_⟩
    have hm2:=hm.perm (List.Perm.swap ..)
    simpa using hm2.drop
  have hsep6 : SepIn W F2 (els D ys css):=h6
  have hnl : css.flatten.length = ys.length * D.sz:=hr.len
  have hlen : xs.length + ys.length ≤ 140737488355328:=Nat.le_trans (Nat.le_mul_of_pos_right _ hb0) hlim
  obtain ⟨v1,W1,hrun,hown,hgr,_,hat⟩:=run_append_own_at (P:=P) (w:=W) 0 st ty e i0 z D.sz bytes hU.out hi hz hs1 hb1 hzs (by omega) (.slice A xs.length c) xs.length css0.flatten ho (adr A2) ys.length c2 css.flatten hnl
    hr.cell (els_one hcl hsep6) (by simp only [maxLen];omega) hlim (Nat.zero_le _)
  obtain ⟨hl1,hh⟩:=hown
  rcases hh with ⟨_,h0⟩|⟨g1,cap,cur,rfl,hb,hc,h7,h8,h9,h10⟩
  · omega
  have hA2:=hr.some_ (by omega)
  refine ⟨some ⟨g1,0,none⟩,cap,W1,by rw [hA2];simpa using hrun,?_⟩
  have hgF : (Value.slice A xs.length c).ownBlock = some g1 ∨ g1 = W.heap.size:=by
    rcases hat with hat|hat
    · exact .inl hat.symm
    · right;simpa [Value.ownBlock] using hat
  refine key W1 [own D e (some ⟨g1,0,none⟩) cap (xs ++ ys)] hgr.os hgr.tape hgr.output hgr.size (fun k hk hn=>hgr.block k hk (fun e=>hn (h1 k (h2 k (h4 k e.symm))))) ?_
  refine ⟨_,fun _ h=>h,⟨css0 ++ css,by simp [hl,hcl],fun k=>k = g1,fun k hk=>?_,⟨?_,fun k hk=>?_⟩,?_⟩,trivial⟩
  · subst hk
    rcases hgF with h|h
    · exact .inl (h1 _ (h2 _ (h4 _ h)))
    · exact .inr (by omega)
  · refine ⟨by simpa using hl1,.inr ⟨g1,cap,cur,by simp,Nat.zero_le _,hc,by simpa using h7,h8,h9,by simpa using h10⟩⟩
  · simpa [Value.ownBlock] using hk.symm
  · rw [els_append xs ys css0 css hl]
    have hnew : ∀ k,k < W.heap.size → ¬ G k → k ≠ g1:=fun k hk hnG e=>by
      subst e
      rcases hgF with h|h
      · exact hnG (h4 _ h)
      · omega
    have hsame : ∀ k,k < W.heap.size → ¬ G k → W1.heap[k]? = W.heap[k]?:=fun k hk hnG=>hgr.block k hk (fun e=>hnG (h4 k e.symm))
    refine SepIn.join (F:=fun k=>(F1 k ∧ ¬ G k) ∧ k < W.heap.size) (fun k hk=>⟨.inl (h1 k hk.1.1),hnew k hk.2 hk.1.2⟩) (h3.bound.move (fun k hk _=>hsame k hk.2 hk.1.2)) ?_
    have h11:=(h6.bound.move (fun k hk _=>hsame k hk.2 (fun hg=>(h5 k hk.1).2 (h2 k hg))))
    exact h11.mono (fun k hk=>⟨⟨.inl (h5 k hk.1).1,hnew k hk.2 (fun hg=>(h5 k hk.1).2 (h2 k hg))⟩,fun hf=>(h5 k hk.1).2 hf.1.1⟩)
end
class FlatO {α : Type} (D : Ty α) (enc : outParam (α → List Value)) : Prop where
  out : ∀ x W F,(D.A x (enc x)).H W F
instance : FlatO tInt (fun n=>[.int .i64 n]):=⟨fun x W F=>⟨(),rfl,trivial⟩⟩
instance : FlatO tStr (fun n=>[.string n]):=⟨fun x W F=>⟨(),rfl,trivial⟩⟩
instance : FlatO tSlot (fun x=>encSlot x ()):=⟨fun x W F=>⟨(),rfl,trivial⟩⟩
instance : FlatO tFix (fun x=>encFix x ()):=⟨fun x W F=>⟨(),rfl,trivial⟩⟩
class FlatR {α : Type} (D : TyR α) (enc : outParam (α → List Value)) : Prop where
  out : ∀ {w x c},D.R w x c → c = enc x
instance : FlatR rInt (fun n=>[.int .i64 n]):=⟨by rintro w x c ⟨_,h,_⟩;exact h⟩
instance {b : Bool} : FlatR (rStr b) (fun n=>[.string n]):=⟨by rintro w x c ⟨_,h,_⟩;exact h⟩
instance {b : Bool} : FlatR (rSlot b) (fun x=>encSlot x ()):=⟨by rintro w x c ⟨_,h,_⟩;exact h⟩
instance {b : Bool} : FlatR (rFix b) (fun x=>encFix x ()):=⟨by rintro w x c ⟨_,h,_⟩;exact h⟩
section
variable {w0 W : World} {L R : List Asn} {α : Type} {D : Ty α} {DR : TyR α} {enc : α → List Value} {e sz c : Nat} {A A2 : Option Addr} {xs ys : List α}
theorem els_flat [h : FlatO D enc] (W : World) : ∀ (ys : List α) (ok : Nat → Prop),SepIn W ok (els D ys (ys.map enc))
  | [],_=>trivial
  | y :: ys,ok=>⟨fun _=>False,fun _ h=>h.elim,h.out y W _,(els_flat W ys ok).mono (fun k hk=>⟨hk,fun h=>h⟩)⟩
theorem Mem.flat [h : FlatO D enc] (ys : List α) (hm : Mem w0 W L) : Mem w0 W (lels D ys (ys.map enc) :: L) :=
  ⟨hm.below,fun _=>False,fun _ h=>h.elim,⟨(),by simp,els_flat W ys _⟩,hm.sep.mono (fun k hk=>⟨hk,fun h=>h⟩)⟩
theorem ro_rdc [h : FlatR DR enc] (hr : RoRow DR W A ys) : Rdc W DR.sz A ys.length (ys.map enc).flatten:=by
  have hlen : ∀ c ∈ ys.map enc,c.length = DR.sz:=by
    intro c hc
    obtain ⟨y,hy,rfl⟩:=List.mem_map.1 hc
    obtain ⟨i,hi,rfl⟩:=List.getElem_of_mem hy
    obtain ⟨c,h1,_⟩:=hr.cell i hi
    rw [← h.out h1];exact DR.len h1
  have hl:=flat_length hlen
  rw [List.length_map] at hl
  refine ⟨hl,hr.some_,fun j v hv=>?_⟩
  have hj : j < ys.length * DR.sz:=by rw [← hl];exact (List.getElem?_eq_some_iff.1 hv).1
  have hz : 0 < DR.sz:=by
    rcases Nat.eq_zero_or_pos DR.sz with e|e
    · rw [e] at hj;omega
    · exact e
  have hq : j / DR.sz < ys.length:=(Nat.div_lt_iff_lt_mul hz).2 hj
  have hm:=Nat.mod_lt j hz
  obtain ⟨c,h1,h2⟩:=hr.cell (j / DR.sz) hq
  have h3:=flat_get (css:=ys.map enc) (j / DR.sz) (j % DR.sz) hlen (by simpa using hq) hm
  have e1 : j / DR.sz * DR.sz + j % DR.sz = j:=by rw [Nat.mul_comm];exact Nat.div_add_mod ..
  rw [e1] at h3
  rw [h3] at hv
  have:=h2 (j % DR.sz) v (by rw [h.out h1];simpa using hv)
  rwa [e1] at this
theorem RoRow.now (hm : Mem w0 W L) (h : RoRow DR w0 A ys) (hmv : ∀ x c,DR.R w0 x c → DR.R W x c) : RoRow DR W A ys :=
  ⟨h.max,h.some_,fun i hi=>by obtain ⟨c,h1,h2⟩:=h.cell i hi;exact ⟨c,hmv _ _ h1,fun j v hv=>hm.old (h2 j v hv)⟩⟩
theorem rdc_now {n : Nat} {cs : List Value} (hm : Mem w0 W L) (h : Rdc w0 sz A n cs) : Rdc W sz A n cs:=⟨h.len,h.some_,fun j v hv=>hm.old (h.cell j v hv)⟩
end
section
variable {P : Program} {n : Nat} {ops : Array Oper} {Q : Exit → Act → World → Prop} {rest : List Oper} {E : Env} {w0 W : World} {L L' R R1 R2 : List Asn}
variable {d : Nat} {ty st : TypeId} {pos : String} {after : Array Edge} {x y : Operand} {e sz bytes c c2 l m : Nat} {A A2 : Option Addr} {α : Type} {D : Ty α} {DR : TyR α} {enc : α → List Value} {xs ys : List α} {css : List (List Value)}
theorem s_appn [hU : Und P st (.slice e)] [hE : Elt P e sz bytes] (hm : Mem w0 W L) (hx : ev E x = some (.slice A l c)) (hy : ev E y = some (.slice A2 m c2)) [hO : OwnE L A e c α D xs] (hl : l = xs.length) (hs : sz = D.sz) [hp : Pk L (own D e A c xs) R1] [hq : Pk R1 (lels D ys css) R2] (hr : Rdc W sz A2 ys.length css.flatten) (hml : m = ys.length)
    (hlim : (xs.length + ys.length) * bytes ≤ 140737488355328) (hn : Nat.blt d n = true) (h : ∀ A1 c1 W1,Mem w0 W1 (own D e A1 c1 (xs ++ ys) :: R2) → WL P n ops Q rest ((d,.slice A1 (xs ++ ys).length c1) :: E) W1) :
    WL P n ops Q (⟨some d,.call { callee:=.builtin .append,args:=#[x,y],argTypes:=#[st,st] },ty,pos,after,none⟩ :: rest) E W:=by
  subst hl hml
  have hm2 : Mem w0 W (own D e A c xs :: lels D ys css :: R2):=(hm.pk (A:=own D e A c xs)).perm (List.Perm.cons _ hq.out)
  obtain ⟨A1,c1,W1,hrun,hm3⟩:=run_appendn (P:=P) (st:=st) (c2:=c2) hm2 hs hr hlim ty
  exact s_run (W1:=W1) rfl rfl hn (fun a ha=>by simp [execOp,ha.eval hx,ha.eval hy,resolve,invoke,builtin,hrun]) (h A1 c1 W1 hm3)
theorem mem_with (hm : Mem w0 W L) [hp : Pk L (own D e A c xs) R1] [hF : FlatO D enc] (ys : List α) : Mem w0 W (own D e A c xs :: lels D ys (ys.map enc) :: R1):=((hm.pk (A:=own D e A c xs)).flat (D:=D) ys).perm (List.Perm.swap ..)
theorem s_appw [hU : Und P st (.slice e)] [hE : Elt P e sz bytes] (hm : Mem w0 W L) (hx : ev E x = some (.slice A l c)) (hy : ev E y = some (.slice A2 m c2)) [hO : OwnE L A e c α D xs] (hl : l = xs.length) (hs : sz = D.sz) [hp : Pk L (own D e A c xs) R1] [hF : FlatO D enc] (hr : Rdc W sz A2 ys.length (ys.map enc).flatten) (hml : m = ys.length)
    (hlim : (xs.length + ys.length) * bytes ≤ 140737488355328) (hn : Nat.blt d n = true) (h : ∀ A1 c1 W1,Mem w0 W1 (own D e A1 c1 (xs ++ ys) :: R1) → WL P n ops Q rest ((d,.slice A1 (xs ++ ys).length c1) :: E) W1) :
    WL P n ops Q (⟨some d,.call { callee:=.builtin .append,args:=#[x,y],argTypes:=#[st,st] },ty,pos,after,none⟩ :: rest) E W:=by
  subst hl hml
  obtain ⟨A1,c1,W1,hrun,hm3⟩:=run_appendn (P:=P) (st:=st) (c2:=c2) (mem_with (A:=A) (D:=D) (e:=e) (c:=c) (xs:=xs) hm ys) hs hr hlim ty
  exact s_run (W1:=W1) rfl rfl hn (fun a ha=>by simp [execOp,ha.eval hx,ha.eval hy,resolve,invoke,builtin,hrun]) (h A1 c1 W1 hm3)
theorem s_appr [hU : Und P st (.slice e)] [hE : Elt P e sz bytes] (hm : Mem w0 W L) (hx : ev E x = some (.slice A l c)) (hy : ev E y = some (.slice A2 m c2)) [hO : OwnE L A e c α D xs] (hl : l = xs.length) [hR : RoAt L A2 α DR w0 ys] (hs : sz = D.sz) (hs2 : sz = DR.sz) [hp : Pk L (own D e A c xs) R1] [hF : FlatO D enc] [hG : FlatR DR enc] (hml : m = ys.length)
    (hlim : (xs.length + ys.length) * bytes ≤ 140737488355328) (hn : Nat.blt d n = true) (h : ∀ A1 c1 W1,Mem w0 W1 (own D e A1 c1 (xs ++ ys) :: R1) → WL P n ops Q rest ((d,.slice A1 (xs ++ ys).length c1) :: E) W1) :
    WL P n ops Q (⟨some d,.call { callee:=.builtin .append,args:=#[x,y],argTypes:=#[st,st] },ty,pos,after,none⟩ :: rest) E W:=by
  have hr:=hm.ro (A:=A2) (D:=DR)
  have h1:=rdc_now hm (ro_rdc hr)
  rw [← hs2] at h1
  exact s_appw hm hx hy hl hs h1 hml hlim hn h
theorem s_app0 (D : Ty α) [hU : Und P st (.slice e)] [hE : Elt P e sz bytes] (hm : Mem w0 W L) (hx : ev E x = some (.slice none 0 0)) (hy : ev E y = some (.slice A2 m c2)) (hs : sz = D.sz) [hF : FlatO D enc] (hr : Rdc W sz A2 ys.length (ys.map enc).flatten) (hml : m = ys.length)
    (hlim : ys.length * bytes ≤ 140737488355328) (hn : Nat.blt d n = true) (h : ∀ A1 c1 W1,Mem w0 W1 (own D e A1 c1 ys :: L) → WL P n ops Q rest ((d,.slice A1 ys.length c1) :: E) W1) :
    WL P n ops Q (⟨some d,.call { callee:=.builtin .append,args:=#[x,y],argTypes:=#[st,st] },ty,pos,after,none⟩ :: rest) E W :=
  s_appw (xs:=[]) (D:=D) (A:=none) (c:=0) (e:=e) (hp:=⟨List.Perm.refl _⟩) (hO:=⟨trivial⟩) (hm.nil D e) hx hy rfl hs hr hml (by simpa using hlim) hn (fun A1 c1 W1 h1=>h A1 c1 W1 h1)
theorem s_app0r (D : Ty α) [hU : Und P st (.slice e)] [hE : Elt P e sz bytes] (hm : Mem w0 W L) (hx : ev E x = some (.slice none 0 0)) (hy : ev E y = some (.slice A2 m c2)) [hR : RoAt L A2 α DR w0 ys] (hs : sz = D.sz) (hs2 : sz = DR.sz) [hF : FlatO D enc] [hG : FlatR DR enc] (hml : m = ys.length)
    (hlim : ys.length * bytes ≤ 140737488355328) (hn : Nat.blt d n = true) (h : ∀ A1 c1 W1,Mem w0 W1 (own D e A1 c1 ys :: L) → WL P n ops Q rest ((d,.slice A1 ys.length c1) :: E) W1) :
    WL P n ops Q (⟨some d,.call { callee:=.builtin .append,args:=#[x,y],argTypes:=#[st,st] },ty,pos,after,none⟩ :: rest) E W:=by
  have hr:=hm.ro (A:=A2) (D:=DR)
  have h1:=rdc_now hm (ro_rdc hr)
  rw [← hs2] at h1
  exact s_app0 D hm hx hy hs h1 hml hlim hn h
end
end Go.Proofs.YtampmicahnnebaaGreat.Sp
namespace Go.Proofs.YtampmicahnnebaaGreat.Sp
open Go Go.RowKit
section
variable {P : Program} {n : Nat} {ops : Array Oper} {Q : Exit → Act → World → Prop} {rest : List Oper} {E : Env} {w0 W : World} {L : List Asn} {d t e sz bytes : Nat} {ty : TypeId} {pos : String} {after : Array Edge}
theorem s_lit0 {α : Type} (D : Ty α) [hU : Und P t (.slice e)] [hE : Elt P e sz bytes] (hm : Mem w0 W L) (hs : sz = D.sz) (hn : Nat.blt d n = true) (h : ∀ A1 W1,Mem w0 W1 (own D e A1 0 [] :: L) → WL P n ops Q rest ((d,.slice A1 0 0) :: E) W1) :
    WL P n ops Q (⟨some d,.buildSlice t 0 #[],ty,pos,after,none⟩ :: rest) E W:=by
  obtain ⟨i,z,hi,hz,hzs,hs1,hb,hs0,hb0⟩:=hE.spec
  subst hs
  have hown:=World.ownsRow_lit (size:=D.sz) (e:=e) (base:=0) W #[] 0 (Nat.zero_le _) (by simp [maxLen]) (by simp)
  have hrun : (Instr.buildSlice t 0 #[]).run P W = .ok (.slice (some ⟨W.heap.size,0,none⟩) 0 0) (W.alloc (.cells #[] e)):=by
    simp [Instr.buildSlice,underlying,hU.out,sizeOf,typeInfo,hi,hs1,zeroValue,hz,newRow,World.alloc_eq,Instr.fill,Array.range_zero']
  refine s_run (W1:=W.alloc (.cells #[] e)) rfl rfl hn (fun a ha=>by simp [execOp,hrun]) (h (some ⟨W.heap.size,0,none⟩) _ ?_)
  refine hm.add ((Below.refl _ _).alloc (Nat.le_refl _) _) ?_
  exact ⟨[],rfl,fun k=>k = W.heap.size,fun k hk=>by omega,⟨hown,fun k hk=>by simpa [Value.ownBlock] using hk.symm⟩,trivial⟩
end
end Go.Proofs.YtampmicahnnebaaGreat.Sp
namespace Go.Proofs.YtampmicahnnebaaGreat.Sp
open Go Go.RowKit
theorem caps_parts {eS eM eT eI eA : Nat} {x : Rcd} {i : AtRcd} {w0 W : World} {L : List Asn} (h : Mem w0 W (partRcd eS eM eT eI eA x i ++ L)) : x.ds.length ≤ i.a1.2 ∧ x.wishes.length ≤ i.a3.2:=by
  obtain ⟨_,_,_,a0,_,_,a1,_,_,a2,_,_,a3,_,_,a4,_,_,a5,_,_,a6,_⟩:=h
  exact ⟨(own_max a1).2,(own_max a3).2⟩
theorem perm_in {A : Asn} {L R M : List Asn} (h : L.Perm (A :: R)) (B : List Asn) (h2 : M.Perm (B ++ L)) : M.Perm ((B ++ [A]) ++ R):=h2.trans ((List.Perm.append_left B h).trans (by simp))
theorem pk_rec {eS eM eT eI eA : Nat} {x : Rcd} {i : AtRcd} {w0 W : World} {L R0 R1 R2 R3 R4 R5 R6 : List Asn} [h0 : Pk L (own tSlot eS i.a0.1 i.a0.2 x.ss) R0] [h1 : Pk R0 (own tSlot eS i.a1.1 i.a1.2 x.ds) R1] [h2 : Pk R1 (own (tMsg eS) eM i.a2.1 i.a2.2 x.held) R2] [h3 : Pk R2 (own tStr eT i.a3.1 i.a3.2 x.wishes) R3] [h4 : Pk R3 (own tInt eI i.a4.1 i.a4.2 x.yes) R4] [h5 : Pk R4 (own tSlot eS i.a5.1 i.a5.2 x.best) R5] [h6 : Pk R5 (own (tAck eI) eA i.a6.1 i.a6.2 x.acks) R6] (h : Mem w0 W L) : Mem w0 W (partRcd eS eM eT eI eA x i ++ R6):=by
  refine h.perm ?_
  have q0:=perm_in h0.out [] (List.Perm.refl L)
  have q1:=perm_in h1.out _ q0
  have q2:=perm_in h2.out _ q1
  have q3:=perm_in h3.out _ q2
  have q4:=perm_in h4.out _ q3
  have q5:=perm_in h5.out _ q4
  exact perm_in h6.out _ q5
theorem ro_rec1 {eS eM eT eI eA : Nat} {x : Rcd} {i : AtRcd} {w0 W : World} {L R0 R1 R2 R3 R4 R5 R6 : List Asn} [h0 : Pk L (own tSlot eS i.a0.1 i.a0.2 x.ss) R0] [h1 : Pk R0 (own tSlot eS i.a1.1 i.a1.2 x.ds) R1] [h2 : Pk R1 (own (tMsg eS) eM i.a2.1 i.a2.2 x.held) R2] [h3 : Pk R2 (own tStr eT i.a3.1 i.a3.2 x.wishes) R3] [h4 : Pk R3 (own tInt eI i.a4.1 i.a4.2 x.yes) R4] [h5 : Pk R4 (own tSlot eS i.a5.1 i.a5.2 x.best) R5] [h6 : Pk R5 (own (tAck eI) eA i.a6.1 i.a6.2 x.acks) R6] (h : Mem w0 W L) : RoRcd false W x i:=ro_parts (eS:=eS) (eM:=eM) (eT:=eT) (eI:=eI) (eA:=eA) (pk_rec (eS:=eS) (eM:=eM) (eT:=eT) (eI:=eI) (eA:=eA) h)
theorem ro_cap1 {eS eM eT eI eA : Nat} {x : Rcd} {i : AtRcd} {w0 W : World} {L R0 R1 R2 R3 R4 R5 R6 : List Asn} [h0 : Pk L (own tSlot eS i.a0.1 i.a0.2 x.ss) R0] [h1 : Pk R0 (own tSlot eS i.a1.1 i.a1.2 x.ds) R1] [h2 : Pk R1 (own (tMsg eS) eM i.a2.1 i.a2.2 x.held) R2] [h3 : Pk R2 (own tStr eT i.a3.1 i.a3.2 x.wishes) R3] [h4 : Pk R3 (own tInt eI i.a4.1 i.a4.2 x.yes) R4] [h5 : Pk R4 (own tSlot eS i.a5.1 i.a5.2 x.best) R5] [h6 : Pk R5 (own (tAck eI) eA i.a6.1 i.a6.2 x.acks) R6] (h : Mem w0 W L) : x.ds.length ≤ i.a1.2 ∧ x.wishes.length ≤ i.a3.2:=caps_parts (eS:=eS) (eM:=eM) (eT:=eT) (eI:=eI) (eA:=eA) (pk_rec (eS:=eS) (eM:=eM) (eT:=eT) (eI:=eI) (eA:=eA) h)
def boxR (eS eM eT eI eA T g : Nat) (x : Rcd) (i : AtRcd) : List Asn:=box g T [.int .i64 x.number,.int .i64 x.of,.bool x.up,.int .i64 x.sp,.int .i64 x.sk,.slice i.a0.1 x.ss.length i.a0.2,.int .i64 x.dp,.int .i64 x.dk,.slice i.a1.1 x.ds.length i.a1.2,.slice i.a2.1 x.held.length i.a2.2,.slice i.a3.1 x.wishes.length i.a3.2,.bool x.lead,.bool x.trying,.int .i64 x.ballot,.slice i.a4.1 x.yes.length i.a4.2,.slice i.a5.1 x.best.length i.a5.2,.slice i.a6.1 x.acks.length i.a6.2,.int .i64 x.heard] :: partRcd eS eM eT eI eA x i
theorem pk_boxr {eS eM eT eI eA T g : Nat} {x : Rcd} {i : AtRcd} {w0 W : World} {L R R0 R1 R2 R3 R4 R5 R6 : List Asn} [hb : Pk L (box g T [.int .i64 x.number,.int .i64 x.of,.bool x.up,.int .i64 x.sp,.int .i64 x.sk,.slice i.a0.1 x.ss.length i.a0.2,.int .i64 x.dp,.int .i64 x.dk,.slice i.a1.1 x.ds.length i.a1.2,.slice i.a2.1 x.held.length i.a2.2,.slice i.a3.1 x.wishes.length i.a3.2,.bool x.lead,.bool x.trying,.int .i64 x.ballot,.slice i.a4.1 x.yes.length i.a4.2,.slice i.a5.1 x.best.length i.a5.2,.slice i.a6.1 x.acks.length i.a6.2,.int .i64 x.heard]) R] [h0 : Pk R (own tSlot eS i.a0.1 i.a0.2 x.ss) R0] [h1 : Pk R0 (own tSlot eS i.a1.1 i.a1.2 x.ds) R1] [h2 : Pk R1 (own (tMsg eS) eM i.a2.1 i.a2.2 x.held) R2] [h3 : Pk R2 (own tStr eT i.a3.1 i.a3.2 x.wishes) R3] [h4 : Pk R3 (own tInt eI i.a4.1 i.a4.2 x.yes) R4] [h5 : Pk R4 (own tSlot eS i.a5.1 i.a5.2 x.best) R5] [h6 : Pk R5 (own (tAck eI) eA i.a6.1 i.a6.2 x.acks) R6] (h : Mem w0 W L) : Mem w0 W (boxR eS eM eT eI eA T g x i ++ R6):=by
  refine h.perm ?_
  have q0:=perm_in hb.out [] (List.Perm.refl L)
  have q1:=perm_in h0.out _ q0
  have q2:=perm_in h1.out _ q1
  have q3:=perm_in h2.out _ q2
  have q4:=perm_in h3.out _ q3
  have q5:=perm_in h4.out _ q4
  have q6:=perm_in h5.out _ q5
  exact perm_in h6.out _ q6
end Go.Proofs.YtampmicahnnebaaGreat.Sp
namespace Go.Proofs.YtampmicahnnebaaGreat.Sp
open Go Go.RowKit
class TyE (P : Program) (e : Nat) (α : outParam Type) (D : outParam (Ty α)) : Prop where tr : True
instance : TyE Tryz.prog 3 Int tInt:=⟨trivial⟩
instance : TyE Tryz.prog 9 ByteArray tStr:=⟨trivial⟩
instance : TyE Tryz.prog 91 Slot tSlot:=⟨trivial⟩
instance : TyE Tryz.prog 134 Fix tFix:=⟨trivial⟩
instance : TyE Tryz.prog 40 Msg (tMsg 91):=⟨trivial⟩
instance : TyE Tryz.prog 66 Ack (tAck 3):=⟨trivial⟩
section
variable {P : Program} {n : Nat} {ops : Array Oper} {Q : Exit → Act → World → Prop} {rest : List Oper} {E : Env} {w0 W : World} {L : List Asn}
variable {d : Nat} {ty st : TypeId} {pos : String} {after : Array Edge} {x y : Operand} {e sz bytes c2 m l : Nat} {A2 : Option Addr} {α : Type} {D : Ty α} {DR : TyR α} {enc : α → List Value} {ys : List α} {k k' : IntKind} {zs : List Value}
theorem s_lit0a [hU : Und P st (.slice e)] [hT : TyE P e α D] [hE : Elt P e sz bytes] (hm : Mem w0 W L) (hs : sz = D.sz) (hn : Nat.blt d n = true) (h : ∀ A1 W1,Mem w0 W1 (own D e A1 0 [] :: L) → WL P n ops Q rest ((d,.slice A1 0 0) :: E) W1) :
    WL P n ops Q (⟨some d,.buildSlice st 0 #[],ty,pos,after,none⟩ :: rest) E W:=s_lit0 D hm hs hn h
theorem s_app0a [hU : Und P st (.slice e)] [hT : TyE P e α D] [hE : Elt P e sz bytes] (hm : Mem w0 W L) (hx : ev E x = some (.slice none 0 0)) (hy : ev E y = some (.slice A2 m c2)) (hs : sz = D.sz) [hR : RoAt L A2 α DR w0 ys] (hs2 : sz = DR.sz) [hF : FlatO D enc] [hG : FlatR DR enc] (hml : m = ys.length)
    (hlim : ys.length * bytes ≤ 140737488355328) (hn : Nat.blt d n = true) (h : ∀ A1 c1 W1,Mem w0 W1 (own D e A1 c1 ys :: L) → WL P n ops Q rest ((d,.slice A1 ys.length c1) :: E) W1) :
    WL P n ops Q (⟨some d,.call { callee:=.builtin .append,args:=#[x,y],argTypes:=#[st,st] },ty,pos,after,none⟩ :: rest) E W :=
  s_app0r D hm hx hy hs hs2 hml hlim hn h
theorem s_appr0 {R1 : List Asn} {c l : Nat} {A : Option Addr} [hU : Und P st (.slice e)] [hE : Elt P e sz bytes] (hm : Mem w0 W L) (hx : ev E x = some (.slice A l c)) (hy : ev E y = some (.slice A2 m c2)) (hl : l = 0) [hR : RoAt L A2 α DR w0 ys] [hp : Pk L (own D e A c []) R1] [hT : TyE P e α D] (hs : sz = D.sz) (hs2 : sz = DR.sz) [hF : FlatO D enc] [hG : FlatR DR enc] (hml : m = ys.length)
    (hlim : ys.length * bytes ≤ 140737488355328) (hn : Nat.blt d n = true) (h : ∀ A1 c1 W1,Mem w0 W1 (own D e A1 c1 ys :: R1) → WL P n ops Q rest ((d,.slice A1 ys.length c1) :: E) W1) :
    WL P n ops Q (⟨some d,.call { callee:=.builtin .append,args:=#[x,y],argTypes:=#[st,st] },ty,pos,after,none⟩ :: rest) E W :=
  s_appr (xs:=[]) (D:=D) (A:=A) (c:=c) (e:=e) (hO:=⟨trivial⟩) hm hx hy hl hs hs2 hml (by simpa using hlim) hn h
theorem p_nil {a : Addr} (hx : ev E x = some (.pointer (some a))) : PV P E (.nilCheck x) (.pointer (some a)):=⟨fun n act ha dst ty pos after gd W=>by simp [execOp,ha.eval hx,asAddr]⟩
end
theorem Mem.rod {w0 W : World} {L : List Asn} {α : Type} {D : TyR α} {A : Option Addr} {xs : List α} (hm : Mem w0 W L) (h : RoRow D w0 A xs) : Mem w0 W (Sp.ro D w0 A xs :: L):=hm.pur h
def roB (w0 : World) (g t : Nat) (cs : List Value) : Asn:=pur (w0.heap[g]? = some (.cells cs.toArray t (0,0)))
class RoBAt (L : List Asn) (g : Nat) (w0 : outParam World) (t : outParam Nat) (cs : outParam (List Value)) : Prop where mem : ∃ R,L.Perm (roB w0 g t cs :: R)
instance RoBAt.here {w0 : World} {g t : Nat} {cs : List Value} {L : List Asn} : RoBAt (roB w0 g t cs :: L) g w0 t cs:=⟨L,List.Perm.refl _⟩
instance (priority:=low) RoBAt.there {B : Asn} {L : List Asn} {w0 : World} {g t : Nat} {cs : List Value} [h : RoBAt L g w0 t cs] : RoBAt (B :: L) g w0 t cs:=⟨by
  obtain ⟨R,h⟩:=h.mem
  exact ⟨B :: R,(List.Perm.cons B h).trans (List.Perm.swap _ B R)⟩⟩
theorem Mem.robox {w0 W : World} {L : List Asn} {g t : Nat} {cs : List Value} (hm : Mem w0 W L) (h : w0.heap[g]? = some (.cells cs.toArray t (0,0))) : Mem w0 W (Sp.roB w0 g t cs :: L):=hm.pur h
theorem Mem.rob {w0 W : World} {L : List Asn} {g t : Nat} {cs : List Value} [h : RoBAt L g w0 t cs] (hm : Mem w0 W L) : W.heap[g]? = some (.cells cs.toArray t (0,0)):=by
  obtain ⟨R,hp⟩:=h.mem
  have h1:=Mem.pure_ hp hm
  exact (hm.below.block g (Array.getElem?_eq_some_iff.1 h1).1).trans h1
section
variable {P : Program} {E : Env} {w0 : World} {L : List Asn} {pt : TypeId} {x : Operand} {v : Value} {g t j m : Nat} {cs ws : List Value}
theorem p_loadrb [hB : RoBAt L g w0 t cs] [hv : Nth cs j v] [hO : One P pt] (hx : ev E x = some (.pointer (some ⟨g,j,none⟩))) : LV P E w0 L (.load pt x) v :=
  ⟨fun W hm n a ha dst ty pos after gd=>by
    obtain ⟨u,hu,hu2⟩:=hO.out
    have hc : W.cell? ⟨g,j,none⟩ = some v:=by rw [cell_of_row W g j _ t (0,0) hm.rob];simpa using hv.out
    have hl : (loadVar pt ⟨g,j,none⟩).run P W = .ok v W:=by
      unfold loadVar isAgg
      cases u <;> simp_all [underlying,load,Sem.run]
    simp [execOp,ha.eval hx,Instr.loadAt,Instr.sureAddr,hl]⟩
end
theorem p_loadsrc {P : Program} {E : Env} {w0 : World} {L : List Asn} {pt : TypeId} {x : Operand} {A : Option Addr} {i : Int} {sz q j m : Nat} {ws vs : List Value} [hO : RoCAt L A w0 q sz ws] [hA : Agg P pt m] [hv : Sub ws j m vs] (hx : ev E x = some (.pointer (some (rp A i sz j)))) (hi : i = q) : LV P E w0 L (.load pt x) (.agg vs.toArray) :=
  ⟨fun W hmem n a ha dst ty pos after gd=>by
    obtain ⟨R,hp⟩:=hO.mem
    obtain ⟨hA1,hl,hc⟩:=Mem.pure_ hp hmem
    obtain ⟨u,hu,hu2,hinf⟩:=hA.out
    obtain ⟨hv1,hv2⟩:=hv.out
    subst hi
    have hvl : vs.length = m:=by rw [← hv1];simp;omega
    have key : ∀ (vs : List Value) (acc : Array Value) (j : Nat) (a : Addr),(∀ q v,vs[q]? = some v → W.cell? (a.add (j + q)) = some v) → (loadCellsFrom a j vs.length acc).run P W = .ok (acc ++ vs.toArray) W:=by
      intro vs
      induction vs with
      | nil=>intro acc j a h;simp [loadCellsFrom]
      | cons v r ih =>
        intro acc j a h
        have h1:=h 0 v rfl
        rw [Nat.add_zero] at h1
        have h2:=ih (acc.push v) (j + 1) a (fun q u hq=>by have:=h (q + 1) u (by simpa using hq);rwa [Nat.add_assoc,Nat.add_comm 1 q])
        simp only [List.length_cons,loadCellsFrom,Sem.run_bind]
        have h3 : (load (a.add j)).run P W = .ok v W:=by simp [load,Sem.run,h1]
        rw [h3]
        simp only [Result.andThen_ok]
        rw [h2]
        simp
    have h4:=key vs #[] 0 ((adr A).add (q * sz + j)) (fun q2 v hv=>by
      rw [addr_add_add,Nat.zero_add,Nat.add_assoc]
      refine hmem.old (hc (j + q2) v ?_)
      rw [← hv1,List.getElem?_take] at hv
      split at hv
      · rw [List.getElem?_drop] at hv;exact hv
      · cases hv)
    have h5 : (loadVar pt ((adr A).add (q * sz + j))).run P W = .ok (.agg vs.toArray) W:=by
      rw [hvl] at h4
      obtain ⟨inf,hi1,hi2⟩:=Option.map_eq_some_iff.1 hinf
      have hagg : (isAgg pt).run P W = .ok true W:=by
        unfold isAgg
        simp only [Sem.run_bind,run_underlying hu,Result.andThen_ok]
        cases u <;> first|rfl|(exfalso;simp at hu2)
      unfold loadVar
      simp only [Sem.run_bind,hagg,Result.andThen_ok,if_true]
      have h6 : (sizeOf pt).run P W = .ok m W:=by simp [sizeOf,typeInfo,hi1,hi2]
      rw [h6]
      simp only [Result.andThen_ok,loadCells]
      rw [h4]
      simp
    simp [execOp,ha.eval hx,Instr.loadAt,Instr.sureAddr,rp,h5]⟩
theorem p_loadwf {P : Program} {E : Env} {w0 : World} {L : List Asn} {pt : TypeId} {x : Operand} {A : Option Addr} {i : Int} {sz m : Nat} {α : Type} {D : TyR α} {enc : α → List Value} {xs : List α} [hO : RoAt L A α D w0 xs] [hA : Agg P pt m] [hF : FlatR D enc] (hx : ev E x = some (.pointer (some (rp A i sz 0)))) (hs : sz = D.sz) (hm : m = sz) (h0 : 0 ≤ i) (h1 : i < xs.length) : LV P E w0 L (.load pt x) (.agg (enc (rdR D xs i)).toArray) :=
  ⟨fun W hmem n a ha dst ty pos after gd=>by
    obtain ⟨q,rfl⟩:=Int.eq_ofNat_of_zero_le h0
    have hq : q < xs.length:=by omega
    obtain ⟨c,hc,hm2⟩:=hmem.roOpen (A:=A) q hq
    have e:=hF.out hc
    rw [rdR_at hq,← e]
    subst hs
    exact (p_loadwr (P:=P) (L:=roC w0 A q D.sz c :: L) hx hm rfl).out W hm2 n a ha dst ty pos after gd⟩
theorem rdR_int {α : Type} {D : TyR α} {xs : List α} {i : Int} (h0 : 0 ≤ i) (h1 : i < xs.length) : rdR D xs i = xs[i.toNat]'(by omega):=by
  have : i.toNat < xs.length:=by omega
  simp [rdR,List.getD_eq_getElem?_getD,this]
def zeroR : Rcd:=⟨0,0,false,0,0,[],0,0,[],[],[],false,false,0,[],[],[],0⟩
def atZ : AtRcd:=⟨(none,0),(none,0),(none,0),(none,0),(none,0),(none,0),(none,0)⟩
theorem Mem.zeroR {w0 W : World} {L : List Asn} (eS eM eT eI eA : Nat) (h : Mem w0 W L) : Mem w0 W (partRcd eS eM eT eI eA Sp.zeroR atZ ++ L) :=
  ((((((h.nil (tAck eI) eA).nil tSlot eS).nil tInt eI).nil tStr eT).nil (tMsg eS) eM).nil tSlot eS).nil tSlot eS
end Go.Proofs.YtampmicahnnebaaGreat.Sp
namespace Go.Proofs.YtampmicahnnebaaGreat.Sp
open Go Go.RowKit Go.Proofs.YtampmicahnnebaaGreatW.PrintLast
theorem Y1 {P E op Q} {G : Prop} (h : G → GP P E op Q) : G → GP P E op Q := h
theorem Y2 {P E x Q} {G : Prop} (h : G → GP P E (.move x) Q) : G → GP P E (.move x) Q := h
theorem Y3 {P E x Q} {G : Prop} (h : G → GP P E (.assign x) Q) : G → GP P E (.assign x) Q := h
theorem Y4 {P E b xt x y yt Q} {G : Prop} (h : G → GP P E (.binOp b xt x y yt) Q) : G → GP P E (.binOp b xt x y yt) Q := h
theorem Y5 {P E xt x y yt Q} {G : Prop} (h : G → GP P E (.binOp .lss xt x y yt) Q) : G → GP P E (.binOp .lss xt x y yt) Q := h
theorem Y6 {P E xt x y yt Q} {G : Prop} (h : G → GP P E (.binOp .eql xt x y yt) Q) : G → GP P E (.binOp .eql xt x y yt) Q := h
theorem Y7 {P E xt x y yt Q} {G : Prop} (h : G → GP P E (.binOp .neq xt x y yt) Q) : G → GP P E (.binOp .neq xt x y yt) Q := h
theorem Y8 {P E xt x y yt Q} {G : Prop} (h : G → GP P E (.binOp .leq xt x y yt) Q) : G → GP P E (.binOp .leq xt x y yt) Q := h
theorem Y9 {P E xt x y yt Q} {G : Prop} (h : G → GP P E (.binOp .gtr xt x y yt) Q) : G → GP P E (.binOp .gtr xt x y yt) Q := h
theorem Y10 {P E xt x y yt Q} {G : Prop} (h : G → GP P E (.binOp .geq xt x y yt) Q) : G → GP P E (.binOp .geq xt x y yt) Q := h
theorem Y11 {P E xt x y yt Q} {G : Prop} (h : G → GP P E (.binOp .add xt x y yt) Q) : G → GP P E (.binOp .add xt x y yt) Q := h
theorem Y12 {P E xt x y yt Q} {G : Prop} (h : G → GP P E (.binOp .sub xt x y yt) Q) : G → GP P E (.binOp .sub xt x y yt) Q := h
theorem Y13 {P E xt x y yt Q} {G : Prop} (h : G → GP P E (.binOp .mul xt x y yt) Q) : G → GP P E (.binOp .mul xt x y yt) Q := h
theorem Y14 {P E xt x y yt Q} {G : Prop} (h : G → GP P E (.binOp .rem xt x y yt) Q) : G → GP P E (.binOp .rem xt x y yt) Q := h
theorem Y15 {P E xt x y yt Q} {G : Prop} (h : G → GP P E (.binOp .quo xt x y yt) Q) : G → GP P E (.binOp .quo xt x y yt) Q := h
theorem Y16 {P E st x f Q} {G : Prop} (h : G → GP P E (.fieldAddr st x f) Q) : G → GP P E (.fieldAddr st x f) Q := h
theorem Y17 {P E st x y Q} {G : Prop} (h : G → GP P E (.indexAddr st x y) Q) : G → GP P E (.indexAddr st x y) Q := h
theorem Y18 {P E cl Q} {G : Prop} (h : G → GP P E (.call cl) Q) : G → GP P E (.call cl) Q := h
theorem Y19 {P E o xt x Q} {G : Prop} (h : G → GP P E (.unOp o xt x) Q) : G → GP P E (.unOp o xt x) Q := h
theorem Y20 {P E c x y Q} {G : Prop} (h : G → GP P E (.pick c x y) Q) : G → GP P E (.pick c x y) Q := h
theorem Y21 {P E st x a b c Q} {G : Prop} (h : G → GP P E (.slice st x a b c) Q) : G → GP P E (.slice st x a b c) Q := h
theorem Y22 {P E x j Q} {G : Prop} (h : G → GP P E (.extract x j) Q) : G → GP P E (.extract x j) Q := h
theorem Y23 {P E t a Q} {G : Prop} (h : G → GP P E (.build t a) Q) : G → GP P E (.build t a) Q := h
theorem Y24 {P E x Q} {G : Prop} (h : G → GP P E (.nilCheck x) Q) : G → GP P E (.nilCheck x) Q := h
theorem Y25 {P E w0 L op Q} {G : Prop} (h : G → GV P E w0 L op Q) : G → GV P E w0 L op Q := h
theorem Y26 {P n ops Q rest E W} {G : Prop} (h : G → WL P n ops Q (rest) E W) : G → WL P n ops Q (rest) E W := h
theorem Y27 {P n ops Q od op ty pos after rest E W} {G : Prop} (h : G → WL P n ops Q (⟨od, op, ty, pos, after, none⟩ :: rest) E W) : G → WL P n ops Q (⟨od, op, ty, pos, after, none⟩ :: rest) E W := h
theorem Y28 {P n ops Q od t x ty pos after rest E W} {G : Prop} (h : G → WL P n ops Q (⟨od, .load t x, ty, pos, after, none⟩ :: rest) E W) : G → WL P n ops Q (⟨od, .load t x, ty, pos, after, none⟩ :: rest) E W := h
theorem Y29 {P n ops Q od x ty pos after rest E W} {G : Prop} (h : G → WL P n ops Q (⟨od, .nilCheck x, ty, pos, after, none⟩ :: rest) E W) : G → WL P n ops Q (⟨od, .nilCheck x, ty, pos, after, none⟩ :: rest) E W := h
theorem Y30 {P n ops Q od op ty pos after j rest E W} {G : Prop} (h : G → WL P n ops Q (⟨od, op, ty, pos, after, some j⟩ :: rest) E W) : G → WL P n ops Q (⟨od, op, ty, pos, after, some j⟩ :: rest) E W := h
theorem Y31 {P n c Q E W} {G : Prop} (h : G → WC P n c Q E W) : G → WC P n c Q E W := h
theorem Y32 {P n c x y Q E W} {G : Prop} (h : G → WC P n (.cond c x y) Q E W) : G → WC P n (.cond c x y) Q E W := h
theorem Y33 {n x Q E W} {G : Prop} (h : G → WN n x Q E W) : G → WN n x Q E W := h
theorem Y34 {n P ops ds plan Q E W} {S : World → Prop} {G : Prop} (h : G → WN n .normal (Exit.then (fun a w => S w ∧ ∀ l, planB ops ds l plan = true → wpAnyLast P .any ops Q S ds plan.length l a w) Q) E W) : G → WN n .normal (Exit.then (fun a w => S w ∧ ∀ l, planB ops ds l plan = true → wpAnyLast P .any ops Q S ds plan.length l a w) Q) E W := h
theorem Y35 {n P ops ds fuel l Q E W} {S : World → Prop} {G : Prop} (h : G → WN n .normal (Exit.then (fun a w => S w ∧ wpAnyLast P .any ops Q S ds fuel l a w) Q) E W) : G → WN n .normal (Exit.then (fun a w => S w ∧ wpAnyLast P .any ops Q S ds fuel l a w) Q) E W := h
theorem Y36 {P n ops Q S ds l E W} {G : Prop} (h : G → WD P n ops Q S ds l E W) : G → WD P n ops Q S ds l E W := h
theorem Y37 {P n ops Q S ds md i o l E W} {G : Prop} (h : G → WO P n ops Q S ds md i o l E W) : G → WO P n ops Q S ds md i o l E W := h
theorem Y38 {P n ops Q S ds md i od op ty pos after l E W} {G : Prop} (h : G → WO P n ops Q S ds md i ⟨od, op, ty, pos, after, none⟩ l E W) : G → WO P n ops Q S ds md i ⟨od, op, ty, pos, after, none⟩ l E W := h
theorem Y39 {P n ops Q S ds l E W} {G : Prop} (h : G → WT P n ops Q S ds l E W) : G → WT P n ops Q S ds l E W := h
theorem Y {G' G : Prop} (k : G') (h : G' → G := by first|(apply Y1;first|(apply Y2;exact gp (p_move rfl))|(apply Y3;exact gp (p_assign rfl))|(apply Y4;first|(apply Y5;exact gp (p_lss rfl rfl))|(apply Y6;first|exact gp (p_eql rfl rfl)|exact gp (p_seql rfl rfl)|exact gp (p_beql rfl rfl))|(apply Y7;first|exact gp (p_neq rfl rfl)|exact gp (p_sneq rfl rfl)|exact gp (p_bneq rfl rfl))|(apply Y8;exact gp (p_leq rfl rfl))|(apply Y9;exact gp (p_gtr rfl rfl))|(apply Y10;exact gp (p_geq rfl rfl))|(apply Y11;first|exact gp (p_add rfl rfl (by first|exact wr (by omega) (by omega)|rfl))|exact gp (p_concat2 rfl rfl (by first|omega|(simp only [nums1];omega))))|(apply Y12;exact gp (p_sub rfl rfl (by first|exact wr (by omega) (by omega)|rfl)))|(apply Y13;exact gp (p_mul rfl rfl (by first|exact wr (by omega) (by omega)|rfl)))|(apply Y14;first|exact gp (p_rem rfl rfl (by decide) rfl)|exact gp (p_rem rfl rfl (by omega) rfl))|(apply Y15;exact gp (p_quo rfl rfl (by omega) (by first|exact wr (by omega) (by omega)|rfl))))|(apply Y16;first|exact gp (p_field rfl (by simp only [Nat.reduceAdd];rfl))|exact gp (p_fieldo rfl (by simp only [Nat.reduceAdd];rfl)))|(apply Y17;first|exact gp (p_indexo HM rfl (by first|with_reducible rfl|(simp only [List.length_set,List.length_append,List.length_cons,List.length_nil];done)|(simp only [List.length_set,List.length_append,List.length_cons,List.length_nil];omega)|omega) rfl (by omega) (by first|(simp only [List.length_set,List.length_append,List.length_cons,List.length_nil];done)|(simp only [List.length_set,List.length_append,List.length_cons,List.length_nil];omega)|omega))|exact gp (p_indexr HM rfl (by first|with_reducible rfl|(simp only [List.length_set,List.length_append,List.length_cons,List.length_nil];done)|(simp only [List.length_set,List.length_append,List.length_cons,List.length_nil];omega)|omega) rfl (by omega) (by first|(simp only [List.length_set,List.length_append,List.length_cons,List.length_nil];done)|(simp only [List.length_set,List.length_append,List.length_cons,List.length_nil];omega)|omega))|exact gp (p_indexh HM rfl (by first|with_reducible rfl|(simp only [List.length_set,List.length_append,List.length_cons,List.length_nil];done)|(simp only [List.length_set,List.length_append,List.length_cons,List.length_nil];omega)|omega) rfl (by omega) (by first|(simp only [List.length_set,List.length_append,List.length_cons,List.length_nil];done)|(simp only [List.length_set,List.length_append,List.length_cons,List.length_nil];omega)|omega)))|(apply Y18;first|exact gp (p_len rfl)|exact gp (p_slen rfl))|(apply Y19;exact gp (p_not rfl))|(apply Y20;first|exact gp (p_pick1 rfl (by first|rfl|assumption|(show _=true;assumption)|(show _=false;assumption)|(simp;done)|(simp;omega)|(simp;assumption)) rfl)|exact gp (p_pick0 rfl (by first|rfl|assumption|(show _=true;assumption)|(show _=false;assumption)|(simp;done)|(simp;omega)|(simp;assumption)) rfl))|(apply Y21;first|exact gp (p_sliceto rfl rfl (by omega) (by omega))|exact gp (p_slicefrom rfl rfl (by omega) (by omega)))|(apply Y22;exact gp (p_extract rfl rfl))|(apply Y23;exact gp (p_build rfl))|(apply Y24;exact gp (p_nil rfl)))|(apply Y25;first|exact gv (p_load rfl)|exact gv (p_loado2 rfl rfl rfl (by omega) (by first|(simp only [List.length_set,List.length_append,List.length_cons,List.length_nil];done)|(simp only [List.length_set,List.length_append,List.length_cons,List.length_nil];omega)|omega) rfl)|exact gv (p_loado rfl rfl (by omega) (by first|(simp only [List.length_set,List.length_append,List.length_cons,List.length_nil];done)|(simp only [List.length_set,List.length_append,List.length_cons,List.length_nil];omega)|omega) rfl)|exact gv (p_loads rfl)|exact gv (p_loadwo rfl rfl rfl (by omega) (by first|(simp only [List.length_set,List.length_append,List.length_cons,List.length_nil];done)|(simp only [List.length_set,List.length_append,List.length_cons,List.length_nil];omega)|omega))|exact gv (p_loadr rfl rfl (by omega) (by first|(simp only [List.length_set,List.length_append,List.length_cons,List.length_nil];done)|(simp only [List.length_set,List.length_append,List.length_cons,List.length_nil];omega)|omega) rfl)|exact gv (p_loadrc rfl rfl)|exact gv (p_loadwr rfl rfl rfl)|exact gv (p_loadh rfl rfl rfl)|exact gv (p_loadsh rfl rfl rfl)|exact gv (p_loadrb rfl)|exact gv (p_loadsrb rfl)|exact gv (p_loadsrc rfl rfl)|exact gv (p_loadwf rfl rfl rfl (by omega) (by first|(simp only [List.length_set,List.length_append,List.length_cons,List.length_nil];done)|(simp only [List.length_set,List.length_append,List.length_cons,List.length_nil];omega)|omega)))|(apply Y26;first|exact l_nil|(apply Y27;first|(apply Y28;exact s_gv HM rfl)|(apply Y29;exact s_pv (p_nil rfl) rfl)|exact s_gp rfl rfl)|(apply Y30;first|exact s_guard_on rfl rfl rfl rfl (by first|rfl|assumption|(show _=true;assumption)|(show _=false;assumption)|(simp;done)|(simp;omega)|(simp;assumption))|exact s_guard_off rfl rfl rfl rfl (by first|rfl|assumption|(show _=true;assumption)|(show _=false;assumption)|(simp;done)|(simp;omega)|(simp;assumption)) rfl rfl|exact s_guard_un rfl rfl rfl rfl rfl rfl))|(apply Y31;first|exact c_seq|exact c_region|exact c_block|exact c_skip|exact c_exit|exact c_ret|(apply Y32;first|exact c_yes rfl (by first|rfl|assumption|(show _=true;assumption)|(show _=false;assumption)|(simp;done)|(simp;omega)|(simp;assumption))|exact c_no rfl (by first|rfl|assumption|(show _=true;assumption)|(show _=false;assumption)|(simp;done)|(simp;omega)|(simp;assumption))))|(apply Y33;first|exact n_then|exact n_block|exact x_then|exact x_here|exact x_on rfl|exact r_then|exact r_block|(apply Y34;exact d_back (by first|exact HM|exact HM.drop|exact HM.drop.drop|(show Mem _ _ _;exact HM.sb)))|exact d_backT|(apply Y35;exact x_back (by first|exact HM|exact HM.drop|exact HM.drop.drop|(show Mem _ _ _;exact HM.sb)|trivial)))|(apply Y36;first|exact d_next rfl|exact d_done)|(apply Y37;first|(apply Y38;first|exact d_gp HQ HS rfl|exact d_gv HQ HS rfl|exact d_one|exact d_last)|exact d_one|exact d_last|exact d_gpg HQ HS rfl rfl rfl (by first|rfl|assumption|(show _=true;assumption)|(show _=false;assumption)|(simp;done)|(simp;omega)|(simp;assumption)) rfl|exact d_gvg HQ HS rfl rfl rfl (by first|rfl|assumption|(show _=true;assumption)|(show _=false;assumption)|(simp;done)|(simp;omega)|(simp;assumption)) rfl|exact d_off (.inl rfl) HQ HS rfl rfl rfl rfl (by first|rfl|assumption|(show _=true;assumption)|(show _=false;assumption)|(simp;done)|(simp;omega)|(simp;assumption)) rfl rfl|exact d_off (.inr rfl) HQ HS rfl rfl rfl rfl (by first|rfl|assumption|(show _=true;assumption)|(show _=false;assumption)|(simp;done)|(simp;omega)|(simp;assumption)) rfl rfl|exact d_off_un (.inl rfl) HQ HS rfl rfl rfl rfl rfl rfl|exact d_off_un (.inr rfl) HQ HS rfl rfl rfl rfl rfl rfl)|(apply Y39;first|exact d_gpT HQ HS rfl rfl|exact d_nextT rfl|exact d_doneT)) : G := h k
theorem qs {P n ops Q od xt x y ty pos after gd rest E W} {G : Prop} (k : G) (h : G → WL P n ops Q (⟨od, .store xt x y, ty, pos, after, gd⟩ :: rest) E W := by first|exact s_store HM rfl rfl rfl rfl) : WL P n ops Q (⟨od, .store xt x y, ty, pos, after, gd⟩ :: rest) E W := h k
theorem qg {P n ops Q rest E W} {G : Prop} (k : G) (h : G → WL P n ops Q rest E W := by first|exact s_box HM rfl rfl|exact s_alloc HM rfl|exact s_lit1 HM rfl rfl rfl) : WL P n ops Q rest E W := h k
theorem qa {P n ops Q od cl ty pos after gd rest E W} {G : Prop} (k : G) (h : G → WL P n ops Q (⟨od, .call cl, ty, pos, after, gd⟩ :: rest) E W := by first|exact s_append1 HM rfl rfl (by first|with_reducible rfl|(simp only [List.length_set,List.length_append,List.length_cons,List.length_nil];done)|(simp only [List.length_set,List.length_append,List.length_cons,List.length_nil];omega)|omega) rfl rfl (by first|(simp only [List.length_set,List.length_append,List.length_cons,List.length_nil];done)|(simp only [List.length_set,List.length_append,List.length_cons,List.length_nil];omega)|omega) rfl|exact s_app0a HM rfl rfl rfl rfl rfl (by first|(simp only [List.length_set,List.length_append,List.length_cons,List.length_nil];done)|(simp only [List.length_set,List.length_append,List.length_cons,List.length_nil];omega)|omega) rfl|exact s_appr0 HM rfl rfl rfl rfl rfl (by first|with_reducible rfl|(simp only [List.length_set,List.length_append,List.length_cons,List.length_nil];done)|(simp only [List.length_set,List.length_append,List.length_cons,List.length_nil];omega)|omega) (by first|(simp only [List.length_set,List.length_append,List.length_cons,List.length_nil];done)|(simp only [List.length_set,List.length_append,List.length_cons,List.length_nil];omega)|omega) rfl|exact s_appr HM rfl rfl (by first|with_reducible rfl|(simp only [List.length_set,List.length_append,List.length_cons,List.length_nil];done)|(simp only [List.length_set,List.length_append,List.length_cons,List.length_nil];omega)|omega) rfl rfl (by first|with_reducible rfl|(simp only [List.length_set,List.length_append,List.length_cons,List.length_nil];done)|(simp only [List.length_set,List.length_append,List.length_cons,List.length_nil];omega)|omega) (by first|(simp only [List.length_set,List.length_append,List.length_cons,List.length_nil];done)|(simp only [List.length_set,List.length_append,List.length_cons,List.length_nil];omega)|omega) rfl) : WL P n ops Q (⟨od, .call cl, ty, pos, after, gd⟩ :: rest) E W := h k
theorem qz {P n ops Q rest E W} {G : Prop} (k : G) (h : G → WL P n ops Q rest E W := by first|exact s_lit0a HM rfl rfl|exact s_makea HM rfl rfl rfl (by omega) rfl) : WL P n ops Q rest E W := h k
theorem qf {P n ops Q od cl ty pos after gd rest E W} {G : Prop} (k : G) (h : G → WL P n ops Q (⟨od, .call cl, ty, pos, after, gd⟩ :: rest) E W := by exact s_fn rfl rfl) : WL P n ops Q (⟨od, .call cl, ty, pos, after, gd⟩ :: rest) E W := h k
theorem U {p : Prop} (h : p := by repeat (first|exact trivial|refine And.intro (by first|rfl|exact look_int rfl (by omega)) ?_)) : p := h
theorem qq {Q} (h : QP Q := by repeat (first|exact qp_body|refine qp_then ?_|refine qp_block ?_)) : QP Q := h
end Go.Proofs.YtampmicahnnebaaGreat.Sp
namespace Go.Proofs.YtampmicahnnebaaGreat.Sp
open Go Go.RowKit
set_option maxRecDepth 10000
set_option maxHeartbeats 4000000
variable {w0 W : World} {L : List Asn} {A : Option Addr} {c : Nat}
structure SmallR (x : Rcd) : Prop where
  ss : x.ss.length ≤ 1048576
  ds : x.ds.length ≤ 1048576
  held : x.held.length ≤ 1048576
  helds : ∀ y ∈ x.held,y.slots.length ≤ 1048576
  wishes : x.wishes.length ≤ 1048576
  yes : x.yes.length ≤ 1048576
  best : x.best.length ≤ 1048576
  acks : x.acks.length ≤ 1048576
  ackss : ∀ y ∈ x.acks,y.frm.length ≤ 1048576
end Go.Proofs.YtampmicahnnebaaGreat.Sp
namespace Go.Proofs.YtampmicahnnebaaGreat.Sp
open Go Go.RowKit
set_option maxRecDepth 10000
set_option maxHeartbeats 1000000
variable {w0 W : World} {L : List Asn} {A : Option Addr} {c : Nat} {b : Bool}
theorem l1Slots_c {xs : List Slot} (h : RoRow (rSlot b) w0 A xs) (hn : xs.length ≤ 1048576) (HM : Mem w0 W L) : Calls Tryz.prog 79 #[.slice A xs.length c] W fun e W'=>∃ A' c',e = .returned (.slice A' xs.length c') ∧ Mem w0 W' (own tSlot 91 A' c' xs :: L):=by
  refine enter Tryz.func79 rfl Tryz.ntmps79 [(0,_)] rfl ⟨rfl,trivial⟩ ?_
  replace HM:=HM.rod h
  repeat (first|refine Y ?_|(refine qa ?_;clear HM;intro A1 c1 W1 HM)|(refine qz ?_;clear HM;intro A1 W1 HM))
  exact ret_tmp rfl rfl ⟨A1,c1,rfl,HM.sb⟩
theorem l1Disk_c (p q : Int) {xs : List Slot} (h : RoRow (rSlot b) w0 A xs) (hn : xs.length ≤ 1048576) (HM : Mem w0 W L) : Calls Tryz.prog 25 #[.agg #[.int .i64 p,.int .i64 q,.slice A xs.length c]] W fun e W'=>∃ A' c',e = .returned (.agg #[.int .i64 p,.int .i64 q,.slice A' xs.length c']) ∧ Mem w0 W' (own tSlot 91 A' c' xs :: L):=by
  refine enter Tryz.func25 rfl Tryz.ntmps25 [(0,.agg #[.int .i64 p,.int .i64 q,.slice A xs.length c])] rfl ⟨rfl,trivial⟩ ?_
  repeat (first|refine Y ?_|(refine qs ?_;clear HM;intro W1 HM)|(refine qf ?_;go_at_call 79;refine (l1Slots_c h hn HM).mono ?_;rintro e W1 ⟨A1,c1,rfl,HM1⟩;refine ⟨_,rfl,?_⟩;replace HM:=HM1;clear HM1)|(refine qg ?_;clear HM;intro g W1 HM))
  exact ret_cell HM rfl rfl rfl ⟨A1,c1,rfl,HM.sb⟩
theorem l2Message_c (x : Msg) (i : At) (h : RoRow (rSlot b) w0 i.1 x.slots) (hn : x.slots.length ≤ 1048576) (HM : Mem w0 W L) : Calls Tryz.prog 53 #[.agg (encMsg x i).toArray] W fun e W'=>∃ A' c',e = .returned (.agg #[.int .i64 x.kind,.int .i64 x.frm,.int .i64 x.to,.int .i64 x.ballot,.int .i64 x.index,.int .i64 x.known,.string x.text,.slice A' x.slots.length c']) ∧ Mem w0 W' (own tSlot 91 A' c' x.slots :: L):=by
  refine enter Tryz.func53 rfl Tryz.ntmps53 [(0,.agg (encMsg x i).toArray)] rfl ⟨rfl,trivial⟩ ?_
  unfold encMsg
  repeat (first|refine Y ?_|(refine qs ?_;clear HM;intro W1 HM)|(refine qf ?_;go_at_call 79;refine (l1Slots_c h hn HM).mono ?_;rintro e W1 ⟨A1,c1,rfl,HM1⟩;refine ⟨_,rfl,?_⟩;replace HM:=HM1;clear HM1)|(refine qg ?_;clear HM;intro g W1 HM))
  exact ret_cell HM rfl rfl rfl ⟨A1,c1,rfl,HM.sb⟩
theorem l2Messages_c {xs : List Msg} (h : RoRow (rMsg b) w0 A xs) (hn : xs.length ≤ 1048576) (hm : ∀ x ∈ xs,x.slots.length ≤ 1048576) (HM : Mem w0 W L) : Calls Tryz.prog 29 #[.slice A xs.length c] W fun e W'=>∃ A' c',e = .returned (.slice A' xs.length c') ∧ Mem w0 W' (own (tMsg 91) 40 A' c' xs :: L):=by
  refine enter Tryz.func29 rfl Tryz.ntmps29 [(0,_)] rfl ⟨rfl,trivial⟩ ?_
  replace HM:=HM.rod h
  repeat (first|refine Y ?_|(refine qz ?_;clear HM;intro A1 W1 HM))
  refine c_loop2 (σ:=Nat) (fun k A1 c1=>[(0,.slice A xs.length c),(3,.slice A1 k c1),(4,.int .i64 k)]) (fun k A1 c1 W=>k ≤ xs.length ∧ ∃ ys : List Msg,ys.length = k ∧ ys = xs.take k ∧ Mem w0 W (own (tMsg 91) 40 A1 c1 ys :: ro (rMsg b) w0 A xs :: L)) (fun k=>xs.length - k) 0 A1 0 U ⟨Nat.zero_le _,[],rfl,rfl,HM.sb⟩ ?_
  clear HM
  rintro k A1 c1 W ⟨hk,ys,hl,hy,HM⟩
  by_cases hlt : k < xs.length
  · have e0:=rdR_at (D:=rMsg b) hlt
    have hs1:=hm _ (List.getElem_mem hlt)
    obtain ⟨cc,⟨j,rfl,hb,hs⟩,HM⟩:=HM.roOpen (A:=A) k hlt
    unfold encMsg at HM
    repeat (first|refine Y ?_|(refine qf ?_;go_at_call 53;refine (l2Message_c _ j hs hs1 HM).mono ?_;rintro e W1 ⟨A1,c1,rfl,HM1⟩;refine ⟨_,rfl,?_⟩;replace HM:=HM1;clear HM1)|(refine qa ?_;clear HM;intro A1 c1 W1 HM)|(refine qg ?_;clear HM;intro g W1 HM))
    have e1 : (ys ++ [xs[k]]).length = k + 1:=by simp [hl]
    have e2 : (⟨xs[k].kind,xs[k].frm,xs[k].to,xs[k].ballot,xs[k].index,xs[k].known,xs[k].text,xs[k].slots⟩ : Msg) = xs[k]:=rfl
    rw [e2] at HM ⊢
    rw [e1]
    exact n_round2 (k + 1) A1 c1 U ⟨by omega,_,e1,by rw [hy,List.take_succ_eq_append_getElem (by omega)],HM.sb⟩ (by omega)
  · repeat refine Y ?_
    obtain rfl : k = xs.length:=by omega
    rw [List.take_length] at hy
    subst hy
    exact ret_tmp rfl rfl ⟨A1,c1,rfl,HM.sb⟩
theorem l2Copy_c (x : Rcd) (i : AtRcd) (h : RoRcd b w0 x i) (hn : SmallR x) (HM : Mem w0 W L) : Calls Tryz.prog 24 #[.agg (encRcd x i).toArray] W fun e W'=>∃ j,e = .returned (.agg (encRcd x j).toArray) ∧ Mem w0 W' (partRcd 91 40 9 3 66 x j ++ L):=by
  refine enter Tryz.func24 rfl Tryz.ntmps24 [(0,.agg (encRcd x i).toArray)] rfl ⟨rfl,trivial⟩ ?_
  have h0:=h
  have s1:=hn.ss
  have s2:=hn.ds
  have s3:=hn.held
  have s4:=hn.wishes
  have s5:=hn.yes
  have s6:=hn.best
  have s7:=hn.acks
  unfold encRcd
  replace HM:=(((HM.rod h.wishes).rod h.yes).rod h.acks)
  repeat (first|refine Y ?_|(refine qs ?_;clear HM;intro W1 HM)|(refine qf ?_;first|(go_at_call 25;refine (l1Disk_c _ _ (by first|with_reducible exact h0.ss|with_reducible exact h0.ds) (by first|with_reducible exact s1|with_reducible exact s2) HM).mono ?_;rintro e W1 ⟨Ad,cd,rfl,HM1⟩;refine ⟨_,rfl,?_⟩;replace HM:=HM1;clear HM1)|(go_at_call 29;refine (l2Messages_c h0.held s3 hn.helds HM).mono ?_;rintro e W1 ⟨Ah,ch,rfl,HM1⟩;refine ⟨_,rfl,?_⟩;replace HM:=HM1;clear HM1)|(go_at_call 79;refine (l1Slots_c h0.best s6 HM).mono ?_;rintro e W1 ⟨Ab,cb,rfl,HM1⟩;refine ⟨_,rfl,?_⟩;replace HM:=HM1;clear HM1))|(refine qa ?_;clear HM;intro A1 c1 W1 HM)|(refine qg ?_;clear HM;intro g W1 HM)|(refine qz ?_;clear HM;intro A1 W1 HM))
  refine c_loop2 (σ:=Nat) (fun k A1 c1=>[(1,.pointer (some ⟨_,0,none⟩)),(2,.pointer (some ⟨g,0,none⟩)),(3,.slice A1 k c1),(4,.int .i64 k)]) (fun k A1 c1 W=>k ≤ x.acks.length ∧ ∃ ys : List Ack,ys.length = k ∧ ys = x.acks.take k ∧ Mem w0 W (own (tAck 3) 66 A1 c1 ys :: _)) (fun k=>x.acks.length - k) 0 A1 0 U ⟨Nat.zero_le _,[],rfl,rfl,HM⟩ ?_
  clear HM
  rintro k A1 c1 W ⟨hk,ys,hl,hy,HM⟩
  by_cases hlt : k < x.acks.length
  · have e0:=rdR_at (D:=rAck) hlt
    have hs1:=hn.ackss _ (List.getElem_mem hlt)
    obtain ⟨cc,⟨j,rfl,hs⟩,HM⟩:=HM.roOpen (A:=i.a6.1) k hlt
    unfold encAck at HM
    replace HM:=HM.rod hs
    repeat (first|(refine gR ?_;refine d_start [17] [(0,0),(0,1),(0,3),(0,8),(0,10),(1,2),(0,4),(0,5),(1,6),(1,9),(0,11),(0,12),(1,13),(2,7),(2,14),(2,15),(2,16),(3,17),(0,18)] HM (by kernel_rfl) (by kernel_rfl) qq (by kernel_rfl) rfl ?_;intro HQ HS W1 HM1;replace HM:=HM1;clear HM1)|refine Y ?_|(refine qa ?_;clear HM;intro A1 c1 W1 HM)|(refine qg ?_;clear HM;intro g W1 HM)|(refine qz ?_;clear HM;intro A1 W1 HM))
    have e1 : (ys ++ [x.acks[k]]).length = k + 1:=by simp [hl]
    have e2 : (⟨x.acks[k].index,x.acks[k].frm⟩ : Ack) = x.acks[k]:=rfl
    (try simp only [e0] at HM ⊢)
    rw [e2] at HM ⊢
    rw [e1]
    exact n_round2 (k + 1) A1 c1 U ⟨by omega,_,e1,by rw [hy,List.take_succ_eq_append_getElem (by omega)],HM.sb⟩ (by omega)
  · repeat (first|refine Y ?_|(refine qs ?_;clear HM;intro W1 HM))
    obtain rfl : k = x.acks.length:=by omega
    rw [List.take_length] at hy
    subst hy
    exact ret_cell HM rfl rfl rfl ⟨⟨(_,_),(_,_),(_,_),(_,_),(_,_),(_,_),(_,_)⟩,rfl,by simp only [partRcd,List.cons_append,List.nil_append];exact HM.sb⟩
theorem l2Copy_l (x : Rcd) (i : AtRcd) (h : RoRcd b w0 x i) (hn : SmallR x) (HM : Mem w0 W L) : Calls Tryz.prog 24 #[.agg ([.int .i64 x.number,.int .i64 x.of,.bool x.up,.int .i64 x.sp,.int .i64 x.sk,.slice i.a0.1 x.ss.length i.a0.2,.int .i64 x.dp,.int .i64 x.dk,.slice i.a1.1 x.ds.length i.a1.2,.slice i.a2.1 x.held.length i.a2.2,.slice i.a3.1 x.wishes.length i.a3.2,.bool x.lead,.bool x.trying,.int .i64 x.ballot,.slice i.a4.1 x.yes.length i.a4.2,.slice i.a5.1 x.best.length i.a5.2,.slice i.a6.1 x.acks.length i.a6.2,.int .i64 x.heard]).toArray] W fun e W'=>∃ j,e = .returned (.agg (encRcd x j).toArray) ∧ Mem w0 W' (partRcd 91 40 9 3 66 x j ++ L):=l2Copy_c x i h hn HM
end Go.Proofs.YtampmicahnnebaaGreat.Sp
