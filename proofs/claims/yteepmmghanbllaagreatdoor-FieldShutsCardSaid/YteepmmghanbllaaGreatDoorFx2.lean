/- What the proof of the root text leans on, part 2: the layer, plain facts and walks. No statement of the seat is proved in this text. -/
import Derived.Lib.AppendZeros
import Derived.Lib.SliceRun
import Derived.Test.YteepmmghanbllaaGreatDoorProg
import Derived.Test.YteepmmghanbllaaGreatDoorFx1
set_option maxRecDepth 100000
set_option maxHeartbeats 32000000
namespace Go.K
open Go Go.RowKit
structure zmO (c:Cx) (ds:List Deferred) (T:List (Nat×Value)) (H:List Res) (st:Oper) (R:Res) {Z:Type} (V:Z→Value) (R':Z→Res) (Bad:List PanicEntry→Prop):Prop where
 run:∀ a w B,Sat c.n T ds a→Hp c.U c.w0 H w→(∀ k,B k→k<w.heap.size)→R.A B w→YldT c.P st a w (λ v w'=>∃ z,v=V z∧Mod B w w'∧∃ B',Own B B' w w'∧(R' z).A B' w') (λ ch w'=>Bad ch∧Mod B w w')
def zjN (n:Nat) (pre:List Oper) (st:Oper) (suf:List Oper) (late:List Nat) (dd:Nat):Bool:=
 zb8 0 (pre++st :: suf)&&zkb (pre++st :: suf)&&zeE (dsts pre)&&pre.all (λ o=>zhp o.dst n)&&decide (st.dst=some dd)&&st.guard.isNone &&
 (suf.isEmpty||((List.range (pre.length+1)).all λ j=>reach (pre++st :: suf) 64 (pre.length+1) j))&&zhL (pre++st :: suf) (pre.length+1) &&
 ((List.range pre.length).all λ j=>inL late j||reach (pre++st :: suf) 64 pre.length j)&&Nat.blt dd n&&pre.all (λ o=>match o.dst with|some e=>!Nat.beq dd e|none=>true)
section
variable {c:Cx} {ds:List Deferred} {p:Post} {ops pre suf:List Oper} {st:Oper} {T0:List (Nat×Value)} {H:List Res} {S:Ents} {listed:Array Bool} {a:Act} {w:World}
theorem zpZ (hI:Inv c ds ops pre T0 H S listed a w) {m q dd:Nat} {R:Res} (hst:ops[m]?=some st) (hml:m<listed.size) (hclo:∀ j,zaT st j=true→isOn listed j)
  (hpm:pre[m]?=none) (hSm:∀ j dj ej,(j,dj,ej)∈S→j≠m) (hun:¬ isOn listed m) (hq:H[q]?=some R) (hdT:lk T0 dd=none) (hdS:∀ j dj ej,(j,dj,ej)∈S→dj≠dd) (hdn:dd<c.n) :
  ∃ B,(∀ k,B k→k<w.heap.size)∧R.A B w∧(∀ k,B k→¬ c.U k)∧∀ (R':Res) (v:Value) w' B',Mod B w w'→Own B B' w w'→R'.A B' w'→Inv c ds ops pre T0 (H.set q R') S (listed.setIfInBounds m true) (a.put (some dd) v) w'∧(a.put (some dd) v).tmps[dd]?=some v:=by
 obtain⟨v0,R0,B0,h1,h2,h3,h4⟩:=hI.fam
 obtain⟨B,hB,hA,hr⟩:=Holds.front H q hq h4
 have hon:∀ j,isOn (listed.setIfInBounds m true) j↔j=m∨isOn listed j:=zbt hml
 refine⟨B,λ k hk=>(hB k hk).2,hA,λ k hk hu=>(hB k hk).1 (.inl hu),λ R' v w' B' hm ho hA'=>⟨?_,by simp [Act.put,hI.size,hdn]⟩⟩
 have hUw:∀ k,(c.U k∨∃ i,isOn listed i∧(R0 i).isSome=true∧B0 i k)→k<w.heap.size:=by
  rintro k (hu | ⟨i,hi,hs,hb⟩)
  ·exact lL (hI.base.lt k hu) hI.base.size
  ·obtain⟨r,hr⟩:=Option.isSome_iff_exists.1 hs
   exact((h2 i r hi hr).2 k hb).2
 have hput:∀ t u,t≠dd→a.tmps[t]?=some u→(a.put (some dd) v).tmps[t]?=some u:=λ t u ht hu=>by
  simp only [Act.put]
  rw [Array.getElem?_setIfInBounds_ne (Ne.symm ht)];exact hu
 refine⟨hI.base.mod hm (λ k hk hu=>(hB k hk).1 (.inl hu)),by simp [Act.put,hI.size],hI.defers,?_,?_,v0,λ j=>if j=m then none else R0 j,B0,?_,?_,?_,?_⟩
 ·intro k ok hk honk j hj
  rcases(hon k).1 honk with rfl|hk'
  ·rw [hst] at hk;cases hk
   exact(hon j).2 (.inr (hclo j hj))
  ·exact(hon j).2 (.inr (hI.closed k ok hk hk' j hj))
 ·intro s u hs hno
  refine hput s u (λ h=>by rw [h,hdT] at hs;cases hs) (hI.old s u hs λ k o hk hok=>?_)
  exact hno k o hk ((hon k).2 (.inr hok))
 ·intro i d e hi hoi
  have him:=hSm i d e hi
  simp only [if_neg him]
  obtain⟨g1,g2⟩:=h1 i d e hi (((hon i).1 hoi).resolve_left him)
  exact⟨g1,hput d _ (hdS i d e hi) g2⟩
 ·intro i r hoi hri
  replace hri:(if i=m then none else R0 i)=some r:=hri
  by_cases him:i=m
  ·rw [if_pos him] at hri;cases hri
  ·rw [if_neg him] at hri
   have hoi':=((hon i).1 hoi).resolve_left him
   obtain⟨g1,g2⟩:=h2 i r hoi' hri
   refine⟨r.loc _ w w' (λ k hk=>hm.same k (g2 k hk).2 (λ hb=>(hB k hb).1 (.inr ⟨i,hoi',by rw [hri];rfl,hk⟩))) g1,λ k hk=>⟨(g2 k hk).1,lL (g2 k hk).2 hm.size⟩⟩
 ·intro i j hoi hoj hri hrj hij
  replace hri:(if i=m then none else R0 i).isSome=true:=hri
  replace hrj:(if j=m then none else R0 j).isSome=true:=hrj
  by_cases him:i=m
  ·rw [if_pos him] at hri;cases hri
  ·by_cases hjm:j=m
   ·rw [if_pos hjm] at hrj;cases hrj
   ·rw [if_neg him] at hri;rw [if_neg hjm] at hrj
    exact h3 i j (((hon i).1 hoi).resolve_left him) (((hon j).1 hoj).resolve_left hjm) hri hrj hij
 ·refine Holds.anti _ ?_ (zk8 hq hUw hB hr hm ho hA')
  rintro k (hu | ⟨i,hoi,hri,hb⟩)
  ·exact .inl hu
  ·replace hri:(if i=m then none else R0 i).isSome=true:=hri
   by_cases him:i=m
   ·rw [if_pos him] at hri;cases hri
   ·rw [if_neg him] at hri
    exact .inr ⟨i,((hon i).1 hoi).resolve_left him,hri,hb⟩
theorem zuu {late:List Nat} {q dd:Nat} {R:Res} {Z:Type} {V:Z→Value} {R':Z→Res} {Bad:List PanicEntry→Prop} (hc:zjN c.n pre st suf late dd=true) (hdT:lk T0 dd=none) (hbad:∀ ch,Bad ch→GK c ds (λ a w=>p.pn a ch w) [] []) {S:Ents} (hS1:S.map (·.1)=(List.range' 0 pre.length).reverse) (hqR:H[q]?=some R)
  (hall:∀ (j:Nat) o,pre[j]?=some o→∃ d e S',o.dst=some d∧Ob c ds pre T0 (bif inL late (0+j) then H.set q Emp else H) (0+j) o S' e∧∃ q,S=q++(0+j,d,e) :: S')
  (hstore:finE (deps st S) (zcl pre pre.length T0) H (λ T H'=>zmO c ds T H' st R V R' Bad))
  (hK:∀ z,finE (allE S) (zd3 pre T0) (H.set q (R' z)) (λ T H'=>GK c ds (KL c (pre++st :: suf).toArray p suf) ((dd,V z) :: T) H')) :
  ∀ (fuel:Nat) (listed:Array Bool) (a:Act) (w:World),((List.range (pre++st :: suf).length).filter (λ i=>!listed.getD i false)).length≤fuel→listed.size=(pre++st :: suf).length →
   (∀ k,pre.length<k→¬ isOn listed k)→((¬ isOn listed pre.length∧Inv c ds (pre++st :: suf) pre T0 H S listed a w)∨(isOn listed pre.length∧∃ z,a.tmps[dd]?=some (V z)∧Inv c ds (pre++st :: suf) pre T0 (H.set q (R' z)) S listed a w)) →
   wpAnyIn (FW c.r) 0 c.P .any (pre++st :: suf).toArray p.Q fuel listed a w:=by
 simp only [zjN,aT] at hc
 obtain⟨⟨⟨⟨⟨⟨⟨⟨⟨⟨hback,hdef⟩,hdst⟩,hok⟩,hstd⟩,hstg⟩,hfirst⟩,hchain⟩,hlate⟩,hddn⟩,hddp⟩:=hc
 have hnodup:(S.map (·.1)).Nodup:=by
  rw [hS1]
  unfold List.Nodup
  rw [List.pairwise_reverse]
  exact(List.nodup_range' (s:=0) (n:=pre.length) (step:=1)).imp Ne.symm
 have huniq:=zkS S hnodup
 have hpre:∀ (k:Nat) o,pre[k]?=some o→(pre++st :: suf)[k]?=some o:=λ k o h=>by
  have:=(List.getElem?_eq_some_iff.1 h).1
  rw [List.getElem?_append_left this];exact h
 have hstm:(pre++st :: suf)[pre.length]?=some st:=by rw [List.getElem?_append_right (Nat.le_refl _)];simp
 have hjlt:∀ j dj ej,(j,dj,ej)∈S→j<pre.length:=by
  intro j dj ej hj
  have hjm:j∈S.map (·.1):=List.mem_map.2 ⟨_,hj,rfl⟩
  rw [hS1,List.mem_reverse,List.mem_range'_1] at hjm
  omega
 have hSop:∀ j dj ej,(j,dj,ej)∈S→∃ oj,pre[j]?=some oj∧oj.dst=some dj:=by
  intro j dj ej hj
  have hlt:=hjlt j dj ej hj
  obtain⟨d,e,S',hd,_,q,hq⟩:=hall j pre[j] (by simp [hlt])
  rw [Nat.zero_add] at hq
  have hmem:(j,d,e)∈S:=by rw [hq];simp
  have:=huniq _ hj _ hmem I
  simp only [Prod.mk.injEq,true_and] at this
  exact⟨pre[j],by simp [hlt],by rw [hd,this.1]⟩
 have hkeep:∀ {H':List Res} {listed:Array Bool} {a:Act} {w:World},Inv c ds (pre++st :: suf) pre T0 H' S listed a w→Sat c.n (zd3 pre T0) ds a:=by
  intro H' listed a w hI
  refine⟨hI.size,λ t v h=>?_,hI.defers⟩
  rw [zeI] at h
  obtain⟨h1,h2⟩:=zcD (λ s=>pre.all (λ f=>match f.dst with|some d=>!Nat.beq d s|none=>true)) T0 _ (λ _ _ _ _=>trivial) I t v h
  refine hI.old t v h1 λ k o hk _ hd=>?_
  rw [List.all_eq_true] at h2
  have h3:=h2 o (List.mem_of_getElem? hk)
  rw [hd] at h3
  simp at h3
 have hend:∀ (fuel:Nat) (listed:Array Bool) (a:Act) (w:World),((List.range (pre++st :: suf).length).filter (λ i=>!listed.getD i false)).length≤fuel→listed.size=(pre++st :: suf).length→(∀ k,pre.length<k→¬ isOn listed k) →
   (∀ i,i<pre.length+1→isOn listed i)→(∃ z,a.tmps[dd]?=some (V z)∧Inv c ds (pre++st :: suf) pre T0 (H.set q (R' z)) S listed a w)→wpAnyIn (FW c.r) 0 c.P .any (pre++st :: suf).toArray p.Q fuel listed a w:=by
  intro fuel listed a w hf hsz hsuf hallon ⟨z,hz,hI⟩
  obtain⟨T',H',hg,hsat,hhp⟩:=zdH (S:=S) (S1:=S) (f:=λ _=>true) (L:=allE) (K:=λ T H'=>GK c ds (KL c (pre++st :: suf).toArray p suf) ((dd,V z) :: T) H') (T1:=zd3 pre T0) hI (λ _ h=>h)
   (λ x hx _=>hallon x.1 (by have:=hjlt x.1 x.2.1 x.2.2 hx;omega)) (hkeep hI) I (λ _ _ _ _=>rfl) hnodup (hK z)
  have hl:=hg a w ⟨hsat.size,λ t u ht=>by
   by_cases hdt:dd=t
   ·subst hdt;rw [zcR] at ht;cases ht;exact hz
   ·rw [zdb hdt] at ht;exact hsat.val t u ht,hsat.defers⟩ hhp
  have hcnt:suf.length≤fuel:=by
   refine Nat.le_trans ?_ hf
   have hlen:(pre++st :: suf).length=(pre.length+1)+suf.length:=by simp;omega
   rw [hlen,List.range_eq_range',←List.range'_append_1,List.filter_append,lA]
   refine Nat.le_trans ?_ (Nat.le_add_left _ _)
   rw [List.filter_eq_self.2 (λ x hx=>?_)]
   ·simp
   ·rw [List.mem_range'_1] at hx
    have:=hsuf x (by omega)
    unfold isOn at this
    simp only [Bool.not_eq_true] at this
    rw [this];rfl
  refine zhl (m:=pre.length+1) hback hchain suf.length 0 fuel listed a w (by simp;omega) hcnt hsz (λ k hk=>⟨λ hon=>?_,λ h=>hallon k (by omega)⟩) ?_
  ·rcases Nat.lt_or_ge k (pre.length+1) with h|h
   ·omega
   ·exact absurd hon (hsuf k (by omega))
  rw [Nat.add_zero,show(pre++st :: suf).drop (pre.length+1)=suf from by rw [←List.drop_drop,List.drop_left];rfl]
  exact hl
 have hmode:∀ {listed:Array Bool} {a:Act} {w:World},((¬ isOn listed pre.length∧Inv c ds (pre++st :: suf) pre T0 H S listed a w)∨(isOn listed pre.length∧∃ z,a.tmps[dd]?=some (V z)∧Inv c ds (pre++st :: suf) pre T0 (H.set q (R' z)) S listed a w)) →
   isOn listed pre.length→∃ z,a.tmps[dd]?=some (V z)∧Inv c ds (pre++st :: suf) pre T0 (H.set q (R' z)) S listed a w:=λ h hon=>by
  rcases h with ⟨h,_⟩ | ⟨_,h⟩
  ·exact absurd hon h
  ·exact h
 intro fuel
 induction fuel with
 | zero=>
  intro listed a w hf hsz hsuf hI
  by_cases hallon:∀ i,i<pre.length+1→isOn listed i
  ·exact hend 0 listed a w hf hsz hsuf hallon (hmode hI (hallon _ (by omega)))
  ·exfalso
   obtain⟨i,hi⟩:=Classical.not_forall.1 hallon
   obtain⟨hi1,hi2⟩:=Classical.not_imp.1 hi
   have hmem:i∈(List.range (pre++st :: suf).length).filter (λ i=>!listed.getD i false):=by
    rw [List.mem_filter,List.mem_range]
    refine⟨by simp;omega,?_⟩
    unfold isOn at hi2
    simp only [Bool.not_eq_true] at hi2
    rw [hi2];rfl
   have:=List.length_pos_of_mem hmem
   omega
 | succ fuel ih=>
  intro listed a w hf hsz hsuf hI
  by_cases hallon:∀ i,i<pre.length+1→isOn listed i
  ·exact hend _ listed a w hf hsz hsuf hallon (hmode hI (hallon _ (by omega)))
  ·have hex:∃ i,i<pre.length+1∧¬ isOn listed i:=by
    obtain⟨i,hi⟩:=Classical.not_forall.1 hallon
    exact⟨i,Classical.not_imp.1 hi⟩
   have hclosed:∀ (k:Nat) (o:Oper),(pre++st :: suf)[k]?=some o→isOn listed k→∀ j,zaT o j=true→isOn listed j:=by
    rcases hI with ⟨_,h⟩ | ⟨_,z,_,h⟩ <;> exact h.closed
   refine⟨λ h0=>?_,λ i hi=>?_⟩
   ·exfalso
    have least:∀ n,(∃ i,i<n∧¬ isOn listed i)→∃ i,i<n∧¬ isOn listed i∧∀ k,k<i→isOn listed k:=by
     intro n
     induction n with
     | zero=>rintro ⟨i,hi,_⟩;omega
     | succ n ih=>
      rintro ⟨i,hi,hno⟩
      by_cases h:∃ i,i<n∧¬ isOn listed i
      ·obtain⟨j,h1,h2,h3⟩:=ih h
       exact⟨j,by omega,h2,h3⟩
      ·refine⟨i,hi,hno,λ k hk=>Classical.byContradiction λ hn=>h ⟨k,by omega,hn⟩⟩
    obtain⟨i,h1,h2,h3⟩:=least _ hex
    have hlt:i<(pre++st :: suf).length:=by simp;omega
    have:i∈Region.ready .any (pre++st :: suf).toArray listed:=by
     refine(zbX (by simpa using hsz)).2 ⟨by simpa using hlt,h2,(pre++st :: suf)[i],by simp,λ j hj=>?_⟩
     have:=zbY _ 0 hback i (pre++st :: suf)[i] (by simp) j hj
     exact h3 j (by omega)
    rw [h0] at this
    cases this
   ·obtain⟨g1,g2,o,ho,g3⟩:=(zbX (by simpa using hsz)).1 hi
    simp only [List.size_toArray] at g1
    have ho':(pre++st :: suf)[i]?=some o:=by simpa using ho
    have him:i<pre.length+1:=by
     rcases Nat.lt_or_ge i (pre.length+1) with h|h
     ·exact h
     ·exfalso
      rcases Nat.lt_or_ge (pre.length+1) i with hgt|hle
      ·unfold zhL at hchain
       have:=List.all_eq_true.1 hchain (i - (pre.length+1) - 1) (by rw [List.mem_range];omega)
       rw [show pre.length+1+(i - (pre.length+1) - 1)+1=i from by omega,ho'] at this
       exact hsuf _ (by omega) (g3 _ this)
      ·have hie:i=pre.length+1:=by omega
       have hne:suf.isEmpty=false:=by
        cases suf with
        | nil=>simp at g1;omega
        | cons _ _=>rfl
       rw [hne,Bool.false_or] at hfirst
       obtain⟨k,hk1,hk2⟩:=hex
       have:=List.all_eq_true.1 hfirst k (List.mem_range.2 hk1)
       rw [←hie] at this
       exact hk2 (zdL hclosed 64 i k (λ o'' h''=>by rw [ho'] at h'';cases h'';exact g3) this)
    have hilt:i<listed.size:=by omega
    have hcnt:((List.range (pre++st :: suf).length).filter (λ k=>!(listed.setIfInBounds i true).getD k false)).length≤fuel:=by
     have:=zkI (l:=List.range (pre++st :: suf).length) (q:=λ i=>!listed.getD i false) (q':=λ k=>!(listed.setIfInBounds i true).getD k false) (i:=i) ?_ (List.mem_range.2 g1) ?_ ?_
     ·omega
     ·intro x hx'
      have:¬ isOn (listed.setIfInBounds i true) x:=by unfold isOn;simpa using hx'
      have:¬ isOn listed x:=λ h=>this ((zbt hilt x).2 (.inr h))
      unfold isOn at this
      simpa using this
     ·unfold isOn at g2;simpa using g2
     ·have:isOn (listed.setIfInBounds i true) i:=(zbt hilt i).2 (.inl I)
      unfold isOn at this
      simp only [this];rfl
    have hsuf':∀ k,pre.length<k→¬ isOn (listed.setIfInBounds i true) k:=λ k hk hon=>by
     rcases(zbt hilt k).1 hon with rfl|h
     ·omega
     ·exact hsuf k hk h
    rcases Nat.lt_or_ge i pre.length with hip|hip
    ·have hpi:pre[i]?=some o:=by rw [List.getElem?_append_left hip] at ho';exact ho'
     obtain⟨d,e,S',hd,hOb,q',hq⟩:=hall i o hpi
     rw [Nat.zero_add] at hOb hq
     have hsubS:∀ x∈S',x∈S:=λ x hx=>by rw [hq];simp [hx]
     have hmem:(i,d,e)∈S:=by rw [hq];simp
     have hndS':(S'.map (·.1)).Nodup:=by
      have:=hnodup
      rw [hq,List.map_append,List.nodup_append] at this
      have:=this.2.1
      rw [List.map_cons,List.nodup_cons] at this
      exact this.2
     have hshow:∃ HS,Inv c ds (pre++st :: suf) pre T0 HS S listed a w∧HS=(bif inL late i then H.set q Emp else H):=by
      cases hl:inL late i with
      | true=>
       simp only [cond_true]
       rcases hI with ⟨_,h⟩ | ⟨_,z,_,h⟩
       ·exact⟨_,h.emp q,rfl⟩
       ·exact⟨_,h.emp q,znQ⟩
      | false=>
       simp only [cond_false]
       rcases hI with ⟨_,h⟩ | ⟨hon,_⟩
       ·exact⟨_,h,rfl⟩
       ·exfalso
        have:=List.all_eq_true.1 hlate i (List.mem_range.2 hip)
        rw [hl,Bool.false_or] at this
        exact g2 (zdL hclosed 64 pre.length i (λ o'' h''=>hclosed _ _ h'' hon) this)
     obtain⟨HS,hIS,hHS⟩:=hshow
     rw [←hHS] at hOb
     have hsatb:Sat c.n (zcl pre i T0) ds a:=zgH hIS hpre g2
     have hdn:d<c.n:=by
      have:=List.all_eq_true.1 hok o (List.mem_of_getElem? hpi)
      rw [hd] at this
      exact bL this
     have hnd:zfO o=false:=by
      have:=List.all_eq_true.1 hdef o (List.mem_of_getElem? (hpre i o hpi))
      simpa using this
     have hnext:∀ (v:Value) (r:Option Res) (w':World),Ext w w'→e.ok v r→(∀ R,r=some R→∃ B:Nat→Prop,(∀ k,B k→w.heap.size≤k∧k<w'.heap.size)∧R.A B w') →
       wpAnyIn (FW c.r) 0 c.P .any (pre++st :: suf).toArray p.Q fuel (listed.setIfInBounds i true) (a.put (some d) v) w':=by
      intro v r w' hx hek hr
      have hnm:isOn (listed.setIfInBounds i true) pre.length↔isOn listed pre.length:=by
       rw [zbt hilt]
       exact⟨λ h=>h.resolve_left (by omega),.inr⟩
      have hstep:∀ {HS:List Res},Inv c ds (pre++st :: suf) pre T0 HS S listed a w→Inv c ds (pre++st :: suf) pre T0 HS S (listed.setIfInBounds i true) (a.put (some d) v) w':=λ hI=>
       zj5 hI hpi ho' hilt hd (λ j oj hj hji=>zdF pre hdst i j o oj hpi hj (Ne.symm hji) d hd) hSop
        (λ d' e' h=>by have:=huniq _ h _ hmem I;simp only [Prod.mk.injEq,true_and] at this;exact this) hdn g3 g2 hx hek hr
      refine ih _ _ _ hcnt (by simp [hsz]) hsuf' ?_
      rcases hI with ⟨hno,h⟩ | ⟨hon,z,hz,h⟩
      ·exact .inl ⟨λ x=>hno (hnm.1 x),hstep h⟩
      ·refine .inr ⟨hnm.2 hon,z,?_,hstep h⟩
       have hne:dd≠d:=λ e=>by
        have:=List.all_eq_true.1 hddp o (List.mem_of_getElem? hpi)
        rw [hd] at this
        simp [e] at this
       simp only [Act.put]
       rw [Array.getElem?_setIfInBounds_ne (Ne.symm hne)];exact hz
     unfold wpOpIn
     rw [ho]
     simp only []
     have hfun:∀ {K:List (Nat×Value)→List Res→Prop},finE (deps o S') (zcl pre i T0) HS K→∃ T' H',K T' H'∧Sat c.n T' ds a∧Hp c.U c.w0 H' w:=λ h=>
      zdH (f:=λ j=>zaT o j) (S1:=S') (L:=deps o) hIS hsubS (λ x _ hb=>g3 x.1 hb) hsatb I (λ _ _ _ _=>rfl) hndS' h
     unfold Ob at hOb
     cases hg:o.guard with
     | none=>
      rw [hg] at hOb
      simp only at hOb
      rw [if_pos (by simp [Region.wanted,hg])]
      obtain⟨T',H',hst',hsat,hhp⟩:=hfun hOb
      cases e with
      | pure u=>
       refine za9 hnd (hst'.run a w hsat hhp) λ v w' hv=>?_
       obtain⟨rfl,hx⟩:=hv
       rw [hd]
       exact hnext v none w' hx ⟨rfl,rfl⟩ (λ R h=>by cases h)
      | res X V A=>
       refine za9 hnd (hst'.run a w hsat hhp) λ v w' hv=>?_
       obtain⟨x,rfl,hx,B,hB,hA⟩:=hv
       rw [hd]
       exact hnext _ (some (A x)) w' hx ⟨x,rfl,rfl⟩ (λ R h=>by cases h;exact⟨B,hB,hA⟩)
     | some gw=>
      obtain⟨j,want⟩:=gw
      rw [hg] at hOb
      rcases hOb with ⟨hlk,hbj,hst0⟩ | ⟨u0,qb,u,hlk,hbj,hq0,rfl,hst'⟩
      ·obtain⟨dj,hj⟩:=zf6 S' j _ hlk
       have honj:=g3 j hbj
       obtain⟨oj,hoj,hdj⟩:=hSop j dj _ (hsubS _ hj)
       obtain⟨v0,R0,B0,h1,_⟩:=hIS.fam
       obtain⟨hok',hval⟩:=h1 j dj _ (hsubS _ hj) honj
       obtain⟨hvj,_⟩:=hok'
       rw [hvj] at hval
       have hy:yielded (pre++st :: suf).toArray a.tmps j=some want:=zec (by simpa using hpre j oj hoj) hdj hval
       rw [if_pos (by simp only [Region.wanted,hg];rw [hy];simp)]
       obtain⟨T',H',hst',hsat,hhp⟩:=hfun hst0
       cases e with
       | pure u=>
        refine za9 hnd (hst'.run a w hsat hhp) λ v w' hv=>?_
        obtain⟨rfl,hx⟩:=hv
        rw [hd]
        exact hnext v none w' hx ⟨rfl,rfl⟩ (λ R h=>by cases h)
       | res X V A=>
        refine za9 hnd (hst'.run a w hsat hhp) λ v w' hv=>?_
        obtain⟨x,rfl,hx,B,hB,hA⟩:=hv
        rw [hd]
        exact hnext _ (some (A x)) w' hx ⟨x,rfl,rfl⟩ (λ R h=>by cases h;exact⟨B,hB,hA⟩)
      obtain⟨dj,hj⟩:=zf6 S' j _ hlk
      have honj:=g3 j hbj
      obtain⟨oj,hoj,hdj⟩:=hSop j dj _ (hsubS _ hj)
      obtain⟨v0,R0,B0,h1,_⟩:=hIS.fam
      obtain⟨hok',hval⟩:=h1 j dj _ (hsubS _ hj) honj
      obtain⟨hvj,_⟩:=hok'
      rw [hvj] at hval
      have hy:yielded (pre++st :: suf).toArray a.tmps j=some want↔u0=.bool want:=zd2 (by simpa using hpre j oj hoj) hdj hval
      cases hqq:qb with
      | true=>
       rw [if_pos (by simp only [Region.wanted,hg];rw [hy.2 (hq0.1 hqq)];simp)]
       obtain⟨T',H',hst'',hsat,hhp⟩:=hfun (hst' hqq)
       refine za9 hnd (hst''.run a w hsat hhp) λ v w' hv=>?_
       obtain⟨rfl,hx⟩:=hv
       rw [hd]
       exact hnext v none w' hx ⟨by rw [if_pos hqq],rfl⟩ (λ R h=>by cases h)
      | false=>
       have hnw:¬ yielded (pre++st :: suf).toArray a.tmps j=some want:=λ h=>by
        have:=hq0.2 (hy.1 h)
        rw [hqq] at this
        cases this
       rw [if_neg (by simp only [Region.wanted,hg];simpa using hnw)]
       refine⟨λ _ _=>trivial,?_⟩
       rw [hd]
       exact hnext undef none w Ext.rfl ⟨by rw [if_neg (by simp [hqq])],rfl⟩ (λ R h=>by cases h)
    ·have hie:i=pre.length:=by omega
     subst hie
     rw [hstm] at ho'
     simp only [sI] at ho'
     subst ho'
     have hIA:Inv c ds (pre++st :: suf) pre T0 H S listed a w:=by
      rcases hI with ⟨_,h⟩ | ⟨h,_⟩
      ·exact h
      ·exact absurd h g2
     obtain⟨T',H',hst',hsat,hhp⟩:=zdH (f:=λ j=>zaT st j) (S1:=S) (L:=deps st) hIA (λ _ h=>h) (λ x _ hb=>g3 x.1 hb) (zgH hIA hpre g2) I (λ _ _ _ _=>rfl) hnodup hstore
     obtain⟨B,hB,hA,hBU,hgo⟩:=zpZ hIA hstm hilt g3 (by simp) (λ j dj ej hj h=>by have:=hjlt j dj ej hj;omega) g2 hqR hdT (λ j dj ej hj e=>by
      obtain⟨oj,h1,h2⟩:=hSop j dj ej hj
      have:=List.all_eq_true.1 hddp oj (List.mem_of_getElem? h1)
      rw [h2] at this
      simp [e] at this) (bL hddn)
     unfold wpOpIn
     rw [ho]
     simp only []
     have hgn:st.guard=none:=by simpa using hstg
     have hdn:st.dst=some dd:=by simpa using hstd
     rw [if_pos (by simp [Region.wanted,hgn])]
     have hnd:zfO st=false:=by
      have:=List.all_eq_true.1 hdef st (List.mem_of_getElem? hstm)
      simpa using this
     refine zhn hnd (hst'.run a w B hsat hhp hB hA) (λ v w' hv=>?_) (λ ch w' hv=>?_)
     ·obtain⟨z,rfl,hm,B',ho',hA'⟩:=hv
      rw [hdn]
      obtain⟨h1,h2⟩:=hgo (R' z) (V z) w' B' hm ho' hA'
      exact ih _ _ _ hcnt (by simp [hsz]) hsuf' (.inr ⟨(zbt hilt _).2 (.inl I),z,h2,h1⟩)
     ·obtain⟨hb,hm⟩:=hv
      exact hbad ch hb a w' ⟨hIA.size,λ t v h=>by simp [lk] at h,hIA.defers⟩ ⟨hIA.base.mod hm hBU,trivial⟩
theorem zjX {id:Nat} {l:List Oper} {d:Bool} {Z:Type} {V:Z→Value} {R':Z→Res} {Bad:List PanicEntry→Prop} (m:Nat) (late:List Nat) (q dd:Nat) {R:Res} (hm:d=true→c.P.follows .mixedOrders=true) (hl0:l.take m++st :: l.drop (m+1)=l) (hlm:(l.take m).length=m)
  (hc:zjN c.n (l.take m) st (l.drop (m+1)) late dd=true) (hdT:lk T0 dd=none) (hbad:∀ ch,Bad ch→GK c ds (λ a w=>p.pn a ch w) [] []) (hq:H[q]?=some R)
  (h:PHs c ds (l.take m) T0 (λ i=>bif inL late i then H.set q Emp else H) (λ S=>finE (deps st S) (zcl (l.take m) m T0) H (λ T H'=>zmO c ds T H' st R V R' Bad) ∧
   ∀ z,finE (allE S) (zd3 (l.take m) T0) (H.set q (R' z)) (λ T H'=>GK c ds (KL c l.toArray p (l.drop (m+1))) ((dd,V z) :: T) H')) 0 (l.take m) []):GK c ds (KC c (.region id l.toArray d) p) T0 H:=by
 intro a w ha hw
 obtain⟨S,⟨hst,hK⟩,⟨q',hq',hq2⟩,hall⟩:=zms _ _ _ h
 rw [List.append_nil] at hq'
 have hmain:∀ w,Hp c.U c.w0 H w→wpAnyIn (FW c.r) 0 c.P .any l.toArray p.Q l.length (Array.replicate l.length false) a w:=by
  intro w hw
  have hoff:∀ k,¬ isOn (Array.replicate l.length false) k:=λ k=>by
   unfold isOn
   by_cases hk:k<l.length
   ·simp [hk]
   ·simp [hk]
  have:=zuu (c:=c) (ds:=ds) (p:=p) (pre:=l.take m) (st:=st) (suf:=l.drop (m+1)) (T0:=T0) (H:=H) hc hdT hbad (S:=S) (by rw [hq'];exact hq2) hq hall (by rw [hlm];exact hst) (by rw [hl0];exact hK) l.length (Array.replicate l.length false) a w
   (by rw [hl0];exact Nat.le_trans (List.length_filter_le _ _) (by simp)) (by rw [hl0];simp) (λ k _=>hoff k)
   (.inl ⟨hoff _,⟨hw.base,ha.size,ha.defers,λ k o _ hon=>absurd hon (hoff k),λ s v hs _=>ha.val s v hs,
    ⟨λ _=>undef,λ _=>none,λ _ _=>False,λ i _ _ _ hon=>absurd hon (hoff i),λ i _ hon=>absurd hon (hoff i),λ i _ hon=>absurd hon (hoff i),
     Holds.anti H (λ k hk=>by
      rcases hk with hk | ⟨_,_,_,hk⟩
      ·exact hk
      ·exact hk.elim) hw.holds⟩⟩⟩)
  rw [hl0] at this
  exact this
 cases d
 ·refine wpIn_region ?_
  have hb:zb8 0 l=true:=by
   simp only [zjN,aT] at hc
   obtain⟨⟨⟨⟨⟨⟨⟨⟨⟨⟨hback,_⟩,_⟩,_⟩,_⟩,_⟩,_⟩,_⟩,_⟩,_⟩,_⟩:=hc
   rwa [hl0] at hback
  have:=zer (c:=c) (p:=p) hb l.length 0 l.length (Array.replicate l.length false) a w (by omega) (Nat.le_refl _) (by simp) (λ i hi=>⟨λ h=>by
   unfold isOn at h
   simp [hi] at h,λ h=>by omega⟩) (hmain w hw)
  rw [List.range_eq_range']
  simpa using this
 ·refine wpIn_region_any (hm I) ?_
  have:=hmain _ hw.drawn
  simpa using this
end
section
variable {c:Cx} {ds:List Deferred} {T:List (Nat×Value)} {H:List Res} {x y:Operand} {d:Option Nat} {ty:TypeId} {ps:String} {af:Array Edge}
theorem zrf {X M:Type} {te:TypeId} {res:Except Int X} {V:X→M→Value} {J:X→M→Res} {R:Res} {f:FuncId} (he:En c.P f) {«as»:List Operand} {tys:Array TypeId} {vs:List Value} (ha:evs T «as» = some vs)
  (hc:∀ w B,(∀ k,B k→k<w.heap.size)→R.A B w→Calls c.P f vs.toArray w (zej te res V J B w)) :
  zmO c ds T H ⟨d,.call ⟨.value (.func f),«as».toArray,tys⟩,ty,ps,af,none⟩ R (Z:={ z:X×M // res=.ok z.1 }) (λ z=>V z.1.1 z.1.2) (λ z=>J z.1.1 z.1.2) (λ ch=>∃ k,res=.error k∧ch=thrC (errT te k)):=by
 refine⟨λ a w B hs hw hB hA=>?_⟩
 unfold YldT
 rw [zfJ he ha hs w]
 refine(hc w B hB hA).mono ?_
 intro e w' he'
 cases hres:res with
 | ok x=>
  rw [hres] at he'
  obtain⟨m,B',rfl,hm,ho,hA⟩:=he'
  exact .inl ⟨V x m,rfl,⟨(x,m),rfl⟩,rfl,hm,B',ho,hA⟩
 | error q=>
  rw [hres] at he'
  obtain⟨rfl,hm⟩:=he'
  exact .inr ⟨_,rfl,⟨q,rfl,rfl⟩,hm⟩
variable {α:Type} {k:Nat} {enc:α→List Value}
theorem zhN {t e:TypeId} {by_:Nat} {zs:List Value} {a a2:yO} {cap c2:Nat} {l m:List α} (hf:AF c.P t e k by_ zs) (he:Enc k enc)
  (hx:evo T x=some (.slice a l.length cap)) (hy:evo T y=some (.slice a2 m.length c2)) (hm:∀ w,Hp c.U c.w0 H w→Has w (zaW a2 k enc m))
  (hb:(l.length+m.length)*by_≤140737488355328) (hl:l.length+m.length≤maxLen) :
  zmO c ds T H ⟨d,.call ⟨.builtin .append,#[x,y],#[t,t]⟩,ty,ps,af,none⟩ (Row a k cap e enc l) (Z:=yO×Nat) (λ z=>.slice z.1 (l++m).length z.2) (λ z=>Row z.1 k z.2 e enc (l++m)) (λ _=>False):=by
 refine⟨λ A w B hs hw hB hA=>?_⟩
 obtain⟨a',cap',w',B',hr,hmd,ho,hA⟩:=zfU (P:=c.P) (ty:=ty) hf he (c2:=c2) hA (hm w hw) hb hl
 unfold YldT
 rw [zcp («as»:=[x,y]) (vs:=[.slice a l.length cap,.slice a2 m.length c2]) (by simp [evs,hx,hy]) hs w]
 simp only [builtin]
 rw [zbu hr]
 exact⟨(a',cap'),rfl,hmd,B',ho,hA⟩
end
section
variable {c:Cx} {ds:List Deferred} {p:Post} {T:List (Nat×Value)} {H:List Res} {d:Option Nat} {ty:TypeId} {ps:String} {af:Array Edge} {g:Option (Nat×Bool)} {x y z:Operand} {u v:Value}
theorem zou {P:Program} {w:World} {t:TypeId} {m n:Bool} (ht:P.underlying t=some .bool):(Op.equal t (.bool m) (.bool n)).run P w=.ok (m == n) w:=by
 unfold Op.equal Op.maxDepth Op.equalIn
 rw [zal (zaU ht)]
 rfl
theorem zsx {t t':TypeId} {m n:Bool} (ht:c.P.underlying t=some .bool) (hx:evo T x=some (.bool m)) (hy:evo T y=some (.bool n)):Y c ds H T ⟨d,.binOp .eql t x y t',ty,ps,af,g⟩ (.bool (m == n)):=
 zcz λ a w ha _=>by
  simp only [execOp,ha.eval hx,ha.eval hy]
  exact zbu (by rw [zal zhs];exact(zal (zou ht)).trans I)
end
section
variable {α:Type} {k:Nat} {enc:α→List Value} {a:yO} {l:List α} {w:World}
theorem zoc {cap lo:Nat} (h:Has w (zaW a k enc l)) (hc:l.length≤cap) (h1:lo≤l.length):Has w (zaW (subA a k lo cap) k enc (l.drop lo)):=by
 have:=zkR h lo (l.length - lo) cap (by omega) (by omega)
 rwa [List.take_of_length_le (by simp)] at this
theorem zje {m hi:Nat} (h:Has w (zaW a k enc l)) (h1:hi≤l.length) (h2:hi≤m):Has w (zaW (subA a k 0 m) k enc (l.take hi)):=by
 have:=zkR h 0 hi m (by omega) (by omega)
 rwa [List.drop_zero] at this
theorem zcM {cap:Nat} {e:TypeId} (h:Has w (Row a k cap e enc l)):l.length≤cap:=by
 obtain⟨B,_,hA⟩:=h
 exact Row.bounds hA
end
section
variable {c:Cx} {ds:List Deferred} {p:Post} {T:List (Nat×Value)} {H:List Res} {ops:Array Oper} {rest:List Oper} {d:Option Nat} {ty:TypeId} {ps:String} {af:Array Edge} {g:Option (Nat×Bool)} {x y z:Operand} {u v:Value}
variable {α:Type} {k:Nat} {enc:α→List Value}
section
variable {t e:TypeId} {cap:Nat} {a:yO} {l:List α} {kl kh km:IntKind} {lo hi mx:Int} {xl xh xm:Operand}
theorem zg9 (ht:SE c.P t e k) (hx:evo T x=some (.slice a l.length cap)) (hl:evo T xl=some (.int kl lo)) (h0:0≤lo) (h1:lo≤(l.length:Int)) :
  Y c ds H T ⟨d,.slice t x (some xl) none none,ty,ps,af,g⟩ (.slice (subA a k lo.toNat cap) (l.drop lo.toNat).length (cap - lo.toNat)):=by
 rw [List.length_drop];exact zq2 ht hx hl h0 h1
theorem zg8 (ht:SE c.P t e k) (hx:evo T x=some (.slice a l.length cap)) (hh:evo T xh=some (.int kh hi)) (h0:0≤hi) (h1:hi≤(l.length:Int)) (h2:l.length≤cap) :
  Y c ds H T ⟨d,.slice t x none (some xh) none,ty,ps,af,g⟩ (.slice (subA a k 0 cap) (l.take hi.toNat).length cap):=by
 rw [List.length_take,Nat.min_eq_left (by omega)];exact zq1 ht hx hh h0 (by omega)
end
theorem zbT {K:Act→World→Prop} (n:Nat) (h:GK c ds K T (SepR (H.take n) :: H.drop n)):GK c ds K T H:=λ a w ha hw=>
 h a w ha (Hp.pack (by rwa [List.take_append_drop]))
theorem zbP {K:Act→World→Prop} {L:List Res} (h:GK c ds K T (L++H)):GK c ds K T (SepR L :: H):=λ a w ha hw=>
 h a w ha hw.split
end
structure AE (P:Program) (t e:TypeId) (n k:Nat):Prop where
 u:P.underlying t=some (.array n e)
 i:(P.info? e).map (λ i=>i.size)=some k
section
variable {c:Cx} {ds:List Deferred} {p:Post} {T:List (Nat×Value)} {H:List Res} {ops:Array Oper} {rest:List Oper} {d:Option Nat} {ty:TypeId} {ps:String} {af:Array Edge} {g:Option (Nat×Bool)} {x y z:Operand} {u v:Value}
theorem zbQ {o:Oper} {b:Bool} (h:Y c ds H T o (.bool b)) (hb:b=true):Y c ds H T o (.bool true):=by subst hb;exact h
theorem zyA {t e:TypeId} {n k b o:Nat} {kd:IntKind} {i:Int} (m:Nat) (ht:AE c.P t e n k) (hx:evo T x=some (.pointer (some ⟨b,o,none⟩))) (hy:evo T y=some (.int kd i)) (hm:i=(m:Int)) (h1:m<n) :
  Y c ds H T ⟨d,.indexAddr t x y,ty,ps,af,g⟩ (.pointer (some ⟨b,o+m*k,none⟩)):=
 zcz λ a w ha hw=>by
  subst hm
  simp only [execOp,ha.eval hx,ha.eval hy]
  refine zbu ?_
  unfold Instr.indexAt
  rw [zal (v:=(kd,(m:Int))) (w':=w) I]
  simp only []
  have hz:(sizeOf e).run c.P w=.ok k w:=by
   have hi:=ht.i
   cases hu:c.P.info? e with
   | none=>rw [hu] at hi;cases hi
   | some j=>
    rw [hu] at hi
    simp only [Option.map_some,sI] at hi
    unfold sizeOf
    rw [zal (zfK hu)]
    simp [pure,hi]
  have hu:=zaU (w:=w) ht.u
  rw [zal hu]
  simp only []
  have hs:(Instr.sureAddr (.pointer (some ⟨b,o,none⟩))).run c.P w=.ok ⟨b,o,none⟩ w:=rfl
  rw [zal hs,zal (v:=(some ⟨b,o,none⟩,n,e)) (w':=w) I,zal hu]
  simp only []
  rw [if_pos ⟨by omega,by omega⟩,zal hz]
  simp only [zb2,Int.toNat_natCast]
  rfl
variable {α:Type} {k:Nat} {enc:α→List Value}
end
section
variable {c:Cx} {ds:List Deferred} {T:List (Nat×Value)} {H:List Res} {d:Option Nat} {ty:TypeId} {ps:String} {af:Array Edge} {g:Option (Nat×Bool)} {x y:Operand}
theorem zuU {t t' e:TypeId} {a:yO} {n k n' k':Nat} (ht:c.P.underlying t=some (.slice e)) (hx:evo T x=some (.slice a n k)) (hy:evo T y=some (.slice none n' k')) :
  Y c ds H T ⟨d,.binOp .eql t x y t',ty,ps,af,g⟩ (.bool a.isNone):=
 zcz λ a w ha _=>by
  simp only [execOp,ha.eval hx,ha.eval hy]
  exact zbu (Go.Lib.run_eql_slice_nil _ _ _ _ _ _ _ _ ht)
end
section
variable {c:Cx} {ds:List Deferred} {p:Post} {T:List (Nat×Value)} {H:List Res} {ops:Array Oper} {rest:List Oper} {d:Option Nat} {ty:TypeId} {ps:String} {af:Array Edge} {g:Option (Nat×Bool)} {x y:Operand}
theorem zjt {P:Program} {w:World} {b:Nat} {es:Array MapEntry} {clock:Nat} (hb:w.heap[b]?=some (.map es clock)):(getObj b).run P w=.ok (.map es clock) w:=by
 unfold getObj
 simp [Sem.run,hb]
theorem zdZ {k:TypeId} {P:Program} {w:World} (hk:P.underlying k=some .string) (e:Bool) (s:yB):(Instr.checkKey e 10000 k (.string s)).run P w=.ok () w:=by
 unfold Instr.checkKey
 rw [zal (zaU hk)]
 rfl
end
def MapR (b:Nat) (l:List (yB×Value)):Res where
 A B w:=(∀ j,B j↔j=b)∧∃ es clock,w.heap[b]?=some (.map es clock)∧es.toList.map (λ e=>(e.key,e.val))=l.map (λ s=>(Value.string s.1,s.2))
 loc _ _ _ h hA:=⟨hA.1,by obtain⟨es,clock,h1,h2⟩:=hA.2;exact⟨es,clock,(h b ((hA.1 b).2 I)).trans h1,h2⟩⟩
def mget:List (yB×Value)→yB→Option Value
 | [],_=>none
 | p :: r,s=>if (s == p.1)=true then some p.2 else mget r s
theorem zjS (s:yB):∀ (es:List MapEntry) (l:List (yB×Value)) (i:Nat),es.map (λ e=>(e.key,e.val))=l.map (λ s=>(Value.string s.1,s.2)) →
  (Instr.findNow .string (.string s) es i=some none∧mget l s=none)∨(∃ j v,Instr.findNow .string (.string s) es i=some (some (j,v))∧mget l s=some v)
 | [],[],i,_=>.inl ⟨rfl,rfl⟩
 | [],_ :: _,_,h=>by simp at h
 | _ :: _,[],_,h=>by simp at h
 | e :: es,n :: l,i,h=>by
  simp only [List.map_cons,List.cons.injEq,Prod.mk.injEq] at h
  obtain⟨⟨h1,h2⟩,h3⟩:=h
  unfold Instr.findNow
  rw [h1]
  simp only [Instr.sameNow,mget]
  cases hs:(s == n.1) with
  | true=>exact .inr ⟨i,n.2,by rw [h2],by simp⟩
  | false=>
   rcases zjS s es l (i+1) h3 with ⟨g1,g2⟩ | ⟨j,v,g1,g2⟩
   ·exact .inl ⟨g1,by simpa using g2⟩
   ·exact .inr ⟨j,v,g1,by simpa using g2⟩
structure MT (P:Program) (t k e:TypeId) (n:Nat) (ag:Bool) (z:Value):Prop where
 u:P.underlying t=some (.map k e)
 k:P.underlying k=some .string
 e:TF P e ag n z
section
variable {c:Cx} {ds:List Deferred} {p:Post} {T:List (Nat×Value)} {H:List Res} {ops:Array Oper} {rest:List Oper} {d:Option Nat} {ty:TypeId} {ps:String} {af:Array Edge} {g:Option (Nat×Bool)} {x y:Operand}
theorem zmM {t:TypeId}:YX c ds H T ⟨d,.makeMap t none,ty,ps,af,g⟩ (λ b=>.map (some b)) (λ b=>MapR b []):=by
 refine⟨λ a w ha hw=>?_⟩
 unfold Yld
 have:(execOp a.eval ⟨d,.makeMap t none,ty,ps,af,g⟩).run c.P w=.ok (.value (.map (some w.heap.size))) (w.alloc (.map #[] 0)):=by
  simp only [execOp]
  exact zbu I
 rw [this]
 refine⟨w.heap.size,rfl,zcG _,(· = w.heap.size),λ k hk=>by subst hk;simp,λ k=>Iff.rfl,#[],0,World.alloc_heap_new w _,rfl⟩
theorem zmL {t k e:TypeId} {n:Nat} {ag:Bool} {z:Value} {b:Nat} {l:List (yB×Value)} {s:yB} (hm:MT c.P t k e n ag z) (hx:evo T x=some (.map (some b))) (hy:evo T y=some (.string s)) (h:∀ w,Hp c.U c.w0 H w→Has w (MapR b l)) :
  Y c ds H T ⟨d,.lookup t x y true,ty,ps,af,g⟩ (.tuple #[(mget l s).getD z,.bool (mget l s).isSome]):=
 zcz λ a w ha hw=>by
  obtain⟨B,_,_,es,clock,hb,hes⟩:=h w hw
  simp only [execOp,ha.eval hx,ha.eval hy]
  refine zbu ?_
  unfold Instr.lookup
  rw [zal (zaU hm.u)]
  dsimp only
  rw [zal (zjt hb)]
  dsimp only
  rw [zal (v:=es) (w':=w) I,zal (zdZ hm.k _ s)]
  have hf:∀ r,Instr.findNow .string (.string s) es.toList 0=some r→(Instr.findKey k (.string s) es.toList).run c.P w=.ok r w:=λ r hr=>by
   unfold Instr.findKey
   rw [zal (zaU hm.k),hr]
   rfl
  rcases zjS s es.toList l 0 hes with ⟨g1,g2⟩ | ⟨j,v,g1,g2⟩
  ·rw [g2,zal (hf _ g1)]
   dsimp only
   rw [zal hm.e.zero,zal (v:=((z,false):Value×Bool)) (w':=w) I]
   rfl
  ·rw [g2,zal (hf _ g1)]
   dsimp only
   rw [zal (v:=((v,true):Value×Bool)) (w':=w) I]
   rfl
end
def IF (P:Program) (t:TypeId):Prop:=∃ d,P.underlying t=some d∧∀ m,d≠.interface m
structure SA (P:Program) (t e:TypeId) (n k:Nat):Prop where
 u:P.underlying t=some (.array n e)
 i:(P.info? e).map (λ i=>i.size)=some k
section
variable {c:Cx} {ds:List Deferred} {p:Post} {T:List (Nat×Value)} {H:List Res} {ops:Array Oper} {rest:List Oper} {d:Option Nat} {ty:TypeId} {ps:String} {af:Array Edge} {g:Option (Nat×Bool)} {x y:Operand}
theorem zbx {a:Addr} (hx:evo T x=some (.pointer (some a))):Y c ds H T ⟨d,.nilCheck x,ty,ps,af,g⟩ (.pointer (some a)):=
 zcz λ A w ha _=>by
  simp only [execOp,ha.eval hx]
  rfl
theorem zeP {a:yO} {n:Nat} (hx:evo T x=some (epx a n)) (h:∀ w,Hp c.U c.w0 H w→∃ b off,a=some ⟨b,off,none⟩):Y c ds H T ⟨d,.nilCheck x,ty,ps,af,g⟩ (epx a n):=
 zcz λ A w ha hw=>by
  obtain⟨b,off,rfl⟩:=h w hw
  simp only [execOp,ha.eval hx]
  rfl
theorem zuZ {t:TypeId} {v:Value} (ht:IF c.P t) (hx:evo T x=some v):Y c ds H T ⟨d,.makeInterface t x,ty,ps,af,g⟩ (.iface t v):=
 zcz λ A w ha _=>by
  simp only [execOp,ha.eval hx]
  refine zbu ?_
  obtain⟨d,hu,hd⟩:=ht
  unfold Instr.makeInterface
  rw [zal (zaU hu)]
  cases d <;> first|rfl|exact absurd I (hd _)
theorem zlN {t t0:TypeId} {v:Value} (ht:IF c.P t) (hx:evo T x=some (.iface t v)):Y c ds H T ⟨d,.typeAssert x t0 t true,ty,ps,af,g⟩ (.tuple #[v,.bool true]):=
 zcz λ A w ha _=>by
  simp only [execOp,ha.eval hx]
  refine zbu ?_
  obtain⟨d,hu,hd⟩:=ht
  unfold Instr.typeAssert
  rw [zal (zaU hu)]
  cases d <;> first|exact absurd I (hd _)|simp [pure]
theorem zqG {P:Program} {w:World} {e:TypeId} {k:Nat} (hi:(P.info? e).map (λ i=>i.size)=some k):(sizeOf e).run P w=.ok k w:=by
 cases hu:P.info? e with
 | none=>rw [hu] at hi;cases hi
 | some j=>
  rw [hu] at hi
  simp only [Option.map_some,sI] at hi
  unfold sizeOf
  rw [zal (zfK hu)]
  simp [pure,hi]
theorem zjB {t e:TypeId} {n k b o:Nat} (ht:SA c.P t e n k) (hx:evo T x=some (.pointer (some ⟨b,o,none⟩))):Y c ds H T ⟨d,.slice t x none none none,ty,ps,af,g⟩ (.slice (some ⟨b,o,none⟩) n n):=
 zcz λ A w ha _=>by
  simp only [execOp,ha.eval hx,Option.map_none]
  refine zbu ?_
  unfold Instr.sliceAt
  rw [zal (zaU ht.u)]
  simp only []
  rw [zal (v:=⟨b,o,none⟩) (w':=w) I]
  rw [zal (v:=((0,n,n):Nat×Nat×Nat)) (w':=w) (by rfl)]
  simp only []
  rw [zal (zqG ht.i)]
  simp [pure,Addr.add]
theorem zig {t k e:TypeId} {z:Operand} {zz:Value} {n:Nat} {ag:Bool} {b:Nat} {l:List (yB×Value)} {s:yB} {u:Value} (i:Nat) (hm:MT c.P t k e n ag zz) (hx:evo T x=some (.map (some b))) (hy:evo T y=some (.string s)) (hz:evo T z=some u) (hi:H[i]?=some (MapR b l)) (hn:mget l s=none)
  (kk:GK c ds (KL c ops p rest) T (H.set i (MapR b (l++[(s,u)])))):GK c ds (KL c ops p (⟨none,.insert t x y z,ty,ps,af,none⟩ :: rest)) T H:=by
 refine zjZ I (λ a w ha hw=>?_) kk
 obtain⟨B0,hB0,hA0⟩:=hw.has hi
 obtain⟨hBb,es,clock,hb,hes⟩:=hA0
 have hf:(Instr.findKey k (.string s) es.toList).run c.P w=.ok none w:=by
  unfold Instr.findKey
  rw [zal (zaU hm.k)]
  rcases zjS s es.toList l 0 hes with ⟨g1,_⟩ | ⟨j,v,_,g2⟩
  ·rw [g1];rfl
  ·rw [g2] at hn;cases hn
 have hr:(Instr.mapUpdate t (.map (some b)) (.string s) u).run c.P w=.ok () (w.putObj b (.map (es.push { key:=.string s,val:=u,born:=clock }) (clock+1))):=by
  unfold Instr.mapUpdate
  rw [zal (zaU hm.u)]
  dsimp only
  rw [zal (zjt hb)]
  dsimp only
  rw [zal (zdZ hm.k _ s),zal hf]
  dsimp only
  simp [setObj,Sem.run,hb,World.putObj]
 unfold Yld
 have:(execOp a.eval ⟨none,.insert t x y z,ty,ps,af,none⟩).run c.P w=.ok .skip (w.putObj b (.map (es.push { key:=.string s,val:=u,born:=clock }) (clock+1))):=by
  simp only [execOp,ha.eval hx,ha.eval hy,ha.eval hz]
  rw [zal hr]
  rfl
 rw [this]
 refine hw.upd hi λ B hB hA=>⟨B,zj8 ((hA.1 b).2 I),λ k hk=>.inl hk,hA.1,es.push { key:=.string s,val:=u,born:=clock },clock+1,?_,?_⟩
 ·exact World.putObj_heap_same (hB0 b ((hBb b).2 I))
 ·simp [hes]
theorem zlo:∀ (pre cs vs:List Value),cs.length=vs.length→over (pre++cs) pre.length vs=pre++vs
 | pre,[],[],_=>rfl
 | pre,[],_ :: _,h=>by simp at h
 | pre,_ :: _,[],h=>by simp at h
 | pre,x :: cs,v :: vs,h=>by
  rw [over,List.set_append_right _ _ (Nat.le_refl _),Nat.sub_self]
  have:=zlo (pre++[v]) cs vs (by simpa using h)
  simpa using this
theorem zr2 {cs vs:List Value} (h:cs.length=vs.length):over cs 0 vs=vs:=zlo [] cs vs h
theorem zbz {t:TypeId} {gg:Bool} {k b:Nat} {z v:Value} {cs vs:List Value} {e:TypeId} (i:Nat) (ht:TF c.P t gg k z) (hx:evo T x=some (Z b)) (hy:evo T y=some v)
  (hv:v.cells=vs.toArray) (hl:vs.length=k) (h1:vs.all zgS=true) (hi:H[i]?=some (Box b cs e)) (hc:cs.length=k)
  (kk:GK c ds (KL c ops p rest) T (H.set i (Box b vs e))):GK c ds (KL c ops p (⟨none,.store t x y,ty,ps,af,none⟩ :: rest)) T H:=
 zaA i ht hx hy hv hl h1 hi (by rw [hc,Nat.zero_add];exact Nat.ble_self_eq_true k) (by rw [zr2 (by rw [hc,hl])];exact kk)
theorem zpQ {t:TypeId} {v:Value} (hx:evo T x=some (.iface t v)) (k:GK c ds (λ a w=>p.pn a (thrC (.iface t v)) w) T H):GK c ds (KL c ops p (⟨d,.panic x,ty,ps,af,none⟩ :: rest)) T H:=by
 refine zk0 I I λ a w ha hw=>?_
 unfold YldT
 have:(execOp a.eval ⟨d,.panic x,ty,ps,af,none⟩).run c.P w=.halt (.panic (.iface t v)) w:=by
  simp only [execOp,ha.eval hx]
  rfl
 rw [this]
 exact k a w ha hw
end
def zvq (P:Program) (fn:Func) (c:Cx) (H':List Res):Post:=
 {nrm:=λ a w=>a.defers=[]∧(∃ v,(results fn a.tmps).run P w=.ok v w)∧Hp c.U c.w0 H' w,
  ret:=λ a w=>a.defers=[]∧(∃ v,(results fn a.tmps).run P w=.ok v w)∧Hp c.U c.w0 H' w,ex:=[] }
theorem zvZ {c:Cx} {T:List (Nat×Value)} {H:List Res} {fn:Func} {v:Value} (hv:RV c [] T H fn v) :
  GK c [] (λ a w=>a.defers=[]∧(∃ v,(results fn a.tmps).run c.P w=.ok v w)∧Hp c.U c.w0 H w) T H:=λ a w ha hw=>⟨ha.defers,⟨v,hv a w ha hw⟩,hw⟩
theorem zfR {c:Cx} {f:FuncId} {fn:Func} {id d:Nat} {ty:TypeId} {ps:String} {af:Array Edge} {rest:Code} {vs:List Value} {u u':FrameMode} {v:Value} {w:World} {H H':List Res} (hr:c.r=none)
  (hf:c.P.funcs[f]?=some fn) (hb:fn.body=some (.seq (.region id #[⟨some d,.call ⟨.builtin .recover,#[],#[]⟩,ty,ps,af,none⟩] false) rest)) (hn:fn.ntmps=c.n) (hl:vs.length≤c.n) (hd:d<c.n)
  (hrec:∀ (c₀:Frame) (cs:List Frame),c₀.mode=u→(recoverD (c₀ :: cs)=some (v,{ c₀ with mode:=u' } :: cs))∨(recoverD (c₀ :: cs)=none∧v=.nilIface∧u' = u))
  (hw:Hp c.U c.w0 H w) (h:GK c [] (KC c rest (zvq c.P fn c H')) ((d,v) :: idx 0 vs) H) :
  CallsDIn Fence.wide 0 c.P f vs.toArray u w (λ e u'' w'=>(∃ v,e=.returned v)∧u'' = u'∧Hp c.U c.w0 H' w'):=by
 refine callsDIn_of_wpSIn hf hb trivial ?_
 intro c₀ cs hu
 have hsat:Sat c.n (idx 0 vs) [] { tmps:=vs.toArray++Array.replicate (fn.ntmps - vs.toArray.size) undef,defers:=[] }:=by rw [hn];exact zko hl
 refine wpSIn_seq (wpSIn_region ?_)
 have hex:∀ (a:Act),(execOp a.eval ⟨some d,.call ⟨.builtin .recover,#[],#[]⟩,ty,ps,af,none⟩).run c.P w=.ok .recover w:=λ a=>by
  simp only [execOp]
  rfl
 have hnext:∀ cs',cs' = { c₀ with mode:=u' } :: cs→∀ a,Sat c.n ((d,v) :: idx 0 vs) [] a→Exit.thenS (rest.wpSIn Fence.wide 0 c.P (bodyPostS c.P fn c₀ cs (λ e u'' w'=>(∃ v,e=.returned v)∧u'' = u'∧Hp c.U c.w0 H' w'))) (bodyPostS c.P fn c₀ cs (λ e u'' w'=>(∃ v,e=.returned v)∧u'' = u'∧Hp c.U c.w0 H' w')) .normal a cs' w:=by
  rintro cs' rfl a ha
  refine wpSIn_of_wpIn I ?_
  have h2:=h a w ha hw
  unfold KC at h2
  rw [hr] at h2
  refine Go.wpIn_mono h2 ?_
  intro e a' w' hq
  cases e with
  | normal=>obtain⟨h1,⟨v',h2⟩,h3⟩:=hq;exact⟨h1,u',rfl,v',h2,⟨_,rfl⟩,rfl,h3⟩
  | ret=>obtain⟨h1,⟨v',h2⟩,h3⟩:=hq;exact⟨h1,u',rfl,v',h2,⟨_,rfl⟩,rfl,h3⟩
  | exit id=>exact hq.elim
  | goto l=>exact hq.elim
  | panic ch=>exact hq.elim
  | outgrown=>exact hq.elim
 show wpOpsSIn _ _ _ _ _ [0] _ _ _
 simp only [wpOpsSIn]
 refine⟨λ _ _=>trivial,?_⟩
 simp only [Region.wanted]
 rcases hrec c₀ cs hu with h1 | ⟨h1,rfl,rfl⟩
 ·rw [h1]
  exact hnext _ I _ (hsat.put hd v)
 ·rw [h1]
  exact hnext _ (by subst hu;rfl) _ (hsat.put hd _)
theorem zkk (c₀:Frame) (cs:List Frame) (h:c₀.mode=.returning):recoverD (c₀ :: cs)=none:=by
 simp [recoverD,h]
theorem zor {v:Value} (c₀:Frame) (cs:List Frame) (h:c₀.mode=.panicking (thrC v)):recoverD (c₀ :: cs)=some (v,{ c₀ with mode:=.panicking [{ v:=v,recovered:=true }] } :: cs):=by
 simp [recoverD,h,thrC]
theorem zov {v:Value}:settle (.panicking [{ v:=v,recovered:=true }])=.returning:=rfl
structure Slots (c:Cx) (H:List Res) (G:Nat→Option Res) (B:Nat→Nat→Prop) (w:World):Prop where
 own:∀ j R,G j=some R→R.A (B j) w∧∀ k,B j k→¬ c.U k∧k<w.heap.size
 dis:∀ i j,(G i).isSome=true→(G j).isSome=true→i≠j→∀ k,B i k→¬ B j k
 out:Holds H (λ k=>c.U k∨∃ i,(G i).isSome=true∧B i k) w
section
variable {c:Cx} {H:List Res} {G:Nat→Option Res} {B:Nat→Nat→Prop} {w w':World}
theorem Slots.congr {G':Nat→Option Res} (h:Slots c H G B w) (hg:∀ j,G' j=G j):Slots c H G' B w:=by
 have:G' = G:=funext hg
 rw [this];exact h
theorem Slots.ext (h:Slots c H G B w) (hx:Ext w w'):Slots c H G B w':=
 ⟨λ j R hj=>⟨R.loc _ w w' (λ k hk=>hx.block k ((h.own j R hj).2 k hk).2) (h.own j R hj).1,λ k hk=>⟨((h.own j R hj).2 k hk).1,lL ((h.own j R hj).2 k hk).2 hx.size⟩⟩,h.dis,Holds.ext hx h.out⟩
theorem Slots.new (h:Slots c H G B w) (hb:Base c.U c.w0 w) (hx:Ext w w') (i:Nat) {R:Res} {Bn:Nat→Prop} (hBn:∀ k,Bn k→w.heap.size≤k∧k<w'.heap.size) (hA:R.A Bn w') :
  Slots c H (λ j=>if j=i then some R else G j) (λ j=>if j=i then Bn else B j) w':=by
 have h':=h.ext hx
 have hUlt:∀ k,c.U k→k<w.heap.size:=λ k hk=>lL (hb.lt k hk) hb.size
 refine⟨λ j S hj=>?_,λ a b ha hb' hab k hk1 hk2=>?_,?_⟩
 ·by_cases hji:j=i
  ·simp only [if_pos hji,sI] at hj ⊢
   subst hj
   exact⟨hA,λ k hk=>⟨λ hu=>by have:=hUlt k hu;have:=(hBn k hk).1;omega,(hBn k hk).2⟩⟩
  ·simp only [if_neg hji] at hj ⊢
   exact h'.own j S hj
 ·by_cases hai:a=i
  ·have hbi:b≠i:=λ e=>hab (hai.trans e.symm)
   simp only [if_pos hai] at ha hk1
   simp only [if_neg hbi] at hb' hk2
   obtain⟨S,hS⟩:=Option.isSome_iff_exists.1 hb'
   have:=((h.own b S hS).2 k hk2).2
   have:=(hBn k hk1).1
   omega
  ·simp only [if_neg hai] at ha hk1
   by_cases hbi:b=i
   ·simp only [if_pos hbi] at hb' hk2
    obtain⟨S,hS⟩:=Option.isSome_iff_exists.1 ha
    have:=((h.own a S hS).2 k hk1).2
    have:=(hBn k hk2).1
    omega
   ·simp only [if_neg hbi] at hb' hk2
    exact h.dis a b ha hb' hab k hk1 hk2
 ·have key:∀ (L:List Res) (V V':Nat→Prop),(∀ k,k<w.heap.size→V' k→V k)→Holds L V w→Holds L V' w':=by
   intro L
   induction L with
   | nil=>intro _ _ _ _;trivial
   | cons R L ih=>
    intro V V' hV hh
    obtain⟨C,hC,hA,hr'⟩:=hh
    refine⟨C,λ k hk=>⟨λ hv=>(hC k hk).1 (hV k (hC k hk).2 hv),lL (hC k hk).2 hx.size⟩,R.loc C w w' (λ k hk=>hx.block k (hC k hk).2) hA,?_⟩
    exact ih _ _ (λ k hk hv=>hv.imp (hV k hk) id) hr'
  refine key H _ _ ?_ h.out
  rintro k hk (hu | ⟨j,hj,hbj⟩)
  ·exact .inl hu
  ·by_cases hji:j=i
   ·simp only [if_pos hji] at hbj
    have:=(hBn k hbj).1
    omega
   ·simp only [if_neg hji] at hj hbj
    exact .inr ⟨j,hj,hbj⟩
theorem Slots.upd (h:Slots c H G B w) {j0:Nat} {R R':Res} {B':Nat→Prop} (hG:G j0=some R) (hb:Base c.U c.w0 w) (hm:Mod (B j0) w w') (ho:Own (B j0) B' w w') (hA:R'.A B' w') :
  Base c.U c.w0 w'∧Slots c H (λ j=>if j=j0 then some R' else G j) (λ j=>if j=j0 then B' else B j) w':=by
 have hUlt:∀ k,c.U k→k<w.heap.size:=λ k hk=>lL (hb.lt k hk) hb.size
 have h0:=h.own j0 R hG
 refine⟨hb.mod hm (λ k hk=>(h0.2 k hk).1),⟨λ j S hj=>?_,λ a b ha hb' hab k hk1 hk2=>?_,?_⟩⟩
 ·by_cases hji:j=j0
  ·simp only [if_pos hji,sI] at hj ⊢
   subst hj
   refine⟨hA,λ k hk=>?_⟩
   rcases ho k hk with hk' | ⟨h1,h2⟩
   ·exact⟨(h0.2 k hk').1,lL (h0.2 k hk').2 hm.size⟩
   ·exact⟨λ hu=>by have:=hUlt k hu;omega,h2⟩
  ·simp only [if_neg hji] at hj ⊢
   obtain⟨g1,g2⟩:=h.own j S hj
   refine⟨S.loc _ w w' (λ k hk=>hm.same k (g2 k hk).2 (λ hb0=>h.dis j j0 (by rw [hj];rfl) (by rw [hG];rfl) hji k hk hb0)) g1,λ k hk=>⟨(g2 k hk).1,lL (g2 k hk).2 hm.size⟩⟩
 ·have cross:∀ a,a≠j0→(G a).isSome=true→B a k→B' k→False:=λ a haj ha hk1 hk2=>by
   obtain⟨S,hS⟩:=Option.isSome_iff_exists.1 ha
   rcases ho k hk2 with hk' | ⟨h1,_⟩
   ·exact h.dis a j0 ha (by rw [hG];rfl) haj k hk1 hk'
   ·have:=((h.own a S hS).2 k hk1).2;omega
  by_cases hai:a=j0
  ·have hbi:b≠j0:=λ e=>hab (hai.trans e.symm)
   simp only [if_pos hai] at ha hk1
   simp only [if_neg hbi] at hb' hk2
   exact cross b hbi hb' hk2 hk1
  ·simp only [if_neg hai] at ha hk1
   by_cases hbi:b=j0
   ·simp only [if_pos hbi] at hb' hk2
    exact cross a hai ha hk1 hk2
   ·simp only [if_neg hbi] at hb' hk2
    exact h.dis a b ha hb' hab k hk1 hk2
 ·have key:∀ (L:List Res) (V V':Nat→Prop),(∀ k,B j0 k→V k)→(∀ k,k<w.heap.size→V' k→V k)→Holds L V w→Holds L V' w':=by
   intro L
   induction L with
   | nil=>intro _ _ _ _ _;trivial
   | cons S L ih=>
    intro V V' hB hV hh
    obtain⟨C,hC,hA,hr'⟩:=hh
    refine⟨C,λ k hk=>⟨λ hv=>(hC k hk).1 (hV k (hC k hk).2 hv),lL (hC k hk).2 hm.size⟩,S.loc C w w' (λ k hk=>hm.same k (hC k hk).2 (λ hb0=>(hC k hk).1 (hB k hb0))) hA,?_⟩
    exact ih _ _ (λ k hk=>.inl (hB k hk)) (λ k hk hv=>hv.imp (hV k hk) id) hr'
  refine key H _ _ (λ k hk=>.inr ⟨j0,by rw [hG];rfl,hk⟩) ?_ h.out
  rintro k hk (hu | ⟨j,hj,hbj⟩)
  ·exact .inl hu
  ·by_cases hji:j=j0
   ·simp only [if_pos hji] at hbj
    rcases ho k hbj with hk' | ⟨h1,_⟩
    ·exact .inr ⟨j0,by rw [hG];rfl,hk'⟩
    ·omega
   ·simp only [if_neg hji] at hj hbj
    exact .inr ⟨j,hj,hbj⟩
theorem Slots.holds (h:Slots c H G B w):∀ (js:List Nat) (Rs:List Res),F2 (λ j R=>G j=some R) js Rs→js.Nodup→Holds (Rs++H) c.U w:=by
 have key:∀ (js:List Nat) (Rs:List Res) (X:Nat→Prop),F2 (λ j R=>G j=some R) js Rs→js.Nodup→(∀ j∈js,¬ X j)→Holds (Rs++H) (λ k=>c.U k∨∃ i,X i∧(G i).isSome=true∧B i k) w:=by
  intro js
  induction js with
  | nil=>
   intro Rs X hf _ _
   cases Rs with
   | nil=>exact Holds.anti H (λ k hk=>by
     rcases hk with hu | ⟨i,_,hi,hb⟩
     ·exact .inl hu
     ·exact .inr ⟨i,hi,hb⟩) h.out
   | cons _ _=>exact hf.elim
  | cons j js ih=>
   intro Rs X hf hn hX
   cases Rs with
   | nil=>exact hf.elim
   | cons R Rs=>
    obtain⟨hj,hf'⟩:=hf
    rw [List.nodup_cons] at hn
    obtain⟨g1,g2⟩:=h.own j R hj
    refine⟨B j,λ k hk=>⟨?_,(g2 k hk).2⟩,g1,?_⟩
    ·rintro (hu | ⟨i,hXi,hi,hbi⟩)
     ·exact(g2 k hk).1 hu
     ·exact h.dis j i (by rw [hj];rfl) hi (λ e=>hX j (mS ..) (e ▸ hXi)) k hk hbi
    ·refine Holds.anti _ ?_ (ih Rs (λ i=>X i∨i=j) hf' hn.2 (λ i hi hx=>?_))
     ·rintro k ((hu | ⟨i,hXi,hi,hbi⟩)|hk)
      ·exact .inl hu
      ·exact .inr ⟨i,.inl hXi,hi,hbi⟩
      ·exact .inr ⟨j,.inr I,by rw [hj];rfl,hk⟩
     ·rcases hx with hx|hx
      ·exact hX i (mM _ hi) hx
      ·subst hx;exact hn.1 hi
 intro js Rs hf hn
 refine Holds.anti _ (λ k hk=>.inl hk) (key js Rs (λ _=>False) hf hn (λ _ _ h=>h))
end
def ch:List (Nat×Type)→Nat→Type
 | [],_=>Unit
 | (k,T) :: r,i=>bif Nat.beq k i then T else ch r i
structure E3 (XS:Nat→Type) where
 i:Nat
 d:Option Nat
 t:Option Nat
 V:((i:Nat)→XS i)→Value
 A:((i:Nat)→XS i)→Res
def tIs (t:Option Nat) (j:Nat):Bool:=match t with
 | some k=>Nat.beq k j
 | none=>false
def rcf (ms:List Nat) (i j:Nat):Bool:=Nat.blt j i&&Nat.beq (Nat.land (Nat.shiftRight (ms.getD i 0) j) 1) 1
def okM (ops:List Oper) (ms:List Nat):Bool:=(List.range ops.length).all λ i=>(List.range i).all λ j=>!rcf ms i j||(match ops[i]? with
 | some o=>o.after.toList.any λ e=>Region.binds .any e&&(Nat.beq e.on j||rcf ms e.on j)
 | none=>false)
section
variable {XS:Nat→Type}
def zbe (ρ:(i:Nat)→XS i) (done:Nat→Bool) (j:Nat):List (E3 XS)→Option Res
 | []=>none
 | x :: r=>bif tIs x.t j&&done x.i then some (x.A ρ) else zbe ρ done j r
def okSt (rc:Nat→Bool) (j:Nat):List (E3 XS)→Bool
 | []=>true
 | x :: r=>(!tIs x.t j||rc x.i)&&okSt rc j r
def zeS (ρ:(i:Nat)→XS i) (rc:Nat→Bool) (S:List (E3 XS)):List (E3 XS)→List Res
 | []=>[]
 | x :: r=>bif tIs x.t x.i&&okSt rc x.i S then(match zbe ρ rc x.i S with|some R=>R :: zeS ρ rc S r|none=>zeS ρ rc S r) else zeS ρ rc S r
def zdA (ρ:(i:Nat)→XS i) (f:Nat→Bool):List (E3 XS)→List (Nat×Value)
 | []=>[]
 | x :: r=>match x.d with
  | some d=>bif f x.i then(d,x.V ρ) :: zdA ρ f r else zdA ρ f r
  | none=>zdA ρ f r
def lk3:List (E3 XS)→Nat→Option (((i:Nat)→XS i)→Value)
 | [],_=>none
 | x :: r,j=>bif Nat.beq x.i j&&x.d.isSome then some x.V else lk3 r j
theorem zbN {ρ ρ':(i:Nat)→XS i} {done done':Nat→Bool} {j:Nat}:∀ (S:List (E3 XS)),(∀ x∈S,tIs x.t j=true→done x.i=done' x.i∧(done x.i=true→x.A ρ=x.A ρ'))→zbe ρ done j S=zbe ρ' done' j S
 | [],_=>rfl
 | x :: r,h=>by
  have ih:=zbN r (λ y hy=>h y (mM _ hy))
  unfold zbe
  cases ht:tIs x.t j with
  | false=>simpa using ih
  | true=>
   obtain⟨h1,h2⟩:=h x (mS ..) ht
   rw [←h1]
   cases hd:done x.i with
   | false=>simpa using ih
   | true=>simp [h2 hd]
theorem zb0 {ρ:(i:Nat)→XS i} {done:Nat→Bool} {j:Nat}:∀ (q S:List (E3 XS)),(∀ x∈q,tIs x.t j=true→done x.i=false)→zbe ρ done j (q++S)=zbe ρ done j S
 | [],_,_=>rfl
 | x :: q,S,h=>by
  have ih:=zb0 (ρ:=ρ) q S (λ y hy=>h y (mM _ hy))
  show(bif tIs x.t j&&done x.i then some (x.A ρ) else zbe ρ done j (q++S))=_
  cases ht:tIs x.t j with
  | false=>simpa using ih
  | true=>rw [h x (mS ..) ht];simpa using ih
theorem zgb {ρ:(i:Nat)→XS i} {done:Nat→Bool} {j:Nat} {R:Res}:∀ (S:List (E3 XS)),zbe ρ done j S=some R→∃ x∈S,tIs x.t j=true∧done x.i=true
 | [],h=>by cases h
 | x :: r,h=>by
  change (bif tIs x.t j&&done x.i then some (x.A ρ) else zbe ρ done j r)=some R at h
  cases hb:tIs x.t j&&done x.i with
  | true=>
   rw [aT] at hb
   exact⟨x,mS ..,hb⟩
  | false=>
   rw [hb] at h
   obtain⟨y,hy,h2⟩:=zgb r h
   exact⟨y,mM _ hy,h2⟩
theorem zfm {rc:Nat→Bool} {j:Nat}:∀ (S:List (E3 XS)),okSt rc j S=true→∀ x∈S,tIs x.t j=true→rc x.i=true
 | [],_,_,hx,_=>by cases hx
 | y :: r,h,x,hx,ht=>by
  simp only [okSt,aT] at h
  rcases List.mem_cons.1 hx with rfl|hx
  ·have:=h.1
   rw [ht] at this
   simpa using this
  ·exact zfm r h.2 x hx ht
theorem zez {ρ:(i:Nat)→XS i} {f:Nat→Bool} {t:Nat} {v:Value} {T:List (Nat×Value)}:∀ (S:List (E3 XS)),lk (zdA ρ f S++T) t=some v→(∃ x∈S,x.d=some t∧f x.i=true∧v=x.V ρ)∨lk T t=some v
 | [],h=>.inr h
 | x :: r,h=>by
  have rest:lk (zdA ρ f r++T) t=some v→(∃ y∈x :: r,y.d=some t∧f y.i=true∧v=y.V ρ)∨lk T t=some v:=λ h=>by
   rcases zez r h with ⟨y,hy,h2⟩|h2
   ·exact .inl ⟨y,mM _ hy,h2⟩
   ·exact .inr h2
  unfold zdA at h
  cases hd:x.d with
  | none=>rw [hd] at h;exact rest h
  | some d=>
   rw [hd] at h
   cases hf:f x.i with
   | false=>rw [hf] at h;exact rest h
   | true=>
    rw [hf] at h
    simp only [cond_true,List.cons_append] at h
    by_cases hdt:d=t
    ·subst hdt
     rw [zcR,sI] at h
     exact .inl ⟨x,mS ..,hd,hf,h.symm⟩
    ·rw [zdb hdt] at h;exact rest h
theorem zmj:∀ (S:List (E3 XS)) (j:Nat) V,lk3 S j=some V→∃ x∈S,x.i=j∧x.d.isSome=true∧x.V=V
 | [],_,_,h=>by cases h
 | x :: r,j,V,h=>by
  change (bif Nat.beq x.i j&&x.d.isSome then some x.V else lk3 r j)=some V at h
  cases hb:Nat.beq x.i j&&x.d.isSome with
  | true=>
   rw [hb] at h
   rw [aT] at hb
   simp only [cond_true,sI] at h
   exact⟨x,mS ..,Nat.eq_of_beq_eq_true hb.1,hb.2,h⟩
  | false=>
   rw [hb] at h
   obtain⟨y,hy,h2⟩:=zmj r j V h
   exact⟨y,mM _ hy,h2⟩
theorem zgL {ρ:(i:Nat)→XS i} {rc:Nat→Bool} {S:List (E3 XS)} {G:Nat→Option Res} (hG:∀ j,okSt rc j S=true→(∃ x∈S,x.i=j∧tIs x.t x.i=true)→∀ R,zbe ρ rc j S=some R→G j=some R) :
  ∀ (L:List (E3 XS)),(∀ x∈L,x∈S)→(L.map (·.i)).Nodup→∃ js,(∀ j∈js,j∈L.map (·.i))∧js.Nodup∧F2 (λ j R=>G j=some R) js (zeS ρ rc S L)
 | [],_,_=>⟨[],λ _ h=>h,List.nodup_nil,trivial⟩
 | x :: r,hs,hn=>by
  rw [List.map_cons,List.nodup_cons] at hn
  obtain⟨js,h1,h2,h3⟩:=zgL hG r (λ y hy=>hs y (mM _ hy)) hn.2
  have h1':∀ j∈js,j∈(x :: r).map (·.i):=λ j hj=>mM _ (h1 j hj)
  unfold zeS
  cases hb:tIs x.t x.i&&okSt rc x.i S with
  | false=>exact⟨js,h1',h2,h3⟩
  | true=>
   rw [aT] at hb
   simp only [cond_true]
   cases hsl:zbe ρ rc x.i S with
   | none=>exact⟨js,h1',h2,h3⟩
   | some R=>
    refine⟨x.i :: js,λ j hj=>?_,List.nodup_cons.2 ⟨λ hm=>hn.1 (h1 _ hm),h2⟩,hG x.i hb.2 ⟨x,hs x (mS ..),rfl,hb.1⟩ R hsl,h3⟩
    rcases List.mem_cons.1 hj with rfl|hj
    ·exact mS ..
    ·exact h1' j hj
def Loc3 (ms:List Nat) (x:E3 XS):Prop:=∀ ρ ρ':(i:Nat)→XS i,(∀ j,(rcf ms x.i j=true∨j=x.i)→ρ j=ρ' j)→x.V ρ=x.V ρ'∧x.A ρ=x.A ρ'
def Go3 (c:Cx) (ds:List Deferred) (pre:List Oper) (ms:List Nat) (T0:List (Nat×Value)) (H:List Res) (i:Nat) (o:Oper) (S:List (E3 XS)) (x:E3 XS):Prop:=
 (x.t=none∧x.d.isSome=true∧∀ ρ:(i:Nat)→XS i,Y c ds (zeS ρ (rcf ms i) S S++H) (zdA ρ (zaT o) S++zcl pre i T0) o (x.V ρ)) ∨
 (x.t=some i∧x.d.isSome=true∧∃ (V:((i:Nat)→XS i)→XS i→Value) (A:((i:Nat)→XS i)→XS i→Res),(∀ ρ,x.V ρ=V ρ (ρ i))∧(∀ ρ,x.A ρ=A ρ (ρ i)) ∧
  (∀ ρ ρ':(i:Nat)→XS i,(∀ j,rcf ms i j=true→ρ j=ρ' j)→V ρ=V ρ'∧A ρ=A ρ') ∧
  ∀ ρ:(i:Nat)→XS i,YX c ds (zeS ρ (rcf ms i) S S++H) (zdA ρ (zaT o) S++zcl pre i T0) o (V ρ) (A ρ)) ∨
 (x.d=none∧∃ j,x.t=some j∧rcf ms i j=true∧((List.range i).all λ r=>!rcf ms r j||rcf ms i r)=true ∧
  ∀ ρ:(i:Nat)→XS i,∃ R,zbe ρ (rcf ms i) j S=some R∧zfW c ds (zdA ρ (zaT o) S++zcl pre i T0) H o R (x.A ρ))
def zdR:List (Option Nat)→Bool
 | []=>true
 | some d :: r=>r.all (λ x=>match x with|some e=>!Nat.beq d e|none=>true)&&zdR r
 | none :: r=>zdR r
def zeY (n:Nat) (pre suf:List Oper) (ms:List Nat):Bool:=
 zb8 0 (pre++suf)&&zkb (pre++suf)&&zdR (dsts pre)&&pre.all (λ o=>zhp o.dst n) &&
 (suf.isEmpty||((List.range pre.length).all λ j=>rcf ms pre.length j))&&zhL (pre++suf) pre.length&&okM (pre++suf) ms
theorem zef:∀ (l:List Oper),zdR (dsts l)=true→∀ (i j:Nat) (oi oj:Oper),l[i]?=some oi→l[j]?=some oj→i≠j→∀ d,oi.dst=some d→oj.dst≠some d
 | [],_,i,_,_,_,h,_,_,_,_=>by simp at h
 | x :: r,h,i,j,oi,oj,hi,hj,hij,d,hd=>by
  simp only [dsts,List.map_cons] at h
  have hrec:zdR (dsts r)=true:=by
   cases hx:x.dst with
   | none=>rw [hx] at h;exact h
   | some dx=>rw [hx] at h;simp only [zdR,aT] at h;exact h.2
  have hr:∀ dx,x.dst=some dx→∀ (k:Nat) o,r[k]?=some o→o.dst≠some dx:=λ dx hx k o hk he=>by
   rw [hx] at h
   simp only [zdR,aT] at h
   have:=List.all_eq_true.1 h.1 o.dst (List.mem_map.2 ⟨o,List.mem_of_getElem? hk,rfl⟩)
   rw [he] at this
   simp at this
  cases i with
  | zero=>
   simp only [List.getElem?_cons_zero,sI] at hi
   subst hi
   cases j with
   | zero=>exact absurd I hij
   | succ j=>exact hr d hd j oj (by simpa using hj)
  | succ i=>
   cases j with
   | zero=>
    simp only [List.getElem?_cons_zero,sI] at hj
    subst hj
    intro he
    exact hr d he i oi (by simpa using hi) hd
   | succ j=>exact zef r hrec i j oi oj (by simpa using hi) (by simpa using hj) (by omega) d hd
theorem zhm {ms:List Nat} {i j:Nat} (h:rcf ms i j=true):j<i:=by
 unfold rcf at h
 rw [aT] at h
 exact bL h.1
theorem zfI {ops:List Oper} {ms:List Nat} (hm:okM ops ms=true) (hb:zb8 0 ops=true) {listed:Array Bool} (hc:∀ (k:Nat) o,ops[k]?=some o→isOn listed k→∀ j,zaT o j=true→isOn listed j) :
  ∀ (i:Nat) (o:Oper),ops[i]?=some o→(∀ j,zaT o j=true→isOn listed j)→∀ j,rcf ms i j=true→isOn listed j:=by
 intro i
 induction i using Nat.strongRecOn with
 | _ i ih=>
  intro o ho hd j hj
  have hlt:i<ops.length:=(List.getElem?_eq_some_iff.1 ho).1
  have h1:=List.all_eq_true.1 (List.all_eq_true.1 hm i (List.mem_range.2 hlt)) j (List.mem_range.2 (zhm hj))
  rw [hj,ho] at h1
  simp only [Bool.not_true,Bool.false_or,List.any_eq_true,aT,Bool.or_eq_true] at h1
  obtain⟨e,he,hbe,h2⟩:=h1
  have hon:zaT o e.on=true:=by
   unfold zaT
   rw [List.any_eq_true]
   exact⟨e,he,by rw [hbe,Nat.beq_refl];rfl⟩
  have hlist:=hd e.on hon
  rcases h2 with h2|h2
  ·rw [←Nat.eq_of_beq_eq_true h2];exact hlist
  ·have hei:e.on<i:=by have:=zbY ops 0 hb i o ho e.on hon;omega
   have hel:e.on<ops.length:=by omega
   exact ih e.on hei ops[e.on] (by simp [hel]) (λ k hk=>hc e.on ops[e.on] (by simp [hel]) hlist k hk) j h2
end
abbrev onF (listed:Array Bool):Nat→Bool:=λ k=>listed.getD k false
section
variable {XS:Nat→Type} {c:Cx} {ds:List Deferred} {p:Post} {ops pre suf:List Oper} {T0:List (Nat×Value)} {H:List Res} {S:List (E3 XS)} {listed:Array Bool} {a:Act} {w:World} {ms:List Nat}
theorem zfn {l:Array Bool} {i:Nat} (hi:i<l.size) (j:Nat):onF (l.setIfInBounds i true) j=(Nat.beq j i||onF l j):=by
 have h:=zbt hi j
 unfold isOn at h
 unfold onF
 cases h1:(l.setIfInBounds i true).getD j false with
 | true=>
  rcases h.1 h1 with rfl|h2
  ·simp
  ·rw [h2];simp
 | false=>
  have h2:¬ (j=i∨l.getD j false=true):=λ h3=>by rw [h.2 h3] at h1;cases h1
  have h3:Nat.beq j i=false:=by
   cases hb:Nat.beq j i with
   | false=>rfl
   | true=>exact absurd (.inl (Nat.eq_of_beq_eq_true hb)) h2
  have h4:l.getD j false=false:=by
   cases hb:l.getD j false with
   | false=>rfl
   | true=>exact absurd (.inr hb) h2
  rw [h3,h4];rfl
theorem zem (hI:∀ (k:Nat) (o:Oper),ops[k]?=some o→isOn listed k→∀ j,zaT o j=true→isOn listed j) {i:Nat} {o:Oper} (ho:ops[i]?=some o) (hil:i<listed.size) (hclo:∀ j,zaT o j=true→isOn listed j) :
  ∀ (k:Nat) (o:Oper),ops[k]?=some o→isOn (listed.setIfInBounds i true) k→∀ j,zaT o j=true→isOn (listed.setIfInBounds i true) j:=by
 have hon:∀ j,isOn (listed.setIfInBounds i true) j↔j=i∨isOn listed j:=zbt hil
 intro k ok hk honk j hj
 rcases(hon k).1 honk with rfl|hk'
 ·rw [ho] at hk;cases hk
  exact(hon j).2 (.inr (hclo j hj))
 ·exact(hon j).2 (.inr (hI k ok hk hk' j hj))
theorem zcq {t:Option Nat} {j:Nat}:tIs t j=true↔t=some j:=by
 unfold tIs
 cases t with
 | none=>simp
 | some k=>exact⟨λ h=>by rw [Nat.eq_of_beq_eq_true h],λ h=>by rw [Option.some.inj h];exact Nat.beq_refl _⟩
theorem ztX {i:Nat} {o:Oper} {S':List (E3 XS)} {x:E3 XS} (h:Go3 c ds pre ms T0 H i o S' x) (hxi:x.i=i):∀ j,x.t=some j→j≠x.i→rcf ms x.i j=true∧∀ r,r<x.i→rcf ms r j=true→rcf ms x.i r=true:=by
 intro j hj hne
 rcases h with ⟨ht,_⟩ | ⟨ht,_⟩ | ⟨_,j',ht,h1,h2,_⟩
 ·rw [ht] at hj;cases hj
 ·rw [ht,sI] at hj;exact absurd (hj.symm.trans hxi.symm) hne
 ·rw [ht,sI] at hj
  subst hj
  rw [hxi]
  refine⟨h1,λ r hr hrj=>?_⟩
  have:=List.all_eq_true.1 h2 r (List.mem_range.2 hr)
  rw [hrj] at this
  simpa using this
end
section
variable {XS:Nat→Type} {c:Cx} {ds:List Deferred} {pre:List Oper} {ms:List Nat} {T0:List (Nat×Value)} {H:List Res} {K:List (E3 XS)→Prop} {i d:Nat} {r:List Oper} {S:List (E3 XS)} {op:Op} {ty:TypeId} {ps:String} {af:Array Edge}
abbrev zkB (XS:Nat→Type) (ms:List Nat) (i:Nat) (ρ ρ':(i:Nat)→XS i):Prop:=∀ j,rcf ms i j=true→ρ j=ρ' j
end
def AllN:List (Nat×Type)→Prop
 | []=>True
 | (_,T) :: r=>Nonempty T∧AllN r
theorem zjK (l:List (Nat×Type)) (h:AllN l):Nonempty ((i:Nat)→ch l i):=by
 have key:∀ (l:List (Nat×Type)),AllN l→∀ i,Nonempty (ch l i):=by
  intro l
  induction l with
  | nil=>intro _ _;exact⟨()⟩
  | cons x r ih=>
   intro h i
   unfold ch
   cases Nat.beq x.1 i with
   | true=>exact h.1
   | false=>exact ih h.2 i
 exact⟨λ i=>Classical.choice (key l h i)⟩
theorem zf4 {c:Cx} {ds:List Deferred} {K:Act→World→Prop} {T:List (Nat×Value)} {H:List Res} {X:Type} (x:X) (T':X→List (Nat×Value)) (H':X→List Res) (hs:sub (T' x) T) (hH:H=H' x) (h:∀ x,GK c ds K (T' x) (H' x)):GK c ds K T H:=by
 subst hH;exact zae hs (h x)
theorem zpT {c:Cx} {ds:List Deferred} {K:Act→World→Prop} {T T':List (Nat×Value)} {H H':List Res} (hs:sub T' T) (hH:H=H') (h:GK c ds K T' H'):GK c ds K T H:=by
 subst hH;exact zae hs h
abbrev onB (N:Nat) (listed:Array Bool):Nat→Bool:=λ k=>Nat.ble N k||onF listed k
structure Inv4 {XS:Nat→Type} (c:Cx) (ds:List Deferred) (ops pre:List Oper) (T0:List (Nat×Value)) (H:List Res) (S:List (E3 XS)) (N:Nat) (listed:Array Bool) (a:Act) (w:World):Prop where
 base:Base c.U c.w0 w
 size:a.tmps.size=c.n
 defers:a.defers=ds
 closed:∀ (k:Nat) (o:Oper),ops[k]?=some o→isOn listed k→∀ j,zaT o j=true→isOn listed j
 old:∀ s v,lk T0 s=some v→(∀ (i:Nat) (o:Oper),pre[i]?=some o→isOn listed i→o.dst≠some s)→a.tmps[s]?=some v
 fam:∃ (ρ:(i:Nat)→XS i) (B:Nat→Nat→Prop),(∀ x∈S,isOn listed x.i→∀ d,x.d=some d→a.tmps[d]?=some (x.V ρ))∧Slots c H (λ j=>zbe ρ (onB N listed) j S) B w
section
variable {XS:Nat→Type} {c:Cx} {ds:List Deferred} {p:Post} {ops pre suf:List Oper} {T0:List (Nat×Value)} {H:List Res} {S:List (E3 XS)} {listed:Array Bool} {a:Act} {w:World} {ms:List Nat} {N:Nat}
theorem ziu {N i:Nat} {l:Array Bool} (h:i<N) (hn:¬ isOn l i):onB N l i=false:=by
 unfold isOn at hn
 have h1:Nat.ble N i=false:=by
  cases hb:Nat.ble N i with
  | false=>rfl
  | true=>have:=bL hb;omega
 show(Nat.ble N i||l.getD i false)=false
 rw [h1];simpa using hn
theorem zqk {N i:Nat} {l:Array Bool} (h:isOn l i):onB N l i=true:=by
 show(Nat.ble N i||l.getD i false)=true
 unfold isOn at h
 rw [h,Bool.or_true]
theorem zkd {N i:Nat} {l:Array Bool} (h:N≤i):onB N l i=true:=by
 show(Nat.ble N i||l.getD i false)=true
 rw [Nat.ble_eq_true_of_le h];rfl
theorem zhA {N i:Nat} {l:Array Bool} (h:i<N) (ho:onB N l i=true):isOn l i:=Classical.byContradiction λ hn=>by rw [ziu h hn] at ho;cases ho
theorem zeh {N:Nat} {l:Array Bool} {i:Nat} (hi:i<l.size) (j:Nat):onB N (l.setIfInBounds i true) j=(Nat.beq j i||onB N l j):=by
 show(Nat.ble N j||onF (l.setIfInBounds i true) j)=(Nat.beq j i||(Nat.ble N j||onF l j))
 rw [zfn hi]
 cases Nat.ble N j <;> cases Nat.beq j i <;> rfl
def zeU {XS:Nat→Type} (N:Nat):Nat→List Res→List (E3 XS)
 | _,[]=>[]
 | k,R :: r=>⟨N+k,none,some (N+k),λ _=>undef,λ _=>R⟩ :: zeU N (k+1) r
theorem zel {XS:Nat→Type} {N:Nat}:∀ {Hb:List Res} {k:Nat} {x:E3 XS},x∈zeU N k Hb→N+k≤x.i∧x.d=none∧x.t=some x.i∧∀ ρ ρ':(i:Nat)→XS i,x.A ρ=x.A ρ'
 | [],_,_,h=>by cases h
 | R :: r,k,x,h=>by
  rcases List.mem_cons.1 h with rfl|h'
  ·exact⟨Nat.le_refl _,rfl,rfl,λ _ _=>rfl⟩
  ·obtain⟨h1,h2⟩:=zel h'
   exact⟨by omega,h2⟩
theorem zmW {XS:Nat→Type} {N:Nat}:∀ (Hb:List Res) (k:Nat),((zeU (XS:=XS) N k Hb).map (·.i)).Nodup
 | [],_=>List.nodup_nil
 | R :: r,k=>by
  show(((N+k) :: (zeU (XS:=XS) N (k+1) r).map (·.i))).Nodup
  refine List.nodup_cons.2 ⟨λ h=>?_,zmW r (k+1)⟩
  obtain⟨x,hx,he⟩:=List.mem_map.1 h
  have:=(zel hx).1
  omega
structure zCC (c:Cx) (ds:List Deferred) (T:List (Nat×Value)) (H:List Res) (st:Oper) (R:Res) {Z:Type} (V:Z→Value) (A:Z→Res):Prop where
 run:∀ a w B,Sat c.n T ds a→Hp c.U c.w0 H w→(∀ k,B k→k<w.heap.size)→R.A B w→Yld c.P st a w (λ v w'=>∃ z,v=V z∧Mod B w w'∧∃ B',Own B B' w w'∧(A z).A B' w')
structure Ents4 (N:Nat) (ms:List Nat) (pre:List Oper) (S:List (E3 XS)):Prop where
 nd:(S.map (·.i)).Nodup
 op:∀ x∈S,x.i<N→∃ o,pre[x.i]?=some o∧o.dst=x.d
 bs:∀ x∈S,N≤x.i→x.d=none∧x.t=some x.i∧∀ ρ ρ':(i:Nat)→XS i,x.A ρ=x.A ρ'
 loc:∀ x∈S,x.i<N→Loc3 ms x
 sto:∀ x∈S,∀ j,x.t=some j→j≠x.i→x.i<N∧((j<N∧rcf ms x.i j=true∧∀ r,r<x.i→rcf ms r j=true→rcf ms x.i r=true)∨(N≤j∧∀ y∈S,y.t=some j→y.i<x.i→rcf ms x.i y.i=true))
theorem Ents4.uniq (h:Ents4 N ms pre S):∀ x∈S,∀ y∈S,x.i=y.i→x=y:=by
 have key:∀ (L:List (E3 XS)),(L.map (·.i)).Nodup→∀ x∈L,∀ y∈L,x.i=y.i→x=y:=by
  intro L
  induction L with
  | nil=>intro _ x hx;cases hx
  | cons z r ih=>
   intro hn x hx y hy hxy
   simp only [List.map_cons,List.nodup_cons] at hn
   rcases List.mem_cons.1 hx with rfl|hx' <;> rcases List.mem_cons.1 hy with rfl|hy'
   ·rfl
   ·exact absurd (List.mem_map.2 ⟨y,hy',hxy.symm⟩) hn.1
   ·exact absurd (List.mem_map.2 ⟨x,hx',hxy⟩) hn.1
   ·exact ih hn.2 x hx' y hy' hxy
 exact key S h.nd
theorem Inv4.sat (hI:Inv4 c ds ops pre T0 H S N listed a w) {ρ:(i:Nat)→XS i} (hv:∀ x∈S,isOn listed x.i→∀ d,x.d=some d→a.tmps[d]?=some (x.V ρ)) {i:Nat} (hpre:∀ (k:Nat) o,pre[k]?=some o→ops[k]?=some o) (hun:¬ isOn listed i)
  {o:Oper} (hclo:∀ j,zaT o j=true→isOn listed j) {S':List (E3 XS)} (hS:∀ x∈S',x∈S):Sat c.n (zdA ρ (zaT o) S' ++ zcl pre i T0) ds a:=by
 refine⟨hI.size,λ t v h=>?_,hI.defers⟩
 rcases zez S' h with ⟨x,hx,hd,hb,rfl⟩|h
 ·exact hv x (hS x hx) (hclo _ hb) t hd
 ·rw [zhu] at h
  obtain⟨h1,h2⟩:=zcD (λ s=>pre.all (λ f=>(match f.dst with|some d=>!Nat.beq d s|none=>true)||zaT f i)) T0 _ (λ _ _ _ _=>trivial) I t v h
  refine hI.old t v h1 λ k o hk hon hd=>?_
  rw [List.all_eq_true] at h2
  have h3:=h2 o (List.mem_of_getElem? hk)
  rw [hd] at h3
  simp only [Nat.beq_refl,Bool.not_true,Bool.false_or] at h3
  exact hun (hI.closed k o (hpre k o hk) hon i h3)
theorem Inv4.shown (hI:Inv4 c ds ops pre T0 H S N listed a w) (hE:Ents4 N ms pre S) {ρ:(i:Nat)→XS i} {B:Nat→Nat→Prop} (hs:Slots c H (λ j=>zbe ρ (onB N listed) j S) B w) {i:Nat} (hun:¬ isOn listed i)
  (hrc:∀ j,rcf ms i j=true→isOn listed j) (hrcl:∀ k,isOn listed k→∀ j,rcf ms k j=true→isOn listed j) {q S':List (E3 XS)} {x:E3 XS} (hxi:x.i=i) (hq:S=q++x :: S') (hgt:∀ y∈q,i<y.i) (hqN:∀ y∈q,y.i<N) (hxN:i<N) :
  Hp c.U c.w0 (zeS ρ (rcf ms i) S' S' ++ H) w∧∀ j,okSt (rcf ms i) j S' = true→rcf ms i j=true→zbe ρ (rcf ms i) j S' = zbe ρ (onB N listed) j S:=by
 have heq:∀ j,okSt (rcf ms i) j S' = true→rcf ms i j=true→zbe ρ (rcf ms i) j S' = zbe ρ (onB N listed) j S:=λ j hok hij=>by
  have h1:zbe ρ (onB N listed) j S=zbe ρ (onB N listed) j S':=by
   rw [hq]
   have e:q++x :: S' = (q++[x])++S':=by simp
   rw [e]
   refine zb0 (q++[x]) S' λ y hy ht=>?_
   have hyS:y∈S:=by rw [hq,e];exact List.mem_append_left _ hy
   have hoff:¬ isOn listed y.i:=λ hon=>by
    rcases List.mem_append.1 hy with hy'|hy'
    ·have hgt':=hgt y hy'
     have hji:=zhm hij
     rcases(hE.sto y hyS j (zcq.1 ht) (by omega)).2 with ⟨_,_,h2⟩ | ⟨hN,_⟩
     ·exact hun (hrcl _ hon i (h2 i hgt' hij))
     ·omega
    ·rw [List.mem_singleton.1 hy',hxi] at hon
     exact hun hon
   refine ziu ?_ hoff
   rcases List.mem_append.1 hy with hy'|hy'
   ·exact hqN y hy'
   ·rw [List.mem_singleton.1 hy',hxi];exact hxN
  rw [h1]
  refine zbN S' λ y hy ht=>?_
  have h2:=zfm S' hok y hy ht
  have h3:=hrc _ h2
  exact⟨by rw [h2,zqk h3],λ _=>rfl⟩
 refine⟨⟨hI.base,?_⟩,heq⟩
 have hnd:(S'.map (·.i)).Nodup:=by
  have:=hE.nd
  rw [hq,List.map_append,List.nodup_append] at this
  have:=this.2.1
  rw [List.map_cons,List.nodup_cons] at this
  exact this.2
 obtain⟨js,_,h2,h3⟩:=zgL (ρ:=ρ) (rc:=rcf ms i) (S:=S') (G:=λ j=>zbe ρ (onB N listed) j S) (λ j hok hex R hR=>by
  obtain⟨y,hy,hyj,ht⟩:=hex
  have:rcf ms i j=true:=zfm S' hok y hy (by rw [←hyj];exact ht) |> (hyj ▸ ·)
  rw [←heq j hok this];exact hR) S' (λ _ h=>h) hnd
 exact hs.holds js _ h3 h2
theorem Inv4.put (hI:Inv4 c ds ops pre T0 H S N listed a w) (hE:Ents4 N ms pre S) {i d:Nat} {o:Oper} {x:E3 XS} (hx:x∈S) (hxi:x.i=i) (hp:pre[i]?=some o) (ho:ops[i]?=some o) (hil:i<listed.size) (hd:o.dst=some d) (hxd:x.d=some d)
  (hdist:∀ j oj,pre[j]?=some oj→j≠i→oj.dst≠some d) (hn:d<c.n) (hclo:∀ j,zaT o j=true→isOn listed j) {w':World} {v:Value} (hb:Base c.U c.w0 w') {ρ':(i:Nat)→XS i} {B':Nat→Nat→Prop}
  (hv:v=x.V ρ') (hold:∀ y∈S,isOn listed y.i→y.i≠i→∀ d',y.d=some d'→a.tmps[d']?=some (y.V ρ')) (hs:Slots c H (λ j=>zbe ρ' (onB N (listed.setIfInBounds i true)) j S) B' w') :
  Inv4 c ds ops pre T0 H S N (listed.setIfInBounds i true) (a.put (some d) v) w':=by
 have hon:∀ j,isOn (listed.setIfInBounds i true) j↔j=i∨isOn listed j:=zbt hil
 have hput:∀ t u,t≠d→a.tmps[t]?=some u→(a.put (some d) v).tmps[t]?=some u:=λ t u ht hu=>by
  simp only [Act.put]
  rw [Array.getElem?_setIfInBounds_ne (Ne.symm ht)];exact hu
 refine⟨hb,by simp [Act.put,hI.size],hI.defers,zem hI.closed ho hil hclo,?_,ρ',B',?_,hs⟩
 ·intro s u hs' hno
  have hsd:s≠d:=λ h=>hno i o hp ((hon i).2 (.inl I)) (by rw [hd,h])
  exact hput s u hsd (hI.old s u hs' (λ k ok hk hlk=>hno k ok hk ((hon k).2 (.inr hlk))))
 ·intro y hy hoy d' hd'
  by_cases hyi:y.i=i
  ·have:y=x:=hE.uniq y hy x hx (hyi.trans hxi.symm)
   subst this
   rw [hxd,sI] at hd'
   subst hd'
   simp [Act.put,hI.size,hn,hv]
  ·have hly:isOn listed y.i:=((hon y.i).1 hoy).resolve_left hyi
   refine hput d' _ ?_ (hold y hy hly hyi d' hd')
   intro hdd
   obtain⟨oy,hoy',hdy⟩:=hE.op y hy (Nat.lt_of_not_le λ h=>by rw [(hE.bs y hy h).1] at hd';cases hd')
   exact hdist y.i oy hoy' hyi (by rw [hdy,hd',hdd])
def Sto4 (N:Nat) (ms:List Nat) (S':List (E3 XS)) (x:E3 XS):Prop:=∀ j,x.t=some j→j≠x.i→(j<N∧rcf ms x.i j=true∧∀ r,r<x.i→rcf ms r j=true→rcf ms x.i r=true)∨(N≤j∧∀ y∈S',y.t=some j→y.i<N→rcf ms x.i y.i=true)
theorem zrB (hI:Inv4 c ds ops pre T0 H S N listed a w) {ρ:(i:Nat)→XS i} (hv:∀ x∈S,isOn listed x.i→∀ d,x.d=some d→a.tmps[d]?=some (x.V ρ)) (hall:∀ x∈S,∀ d,x.d=some d→isOn listed x.i):Sat c.n (zdA ρ (λ _=>true) S++zd3 pre T0) ds a:=by
 refine⟨hI.size,λ t v h=>?_,hI.defers⟩
 rcases zez S h with ⟨x,hx,hd,_,rfl⟩|h
 ·exact hv x hx (hall x hx t hd) t hd
 ·rw [zeI] at h
  obtain⟨h1,h2⟩:=zcD (λ s=>pre.all (λ f=>match f.dst with|some d=>!Nat.beq d s|none=>true)) T0 _ (λ _ _ _ _=>trivial) I t v h
  refine hI.old t v h1 λ k o hk _ hd=>?_
  rw [List.all_eq_true] at h2
  have h3:=h2 o (List.mem_of_getElem? hk)
  rw [hd] at h3
  simp at h3
theorem zju {N:Nat} {listed:Array Bool} {ρ:(i:Nat)→XS i} {w:World}:∀ (Hb:List Res) (k:Nat) (G:Nat→Option Res) (B:Nat→Nat→Prop),Slots c (Hb++H) G B w→(∀ j,N+k≤j→G j=none) →
  ∃ B',Slots c H (λ j=>match zbe ρ (onB N listed) j (zeU N k Hb) with|some R=>some R|none=>G j) B' w
 | [],k,G,B,h,_=>⟨B,h⟩
 | R :: r,k,G,B,h,hG=>by
  obtain⟨C,hC,hA,hr⟩:=h.out
  have h2:Slots c (r++H) (λ j=>if j=N+k then some R else G j) (λ j=>if j=N+k then C else B j) w:=by
   refine⟨λ j S hj=>?_,λ a b ha hb hab x hx1 hx2=>?_,?_⟩
   ·by_cases e:j=N+k
    ·simp only [if_pos e,sI] at hj ⊢
     subst hj
     exact⟨hA,λ x hx=>⟨λ hu=>(hC x hx).1 (.inl hu),(hC x hx).2⟩⟩
    ·simp only [if_neg e] at hj ⊢
     exact h.own j S hj
   ·by_cases ea:a=N+k
    ·have eb:b≠N+k:=λ e=>hab (ea.trans e.symm)
     simp only [if_pos ea] at hx1
     simp only [if_neg eb] at hb hx2
     exact(hC x hx1).1 (.inr ⟨b,hb,hx2⟩)
    ·simp only [if_neg ea] at ha hx1
     by_cases eb:b=N+k
     ·simp only [if_pos eb] at hx2
      exact(hC x hx2).1 (.inr ⟨a,ha,hx1⟩)
     ·simp only [if_neg eb] at hb hx2
      exact h.dis a b ha hb hab x hx1 hx2
   ·refine Holds.anti _ ?_ hr
    rintro x (hu | ⟨j,hj,hx⟩)
    ·exact .inl (.inl hu)
    ·by_cases e:j=N+k
     ·simp only [if_pos e] at hx
      exact .inr hx
     ·simp only [if_neg e] at hj hx
      exact .inl (.inr ⟨j,hj,hx⟩)
  obtain⟨B',h3⟩:=zju (ρ:=ρ) (listed:=listed) r (k+1) (λ j=>if j=N+k then some R else G j) (λ j=>if j=N+k then C else B j) h2 (λ j (hj:N+(k+1)≤j)=>by
   show(if j=N+k then some R else G j)=none
   rw [if_neg (by omega)];exact hG j (by omega))
  refine⟨B',h3.congr λ j=>?_⟩
  show(match (bif tIs (some (N+k)) j&&onB N listed (N+k) then some R else zbe ρ (onB N listed) j (zeU N (k+1) r)) with|some R=>some R|none=>G j)=_
  rw [zkd (Nat.le_add_right N k),Bool.and_true]
  by_cases e:j=N+k
  ·subst e
   have h4:zbe ρ (onB N listed) (N+k) (zeU N (k+1) r)=none:=by
    cases hs:zbe ρ (onB N listed) (N+k) (zeU N (k+1) r) with
    | none=>rfl
    | some Q=>
     obtain⟨x,hx,hxt,_⟩:=zgb _ hs
     obtain⟨h5,_,h6,_⟩:=zel hx
     rw [zcq,h6,sI] at hxt
     omega
   rw [h4,zcq.2 I]
   simp
  ·have h4:tIs (some (N+k)) j=false:=by
    cases hb:tIs (some (N+k)) j with
    | false=>rfl
    | true=>exact absurd (Option.some.inj (zcq.1 hb)).symm e
   rw [h4]
   simp [e]
end
def rdOk (rd:List (Nat×Nat)) (ms:List Nat) (i j:Nat):Bool:=rd.all λ q=>!Nat.beq q.2 j||rcf ms i q.1
section
variable {XS:Nat→Type}
def Go5 (N:Nat) (rd:List (Nat×Nat)) (c:Cx) (ds:List Deferred) (pre:List Oper) (ms:List Nat) (T0:List (Nat×Value)) (H:List Res) (i:Nat) (o:Oper) (S:List (E3 XS)) (x:E3 XS):Prop:=
 Go3 c ds pre ms T0 H i o S x ∨
 (x.d=none∧∃ j,x.t=some j∧Nat.ble N j=true∧(S.all λ y=>!tIs y.t j||(Nat.ble N y.i||rcf ms i y.i))=true∧rdOk rd ms i j=true ∧
  ∀ ρ:(i:Nat)→XS i,∃ R,zbe ρ (λ k=>Nat.ble N k||rcf ms i k) j S=some R∧zfW c ds (zdA ρ (zaT o) S++zcl pre i T0) H o R (x.A ρ)) ∨
 (x.d.isSome=true∧∃ j,x.t=some j∧Nat.ble N j=true∧(S.all λ y=>!tIs y.t j||(Nat.ble N y.i||rcf ms i y.i))=true∧rdOk rd ms i j=true∧∃ (V:XS i→Value) (A:XS i→Res),(∀ ρ,x.V ρ=V (ρ i))∧(∀ ρ,x.A ρ=A (ρ i)) ∧
  ∀ ρ:(i:Nat)→XS i,∃ R,zbe ρ (λ k=>Nat.ble N k||rcf ms i k) j S=some R∧zCC c ds (zdA ρ (zaT o) S++zcl pre i T0) (zeS ρ (rcf ms i) S S++H) o R V A) ∨
 (x.t=none∧x.d.isSome=true∧∃ j,rd.any (λ q=>Nat.beq q.1 i&&Nat.beq q.2 j)=true∧Nat.ble N j=true∧(S.all λ y=>!tIs y.t j||Nat.ble N y.i)=true ∧
  ∀ ρ:(i:Nat)→XS i,∃ R,zbe ρ (λ k=>Nat.ble N k) j S=some R∧Y c ds (R :: H) (zdA ρ (zaT o) S++zcl pre i T0) o (x.V ρ))
def Ob5 (N:Nat) (rd:List (Nat×Nat)) (c:Cx) (ds:List Deferred) (pre:List Oper) (ms:List Nat) (T0:List (Nat×Value)) (H:List Res) (i:Nat) (o:Oper) (S:List (E3 XS)) (x:E3 XS):Prop:=
 match o.guard with
 | none=>Go5 N rd c ds pre ms T0 H i o S x
 | some (j,want)=>(∃ V0,lk3 S j=some V0∧(∀ ρ,V0 ρ=.bool want)∧zaT o j=true∧Go5 N rd c ds pre ms T0 H i o S x) ∨
  ∃ (V0:((i:Nat)→XS i)→Value) (u0:Value) (q:Bool) (u:((i:Nat)→XS i)→Value),lk3 S j=some V0∧(∀ ρ,V0 ρ=u0)∧zaT o j=true∧(q=true↔u0=.bool want)∧x.t=none∧x.d.isSome=true ∧
   (∀ ρ,x.V ρ=if q=true then u ρ else undef)∧(q=true→∀ ρ:(i:Nat)→XS i,Y c ds (zeS ρ (rcf ms i) S S++H) (zdA ρ (zaT o) S++zcl pre i T0) o (u ρ))
def PH5 (N:Nat) (rd:List (Nat×Nat)) (c:Cx) (ds:List Deferred) (pre:List Oper) (ms:List Nat) (T0:List (Nat×Value)) (H:List Res) (K:List (E3 XS)→Prop):Nat→List Oper→List (E3 XS)→Prop
 | _,[],S=>K S
 | i,o :: r,S=>∃ x:E3 XS,x.i=i∧x.d=o.dst∧Loc3 ms x∧Ob5 N rd c ds pre ms T0 H i o S x∧PH5 N rd c ds pre ms T0 H K (i+1) r (x :: S)
end
structure zGN {XS:Nat→Type} (N:Nat) (rd:List (Nat×Nat)) (ms:List Nat) (pre:List Oper) (S:List (E3 XS)):Prop extends Ents4 N ms pre S where
 rdr:∀ x∈S,∀ j,x.t=some j→x.i<N→N≤j→rdOk rd ms x.i j=true
section
variable {XS:Nat→Type} {c:Cx} {ds:List Deferred} {p:Post} {ops pre suf:List Oper} {T0:List (Nat×Value)} {H:List Res} {S:List (E3 XS)} {listed:Array Bool} {a:Act} {w:World} {ms:List Nat} {N:Nat} {rd:List (Nat×Nat)}
theorem zEa {K:List (E3 XS)→Prop}:∀ (r:List Oper) (i:Nat) (Sa:List (E3 XS)),PH5 N rd c ds pre ms T0 H K i r Sa→∃ S,K S∧(∃ q,S=q++Sa∧q.map (·.i)=(List.range' i r.length).reverse) ∧
  ∀ (j:Nat) o,r[j]?=some o→∃ x S1,x.i=i+j∧x.d=o.dst∧Loc3 ms x∧Ob5 N rd c ds pre ms T0 H (i+j) o (S1++Sa) x∧∃ q,S=q++x :: (S1++Sa)
 | [],i,Sa,h=>⟨Sa,h,⟨[],rfl,rfl⟩,λ j o hj=>by simp at hj⟩
 | o :: r,i,Sa,h=>by
  obtain⟨x,hi,hd,hl,hO,hr⟩:=h
  obtain⟨S,hK,⟨q,hq,hq2⟩,hall⟩:=zEa r (i+1) _ hr
  refine⟨S,hK,⟨q++[x],by rw [hq];simp,?_⟩,?_⟩
  ·simp only [List.map_append,hq2,List.map_cons,List.map_nil,lC,List.range'_succ,List.reverse_cons,hi]
  ·intro j oj hj
   cases j with
   | zero=>
    simp only [List.getElem?_cons_zero,sI] at hj
    subst hj
    exact⟨x,[],hi,hd,hl,hO,q,hq⟩
   | succ j=>
    simp only [List.getElem?_cons_succ] at hj
    obtain⟨x',S1,h1,h2,h3,h4,q',h5⟩:=hall j oj hj
    have e:S1++x :: Sa=(S1++[x])++Sa:=by simp
    rw [e] at h4 h5
    exact⟨x',S1++[x],by omega,h2,h3,by rwa [show i+(j+1)=i+1+j from by omega],q',h5⟩
theorem zHh {i:Nat} {o:Oper} {S':List (E3 XS)} {x:E3 XS} (h:Go5 N rd c ds pre ms T0 H i o S' x) (hxi:x.i=i) (hN:i<N):Sto4 N ms S' x:=by
 have key:∀ j,x.t=some j→Nat.ble N j=true→(S'.all λ y=>!tIs y.t j||(Nat.ble N y.i||rcf ms i y.i))=true→Sto4 N ms S' x:=λ j ht h1 h2=>by
  intro j' hj hne
  rw [ht,sI] at hj
  subst hj
  refine .inr ⟨bL h1,λ y hy hyt hyN=>?_⟩
  have h3:=List.all_eq_true.1 h2 y hy
  rw [zcq.2 hyt] at h3
  have h4:Nat.ble N y.i=false:=by
   cases hb:Nat.ble N y.i with
   | false=>rfl
   | true=>have:=bL hb;omega
  rw [h4] at h3
  rw [hxi]
  simpa using h3
 rcases h with h | ⟨_,j,ht,h1,h2,_⟩ | ⟨_,j,ht,h1,h2,_⟩ | ⟨ht,_⟩
 ·intro j hj hne
  obtain⟨a,b⟩:=ztX h hxi j hj hne
  have:=zhm a
  exact .inl ⟨by omega,a,b⟩
 ·exact key j ht h1 h2
 ·exact key j ht h1 h2
 ·intro j hj;rw [ht] at hj;cases hj
theorem zHP {i:Nat} {o:Oper} {S':List (E3 XS)} {x:E3 XS} (h:Ob5 N rd c ds pre ms T0 H i o S' x) (hxi:x.i=i) (hN:i<N):Sto4 N ms S' x:=by
 unfold Ob5 at h
 cases hg:o.guard with
 | none=>rw [hg] at h;exact zHh h hxi hN
 | some gw=>
  rw [hg] at h
  rcases h with ⟨_,_,_,_,h⟩ | ⟨_,_,_,_,_,_,_,_,ht,_⟩
  ·exact zHh h hxi hN
  ·intro j hj;rw [ht] at hj;cases hj
theorem zHg {i:Nat} {o:Oper} {S':List (E3 XS)} {x:E3 XS} (h:Go5 N rd c ds pre ms T0 H i o S' x) (hxi:x.i=i) (hN:i<N) (j:Nat) (hj:x.t=some j) (hjN:N≤j):rdOk rd ms i j=true:=by
 rcases h with h | ⟨_,j',ht,_,_,h3,_⟩ | ⟨_,j',ht,_,_,h3,_⟩ | ⟨ht,_⟩
 ·by_cases hne:j=x.i
  ·omega
  ·have:=zhm (ztX h hxi j hj hne).1
   omega
 ·rw [ht,sI] at hj;subst hj;exact h3
 ·rw [ht,sI] at hj;subst hj;exact h3
 ·rw [ht] at hj;cases hj
theorem zHO {i:Nat} {o:Oper} {S':List (E3 XS)} {x:E3 XS} (h:Ob5 N rd c ds pre ms T0 H i o S' x) (hxi:x.i=i) (hN:i<N) (j:Nat) (hj:x.t=some j) (hjN:N≤j):rdOk rd ms i j=true:=by
 unfold Ob5 at h
 cases hg:o.guard with
 | none=>rw [hg] at h;exact zHg h hxi hN j hj hjN
 | some gw=>
  rw [hg] at h
  rcases h with ⟨_,_,_,_,h⟩ | ⟨_,_,_,_,_,_,_,_,ht,_⟩
  ·exact zHg h hxi hN j hj hjN
  ·rw [ht] at hj;cases hj
theorem zGz {S0 q0:List (E3 XS)} (hN:(pre++suf).length≤N) (hc:zeY c.n pre suf ms=true) (hE:zGN N rd ms pre S) (hS:S=q0++S0) (hS1:q0.map (·.i)=(List.range' 0 pre.length).reverse) (hS0:∀ x∈S0,N≤x.i)
  (hall:∀ (j:Nat) o,pre[j]?=some o→∃ (x:E3 XS) (S1:List (E3 XS)),x.i=0+j∧x.d=o.dst∧Loc3 ms x∧Ob5 N rd c ds pre ms T0 H (0+j) o (S1++S0) x∧∃ q,S=q++x :: (S1++S0))
  (hK:∀ ρ:(i:Nat)→XS i,GK c ds (KL c (pre++suf).toArray p suf) (zdA ρ (λ _=>true) S++zd3 pre T0) (zeS ρ (λ _=>true) S S++H)) :
  ∀ (fuel:Nat) (listed:Array Bool) (a:Act) (w:World),((List.range (pre++suf).length).filter (λ i=>!listed.getD i false)).length≤fuel→listed.size=(pre++suf).length →
   (∀ k,pre.length≤k→¬ isOn listed k)→Inv4 c ds (pre++suf) pre T0 H S N listed a w→wpAnyIn (FW c.r) 0 c.P .any (pre++suf).toArray p.Q fuel listed a w:=by
 simp only [zeY,aT] at hc
 obtain⟨⟨⟨⟨⟨⟨hback,hdef⟩,hdst⟩,hok⟩,hfirst⟩,hchain⟩,hmk⟩:=hc
 have hpre:∀ (k:Nat) o,pre[k]?=some o→(pre++suf)[k]?=some o:=λ k o h=>by
  have:=(List.getElem?_eq_some_iff.1 h).1
  rw [List.getElem?_append_left this];exact h
 have hpN:pre.length≤N:=by rw [lA] at hN;omega
 have hmem:∀ x∈S,x.i<pre.length∨N≤x.i:=λ x hx=>by
  rw [hS] at hx
  rcases List.mem_append.1 hx with hx|hx
  ·have hjm:x.i∈q0.map (·.i):=List.mem_map.2 ⟨_,hx,rfl⟩
   rw [hS1,List.mem_reverse,List.mem_range'_1] at hjm
   exact .inl (by omega)
  ·exact .inr (hS0 x hx)
 have fin:∀ (listed:Array Bool) (a:Act) (w:World),(∀ i,i<pre.length→isOn listed i)→Inv4 c ds (pre++suf) pre T0 H S N listed a w→KL c (pre++suf).toArray p suf a w:=by
  intro listed a w hallon hI
  obtain⟨ρ,B,hv,hs⟩:=hI.fam
  have hon:∀ x∈S,onB N listed x.i=true:=λ x hx=>(hmem x hx).elim (λ h=>zqk (hallon _ h)) zkd
  refine hK ρ a w (zrB hI hv λ x hx d hd=>hallon _ ((hmem x hx).resolve_right λ h=>by rw [(hE.bs x hx h).1] at hd;cases hd)) ⟨hI.base,?_⟩
  obtain⟨js,_,h2,h3⟩:=zgL (ρ:=ρ) (rc:=λ _=>true) (S:=S) (G:=λ j=>zbe ρ (onB N listed) j S) (λ j _ _ R hR=>by
   rw [←hR]
   exact zbN S λ y hy _=>⟨hon y hy,λ _=>rfl⟩) S (λ _ h=>h) hE.nd
  exact hs.holds js _ h3 h2
 intro fuel
 induction fuel with
 | zero=>
  intro listed a w hf hsz hsuf hI
  by_cases hallon:∀ i,i<pre.length→isOn listed i
  ·have hl:=fin listed a w hallon hI
   have h0:suf.length=0:=by
    rcases Nat.eq_zero_or_pos suf.length with h|h
    ·exact h
    ·exfalso
     have hmem:pre.length∈(List.range (pre++suf).length).filter (λ i=>!listed.getD i false):=by
      rw [List.mem_filter,List.mem_range]
      refine⟨by simp;omega,?_⟩
      have:=hsuf pre.length (Nat.le_refl _)
      unfold isOn at this
      simp only [Bool.not_eq_true] at this
      rw [this];rfl
     have:=List.length_pos_of_mem hmem
     omega
   refine zhl (m:=pre.length) hback hchain 0 0 0 listed a w (by rw [lA];omega) (Nat.le_refl _) hsz (λ k hk=>⟨λ _=>by simp at hk;omega,λ h=>hallon k (by omega)⟩) ?_
   rw [Nat.add_zero,List.drop_left]
   exact hl
  ·exfalso
   obtain⟨i,hi⟩:=Classical.not_forall.1 hallon
   obtain⟨hi1,hi2⟩:=Classical.not_imp.1 hi
   have hmem:i∈(List.range (pre++suf).length).filter (λ i=>!listed.getD i false):=by
    rw [List.mem_filter,List.mem_range]
    refine⟨by simp;omega,?_⟩
    unfold isOn at hi2
    simp only [Bool.not_eq_true] at hi2
    rw [hi2];rfl
   have:=List.length_pos_of_mem hmem
   omega
 | succ fuel ih=>
  intro listed a w hf hsz hsuf hI
  have hrcl:∀ k,isOn listed k→∀ j,rcf ms k j=true→isOn listed j:=λ k hk j hj=>by
   have hkl:k<pre.length:=by
    rcases Nat.lt_or_ge k pre.length with h|h
    ·exact h
    ·exact absurd hk (hsuf k h)
   exact zfI hmk hback hI.closed k pre[k] (hpre k _ (by simp [hkl])) (λ j hj=>hI.closed k pre[k] (hpre k _ (by simp [hkl])) hk j hj) j hj
  by_cases hallon:∀ i,i<pre.length→isOn listed i
  ·have hl:=fin listed a w hallon hI
   have hcnt:suf.length≤fuel+1:=by
    refine Nat.le_trans ?_ hf
    rw [lA,List.range_eq_range',←List.range'_append_1,List.filter_append,lA]
    refine Nat.le_trans ?_ (Nat.le_add_left _ _)
    rw [List.filter_eq_self.2 (λ x hx=>?_)]
    ·simp
    ·rw [List.mem_range'_1] at hx
     have:=hsuf x (by omega)
     unfold isOn at this
     simp only [Bool.not_eq_true] at this
     rw [this];rfl
   refine zhl (m:=pre.length) hback hchain suf.length 0 (fuel+1) listed a w (by simp) hcnt hsz (λ k hk=>⟨λ hon=>?_,λ h=>hallon k (by omega)⟩) ?_
   ·rcases Nat.lt_or_ge k pre.length with h|h
    ·omega
    ·exact absurd hon (hsuf k h)
   rw [Nat.add_zero,List.drop_left]
   exact hl
  ·have hex:∃ i,i<pre.length∧¬ isOn listed i:=by
    obtain⟨i,hi⟩:=Classical.not_forall.1 hallon
    exact⟨i,Classical.not_imp.1 hi⟩
   refine⟨λ h0=>?_,λ i hi=>?_⟩
   ·exfalso
    have least:∀ n,(∃ i,i<n∧¬ isOn listed i)→∃ i,i<n∧¬ isOn listed i∧∀ k,k<i→isOn listed k:=by
     intro n
     induction n with
     | zero=>rintro ⟨i,hi,_⟩;omega
     | succ n ih=>
      rintro ⟨i,hi,hno⟩
      by_cases h:∃ i,i<n∧¬ isOn listed i
      ·obtain⟨j,h1,h2,h3⟩:=ih h
       exact⟨j,by omega,h2,h3⟩
      ·refine⟨i,hi,hno,λ k hk=>Classical.byContradiction λ hn=>h ⟨k,by omega,hn⟩⟩
    obtain⟨i,h1,h2,h3⟩:=least _ hex
    have hlt:i<(pre++suf).length:=by simp;omega
    have:i∈Region.ready .any (pre++suf).toArray listed:=by
     refine(zbX (by simpa using hsz)).2 ⟨by simpa using hlt,h2,(pre++suf)[i],by simp,λ j hj=>?_⟩
     have:=zbY _ 0 hback i (pre++suf)[i] (by simp) j hj
     exact h3 j (by omega)
    rw [h0] at this
    cases this
   ·obtain⟨g1,g2,o,ho,g3⟩:=(zbX (by simpa using hsz)).1 hi
    simp only [List.size_toArray] at g1
    have ho':(pre++suf)[i]?=some o:=by simpa using ho
    have him:i<pre.length:=by
     rcases Nat.lt_or_ge i pre.length with h|h
     ·exact h
     ·exfalso
      rcases Nat.lt_or_ge pre.length i with hgt|hle
      ·unfold zhL at hchain
       have:=List.all_eq_true.1 hchain (i - pre.length - 1) (by rw [List.mem_range];omega)
       rw [show pre.length+(i - pre.length - 1)+1=i from by omega,ho'] at this
       exact hsuf _ (by omega) (g3 _ this)
      ·have hie:i=pre.length:=by omega
       have hne:suf.isEmpty=false:=by
        cases suf with
        | nil=>simp at g1;omega
        | cons _ _=>rfl
       rw [hne,Bool.false_or] at hfirst
       obtain⟨k,hk1,hk2⟩:=hex
       have:=List.all_eq_true.1 hfirst k (List.mem_range.2 hk1)
       rw [←hie] at this
       exact hk2 (zfI hmk hback hI.closed i o ho' g3 k this)
    have hpi:pre[i]?=some o:=by rw [List.getElem?_append_left him] at ho';exact ho'
    obtain⟨x,S1,hxi,hxd,hloc,hOb,q,hq⟩:=hall i o hpi
    obtain⟨S',hS'⟩:∃ S',S1++S0=S':=⟨_,rfl⟩
    rw [hS'] at hOb hq
    rw [Nat.zero_add] at hOb hxi
    have hxS:x∈S:=by rw [hq];simp
    have hsubS:∀ y∈S',y∈S:=λ y hy=>by rw [hq];simp [hy]
    have hq0:q0=q++x :: S1:=by
     have e:=hS.symm.trans hq
     rw [←hS',show q++x :: (S1++S0)=(q++x :: S1)++S0 from by simp] at e
     exact List.append_cancel_right e
    have hsort:(q.map (·.i))++i :: (S1.map (·.i))=(List.range' 0 pre.length).reverse:=by
     rw [←hS1,hq0,List.map_append,List.map_cons,hxi]
    have hdesc:((q.map (·.i))++i :: (S1.map (·.i))).Pairwise (· > ·):=by
     rw [hsort,List.pairwise_reverse]
     exact List.pairwise_lt_range'
    rw [List.pairwise_append,List.pairwise_cons] at hdesc
    have hgt:∀ y∈q,i<y.i:=λ y hy=>hdesc.2.2 _ (List.mem_map.2 ⟨y,hy,rfl⟩) _ (mS ..)
    have hlt:∀ y∈S',y.i<N→y.i<i:=λ y hy hyN=>by
     rw [←hS'] at hy
     rcases List.mem_append.1 hy with hy|hy
     ·exact hdesc.2.1.1 _ (List.mem_map.2 ⟨y,hy,rfl⟩)
     ·have:=hS0 y hy;omega
    have hqN:∀ y∈q,y.i<N:=λ y hy=>by
     have hjm:y.i∈q0.map (·.i):=List.mem_map.2 ⟨y,by rw [hq0];exact List.mem_append_left _ hy,rfl⟩
     rw [hS1,List.mem_reverse,List.mem_range'_1] at hjm
     omega
    have hiN:i<N:=by omega
    have hrc:∀ j,rcf ms i j=true→isOn listed j:=λ j hj=>zfI hmk hback hI.closed i o ho' g3 j hj
    have hilt:i<listed.size:=by omega
    have hnd:zfO o=false:=by
     have:=List.all_eq_true.1 hdef o (List.mem_of_getElem? (hpre i o hpi))
     simpa using this
    have hcont:∀ (a':Act) (w':World),Inv4 c ds (pre++suf) pre T0 H S N (listed.setIfInBounds i true) a' w'→wpAnyIn (FW c.r) 0 c.P .any (pre++suf).toArray p.Q fuel (listed.setIfInBounds i true) a' w':=by
     intro a' w' hI'
     refine ih _ _ _ ?_ (by simp [hsz]) (λ k hk hon=>?_) hI'
     ·have:=zkI (l:=List.range (pre++suf).length) (q:=λ i=>!listed.getD i false) (q':=λ k=>!(listed.setIfInBounds i true).getD k false) (i:=i) ?_ (List.mem_range.2 g1) ?_ ?_
      ·omega
      ·intro x hx'
       have:¬ isOn (listed.setIfInBounds i true) x:=by unfold isOn;simpa using hx'
       have:¬ isOn listed x:=λ h=>this ((zbt hilt x).2 (.inr h))
       unfold isOn at this
       simpa using this
      ·unfold isOn at g2;simpa using g2
      ·have:isOn (listed.setIfInBounds i true) i:=(zbt hilt i).2 (.inl I)
       unfold isOn at this
       simp only [this];rfl
     ·rcases(zbt hilt k).1 hon with rfl|h
      ·omega
      ·exact hsuf k hk h
    obtain⟨ρ,B,hv,hs⟩:=hI.fam
    have hsat:=hI.sat hv hpre g2 g3 hsubS
    obtain⟨hhp,hview⟩:=hI.shown hE.toEnts4 hs g2 hrc hrcl hxi hq hgt hqN hiN
    have hother:∀ y∈S,y.i=i→y=x:=λ y hy hyi=>hE.uniq y hy x hxS (hyi.trans hxi.symm)
    have hslot0:x.t=none→∀ j,zbe ρ (onB N (listed.setIfInBounds i true)) j S=zbe ρ (onB N listed) j S:=λ ht j=>by
     refine zbN S λ y hy hyt=>⟨?_,λ _=>rfl⟩
     rw [zeh hilt]
     have:y.i≠i:=λ e=>by
      rw [hother y hy e,ht] at hyt
      cases hyt
     have hb:Nat.beq y.i i=false:=by
      cases hb:Nat.beq y.i i with
      | false=>rfl
      | true=>exact absurd (Nat.eq_of_beq_eq_true hb) this
     rw [hb,Bool.false_or]
    have hdo:∀ d,x.d=some d→d<c.n∧∀ j oj,pre[j]?=some oj→j≠i→oj.dst≠some d:=λ d hd=>by
     rw [hxd] at hd
     refine⟨?_,λ j oj hj hji=>zef pre hdst i j o oj hpi hj (Ne.symm hji) d hd⟩
     have:=List.all_eq_true.1 hok o (List.mem_of_getElem? hpi)
     rw [hd] at this
     exact bL this
    have hpure:∀ (v:Value) (w':World),x.t=none→x.d.isSome=true→v=x.V ρ→Ext w w'→wpAnyIn (FW c.r) 0 c.P .any (pre++suf).toArray p.Q fuel (listed.setIfInBounds i true) (a.put o.dst v) w':=by
     intro v w' ht hds hveq hx
     obtain⟨d,hd⟩:=Option.isSome_iff_exists.1 hds
     obtain⟨hdn,hdist⟩:=hdo d hd
     have hod:o.dst=some d:=by rw [←hxd,hd]
     rw [hod]
     exact hcont _ _ (hI.put hE.toEnts4 hxS hxi hpi ho' hilt hod hd hdist hdn g3 (hI.base.ext hx) hveq (λ y hy hon _ d' hd'=>hv y hy hon d' hd') ((hs.congr (hslot0 ht)).ext hx))
    have hgo:Go5 N rd c ds pre ms T0 H i o S' x→o.wpIn (FW c.r) 0 c.P a w (wpAnyIn (FW c.r) 0 c.P .any (pre++suf).toArray p.Q fuel (listed.setIfInBounds i true)) p.Q:=by
     rintro ((⟨ht,hds,hY⟩ | ⟨ht,hds,V,A,hVx,hAx,hVA,hY⟩ | ⟨hds,j,ht,hij,hrq,hY⟩) | ⟨hds,j,ht,hjN,hch,_,hY⟩ | ⟨hds,j,ht,hjN,hch,_,V,A,hVx,hAx,hY⟩ | ⟨ht,hds,j,hrd,hjN,hch,hY⟩)
     ·refine za9 hnd ((hY ρ).run a w hsat hhp) λ v w' hvw=>?_
      exact hpure v w' ht hds hvw.1 hvw.2
     ·refine za9 hnd ((hY ρ).run a w hsat hhp) λ v w' hvw=>?_
      obtain⟨u,rfl,hx,Bn,hBn,hA⟩:=hvw
      obtain⟨d,hd⟩:=Option.isSome_iff_exists.1 hds
      obtain⟨hdn,hdist⟩:=hdo d hd
      have hod:o.dst=some d:=by rw [←hxd,hd]
      rw [hod]
      let ρ':(i:Nat)→XS i:=λ k=>if h:k=i then h ▸ u else ρ k
      have hρi:ρ' i=u:=by simp [ρ']
      have hρk:∀ k,k≠i→ρ' k=ρ k:=λ k hk=>by simp [ρ',hk]
      have hsame:∀ y∈S,isOn listed y.i→y.V ρ' = y.V ρ∧y.A ρ' = y.A ρ:=λ y hy hon=>by
       refine hE.loc y hy (Nat.lt_of_not_le λ h=>hsuf y.i (by omega) hon) ρ' ρ λ k hk=>hρk k λ e=>?_
       subst e
       rcases hk with hk|hk
       ·exact g2 (hrcl _ hon _ hk)
       ·rw [←hk] at hon;exact g2 hon
      have hsameA:∀ y∈S,onB N listed y.i=true→y.A ρ' = y.A ρ:=λ y hy hon=>by
       rcases Nat.lt_or_ge y.i N with h|h
       ·exact(hsame y hy (zhA h hon)).2
       ·exact(hE.bs y hy h).2.2 _ _
      have hVA':=hVA ρ' ρ (λ k hk=>hρk k (λ e=>by have:=zhm hk;omega))
      have hxV:x.V ρ' = V ρ u:=by rw [hVx,hVA'.1,hρi]
      have hxA:x.A ρ' = A ρ u:=by rw [hAx,hVA'.2,hρi]
      have hsl:∀ j,zbe ρ' (onB N (listed.setIfInBounds i true)) j S=if j=i then some (A ρ u) else zbe ρ (onB N listed) j S:=λ j=>by
       by_cases hji:j=i
       ·rw [if_pos hji,hq,hji]
        rw [zb0 q]
        ·show(bif tIs x.t i&&onB N (listed.setIfInBounds i true) x.i then some (x.A ρ') else zbe ρ' _ i S')=_
         rw [ht,hxi,zeh hilt,Nat.beq_refl,hxA]
         show(bif Nat.beq i i&&true then _ else _)=_
         rw [Nat.beq_refl];rfl
        ·intro y hy hyt
         have hyS:y∈S:=by rw [hq];exact List.mem_append_left _ hy
         have hgi:=hgt y hy
         have h1:rcf ms y.i i=true:=by
          rcases(hE.sto y hyS i (zcq.1 hyt) (by omega)).2 with ⟨_,h1,_⟩ | ⟨h1,_⟩
          ·exact h1
          ·omega
         rw [zeh hilt]
         have hb:Nat.beq y.i i=false:=by
          cases hb:Nat.beq y.i i with
          | false=>rfl
          | true=>have:=Nat.eq_of_beq_eq_true hb;omega
         rw [hb,Bool.false_or]
         cases ho2:onB N listed y.i with
         | false=>rfl
         | true=>exact absurd (hrcl y.i (zhA (hqN y hy) ho2) i h1) g2
       ·rw [if_neg hji]
        refine zbN S λ y hy hyt=>?_
        have hyi:y.i≠i:=λ e=>by
         rw [hother y hy e,ht] at hyt
         exact hji (Option.some.inj (zcq.1 hyt)).symm
        have hb:Nat.beq y.i i=false:=by
         cases hb:Nat.beq y.i i with
         | false=>rfl
         | true=>exact absurd (Nat.eq_of_beq_eq_true hb) hyi
        have he:onB N (listed.setIfInBounds i true) y.i=onB N listed y.i:=by rw [zeh hilt,hb,Bool.false_or]
        exact⟨he,λ hon=>hsameA y hy (by rw [←he];exact hon)⟩
      exact hcont _ _ (hI.put hE.toEnts4 hxS hxi hpi ho' hilt hod hd hdist hdn g3 (hI.base.ext hx) hxV.symm (λ y hy hon _ d' hd'=>by rw [(hsame y hy hon).1];exact hv y hy hon d' hd') ((hs.new hI.base hx i hBn hA).congr hsl))
     ·obtain⟨R,hR,hSO⟩:=hY ρ
      have hod:o.dst=none:=by rw [←hxd,hds]
      have hjlt:=zhm hij
      have hGj:zbe ρ (onB N listed) j S=some R:=by
       rw [←hview j ?_ hij];exact hR
       have key:∀ (L:List (E3 XS)),(∀ y∈L,y∈S')→okSt (rcf ms i) j L=true:=by
        intro L
        induction L with
        | nil=>intro _;rfl
        | cons y L ihL=>
         intro hL
         have hy:=hL y (mS ..)
         show(((!tIs y.t j||rcf ms i y.i))&&okSt (rcf ms i) j L)=true
         rw [ihL (λ z hz=>hL z (mM _ hz)),Bool.and_true]
         cases hyt:tIs y.t j with
         | false=>rfl
         | true=>
          show rcf ms i y.i=true
          by_cases hyj:j=y.i
          ·rw [←hyj];exact hij
          ·obtain⟨hyN,hst⟩:=hE.sto y (hsubS y hy) j (zcq.1 hyt) hyj
           have h1:rcf ms y.i j=true:=by
            rcases hst with ⟨_,h1,_⟩ | ⟨h1,_⟩
            ·exact h1
            ·omega
           have:=List.all_eq_true.1 hrq y.i (List.mem_range.2 (hlt y hy hyN))
           rw [h1] at this
           simpa using this
       exact key S' (λ _ h=>h)
      obtain⟨g4,g5⟩:=hs.own j R hGj
      refine za9 hnd (hSO.run a w (B j) hsat ⟨hI.base,?_⟩ (λ k hk=>(g5 k hk).2) g4) λ v w' hvw=>?_
      ·exact Holds.anti H (λ k hk=>.inl hk) hs.out
      obtain⟨hm,B',ho2,hA'⟩:=hvw
      rw [hod]
      obtain⟨hb',hs'⟩:=hs.upd hGj hI.base hm ho2 hA'
      have hsl:∀ k,zbe ρ (onB N (listed.setIfInBounds i true)) k S=if k=j then some (x.A ρ) else zbe ρ (onB N listed) k S:=λ k=>by
       by_cases hkj:k=j
       ·rw [if_pos hkj,hq,hkj]
        rw [zb0 q]
        ·show(bif tIs x.t j&&onB N (listed.setIfInBounds i true) x.i then some (x.A ρ) else zbe ρ _ j S')=_
         rw [ht,hxi,zeh hilt,Nat.beq_refl]
         show(bif Nat.beq j j&&true then _ else _)=_
         rw [Nat.beq_refl];rfl
        ·intro y hy hyt
         have hyS:y∈S:=by rw [hq];exact List.mem_append_left _ hy
         have hgi:=hgt y hy
         have h1:rcf ms y.i i=true:=by
          rcases(hE.sto y hyS j (zcq.1 hyt) (by omega)).2 with ⟨_,_,h1⟩ | ⟨h1,_⟩
          ·exact h1 i hgi hij
          ·omega
         rw [zeh hilt]
         have hb:Nat.beq y.i i=false:=by
          cases hb:Nat.beq y.i i with
          | false=>rfl
          | true=>have:=Nat.eq_of_beq_eq_true hb;omega
         rw [hb,Bool.false_or]
         cases ho3:onB N listed y.i with
         | false=>rfl
         | true=>exact absurd (hrcl y.i (zhA (hqN y hy) ho3) i h1) g2
       ·rw [if_neg hkj]
        refine zbN S λ y hy hyt=>⟨?_,λ _=>rfl⟩
        have hyi:y.i≠i:=λ e=>by
         rw [hother y hy e,ht] at hyt
         exact hkj (Option.some.inj (zcq.1 hyt)).symm
        have hb:Nat.beq y.i i=false:=by
         cases hb:Nat.beq y.i i with
         | false=>rfl
         | true=>exact absurd (Nat.eq_of_beq_eq_true hb) hyi
        rw [zeh hilt,hb,Bool.false_or]
      have hon:∀ j,isOn (listed.setIfInBounds i true) j↔j=i∨isOn listed j:=zbt hilt
      refine hcont _ _ ⟨hb',hI.size,hI.defers,zem hI.closed ho' hilt g3,λ s u hs0 hno=>hI.old s u hs0 (λ k ok hk hlk=>hno k ok hk ((hon k).2 (.inr hlk))),ρ,_,λ y hy hoy d' hd'=>?_,hs'.congr hsl⟩
      have hyi:y.i≠i:=λ e=>by rw [hother y hy e,hds] at hd';cases hd'
      exact hv y hy (((hon y.i).1 hoy).resolve_left hyi) d' hd'
     ·obtain⟨R,hR,hSO⟩:=hY ρ
      have hod:o.dst=none:=by rw [←hxd,hds]
      have hjN:=bL hjN
      have hGj:zbe ρ (onB N listed) j S=some R:=by
       rw [hq,show q++x :: S' = (q++[x])++S' from by simp,zb0 (q++[x]) S',←hR]
       ·refine zbN S' λ y hy hyt=>⟨?_,λ _=>rfl⟩
        have h3:=List.all_eq_true.1 hch y hy
        rw [hyt] at h3
        show onB N listed y.i=(Nat.ble N y.i||rcf ms i y.i)
        rcases Nat.lt_or_ge y.i N with h|h
        ·have h4:Nat.ble N y.i=false:=by
          cases hb:Nat.ble N y.i with
          | false=>rfl
          | true=>have:=bL hb;omega
         rw [h4] at h3 ⊢
         have h5:rcf ms i y.i=true:=by simpa using h3
         rw [zqk (hrc _ h5),h5];rfl
        ·rw [zkd h,Nat.ble_eq_true_of_le h];rfl
       ·intro y hy hyt
        rcases List.mem_append.1 hy with hy|hy
        ·have hyN:=hqN y hy
         have hgi:=hgt y hy
         refine ziu hyN λ hon=>?_
         have hyS:y∈S:=by rw [hq];exact List.mem_append_left _ hy
         rcases(hE.sto y hyS j (zcq.1 hyt) (by omega)).2 with ⟨h1,_⟩ | ⟨_,h1⟩
         ·omega
         ·have:=h1 x hxS ht (by omega)
          rw [hxi] at this
          exact g2 (hrcl y.i hon i this)
        ·rw [List.mem_singleton.1 hy,hxi];exact ziu hiN g2
      obtain⟨g4,g5⟩:=hs.own j R hGj
      refine za9 hnd (hSO.run a w (B j) hsat ⟨hI.base,?_⟩ (λ k hk=>(g5 k hk).2) g4) λ v w' hvw=>?_
      ·exact Holds.anti H (λ k hk=>.inl hk) hs.out
      obtain⟨hm,B',ho2,hA'⟩:=hvw
      rw [hod]
      obtain⟨hb',hs'⟩:=hs.upd hGj hI.base hm ho2 hA'
      have hsl:∀ k,zbe ρ (onB N (listed.setIfInBounds i true)) k S=if k=j then some (x.A ρ) else zbe ρ (onB N listed) k S:=λ k=>by
       by_cases hkj:k=j
       ·rw [if_pos hkj,hq,hkj]
        rw [zb0 q]
        ·show(bif tIs x.t j&&onB N (listed.setIfInBounds i true) x.i then some (x.A ρ) else zbe ρ _ j S')=_
         rw [ht,hxi,zeh hilt,Nat.beq_refl]
         show(bif Nat.beq j j&&true then _ else _)=_
         rw [Nat.beq_refl];rfl
        ·intro y hy hyt
         have hyS:y∈S:=by rw [hq];exact List.mem_append_left _ hy
         have hgi:=hgt y hy
         have h1:rcf ms y.i i=true:=by
          have hyN:=hqN y hy
          rcases(hE.sto y hyS j (zcq.1 hyt) (by omega)).2 with ⟨h1,_⟩ | ⟨_,h1⟩
          ·omega
          ·have:=h1 x hxS ht (by omega)
           rwa [hxi] at this
         rw [zeh hilt]
         have hb:Nat.beq y.i i=false:=by
          cases hb:Nat.beq y.i i with
          | false=>rfl
          | true=>have:=Nat.eq_of_beq_eq_true hb;omega
         rw [hb,Bool.false_or]
         cases ho3:onB N listed y.i with
         | false=>rfl
         | true=>exact absurd (hrcl y.i (zhA (hqN y hy) ho3) i h1) g2
       ·rw [if_neg hkj]
        refine zbN S λ y hy hyt=>⟨?_,λ _=>rfl⟩
        have hyi:y.i≠i:=λ e=>by
         rw [hother y hy e,ht] at hyt
         exact hkj (Option.some.inj (zcq.1 hyt)).symm
        have hb:Nat.beq y.i i=false:=by
         cases hb:Nat.beq y.i i with
         | false=>rfl
         | true=>exact absurd (Nat.eq_of_beq_eq_true hb) hyi
        rw [zeh hilt,hb,Bool.false_or]
      have hon:∀ j,isOn (listed.setIfInBounds i true) j↔j=i∨isOn listed j:=zbt hilt
      refine hcont _ _ ⟨hb',hI.size,hI.defers,zem hI.closed ho' hilt g3,λ s u hs0 hno=>hI.old s u hs0 (λ k ok hk hlk=>hno k ok hk ((hon k).2 (.inr hlk))),ρ,_,λ y hy hoy d' hd'=>?_,hs'.congr hsl⟩
      have hyi:y.i≠i:=λ e=>by rw [hother y hy e,hds] at hd';cases hd'
      exact hv y hy (((hon y.i).1 hoy).resolve_left hyi) d' hd'
     ·obtain⟨R,hR,hSO⟩:=hY ρ
      obtain⟨d,hd⟩:=Option.isSome_iff_exists.1 hds
      obtain⟨hdn,hdist⟩:=hdo d hd
      have hod:o.dst=some d:=by rw [←hxd,hd]
      have hjN:=bL hjN
      have hGj:zbe ρ (onB N listed) j S=some R:=by
       rw [hq,show q++x :: S' = (q++[x])++S' from by simp,zb0 (q++[x]) S',←hR]
       ·refine zbN S' λ y hy hyt=>⟨?_,λ _=>rfl⟩
        have h3:=List.all_eq_true.1 hch y hy
        rw [hyt] at h3
        show onB N listed y.i=(Nat.ble N y.i||rcf ms i y.i)
        rcases Nat.lt_or_ge y.i N with h|h
        ·have h4:Nat.ble N y.i=false:=by
          cases hb:Nat.ble N y.i with
          | false=>rfl
          | true=>have:=bL hb;omega
         rw [h4] at h3 ⊢
         have h5:rcf ms i y.i=true:=by simpa using h3
         rw [zqk (hrc _ h5),h5];rfl
        ·rw [zkd h,Nat.ble_eq_true_of_le h];rfl
       ·intro y hy hyt
        rcases List.mem_append.1 hy with hy|hy
        ·have hyN:=hqN y hy
         have hgi:=hgt y hy
         refine ziu hyN λ hon=>?_
         have hyS:y∈S:=by rw [hq];exact List.mem_append_left _ hy
         rcases(hE.sto y hyS j (zcq.1 hyt) (by omega)).2 with ⟨h1,_⟩ | ⟨_,h1⟩
         ·omega
         ·have:=h1 x hxS ht (by omega)
          rw [hxi] at this
          exact g2 (hrcl y.i hon i this)
        ·rw [List.mem_singleton.1 hy,hxi];exact ziu hiN g2
      obtain⟨g4,g5⟩:=hs.own j R hGj
      refine za9 hnd (hSO.run a w (B j) hsat hhp (λ k hk=>(g5 k hk).2) g4) λ v w' hvw=>?_
      obtain⟨u,rfl,hm,B',ho2,hA'⟩:=hvw
      rw [hod]
      obtain⟨hb',hs'⟩:=hs.upd hGj hI.base hm ho2 hA'
      let ρ':(i:Nat)→XS i:=λ k=>if h:k=i then h ▸ u else ρ k
      have hρi:ρ' i=u:=by simp [ρ']
      have hρk:∀ k,k≠i→ρ' k=ρ k:=λ k hk=>by simp [ρ',hk]
      have hsame:∀ y∈S,isOn listed y.i→y.V ρ' = y.V ρ∧y.A ρ' = y.A ρ:=λ y hy hon=>by
       refine hE.loc y hy (Nat.lt_of_not_le λ h=>hsuf y.i (by omega) hon) ρ' ρ λ k hk=>hρk k λ e=>?_
       subst e
       rcases hk with hk|hk
       ·exact g2 (hrcl _ hon _ hk)
       ·rw [←hk] at hon;exact g2 hon
      have hsameA:∀ y∈S,onB N listed y.i=true→y.A ρ' = y.A ρ:=λ y hy hon=>by
       rcases Nat.lt_or_ge y.i N with h|h
       ·exact(hsame y hy (zhA h hon)).2
       ·exact(hE.bs y hy h).2.2 _ _
      have hxV:x.V ρ' = V u:=by rw [hVx,hρi]
      have hxA:x.A ρ' = A u:=by rw [hAx,hρi]
      have hsl:∀ k,zbe ρ' (onB N (listed.setIfInBounds i true)) k S=if k=j then some (A u) else zbe ρ (onB N listed) k S:=λ k=>by
       by_cases hkj:k=j
       ·rw [if_pos hkj,hq,hkj]
        rw [zb0 q]
        ·show(bif tIs x.t j&&onB N (listed.setIfInBounds i true) x.i then some (x.A ρ') else zbe ρ' _ j S')=_
         rw [ht,hxi,zeh hilt,Nat.beq_refl,hxA]
         show(bif Nat.beq j j&&true then _ else _)=_
         rw [Nat.beq_refl];rfl
        ·intro y hy hyt
         have hyS:y∈S:=by rw [hq];exact List.mem_append_left _ hy
         have hgi:=hgt y hy
         have h1:rcf ms y.i i=true:=by
          have hyN:=hqN y hy
          rcases(hE.sto y hyS j (zcq.1 hyt) (by omega)).2 with ⟨h1,_⟩ | ⟨_,h1⟩
          ·omega
          ·have:=h1 x hxS ht (by omega)
           rwa [hxi] at this
         rw [zeh hilt]
         have hb:Nat.beq y.i i=false:=by
          cases hb:Nat.beq y.i i with
          | false=>rfl
          | true=>have:=Nat.eq_of_beq_eq_true hb;omega
         rw [hb,Bool.false_or]
         cases ho3:onB N listed y.i with
         | false=>rfl
         | true=>exact absurd (hrcl y.i (zhA (hqN y hy) ho3) i h1) g2
       ·rw [if_neg hkj]
        refine zbN S λ y hy hyt=>?_
        have hyi:y.i≠i:=λ e=>by
         rw [hother y hy e,ht] at hyt
         exact hkj (Option.some.inj (zcq.1 hyt)).symm
        have hb:Nat.beq y.i i=false:=by
         cases hb:Nat.beq y.i i with
         | false=>rfl
         | true=>exact absurd (Nat.eq_of_beq_eq_true hb) hyi
        have he:onB N (listed.setIfInBounds i true) y.i=onB N listed y.i:=by rw [zeh hilt,hb,Bool.false_or]
        exact⟨he,λ hon=>hsameA y hy (by rw [←he];exact hon)⟩
      exact hcont _ _ (hI.put hE.toEnts4 hxS hxi hpi ho' hilt hod hd hdist hdn g3 hb' hxV.symm (λ y hy hon _ d' hd'=>by rw [(hsame y hy hon).1];exact hv y hy hon d' hd') (hs'.congr hsl))
     ·obtain⟨R,hR,hSY⟩:=hY ρ
      have hGj:zbe ρ (onB N listed) j S=some R:=by
       rw [hq,show q++x :: S' = (q++[x])++S' from by simp,zb0 (q++[x]) S',←hR]
       ·refine zbN S' λ y hy hyt=>⟨?_,λ _=>rfl⟩
        have h3:=List.all_eq_true.1 hch y hy
        rw [hyt] at h3
        have h4:Nat.ble N y.i=true:=by simpa using h3
        show onB N listed y.i=Nat.ble N y.i
        rw [h4,zkd (bL h4)]
       ·intro y hy hyt
        rcases List.mem_append.1 hy with hy|hy
        ·have hyN:=hqN y hy
         refine ziu hyN λ hon=>?_
         have hyS:y∈S:=by rw [hq];exact List.mem_append_left _ hy
         have h5:=hE.rdr y hyS j (zcq.1 hyt) hyN (bL hjN)
         obtain⟨rq,hrq1,hrq2⟩:=List.any_eq_true.1 hrd
         have h6:=List.all_eq_true.1 h5 rq hrq1
         simp only [aT] at hrq2
         rw [hrq2.2,Nat.eq_of_beq_eq_true hrq2.1] at h6
         exact g2 (hrcl y.i hon i (by simpa using h6))
        ·rw [List.mem_singleton.1 hy,ht] at hyt;cases hyt
      obtain⟨g4,g5⟩:=hs.own j R hGj
      refine za9 hnd (hSY.run a w hsat ⟨hI.base,B j,g5,g4,?_⟩) λ v w' hvw=>?_
      ·refine Holds.anti H (λ k hk=>hk.elim .inl λ h=>.inr ⟨j,?_,h⟩) hs.out
       show(zbe ρ (onB N listed) j S).isSome=true
       rw [hGj];rfl
      ·exact hpure v w' ht hds hvw.1 hvw.2
    unfold wpOpIn
    rw [ho]
    simp only []
    unfold Ob5 at hOb
    cases hg:o.guard with
    | none=>
     rw [hg] at hOb
     rw [if_pos (by simp [Region.wanted,hg])]
     exact hgo hOb
    | some gw=>
     obtain⟨j,want⟩:=gw
     rw [hg] at hOb
     have hyl:∀ V0,lk3 S' j=some V0→zaT o j=true→∀ b:Bool,yielded (pre++suf).toArray a.tmps j=some b↔V0 ρ=.bool b:=λ V0 hlk hbj b=>by
      obtain⟨y,hy,hyj,hyd,hyV⟩:=zmj S' j _ hlk
      obtain⟨d,hd⟩:=Option.isSome_iff_exists.1 hyd
      obtain⟨oj,hoj,hdj⟩:=hE.op y (hsubS y hy) (Nat.lt_of_not_le λ h=>by rw [(hE.bs y (hsubS y hy) h).1] at hyd;cases hyd)
      have hval:=hv y (hsubS y hy) (by rw [hyj];exact g3 j hbj) d hd
      rw [hyj] at hoj
      rw [←hyV]
      exact zd2 (by simpa using hpre j oj hoj) (by rw [hdj,hd]) hval
     rcases hOb with ⟨V0,hlk,hV0,hbj,hGo⟩ | ⟨V0,u0,qb,u,hlk,hV0,hbj,hq0,ht,hds,hxV,hst⟩
     ·rw [if_pos (by simp only [Region.wanted,hg];rw [(hyl V0 hlk hbj want).2 (hV0 ρ)];simp)]
      exact hgo hGo
     ·have hy:=hyl V0 hlk hbj want
      rw [hV0] at hy
      cases hqq:qb with
      | true=>
       rw [if_pos (by simp only [Region.wanted,hg];rw [hy.2 (hq0.1 hqq)];simp)]
       refine za9 hnd ((hst hqq ρ).run a w hsat hhp) λ v w' hvw=>?_
       exact hpure v w' ht hds (by rw [hxV,if_pos hqq];exact hvw.1) hvw.2
      | false=>
       have hnw:¬ yielded (pre++suf).toArray a.tmps j=some want:=λ h=>by
        have:=hq0.2 (hy.1 h)
        rw [hqq] at this
        cases this
       rw [if_neg (by simp only [Region.wanted,hg];simpa using hnw)]
       refine⟨λ _ _=>trivial,?_⟩
       exact hpure undef w ht hds (by rw [hxV,if_neg (by simp [hqq])]) Ext.rfl
theorem zCs {id:Nat} {l:List Oper} {d:Bool} (Hb:List Res) (XS:Nat→Type) (N m:Nat) (ms:List Nat) (rd:List (Nat×Nat)) (hN:Nat.ble l.length N=true) (hm:d=true→c.P.follows .mixedOrders=true) (hc:zeY c.n (l.take m) (l.drop m) ms=true) (hρ:Nonempty ((i:Nat)→XS i))
  (h:PH5 (XS:=XS) N rd c ds (l.take m) ms T0 H (λ S=>∀ ρ:(i:Nat)→XS i,GK c ds (KL c l.toArray p (l.drop m)) (zdA ρ (λ _=>true) S++zd3 (l.take m) T0) (zeS ρ (λ _=>true) S S++H)) 0 (l.take m) (zeU N 0 Hb)):GK c ds (KC c (.region id l.toArray d) p) T0 (Hb++H):=by
 intro a w ha hw
 obtain⟨ρ0⟩:=hρ
 obtain⟨S,hK,⟨q,hq,hq2⟩,hall⟩:=zEa _ _ _ h
 have hl:l.take m++l.drop m=l:=List.take_append_drop m l
 have hlN:(l.take m++l.drop m).length≤N:=by rw [hl];exact bL hN
 have hmN:(l.take m).length≤N:=by rw [lA] at hlN;omega
 have hS0:∀ x∈zeU (XS:=XS) N 0 Hb,N≤x.i:=λ x hx=>by have:=(zel hx).1;omega
 have hqi:∀ x∈q,x.i<(l.take m).length:=λ x hx=>by
  have hjm:x.i∈q.map (·.i):=List.mem_map.2 ⟨_,hx,rfl⟩
  rw [hq2,List.mem_reverse,List.mem_range'_1] at hjm
  omega
 have hnd0:(q.map (·.i)).Nodup:=by
  rw [hq2]
  unfold List.Nodup
  rw [List.pairwise_reverse]
  exact(List.nodup_range' (s:=0) (n:=(l.take m).length) (step:=1)).imp Ne.symm
 have hnd:(S.map (·.i)).Nodup:=by
  rw [hq,List.map_append,List.nodup_append]
  refine⟨hnd0,zmW Hb 0,λ a ha b hb=>?_⟩
  obtain⟨x,hx,rfl⟩:=List.mem_map.1 ha
  obtain⟨y,hy,rfl⟩:=List.mem_map.1 hb
  have:=hqi x hx
  have:=hS0 y hy
  omega
 have hsplit:∀ x∈S,x.i<N→x∈q:=λ x hx hxN=>by
  rw [hq] at hx
  rcases List.mem_append.1 hx with hx|hx
  ·exact hx
  ·have:=hS0 x hx;omega
 have hbase:∀ x∈S,N≤x.i→x∈zeU (XS:=XS) N 0 Hb:=λ x hx hxN=>by
  rw [hq] at hx
  rcases List.mem_append.1 hx with hx|hx
  ·have:=hqi x hx;omega
  ·exact hx
 have hx:∀ x∈S,x.i<N→∃ o S1 q',(l.take m)[x.i]?=some o∧x.d=o.dst∧Loc3 ms x∧Ob5 N rd c ds (l.take m) ms T0 H x.i o (S1++zeU N 0 Hb) x∧S=q' ++ x :: (S1++zeU N 0 Hb):=λ x hx hxN=>by
  have hlt:x.i<(l.take m).length:=hqi x (hsplit x hx hxN)
  obtain⟨y,S1,hyi,hyd,hyl,hyo,q',hq'⟩:=hall x.i (l.take m)[x.i] (eG hlt)
  rw [Nat.zero_add] at hyi hyo
  have hyS:y∈S:=by rw [hq'];simp
  have key:∀ (L:List (E3 XS)),(L.map (·.i)).Nodup→∀ x∈L,∀ y∈L,x.i=y.i→x=y:=by
   intro L
   induction L with
   | nil=>intro _ x hx;cases hx
   | cons z r ih=>
    intro hn x hx y hy hxy
    simp only [List.map_cons,List.nodup_cons] at hn
    rcases List.mem_cons.1 hx with rfl|hx' <;> rcases List.mem_cons.1 hy with rfl|hy'
    ·rfl
    ·exact absurd (List.mem_map.2 ⟨y,hy',hxy.symm⟩) hn.1
    ·exact absurd (List.mem_map.2 ⟨x,hx',hxy⟩) hn.1
    ·exact ih hn.2 x hx' y hy' hxy
  have:y=x:=key S hnd y hyS x hx hyi
  subst this
  exact⟨_,S1,q',eG hlt,hyd,hyl,hyo,hq'⟩
 have hE:zGN N rd ms (l.take m) S:=by
  refine⟨⟨hnd,λ x hxS hxN=>?_,λ x hxS hxN=>(zel (hbase x hxS hxN)).2,λ x hxS hxN=>?_,λ x hxS j hj hne=>?_⟩,λ x hxS j hj hxN hjN=>?_⟩
  ·obtain⟨o,_,_,h1,h2,_⟩:=hx x hxS hxN
   exact⟨o,h1,h2.symm⟩
  ·obtain⟨_,_,_,_,_,h3,_⟩:=hx x hxS hxN
   exact h3
  ·have hxN:x.i<N:=Nat.lt_of_not_le λ h=>by
    obtain⟨_,_,h3,_⟩:=zel (hbase x hxS h)
    rw [h3,sI] at hj
    exact hne hj.symm
   refine⟨hxN,?_⟩
   obtain⟨o,S1,q',_,_,_,h4,h5⟩:=hx x hxS hxN
   rcases zHP h4 rfl hxN j hj hne with h6 | ⟨h6,h7⟩
   ·exact .inl h6
   ·refine .inr ⟨h6,λ y hy hyt hyx=>h7 y ?_ hyt (by omega)⟩
    have hqq:q=q' ++ x :: S1:=by
     have e:=hq.symm.trans h5
     rw [show q' ++ x :: (S1++zeU N 0 Hb)=(q' ++ x :: S1)++zeU N 0 Hb from by simp] at e
     exact List.append_cancel_right e
    have hdesc:((q'.map (·.i))++x.i :: (S1.map (·.i))).Pairwise (· > ·):=by
     have e:(q'.map (·.i))++x.i :: (S1.map (·.i))=(List.range' 0 (l.take m).length).reverse:=by
      rw [←hq2,hqq,List.map_append,List.map_cons]
     rw [e,List.pairwise_reverse]
     exact List.pairwise_lt_range'
    rw [List.pairwise_append,List.pairwise_cons] at hdesc
    rw [h5] at hy
    rcases List.mem_append.1 hy with hy|hy
    ·have:=hdesc.2.2 _ (List.mem_map.2 ⟨y,hy,rfl⟩) _ (mS ..)
     omega
    ·rcases List.mem_cons.1 hy with rfl|hy
     ·omega
     ·exact hy
  ·obtain⟨o,S1,q',_,_,_,h4,_⟩:=hx x hxS hxN
   exact zHO h4 I hxN j hj hjN
 have hmain:∀ w,Hp c.U c.w0 (Hb++H) w→wpAnyIn (FW c.r) 0 c.P .any l.toArray p.Q l.length (Array.replicate l.length false) a w:=by
  intro w hw
  have hoff:∀ k,¬ isOn (Array.replicate l.length false) k:=λ k=>by
   unfold isOn
   by_cases hk:k<l.length
   ·simp [hk]
   ·simp [hk]
  have hs0:Slots c (Hb++H) (λ _=>none) (λ _ _=>False) w:=⟨λ j R hj=>(by cases hj),λ i _ hi=>(by cases hi),Holds.anti _ (λ k hk=>(by
     rcases hk with hk | ⟨_,hk,_⟩
     ·exact hk
     ·cases hk)) hw.holds⟩
  obtain⟨B',hB'⟩:=zju (c:=c) (H:=H) (N:=N) (listed:=Array.replicate l.length false) (ρ:=ρ0) Hb 0 (λ _=>none) (λ _ _=>False) hs0 (λ _ _=>rfl)
  have hsl:∀ j,zbe ρ0 (onB N (Array.replicate l.length false)) j S=(match zbe ρ0 (onB N (Array.replicate l.length false)) j (zeU N 0 Hb) with|some R=>some R|none=>none):=λ j=>by
   rw [hq,zb0 q]
   ·cases zbe ρ0 (onB N (Array.replicate l.length false)) j (zeU N 0 Hb) <;> rfl
   ·intro x hx _
    exact ziu (by have:=hqi x hx;omega) (hoff x.i)
  have:=zGz (c:=c) (ds:=ds) (p:=p) (pre:=l.take m) (suf:=l.drop m) (T0:=T0) (H:=H) (S:=S) (N:=N) hlN hc hE hq hq2 hS0 hall (by rw [hl];exact hK) l.length (Array.replicate l.length false) a w
   (by rw [hl];exact Nat.le_trans (List.length_filter_le _ _) (by simp)) (by rw [hl];simp) (λ k _=>hoff k)
   ⟨hw.base,ha.size,ha.defers,λ k o _ hon=>absurd hon (hoff k),λ s v hs _=>ha.val s v hs,ρ0,B',λ x _ hon=>absurd hon (hoff x.i),hB'.congr hsl⟩
  rw [hl] at this
  exact this
 cases d
 ·refine wpIn_region ?_
  have hb:zb8 0 l=true:=by
   simp only [zeY,aT] at hc
   obtain⟨⟨⟨⟨⟨⟨hback,_⟩,_⟩,_⟩,_⟩,_⟩,_⟩:=hc
   rwa [hl] at hback
  have:=zer (c:=c) (p:=p) hb l.length 0 l.length (Array.replicate l.length false) a w (by omega) (Nat.le_refl _) (by simp) (λ i hi=>⟨λ h=>by
   unfold isOn at h
   simp [hi] at h,λ h=>by omega⟩) (hmain w hw)
  rw [List.range_eq_range']
  simpa using this
 ·refine wpIn_region_any (hm I) ?_
  have:=hmain _ hw.drawn
  simpa using this
end
section
variable {XS:Nat→Type} {c:Cx} {ds:List Deferred} {pre:List Oper} {N:Nat} {rd:List (Nat×Nat)} {ms:List Nat} {T0:List (Nat×Value)} {H:List Res} {K:List (E3 XS)→Prop} {i d:Nat} {r:List Oper} {S:List (E3 XS)} {op:Op} {ty:TypeId} {ps:String} {af:Array Edge}
theorem zAr {V:((i:Nat)→XS i)→Value} (h:∀ ρ:(i:Nat)→XS i,Y c ds (zeS ρ (rcf ms i) S S++H) (zdA ρ (zaT ⟨some d,op,ty,ps,af,none⟩) S++zcl pre i T0) ⟨some d,op,ty,ps,af,none⟩ (V ρ))
  (hl:∀ ρ ρ':(i:Nat)→XS i,zkB XS ms i ρ ρ'→V ρ=V ρ') (k:PH5 N rd c ds pre ms T0 H K (i+1) r (⟨i,some d,none,V,λ _=>Emp⟩ :: S)):PH5 N rd c ds pre ms T0 H K i (⟨some d,op,ty,ps,af,none⟩ :: r) S:=
 ⟨_,rfl,rfl,λ ρ ρ' hs=>⟨hl ρ ρ' (λ j hj=>hs j (.inl hj)),rfl⟩,.inl (.inl ⟨rfl,rfl,h⟩),k⟩
theorem pY {V:((i:Nat)→XS i)→Value} (h:∀ ρ:(i:Nat)→XS i,Y c ds (zeS ρ (rcf ms i) S S++H) (zdA ρ (zaT ⟨some d,op,ty,ps,af,none⟩) S++zcl pre i T0) ⟨some d,op,ty,ps,af,none⟩ (V ρ)) (k:PH5 N rd c ds pre ms T0 H K (i+1) r (⟨i,some d,none,V,λ _=>Emp⟩ :: S)) (hl:∀ ρ ρ':(i:Nat)→XS i,zkB XS ms i ρ ρ'→V ρ=V ρ':=by exact λ _ _ _=>by rfl):PH5 N rd c ds pre ms T0 H K i (⟨some d,op,ty,ps,af,none⟩ :: r) S:=zAr h hl k
theorem zFy {V:((i:Nat)→XS i)→XS i→Value} {A:((i:Nat)→XS i)→XS i→Res} (h:∀ ρ:(i:Nat)→XS i,YX c ds (zeS ρ (rcf ms i) S S++H) (zdA ρ (zaT ⟨some d,op,ty,ps,af,none⟩) S++zcl pre i T0) ⟨some d,op,ty,ps,af,none⟩ (V ρ) (A ρ))
  (hl:∀ ρ ρ':(i:Nat)→XS i,zkB XS ms i ρ ρ'→V ρ=V ρ'∧A ρ=A ρ') (k:PH5 N rd c ds pre ms T0 H K (i+1) r (⟨i,some d,some i,λ ρ=>V ρ (ρ i),λ ρ=>A ρ (ρ i)⟩ :: S)):PH5 N rd c ds pre ms T0 H K i (⟨some d,op,ty,ps,af,none⟩ :: r) S:=
 ⟨_,rfl,rfl,λ ρ ρ' hs=>by
  obtain⟨h1,h2⟩:=hl ρ ρ' (λ j hj=>hs j (.inl hj))
  have h3:=hs i (.inr I)
  exact⟨by show V ρ (ρ i)=V ρ' (ρ' i);rw [h1,h3],by show A ρ (ρ i)=A ρ' (ρ' i);rw [h2,h3]⟩,.inl (.inr (.inl ⟨rfl,rfl,V,A,λ _=>rfl,λ _=>rfl,hl,h⟩)),k⟩
theorem zIb {A R:((i:Nat)→XS i)→Res} (j:Nat) (h1:rcf ms i j=true) (h2:((List.range i).all λ r=>!rcf ms r j||rcf ms i r)=true) (h3:∀ ρ:(i:Nat)→XS i,zbe ρ (rcf ms i) j S=some (R ρ))
  (h:∀ ρ:(i:Nat)→XS i,zfW c ds (zdA ρ (zaT ⟨none,op,ty,ps,af,none⟩) S++zcl pre i T0) H ⟨none,op,ty,ps,af,none⟩ (R ρ) (A ρ))
  (hl:∀ ρ ρ':(i:Nat)→XS i,zkB XS ms i ρ ρ'→A ρ=A ρ') (k:PH5 N rd c ds pre ms T0 H K (i+1) r (⟨i,none,some j,λ _=>undef,A⟩ :: S)):PH5 N rd c ds pre ms T0 H K i (⟨none,op,ty,ps,af,none⟩ :: r) S:=
 ⟨_,rfl,rfl,λ ρ ρ' hs=>⟨rfl,hl ρ ρ' (λ j hj=>hs j (.inl hj))⟩,.inl (.inr (.inr ⟨rfl,j,rfl,h1,h2,λ ρ=>⟨R ρ,h3 ρ,h ρ⟩⟩)),k⟩
theorem zH9 {V V0:((i:Nat)→XS i)→Value} {j:Nat} {b:Bool} (hb:lk3 S j=some V0) (hb2:∀ ρ,V0 ρ=.bool b) (hj:zaT ⟨some d,op,ty,ps,af,some (j,true)⟩ j=true)
  (h:b=true→∀ ρ:(i:Nat)→XS i,Y c ds (zeS ρ (rcf ms i) S S++H) (zdA ρ (zaT ⟨some d,op,ty,ps,af,some (j,true)⟩) S++zcl pre i T0) ⟨some d,op,ty,ps,af,some (j,true)⟩ (V ρ))
  (hl:∀ ρ ρ':(i:Nat)→XS i,zkB XS ms i ρ ρ'→V ρ=V ρ') (k:PH5 N rd c ds pre ms T0 H K (i+1) r (⟨i,some d,none,λ ρ=>if b=true then V ρ else undef,λ _=>Emp⟩ :: S)) :
  PH5 N rd c ds pre ms T0 H K i (⟨some d,op,ty,ps,af,some (j,true)⟩ :: r) S:=
 ⟨_,rfl,rfl,λ ρ ρ' hs=>⟨by show(if b=true then V ρ else undef)=(if b=true then V ρ' else undef);rw [hl ρ ρ' (λ j hj=>hs j (.inl hj))],rfl⟩,.inr ⟨V0,_,b,V,hb,hb2,hj,by cases b <;> simp,rfl,rfl,λ _=>rfl,h⟩,k⟩
theorem zBT {A R:((i:Nat)→XS i)→Res} (j:Nat) (h1:Nat.ble N j=true) (h2:(S.all λ y=>!tIs y.t j||(Nat.ble N y.i||rcf ms i y.i))=true) (h4:rdOk rd ms i j=true) (h3:∀ ρ:(i:Nat)→XS i,zbe ρ (λ k=>Nat.ble N k||rcf ms i k) j S=some (R ρ))
  (h:∀ ρ:(i:Nat)→XS i,zfW c ds (zdA ρ (zaT ⟨none,op,ty,ps,af,none⟩) S++zcl pre i T0) H ⟨none,op,ty,ps,af,none⟩ (R ρ) (A ρ))
  (hl:∀ ρ ρ':(i:Nat)→XS i,zkB XS ms i ρ ρ'→A ρ=A ρ') (k:PH5 N rd c ds pre ms T0 H K (i+1) r (⟨i,none,some j,λ _=>undef,A⟩ :: S)):PH5 N rd c ds pre ms T0 H K i (⟨none,op,ty,ps,af,none⟩ :: r) S:=
 ⟨_,rfl,rfl,λ ρ ρ' hs=>⟨rfl,hl ρ ρ' (λ j hj=>hs j (.inl hj))⟩,.inr (.inl ⟨rfl,j,rfl,h1,h2,h4,λ ρ=>⟨R ρ,h3 ρ,h ρ⟩⟩),k⟩
theorem zFx {R:((i:Nat)→XS i)→Res} (V:XS i→Value) (A:XS i→Res) (j:Nat) (h1:Nat.ble N j=true) (h2:(S.all λ y=>!tIs y.t j||(Nat.ble N y.i||rcf ms i y.i))=true) (h5:rdOk rd ms i j=true) (h3:∀ ρ:(i:Nat)→XS i,zbe ρ (λ k=>Nat.ble N k||rcf ms i k) j S=some (R ρ))
  (h:∀ ρ:(i:Nat)→XS i,zCC c ds (zdA ρ (zaT ⟨some d,op,ty,ps,af,none⟩) S++zcl pre i T0) (zeS ρ (rcf ms i) S S++H) ⟨some d,op,ty,ps,af,none⟩ (R ρ) V A)
  (k:PH5 N rd c ds pre ms T0 H K (i+1) r (⟨i,some d,some j,λ ρ=>V (ρ i),λ ρ=>A (ρ i)⟩ :: S)):PH5 N rd c ds pre ms T0 H K i (⟨some d,op,ty,ps,af,none⟩ :: r) S:=
 ⟨_,rfl,rfl,λ ρ ρ' hs=>by
  have h3:=hs i (.inr I)
  exact⟨by show V (ρ i)=V (ρ' i);rw [h3],by show A (ρ i)=A (ρ' i);rw [h3]⟩,.inr (.inr (.inl ⟨rfl,j,rfl,h1,h2,h5,V,A,λ _=>rfl,λ _=>rfl,λ ρ=>⟨R ρ,h3 ρ,h ρ⟩⟩)),k⟩
theorem zBb {R:((i:Nat)→XS i)→Res} {V:((i:Nat)→XS i)→Value} (j:Nat) (h0:rd.any (λ q=>Nat.beq q.1 i&&Nat.beq q.2 j)=true) (h1:Nat.ble N j=true) (h2:(S.all λ y=>!tIs y.t j||Nat.ble N y.i)=true) (h3:∀ ρ:(i:Nat)→XS i,zbe ρ (λ k=>Nat.ble N k) j S=some (R ρ))
  (h:∀ ρ:(i:Nat)→XS i,Y c ds (R ρ :: H) (zdA ρ (zaT ⟨some d,op,ty,ps,af,none⟩) S++zcl pre i T0) ⟨some d,op,ty,ps,af,none⟩ (V ρ))
  (hl:∀ ρ ρ':(i:Nat)→XS i,zkB XS ms i ρ ρ'→V ρ=V ρ') (k:PH5 N rd c ds pre ms T0 H K (i+1) r (⟨i,some d,none,V,λ _=>Emp⟩ :: S)):PH5 N rd c ds pre ms T0 H K i (⟨some d,op,ty,ps,af,none⟩ :: r) S:=
 ⟨_,rfl,rfl,λ ρ ρ' hs=>⟨hl ρ ρ' (λ j hj=>hs j (.inl hj)),rfl⟩,.inr (.inr (.inr ⟨rfl,rfl,j,h0,h1,h2,λ ρ=>⟨R ρ,h3 ρ,h ρ⟩⟩)),k⟩
end
end Go.K
namespace Go.Stn
open Go Go.K Go.RowKit
abbrev W (n:Int):Int:=IntKind.i64.wrap n
abbrev encI (n:Int):List Value:=[.int .i64 n]
abbrev Ints (a:Option Addr) (l:List Int):Res:=zaW a 1 encI l
theorem encI_ok:Enc 1 encI:=⟨λ _=>rfl,λ _=>rfl,by decide⟩
abbrev zaP (n:Nat):Prop:=n≤1099511627776
abbrev Fits (n:Nat):Prop:=n≤140737488355328
def zee (s:yB) (i:Int):Int:=((s[i.toNat]?.getD 0).toNat:Int)
def allI (n:Nat) (p:Nat→Bool):Bool:=(List.range n).all p
theorem zdf {n:Nat} {p:Nat→Bool}:allI n p=true↔∀ i,i<n→p i=true:=by simp [allI]
theorem zdN {n:Nat} {p:Nat→Bool} (h:∀ i,i<n→p i=true):allI n p=true:=zdf.2 h
theorem zc9 {n i:Nat} {p:Nat→Bool} (hi:i<n) (h:p i=false):allI n p=false:=by
 cases hb:allI n p with
 | false=>rfl
 | true=>rw [zdf.1 hb i hi] at h;cases h
def zbJ {α:Type} (p:α→Bool) (l:List α):Int:=if l.any p=true then(l.findIdx p:Int) else -1
theorem zcs {α:Type} [Inhabited α] {p:α→Bool} {l:List α} {i:Int} (h0:0≤i) (h1:i<(l.length:Int)) (ha:∀ j:Nat,(j:Int)<i→p (l.getD j default)=false) (hp:p (l.getD i.toNat default)=true):zbJ p l=i:=by
 have hlt:i.toNat<l.length:=by omega
 have hp':p l[i.toNat]=true:=by simpa [hlt] using hp
 have hany:l.any p=true:=List.any_eq_true.2 ⟨l[i.toNat],List.getElem_mem hlt,hp'⟩
 have hidx:l.findIdx p=i.toNat:=(List.findIdx_eq hlt).2 ⟨hp',λ j hj=>by
  have:=ha j (by omega)
  have hj':j<l.length:=by omega
  simpa [hj'] using this⟩
 rw [zbJ,if_pos hany,hidx]
 omega
theorem zck {α:Type} [Inhabited α] {p:α→Bool} {l:List α} (ha:∀ j:Nat,j<l.length→p (l.getD j default)=false):zbJ p l = -1:=by
 have:¬ l.any p=true:=λ h=>by
  obtain⟨x,hx,hp⟩:=List.any_eq_true.1 h
  obtain⟨j,hj,rfl⟩:=List.getElem_of_mem hx
  have:=ha j hj
  simp [hj,hp] at this
 rw [zbJ,if_neg this]
theorem ze9 {α:Type} (p:α→Bool) (l:List α):decide (0≤zbJ p l)=l.any p:=by
 unfold zbJ
 cases h:l.any p with
 | true=>simp
 | false=>simp
theorem decode_low {s:yB} {i:Nat} (h:(s.get! i).toNat<128):Utf8.decode s i=((s.get! i).toNat,1):=by
 unfold Utf8.decode
 simp only [Nat.add_zero]
 rw [if_pos h]
theorem decode_high {s:yB} {i:Nat} (h:¬ (s.get! i).toNat<128):128≤(Utf8.decode s i).1∧1≤(Utf8.decode s i).2:=by
 unfold Utf8.decode
 simp only [Nat.add_zero]
 rw [if_neg h]
 simp only [Utf8.runeError]
 repeat' split
 all_goals simp_all
 all_goals omega
theorem zjc (s:yB) (i:Nat):1≤(Utf8.decode s i).2:=by
 by_cases h:(s.get! i).toNat<128
 ·rw [decode_low h];exact Nat.le_refl _
 ·exact(decode_high h).2
def zcj (f:Int→Bool) (s:yB) (p:Nat):Int:=
 if h:p<s.size then(if f ((Utf8.decode s p).1:Int)=true then(p:Int) else zcj f s (p+(Utf8.decode s p).2)) else -1
termination_by s.size - p
decreasing_by have:=zjc s p;omega
theorem zdW {f:Int→Bool} {s:yB} {p:Nat} (h:p<s.size) (hf:f ((Utf8.decode s p).1:Int)=true):zcj f s p=p:=by rw [zcj,dif_pos h,if_pos hf]
theorem zfj {f:Int→Bool} {s:yB} {p:Nat} (h:p<s.size) (hf:f ((Utf8.decode s p).1:Int)=false):zcj f s p=zcj f s (p+(Utf8.decode s p).2):=by
 conv=>lhs;rw [zcj,dif_pos h,if_neg (by rw [hf];exact fT)]
theorem zf5 {f:Int→Bool} {s:yB} {p:Nat} (h:¬ p<s.size):zcj f s p = -1:=by rw [zcj,dif_neg h]
def oddR (r:Int):Bool:=!(decide (97≤r)&&decide (r≤122))&&!(decide (48≤r)&&decide (r≤57))
def oddB (b:Int):Bool:=(decide (b<97)||decide (122<b))&&(decide (b<48)||decide (57<b))
def zgx (s:yB):Bool:=(decide (1≤(s.size:Int))&&decide ((s.size:Int)≤16))&&!decide (0≤zcj oddR s 0)
def zdY (s:yB):Bool:=allI s.size (λ i=>!oddB (zee s i))&&(decide (1≤(s.size:Int))&&decide ((s.size:Int)≤16))
theorem zqB {s:yB} {i:Int} (h0:0≤i) (h1:i<(s.size:Int)) (h:oddB (zee s i)=true):zdY s=false:=by
 rw [zdY,zc9 (i:=i.toNat) (by omega) (by rw [show((i.toNat:Nat):Int)=i from by omega,h];rfl)];rfl
theorem zos {s:yB} {i:Int} (h:∀ j:Nat,(j:Int)<i→oddB (zee s j)=false) (hi:(s.size:Int)≤i):zdY s=(decide (1≤(s.size:Int))&&decide ((s.size:Int)≤16)):=by
 rw [zdY,zdN (λ j hj=>by rw [h j (by omega)];rfl)];rfl
theorem zeV {s:yB} {p:Nat} (h:p<s.size):zee s (p:Int)=((s.get! p).toNat:Int):=by
 unfold zee
 have h1:s[((p:Nat):Int).toNat]?=some (s[p]'h):=by
  rw [show((p:Nat):Int).toNat=p from by omega]
  exact getElem?_pos s p h
 rw [h1]
 simp only [Option.getD_some]
 have h2:s.get! p=s[p]'h:=by
  cases s with
  | mk d=>
   simp only [ByteArray.get!]
   exact getElem!_pos d p h
 rw [h2]
theorem zqf {n:Nat}:oddR (n:Int)=oddB (n:Int):=by
 unfold oddR oddB
 rw [Bool.eq_iff_iff]
 simp <;> omega
theorem znB {n:Int} (h:128≤n):oddR n=true∧oddB n=true:=by
 unfold oddR oddB
 simp
 omega
theorem zmf (s:yB):∀ (m p:Nat),s.size - p=m→(0≤zcj oddR s p↔∃ j,p≤j∧j<s.size∧oddB (zee s (j:Nat))=true):=by
 intro m
 induction m using Nat.strongRecOn with
 | _ m ih=>
  intro p hm
  by_cases hp:p<s.size
  ·by_cases hlow:(s.get! p).toNat<128
   ·have hd:=decode_low hlow
    have hb:=zeV hp
    cases ho:oddB (zee s (p:Int)) with
    | true=>
     rw [zdW hp (by rw [hd];rw [hb] at ho;rw [zqf];exact ho)]
     exact⟨λ _=>⟨p,Nat.le_refl _,hp,ho⟩,λ _=>by omega⟩
    | false=>
     rw [zfj hp (by rw [hd];rw [hb] at ho;rw [zqf];exact ho),hd]
     rw [ih (s.size - (p+1)) (by omega) (p+1) I]
     constructor
     ·rintro ⟨j,h1,h2,h3⟩;exact⟨j,by omega,h2,h3⟩
     ·rintro ⟨j,h1,h2,h3⟩
      refine⟨j,?_,h2,h3⟩
      by_cases hj:j=p
      ·subst hj;rw [ho] at h3;cases h3
      ·omega
   ·have hd:=decode_high hlow
    rw [zdW hp (znB (by omega)).1]
    refine⟨λ _=>⟨p,Nat.le_refl _,hp,?_⟩,λ _=>by omega⟩
    rw [zeV hp]
    exact(znB (by omega)).2
  ·rw [zf5 hp]
   refine⟨λ h=>by omega,?_⟩
   rintro ⟨j,h1,h2,_⟩;omega
theorem znv (s:yB):zgx s=zdY s:=by
 unfold zgx zdY
 have h:=zmf s s.size 0 (by omega)
 have:(!decide (0≤zcj oddR s 0))=allI s.size (λ i=>!oddB (zee s i)):=by
  rw [Bool.eq_iff_iff,zdf]
  simp only [nT,dF,h]
  constructor
  ·intro hn i hi
   cases ho:oddB (zee s (i:Int)) with
   | false=>rfl
   | true=>exact absurd ⟨i,Nat.zero_le _,hi,ho⟩ hn
  ·rintro ha ⟨j,_,h2,h3⟩
   have:=ha j h2
   rw [h3] at this;cases this
 rw [this,Bool.and_comm]
theorem findI_lt {α:Type} (p:α→Bool) {l:List α} (h:0≤zbJ p l):zbJ p l<(l.length:Int):=by
 unfold zbJ at *
 split at h
 ·rename_i h1
  rw [if_pos h1]
  have:l.findIdx p<l.length:=List.findIdx_lt_length_of_exists (by simpa using h1)
  omega
 ·omega
theorem zmP {R:Res} {w:World}:∀ (X:List Res) (B C D:Nat→Prop),(∀ k,C k→B k)→(∀ k,D k→B k∧¬ C k)→All X C w→R.A D w→All (X++[R]) B w
 | [],_,_,D,_,hD,_,hR=>⟨D,λ _=>False,λ k hk=>(hD k hk).1,λ _ hk=>hk.elim,hR,trivial⟩
 | _ :: r,_,_,D,hC,hD,⟨C0,E0,h1,h2,hA,hr⟩,hR=>
  ⟨C0,λ k=>E0 k∨D k,λ k hk=>hC k (h1 k hk),λ k hk=>hk.elim (λ h=>⟨hC k (h2 k h).1,(h2 k h).2⟩) (λ h=>⟨(hD k h).1,λ h0=>(hD k h).2 (h1 k h0)⟩),hA,
   zmP r _ E0 D (λ _ h=>.inl h) (λ k h=>⟨.inr h,λ h0=>(hD k h).2 (h2 k h0).1⟩) hr hR⟩
theorem zoQ {R:Res} {w:World}:∀ (X:List Res) (B:Nat→Prop),(∀ k,B k→k<w.heap.size)→All X B w→R∈X→Has w R
 | _ :: r,_,hB,⟨C0,E0,h1,h2,hA,hr⟩,hm=>by
  rcases List.mem_cons.1 hm with rfl|hm
  ·exact⟨C0,λ k hk=>hB k (h1 k hk),hA⟩
  ·exact zoQ r E0 (λ k hk=>hB k (h2 k hk).1) hr hm
end Go.Stn
namespace Go.K
open Go Go.RowKit Go.Stn
def Rows {α:Type} (f:α→Res) (L:List α):Res:=SepR (L.map f)
section
variable {α:Type} {f:α→Res} {L:List α} {z:α} {B:Nat→Prop} {w:World}
theorem zsb:(Rows f []).A B w:=trivial
theorem zfr (h:(SepR [Rows f L,f z]).A B w):(Rows f (L++[z])).A B w:=by
 obtain⟨C,E,h1,h2,hA,D,_,h3,_,hR,_⟩:=h
 show All ((L++[z]).map f) B w
 rw [List.map_append]
 exact zmP _ B C D h1 (λ k hk=>h2 k (h3 k hk)) hA hR
theorem zbV (h:Has w (Rows f L)) (hz:z∈L):Has w (f z):=by
 obtain⟨B,hB,hA⟩:=h
 exact zoQ (R:=f z) _ B hB hA (List.mem_map.2 ⟨z,hz,rfl⟩)
end
section
variable {c:Cx} {ds:List Deferred} {T:List (Nat×Value)} {H:List Res} {K:Act→World→Prop}
theorem zjj {α:Type} (f:α→Res) (h:GK c ds K T (Rows f [] :: H)):GK c ds K T H:=λ a w ha hw=>
 h a w ha ⟨hw.base,λ _=>False,λ _ hk=>hk.elim,zsb,Holds.anti H (λ _ hk=>hk.elim id False.elim) hw.holds⟩
end
end Go.K
namespace Go.Pln
open Go Go.K Go.RowKit Go.Stn
structure Sht where
 name:ByteArray
 base:Int
 batter:Int
 height:Int
 skin:Int
 heights:List Int
 least:Int
 lap:Int
 run:Int
 every:Int
 at_:Int
 footing:Int
 spread:Int
 cope:Int
 tall:Int
 short:Int
 thick:Int
 low:Int
 high:Int
 rood:Int
structure Opn where
 kind:Int
 at_:Int
 width:Int
 frm:Int
 high:Int
structure Wll where
 name:ByteArray
 sheet:ByteArray
 length:Int
 opens:List Opn
instance:Inhabited Opn:=⟨⟨0,0,0,0,0⟩⟩
instance:Inhabited Sht:=⟨⟨⟨#[]⟩,0,0,0,0,[],0,0,0,0,0,0,0,0,0,0,0,0,0,0⟩⟩
instance:Inhabited Wll:=⟨⟨⟨#[]⟩,⟨#[]⟩,0,[]⟩⟩
structure ShC where
 s:Sht
 a:Option Addr
 cap:Nat
structure WlC where
 s:Wll
 a:Option Addr
 cap:Nat
instance:Inhabited ShC:=⟨⟨default,none,0⟩⟩
instance:Inhabited WlC:=⟨⟨default,none,0⟩⟩
abbrev zba (o:Opn):List Value:=[.int .u8 o.kind,.int .i64 o.at_,.int .i64 o.width,.int .i64 o.frm,.int .i64 o.high]
theorem zyn:Enc 5 zba:=⟨λ _=>rfl,λ _=>rfl,by decide⟩
abbrev zbH (z:ShC):List Value:=[.string z.s.name,O z.s.base,O z.s.batter,O z.s.height,O z.s.skin,.slice z.a z.s.heights.length z.cap,O z.s.least,O z.s.lap,O z.s.run,O z.s.every,O z.s.at_,
 O z.s.footing,O z.s.spread,.int .u8 z.s.cope,O z.s.tall,O z.s.short,O z.s.thick,O z.s.low,O z.s.high,O z.s.rood]
abbrev sV (s:Sht) (a:yO) (c:Nat):List Value:=[.string s.name,O s.base,O s.batter,O s.height,O s.skin,.slice a s.heights.length c,O s.least,O s.lap,O s.run,O s.every,O s.at_,O s.footing,O s.spread,.int .u8 s.cope,O s.tall,O s.short,O s.thick,O s.low,O s.high,O s.rood]
abbrev wV (v:Wll) (d:yO) (e:Nat):List Value:=[.string v.name,.string v.sheet,O v.length,.slice d v.opens.length e]
abbrev lV (v:Wll) (d:yO) (e:Nat) (s:Sht) (a:yO) (c:Nat) (p:Bool) (q r:Int):List Value:=[.string v.name,.string v.sheet,O v.length,.slice d v.opens.length e,.string s.name,O s.base,O s.batter,O s.height,O s.skin,.slice a s.heights.length c,O s.least,O s.lap,O s.run,O s.every,O s.at_,O s.footing,O s.spread,.int .u8 s.cope,O s.tall,O s.short,O s.thick,O s.low,O s.high,O s.rood,.bool p,O q,O r]
abbrev qV (v:Wll) (d:yO) (e:Nat) (s:Sht) (a:yO) (c:Nat) (p:Bool) (q r:Int) (v':Wll) (d':yO) (e':Nat) (s':Sht) (a':yO) (c':Nat) (p':Bool) (q' r':Int):Value:=.agg #[.string v.name,.string v.sheet,O v.length,.slice d v.opens.length e,.string s.name,O s.base,O s.batter,O s.height,O s.skin,.slice a s.heights.length c,O s.least,O s.lap,O s.run,O s.every,O s.at_,O s.footing,O s.spread,.int .u8 s.cope,O s.tall,O s.short,O s.thick,O s.low,O s.high,O s.rood,.bool p,O q,O r,.string v'.name,.string v'.sheet,O v'.length,.slice d' v'.opens.length e',.string s'.name,O s'.base,O s'.batter,O s'.height,O s'.skin,.slice a' s'.heights.length c',O s'.least,O s'.lap,O s'.run,O s'.every,O s'.at_,O s'.footing,O s'.spread,.int .u8 s'.cope,O s'.tall,O s'.short,O s'.thick,O s'.low,O s'.high,O s'.rood,.bool p',O q',O r']
theorem zbI:Enc 20 zbH:=⟨λ _=>rfl,λ _=>rfl,by decide⟩
abbrev zbS (z:WlC):List Value:=(wV z.s z.a z.cap)
theorem zbo:Enc 4 zbS:=⟨λ _=>rfl,λ _=>rfl,by decide⟩
abbrev rowH (e:TypeId) (z:ShC):Res:=Row z.a 1 z.cap e encI z.s.heights
abbrev rowO (e:TypeId) (z:WlC):Res:=Row z.a 5 z.cap e zba z.s.opens
def inB (n low high:Int):Bool:=decide (low≤n)&&decide (n≤high)
def zb5 (s:Sht) (z:Int):Int:=s.base - 2*(s.batter*z).tdiv 1000
def zce (s:Sht) (i:Nat):Int:=s.heights.getD (min i (s.heights.length - 1)) default
def zAt (s:Sht):Nat→Int
 | 0=>0
 | i+1=>zAt s i+zce s i
structure Crs where
 frm:Int
 to:Int
instance:Inhabited Crs:=⟨⟨0,0⟩⟩
abbrev zbq (c:Crs):List Value:=[O c.frm,O c.to]
theorem zax:Enc 2 zbq:=⟨λ _=>rfl,λ _=>rfl,by decide⟩
def crsN (s:Sht) (n:Nat):List Crs:=(List.range n).map λ i=>⟨zAt s i,zAt s (i+1)⟩
theorem zeC (s:Sht) (n:Nat):(crsN s n).length=n:=by simp [crsN]
theorem ze7 (s:Sht) (n:Nat):crsN s (n+1)=crsN s n++[⟨zAt s n,zAt s (n+1)⟩]:=by
 unfold crsN
 rw [List.range_succ,List.map_append];rfl
def zc5 (s:Sht) (i:Nat):Bool:=decide (zAt s i+zce s i≤s.height)
def cntF (s:Sht):Nat→Nat→Nat
 | 0,i=>i
 | f+1,i=>if zc5 s i=true then cntF s f (i+1) else i
def cnt (s:Sht):Nat:=cntF s (s.height.toNat+1) 0
theorem zo5 {s:Sht} {n:Nat} (hb:zc5 s n=false):∀ (f i:Nat),i≤n→n - i<f→(∀ j,i≤j→j<n→zc5 s j=true)→cntF s f i=n
 | 0,i,_,hf,_=>by omega
 | f+1,i,hi,hf,hu=>by
  rw [cntF]
  by_cases e:i=n
  ·subst e;rw [hb];rfl
  ·rw [if_pos (hu i (Nat.le_refl _) (by omega))]
   exact zo5 hb f (i+1) (by omega) (by omega) (λ j h1 h2=>hu j (by omega) h2)
theorem zlP {s:Sht} (h:∀ i,1≤zce s i):∀ n:Nat,(n:Int)≤zAt s n
 | 0=>by simp [zAt]
 | n+1=>by
  have:=zlP h n
  have:=h n
  rw [zAt];omega
theorem zsH {s:Sht} {n:Nat} (h:∀ i,1≤zce s i) (hb:zc5 s n=false) (hu:∀ j,j<n→zc5 s j=true):cnt s=n:=by
 refine zo5 hb _ 0 (Nat.zero_le _) ?_ (λ j _=>hu j)
 cases n with
 | zero=>omega
 | succ m=>
  have h1:=hu m (Nat.lt_succ_self _)
  unfold zc5 at h1
  rw [dT] at h1
  have h2:=zlP h m
  have h3:=h m
  omega
def zaj (s:Sht):List Crs:=
 let n:=cnt s
 let rest:=s.height - zAt s n
 if rest=0 then crsN s n
 else if s.least≤rest∨n=0 then crsN s n++[⟨zAt s n,s.height⟩]
 else(crsN s n).set (n - 1) ⟨(crsN s n).getD (n - 1) default |>.frm,s.height⟩
theorem ze6 {s:Sht} {n:Nat} (hc:cnt s=n) (h:s.height - zAt s n=0):zaj s=crsN s n:=by
 unfold zaj
 simp only [hc,if_pos h]
theorem ze5 {s:Sht} {n:Nat} (hc:cnt s=n) (h:¬ s.height - zAt s n=0) (h2:s.least≤s.height - zAt s n∨n=0):zaj s=crsN s n++[⟨zAt s n,s.height⟩]:=by
 unfold zaj
 simp only [hc,if_neg h,if_pos h2]
theorem ze4 {s:Sht} {n:Nat} (hc:cnt s=n) (h:¬ s.height - zAt s n=0) (h2:¬ (s.least≤s.height - zAt s n∨n=0)):zaj s=(crsN s n).set (n - 1) ⟨((crsN s n).getD (n - 1) default).frm,s.height⟩:=by
 unfold zaj
 simp only [hc,if_neg h,if_neg h2]
theorem zn7 {s:Sht} (h0:0≤s.height):∀ {n:Nat},(∀ j,j<n→zc5 s j=true)→zAt s n≤s.height
 | 0,_=>h0
 | n+1,hu=>by
  have:=hu n (Nat.lt_succ_self _)
  unfold zc5 at this
  rw [dT] at this
  rw [zAt];exact this
theorem zr8 {s:Sht} (h:∀ i,1≤zce s i) {n:Nat} (h0:0≤s.height) (hu:∀ j,j<n→zc5 s j=true):(n:Int)≤s.height:=by
 have:=zlP h n
 have:=zn7 h0 hu
 omega
theorem zme {s:Sht} (h0:0<s.heights.length) (h:∀ x∈s.heights,1≤x) (i:Nat):1≤zce s i:=by
 unfold zce
 refine h _ ?_
 have:min i (s.heights.length - 1)<s.heights.length:=by omega
 rw [gE,eG this]
 exact List.getElem_mem this
def zm3 (s:Sht):Bool:=
 if s.cope=0 then decide (s.tall=0)&&decide (s.short=0)&&decide (s.thick=0)
 else inB s.tall 1 1000&&inB s.thick 1 1000&&(if s.cope=3 then inB s.short 1 1000 else decide (s.short=0))&&decide (s.cope≤3)
def zgJ (s:Sht):Bool:=(decide (s.every=0)&&decide (s.at_=0))||(inB s.every 1 100000&&inB s.at_ 0 3000)
def zgy (s:Sht):Bool:=inB s.base 1 3000&&inB s.batter 0 500&&inB s.height 1 3000&&inB s.skin 1 1500&&inB s.heights.length 1 12&&inB s.least 1 1000&&inB s.lap 0 500&&inB s.run 1 20&&inB s.footing 0 1000&&inB s.spread 0 1000&&inB s.low 0 s.high&&inB s.high 0 2000&&inB s.rood 1 100000
def zfY (len top:Int) (o:Opn):Bool:=
 (inB o.kind 1 4&&inB len 1 100000&&inB o.width 1 len&&inB o.at_ 0 (len - o.width)&&inB o.high 1 top&&inB o.frm 0 (top - o.high)) &&
  ((!decide (o.kind=3)||decide (o.frm+o.high=top))&&(!decide (o.kind=4)||(decide (o.frm+o.high=top)&&decide (o.frm=0))))
def zs8 (len top:Int) (o:Opn):Bool:=
 !((!inB o.kind 1 4||!inB o.at_ 0 len||!inB o.width 1 len||decide (len<o.at_+o.width)||!inB o.frm 0 top||!inB o.high 1 top||decide (top<o.frm+o.high)) ||
  ((decide (3≤o.kind)&&!decide (o.frm+o.high=top))||(decide (o.kind=4)&&!decide (o.frm=0))))
theorem ztN {len top:Int} {o:Opn} (h:inB len 1 100000=true):zfY len top o=zs8 len top o:=by
 rw [Bool.eq_iff_iff]
 unfold zfY zs8
 rw [h]
 unfold inB
 simp only [aT,Bool.or_eq_true,nT,oF,Bool.and_eq_false_iff,nF,dT,dF,and_true]
 constructor
 ·rintro ⟨⟨⟨⟨⟨⟨a1,a2⟩,a3,a4⟩,a5,a6⟩,a7,a8⟩,a9,a10⟩,b1,b2⟩
  omega
 ·intro h
  omega
def zea (o p:Opn):Bool:=decide (o.at_<p.at_+p.width)&&decide (p.at_<o.at_+o.width)&&decide (o.frm<p.frm+p.high)&&decide (p.frm<o.frm+o.high)
def zhI (o q:Opn):Bool:=decide (o.at_+o.width≤q.at_)||decide (q.at_+q.width≤o.at_)||decide (o.frm+o.high≤q.frm)||decide (q.frm+q.high≤o.frm)
theorem znr (o p:Opn):zea o p = !zhI o p:=by
 rw [Bool.eq_iff_iff]
 unfold zea zhI
 simp only [aT,nT,oF,dT,dF]
 omega
def zcI (top:Int) (w:Wll) (i:Nat):Bool:=zfY w.length top (w.opens.getD i default)&&!((w.opens.take i).any λ q=>zea (w.opens.getD i default) q)
def zd1 (top:Int) (w:Wll):Bool:=zdY w.name&&inB w.length 1 100000&&inB w.opens.length 0 20&&allI w.opens.length λ i=>zcI top w i
def zaS (S:List ShC) (n:yB):Int:=zbJ (λ z=>z.s.name.toList == n.toList) S
def zaM (W:List WlC) (n:yB):Int:=zbJ (λ z=>z.s.name.toList == n.toList) W
structure Lim where
 n:Int
 lo:Int
 hi:Int
instance:Inhabited Lim:=⟨⟨0,0,0⟩⟩
abbrev zgk (x:Lim):List Value:=[O x.n,O x.lo,O x.hi]
theorem zbM:Enc 3 zgk:=⟨λ _=>rfl,λ _=>rfl,by decide⟩
def outB (x:Lim):Bool:=decide (x.n<x.lo)||decide (x.hi<x.n)
def zhr (l:List Lim):Bool:=!l.any outB
theorem zdI:zhr []=true:=rfl
theorem zcC (x:Lim) (l:List Lim):zhr (x :: l)=(inB x.n x.lo x.hi&&zhr l):=by
 have h:(!outB x)=inB x.n x.lo x.hi:=by
  rw [Bool.eq_iff_iff]
  unfold outB inB
  simp only [nT,oF,dF,aT,dT]
  omega
 unfold zhr
 rw [List.any_cons,Bool.not_or,h]
def zfv (s:Sht) (z:Int):Int:=W (s.base - W (2*W ((W (s.batter*z)).tdiv 1000)))
def oddN (r:Int):Bool:=decide (r<48)||decide (57<r)
def numW (s:yB):Bool:=(((!(s.toList == (⟨#[]⟩:yB).toList))&&(decide ((s.size:Int)≤6)))&&(!decide (0≤zcj oddN s 0)))&&((!decide (zee s 0=48))||(s.toList == (⟨#[48]⟩:yB).toList))
def zdJ (s:Sht):Bool:=(decide (s.every=0)&&decide (s.at_=0))||zhr [⟨s.every,1,100000⟩,⟨s.at_,0,3000⟩]
def znz (s:Sht):Bool:=zhr [⟨s.base,1,3000⟩,⟨s.batter,0,500⟩,⟨s.height,1,3000⟩,⟨s.skin,1,1500⟩,⟨(s.heights.length:Int),1,12⟩,⟨s.least,1,1000⟩,⟨s.lap,0,500⟩,⟨s.run,1,20⟩,⟨s.footing,0,1000⟩,⟨s.spread,0,1000⟩,⟨s.low,0,s.high⟩,⟨s.high,0,2000⟩,⟨s.rood,1,100000⟩]
def zgP (h:Int):Bool:=!zhr [⟨h,1,1000⟩]
def zgh (s:Sht):Bool:=
 if s.cope=0 then(decide (s.tall=0)&&decide (s.short=0))&&decide (s.thick=0)
 else if s.cope=1∨s.cope=2 then zhr [⟨s.tall,1,1000⟩,⟨s.short,0,0⟩,⟨s.thick,1,1000⟩]
 else if s.cope=3 then zhr [⟨s.tall,1,1000⟩,⟨s.short,1,1000⟩,⟨s.thick,1,1000⟩]
 else false
def badP (s:Sht):Bool:=(((!zgx s.name||!zdJ s)||!znz s)||s.heights.any zgP)||!zgh s
theorem zqZ (h:Int):zgP h = !inB h 1 1000:=by
 unfold zgP
 rw [zcC,zdI,Bool.and_true]
theorem zjz (l:List Int):l.any zgP = !l.all (λ h=>inB h 1 1000):=by
 rw [show zgP=λ h=>!inB h 1 1000 from funext zqZ]
 induction l with
 | nil=>rfl
 | cons x r ih=>rw [List.any_cons,List.all_cons,ih,Bool.not_and]
theorem ziP (s:Sht):zdJ s=zgJ s:=by
 unfold zdJ zgJ
 rw [zcC,zcC,zdI,Bool.and_true]
theorem zir (s:Sht):znz s=zgy s:=by
 unfold znz zgy
 simp only [zcC,zdI,Bool.and_true,Bool.and_assoc]
theorem zt4 (n:Int):inB n 0 0=decide (n=0):=by
 rw [Bool.eq_iff_iff]
 unfold inB
 simp only [aT,dT]
 omega
theorem zo9 {s:Sht} (h:0≤s.cope):zgh s=zm3 s:=by
 unfold zgh zm3
 by_cases h0:s.cope=0
 ·rw [if_pos h0,if_pos h0]
 ·rw [if_neg h0,if_neg h0]
  by_cases h1:s.cope=1∨s.cope=2
  ·rw [if_pos h1,if_neg (show ¬ s.cope=3 by omega),decide_eq_true (show s.cope≤3 by omega)]
   simp only [zcC,zdI,Bool.and_true,zt4]
   cases inB s.tall 1 1000 <;> cases inB s.thick 1 1000 <;> cases decide (s.short=0) <;> rfl
  ·rw [if_neg h1]
   by_cases h3:s.cope=3
   ·rw [if_pos h3,if_pos h3,decide_eq_true (show s.cope≤3 by omega)]
    simp only [zcC,zdI,Bool.and_true]
    cases inB s.tall 1 1000 <;> cases inB s.thick 1 1000 <;> cases inB s.short 1 1000 <;> rfl
   ·rw [if_neg h3,if_neg h3,decide_eq_false (show ¬ s.cope≤3 by omega),Bool.and_false]
structure Nums (s:Sht):Prop where
 base:1≤s.base∧s.base≤3000
 batter:0≤s.batter∧s.batter≤500
 height:1≤s.height∧s.height≤3000
 skin:1≤s.skin∧s.skin≤1500
 len:1≤s.heights.length∧s.heights.length≤12
 least:1≤s.least∧s.least≤1000
 each:∀ h∈s.heights,1≤h∧h≤1000
 rood:1≤s.rood∧s.rood≤100000
 foot:0≤s.footing∧s.footing≤1000∧0≤s.spread∧s.spread≤1000
theorem zul {s:Sht} (h1:zgy s=true) (h2:s.heights.all (λ h=>inB h 1 1000)=true):Nums s:=by
 unfold zgy inB at h1
 simp only [aT,dT] at h1
 rw [List.all_eq_true] at h2
 refine⟨by omega,by omega,by omega,by omega,by omega,by omega,λ h hh=>?_,by omega,by omega⟩
 have:=h2 h hh
 unfold inB at this
 simpa only [aT,dT] using this
theorem zbr {n:Int} (h1:-9223372036854775808≤n) (h2:n≤9223372036854775807):W n=n:=zeA h1 h2
theorem zfM {s:Sht} {z:Int} (h1:0≤s.batter∧s.batter≤500) (h2:1≤s.base∧s.base≤3000) (h0:0≤z) (h3:z≤3000):zfv s z=zb5 s z:=by
 have hm:0≤s.batter*z:=Int.mul_nonneg h1.1 h0
 have hM:s.batter*z≤500*3000:=Int.mul_le_mul h1.2 h3 h0 (by omega)
 have hd0:0≤(s.batter*z).tdiv 1000:=Int.tdiv_nonneg hm (by omega)
 have hd1:(s.batter*z).tdiv 1000≤500*3000:=by
  rw [Int.tdiv_eq_ediv_of_nonneg hm];omega
 unfold zfv zb5
 rw [zbr (n:=s.batter*z) (by omega) (by omega),zbr (n:=(s.batter*z).tdiv 1000) (by omega) (by omega),zbr (n:=2*_) (by omega) (by omega),zbr (by omega) (by omega)]
theorem zgZ {s:Sht} (h:badP s=false):Nums s:=by
 unfold badP at h
 simp only [oF,nF] at h
 exact zul (by rw [←zir];exact h.1.1.2) (by have:=h.1.2;rw [zjz,nF] at this;exact this)
end Go.Pln
namespace Go.Proofs.YteepmmghanbllaaGreatDoor
open Go.K Go.Stn Go.Pln Go.RowKit
theorem tf3:TF Tryz.prog 3 false 1 (O 0):=tK
theorem tf5:TF Tryz.prog 5 false 1 (.int .u8 0):=tK
theorem zH5:TF Tryz.prog 236 true 3 (.agg #[O 0,O 0,O 0]):=tK
theorem zCg:FO Tryz.prog 118 1 1:=fK
theorem zCh:FO Tryz.prog 118 2 2:=fK
theorem zCJ:FO Tryz.prog 118 13 13:=fK
theorem zzh:FO Tryz.prog 118 14 14:=fK
theorem zzx:FO Tryz.prog 118 15 15:=fK
theorem zzy:FO Tryz.prog 118 16 16:=fK
theorem zCl:FO Tryz.prog 135 1 1:=fK
theorem zCm:FO Tryz.prog 135 2 2:=fK
theorem zDT:FO Tryz.prog 236 0 0:=fK
theorem zF8:FO Tryz.prog 236 1 1:=fK
theorem zF9:FO Tryz.prog 236 2 2:=fK
theorem se45:SE Tryz.prog 45 3 1:=⟨Tryz.underlying45,by kernel_rfl⟩
theorem zH2:SE Tryz.prog 257 236 3:=⟨Tryz.underlying257,by kernel_rfl⟩
theorem zHy:En Tryz.prog 102:=eK Tryz.func102
theorem zF1:En Tryz.prog 108:=eK Tryz.func108
theorem zAY:En Tryz.prog 130:=eK Tryz.func130
theorem zHD:En Tryz.prog 141:=eK Tryz.func141
theorem zHG:En Tryz.prog 153:=eK Tryz.func153
theorem zxj:En Tryz.prog 154:=eK Tryz.func154
theorem zxk:En Tryz.prog 155:=eK Tryz.func155
theorem zvU:En Tryz.prog 157:=eK Tryz.func157
theorem zHI:En Tryz.prog 168:=eK Tryz.func168
theorem zyk (x0 x1 x2:Int) (w:World):(Instr.build 236 #[(0,O x0),(1,O x1),(2,O x2)]).run Tryz.prog w=.ok (.agg #[O x0,O x1,O x2]) w:=by kernel_rfl
theorem zFT (x0_0 x0_1 x0_2:Int) (w:World):(Instr.buildSlice 257 1 #[(0,.agg #[O x0_0,O x0_1,O x0_2])]).run Tryz.prog w=.ok (C (some ⟨w.heap.size,0,none⟩) 1 1) (w.alloc (.cells (([⟨x0_0,x0_1,x0_2⟩]:List (Lim)).flatMap zgk).toArray 236)):=by kernel_rfl
theorem zBi (x0_0 x0_1 x0_2 x1_0 x1_1 x1_2 x2_0 x2_1 x2_2:Int) (w:World):(Instr.buildSlice 257 3 #[(0,.agg #[O x0_0,O x0_1,O x0_2]),(1,.agg #[O x1_0,O x1_1,O x1_2]),(2,.agg #[O x2_0,O x2_1,O x2_2])]).run Tryz.prog w=.ok (C (some ⟨w.heap.size,0,none⟩) 3 3) (w.alloc (.cells (([⟨x0_0,x0_1,x0_2⟩,⟨x1_0,x1_1,x1_2⟩,⟨x2_0,x2_1,x2_2⟩]:List (Lim)).flatMap zgk).toArray 236)):=by kernel_rfl
theorem mixed:Tryz.prog.follows .mixedOrders=true:=by kernel_rfl
abbrev yap (w:World) (M:World→Prop):=∀ w',Ext w w'→M w'
abbrev yal (M:World→Prop) (gg:FuncId) (gcap:List Value) (f:Int→Bool):=∀ r w',M w'→Calls Tryz.prog gg ([Value.int .i32 r]++gcap).toArray w' (Pure (.bool (f r)) w')
theorem zlE (s:yB) (f:Int→Bool) (gg:FuncId) (gcap:List Value) (w:World)  (M:World→Prop) (hM:yap w M) (hen:En Tryz.prog gg) (hg:yal M gg gcap f) :
  Calls Tryz.prog 157 #[.string s,.func (.func gg) #[] gcap.toArray,.bool true] w (Pure (O (zcj f s 0)) w):=by
 refine zan (vs:=[_,_,_]) Tryz.func157 I I (bL I) (gS (gA I (gN [0,1,2,6] I (zac (gS (gM I (zaG I I (zmN (Tryz.underlying9) I) λ b10=>(gN [1,2,6,10] I (zas (zbf (X:=Nat) (λ(p:Nat)=>[(1,.func (.func gg) #[] gcap.toArray),(2,.bool true),(6,O 0),(10,Z b10)]) (λ(p:Nat)=>[Iter b10 s p]) (λ(p:Nat)=>(zcj f s p=zcj f s 0)) (λ(p:Nat)=>s.size - p) 0 ⟨I,I,I,I,trivial⟩ rfl ?_ ?_))))))))))
 ·exact rfl
 ·rintro p hI
  refine gS (zoi 0 I I I (λ hnx=>?_) (λ hnx=>?_))
  ·refine gQ (zaB I I) (gN [1,2,6,10,11,12] I (zac (zdg I (zaq (zas (gS (gQ (zaB I I) (gQ (zaB I I) (gA I (gA I (gN [1,2,6,7,8,10] I (gS (gM I (gM I (gQ (zde (fs:=[]) (cap:=gcap) hen I I (λ w hw=>hg _ w (hM _ hw.base.ext0))) (gM I (gQ (zsx (Tryz.underlying4) I I) (gN [1,2,6,7,10,19] I (zap I (λ hc19=>?_) (λ hc19=>?_))))))))))))))))))))
   ·refine gS (gM I (gA I (gN [1,2,6,10] I (zaw (zay (zaC I (zau I)) ?_)))))
    exact congrArg _ ((zdW hnx (by simpa using hc19)).symm.trans hI)
   ·refine zaq ?_
    exact za1 _ ⟨I,I,I,I,trivial⟩ rfl ((zfj hnx (by simpa using hc19)).symm.trans hI) (by have:=zjc s p;omega)
  ·refine gQ (zaB I I) (gN [1,2,6,10,11,12] I (zac (zd8 I (za8 I (gS (gA I (gN [6] I (zaw (zay (zaC I (zau I)) ?_)))))))))
   exact congrArg _ ((zf5 hnx).symm.trans hI)
theorem zly (s:yB) (f:Int→Bool) (gg:FuncId) (gcap:List Value) (w:World)  (M:World→Prop) (hM:yap w M) (hen:En Tryz.prog gg) (hg:yal M gg gcap f) :
  Calls Tryz.prog 141 #[.string s,.func (.func gg) #[] gcap.toArray] w (Pure (O (zcj f s 0)) w):=by
 refine zan (vs:=[_,_]) Tryz.func141 I I (bL I) (gS (gA I (gN [0,1,4] I (gS (gM I (gM I (gQ (zaJ zvU I (λ w hw=>zlE s f _ _ w M (λ w' h=>hM w' (hw.base.ext0.trans h)) hen hg)) (gA I (gN [4] I (zaw (zay (zaC I (zau I)) ?_)))))))))))
 rfl
theorem ziD (s:yB) (f:Int→Bool) (gg:FuncId) (gcap:List Value) (w:World)  (M:World→Prop) (hM:yap w M) (hen:En Tryz.prog gg) (hg:yal M gg gcap f) :
  Calls Tryz.prog 108 #[.string s,.func (.func gg) #[] gcap.toArray] w (Pure (.bool (decide (0≤zcj f s 0))) w):=by
 refine zan (vs:=[_,_]) Tryz.func108 I I (bL I) (gS (gA I (gN [0,1,4] I (gS (gM I (gM I (gQ (zaJ zHD I (λ w hw=>zly s f _ _ w M (λ w' h=>hM w' (hw.base.ext0.trans h)) hen hg)) (gQ (zfx I I) (gA I (gN [4] I (zaw (zay (zaC I (zau I)) ?_))))))))))))
 rfl
theorem zrK (r:Int) (w:World)  :
  Calls Tryz.prog 155 #[.int .i32 r] w (Pure (.bool (oddR r)) w):=by
 refine zan (vs:=[_]) Tryz.func155 I I (bL I) (gS (gA I (gN [0,2] I (zac (gZ 17 (ph_y (zaf I) (ph_y (zfx I I) (ph_y (zaf I) (zaH I I (λ jj=>by(try rw [jj]);exact zaf I) (zaH I I (λ jj=>by(try rw [jj]);exact zeT I I) (ph_y (zaX I I I) (ph_y (zbR I) (ph_y (zaf I) (zaH I I (λ jj=>by(try rw [jj]);exact zaf I) (zaH I I (λ jj=>by(try rw [jj]);exact zfx I I) (zaH I I (λ jj=>by(try rw [jj]);exact zaf I) (zdr I I (λ jj=>by(try rw [jj]);exact zaf I) (zdr I I (λ jj=>by(try rw [jj]);exact zeT I I) (zaH I I (λ jj=>by(try rw [jj]);exact zaX I I I) (zaH I I (λ jj=>by(try rw [jj]);exact zbR I) (ph_y (zaX I I I) (ph_y (zad I) (gN [2] I (zaw (zay (zaC I (zau I)) ?_)))))))))))))))))))))))))
 rfl
def zs2 (s:yB):Bool:=((!(s.toList == (⟨#[]⟩:yB).toList))&&(decide ((s.size:Int)≤16)))&&(!(decide (0≤zcj oddR s 0)))
theorem zoA (s:yB):(s.toList == (⟨#[]⟩:yB).toList)=decide ((s.size:Int)<1):=by
 rw [ByteArray.toList_eq,ByteArray.toList_eq,Bool.eq_iff_iff,beq_iff_eq,dT]
 have hz:s.size=s.data.toList.length:=rfl
 rw [hz]
 constructor
 ·intro h
  rw [h];decide
 ·intro h
  have h0:s.data.toList.length=0:=by omega
  rw [List.length_eq_zero_iff.1 h0]
theorem zqb (s:yB):zs2 s=zgx s:=by
 unfold zs2 zgx
 rw [zoA,Bool.eq_iff_iff]
 simp only [aT,nT,dF,dT]
 omega
theorem zmo (s:yB) (w:World)  :
  Calls Tryz.prog 132 #[.string s] w (Pure (.bool (zgx s)) w):=by
 refine zan (vs:=[_]) Tryz.func132 I I (bL I) (gS (gA I (gN [0,2] I (gS (gA I (gN [0,2,3] I (zac (gZ 14 (ph_y (zaf I) (ph_y (ziV I I) (ph_y (zaf I) (zaH I I (λ jj=>by(try rw [jj]);exact zaf I) (zaH I I (λ jj=>by(try rw [jj]);exact zeO (Tryz.underlying9) I) (zaH I I (λ jj=>by(try rw [jj]);exact zeT I I) (ph_y (zaX I I I) (ph_y (zaf I) (zaH I I (λ jj=>by(try rw [jj]);exact zaf I) (zaH I I (λ jj=>by(try rw [jj]);exact zaf I) (zaH I I (λ jj=>by(try rw [jj]);exact zaJ (v:=.bool (decide (0≤zcj oddR s 0))) zF1 I (λ w hw=>ziD s oddR _ [] w (λ _=>True) (λ _ _=>trivial) zxk (λ r w _=>zrK r w))) (zaH I I (λ jj=>by(try rw [jj]);exact zbR I) (ph_y (zaX I I I) (ph_y (zad I) (gN [2] I (zaw (zay (zaC I (zau I)) ?_)))))))))))))))))))))))))
 exact congrArg _ (zqb s)
theorem znM (s:yB) (w:World) (hs:Fits s.size) :
  Calls Tryz.prog 85 #[.string s] w (Pure (.bool (zdY s)) w):=by
 refine zan (vs:=[_]) Tryz.func85 I I (bL I) (gS (gA I (gN [0,2] I (zac (gS (gA I (gN [0,2,3] I (zas (zbf (X:=Int) (λ(i:Int)=>[(0,.string s),(2,.bool false),(3,O i)]) (λ(i:Int)=>[]) (λ(i:Int)=>(0≤i∧i≤s.size∧∀ j:Nat,(j:Int)<i→oddB (zee s j)=false)) (λ(i:Int)=>(s.size - i).toNat) 0 ⟨I,I,I,trivial⟩ rfl ?_ ?_)))))))))
 ·exact⟨by omega,by omega,λ j hj=>by omega⟩
 ·rintro i hI
  obtain⟨g0,g1,g2⟩:=hI
  refine zac (gS (gM I (gM I (gQ (zeO (Tryz.underlying9) I) (gQ (zbw I I) (gN [0,2,3,7] I (zap I (λ hc7=>?_) (λ hc7=>?_))))))))
  ·simp only [dT] at hc7
   refine zaq (zac (zas (zac (gZ 22 (ph_y (zaf I) (ph_y (zaf I) (ph_y (zdM (Tryz.underlying9) I I (by omega) (by omega)) (ph_y (zbw I I) (ph_y (zaf I) (zaz I I (λ jj=>by(try rw [jj]);exact zaf I) (zaz I I (λ jj=>by(try rw [jj]);exact zaf I) (zaz I I (λ jj=>by(try rw [jj]);exact zdM (Tryz.underlying9) I I (by omega) (by omega)) (zaz I I (λ jj=>by(try rw [jj]);exact zc6 I I) (ph_y (zaR I I I) (ph_y (zaf I) (zaH I I (λ jj=>by(try rw [jj]);exact zaf I) (zaH I I (λ jj=>by(try rw [jj]);exact zaf I) (zaH I I (λ jj=>by(try rw [jj]);exact zdM (Tryz.underlying9) I I (by omega) (by omega)) (zaH I I (λ jj=>by(try rw [jj]);exact zbw I I) (zaH I I (λ jj=>by(try rw [jj]);exact zaf I) (zc0 I I (λ jj=>by(try rw [jj]);exact zaf I) (zc0 I I (λ jj=>by(try rw [jj]);exact zaf I) (zc0 I I (λ jj=>by(try rw [jj]);exact zdM (Tryz.underlying9) I I (by omega) (by omega)) (zc0 I I (λ jj=>by(try rw [jj]);exact zc6 I I) (zaH I I (λ jj=>by(try rw [jj]);exact zaR I I I) (ph_y (zaX I I I) (gN [0,2,3,31] I (zap I (λ hc31=>?_) (λ hc31=>?_)))))))))))))))))))))))))))))
   ·refine gS (gA I (gN [0,2,3] I (zaw (zay (zaC I (zau I)) ?_))))
    exact congrArg _ (zqB g0 (by omega) hc31).symm
   ·refine zaq (zaa (gM I (gQ (zaY I I) (gA I (gN [0,2,3] I ?_)))))
    exact za1 _ ⟨I,I,I,trivial⟩ rfl ⟨by omega,by omega,λ j hj=>if h:(j:Int)<i then g2 j h else(by rw [show(j:Int)=i from by omega];exact hc31)⟩ (by omega)
  ·simp only [dF] at hc7
   refine za8 I (zac (gZ 9 (ph_y (zaf I) (ph_y (zeO (Tryz.underlying9) I) (ph_y (zfx I I) (ph_y (zaf I) (zaH I I (λ jj=>by(try rw [jj]);exact zaf I) (zaH I I (λ jj=>by(try rw [jj]);exact zeO (Tryz.underlying9) I) (zaH I I (λ jj=>by(try rw [jj]);exact zeT I I) (ph_y (zaX I I I) (ph_y (zad I) (gN [2] I (zaw (zay (zaC I (zau I)) ?_))))))))))))))
   exact congrArg _ (zos g2 (by omega)).symm
theorem in_c (n lo hi:Int) (w:World)  :
  Calls Tryz.prog 142 #[O n,O lo,O hi] w (Pure (.bool (inB n lo hi)) w):=by
 refine zan (vs:=[_,_,_]) Tryz.func142 I I (bL I) (gS (gA I (gN [0,1,2,6] I (zac (gZ 9 (ph_y (zaf I) (ph_y (zaf I) (ph_y (zfx I I) (ph_y (zaf I) (zaH I I (λ jj=>by(try rw [jj]);exact zaf I) (zaH I I (λ jj=>by(try rw [jj]);exact zaf I) (zaH I I (λ jj=>by(try rw [jj]);exact zeT I I) (ph_y (zaX I I I) (ph_y (zad I) (gN [6] I (zaw (zay (zaC I (zau I)) ?_)))))))))))))))))
 rfl
theorem zlc (a:yO) (cap:Nat) (l:List Lim) (f:Lim→Bool) (gg:FuncId) (gfs gcap:List Value) (w:World) (hl:Has w (zaW a 3 zgk l)) (hs:zaP l.length) (M:World→Prop) (hM:yap w M) (hen:En Tryz.prog gg) (hg:∀ (z:Lim) w',M w'→Calls Tryz.prog gg (gfs++[Value.agg #[O z.n,O z.lo,O z.hi]]++gcap).toArray w' (Pure (.bool (f z)) w')) :
  Calls Tryz.prog 168 #[C a l.length cap,.func (.func gg) gfs.toArray gcap.toArray] w (Pure (O (zbJ f l)) w):=by
 refine zan (vs:=[_,_]) Tryz.func168 I I (bL I) (gS (gA I (gN [0,1,4] I (zac (gS (gM I (gQ (zaV (Tryz.underlying257) I) (gM I (gN [0,1,4,7,8] I (zas (zbf (X:=Int) (λ(i:Int)=>[(0,C a l.length cap),(1,.func (.func gg) gfs.toArray gcap.toArray),(4,O 0),(7,O (l.length:Int)),(8,O i)]) (λ(i:Int)=>[]) (λ(i:Int)=>(0≤i∧i≤l.length∧∀ j:Nat,(j:Int)<i→f (l.getD j default)=false)) (λ(i:Int)=>(l.length - i).toNat) 0 (sB I) I ?_ ?_)))))))))))
 ·exact⟨by omega,by omega,λ j hj=>by omega⟩
 ·rintro i hI
  obtain⟨g0,g1,g2⟩:=hI
  refine gS (gQ (zbw I I) (gN [0,1,4,7,8,9] I (zac (zap I (λ hc9=>?_) (λ hc9=>?_)))))
  ·simp only [dT] at hc9
   refine zaq (zac (zas (gS (gM I (gA I (gN [0,1,4,5,7,8] I (gS (gM I (gM I (gM I (gQ (zaE zH2 I I (λ _=>rH hl)) (gQ (zbv (vs:=[_,_,_]) zH5 I (λ _=>rH hl) (by omega) (by omega) I) (gQ (zde (fs:=gfs) (cap:=gcap) hen I I (λ w hw=>hg (l.getD i.toNat default) w (hM _ hw.base.ext0))) (gN [0,1,4,5,7,8,16] I (zap I (λ hc16=>?_) (λ hc16=>?_))))))))))))))))
   ·refine gS (gM I (gA I (gN [0,1,4,7,8] I (zaw (zay (zaC I (zau I)) ?_)))))
    exact congrArg _ (zcs g0 (by omega) g2 hc16).symm
   ·refine zaq (zaa (gQ (zaY I I) (gM I (gN [0,1,4,7,8] I ?_))))
    exact za1 _ (sB I) I ⟨by omega,by omega,λ j hj=>if h:(j:Int)<i then g2 j h else(by rw [show j=i.toNat from by omega];exact hc16)⟩ (by omega)
  ·simp only [dF] at hc9
   refine za8 I (gS (gA I (gN [4] I (zaw (zay (zaC I (zau I)) ?_)))))
   exact congrArg _ (zck (λ j hj=>g2 j (by omega))).symm
theorem zhQ (a:yO) (cap:Nat) (l:List Lim) (f:Lim→Bool) (gg:FuncId) (gfs gcap:List Value) (w:World) (hl:Has w (zaW a 3 zgk l)) (hs:zaP l.length) (M:World→Prop) (hM:yap w M) (hen:En Tryz.prog gg) (hg:∀ (z:Lim) w',M w'→Calls Tryz.prog gg (gfs++[Value.agg #[O z.n,O z.lo,O z.hi]]++gcap).toArray w' (Pure (.bool (f z)) w')) :
  Calls Tryz.prog 153 #[C a l.length cap,.func (.func gg) gfs.toArray gcap.toArray] w (Pure (.bool (l.any f)) w):=by
 refine zan (vs:=[_,_]) Tryz.func153 I I (bL I) (gS (gA I (gN [0,1,4] I (gS (gM I (gM I (gQ (zaJ zHI I (λ w hw=>zlc _ _ l f _ _ _ w (rH hl hw) (by assumption) M (λ w' h=>hM w' (hw.base.ext0.trans h)) hen hg)) (gQ (zfx I I) (gA I (gN [4] I (zaw (zay (zaC I (zau I)) ?_))))))))))))
 rw [ze9]
theorem zt7 (x:Lim) (w:World)  :
  Calls Tryz.prog 154 #[.agg #[O x.n,O x.lo,O x.hi]] w (Pure (.bool (outB x)) w):=by
 refine zan (vs:=[_]) Tryz.func154 I I (bL I) (gS (zaG I I (za3 (vs:=[_,_,_]) I I) λ b1=>(gA I (gN [1,2] I (zac (gZ 13 (ph_y (zab zDT I) (ph_y (zah 0 tf3 I I I) (ph_y (zab zF8 I) (ph_y (zah 0 tf3 I I I) (ph_y (zbw I I) (ph_y (zaf I) (zaz I I (λ jj=>by(try rw [jj]);exact zab zDT I) (zaz I I (λ jj=>by(try rw [jj]);exact zah 0 tf3 I I I) (zaz I I (λ jj=>by(try rw [jj]);exact zab zF9 I) (zaz I I (λ jj=>by(try rw [jj]);exact zah 0 tf3 I I I) (zaz I I (λ jj=>by(try rw [jj]);exact zc6 I I) (ph_y (zaR I I I) (ph_y (zad I) (gN [2] I (zaw (zay (zaC I (zau I)) ?_))))))))))))))))))))))
 rfl
theorem zfT (a:yO) (cap:Nat) (l:List Lim) (w:World) (hl:Has w (zaW a 3 zgk l)) (hs:zaP l.length) :
  Calls Tryz.prog 130 #[C a l.length cap] w (Pure (.bool (zhr l)) w):=by
 refine zan (vs:=[_]) Tryz.func130 I I (bL I) (gS (gA I (gN [0,2] I (gS (gM I (gQ (zaJ zHG I (λ w hw=>zhQ _ _ l outB _ [] [] w (rH hl hw) (by assumption) (λ _=>True) (λ _ _=>trivial) zxj (λ z w _=>zt7 z w))) (gQ (zbR I) (gA I (gN [2] I (zaw (zay (zaC I (zau I)) ?_)))))))))))
 rfl
abbrev D:=Go.Stn.encI
theorem zlb (a:yO) (cap:Nat) (l:List Int) (f:Int→Bool) (gg:FuncId) (gfs gcap:List Value) (w:World) (hl:Has w (zaW a 1 D l)) (hs:zaP l.length) (M:World→Prop) (hM:yap w M) (hen:En Tryz.prog gg) (hg:∀ (z:Int) w',M w'→Calls Tryz.prog gg (gfs++[Value.int .i64 z]++gcap).toArray w' (Pure (.bool (f z)) w')) :
  Calls Tryz.prog 102 #[C a l.length cap,.func (.func gg) gfs.toArray gcap.toArray] w (Pure (O (zbJ f l)) w):=by
 refine zan (vs:=[_,_]) Tryz.func102 I I (bL I) (gS (gA I (gN [0,1,4] I (zac (gS (gM I (gQ (zaV (Tryz.underlying45) I) (gM I (gN [0,1,4,7,8] I (zas (zbf (X:=Int) (λ(i:Int)=>[(0,C a l.length cap),(1,.func (.func gg) gfs.toArray gcap.toArray),(4,O 0),(7,O (l.length:Int)),(8,O i)]) (λ(i:Int)=>[]) (λ(i:Int)=>(0≤i∧i≤l.length∧∀ j:Nat,(j:Int)<i→f (l.getD j default)=false)) (λ(i:Int)=>(l.length - i).toNat) 0 (sB I) I ?_ ?_)))))))))))
 ·exact⟨by omega,by omega,λ j hj=>by omega⟩
 ·rintro i hI
  obtain⟨g0,g1,g2⟩:=hI
  refine gS (gQ (zbw I I) (gN [0,1,4,7,8,9] I (zac (zap I (λ hc9=>?_) (λ hc9=>?_)))))
  ·simp only [dT] at hc9
   refine zaq (zac (zas (gS (gM I (gA I (gN [0,1,4,5,7,8] I (gS (gM I (gM I (gM I (gQ (zaE se45 I I (λ _=>rH hl)) (gQ (zcE tf3 I (λ _=>rH hl) (by omega) (by omega) I) (gQ (zde (fs:=gfs) (cap:=gcap) hen I I (λ w hw=>hg (l.getD i.toNat default) w (hM _ hw.base.ext0))) (gN [0,1,4,5,7,8,16] I (zap I (λ hc16=>?_) (λ hc16=>?_))))))))))))))))
   ·refine gS (gM I (gA I (gN [0,1,4,7,8] I (zaw (zay (zaC I (zau I)) ?_)))))
    exact congrArg _ (zcs g0 (by omega) g2 hc16).symm
   ·refine zaq (zaa (gQ (zaY I I) (gM I (gN [0,1,4,7,8] I ?_))))
    exact za1 _ (sB I) I ⟨by omega,by omega,λ j hj=>if h:(j:Int)<i then g2 j h else(by rw [show j=i.toNat from by omega];exact hc16)⟩ (by omega)
  ·simp only [dF] at hc9
   refine za8 I (gS (gA I (gN [4] I (zaw (zay (zaC I (zau I)) ?_)))))
   exact congrArg _ (zck (λ j hj=>g2 j (by omega))).symm
theorem zhP (a:yO) (cap:Nat) (l:List Int) (f:Int→Bool) (gg:FuncId) (gfs gcap:List Value) (w:World) (hl:Has w (zaW a 1 D l)) (hs:zaP l.length) (M:World→Prop) (hM:yap w M) (hen:En Tryz.prog gg) (hg:∀ (z:Int) w',M w'→Calls Tryz.prog gg (gfs++[Value.int .i64 z]++gcap).toArray w' (Pure (.bool (f z)) w')) :
  Calls Tryz.prog 71 #[C a l.length cap,.func (.func gg) gfs.toArray gcap.toArray] w (Pure (.bool (l.any f)) w):=by
 refine zan (vs:=[_,_]) Tryz.func71 I I (bL I) (gS (gA I (gN [0,1,4] I (gS (gM I (gM I (gQ (zaJ zHy I (λ w hw=>zlb _ _ l f _ _ _ w (rH hl hw) (by assumption) M (λ w' h=>hM w' (hw.base.ext0.trans h)) hen hg)) (gQ (zfx I I) (gA I (gN [4] I (zaw (zay (zaC I (zau I)) ?_))))))))))))
 rw [ze9]
theorem zjL (h:Int) (w:World)  :
  Calls Tryz.prog 131 #[O h] w (Pure (.bool (zgP h)) w):=by
 refine zan (vs:=[_]) Tryz.func131 I I (bL I) (gS (gA I (gN [0,2] I (gS (gM I (gQ (zaI I (zyk _ _ _)) (zaG I I (zaD I (zFT _ _ _) zbM I) λ b5=>(gQ (zaJ zAY I (λ w hw=>zfT _ _ ([(⟨h,1,1000⟩:Lim)]) w (zam zbM (hw.has (p:=0) I)) (by simp [zaP]))) (gQ (zbR I) (gA I (gN [2] I (zaw (zay (zaC I (zau I)) ?_)))))))))))))
 rfl
theorem zmg (r:Int) (w:World)  :
  Calls Tryz.prog 165 #[.int .i32 r] w (Pure (.bool (oddN r)) w):=by
 refine zan (vs:=[_]) Tryz.func165 I I (bL I) (gS (gA I (gN [0,2] I (zac (gZ 7 (ph_y (zaf I) (ph_y (zbw I I) (ph_y (zaf I) (zaz I I (λ jj=>by(try rw [jj]);exact zaf I) (zaz I I (λ jj=>by(try rw [jj]);exact zc6 I I) (ph_y (zaR I I I) (ph_y (zad I) (gN [2] I (zaw (zay (zaC I (zau I)) ?_)))))))))))))))
 rfl
theorem zkA (a:yO) (cap:Nat) (s:Sht) (z:Int) (w:World)  :
  Calls Tryz.prog 134 #[.agg #[.string s.name,O s.base,O s.batter,O s.height,O s.skin,C a s.heights.length cap,O s.least,O s.lap,O s.run,O s.every,O s.at_,O s.footing,O s.spread,.int .u8 s.cope,O s.tall,O s.short,O s.thick,O s.low,O s.high,O s.rood],O z] w (Pure (O (zfv s z)) w):=by
 refine zan (vs:=[_,_]) Tryz.func134 I I (bL I) (gS (zaG I I (za3 (vs:=[_,_,_,_,_,_,_,_,_,_,_,_,_,_,_,_,_,_,_,_]) I I) λ b2=>(gA I (gN [1,2,4] I (gS (gQ (zab zCg I) (gQ (zah 0 tf3 I I I) (gQ (zab zCh I) (gQ (zah 0 tf3 I I I) (gM I (gQ (zdv I I) (gQ (zoI I I (by omega)) (gQ (zdv I I) (gQ (ziW I I) (gA I (gN [4] I (zaw (zay (zaC I (zau I)) ?_))))))))))))))))))
 rfl
theorem zkn (a:yO) (cap:Nat) (s:Sht) (z:Int) (w:World)  :
  Calls Tryz.prog 88 #[.agg #[.string s.name,O s.base,O s.batter,O s.height,O s.skin,C a s.heights.length cap,O s.least,O s.lap,O s.run,O s.every,O s.at_,O s.footing,O s.spread,.int .u8 s.cope,O s.tall,O s.short,O s.thick,O s.low,O s.high,O s.rood],O z] w (Pure (O (zfv s z)) w):=by
 refine zan (vs:=[_,_]) Tryz.func88 I I (bL I) (gS (zaG I I (za3 (vs:=[_,_,_,_,_,_,_,_,_,_,_,_,_,_,_,_,_,_,_,_]) I I) λ b2=>(gA I (gN [1,2,4] I (gS (gQ (zab zCl I) (gQ (zah 0 tf3 I I I) (gQ (zab zCm I) (gQ (zah 0 tf3 I I I) (gM I (gQ (zdv I I) (gQ (zoI I I (by omega)) (gQ (zdv I I) (gQ (ziW I I) (gA I (gN [4] I (zaw (zay (zaC I (zau I)) ?_))))))))))))))))))
 rfl
theorem ztv (a:yO) (cap:Nat) (s:Sht) (w:World)  :
  Calls Tryz.prog 133 #[.agg #[.string s.name,O s.base,O s.batter,O s.height,O s.skin,C a s.heights.length cap,O s.least,O s.lap,O s.run,O s.every,O s.at_,O s.footing,O s.spread,.int .u8 s.cope,O s.tall,O s.short,O s.thick,O s.low,O s.high,O s.rood]] w (Pure (.bool (zgh s)) w):=by
 refine zan (vs:=[_]) Tryz.func133 I I (bL I) (gS (zaG I I (za3 (vs:=[_,_,_,_,_,_,_,_,_,_,_,_,_,_,_,_,_,_,_,_]) I I) λ b1=>(gA I (gN [1,2] I (zac (gS (gQ (zab zCJ I) (gQ (zah 0 tf5 I I I) (gN [1,2,4] I (zas (gS (gQ (zbL I I) (gA I (gN [1,2,4,5] I (zap I (λ hc5=>?_) (λ hc5=>?_))))))))))))))))
 ·have h0:s.cope=0:=by simpa using hc5
  refine zac (gZ 14 (ph_y (zab zzh I) (ph_y (zah 0 tf3 I I I) (ph_y (zbL I I) (ph_y (zaf I) (zaH I I (λ jj=>by(try rw [jj]);exact zab zzx I) (zaH I I (λ jj=>by(try rw [jj]);exact zah 0 tf3 I I I) (zaH I I (λ jj=>by(try rw [jj]);exact zbL I I) (ph_y (zaX I I I) (ph_y (zaf I) (zaH I I (λ jj=>by(try rw [jj]);exact zab zzy I) (zaH I I (λ jj=>by(try rw [jj]);exact zah 0 tf3 I I I) (zaH I I (λ jj=>by(try rw [jj]);exact zbL I I) (ph_y (zaX I I I) (ph_y (zad I) (gN [2] I (zaw (zay (zaC I (zau I)) ?_))))))))))))))))))
  rw [zgh,if_pos h0]
 ·have h0:¬ s.cope=0:=by simpa using hc5
  refine zac (gS (gQ (zbL I I) (gA I (gN [1,2,4,20] I (zap I (λ hc20=>?_) (λ hc20=>?_))))))
  ·refine zaq (zap I (λ hc20=>?_) (λ hc20=>?_))
   ·refine gS (gQ (zab zzh I) (gQ (zah 0 tf3 I I I) (gQ (zaI I (zyk _ _ _)) (gQ (zab zzx I) (gQ (zah 0 tf3 I I I) (gQ (zaI I (zyk _ _ _)) (gQ (zab zzy I) (gQ (zah 0 tf3 I I I) (gQ (zaI I (zyk _ _ _)) (zaG I I (zaD I (zBi _ _ _ _ _ _ _ _ _) zbM I) λ b32=>(gQ (zaJ zAY I (λ w hw=>zfT _ _ ([(⟨s.tall,1,1000⟩:Lim),(⟨s.short,0,0⟩:Lim),(⟨s.thick,1,1000⟩:Lim)]) w (zam zbM (hw.has (p:=0) I)) (by simp [zaP]))) (gA I (gN [2] I (zaw (zay (zaC I (zau I)) ?_)))))))))))))))
    simp_all [zgh]
   ·refine gS (gQ (zbL I I) (gA I (gN [1,2,34] I (zap I (λ hc34=>?_) (λ hc34=>?_)))))
    ·have h3:s.cope=3:=by simpa using hc34
     refine gS (gQ (zab zzh I) (gQ (zah 0 tf3 I I I) (gQ (zaI I (zyk _ _ _)) (gQ (zab zzx I) (gQ (zah 0 tf3 I I I) (gQ (zaI I (zyk _ _ _)) (gQ (zab zzy I) (gQ (zah 0 tf3 I I I) (gQ (zaI I (zyk _ _ _)) (zaG I I (zaD I (zBi _ _ _ _ _ _ _ _ _) zbM I) λ b45=>(gQ (zaJ zAY I (λ w hw=>zfT _ _ ([(⟨s.tall,1,1000⟩:Lim),(⟨s.short,1,1000⟩:Lim),(⟨s.thick,1,1000⟩:Lim)]) w (zam zbM (hw.has (p:=0) I)) (by simp [zaP]))) (gA I (gN [2] I (zaw (zay (zaC I (zau I)) ?_)))))))))))))))
     simp_all []
    ·have h3:¬ s.cope=3:=by simpa using hc34
     refine zaq (gS (gA I (gN [2] I (zaw (zay (zaC I (zau I)) ?_)))))
     simp_all []
  ·refine zaa (gQ (zbL I I) (gA I (gN [1,2,4,20] I (zap I (λ hc20=>?_) (λ hc20=>?_)))))
   ·refine gS (gQ (zab zzh I) (gQ (zah 0 tf3 I I I) (gQ (zaI I (zyk _ _ _)) (gQ (zab zzx I) (gQ (zah 0 tf3 I I I) (gQ (zaI I (zyk _ _ _)) (gQ (zab zzy I) (gQ (zah 0 tf3 I I I) (gQ (zaI I (zyk _ _ _)) (zaG I I (zaD I (zBi _ _ _ _ _ _ _ _ _) zbM I) λ b32=>(gQ (zaJ zAY I (λ w hw=>zfT _ _ ([(⟨s.tall,1,1000⟩:Lim),(⟨s.short,0,0⟩:Lim),(⟨s.thick,1,1000⟩:Lim)]) w (zam zbM (hw.has (p:=0) I)) (by simp [zaP]))) (gA I (gN [2] I (zaw (zay (zaC I (zau I)) ?_)))))))))))))))
    simp_all [zgh]
   ·refine gS (gQ (zbL I I) (gA I (gN [1,2,34] I (zap I (λ hc34=>?_) (λ hc34=>?_)))))
    ·have h3:s.cope=3:=by simpa using hc34
     refine gS (gQ (zab zzh I) (gQ (zah 0 tf3 I I I) (gQ (zaI I (zyk _ _ _)) (gQ (zab zzx I) (gQ (zah 0 tf3 I I I) (gQ (zaI I (zyk _ _ _)) (gQ (zab zzy I) (gQ (zah 0 tf3 I I I) (gQ (zaI I (zyk _ _ _)) (zaG I I (zaD I (zBi _ _ _ _ _ _ _ _ _) zbM I) λ b45=>(gQ (zaJ zAY I (λ w hw=>zfT _ _ ([(⟨s.tall,1,1000⟩:Lim),(⟨s.short,1,1000⟩:Lim),(⟨s.thick,1,1000⟩:Lim)]) w (zam zbM (hw.has (p:=0) I)) (by simp [zaP]))) (gA I (gN [2] I (zaw (zay (zaC I (zau I)) ?_)))))))))))))))
     simp_all [zgh]
    ·have h3:¬ s.cope=3:=by simpa using hc34
     refine zaq (gS (gA I (gN [2] I (zaw (zay (zaC I (zau I)) ?_)))))
     simp_all [zgh]
end Go.Proofs.YteepmmghanbllaaGreatDoor
namespace Go.Pln
open Go Go.K Go.RowKit Go.Stn
theorem zll {b:Bool} (h:(!b)=false):b=true:=by simpa using h
theorem zqg {b:Bool} (h:(!b)=true):b=false:=by simpa using h
def za4 (s:Sht):Bool:=!badP s&&(decide (1≤zb5 s s.height)&&decide ((zaj s).length≤100))
def zcX (s:Sht):Int:=if za4 s=true then 0 else 2
theorem zaZ {s:Sht} (h:za4 s=true):Nums s:=by
 unfold za4 at h
 simp only [aT,nT] at h
 exact zgZ h.1
theorem zeX {s:Sht} (h:badP s=true):zcX s=2:=by
 unfold zcX za4
 rw [h];rfl
theorem zo4 {s:Sht} (h:badP s=false) (hw:zfv s s.height<1):zcX s=2:=by
 have hn:=zgZ h
 rw [zfM hn.batter hn.base (by have:=hn.height;omega) (by have:=hn.height;omega)] at hw
 unfold zcX za4
 rw [h,decide_eq_false (show ¬ 1≤zb5 s s.height by omega)];rfl
theorem zhM {s:Sht} (h:badP s=false) (hw:¬ zfv s s.height<1):zcX s=if 100<(zaj s).length then 2 else 0:=by
 have hn:=zgZ h
 rw [zfM hn.batter hn.base (by have:=hn.height;omega) (by have:=hn.height;omega)] at hw
 unfold zcX za4
 rw [h,decide_eq_true (show 1≤zb5 s s.height by omega)]
 by_cases hl:(zaj s).length≤100
 ·rw [decide_eq_true hl,if_neg (show ¬ 100<(zaj s).length by omega)];rfl
 ·rw [decide_eq_false hl,if_pos (show 100<(zaj s).length by omega)];rfl
theorem ziM {s:Sht} (h9:decide (s.every=0)=true) (h14:decide (s.at_=0)=true):true=zdJ s:=by unfold zdJ;rw [h9,h14];rfl
theorem ziN {s:Sht} (h14:decide (s.at_=0)=false):zhr [⟨s.every,1,100000⟩,⟨s.at_,0,3000⟩]=zdJ s:=by unfold zdJ;rw [h14,Bool.and_false];rfl
theorem ziO {s:Sht} (h9:decide (s.every=0)=false):zhr [⟨s.every,1,100000⟩,⟨s.at_,0,3000⟩]=zdJ s:=by unfold zdJ;rw [h9];rfl
theorem zjE {s:Sht} (h1:(!zgx s.name)=false) (h2:(!zdJ s)=false) (h3:(!znz s)=false) (h4:s.heights.any zgP=false) (h5:(!zgh s)=false):badP s=false:=by
 unfold badP;rw [h1,h2,h3,h4,h5];rfl
theorem zu4 {s:Sht} (h:(!zgx s.name)=true):badP s=true:=by unfold badP;rw [h];rfl
theorem zu5 {s:Sht} (h:(!zdJ s)=true):badP s=true:=by unfold badP;rw [h];simp
theorem zu6 {s:Sht} (h:(!znz s)=true):badP s=true:=by unfold badP;rw [h];simp
theorem zu7 {s:Sht} (h:s.heights.any zgP=true):badP s=true:=by unfold badP;rw [h];simp
theorem zu8 {s:Sht} (h:(!zgh s)=true):badP s=true:=by unfold badP;rw [h];simp
theorem zeg {s:Sht} (h:Nums s) (i:Nat):1≤zce s i∧zce s i≤1000:=by
 refine⟨zme (by have:=h.len;omega) (λ x hx=>(h.each x hx).1) i,?_⟩
 unfold zce
 have:min i (s.heights.length - 1)<s.heights.length:=by have:=h.len;omega
 rw [gE,eG this]
 exact(h.each _ (List.getElem_mem this)).2
theorem zjC {s:Sht} (h:Nums s) (n:Nat):0≤zAt s n:=by
 have:=zlP (λ i=>(zeg h i).1) n
 omega
theorem zxq {s:Sht} (h:1≤s.heights.length) (n:Nat):s.heights.getD (min (n:Int) ((s.heights.length:Int) - 1)).toNat default=zce s n:=by
 unfold zce
 rw [show(min (n:Int) ((s.heights.length:Int) - 1)).toNat=min n (s.heights.length - 1) by omega]
theorem ziR {s:Sht} {n:Nat} (h:zAt s n+zce s n≤s.height):zc5 s n=true:=decide_eq_true h
theorem zsp {s:Sht} {n:Nat} (h:¬ zAt s n+zce s n≤s.height):zc5 s n=false:=decide_eq_false h
theorem zg7 {s:Sht} {n:Nat} (hu:∀ j,j<n→zc5 s j=true) (h:zc5 s n=true):∀ j,j<n+1→zc5 s j=true:=λ j hj=>by
 rcases Nat.lt_or_eq_of_le (Nat.le_of_lt_succ hj) with g|rfl
 ·exact hu j g
 ·exact h
theorem zsG {s:Sht} {n:Nat} (hn:Nums s) (hu:∀ j,j<n→zc5 s j=true) (hb:¬ zAt s n+zce s n≤s.height):cnt s=n:=zsH (λ i=>(zeg hn i).1) (zsp hb) hu
theorem zlf {s:Sht} {L:List Crs} {n:Nat} (hL:L=crsN s n) (h:1≤L.length):((L.length:Int) - 1).toNat=n - 1:=by
 rw [hL,zeC] at h ⊢
 omega
theorem zjb {s:Sht} (hn:Nums s) {n:Nat} (hu:∀ j,j<n→zc5 s j=true):n≤3000:=by
 have:=zr8 (λ i=>(zeg hn i).1) (by have:=hn.height;omega) hu
 have:=hn.height
 omega
theorem zdP {f:Nat→Bool} {i:Int} (h0:0≤i) (h:∀ j:Nat,(j:Int)<i→f j=false) (hi:f i.toNat=false):∀ j:Nat,(j:Int)<i+1→f j=false:=λ j hj=>by
 rcases Int.lt_or_eq_of_le (show(j:Int)≤i by omega) with g|g
 ·exact h j g
 ·rw [show j=i.toNat from by omega];exact hi
theorem za0 {α:Type} [Inhabited α] {l:List α} {i:Nat} (h:i<l.length):l.getD i default∈l:=by simp [h]
def v1 (s:Sht):Bool:=!zdY s.name||!inB s.base 1 3000||!inB s.batter 0 500||!inB s.height 1 3000||!inB s.skin 1 1500||!inB (s.heights.length:Int) 1 12
def v2 (s:Sht):Bool:=!inB s.least 1 1000||!inB s.lap 0 500||!inB s.run 1 20||!inB s.footing 0 1000||!inB s.spread 0 1000
def v3 (s:Sht):Bool:=!(decide (s.every=0)&&decide (s.at_=0))&&!(inB s.every 1 100000&&inB s.at_ 0 3000)
def v4 (s:Sht):Bool:=!inB s.high 0 2000||!inB s.low 0 s.high||!inB s.rood 1 100000||decide (3<s.cope)
def v5 (s:Sht):Bool:=decide (s.cope=0)&&(!decide (s.tall=0)||!decide (s.short=0)||!decide (s.thick=0))
def v6 (s:Sht):Bool:=!decide (s.cope=0)&&(!inB s.tall 1 1000||!inB s.thick 1 1000)
def v7 (s:Sht):Bool:=decide (s.cope=3)&&!inB s.short 1 1000||!decide (s.cope=3)&&!decide (s.short=0)
def v0 (s:Sht):Bool:=!s.heights.all (λ h=>inB h 1 1000)
theorem zpa (s:Sht):zm3 s = !(decide (3<s.cope)||v5 s||v6 s||v7 s):=by
 unfold zm3 v5 v6 v7
 by_cases h0:s.cope=0
 ·rw [if_pos h0,decide_eq_true h0,decide_eq_false (show ¬ 3<s.cope by omega),decide_eq_false (show ¬ s.cope=3 by omega)]
  cases decide (s.tall=0) <;> cases decide (s.short=0) <;> cases decide (s.thick=0) <;> rfl
 ·rw [if_neg h0,decide_eq_false h0]
  by_cases h3:s.cope=3
  ·rw [if_pos h3,decide_eq_true h3,decide_eq_false (show ¬ 3<s.cope by omega),decide_eq_true (show s.cope≤3 by omega)]
   cases inB s.tall 1 1000 <;> cases inB s.short 1 1000 <;> cases inB s.thick 1 1000 <;> rfl
  ·rw [if_neg h3,decide_eq_false h3]
   by_cases h4:3<s.cope
   ·rw [decide_eq_true h4,decide_eq_false (show ¬ s.cope≤3 by omega)];simp
   ·rw [decide_eq_false h4,decide_eq_true (show s.cope≤3 by omega)]
    cases inB s.tall 1 1000 <;> cases decide (s.short=0) <;> cases inB s.thick 1 1000 <;> rfl
theorem zmG (s:Sht):zgJ s = !v3 s:=by
 unfold zgJ v3
 cases (decide (s.every=0)&&decide (s.at_=0)) <;> cases (inB s.every 1 100000&&inB s.at_ 0 3000) <;> rfl
theorem zdE {s:Sht} (hco:0≤s.cope):badP s=(v1 s||v0 s||v2 s||v3 s||v4 s||v5 s||v6 s||v7 s):=by
 unfold badP
 rw [ziP,zir,zjz,zo9 hco,znv,zpa,zmG]
 unfold v1 v2 v4 v0 zgy
 rw [Bool.eq_iff_iff]
 simp only [Bool.or_eq_true,nT,Bool.and_eq_false_iff,nF]
 grind
theorem zcS {s:Sht} (h:badP s=true):za4 s=false:=by unfold za4;rw [h];rfl
theorem zuN {s:Sht} {i:Int} (h0:0≤i) (h1:i<(s.heights.length:Int)) (h:(!inB (s.heights.getD i.toNat default) 1 1000)=true):v0 s=true:=by
 unfold v0
 cases hb:s.heights.all (λ h=>inB h 1 1000) with
 | false=>rfl
 | true=>
  rw [List.all_eq_true] at hb
  rw [hb _ (za0 (by omega))] at h
  exact h
theorem zsq {s:Sht} {i:Int} (h1:¬ i<(s.heights.length:Int)) (h:∀ j:Nat,(j:Int)<i→(!inB (s.heights.getD j default) 1 1000)=false):v0 s=false:=by
 unfold v0
 rw [nF,List.all_eq_true]
 intro x hx
 obtain⟨j,hj,rfl⟩:=List.getElem_of_mem hx
 have:=h j (by omega)
 simpa [hj] using this
theorem zq7 {s:Sht} (hco:0≤s.cope) (h1:v1 s=false) (h0:v0 s=false) (h2:v2 s=false) (h3:v3 s=false) (h4:v4 s=false) (h5:v5 s=false) (h6:v6 s=false) (h7:v7 s=false):badP s=false:=by
 rw [zdE hco,h1,h0,h2,h3,h4,h5,h6,h7];rfl
theorem zlD {s:Sht} (h:badP s=false):za4 s=(decide (1≤zfv s s.height)&&decide (((zaj s).length:Int)≤100)):=by
 have hn:=zgZ h
 rw [zfM hn.batter hn.base (by have:=hn.height;omega) (by have:=hn.height;omega)]
 unfold za4
 rw [h,Bool.eq_iff_iff]
 simp only [Bool.not_false,Bool.true_and,aT,dT]
 omega
end Go.Pln
namespace Go.K
open Go Go.RowKit
theorem zxF (cs:List Value) (q k:Nat):cs=cs.take q++(cs.drop q).take k++cs.drop (q+k):=by
 rw [List.append_assoc,←List.drop_drop,List.take_append_drop,List.take_append_drop]
theorem zql {A old C vs:List Value} {f:Nat} (hf:f+vs.length≤old.length):over (A++old++C) (A.length+f) vs=over (A++old++C) A.length (old.take f++vs++old.drop (f+vs.length)):=by
 rw [zg1 _ _ _ (by simp only [lA];omega),zg1 _ _ _ (by simp only [lA,List.length_take,List.length_drop];omega)]
 have e1:(A++old++C).take (A.length+f)=A++old.take f:=by
  rw [List.append_assoc,List.take_append,List.take_of_length_le (by omega),Nat.add_sub_cancel_left,List.take_append,show f - old.length=0 from by omega,List.take_zero,List.append_nil]
 have e2:(A++old++C).drop (A.length+f+vs.length)=old.drop (f+vs.length)++C:=by
  rw [List.append_assoc,List.drop_append,List.drop_of_length_le (by omega),List.nil_append,show A.length+f+vs.length - A.length=f+vs.length from by omega,List.drop_append,show f+vs.length - old.length=0 from by omega,List.drop_zero]
 have e3:(A++old++C).take A.length=A:=by rw [List.append_assoc,List.take_left]
 have e4:(A++old++C).drop (A.length+(old.take f++vs++old.drop (f+vs.length)).length)=C:=by
  rw [show(old.take f++vs++old.drop (f+vs.length)).length=old.length from by simp only [lA,List.length_take,List.length_drop];omega,←lA,List.drop_left]
 rw [e1,e2,e3,e4]
 simp only [List.append_assoc]
section
variable {α:Type} [Inhabited α] {k:Nat} {enc:α→List Value} {c:Cx} {ds:List Deferred} {T:List (Nat×Value)} {H:List Res} {p:Post} {ops:Array Oper} {rest:List Oper} {x y:Operand} {v:Value} {ty:TypeId} {ps:String} {af:Array Edge}
theorem zfG {t e:TypeId} {gg:Bool} {zz:Value} {a:yO} {cap kv f:Nat} {l:List α} {ix:Int} {vs:List Value} {x':α} (i:Nat) (he:Enc k enc) (ht:TF c.P t gg kv zz) (hx:evo T x=some (epx a (ix.toNat*k+f))) (hy:evo T y=some v)
  (hv:v.cells=vs.toArray) (hvl:vs.length=kv) (hfk:f+kv≤k) (hxx:enc x' = (enc (l.getD ix.toNat default)).take f++vs++(enc (l.getD ix.toNat default)).drop (f+vs.length)) (hi:H[i]?=some (Row a k cap e enc l)) (h0:0≤ix) (h1:ix<(l.length:Int))
  (kk:GK c ds (KL c ops p rest) T (H.set i (Row a k cap e enc (l.set ix.toNat x')))):GK c ds (KL c ops p (⟨none,.store t x y,ty,ps,af,none⟩ :: rest)) T H:=by
 refine zjZ I (λ A w ha hw=>?_) kk
 obtain⟨B,hF⟩:=hw.foc hi
 have hlt:ix.toNat<l.length:=by omega
 rcases hF.A with ⟨_,_,rfl⟩ | ⟨b,off,cs,hab,hB,hbk,g1,g2,g3⟩
 ·simp at hlt
 subst hab
 have hone:vs.all zgS=true:=by
  have:=he.one x'
  rw [hxx,List.all_append,List.all_append,aT,aT] at this
  exact this.1.2
 have hkk:(ix.toNat+1)*k≤cap*k:=Nat.mul_le_mul_right _ (by omega)
 rw [Nat.add_mul,Nat.one_mul] at hkk
 obtain⟨w',hr,hm,hb'⟩:=zb7 (P:=c.P) (o:=off+(ix.toNat*k+f)) vs cs 0 w hbk (by omega) hone
 have hrun:(execOp A.eval ⟨none,.store t x y,ty,ps,af,none⟩).run c.P w=.ok .skip w':=by
  simp only [execOp,ha.eval hx,ha.eval hy,epx,Option.map_some,zb2]
  have h3:(Instr.storeAt t (.pointer (some ⟨b,off+(ix.toNat*k+f),none⟩)) v).run c.P w=.ok () w':=by
   unfold Instr.storeAt
   rw [zal (v:=⟨b,off+(ix.toNat*k+f),none⟩) (w':=w) I]
   unfold storeVar
   rw [zal ht.size]
   have:v.cells.size=kv:=by rw [hv];simpa using hvl
   simp only [this,ne_eq,not_true_eq_false,if_false]
   rw [hv]
   exact hr
  rw [zal h3]
  rfl
 unfold Yld
 rw [hrun]
 have hold:l[ix.toNat]?=some (l.getD ix.toNat default):=zeF h0 h1
 have hcell:(cs.drop (off+ix.toNat*k)).take k=enc (l.getD ix.toNat default):=by
  have h:=zeG he l ix.toNat _ hold
  have hik:(ix.toNat+1)*k≤l.length*k:=Nat.mul_le_mul_right _ hlt
  rw [Nat.add_mul,Nat.one_mul] at hik
  rw [←g3,List.drop_take,List.take_take,Nat.min_eq_left (by omega),List.drop_drop] at h
  exact h
 have hol:(enc (l.getD ix.toNat default)).length=k:=he.len _
 have hcs:cs=cs.take (off+ix.toNat*k)++enc (l.getD ix.toNat default)++cs.drop (off+ix.toNat*k+k):=by
  rw [←hcell];exact zxF cs _ _
 have hpl:(cs.take (off+ix.toNat*k)).length=off+ix.toNat*k:=by rw [List.length_take];omega
 have hov:over cs (off+(ix.toNat*k+f)) vs=over cs (off+ix.toNat*k) (enc x'):=by
  have h:=zql (A:=cs.take (off+ix.toNat*k)) (old:=enc (l.getD ix.toNat default)) (C:=cs.drop (off+ix.toNat*k+k)) (vs:=vs) (f:=f) (by rw [hol];omega)
  rw [←hcs,hpl,←hxx] at h
  rw [←Nat.add_assoc]
  exact h
 rw [Nat.add_zero,hov] at hb'
 have hxl:(enc x').length=k:=he.len x'
 refine hF.upd hi ⟨hm.os,hm.tape,hm.output,hm.size,λ j hj hbj=>hm.same j hj (λ h=>hbj ((hB j).2 h))⟩ (λ j hj=>.inl hj) (.inr ⟨b,off,over cs (off+ix.toNat*k) (enc x'),rfl,hB,hb',by simpa using g1,by rw [zcL];exact g2,?_⟩)
 rw [List.length_set,zg1 (enc x') cs _ (by omega),hxl]
 have hll:l.length*k≤cap*k:=Nat.mul_le_mul_right _ g1
 have hik:ix.toNat*k+k≤l.length*k:=by
  have:(ix.toNat+1)*k≤l.length*k:=Nat.mul_le_mul_right _ hlt
  rwa [Nat.add_mul,Nat.one_mul] at this
 have e1:(cs.take (off+ix.toNat*k)).drop off=(l.take ix.toNat).flatMap enc:=by
  rw [List.drop_take,Nat.add_sub_cancel_left,←zh6 he (by omega),←g3,List.take_take,Nat.min_eq_left (by omega)]
 have hAl:((l.take ix.toNat).flatMap enc).length=ix.toNat*k:=by rw [zcd he,List.length_take,Nat.min_eq_left (by omega)]
 have e2:(cs.take (off+ix.toNat*k)++enc x' ++ cs.drop (off+ix.toNat*k+k)).drop off=(l.take ix.toNat).flatMap enc++(enc x' ++ cs.drop (off+ix.toNat*k+k)):=by
  rw [List.append_assoc,List.drop_append_of_le_length (by rw [List.length_take];omega),e1]
 rw [e2,List.take_append,hAl,List.take_of_length_le (l:=(l.take ix.toNat).flatMap enc) (by rw [hAl];omega),List.take_append,hxl,List.take_of_length_le (l:=enc x') (by rw [hxl];omega)]
 have e3:(cs.drop (off+ix.toNat*k+k)).take (l.length*k - ix.toNat*k - k)=(l.drop (ix.toNat+1)).flatMap enc:=by
  rw [←zh5 he (by omega),←g3,List.drop_take,List.drop_drop,Nat.add_mul,Nat.one_mul]
  congr 1
  ·omega
  ·rw [Nat.add_assoc]
 rw [e3,List.set_eq_take_append_cons_drop,if_pos hlt,List.flatMap_append,List.flatMap_cons]
end
end Go.K