/- What the proof of the root text leans on, part 2: the layer, plain facts and walks. No statement of the seat is proved in this text. -/
import Derived.Lib.AppendStr
import Derived.Lib.AppendZeros
import Derived.Lib.SliceRun
import Derived.RecoverIn
import Derived.Shelf.Strings.Builder2
import Derived.Shelf.Strings.BuilderF
import Derived.Test.YtdcfcfhmkfkgmaaGreatDoorPk1
namespace Go.K
open Go Go.RowKit
structure Slots (c:Cx) (H:List Res) (G:Nat→Option Res) (B:Nat→Nat→Prop) (w:World):Prop where
 own:∀ j R,G j=some R→R.A (B j) w∧∀ k,B j k→¬ c.U k∧k < w.heap.size
 dis:∀ i j,(G i).isSome=true→(G j).isSome=true→i≠j→∀ k,B i k→¬ B j k
 out:Holds H (fun k=>c.U k∨∃ i,(G i).isSome=true∧B i k) w
section
variable {c:Cx} {H:List Res} {G:Nat→Option Res} {B:Nat→Nat→Prop} {w w':World}
theorem Slots.congr {G':Nat→Option Res} (h:Slots c H G B w) (hg:∀ j,G' j=G j):Slots c H G' B w:=by
 have:G' = G:=funext hg
 rw [this]; exact h
theorem Slots.ext (h:Slots c H G B w) (hx:Ext w w'):Slots c H G B w':=
 ⟨fun j R hj=>⟨R.loc _ w w' (fun k hk=>hx.block k ((h.own j R hj).2 k hk).2) (h.own j R hj).1,fun k hk=>⟨((h.own j R hj).2 k hk).1,Nat.lt_of_lt_of_le ((h.own j R hj).2 k hk).2 hx.size⟩⟩,h.dis,Holds.ext hx h.out⟩
theorem Slots.new (h:Slots c H G B w) (hb:Base c.U c.w0 w) (hx:Ext w w') (i:Nat) {R:Res} {Bn:Nat→Prop} (hBn:∀ k,Bn k→w.heap.size≤k∧k < w'.heap.size) (hA:R.A Bn w') :
  Slots c H (fun j=>if j=i then some R else G j) (fun j=>if j=i then Bn else B j) w':=by
 have h':=h.ext hx
 have hUlt:∀ k,c.U k→k < w.heap.size:=fun k hk=>Nat.lt_of_lt_of_le (hb.lt k hk) hb.size
 refine⟨fun j S hj=>?_,fun a b ha hb' hab k hk1 hk2=>?_,?_⟩
 ·by_cases hji:j=i
  ·simp only [if_pos hji,Option.some.injEq] at hj ⊢
   subst hj
   exact⟨hA,fun k hk=>⟨fun hu=>by have:=hUlt k hu; have:=(hBn k hk).1; omega,(hBn k hk).2⟩⟩
  ·simp only [if_neg hji] at hj ⊢
   exact h'.own j S hj
 ·by_cases hai:a=i
  ·have hbi:b≠i:=fun e=>hab (hai.trans e.symm)
   simp only [if_pos hai] at ha hk1
   simp only [if_neg hbi] at hb' hk2
   obtain⟨S,hS⟩:=Option.isSome_iff_exists.1 hb'
   have:=((h.own b S hS).2 k hk2).2
   have:=(hBn k hk1).1
   omega
  ·simp only [if_neg hai] at ha hk1
   by_cases hbi:b=i
   ·simp only [if_pos hbi] at hb' hk2
    obtain⟨S,hS⟩:=Option.isSome_iff_exists.1 ha
    have:=((h.own a S hS).2 k hk1).2
    have:=(hBn k hk2).1
    omega
   ·simp only [if_neg hbi] at hb' hk2
    exact h.dis a b ha hb' hab k hk1 hk2
 ·have key:∀ (L:List Res) (V V':Nat→Prop),(∀ k,k < w.heap.size→V' k→V k)→Holds L V w→Holds L V' w':=by
   intro L
   induction L with
   | nil=>intro _ _ _ _; trivial
   | cons R L ih=>
    intro V V' hV hh
    obtain⟨C,hC,hA,hr'⟩:=hh
    refine⟨C,fun k hk=>⟨fun hv=>(hC k hk).1 (hV k (hC k hk).2 hv),Nat.lt_of_lt_of_le (hC k hk).2 hx.size⟩,R.loc C w w' (fun k hk=>hx.block k (hC k hk).2) hA,?_⟩
    exact ih _ _ (fun k hk hv=>hv.imp (hV k hk) id) hr'
  refine key H _ _ ?_ h.out
  rintro k hk (hu | ⟨j,hj,hbj⟩)
  ·exact .inl hu
  ·by_cases hji:j=i
   ·simp only [if_pos hji] at hbj
    have:=(hBn k hbj).1
    omega
   ·simp only [if_neg hji] at hj hbj
    exact .inr ⟨j,hj,hbj⟩
theorem Slots.upd (h:Slots c H G B w) {j0:Nat} {R R':Res} {B':Nat→Prop} (hG:G j0=some R) (hb:Base c.U c.w0 w) (hm:Mod (B j0) w w') (ho:Own (B j0) B' w w') (hA:R'.A B' w') :
  Base c.U c.w0 w'∧Slots c H (fun j=>if j=j0 then some R' else G j) (fun j=>if j=j0 then B' else B j) w':=by
 have hUlt:∀ k,c.U k→k < w.heap.size:=fun k hk=>Nat.lt_of_lt_of_le (hb.lt k hk) hb.size
 have h0:=h.own j0 R hG
 refine⟨hb.mod hm (fun k hk=>(h0.2 k hk).1),⟨fun j S hj=>?_,fun a b ha hb' hab k hk1 hk2=>?_,?_⟩⟩
 ·by_cases hji:j=j0
  ·simp only [if_pos hji,Option.some.injEq] at hj ⊢
   subst hj
   refine⟨hA,fun k hk=>?_⟩
   rcases ho k hk with hk' | ⟨h1,h2⟩
   ·exact⟨(h0.2 k hk').1,Nat.lt_of_lt_of_le (h0.2 k hk').2 hm.size⟩
   ·exact⟨fun hu=>by have:=hUlt k hu; omega,h2⟩
  ·simp only [if_neg hji] at hj ⊢
   obtain⟨g1,g2⟩:=h.own j S hj
   refine⟨S.loc _ w w' (fun k hk=>hm.same k (g2 k hk).2 (fun hb0=>h.dis j j0 (by rw [hj]; rfl) (by rw [hG]; rfl) hji k hk hb0)) g1,fun k hk=>⟨(g2 k hk).1,Nat.lt_of_lt_of_le (g2 k hk).2 hm.size⟩⟩
 ·have cross:∀ a,a≠j0→(G a).isSome=true→B a k→B' k→False:=fun a haj ha hk1 hk2=>by
   obtain⟨S,hS⟩:=Option.isSome_iff_exists.1 ha
   rcases ho k hk2 with hk' | ⟨h1,_⟩
   ·exact h.dis a j0 ha (by rw [hG]; rfl) haj k hk1 hk'
   ·have:=((h.own a S hS).2 k hk1).2; omega
  by_cases hai:a=j0
  ·have hbi:b≠j0:=fun e=>hab (hai.trans e.symm)
   simp only [if_pos hai] at ha hk1
   simp only [if_neg hbi] at hb' hk2
   exact cross b hbi hb' hk2 hk1
  ·simp only [if_neg hai] at ha hk1
   by_cases hbi:b=j0
   ·simp only [if_pos hbi] at hb' hk2
    exact cross a hai ha hk1 hk2
   ·simp only [if_neg hbi] at hb' hk2
    exact h.dis a b ha hb' hab k hk1 hk2
 ·have key:∀ (L:List Res) (V V':Nat→Prop),(∀ k,B j0 k→V k)→(∀ k,k < w.heap.size→V' k→V k)→Holds L V w→Holds L V' w':=by
   intro L
   induction L with
   | nil=>intro _ _ _ _ _; trivial
   | cons S L ih=>
    intro V V' hB hV hh
    obtain⟨C,hC,hA,hr'⟩:=hh
    refine⟨C,fun k hk=>⟨fun hv=>(hC k hk).1 (hV k (hC k hk).2 hv),Nat.lt_of_lt_of_le (hC k hk).2 hm.size⟩,S.loc C w w' (fun k hk=>hm.same k (hC k hk).2 (fun hb0=>(hC k hk).1 (hB k hb0))) hA,?_⟩
    exact ih _ _ (fun k hk=>.inl (hB k hk)) (fun k hk hv=>hv.imp (hV k hk) id) hr'
  refine key H _ _ (fun k hk=>.inr ⟨j0,by rw [hG]; rfl,hk⟩) ?_ h.out
  rintro k hk (hu | ⟨j,hj,hbj⟩)
  ·exact .inl hu
  ·by_cases hji:j=j0
   ·simp only [if_pos hji] at hbj
    rcases ho k hbj with hk' | ⟨h1,_⟩
    ·exact .inr ⟨j0,by rw [hG]; rfl,hk'⟩
    ·omega
   ·simp only [if_neg hji] at hj hbj
    exact .inr ⟨j,hj,hbj⟩
theorem Slots.holds (h:Slots c H G B w):∀ (js:List Nat) (Rs:List Res),F2 (fun j R=>G j=some R) js Rs→js.Nodup→Holds (Rs++H) c.U w:=by
 have key:∀ (js:List Nat) (Rs:List Res) (X:Nat→Prop),F2 (fun j R=>G j=some R) js Rs→js.Nodup→(∀ j∈js,¬ X j)→Holds (Rs++H) (fun k=>c.U k∨∃ i,X i∧(G i).isSome=true∧B i k) w:=by
  intro js
  induction js with
  | nil=>
   intro Rs X hf _ _
   cases Rs with
   | nil=>exact Holds.anti H (fun k hk=>by
     rcases hk with hu | ⟨i,_,hi,hb⟩
     ·exact .inl hu
     ·exact .inr ⟨i,hi,hb⟩) h.out
   | cons _ _=>exact hf.elim
  | cons j js ih=>
   intro Rs X hf hn hX
   cases Rs with
   | nil=>exact hf.elim
   | cons R Rs=>
    obtain⟨hj,hf'⟩:=hf
    rw [List.nodup_cons] at hn
    obtain⟨g1,g2⟩:=h.own j R hj
    refine⟨B j,fun k hk=>⟨?_,(g2 k hk).2⟩,g1,?_⟩
    ·rintro (hu | ⟨i,hXi,hi,hbi⟩)
     ·exact(g2 k hk).1 hu
     ·exact h.dis j i (by rw [hj]; rfl) hi (fun e=>hX j (List.mem_cons_self ..) (e ▸ hXi)) k hk hbi
    ·refine Holds.anti _ ?_ (ih Rs (fun i=>X i∨i=j) hf' hn.2 (fun i hi hx=>?_))
     ·rintro k ((hu | ⟨i,hXi,hi,hbi⟩) | hk)
      ·exact .inl hu
      ·exact .inr ⟨i,.inl hXi,hi,hbi⟩
      ·exact .inr ⟨j,.inr rfl,by rw [hj]; rfl,hk⟩
     ·rcases hx with hx | hx
      ·exact hX i (List.mem_cons_of_mem _ hi) hx
      ·subst hx; exact hn.1 hi
 intro js Rs hf hn
 refine Holds.anti _ (fun k hk=>.inl hk) (key js Rs (fun _=>False) hf hn (fun _ _ h=>h))
end
def ch:List (Nat×Type)→Nat→Type
 | [],_=>Unit
 | (k,T) :: r,i=>bif Nat.beq k i then T else ch r i
structure E3 (XS:Nat→Type) where
 i:Nat
 d:Option Nat
 t:Option Nat
 V:((i:Nat)→XS i)→Value
 A:((i:Nat)→XS i)→Res
def tIs (t:Option Nat) (j:Nat):Bool:=match t with
 | some k=>Nat.beq k j
 | none=>false
def rcf (ms:List Nat) (i j:Nat):Bool:=Nat.blt j i&&Nat.beq (Nat.land (Nat.shiftRight (ms.getD i 0) j) 1) 1
def okM (ops:List Oper) (ms:List Nat):Bool:=(List.range ops.length).all fun i=>(List.range i).all fun j=>!rcf ms i j||(match ops[i]? with
 | some o=>o.after.toList.any fun e=>Region.binds .any e&&(Nat.beq e.on j||rcf ms e.on j)
 | none=>false)
section
variable {XS:Nat→Type}
def zbe (ρ:(i:Nat)→XS i) (done:Nat→Bool) (j:Nat):List (E3 XS)→Option Res
 | []=>none
 | x :: r=>bif tIs x.t j&&done x.i then some (x.A ρ) else zbe ρ done j r
def okSt (rc:Nat→Bool) (j:Nat):List (E3 XS)→Bool
 | []=>true
 | x :: r=>(!tIs x.t j||rc x.i)&&okSt rc j r
def zeS (ρ:(i:Nat)→XS i) (rc:Nat→Bool) (S:List (E3 XS)):List (E3 XS)→List Res
 | []=>[]
 | x :: r=>bif tIs x.t x.i&&okSt rc x.i S then(match zbe ρ rc x.i S with | some R=>R :: zeS ρ rc S r | none=>zeS ρ rc S r) else zeS ρ rc S r
def zdA (ρ:(i:Nat)→XS i) (f:Nat→Bool):List (E3 XS)→List (Nat×Value)
 | []=>[]
 | x :: r=>match x.d with
  | some d=>bif f x.i then(d,x.V ρ) :: zdA ρ f r else zdA ρ f r
  | none=>zdA ρ f r
def lk3:List (E3 XS)→Nat→Option (((i:Nat)→XS i)→Value)
 | [],_=>none
 | x :: r,j=>bif Nat.beq x.i j&&x.d.isSome then some x.V else lk3 r j
theorem zbN {ρ ρ':(i:Nat)→XS i} {done done':Nat→Bool} {j:Nat}:∀ (S:List (E3 XS)),(∀ x∈S,tIs x.t j=true→done x.i=done' x.i∧(done x.i=true→x.A ρ=x.A ρ'))→zbe ρ done j S=zbe ρ' done' j S
 | [],_=>rfl
 | x :: r,h=>by
  have ih:=zbN r (fun y hy=>h y (List.mem_cons_of_mem _ hy))
  unfold zbe
  cases ht:tIs x.t j with
  | false=>simpa using ih
  | true=>
   obtain⟨h1,h2⟩:=h x (List.mem_cons_self ..) ht
   rw [←h1]
   cases hd:done x.i with
   | false=>simpa using ih
   | true=>simp [h2 hd]
theorem zb0 {ρ:(i:Nat)→XS i} {done:Nat→Bool} {j:Nat}:∀ (q S:List (E3 XS)),(∀ x∈q,tIs x.t j=true→done x.i=false)→zbe ρ done j (q++S)=zbe ρ done j S
 | [],_,_=>rfl
 | x :: q,S,h=>by
  have ih:=zb0 (ρ:=ρ) q S (fun y hy=>h y (List.mem_cons_of_mem _ hy))
  show(bif tIs x.t j&&done x.i then some (x.A ρ) else zbe ρ done j (q++S))=_
  cases ht:tIs x.t j with
  | false=>simpa using ih
  | true=>rw [h x (List.mem_cons_self ..) ht]; simpa using ih
theorem zgb {ρ:(i:Nat)→XS i} {done:Nat→Bool} {j:Nat} {R:Res}:∀ (S:List (E3 XS)),zbe ρ done j S=some R→∃ x∈S,tIs x.t j=true∧done x.i=true
 | [],h=>by cases h
 | x :: r,h=>by
  change (bif tIs x.t j&&done x.i then some (x.A ρ) else zbe ρ done j r)=some R at h
  cases hb:tIs x.t j&&done x.i with
  | true=>
   rw [Bool.and_eq_true] at hb
   exact⟨x,List.mem_cons_self ..,hb⟩
  | false=>
   rw [hb] at h
   obtain⟨y,hy,h2⟩:=zgb r h
   exact⟨y,List.mem_cons_of_mem _ hy,h2⟩
theorem zfm {rc:Nat→Bool} {j:Nat}:∀ (S:List (E3 XS)),okSt rc j S=true→∀ x∈S,tIs x.t j=true→rc x.i=true
 | [],_,_,hx,_=>by cases hx
 | y :: r,h,x,hx,ht=>by
  simp only [okSt,Bool.and_eq_true] at h
  rcases List.mem_cons.1 hx with rfl | hx
  ·have:=h.1
   rw [ht] at this
   simpa using this
  ·exact zfm r h.2 x hx ht
theorem zez {ρ:(i:Nat)→XS i} {f:Nat→Bool} {t:Nat} {v:Value} {T:List (Nat×Value)}:∀ (S:List (E3 XS)),lk (zdA ρ f S++T) t=some v→(∃ x∈S,x.d=some t∧f x.i=true∧v=x.V ρ)∨lk T t=some v
 | [],h=>.inr h
 | x :: r,h=>by
  have rest:lk (zdA ρ f r++T) t=some v→(∃ y∈x :: r,y.d=some t∧f y.i=true∧v=y.V ρ)∨lk T t=some v:=fun h=>by
   rcases zez r h with ⟨y,hy,h2⟩ | h2
   ·exact .inl ⟨y,List.mem_cons_of_mem _ hy,h2⟩
   ·exact .inr h2
  unfold zdA at h
  cases hd:x.d with
  | none=>rw [hd] at h; exact rest h
  | some d=>
   rw [hd] at h
   cases hf:f x.i with
   | false=>rw [hf] at h; exact rest h
   | true=>
    rw [hf] at h
    simp only [cond_true,List.cons_append] at h
    by_cases hdt:d=t
    ·subst hdt
     rw [zcR,Option.some.injEq] at h
     exact .inl ⟨x,List.mem_cons_self ..,hd,hf,h.symm⟩
    ·rw [zdb hdt] at h; exact rest h
theorem zmj:∀ (S:List (E3 XS)) (j:Nat) V,lk3 S j=some V→∃ x∈S,x.i=j∧x.d.isSome=true∧x.V=V
 | [],_,_,h=>by cases h
 | x :: r,j,V,h=>by
  change (bif Nat.beq x.i j&&x.d.isSome then some x.V else lk3 r j)=some V at h
  cases hb:Nat.beq x.i j&&x.d.isSome with
  | true=>
   rw [hb] at h
   rw [Bool.and_eq_true] at hb
   simp only [cond_true,Option.some.injEq] at h
   exact⟨x,List.mem_cons_self ..,Nat.eq_of_beq_eq_true hb.1,hb.2,h⟩
  | false=>
   rw [hb] at h
   obtain⟨y,hy,h2⟩:=zmj r j V h
   exact⟨y,List.mem_cons_of_mem _ hy,h2⟩
theorem zgL {ρ:(i:Nat)→XS i} {rc:Nat→Bool} {S:List (E3 XS)} {G:Nat→Option Res} (hG:∀ j,okSt rc j S=true→(∃ x∈S,x.i=j∧tIs x.t x.i=true)→∀ R,zbe ρ rc j S=some R→G j=some R) :
  ∀ (L:List (E3 XS)),(∀ x∈L,x∈S)→(L.map (·.i)).Nodup→∃ js,(∀ j∈js,j∈L.map (·.i))∧js.Nodup∧F2 (fun j R=>G j=some R) js (zeS ρ rc S L)
 | [],_,_=>⟨[],fun _ h=>h,List.nodup_nil,trivial⟩
 | x :: r,hs,hn=>by
  rw [List.map_cons,List.nodup_cons] at hn
  obtain⟨js,h1,h2,h3⟩:=zgL hG r (fun y hy=>hs y (List.mem_cons_of_mem _ hy)) hn.2
  have h1':∀ j∈js,j∈(x :: r).map (·.i):=fun j hj=>List.mem_cons_of_mem _ (h1 j hj)
  unfold zeS
  cases hb:tIs x.t x.i&&okSt rc x.i S with
  | false=>exact⟨js,h1',h2,h3⟩
  | true=>
   rw [Bool.and_eq_true] at hb
   simp only [cond_true]
   cases hsl:zbe ρ rc x.i S with
   | none=>exact⟨js,h1',h2,h3⟩
   | some R=>
    refine⟨x.i :: js,fun j hj=>?_,List.nodup_cons.2 ⟨fun hm=>hn.1 (h1 _ hm),h2⟩,hG x.i hb.2 ⟨x,hs x (List.mem_cons_self ..),rfl,hb.1⟩ R hsl,h3⟩
    rcases List.mem_cons.1 hj with rfl | hj
    ·exact List.mem_cons_self ..
    ·exact h1' j hj
def Loc3 (ms:List Nat) (x:E3 XS):Prop:=∀ ρ ρ':(i:Nat)→XS i,(∀ j,(rcf ms x.i j=true∨j=x.i)→ρ j=ρ' j)→x.V ρ=x.V ρ'∧x.A ρ=x.A ρ'
def Go3 (c:Cx) (ds:List Deferred) (pre:List Oper) (ms:List Nat) (T0:List (Nat×Value)) (H:List Res) (i:Nat) (o:Oper) (S:List (E3 XS)) (x:E3 XS):Prop:=
 (x.t=none∧x.d.isSome=true∧∀ ρ:(i:Nat)→XS i,Y c ds (zeS ρ (rcf ms i) S S++H) (zdA ρ (zaT o) S++zcl pre i T0) o (x.V ρ)) ∨
 (x.t=some i∧x.d.isSome=true∧∃ (V:((i:Nat)→XS i)→XS i→Value) (A:((i:Nat)→XS i)→XS i→Res),(∀ ρ,x.V ρ=V ρ (ρ i))∧(∀ ρ,x.A ρ=A ρ (ρ i)) ∧
  (∀ ρ ρ':(i:Nat)→XS i,(∀ j,rcf ms i j=true→ρ j=ρ' j)→V ρ=V ρ'∧A ρ=A ρ') ∧
  ∀ ρ:(i:Nat)→XS i,YX c ds (zeS ρ (rcf ms i) S S++H) (zdA ρ (zaT o) S++zcl pre i T0) o (V ρ) (A ρ)) ∨
 (x.d=none∧∃ j,x.t=some j∧rcf ms i j=true∧((List.range i).all fun r=>!rcf ms r j||rcf ms i r)=true ∧
  ∀ ρ:(i:Nat)→XS i,∃ R,zbe ρ (rcf ms i) j S=some R∧zfW c ds (zdA ρ (zaT o) S++zcl pre i T0) H o R (x.A ρ))
def Ob3 (c:Cx) (ds:List Deferred) (pre:List Oper) (ms:List Nat) (T0:List (Nat×Value)) (H:List Res) (i:Nat) (o:Oper) (S:List (E3 XS)) (x:E3 XS):Prop:=
 match o.guard with
 | none=>Go3 c ds pre ms T0 H i o S x
 | some (j,want)=>(∃ V0,lk3 S j=some V0∧(∀ ρ,V0 ρ=.bool want)∧zaT o j=true∧Go3 c ds pre ms T0 H i o S x) ∨
  ∃ (V0:((i:Nat)→XS i)→Value) (u0:Value) (q:Bool) (u:((i:Nat)→XS i)→Value),lk3 S j=some V0∧(∀ ρ,V0 ρ=u0)∧zaT o j=true∧(q=true↔u0=.bool want)∧x.t=none∧x.d.isSome=true ∧
   (∀ ρ,x.V ρ=if q=true then u ρ else undef)∧(q=true→∀ ρ:(i:Nat)→XS i,Y c ds (zeS ρ (rcf ms i) S S++H) (zdA ρ (zaT o) S++zcl pre i T0) o (u ρ))
def PH3 (c:Cx) (ds:List Deferred) (pre:List Oper) (ms:List Nat) (T0:List (Nat×Value)) (H:List Res) (K:List (E3 XS)→Prop):Nat→List Oper→List (E3 XS)→Prop
 | _,[],S=>K S
 | i,o :: r,S=>∃ x:E3 XS,x.i=i∧x.d=o.dst∧Loc3 ms x∧Ob3 c ds pre ms T0 H i o S x∧PH3 c ds pre ms T0 H K (i+1) r (x :: S)
def zdR:List (Option Nat)→Bool
 | []=>true
 | some d :: r=>r.all (fun x=>match x with | some e=>!Nat.beq d e | none=>true)&&zdR r
 | none :: r=>zdR r
def zeY (n:Nat) (pre suf:List Oper) (ms:List Nat):Bool:=
 zb8 0 (pre++suf)&&zkb (pre++suf)&&zdR (dsts pre)&&pre.all (fun o=>zhp o.dst n) &&
 (suf.isEmpty||((List.range pre.length).all fun j=>rcf ms pre.length j))&&zhL (pre++suf) pre.length&&okM (pre++suf) ms
theorem zef:∀ (l:List Oper),zdR (dsts l)=true→∀ (i j:Nat) (oi oj:Oper),l[i]?=some oi→l[j]?=some oj→i≠j→∀ d,oi.dst=some d→oj.dst≠some d
 | [],_,i,_,_,_,h,_,_,_,_=>by simp at h
 | x :: r,h,i,j,oi,oj,hi,hj,hij,d,hd=>by
  simp only [dsts,List.map_cons] at h
  have hrec:zdR (dsts r)=true:=by
   cases hx:x.dst with
   | none=>rw [hx] at h; exact h
   | some dx=>rw [hx] at h; simp only [zdR,Bool.and_eq_true] at h; exact h.2
  have hr:∀ dx,x.dst=some dx→∀ (k:Nat) o,r[k]?=some o→o.dst≠some dx:=fun dx hx k o hk he=>by
   rw [hx] at h
   simp only [zdR,Bool.and_eq_true] at h
   have:=List.all_eq_true.1 h.1 o.dst (List.mem_map.2 ⟨o,List.mem_of_getElem? hk,rfl⟩)
   rw [he] at this
   simp at this
  cases i with
  | zero=>
   simp only [List.getElem?_cons_zero,Option.some.injEq] at hi
   subst hi
   cases j with
   | zero=>exact absurd rfl hij
   | succ j=>exact hr d hd j oj (by simpa using hj)
  | succ i=>
   cases j with
   | zero=>
    simp only [List.getElem?_cons_zero,Option.some.injEq] at hj
    subst hj
    intro he
    exact hr d he i oi (by simpa using hi) hd
   | succ j=>exact zef r hrec i j oi oj (by simpa using hi) (by simpa using hj) (by omega) d hd
theorem zhm {ms:List Nat} {i j:Nat} (h:rcf ms i j=true):j < i:=by
 unfold rcf at h
 rw [Bool.and_eq_true] at h
 exact Nat.le_of_ble_eq_true h.1
theorem zfI {ops:List Oper} {ms:List Nat} (hm:okM ops ms=true) (hb:zb8 0 ops=true) {listed:Array Bool} (hc:∀ (k:Nat) o,ops[k]?=some o→isOn listed k→∀ j,zaT o j=true→isOn listed j) :
  ∀ (i:Nat) (o:Oper),ops[i]?=some o→(∀ j,zaT o j=true→isOn listed j)→∀ j,rcf ms i j=true→isOn listed j:=by
 intro i
 induction i using Nat.strongRecOn with
 | _ i ih=>
  intro o ho hd j hj
  have hlt:i < ops.length:=(List.getElem?_eq_some_iff.1 ho).1
  have h1:=List.all_eq_true.1 (List.all_eq_true.1 hm i (List.mem_range.2 hlt)) j (List.mem_range.2 (zhm hj))
  rw [hj,ho] at h1
  simp only [Bool.not_true,Bool.false_or,List.any_eq_true,Bool.and_eq_true,Bool.or_eq_true] at h1
  obtain⟨e,he,hbe,h2⟩:=h1
  have hon:zaT o e.on=true:=by
   unfold zaT
   rw [List.any_eq_true]
   exact⟨e,he,by rw [hbe,Nat.beq_refl]; rfl⟩
  have hlist:=hd e.on hon
  rcases h2 with h2 | h2
  ·rw [←Nat.eq_of_beq_eq_true h2]; exact hlist
  ·have hei:e.on < i:=by have:=zbY ops 0 hb i o ho e.on hon; omega
   have hel:e.on < ops.length:=by omega
   exact ih e.on hei ops[e.on] (by simp [hel]) (fun k hk=>hc e.on ops[e.on] (by simp [hel]) hlist k hk) j h2
end
end Go.K
namespace Go.K
open Go Go.RowKit
abbrev onF (listed:Array Bool):Nat→Bool:=fun k=>listed.getD k false
structure Inv3 {XS:Nat→Type} (c:Cx) (ds:List Deferred) (ops pre:List Oper) (T0:List (Nat×Value)) (H:List Res) (S:List (E3 XS)) (listed:Array Bool) (a:Act) (w:World):Prop where
 base:Base c.U c.w0 w
 size:a.tmps.size=c.n
 defers:a.defers=ds
 closed:∀ (k:Nat) (o:Oper),ops[k]?=some o→isOn listed k→∀ j,zaT o j=true→isOn listed j
 old:∀ s v,lk T0 s=some v→(∀ (i:Nat) (o:Oper),pre[i]?=some o→isOn listed i→o.dst≠some s)→a.tmps[s]?=some v
 fam:∃ (ρ:(i:Nat)→XS i) (B:Nat→Nat→Prop),(∀ x∈S,isOn listed x.i→∀ d,x.d=some d→a.tmps[d]?=some (x.V ρ))∧Slots c H (fun j=>zbe ρ (onF listed) j S) B w
section
variable {XS:Nat→Type} {c:Cx} {ds:List Deferred} {p:Post} {ops pre suf:List Oper} {T0:List (Nat×Value)} {H:List Res} {S:List (E3 XS)} {listed:Array Bool} {a:Act} {w:World} {ms:List Nat}
theorem zfn {l:Array Bool} {i:Nat} (hi:i < l.size) (j:Nat):onF (l.setIfInBounds i true) j=(Nat.beq j i||onF l j):=by
 have h:=zbt hi j
 unfold isOn at h
 unfold onF
 cases h1:(l.setIfInBounds i true).getD j false with
 | true=>
  rcases h.1 h1 with rfl | h2
  ·simp
  ·rw [h2]; simp
 | false=>
  have h2:¬ (j=i∨l.getD j false=true):=fun h3=>by rw [h.2 h3] at h1; cases h1
  have h3:Nat.beq j i=false:=by
   cases hb:Nat.beq j i with
   | false=>rfl
   | true=>exact absurd (.inl (Nat.eq_of_beq_eq_true hb)) h2
  have h4:l.getD j false=false:=by
   cases hb:l.getD j false with
   | false=>rfl
   | true=>exact absurd (.inr hb) h2
  rw [h3,h4]; rfl
theorem zem (hI:∀ (k:Nat) (o:Oper),ops[k]?=some o→isOn listed k→∀ j,zaT o j=true→isOn listed j) {i:Nat} {o:Oper} (ho:ops[i]?=some o) (hil:i < listed.size) (hclo:∀ j,zaT o j=true→isOn listed j) :
  ∀ (k:Nat) (o:Oper),ops[k]?=some o→isOn (listed.setIfInBounds i true) k→∀ j,zaT o j=true→isOn (listed.setIfInBounds i true) j:=by
 have hon:∀ j,isOn (listed.setIfInBounds i true) j↔j=i∨isOn listed j:=zbt hil
 intro k ok hk honk j hj
 rcases(hon k).1 honk with rfl | hk'
 ·rw [ho] at hk; cases hk
  exact(hon j).2 (.inr (hclo j hj))
 ·exact(hon j).2 (.inr (hI k ok hk hk' j hj))
structure Ents3 (ms:List Nat) (pre:List Oper) (S:List (E3 XS)):Prop where
 nd:(S.map (·.i)).Nodup
 op:∀ x∈S,∃ o,pre[x.i]?=some o∧o.dst=x.d
 loc:∀ x∈S,Loc3 ms x
 sto:∀ x∈S,∀ j,x.t=some j→j≠x.i→rcf ms x.i j=true∧∀ r,r < x.i→rcf ms r j=true→rcf ms x.i r=true
theorem Ents3.uniq (h:Ents3 ms pre S):∀ x∈S,∀ y∈S,x.i=y.i→x=y:=by
 have key:∀ (L:List (E3 XS)),(L.map (·.i)).Nodup→∀ x∈L,∀ y∈L,x.i=y.i→x=y:=by
  intro L
  induction L with
  | nil=>intro _ x hx; cases hx
  | cons z r ih=>
   intro hn x hx y hy hxy
   simp only [List.map_cons,List.nodup_cons] at hn
   rcases List.mem_cons.1 hx with rfl | hx' <;> rcases List.mem_cons.1 hy with rfl | hy'
   ·rfl
   ·exact absurd (List.mem_map.2 ⟨y,hy',hxy.symm⟩) hn.1
   ·exact absurd (List.mem_map.2 ⟨x,hx',hxy⟩) hn.1
   ·exact ih hn.2 x hx' y hy' hxy
 exact key S h.nd
theorem zcq {t:Option Nat} {j:Nat}:tIs t j=true↔t=some j:=by
 unfold tIs
 cases t with
 | none=>simp
 | some k=>exact⟨fun h=>by rw [Nat.eq_of_beq_eq_true h],fun h=>by rw [Option.some.inj h]; exact Nat.beq_refl _⟩
theorem Inv3.sat (hI:Inv3 c ds ops pre T0 H S listed a w) {ρ:(i:Nat)→XS i} (hv:∀ x∈S,isOn listed x.i→∀ d,x.d=some d→a.tmps[d]?=some (x.V ρ)) {i:Nat} (hpre:∀ (k:Nat) o,pre[k]?=some o→ops[k]?=some o) (hun:¬ isOn listed i)
  {o:Oper} (hclo:∀ j,zaT o j=true→isOn listed j) {S':List (E3 XS)} (hS:∀ x∈S',x∈S):Sat c.n (zdA ρ (zaT o) S' ++ zcl pre i T0) ds a:=by
 refine⟨hI.size,fun t v h=>?_,hI.defers⟩
 rcases zez S' h with ⟨x,hx,hd,hb,rfl⟩ | h
 ·exact hv x (hS x hx) (hclo _ hb) t hd
 ·rw [zhu] at h
  obtain⟨h1,h2⟩:=zcD (fun s=>pre.all (fun f=>(match f.dst with | some d=>!Nat.beq d s | none=>true)||zaT f i)) T0 _ (fun _ _ _ _=>trivial) rfl t v h
  refine hI.old t v h1 fun k o hk hon hd=>?_
  rw [List.all_eq_true] at h2
  have h3:=h2 o (List.mem_of_getElem? hk)
  rw [hd] at h3
  simp only [Nat.beq_refl,Bool.not_true,Bool.false_or] at h3
  exact hun (hI.closed k o (hpre k o hk) hon i h3)
theorem Inv3.shown (hI:Inv3 c ds ops pre T0 H S listed a w) (hE:Ents3 ms pre S) {ρ:(i:Nat)→XS i} {B:Nat→Nat→Prop} (hs:Slots c H (fun j=>zbe ρ (onF listed) j S) B w) {i:Nat} (hun:¬ isOn listed i)
  (hrc:∀ j,rcf ms i j=true→isOn listed j) (hrcl:∀ k,isOn listed k→∀ j,rcf ms k j=true→isOn listed j) {q S':List (E3 XS)} {x:E3 XS} (hxi:x.i=i) (hq:S=q++x :: S') (hgt:∀ y∈q,i < y.i) :
  Hp c.U c.w0 (zeS ρ (rcf ms i) S' S' ++ H) w∧∀ j,okSt (rcf ms i) j S' = true→rcf ms i j=true→zbe ρ (rcf ms i) j S' = zbe ρ (onF listed) j S:=by
 have heq:∀ j,okSt (rcf ms i) j S' = true→rcf ms i j=true→zbe ρ (rcf ms i) j S' = zbe ρ (onF listed) j S:=fun j hok hij=>by
  have h1:zbe ρ (onF listed) j S=zbe ρ (onF listed) j S':=by
   rw [hq]
   have e:q++x :: S' = (q++[x])++S':=by simp
   rw [e]
   refine zb0 (q++[x]) S' fun y hy ht=>?_
   have hyS:y∈S:=by rw [hq,e]; exact List.mem_append_left _ hy
   have hoff:¬ isOn listed y.i:=fun hon=>by
    rcases List.mem_append.1 hy with hy' | hy'
    ·have hgt':=hgt y hy'
     have hji:=zhm hij
     have h2:=(hE.sto y hyS j (zcq.1 ht) (by omega)).2 i hgt' hij
     exact hun (hrcl _ hon i h2)
    ·rw [List.mem_singleton.1 hy',hxi] at hon
     exact hun hon
   unfold isOn at hoff
   unfold onF
   simpa using hoff
  rw [h1]
  refine zbN S' fun y hy ht=>?_
  have h2:=zfm S' hok y hy ht
  have h3:=hrc _ h2
  unfold isOn at h3
  unfold onF
  exact⟨by rw [h2,h3],fun _=>rfl⟩
 refine⟨⟨hI.base,?_⟩,heq⟩
 have hnd:(S'.map (·.i)).Nodup:=by
  have:=hE.nd
  rw [hq,List.map_append,List.nodup_append] at this
  have:=this.2.1
  rw [List.map_cons,List.nodup_cons] at this
  exact this.2
 obtain⟨js,_,h2,h3⟩:=zgL (ρ:=ρ) (rc:=rcf ms i) (S:=S') (G:=fun j=>zbe ρ (onF listed) j S) (fun j hok hex R hR=>by
  obtain⟨y,hy,hyj,ht⟩:=hex
  have:rcf ms i j=true:=zfm S' hok y hy (by rw [←hyj]; exact ht) |> (hyj ▸ ·)
  rw [←heq j hok this]; exact hR) S' (fun _ h=>h) hnd
 exact hs.holds js _ h3 h2
theorem Inv3.put (hI:Inv3 c ds ops pre T0 H S listed a w) (hE:Ents3 ms pre S) {i d:Nat} {o:Oper} {x:E3 XS} (hx:x∈S) (hxi:x.i=i) (hp:pre[i]?=some o) (ho:ops[i]?=some o) (hil:i < listed.size) (hd:o.dst=some d) (hxd:x.d=some d)
  (hdist:∀ j oj,pre[j]?=some oj→j≠i→oj.dst≠some d) (hn:d < c.n) (hclo:∀ j,zaT o j=true→isOn listed j) {w':World} {v:Value} (hb:Base c.U c.w0 w') {ρ':(i:Nat)→XS i} {B':Nat→Nat→Prop}
  (hv:v=x.V ρ') (hold:∀ y∈S,isOn listed y.i→y.i≠i→∀ d',y.d=some d'→a.tmps[d']?=some (y.V ρ')) (hs:Slots c H (fun j=>zbe ρ' (onF (listed.setIfInBounds i true)) j S) B' w') :
  Inv3 c ds ops pre T0 H S (listed.setIfInBounds i true) (a.put (some d) v) w':=by
 have hon:∀ j,isOn (listed.setIfInBounds i true) j↔j=i∨isOn listed j:=zbt hil
 have hput:∀ t u,t≠d→a.tmps[t]?=some u→(a.put (some d) v).tmps[t]?=some u:=fun t u ht hu=>by
  simp only [Act.put]
  rw [Array.getElem?_setIfInBounds_ne (Ne.symm ht)]; exact hu
 refine⟨hb,by simp [Act.put,hI.size],hI.defers,zem hI.closed ho hil hclo,?_,ρ',B',?_,hs⟩
 ·intro s u hs' hno
  have hsd:s≠d:=fun h=>hno i o hp ((hon i).2 (.inl rfl)) (by rw [hd,h])
  exact hput s u hsd (hI.old s u hs' (fun k ok hk hlk=>hno k ok hk ((hon k).2 (.inr hlk))))
 ·intro y hy hoy d' hd'
  by_cases hyi:y.i=i
  ·have:y=x:=hE.uniq y hy x hx (hyi.trans hxi.symm)
   subst this
   rw [hxd,Option.some.injEq] at hd'
   subst hd'
   simp [Act.put,hI.size,hn,hv]
  ·have hly:isOn listed y.i:=((hon y.i).1 hoy).resolve_left hyi
   refine hput d' _ ?_ (hold y hy hly hyi d' hd')
   intro hdd
   obtain⟨oy,hoy',hdy⟩:=hE.op y hy
   exact hdist y.i oy hoy' hyi (by rw [hdy,hd',hdd])
theorem zqn {K:List (E3 XS)→Prop}:∀ (r:List Oper) (i:Nat) (Sa:List (E3 XS)),PH3 c ds pre ms T0 H K i r Sa→∃ S,K S∧(∃ q,S=q++Sa∧q.map (·.i)=(List.range' i r.length).reverse) ∧
  ∀ (j:Nat) o,r[j]?=some o→∃ x S',x.i=i+j∧x.d=o.dst∧Loc3 ms x∧Ob3 c ds pre ms T0 H (i+j) o S' x∧∃ q,S=q++x :: S'
 | [],i,Sa,h=>⟨Sa,h,⟨[],rfl,rfl⟩,fun j o hj=>by simp at hj⟩
 | o :: r,i,Sa,h=>by
  obtain⟨x,hi,hd,hl,hO,hr⟩:=h
  obtain⟨S,hK,⟨q,hq,hq2⟩,hall⟩:=zqn r (i+1) _ hr
  refine⟨S,hK,⟨q++[x],by rw [hq]; simp,?_⟩,?_⟩
  ·simp only [List.map_append,hq2,List.map_cons,List.map_nil,List.length_cons,List.range'_succ,List.reverse_cons,hi]
  ·intro j oj hj
   cases j with
   | zero=>
    simp only [List.getElem?_cons_zero,Option.some.injEq] at hj
    subst hj
    exact⟨x,Sa,hi,hd,hl,hO,q,hq⟩
   | succ j=>
    simp only [List.getElem?_cons_succ] at hj
    obtain⟨x',S',h1,h2,h3,h4,h5⟩:=hall j oj hj
    exact⟨x',S',by omega,h2,h3,by rwa [show i+(j+1)=i+1+j from by omega],h5⟩
theorem ztX {i:Nat} {o:Oper} {S':List (E3 XS)} {x:E3 XS} (h:Go3 c ds pre ms T0 H i o S' x) (hxi:x.i=i):∀ j,x.t=some j→j≠x.i→rcf ms x.i j=true∧∀ r,r < x.i→rcf ms r j=true→rcf ms x.i r=true:=by
 intro j hj hne
 rcases h with ⟨ht,_⟩ | ⟨ht,_⟩ | ⟨_,j',ht,h1,h2,_⟩
 ·rw [ht] at hj; cases hj
 ·rw [ht,Option.some.injEq] at hj; exact absurd (hj.symm.trans hxi.symm) hne
 ·rw [ht,Option.some.injEq] at hj
  subst hj
  rw [hxi]
  refine⟨h1,fun r hr hrj=>?_⟩
  have:=List.all_eq_true.1 h2 r (List.mem_range.2 hr)
  rw [hrj] at this
  simpa using this
theorem zxr {i:Nat} {o:Oper} {S':List (E3 XS)} {x:E3 XS} (h:Ob3 c ds pre ms T0 H i o S' x) (hxi:x.i=i):∀ j,x.t=some j→j≠x.i→rcf ms x.i j=true∧∀ r,r < x.i→rcf ms r j=true→rcf ms x.i r=true:=by
 unfold Ob3 at h
 cases hg:o.guard with
 | none=>rw [hg] at h; exact ztX h hxi
 | some gw=>
  rw [hg] at h
  rcases h with ⟨_,_,_,_,h⟩ | ⟨_,_,_,_,_,_,_,_,ht,_⟩
  ·exact ztX h hxi
  ·intro j hj; rw [ht] at hj; cases hj
theorem zt6 (hI:Inv3 c ds ops pre T0 H S listed a w) {ρ:(i:Nat)→XS i} (hv:∀ x∈S,isOn listed x.i→∀ d,x.d=some d→a.tmps[d]?=some (x.V ρ)) (hall:∀ x∈S,isOn listed x.i):Sat c.n (zdA ρ (fun _=>true) S++zd3 pre T0) ds a:=by
 refine⟨hI.size,fun t v h=>?_,hI.defers⟩
 rcases zez S h with ⟨x,hx,hd,_,rfl⟩ | h
 ·exact hv x hx (hall x hx) t hd
 ·rw [zeI] at h
  obtain⟨h1,h2⟩:=zcD (fun s=>pre.all (fun f=>match f.dst with | some d=>!Nat.beq d s | none=>true)) T0 _ (fun _ _ _ _=>trivial) rfl t v h
  refine hI.old t v h1 fun k o hk _ hd=>?_
  rw [List.all_eq_true] at h2
  have h3:=h2 o (List.mem_of_getElem? hk)
  rw [hd] at h3
  simp at h3
theorem zuw (hc:zeY c.n pre suf ms=true) (hE:Ents3 ms pre S) (hS1:S.map (·.i)=(List.range' 0 pre.length).reverse)
  (hall:∀ (j:Nat) o,pre[j]?=some o→∃ (x:E3 XS) (S':List (E3 XS)),x.i=0+j∧x.d=o.dst∧Loc3 ms x∧Ob3 c ds pre ms T0 H (0+j) o S' x∧∃ q,S=q++x :: S')
  (hK:∀ ρ:(i:Nat)→XS i,GK c ds (KL c (pre++suf).toArray p suf) (zdA ρ (fun _=>true) S++zd3 pre T0) (zeS ρ (fun _=>true) S S++H)) :
  ∀ (fuel:Nat) (listed:Array Bool) (a:Act) (w:World),((List.range (pre++suf).length).filter (fun i=>!listed.getD i false)).length≤fuel→listed.size=(pre++suf).length →
   (∀ k,pre.length≤k→¬ isOn listed k)→Inv3 c ds (pre++suf) pre T0 H S listed a w→wpAnyIn (FW c.r) 0 c.P .any (pre++suf).toArray p.Q fuel listed a w:=by
 simp only [zeY,Bool.and_eq_true] at hc
 obtain⟨⟨⟨⟨⟨⟨hback,hdef⟩,hdst⟩,hok⟩,hfirst⟩,hchain⟩,hmk⟩:=hc
 have hpre:∀ (k:Nat) o,pre[k]?=some o→(pre++suf)[k]?=some o:=fun k o h=>by
  have:=(List.getElem?_eq_some_iff.1 h).1
  rw [List.getElem?_append_left this]; exact h
 have hmem:∀ x∈S,x.i < pre.length:=fun x hx=>by
  have hjm:x.i∈S.map (·.i):=List.mem_map.2 ⟨_,hx,rfl⟩
  rw [hS1,List.mem_reverse,List.mem_range'_1] at hjm
  omega
 have fin:∀ (listed:Array Bool) (a:Act) (w:World),(∀ i,i < pre.length→isOn listed i)→Inv3 c ds (pre++suf) pre T0 H S listed a w→KL c (pre++suf).toArray p suf a w:=by
  intro listed a w hallon hI
  obtain⟨ρ,B,hv,hs⟩:=hI.fam
  have hon:∀ x∈S,isOn listed x.i:=fun x hx=>hallon _ (hmem x hx)
  refine hK ρ a w (zt6 hI hv hon) ⟨hI.base,?_⟩
  obtain⟨js,_,h2,h3⟩:=zgL (ρ:=ρ) (rc:=fun _=>true) (S:=S) (G:=fun j=>zbe ρ (onF listed) j S) (fun j _ _ R hR=>by
   rw [←hR]
   refine zbN S fun y hy _=>⟨?_,fun _=>rfl⟩
   have:=hon y hy
   unfold isOn at this
   unfold onF
   rw [this]) S (fun _ h=>h) hE.nd
  exact hs.holds js _ h3 h2
 intro fuel
 induction fuel with
 | zero=>
  intro listed a w hf hsz hsuf hI
  by_cases hallon:∀ i,i < pre.length→isOn listed i
  ·have hl:=fin listed a w hallon hI
   have h0:suf.length=0:=by
    rcases Nat.eq_zero_or_pos suf.length with h | h
    ·exact h
    ·exfalso
     have hmem:pre.length∈(List.range (pre++suf).length).filter (fun i=>!listed.getD i false):=by
      rw [List.mem_filter,List.mem_range]
      refine⟨by simp; omega,?_⟩
      have:=hsuf pre.length (Nat.le_refl _)
      unfold isOn at this
      simp only [Bool.not_eq_true] at this
      rw [this]; rfl
     have:=List.length_pos_of_mem hmem
     omega
   refine zhl (m:=pre.length) hback hchain 0 0 0 listed a w (by rw [List.length_append]; omega) (Nat.le_refl _) hsz (fun k hk=>⟨fun _=>by simp at hk; omega,fun h=>hallon k (by omega)⟩) ?_
   rw [Nat.add_zero,List.drop_left]
   exact hl
  ·exfalso
   obtain⟨i,hi⟩:=Classical.not_forall.1 hallon
   obtain⟨hi1,hi2⟩:=Classical.not_imp.1 hi
   have hmem:i∈(List.range (pre++suf).length).filter (fun i=>!listed.getD i false):=by
    rw [List.mem_filter,List.mem_range]
    refine⟨by simp; omega,?_⟩
    unfold isOn at hi2
    simp only [Bool.not_eq_true] at hi2
    rw [hi2]; rfl
   have:=List.length_pos_of_mem hmem
   omega
 | succ fuel ih=>
  intro listed a w hf hsz hsuf hI
  have hrcl:∀ k,isOn listed k→∀ j,rcf ms k j=true→isOn listed j:=fun k hk j hj=>by
   have hkl:k < pre.length:=by
    rcases Nat.lt_or_ge k pre.length with h | h
    ·exact h
    ·exact absurd hk (hsuf k h)
   exact zfI hmk hback hI.closed k pre[k] (hpre k _ (by simp [hkl])) (fun j hj=>hI.closed k pre[k] (hpre k _ (by simp [hkl])) hk j hj) j hj
  by_cases hallon:∀ i,i < pre.length→isOn listed i
  ·have hl:=fin listed a w hallon hI
   have hcnt:suf.length≤fuel+1:=by
    refine Nat.le_trans ?_ hf
    rw [List.length_append,List.range_eq_range',←List.range'_append_1,List.filter_append,List.length_append]
    refine Nat.le_trans ?_ (Nat.le_add_left _ _)
    rw [List.filter_eq_self.2 (fun x hx=>?_)]
    ·simp
    ·rw [List.mem_range'_1] at hx
     have:=hsuf x (by omega)
     unfold isOn at this
     simp only [Bool.not_eq_true] at this
     rw [this]; rfl
   refine zhl (m:=pre.length) hback hchain suf.length 0 (fuel+1) listed a w (by simp) hcnt hsz (fun k hk=>⟨fun hon=>?_,fun h=>hallon k (by omega)⟩) ?_
   ·rcases Nat.lt_or_ge k pre.length with h | h
    ·omega
    ·exact absurd hon (hsuf k h)
   rw [Nat.add_zero,List.drop_left]
   exact hl
  ·have hex:∃ i,i < pre.length∧¬ isOn listed i:=by
    obtain⟨i,hi⟩:=Classical.not_forall.1 hallon
    exact⟨i,Classical.not_imp.1 hi⟩
   refine⟨fun h0=>?_,fun i hi=>?_⟩
   ·exfalso
    have least:∀ n,(∃ i,i < n∧¬ isOn listed i)→∃ i,i < n∧¬ isOn listed i∧∀ k,k < i→isOn listed k:=by
     intro n
     induction n with
     | zero=>rintro ⟨i,hi,_⟩; omega
     | succ n ih=>
      rintro ⟨i,hi,hno⟩
      by_cases h:∃ i,i < n∧¬ isOn listed i
      ·obtain⟨j,h1,h2,h3⟩:=ih h
       exact⟨j,by omega,h2,h3⟩
      ·refine⟨i,hi,hno,fun k hk=>Classical.byContradiction fun hn=>h ⟨k,by omega,hn⟩⟩
    obtain⟨i,h1,h2,h3⟩:=least _ hex
    have hlt:i < (pre++suf).length:=by simp; omega
    have:i∈Region.ready .any (pre++suf).toArray listed:=by
     refine(zbX (by simpa using hsz)).2 ⟨by simpa using hlt,h2,(pre++suf)[i],by simp,fun j hj=>?_⟩
     have:=zbY _ 0 hback i (pre++suf)[i] (by simp) j hj
     exact h3 j (by omega)
    rw [h0] at this
    cases this
   ·obtain⟨g1,g2,o,ho,g3⟩:=(zbX (by simpa using hsz)).1 hi
    simp only [List.size_toArray] at g1
    have ho':(pre++suf)[i]?=some o:=by simpa using ho
    have him:i < pre.length:=by
     rcases Nat.lt_or_ge i pre.length with h | h
     ·exact h
     ·exfalso
      rcases Nat.lt_or_ge pre.length i with hgt | hle
      ·unfold zhL at hchain
       have:=List.all_eq_true.1 hchain (i - pre.length - 1) (by rw [List.mem_range]; omega)
       rw [show pre.length+(i - pre.length - 1)+1=i from by omega,ho'] at this
       exact hsuf _ (by omega) (g3 _ this)
      ·have hie:i=pre.length:=by omega
       have hne:suf.isEmpty=false:=by
        cases suf with
        | nil=>simp at g1; omega
        | cons _ _=>rfl
       rw [hne,Bool.false_or] at hfirst
       obtain⟨k,hk1,hk2⟩:=hex
       have:=List.all_eq_true.1 hfirst k (List.mem_range.2 hk1)
       rw [←hie] at this
       exact hk2 (zfI hmk hback hI.closed i o ho' g3 k this)
    have hpi:pre[i]?=some o:=by rw [List.getElem?_append_left him] at ho'; exact ho'
    obtain⟨x,S',hxi,hxd,hloc,hOb,q,hq⟩:=hall i o hpi
    rw [Nat.zero_add] at hOb hxi
    have hxS:x∈S:=by rw [hq]; simp
    have hsubS:∀ y∈S',y∈S:=fun y hy=>by rw [hq]; simp [hy]
    have hsort:(q.map (·.i))++i :: (S'.map (·.i))=(List.range' 0 pre.length).reverse:=by
     rw [←hS1,hq,List.map_append,List.map_cons,hxi]
    have hdesc:((q.map (·.i))++i :: (S'.map (·.i))).Pairwise (· > ·):=by
     rw [hsort,List.pairwise_reverse]
     exact List.pairwise_lt_range'
    rw [List.pairwise_append,List.pairwise_cons] at hdesc
    have hgt:∀ y∈q,i < y.i:=fun y hy=>hdesc.2.2 _ (List.mem_map.2 ⟨y,hy,rfl⟩) _ (List.mem_cons_self ..)
    have hlt:∀ y∈S',y.i < i:=fun y hy=>hdesc.2.1.1 _ (List.mem_map.2 ⟨y,hy,rfl⟩)
    have hrc:∀ j,rcf ms i j=true→isOn listed j:=fun j hj=>zfI hmk hback hI.closed i o ho' g3 j hj
    have hilt:i < listed.size:=by omega
    have hnd:zfO o=false:=by
     have:=List.all_eq_true.1 hdef o (List.mem_of_getElem? (hpre i o hpi))
     simpa using this
    have hcont:∀ (a':Act) (w':World),Inv3 c ds (pre++suf) pre T0 H S (listed.setIfInBounds i true) a' w'→wpAnyIn (FW c.r) 0 c.P .any (pre++suf).toArray p.Q fuel (listed.setIfInBounds i true) a' w':=by
     intro a' w' hI'
     refine ih _ _ _ ?_ (by simp [hsz]) (fun k hk hon=>?_) hI'
     ·have:=zkI (l:=List.range (pre++suf).length) (q:=fun i=>!listed.getD i false) (q':=fun k=>!(listed.setIfInBounds i true).getD k false) (i:=i) ?_ (List.mem_range.2 g1) ?_ ?_
      ·omega
      ·intro x hx'
       have:¬ isOn (listed.setIfInBounds i true) x:=by unfold isOn; simpa using hx'
       have:¬ isOn listed x:=fun h=>this ((zbt hilt x).2 (.inr h))
       unfold isOn at this
       simpa using this
      ·unfold isOn at g2; simpa using g2
      ·have:isOn (listed.setIfInBounds i true) i:=(zbt hilt i).2 (.inl rfl)
       unfold isOn at this
       simp only [this]; rfl
     ·rcases(zbt hilt k).1 hon with rfl | h
      ·omega
      ·exact hsuf k hk h
    obtain⟨ρ,B,hv,hs⟩:=hI.fam
    have hsat:=hI.sat hv hpre g2 g3 hsubS
    obtain⟨hhp,hview⟩:=hI.shown hE hs g2 hrc hrcl hxi hq hgt
    have hother:∀ y∈S,y.i=i→y=x:=fun y hy hyi=>hE.uniq y hy x hxS (hyi.trans hxi.symm)
    have hslot0:x.t=none→∀ j,zbe ρ (onF (listed.setIfInBounds i true)) j S=zbe ρ (onF listed) j S:=fun ht j=>by
     refine zbN S fun y hy hyt=>⟨?_,fun _=>rfl⟩
     rw [zfn hilt]
     have:y.i≠i:=fun e=>by
      rw [hother y hy e,ht] at hyt
      cases hyt
     have hb:Nat.beq y.i i=false:=by
      cases hb:Nat.beq y.i i with
      | false=>rfl
      | true=>exact absurd (Nat.eq_of_beq_eq_true hb) this
     rw [hb,Bool.false_or]
    have hdo:∀ d,x.d=some d→d < c.n∧∀ j oj,pre[j]?=some oj→j≠i→oj.dst≠some d:=fun d hd=>by
     rw [hxd] at hd
     refine⟨?_,fun j oj hj hji=>zef pre hdst i j o oj hpi hj (Ne.symm hji) d hd⟩
     have:=List.all_eq_true.1 hok o (List.mem_of_getElem? hpi)
     rw [hd] at this
     exact Nat.le_of_ble_eq_true this
    have hpure:∀ (v:Value) (w':World),x.t=none→x.d.isSome=true→v=x.V ρ→Ext w w'→wpAnyIn (FW c.r) 0 c.P .any (pre++suf).toArray p.Q fuel (listed.setIfInBounds i true) (a.put o.dst v) w':=by
     intro v w' ht hds hveq hx
     obtain⟨d,hd⟩:=Option.isSome_iff_exists.1 hds
     obtain⟨hdn,hdist⟩:=hdo d hd
     have hod:o.dst=some d:=by rw [←hxd,hd]
     rw [hod]
     exact hcont _ _ (hI.put hE hxS hxi hpi ho' hilt hod hd hdist hdn g3 (hI.base.ext hx) hveq (fun y hy hon _ d' hd'=>hv y hy hon d' hd') ((hs.congr (hslot0 ht)).ext hx))
    have hgo:Go3 c ds pre ms T0 H i o S' x→o.wpIn (FW c.r) 0 c.P a w (wpAnyIn (FW c.r) 0 c.P .any (pre++suf).toArray p.Q fuel (listed.setIfInBounds i true)) p.Q:=by
     rintro (⟨ht,hds,hY⟩ | ⟨ht,hds,V,A,hVx,hAx,hVA,hY⟩ | ⟨hds,j,ht,hij,hrq,hY⟩)
     ·refine za9 hnd ((hY ρ).run a w hsat hhp) fun v w' hvw=>?_
      exact hpure v w' ht hds hvw.1 hvw.2
     ·refine za9 hnd ((hY ρ).run a w hsat hhp) fun v w' hvw=>?_
      obtain⟨u,rfl,hx,Bn,hBn,hA⟩:=hvw
      obtain⟨d,hd⟩:=Option.isSome_iff_exists.1 hds
      obtain⟨hdn,hdist⟩:=hdo d hd
      have hod:o.dst=some d:=by rw [←hxd,hd]
      rw [hod]
      let ρ':(i:Nat)→XS i:=fun k=>if h:k=i then h ▸ u else ρ k
      have hρi:ρ' i=u:=by simp [ρ']
      have hρk:∀ k,k≠i→ρ' k=ρ k:=fun k hk=>by simp [ρ',hk]
      have hsame:∀ y∈S,isOn listed y.i→y.V ρ' = y.V ρ∧y.A ρ' = y.A ρ:=fun y hy hon=>by
       refine hE.loc y hy ρ' ρ fun k hk=>hρk k fun e=>?_
       subst e
       rcases hk with hk | hk
       ·exact g2 (hrcl _ hon _ hk)
       ·rw [←hk] at hon; exact g2 hon
      have hVA':=hVA ρ' ρ (fun k hk=>hρk k (fun e=>by have:=zhm hk; omega))
      have hxV:x.V ρ' = V ρ u:=by rw [hVx,hVA'.1,hρi]
      have hxA:x.A ρ' = A ρ u:=by rw [hAx,hVA'.2,hρi]
      have hsl:∀ j,zbe ρ' (onF (listed.setIfInBounds i true)) j S=if j=i then some (A ρ u) else zbe ρ (onF listed) j S:=fun j=>by
       by_cases hji:j=i
       ·rw [if_pos hji,hq,hji]
        rw [zb0 q]
        ·show(bif tIs x.t i&&onF (listed.setIfInBounds i true) x.i then some (x.A ρ') else zbe ρ' _ i S')=_
         rw [ht,hxi,zfn hilt,Nat.beq_refl,hxA]
         show(bif Nat.beq i i&&true then _ else _)=_
         rw [Nat.beq_refl]; rfl
        ·intro y hy hyt
         have hyS:y∈S:=by rw [hq]; exact List.mem_append_left _ hy
         have hgi:=hgt y hy
         have h1:=(hE.sto y hyS i (zcq.1 hyt) (by omega)).1
         rw [zfn hilt]
         have hb:Nat.beq y.i i=false:=by
          cases hb:Nat.beq y.i i with
          | false=>rfl
          | true=>have:=Nat.eq_of_beq_eq_true hb; omega
         rw [hb,Bool.false_or]
         cases ho2:onF listed y.i with
         | false=>rfl
         | true=>exact absurd (hrcl y.i ho2 i h1) g2
       ·rw [if_neg hji]
        refine zbN S fun y hy hyt=>?_
        have hyi:y.i≠i:=fun e=>by
         rw [hother y hy e,ht] at hyt
         exact hji (Option.some.inj (zcq.1 hyt)).symm
        have hb:Nat.beq y.i i=false:=by
         cases hb:Nat.beq y.i i with
         | false=>rfl
         | true=>exact absurd (Nat.eq_of_beq_eq_true hb) hyi
        have he:onF (listed.setIfInBounds i true) y.i=onF listed y.i:=by rw [zfn hilt,hb,Bool.false_or]
        exact⟨he,fun hon=>(hsame y hy (show onF listed y.i=true by rw [←he]; exact hon)).2⟩
      exact hcont _ _ (hI.put hE hxS hxi hpi ho' hilt hod hd hdist hdn g3 (hI.base.ext hx) hxV.symm (fun y hy hon _ d' hd'=>by rw [(hsame y hy hon).1]; exact hv y hy hon d' hd') ((hs.new hI.base hx i hBn hA).congr hsl))
     ·obtain⟨R,hR,hSO⟩:=hY ρ
      have hod:o.dst=none:=by rw [←hxd,hds]
      have hjlt:=zhm hij
      have hGj:zbe ρ (onF listed) j S=some R:=by
       rw [←hview j ?_ hij]; exact hR
       have key:∀ (L:List (E3 XS)),(∀ y∈L,y∈S')→okSt (rcf ms i) j L=true:=by
        intro L
        induction L with
        | nil=>intro _; rfl
        | cons y L ihL=>
         intro hL
         have hy:=hL y (List.mem_cons_self ..)
         show(((!tIs y.t j||rcf ms i y.i))&&okSt (rcf ms i) j L)=true
         rw [ihL (fun z hz=>hL z (List.mem_cons_of_mem _ hz)),Bool.and_true]
         cases hyt:tIs y.t j with
         | false=>rfl
         | true=>
          show rcf ms i y.i=true
          by_cases hyj:j=y.i
          ·rw [←hyj]; exact hij
          ·have h1:=(hE.sto y (hsubS y hy) j (zcq.1 hyt) hyj).1
           have:=List.all_eq_true.1 hrq y.i (List.mem_range.2 (hlt y hy))
           rw [h1] at this
           simpa using this
       exact key S' (fun _ h=>h)
      obtain⟨g4,g5⟩:=hs.own j R hGj
      refine za9 hnd (hSO.run a w (B j) hsat ⟨hI.base,?_⟩ (fun k hk=>(g5 k hk).2) g4) fun v w' hvw=>?_
      ·exact Holds.anti H (fun k hk=>.inl hk) hs.out
      obtain⟨hm,B',ho2,hA'⟩:=hvw
      rw [hod]
      obtain⟨hb',hs'⟩:=hs.upd hGj hI.base hm ho2 hA'
      have hsl:∀ k,zbe ρ (onF (listed.setIfInBounds i true)) k S=if k=j then some (x.A ρ) else zbe ρ (onF listed) k S:=fun k=>by
       by_cases hkj:k=j
       ·rw [if_pos hkj,hq,hkj]
        rw [zb0 q]
        ·show(bif tIs x.t j&&onF (listed.setIfInBounds i true) x.i then some (x.A ρ) else zbe ρ _ j S')=_
         rw [ht,hxi,zfn hilt,Nat.beq_refl]
         show(bif Nat.beq j j&&true then _ else _)=_
         rw [Nat.beq_refl]; rfl
        ·intro y hy hyt
         have hyS:y∈S:=by rw [hq]; exact List.mem_append_left _ hy
         have hgi:=hgt y hy
         have h1:=(hE.sto y hyS j (zcq.1 hyt) (by omega)).2 i hgi hij
         rw [zfn hilt]
         have hb:Nat.beq y.i i=false:=by
          cases hb:Nat.beq y.i i with
          | false=>rfl
          | true=>have:=Nat.eq_of_beq_eq_true hb; omega
         rw [hb,Bool.false_or]
         cases ho3:onF listed y.i with
         | false=>rfl
         | true=>exact absurd (hrcl y.i ho3 i h1) g2
       ·rw [if_neg hkj]
        refine zbN S fun y hy hyt=>⟨?_,fun _=>rfl⟩
        have hyi:y.i≠i:=fun e=>by
         rw [hother y hy e,ht] at hyt
         exact hkj (Option.some.inj (zcq.1 hyt)).symm
        have hb:Nat.beq y.i i=false:=by
         cases hb:Nat.beq y.i i with
         | false=>rfl
         | true=>exact absurd (Nat.eq_of_beq_eq_true hb) hyi
        rw [zfn hilt,hb,Bool.false_or]
      have hon:∀ j,isOn (listed.setIfInBounds i true) j↔j=i∨isOn listed j:=zbt hilt
      refine hcont _ _ ⟨hb',hI.size,hI.defers,zem hI.closed ho' hilt g3,fun s u hs0 hno=>hI.old s u hs0 (fun k ok hk hlk=>hno k ok hk ((hon k).2 (.inr hlk))),ρ,_,fun y hy hoy d' hd'=>?_,hs'.congr hsl⟩
      have hyi:y.i≠i:=fun e=>by rw [hother y hy e,hds] at hd'; cases hd'
      exact hv y hy (((hon y.i).1 hoy).resolve_left hyi) d' hd'
    unfold wpOpIn
    rw [ho]
    simp only []
    unfold Ob3 at hOb
    cases hg:o.guard with
    | none=>
     rw [hg] at hOb
     rw [if_pos (by simp [Region.wanted,hg])]
     exact hgo hOb
    | some gw=>
     obtain⟨j,want⟩:=gw
     rw [hg] at hOb
     have hyl:∀ V0,lk3 S' j=some V0→zaT o j=true→∀ b:Bool,yielded (pre++suf).toArray a.tmps j=some b↔V0 ρ=.bool b:=fun V0 hlk hbj b=>by
      obtain⟨y,hy,hyj,hyd,hyV⟩:=zmj S' j _ hlk
      obtain⟨d,hd⟩:=Option.isSome_iff_exists.1 hyd
      obtain⟨oj,hoj,hdj⟩:=hE.op y (hsubS y hy)
      have hval:=hv y (hsubS y hy) (by rw [hyj]; exact g3 j hbj) d hd
      rw [hyj] at hoj
      rw [←hyV]
      exact zd2 (by simpa using hpre j oj hoj) (by rw [hdj,hd]) hval
     rcases hOb with ⟨V0,hlk,hV0,hbj,hGo⟩ | ⟨V0,u0,qb,u,hlk,hV0,hbj,hq0,ht,hds,hxV,hst⟩
     ·rw [if_pos (by simp only [Region.wanted,hg]; rw [(hyl V0 hlk hbj want).2 (hV0 ρ)]; simp)]
      exact hgo hGo
     ·have hy:=hyl V0 hlk hbj want
      rw [hV0] at hy
      cases hqq:qb with
      | true=>
       rw [if_pos (by simp only [Region.wanted,hg]; rw [hy.2 (hq0.1 hqq)]; simp)]
       refine za9 hnd ((hst hqq ρ).run a w hsat hhp) fun v w' hvw=>?_
       exact hpure v w' ht hds (by rw [hxV,if_pos hqq]; exact hvw.1) hvw.2
      | false=>
       have hnw:¬ yielded (pre++suf).toArray a.tmps j=some want:=fun h=>by
        have:=hq0.2 (hy.1 h)
        rw [hqq] at this
        cases this
       rw [if_neg (by simp only [Region.wanted,hg]; simpa using hnw)]
       refine⟨fun _ _=>trivial,?_⟩
       exact hpure undef w ht hds (by rw [hxV,if_neg (by simp [hqq])]) Ext.rfl
theorem zf3 {id:Nat} {l:List Oper} {d:Bool} (XS:Nat→Type) (m:Nat) (ms:List Nat) (hm:d=true→c.P.follows .mixedOrders=true) (hc:zeY c.n (l.take m) (l.drop m) ms=true) (hρ:Nonempty ((i:Nat)→XS i))
  (h:PH3 (XS:=XS) c ds (l.take m) ms T0 H (fun S=>∀ ρ:(i:Nat)→XS i,GK c ds (KL c l.toArray p (l.drop m)) (zdA ρ (fun _=>true) S++zd3 (l.take m) T0) (zeS ρ (fun _=>true) S S++H)) 0 (l.take m) []):GK c ds (KC c (.region id l.toArray d) p) T0 H:=by
 intro a w ha hw
 obtain⟨ρ0⟩:=hρ
 obtain⟨S,hK,⟨q,hq,hq2⟩,hall⟩:=zqn _ _ _ h
 rw [List.append_nil] at hq
 have hl:l.take m++l.drop m=l:=List.take_append_drop m l
 have hS1:S.map (·.i)=(List.range' 0 (l.take m).length).reverse:=by rw [hq]; exact hq2
 have hx:∀ x∈S,∃ o S',(l.take m)[x.i]?=some o∧x.d=o.dst∧Loc3 ms x∧Ob3 c ds (l.take m) ms T0 H x.i o S' x:=fun x hx=>by
  have hjm:x.i∈S.map (·.i):=List.mem_map.2 ⟨_,hx,rfl⟩
  have hnd0:(S.map (·.i)).Nodup:=by
   rw [hS1]
   unfold List.Nodup
   rw [List.pairwise_reverse]
   exact(List.nodup_range' (s:=0) (n:=(l.take m).length) (step:=1)).imp Ne.symm
  rw [hS1,List.mem_reverse,List.mem_range'_1] at hjm
  have hlt:x.i < (l.take m).length:=by omega
  obtain⟨y,S',hyi,hyd,hyl,hyo,q',hq'⟩:=hall x.i (l.take m)[x.i] (List.getElem?_eq_getElem hlt)
  rw [Nat.zero_add] at hyi hyo
  have hyS:y∈S:=by rw [hq']; simp
  have key:∀ (L:List (E3 XS)),(L.map (·.i)).Nodup→∀ x∈L,∀ y∈L,x.i=y.i→x=y:=by
   intro L
   induction L with
   | nil=>intro _ x hx; cases hx
   | cons z r ih=>
    intro hn x hx y hy hxy
    simp only [List.map_cons,List.nodup_cons] at hn
    rcases List.mem_cons.1 hx with rfl | hx' <;> rcases List.mem_cons.1 hy with rfl | hy'
    ·rfl
    ·exact absurd (List.mem_map.2 ⟨y,hy',hxy.symm⟩) hn.1
    ·exact absurd (List.mem_map.2 ⟨x,hx',hxy⟩) hn.1
    ·exact ih hn.2 x hx' y hy' hxy
  have:y=x:=key S hnd0 y hyS x hx hyi
  subst this
  exact⟨_,S',List.getElem?_eq_getElem hlt,hyd,hyl,hyo⟩
 have hE:Ents3 ms (l.take m) S:=by
  refine⟨?_,fun x hxS=>?_,fun x hxS=>?_,fun x hxS=>?_⟩
  ·rw [hS1]
   unfold List.Nodup
   rw [List.pairwise_reverse]
   exact(List.nodup_range' (s:=0) (n:=(l.take m).length) (step:=1)).imp Ne.symm
  ·obtain⟨o,_,h1,h2,_⟩:=hx x hxS
   exact⟨o,h1,h2.symm⟩
  ·obtain⟨_,_,_,_,h3,_⟩:=hx x hxS
   exact h3
  ·obtain⟨o,S',_,_,_,h4⟩:=hx x hxS
   exact zxr h4 rfl
 have hmain:∀ w,Hp c.U c.w0 H w→wpAnyIn (FW c.r) 0 c.P .any l.toArray p.Q l.length (Array.replicate l.length false) a w:=by
  intro w hw
  have hoff:∀ k,¬ isOn (Array.replicate l.length false) k:=fun k=>by
   unfold isOn
   by_cases hk:k < l.length
   ·simp [hk]
   ·simp [hk]
  have hnone:∀ j,zbe ρ0 (onF (Array.replicate l.length false)) j S=none:=fun j=>by
   cases hsl:zbe ρ0 (onF (Array.replicate l.length false)) j S with
   | none=>rfl
   | some R=>
    obtain⟨x,_,_,hon⟩:=zgb S hsl
    exact absurd hon (hoff x.i)
  have:=zuw (c:=c) (ds:=ds) (p:=p) (pre:=l.take m) (suf:=l.drop m) (T0:=T0) (H:=H) (S:=S) hc hE hS1 hall (by rw [hl]; exact hK) l.length (Array.replicate l.length false) a w
   (by rw [hl]; exact Nat.le_trans (List.length_filter_le _ _) (by simp)) (by rw [hl]; simp) (fun k _=>hoff k)
   ⟨hw.base,ha.size,ha.defers,fun k o _ hon=>absurd hon (hoff k),fun s v hs _=>ha.val s v hs,ρ0,fun _ _=>False,fun x _ hon=>absurd hon (hoff x.i),
    ⟨fun j R hj=>(by rw [hnone j] at hj; cases hj),fun i _ hi=>(by rw [hnone i] at hi; cases hi),Holds.anti H (fun k hk=>by
     rcases hk with hk | ⟨_,_,hk⟩
     ·exact hk
     ·exact hk.elim) hw.holds⟩⟩
  rw [hl] at this
  exact this
 cases d
 ·refine wpIn_region ?_
  have hb:zb8 0 l=true:=by
   simp only [zeY,Bool.and_eq_true] at hc
   obtain⟨⟨⟨⟨⟨⟨hback,_⟩,_⟩,_⟩,_⟩,_⟩,_⟩:=hc
   rwa [hl] at hback
  have:=zer (c:=c) (p:=p) hb l.length 0 l.length (Array.replicate l.length false) a w (by omega) (Nat.le_refl _) (by simp) (fun i hi=>⟨fun h=>by
   unfold isOn at h
   simp [hi] at h,fun h=>by omega⟩) (hmain w hw)
  rw [List.range_eq_range']
  simpa using this
 ·refine wpIn_region_any (hm rfl) ?_
  have:=hmain _ hw.drawn
  simpa using this
end
section
variable {XS:Nat→Type} {c:Cx} {ds:List Deferred} {pre:List Oper} {ms:List Nat} {T0:List (Nat×Value)} {H:List Res} {K:List (E3 XS)→Prop} {i d:Nat} {r:List Oper} {S:List (E3 XS)} {op:Op} {ty:TypeId} {ps:String} {af:Array Edge}
abbrev zkB (XS:Nat→Type) (ms:List Nat) (i:Nat) (ρ ρ':(i:Nat)→XS i):Prop:=∀ j,rcf ms i j=true→ρ j=ρ' j
theorem zbD {V:((i:Nat)→XS i)→Value} (h:∀ ρ:(i:Nat)→XS i,Y c ds (zeS ρ (rcf ms i) S S++H) (zdA ρ (zaT ⟨some d,op,ty,ps,af,none⟩) S++zcl pre i T0) ⟨some d,op,ty,ps,af,none⟩ (V ρ))
  (hl:∀ ρ ρ':(i:Nat)→XS i,zkB XS ms i ρ ρ'→V ρ=V ρ') (k:PH3 c ds pre ms T0 H K (i+1) r (⟨i,some d,none,V,fun _=>Emp⟩ :: S)):PH3 c ds pre ms T0 H K i (⟨some d,op,ty,ps,af,none⟩ :: r) S:=
 ⟨_,rfl,rfl,fun ρ ρ' hs=>⟨hl ρ ρ' (fun j hj=>hs j (.inl hj)),rfl⟩,.inl ⟨rfl,rfl,h⟩,k⟩
theorem zgB {V:((i:Nat)→XS i)→XS i→Value} {A:((i:Nat)→XS i)→XS i→Res} (h:∀ ρ:(i:Nat)→XS i,YX c ds (zeS ρ (rcf ms i) S S++H) (zdA ρ (zaT ⟨some d,op,ty,ps,af,none⟩) S++zcl pre i T0) ⟨some d,op,ty,ps,af,none⟩ (V ρ) (A ρ))
  (hl:∀ ρ ρ':(i:Nat)→XS i,zkB XS ms i ρ ρ'→V ρ=V ρ'∧A ρ=A ρ') (k:PH3 c ds pre ms T0 H K (i+1) r (⟨i,some d,some i,fun ρ=>V ρ (ρ i),fun ρ=>A ρ (ρ i)⟩ :: S)):PH3 c ds pre ms T0 H K i (⟨some d,op,ty,ps,af,none⟩ :: r) S:=
 ⟨_,rfl,rfl,fun ρ ρ' hs=>by
  obtain⟨h1,h2⟩:=hl ρ ρ' (fun j hj=>hs j (.inl hj))
  have h3:=hs i (.inr rfl)
  exact⟨by show V ρ (ρ i)=V ρ' (ρ' i); rw [h1,h3],by show A ρ (ρ i)=A ρ' (ρ' i); rw [h2,h3]⟩,.inr (.inl ⟨rfl,rfl,V,A,fun _=>rfl,fun _=>rfl,hl,h⟩),k⟩
theorem zlr {A R:((i:Nat)→XS i)→Res} (j:Nat) (h1:rcf ms i j=true) (h2:((List.range i).all fun r=>!rcf ms r j||rcf ms i r)=true) (h3:∀ ρ:(i:Nat)→XS i,zbe ρ (rcf ms i) j S=some (R ρ))
  (h:∀ ρ:(i:Nat)→XS i,zfW c ds (zdA ρ (zaT ⟨none,op,ty,ps,af,none⟩) S++zcl pre i T0) H ⟨none,op,ty,ps,af,none⟩ (R ρ) (A ρ))
  (hl:∀ ρ ρ':(i:Nat)→XS i,zkB XS ms i ρ ρ'→A ρ=A ρ') (k:PH3 c ds pre ms T0 H K (i+1) r (⟨i,none,some j,fun _=>undef,A⟩ :: S)):PH3 c ds pre ms T0 H K i (⟨none,op,ty,ps,af,none⟩ :: r) S:=
 ⟨_,rfl,rfl,fun ρ ρ' hs=>⟨rfl,hl ρ ρ' (fun j hj=>hs j (.inl hj))⟩,.inr (.inr ⟨rfl,j,rfl,h1,h2,fun ρ=>⟨R ρ,h3 ρ,h ρ⟩⟩),k⟩
end
def AllN:List (Nat×Type)→Prop
 | []=>True
 | (_,T) :: r=>Nonempty T∧AllN r
theorem zjK (l:List (Nat×Type)) (h:AllN l):Nonempty ((i:Nat)→ch l i):=by
 have key:∀ (l:List (Nat×Type)),AllN l→∀ i,Nonempty (ch l i):=by
  intro l
  induction l with
  | nil=>intro _ _; exact⟨()⟩
  | cons x r ih=>
   intro h i
   unfold ch
   cases Nat.beq x.1 i with
   | true=>exact h.1
   | false=>exact ih h.2 i
 exact⟨fun i=>Classical.choice (key l h i)⟩
theorem zf4 {c:Cx} {ds:List Deferred} {K:Act→World→Prop} {T:List (Nat×Value)} {H:List Res} {X:Type} (x:X) (T':X→List (Nat×Value)) (H':X→List Res) (hs:sub (T' x) T) (hH:H=H' x) (h:∀ x,GK c ds K (T' x) (H' x)):GK c ds K T H:=by
 subst hH; exact zae hs (h x)
theorem zpT {c:Cx} {ds:List Deferred} {K:Act→World→Prop} {T T':List (Nat×Value)} {H H':List Res} (hs:sub T' T) (hH:H=H') (h:GK c ds K T' H'):GK c ds K T H:=by
 subst hH; exact zae hs h
end Go.K
namespace Go.K
open Go Go.RowKit
section
variable {c:Cx} {ds:List Deferred} {p:Post} {T:List (Nat×Value)} {H:List Res} {d:Option Nat} {ty:TypeId} {ps:String} {af:Array Edge} {g:Option (Nat×Bool)} {x y z:Operand} {u v:Value}
theorem zou {P:Program} {w:World} {t:TypeId} {m n:Bool} (ht:P.underlying t=some .bool):(Op.equal t (.bool m) (.bool n)).run P w=.ok (m == n) w:=by
 unfold Op.equal Op.maxDepth Op.equalIn
 rw [zal (zaU ht)]
 rfl
theorem zsx {t t':TypeId} {m n:Bool} (ht:c.P.underlying t=some .bool) (hx:evo T x=some (.bool m)) (hy:evo T y=some (.bool n)):Y c ds H T ⟨d,.binOp .eql t x y t',ty,ps,af,g⟩ (.bool (m == n)):=
 zcz fun a w ha _=>by
  simp only [execOp,ha.eval hx,ha.eval hy]
  exact zbu (by rw [zal zhs]; exact(zal (zou ht)).trans rfl)
end
end Go.K
namespace Go.K
open Go Go.RowKit
section
variable {α:Type} {k:Nat} {enc:α→List Value} {a:Option Addr} {l:List α} {w:World}
theorem zoc {cap lo:Nat} (h:Has w (zaW a k enc l)) (hc:l.length≤cap) (h1:lo≤l.length):Has w (zaW (subA a k lo cap) k enc (l.drop lo)):=by
 have:=zkR h lo (l.length - lo) cap (by omega) (by omega)
 rwa [List.take_of_length_le (by simp)] at this
theorem zje {m hi:Nat} (h:Has w (zaW a k enc l)) (h1:hi≤l.length) (h2:hi≤m):Has w (zaW (subA a k 0 m) k enc (l.take hi)):=by
 have:=zkR h 0 hi m (by omega) (by omega)
 rwa [List.drop_zero] at this
theorem zcM {cap:Nat} {e:TypeId} (h:Has w (Row a k cap e enc l)):l.length≤cap:=by
 obtain⟨B,_,hA⟩:=h
 exact Row.bounds hA
end
section
variable {c:Cx} {ds:List Deferred} {p:Post} {T:List (Nat×Value)} {H:List Res} {ops:Array Oper} {rest:List Oper} {d:Option Nat} {ty:TypeId} {ps:String} {af:Array Edge} {g:Option (Nat×Bool)} {x y z:Operand} {u v:Value}
variable {α:Type} {k:Nat} {enc:α→List Value}
section
variable {t e:TypeId} {cap:Nat} {a:Option Addr} {l:List α} {kl kh km:IntKind} {lo hi mx:Int} {xl xh xm:Operand}
theorem zg9 (ht:SE c.P t e k) (hx:evo T x=some (.slice a l.length cap)) (hl:evo T xl=some (.int kl lo)) (h0:0≤lo) (h1:lo≤(l.length:Int)) :
  Y c ds H T ⟨d,.slice t x (some xl) none none,ty,ps,af,g⟩ (.slice (subA a k lo.toNat cap) (l.drop lo.toNat).length (cap - lo.toNat)):=by
 rw [List.length_drop]; exact zq2 ht hx hl h0 h1
theorem zg8 (ht:SE c.P t e k) (hx:evo T x=some (.slice a l.length cap)) (hh:evo T xh=some (.int kh hi)) (h0:0≤hi) (h1:hi≤(l.length:Int)) (h2:l.length≤cap) :
  Y c ds H T ⟨d,.slice t x none (some xh) none,ty,ps,af,g⟩ (.slice (subA a k 0 cap) (l.take hi.toNat).length cap):=by
 rw [List.length_take,Nat.min_eq_left (by omega)]; exact zq1 ht hx hh h0 (by omega)
end
theorem zn6 {t e:TypeId} {cap n:Nat} {a0:Option Addr} {kd:IntKind} {i:Int} {l:List α} (ht:SE c.P t e k) (hx:evo T x=some (.slice a0 n cap)) (hy:evo T y=some (.int kd i))
  (hh:∀ w,Hp c.U c.w0 H w→Has w (zaW a0 k enc l)) (hn:l.length=n) (h0:0≤i) (h1:i < (l.length:Int)):Y c ds H T ⟨d,.indexAddr t x y,ty,ps,af,g⟩ (epx a0 (i.toNat*k)):=by
 subst hn; exact zaE ht hx hy hh h0 h1
theorem zbT {K:Act→World→Prop} (n:Nat) (h:GK c ds K T (SepR (H.take n) :: H.drop n)):GK c ds K T H:=fun a w ha hw=>
 h a w ha (Hp.pack (by rwa [List.take_append_drop]))
theorem zbP {K:Act→World→Prop} {L:List Res} (h:GK c ds K T (L++H)):GK c ds K T (SepR L :: H):=fun a w ha hw=>
 h a w ha hw.split
end
end Go.K
namespace Go.K
open Go Go.RowKit
structure AE (P:Program) (t e:TypeId) (n k:Nat):Prop where
 u:P.underlying t=some (.array n e)
 i:(P.info? e).map (fun i=>i.size)=some k
section
variable {c:Cx} {ds:List Deferred} {p:Post} {T:List (Nat×Value)} {H:List Res} {ops:Array Oper} {rest:List Oper} {d:Option Nat} {ty:TypeId} {ps:String} {af:Array Edge} {g:Option (Nat×Bool)} {x y z:Operand} {u v:Value}
theorem zbQ {o:Oper} {b:Bool} (h:Y c ds H T o (.bool b)) (hb:b=true):Y c ds H T o (.bool true):=by subst hb; exact h
theorem zDN {t e:TypeId} {n k b o:Nat} {kd:IntKind} {i:Int} (m:Nat) (ht:AE c.P t e n k) (hx:evo T x=some (.pointer (some ⟨b,o,none⟩))) (hy:evo T y=some (.int kd i)) (hm:i=(m:Int)) (h1:m < n) :
  Y c ds H T ⟨d,.indexAddr t x y,ty,ps,af,g⟩ (.pointer (some ⟨b,o+m*k,none⟩)):=
 zcz fun a w ha hw=>by
  subst hm
  simp only [execOp,ha.eval hx,ha.eval hy]
  refine zbu ?_
  unfold Instr.indexAt
  rw [zal (v:=(kd,(m:Int))) (w':=w) rfl]
  simp only []
  have hz:(sizeOf e).run c.P w=.ok k w:=by
   have hi:=ht.i
   cases hu:c.P.info? e with
   | none=>rw [hu] at hi; cases hi
   | some j=>
    rw [hu] at hi
    simp only [Option.map_some,Option.some.injEq] at hi
    unfold sizeOf
    rw [zal (zfK hu)]
    simp [pure,hi]
  have hu:=zaU (w:=w) ht.u
  rw [zal hu]
  simp only []
  have hs:(Instr.sureAddr (.pointer (some ⟨b,o,none⟩))).run c.P w=.ok ⟨b,o,none⟩ w:=rfl
  rw [zal hs,zal (v:=(some ⟨b,o,none⟩,n,e)) (w':=w) rfl,zal hu]
  simp only []
  rw [if_pos ⟨by omega,by omega⟩,zal hz]
  simp only [zb2,Int.toNat_natCast]
  rfl
variable {α:Type} {k:Nat} {enc:α→List Value}
end
end Go.K
namespace Go.K
open Go Go.RowKit
section
variable {c:Cx} {ds:List Deferred} {T:List (Nat×Value)} {H:List Res} {d:Option Nat} {ty:TypeId} {ps:String} {af:Array Edge} {g:Option (Nat×Bool)} {x y:Operand}
theorem zuU {t t' e:TypeId} {a:Option Addr} {n k n' k':Nat} (ht:c.P.underlying t=some (.slice e)) (hx:evo T x=some (.slice a n k)) (hy:evo T y=some (.slice none n' k')) :
  Y c ds H T ⟨d,.binOp .eql t x y t',ty,ps,af,g⟩ (.bool a.isNone):=
 zcz fun a w ha _=>by
  simp only [execOp,ha.eval hx,ha.eval hy]
  exact zbu (Go.Lib.run_eql_slice_nil _ _ _ _ _ _ _ _ ht)
end
end Go.K
namespace Go.K
open Go Go.RowKit
section
variable {α:Type} {k:Nat} {enc:α→List Value}
theorem zr9 (he:Enc k enc) {l m:List α} {lo cap off:Nat} {cs:List Value} (h:lo+m.length≤l.length) (g1:l.length≤cap) (g2:off+cap*k≤cs.length) (g3:(cs.drop off).take (l.length*k)=l.flatMap enc) :
  ((over cs (off+lo*k) (m.flatMap enc)).drop off).take (l.length*k)=(l.take lo++(m++l.drop (lo+m.length))).flatMap enc:=by
 have hm:(m.flatMap enc).length=m.length*k:=zcd he m
 have hll:l.length*k≤cap*k:=Nat.mul_le_mul_right _ g1
 have hik:lo*k+m.length*k≤l.length*k:=by rw [←Nat.add_mul]; exact Nat.mul_le_mul_right _ h
 rw [zg1 _ _ _ (by omega),hm]
 have e1:(cs.take (off+lo*k)).drop off=(l.take lo).flatMap enc:=by
  rw [List.drop_take,Nat.add_sub_cancel_left,←zh6 he (by omega),←g3,List.take_take,Nat.min_eq_left (by omega)]
 have hAl:((l.take lo).flatMap enc).length=lo*k:=by rw [zcd he,List.length_take,Nat.min_eq_left (by omega)]
 have e2:(cs.take (off+lo*k)++m.flatMap enc++cs.drop (off+lo*k+m.length*k)).drop off=(l.take lo).flatMap enc++(m.flatMap enc++cs.drop (off+lo*k+m.length*k)):=by
  rw [List.append_assoc,List.drop_append_of_le_length (by rw [List.length_take]; omega),e1]
 rw [e2,List.take_append,hAl,List.take_of_length_le (l:=(l.take lo).flatMap enc) (by rw [hAl]; omega),List.take_append,hm,List.take_of_length_le (l:=m.flatMap enc) (by rw [hm]; omega)]
 have e3:(cs.drop (off+lo*k+m.length*k)).take (l.length*k - lo*k - m.length*k)=(l.drop (lo+m.length)).flatMap enc:=by
  rw [←zh5 he (by omega),←g3,List.drop_take,List.drop_drop,Nat.add_mul]
  congr 1
  ·omega
  ·rw [Nat.add_assoc]
 rw [e3,List.flatMap_append,List.flatMap_append]
theorem zoK (he:Enc k enc) (z0:α) (n:Nat):(Builtin.zeroCells (enc z0).toArray n).toList=(List.replicate n z0).flatMap enc:=by
 have hl:=he.len z0
 have hp:=he.pos
 unfold Builtin.zeroCells
 apply List.ext_getElem
 ·rw [zcd he]; simp [hl]
 ·intro i h1 h2
  have hi:i < n*k:=by simpa [hl] using h1
  have hk:i % k < k:=Nat.mod_lt _ hp
  have hd:i / k < n:=Nat.div_lt_of_lt_mul (by rw [Nat.mul_comm]; exact hi)
  have hg:=zeG he (List.replicate n z0) (i / k) z0 (by simp [hd])
  have e:((List.replicate n z0).flatMap enc)[i]?=(enc z0)[i % k]?:=by
   rw [←hg,List.getElem?_take,if_pos hk,List.getElem?_drop]
   congr 1
   rw [Nat.mul_comm]
   exact(Nat.div_add_mod i k).symm
  have e2:((List.replicate n z0).flatMap enc)[i]=(enc z0)[i % k]'(by omega):=by
   have h3:((List.replicate n z0).flatMap enc)[i]?=some (((List.replicate n z0).flatMap enc)[i]):=by simp
   rw [h3,List.getElem?_eq_getElem (by omega)] at e
   exact Option.some.inj e
  rw [e2]
  simp [hl]
  rw [List.getElem?_eq_getElem (by omega)]; rfl
end
section
variable {c:Cx} {ds:List Deferred} {p:Post} {T:List (Nat×Value)} {H:List Res} {ops:Array Oper} {rest:List Oper} {dst:Option Nat} {ty:TypeId} {ps:String} {af:Array Edge} {x:Operand} {α:Type} {k:Nat} {enc:α→List Value}
theorem zrt {t e:TypeId} {gg:Bool} {zz:Value} {a:Option Addr} {cap lo c2 n:Nat} (l:List α) (z0:α) (i:Nat) (he:Enc k enc) (ht:c.P.underlying t=some (.slice e)) (hz:TF c.P e gg k zz) (hzc:zz.cells=(enc z0).toArray)
  (hx:evo T x=some (.slice (subA a k lo cap) n c2)) (hnl:n=(l.drop lo).length) (hi:H[i]?=some (Row a k cap e enc l)) (hlo:lo≤l.length) (hn:zhp dst c.n=true)
  (kk:GK c ds (KL c ops p rest) (putT dst (.tuple #[]) T) (H.set i (Row a k cap e enc (l.take lo++List.replicate (l.length - lo) z0)))) :
  GK c ds (KL c ops p (⟨dst,.call ⟨.builtin .clear,#[x],#[t]⟩,ty,ps,af,none⟩ :: rest)) T H:=by
 subst hnl
 refine zif (X:=Unit) (fun _=>.tuple #[]) (fun _=>H.set i (Row a k cap e enc (l.take lo++List.replicate (l.length - lo) z0))) rfl rfl hn ?_ (fun _=>kk)
 intro A w ha hw
 obtain⟨B,hF⟩:=hw.foc hi
 have hrun:(execOp A.eval ⟨dst,.call ⟨.builtin .clear,#[x],#[t]⟩,ty,ps,af,none⟩).run c.P w=(Next.value <$> Builtin.clear_ #[t] ty #[.slice (subA a k lo cap) (l.drop lo).length c2]:Sem Next).run c.P w:=by
  rw [zcp («as»:=[x]) (vs:=[.slice (subA a k lo cap) (l.drop lo).length c2]) (by simp [evs,hx]) ha w]
  rfl
 unfold Yld
 rw [hrun]
 have hb:(Next.value <$> Builtin.clear_ #[t] ty #[.slice (subA a k lo cap) (l.drop lo).length c2]:Sem Next)=(Builtin.clear_ #[t] ty #[.slice (subA a k lo cap) (l.drop lo).length c2] >>= fun v=>pure (Next.value v)):=rfl
 rw [hb]
 by_cases hl:l.length=lo
 ·have h0:(l.drop lo).length=0:=by simp [hl]
  have hr:(Builtin.clear_ #[t] ty #[.slice (subA a k lo cap) (l.drop lo).length c2]).run c.P w=.ok (.tuple #[]) w:=by
   rw [h0]
   unfold Builtin.clear_
   show(underlying t >>= _).run c.P w=_
   rw [zal (zaU ht)]
   cases subA a k lo cap <;> rfl
  rw [zal hr]
  refine⟨(),rfl,?_⟩
  have hll:l.take lo++List.replicate (l.length - lo) z0=l:=by rw [hl,Nat.sub_self,←hl,List.take_length]; simp
  rw [hll]
  have:H.set i (Row a k cap e enc l)=H:=by
   obtain⟨h1,h2⟩:=List.getElem?_eq_some_iff.1 hi
   rw [←h2]
   exact List.set_getElem_self h1
  rw [this]
  exact hw
 ·rcases hF.A with ⟨_,_,rfl⟩ | ⟨b,off,cs,hab,hB,hbk,g1,g2,g3⟩
  ·simp at hlo; exact absurd (by simp [hlo]) hl
  subst hab
  have hn0:(l.drop lo).length=l.length - lo:=by simp
  have hll:l.length*k≤cap*k:=Nat.mul_le_mul_right _ g1
  have hlk:lo*k+(l.length - lo)*k=l.length*k:=by rw [←Nat.add_mul]; congr 1; omega
  have hsub:subA (some ⟨b,off,none⟩) k lo cap=some ⟨b,off+lo*k,none⟩:=by
   unfold subA
   rw [if_neg (by omega)]
   simp [zb2]
  have hzl:((List.replicate (l.length - lo) z0).flatMap enc).length=(l.length - lo)*k:=by rw [zcd he]; simp
  obtain⟨w',hr,hm,hb'⟩:=zb7 (P:=c.P) (o:=off+lo*k) ((List.replicate (l.length - lo) z0).flatMap enc) cs 0 w hbk (by rw [hzl]; omega) (zfE he _)
  have hrc:(Builtin.clear_ #[t] ty #[.slice (subA (some ⟨b,off,none⟩) k lo cap) (l.drop lo).length c2]).run c.P w=.ok (.tuple #[]) w':=by
   rw [hsub,hn0]
   obtain⟨m,hm'⟩:∃ m,l.length - lo=m+1:=⟨l.length - lo - 1,by omega⟩
   rw [hm'] at hr ⊢
   unfold Builtin.clear_
   show(underlying t >>= _).run c.P w=_
   rw [zal (zaU ht)]
   show(zeroValue e >>= _).run c.P w=_
   rw [zal hz.zero,hzc,zoK he,zal hr]
   rfl
  rw [zal hrc]
  refine⟨(),rfl,?_⟩
  refine hF.upd hi ⟨hm.os,hm.tape,hm.output,hm.size,fun j hj hbj=>hm.same j hj (fun h=>hbj ((hB j).2 h))⟩ (fun j hj=>.inl hj) (.inr ⟨b,off,over cs (off+lo*k) ((List.replicate (l.length - lo) z0).flatMap enc),rfl,hB,hb',?_,by rw [zcL]; exact g2,?_⟩)
  ·simp; omega
  ·have h4:=zr9 he (m:=List.replicate (l.length - lo) z0) (lo:=lo) (by simp; omega) g1 g2 g3
   have h5:l.drop (lo+(List.replicate (l.length - lo) z0).length)=[]:=by
    apply List.drop_of_length_le
    simp; omega
   rw [h5,List.append_nil] at h4
   have h6:(l.take lo++List.replicate (l.length - lo) z0).length=l.length:=by simp; omega
   rw [h6]
   exact h4
end
theorem zl3 {α:Type} {w:World} {a:Option Addr} {k:Nat} {enc:α→List Value} {l z:List α} (h:Has w (zaW a k enc (l++z))):Has w (zaW a k enc l):=by
 obtain⟨B,hB,hA⟩:=h
 refine⟨B,hB,?_⟩
 rcases hA with hA | ⟨b,off,ha,hb,hc⟩
 ·exact .inl (List.append_eq_nil_iff.1 hA).1
 ·refine .inr ⟨b,off,ha,hb,fun i x hi=>hc i x ?_⟩
  rw [List.getElem?_append_left (List.getElem?_eq_some_iff.1 hi).1]
  exact hi
theorem zsa {α:Type} {w:World} {B:Nat→Prop} {a:Option Addr} {k cap m:Nat} {e:TypeId} {enc:α→List Value} {l:List α} (h:(Row a k cap e enc l).A B w):subA a k 0 m=a:=by
 rcases h with ⟨ha,_,_⟩ | ⟨b,off,_,ha,_⟩
 ·subst ha; unfold subA; split <;> rfl
 ·subst ha
  unfold subA
  split
  ·rfl
  ·simp [zb2]
end Go.K
namespace Go.K
open Go Go.RowKit
section
variable {α:Type} {k:Nat} {enc:α→List Value} {P:Program}
theorem zi0 {t ty e:TypeId} {by_:Nat} {zs:List Value} (hf:AF P t e k by_ zs) (he:Enc k enc) {a a2:Option Addr} {cap c2:Nat} {l m:List α} {w:World} (hRo:Has w (Row a k cap e enc l)) (hm:Has w (zaW a2 k enc m)) (hb:(l.length+m.length)*by_≤140737488355328) (hl:l.length+m.length≤maxLen) (hg:cap < l.length+m.length) :
  ∃ a' cap' w',(Builtin.append_ #[t,t] ty #[.slice a l.length cap,.slice a2 m.length c2]).run P w=.ok (.slice a' (l++m).length cap') w'∧Ext w w'∧New w w' (Row a' k cap' e enc (l++m)):=by
 obtain⟨B,_,hR⟩:=hRo
 have hi:=hf.i
 cases hu:P.info? e with
 | none=>rw [hu] at hi; cases hi
 | some i=>
 rw [hu] at hi
 simp only [Option.map_some,Option.some.injEq,Prod.mk.injEq] at hi
 obtain⟨hsz,hby,hz⟩:=hi
 cases hz0:i.zero with
 | none=>rw [hz0] at hz; cases hz
 | some z=>
 have hzl:z.cells.size=i.size:=by
  rw [hz0] at hz
  simp only [Option.map_some,Option.some.injEq] at hz
  rw [hsz,←hf.zl,←hz]; simp
 have hcap:=Row.bounds hR
 have hsmall:l.length+m.length≤9223372036854775807:=by simp only [maxLen] at hl; omega
 have hm0:m≠[]:=fun h=>by subst h; simp at hg; omega
 obtain⟨x0,m',hm1⟩:∃ x m',m=x :: m':=by cases m with
  | nil=>exact absurd rfl hm0
  | cons x m'=>exact⟨x,m',rfl⟩
 obtain⟨b2,off2,ha2,_⟩:=zdG hm (i:=0) (x:=x0) (by rw [hm1]; rfl)
 have hmlen:0 < m.length:=by rw [hm1]; simp
 have hnl:(m.flatMap enc).length=m.length*i.size:=by rw [zcd he,hsz]
 have hnews:∀ j v,(m.flatMap enc)[j]?=some v→w.cell? ((⟨b2,off2,none⟩:Addr).add j)=some v:=by
  intro j v hj
  have hjl:j < m.length*k:=by rw [←zcd he]; exact(List.getElem?_eq_some_iff.1 hj).1
  have hq:j / k < m.length:=Nat.div_lt_of_lt_mul (by rwa [Nat.mul_comm])
  obtain⟨b3,off3,ha3,hc3⟩:=zdG hm (i:=j / k) (x:=m[j / k]) (by simp [hq])
  rw [ha2] at ha3
  simp only [Option.some.injEq,Addr.mk.injEq] at ha3
  obtain⟨rfl,rfl,_⟩:=ha3
  have hg:=zeG he m (j / k) m[j / k] (by simp [hq])
  have hmod:j % k < k:=Nat.mod_lt _ he.pos
  have hdm:j / k*k+j % k=j:=by rw [Nat.mul_comm]; exact Nat.div_add_mod j k
  have hv:(enc m[j / k])[j % k]?=some v:=by
   rw [←hg,List.getElem?_take,if_pos hmod,List.getElem?_drop,hdm]; exact hj
  have:=zdQ _ _ _ _ hc3 hv
  rw [zb2]
  rwa [Nat.add_assoc,hdm] at this
 have hone:∀ u∈m.flatMap enc,u.oneCell' = true:=fun u hu'=>zg0 (List.all_eq_true.1 (zfE he m) u hu')
 subst hsz; subst hby
 rcases hR with ⟨ha,hc0,hl0⟩ | ⟨b,off,cs,ha,hB,hbk,h1,h2,h3⟩
 ·subst ha; subst hc0; subst hl0
  have hr:=run_append_nil (P:=P) w t ty e i z hf.u hu hz0 ⟨b2,off2,none⟩ m.length c2 (m.flatMap enc) hnl hnews hmlen (by simp at hsmall; omega) (by simp at hb; omega)
  subst ha2
  refine⟨some ⟨w.heap.size,0,none⟩,grownCap w m.length 0 e,w.drew.alloc (.cells ((m.flatMap enc).toArray++Builtin.zeroCells z.cells (grownCap w m.length 0 e - m.length)) e),by simpa only [List.length_nil,Nat.zero_add,List.nil_append] using hr,⟨rfl,⟨rfl,Nat.le_succ _⟩,rfl,by simp,fun j hj=>heap_alloc_old w.drew _ hj⟩,(· = w.heap.size),fun j hj=>⟨by omega,by subst hj; simp⟩,.inr ⟨w.heap.size,0,m.flatMap enc++(Builtin.zeroCells z.cells (grownCap w m.length 0 e - m.length)).toList,rfl,fun _=>Iff.rfl,?_,?_,?_,?_⟩⟩
  ·refine(World.alloc_heap_new w.drew _).trans ?_
   congr 2
   exact Array.ext' (by simp)
  ·simpa using grownCap_ge w m.length 0 e
  ·have:=grownCap_ge w m.length 0 e
   simp only [List.length_append,hnl,Array.length_toList,size_zeroCells,hzl,Nat.zero_add,←Nat.add_mul]
   exact Nat.mul_le_mul_right _ (by omega)
  ·simp only [List.drop_zero,List.nil_append,←hnl,List.take_left]
 ·subst ha
  have holds:∀ j v,(l.flatMap enc)[j]?=some v→w.cell? ((⟨b,off,none⟩:Addr).add j)=some v:=by
   intro j v hj
   rw [zb2,zgD hbk]
   rw [←h3,List.getElem?_take] at hj
   split at hj
   ·rwa [List.getElem?_drop] at hj
   ·cases hj
  have hlo:(l.flatMap enc).length=l.length*i.size:=zcd he l
  have hr:=run_append_grow (P:=P) w t ty e i z hf.u hu hz0 ⟨b,off,none⟩ l.length cap (l.flatMap enc) hlo holds ⟨b2,off2,none⟩ m.length c2 (m.flatMap enc) hnl hnews hg (by omega) (growslice_fits hg hb)
  subst ha2
  refine⟨some ⟨w.heap.size,0,none⟩,grownCap w (l.length+m.length) cap e,w.drew.alloc (.cells ((l.flatMap enc).toArray++(m.flatMap enc).toArray++Builtin.zeroCells z.cells (grownCap w (l.length+m.length) cap e - (l.length+m.length))) e),by simpa only [List.length_append] using hr,⟨rfl,⟨rfl,Nat.le_succ _⟩,rfl,by simp,fun j hj=>heap_alloc_old w.drew _ hj⟩,(· = w.heap.size),fun j hj=>⟨by omega,by subst hj; simp⟩,.inr ⟨w.heap.size,0,l.flatMap enc++m.flatMap enc++(Builtin.zeroCells z.cells (grownCap w (l.length+m.length) cap e - (l.length+m.length))).toList,rfl,fun _=>Iff.rfl,?_,?_,?_,?_⟩⟩
  ·refine(World.alloc_heap_new w.drew _).trans ?_
   congr 2
   exact Array.ext' (by simp)
  ·simpa using grownCap_ge w (l.length+m.length) cap e
  ·have:=grownCap_ge w (l.length+m.length) cap e
   simp only [List.length_append,hnl,hlo,Array.length_toList,size_zeroCells,hzl,Nat.zero_add,←Nat.add_mul]
   exact Nat.mul_le_mul_right _ (by omega)
  ·simp only [List.drop_zero,List.flatMap_append,List.length_append,Nat.add_mul]
   rw [←hlo,←hnl,←List.length_append,List.take_left]
variable {c:Cx} {ds:List Deferred} {H:List Res} {T:List (Nat×Value)} {d:Option Nat} {ty:TypeId} {ps:String} {af:Array Edge} {g:Option (Nat×Bool)} {x y:Operand}
theorem ziA {t ty e:TypeId} {by_:Nat} {zs:List Value} (hf:AF P t e k by_ zs) {a a2:Option Addr} {n cap c2:Nat} {w:World} (hcap:n≤cap) :
  (Builtin.append_ #[t,t] ty #[.slice a n cap,.slice a2 0 c2]).run P w=.ok (.slice a n cap) w:=by
 have hi:=hf.i
 cases hu:P.info? e with
 | none=>rw [hu] at hi; cases hi
 | some i=>
 have hfc:(Builtin.firstCells i.size 0 (.slice a2 0 c2)).run P w=.ok #[] w:=by
  cases a2 with
  | none=>exact run_firstCells_none w _ _ _ _
  | some b2=>exact run_firstCells_some w i.size 0 b2 _ _ [] (by simp) (by simp)
 cases a with
 | none=>simp [Builtin.append_,run_underlying hf.u,sizeOf,typeInfo,hu,Builtin.lenOf,hcap,hfc]
 | some b1=>simp [Builtin.append_,run_underlying hf.u,sizeOf,typeInfo,hu,Builtin.lenOf,hcap,hfc,storeCells]
theorem zlO {t e:TypeId} {by_:Nat} {zs:List Value} {a a2:Option Addr} {cap c2:Nat} {l m:List α} (hf:AF c.P t e k by_ zs) (he:Enc k enc)
  (hx:evo T x=some (.slice a l.length cap)) (hy:evo T y=some (.slice a2 m.length c2)) (hl:∀ w,Hp c.U c.w0 H w→Has w (Row a k cap e enc l)) (hm:∀ w,Hp c.U c.w0 H w→Has w (zaW a2 k enc m))
  (hb:(l.length+m.length)*by_≤140737488355328) (hlm:l.length+m.length≤maxLen) (hg:cap < l.length+m.length) :
  YX c ds H T ⟨d,.call ⟨.builtin .append,#[x,y],#[t,t]⟩,ty,ps,af,g⟩ (fun z:Option Addr×Nat=>.slice z.1 (l++m).length z.2) (fun z=>Row z.1 k z.2 e enc (l++m)):=by
 refine⟨fun A w hs hw=>?_⟩
 obtain⟨a',cap',w',hr,hx',hn⟩:=zi0 (P:=c.P) (ty:=ty) hf he (c2:=c2) (hl w hw) (hm w hw) hb hlm hg
 unfold Yld
 rw [zcp («as»:=[x,y]) (vs:=[.slice a l.length cap,.slice a2 m.length c2]) (by simp [evs,hx,hy]) hs w]
 simp only [builtin]
 rw [zbu hr]
 exact⟨(a',cap'),rfl,hx',hn⟩
end
end Go.K
namespace Go.K
open Go Go.RowKit
abbrev zB2 (b:UInt8):List Value:=[.int .u8 b.toNat]
theorem zCA:Enc 1 zB2:=⟨fun _=>rfl,fun _=>rfl,by decide⟩
theorem zCB (s:ByteArray):s.data.toList.flatMap zB2=Lib.strCells s:=by
 unfold Lib.strCells
 induction s.data.toList with
 | nil=>rfl
 | cons a r ih=>simp [List.flatMap_cons,ih]
theorem zCm {P:Program} {t u ty e:TypeId} (ht:P.underlying t=some (.slice e)) (hu:P.underlying u=some .string) (hi:(P.info? e).map (fun i=>(i.size,i.bytes,i.zero))=some (1,1,some (.int .u8 0)))
  {a:Option Addr} {cap:Nat} {l:List UInt8} {s:ByteArray} {w:World} {B:Nat→Prop}
  (hR:(Row a 1 cap e zB2 l).A B w) (hb:l.length+s.size≤140737488355328) :
  ∃ a' cap' w' B',(Builtin.append_ #[t,u] ty #[.slice a l.length cap,.string s]).run P w=.ok (.slice a' (l.length+s.size) cap') w'∧Mod B w w'∧Own B B' w w'∧(Row a' 1 cap' e zB2 (l++s.data.toList)).A B' w'∧((∀ x,a=some x→x.off=0)→∀ x,a' = some x→x.off=0):=by
 cases hu0:P.info? e with
 | none=>rw [hu0] at hi; cases hi
 | some i=>
 rw [hu0] at hi
 simp only [Option.map_some,Option.some.injEq,Prod.mk.injEq] at hi
 obtain⟨hsz,hby,hz0⟩:=hi
 have hcap:=Row.bounds hR
 have hsl:s.data.toList.length=s.size:=by rw [Array.length_toList]; rfl
 have hnl:=Lib.strCells_length s
 by_cases hroom:l.length+s.size≤cap
 ·rcases hR with ⟨rfl,rfl,rfl⟩ | ⟨b,off,cs,ha,hB,hbk,h1,h2,h3⟩
  ·have hs0:s.size=0:=by simpa using hroom
   have hse:s.data.toList=[]:=List.length_eq_zero_iff.1 (by omega)
   refine⟨none,0,w,B,?_,Mod.rfl,fun k hk=>.inl hk,.inl ⟨rfl,rfl,by simp [hse]⟩,fun _ _ h=>by cases h⟩
   have hf:=Lib.run_firstCells_string (P:=P) w i.size s
   rw [hs0] at hf
   simp [Builtin.append_,run_underlying ht,run_underlying hu,sizeOf,typeInfo,hu0,Builtin.lenOf,hs0,hf,Lib.strCells,hse]
  ·subst ha
   have hfit:off+l.length+(Lib.strCells s).length≤cs.length:=by rw [hnl]; omega
   have hall:(Lib.strCells s).all zgS=true:=by rw [←zCB]; exact zfE zCA _
   obtain⟨w',hr,hmd,hb'⟩:=zb7 (P:=P) (b:=b) (o:=off) (Lib.strCells s) cs l.length w hbk (by omega) hall
   refine⟨some ⟨b,off,none⟩,cap,w',(· = b),?_,⟨hmd.os,hmd.tape,hmd.output,hmd.size,fun j hj hbj=>hmd.same j hj (fun h=>hbj ((hB j).2 h))⟩,fun j hj=>.inl ((hB j).2 hj),?_,fun h x hx=>by cases hx; exact h _ rfl⟩
   ·have hf:=Lib.run_firstCells_string (P:=P) w 1 s
    have key:∀ (vs:List Value) (q j:Nat) (w:World),(storeCells ⟨b,off,none⟩ vs (q+j)).run P w=(storeCells (Addr.add ⟨b,off,none⟩ q) vs j).run P w:=by
     intro vs q
     induction vs with
     | nil=>intro j w; rfl
     | cons v r ih=>
      intro j w
      unfold storeCells
      simp only [Sem.run_bind,zb2]
      rw [show off+(q+j)=off+q+j from by omega]
      congr 1
      funext _ w1
      rw [show q+j+1=q+(j+1) from by omega]
      have:=ih (j+1) w1
      rw [zb2] at this
      exact this
    have hst:=(key (Lib.strCells s) l.length 0 w).symm.trans (by first | exact hr | (rw [Nat.add_zero]; exact hr))
    simp [Builtin.append_,run_underlying ht,run_underlying hu,sizeOf,typeInfo,hu0,hsz,Builtin.lenOf,hroom,hf,hst]
   ·refine .inr ⟨b,off,over cs (off+l.length) (Lib.strCells s),rfl,fun _=>Iff.rfl,hb',by simpa [hsl] using hroom,by rw [zcL]; exact h2,?_⟩
    obtain⟨t1,t2⟩:=zlp (Lib.strCells s) cs (off+l.length) (by omega)
    rw [List.flatMap_append,zCB,List.length_append,hsl,Nat.mul_one,←hnl]
    have e1:((over cs (off+l.length) (Lib.strCells s)).drop off).take l.length=l.flatMap zB2:=by
     rw [←h3]
     have:=congrArg (List.drop off) t1
     rw [List.drop_take,List.drop_take,Nat.add_sub_cancel_left] at this
     rw [this,Nat.mul_one]
    rw [List.take_add,e1,List.drop_drop,t2]
 ·have hg:cap < l.length+s.size:=by omega
  rcases hR with ⟨ha,hc0,hl0⟩ | ⟨b,off,cs,ha,hB,hbk,h1,h2,h3⟩
  ·subst ha; subst hc0; subst hl0
   have hs0:0 < s.size:=by simpa using hg
   have hr:=run_append_nil_string (P:=P) w t u ty e i (.int .u8 0) ht hu hu0 hz0 s hs0 (by simp at hb; omega) (by rw [hby]; simp at hb; omega)
   have hge:=grownCap_ge w s.size 0 e
   refine⟨some ⟨w.heap.size,0,none⟩,grownCap w s.size 0 e,w.drew.alloc (.cells (s.data.map (fun b=>Value.int .u8 b.toNat)++Builtin.zeroCells (Value.int .u8 0).cells (grownCap w s.size 0 e - s.size)) e),(· = w.heap.size),by simpa only [List.length_nil,Nat.zero_add] using hr,⟨rfl,⟨rfl,Nat.le_succ _⟩,rfl,by simp,fun j hj _=>heap_alloc_old w.drew _ hj⟩,fun j hj=>.inr ⟨by omega,by subst hj; simp⟩,.inr ⟨w.heap.size,0,Lib.strCells s++(Builtin.zeroCells (Value.int .u8 0).cells (grownCap w s.size 0 e - s.size)).toList,rfl,fun _=>Iff.rfl,?_,?_,?_,?_⟩,fun _ x hx=>by cases hx; rfl⟩
   ·refine(World.alloc_heap_new w.drew _).trans ?_
    congr 2
    apply Array.ext'
    simp [Lib.strCells]
   ·simpa [hsl] using hge
   ·have hz1:(Value.int IntKind.u8 0).cells.size=1:=rfl
    simp only [List.length_append,hnl,Array.length_toList,size_zeroCells,hz1]
    omega
   ·simp only [List.drop_zero,List.nil_append,Nat.mul_one,hsl,←hnl,List.take_left,zCB]
  ·subst ha
   have holds:∀ j v,(l.flatMap zB2)[j]?=some v→w.cell? ((⟨b,off,none⟩:Addr).add j)=some v:=by
    intro j v hj
    rw [zb2,zgD hbk]
    rw [←h3,List.getElem?_take] at hj
    split at hj
    ·rwa [List.getElem?_drop] at hj
    ·cases hj
   have hlo:(l.flatMap zB2).length=l.length*i.size:=by rw [hsz]; exact zcd zCA l
   have hr:=Lib.run_append_grow_string (P:=P) w t u ty e i (.int .u8 0) ht hu hu0 hz0 ⟨b,off,none⟩ l.length cap (l.flatMap zB2) hlo holds s hg (by omega) (by rw [hby]; exact growslice_fits hg (by omega))
   have hge:=grownCap_ge w (l.length+s.size) cap e
   rw [hsz] at hlo
   refine⟨some ⟨w.heap.size,0,none⟩,grownCap w (l.length+s.size) cap e,w.drew.alloc (.cells ((l.flatMap zB2).toArray++(Lib.strCells s).toArray++Builtin.zeroCells (Value.int .u8 0).cells (grownCap w (l.length+s.size) cap e - (l.length+s.size))) e),(· = w.heap.size),hr,⟨rfl,⟨rfl,Nat.le_succ _⟩,rfl,by simp,fun j hj _=>heap_alloc_old w.drew _ hj⟩,fun j hj=>.inr ⟨by omega,by subst hj; simp⟩,.inr ⟨w.heap.size,0,l.flatMap zB2++Lib.strCells s++(Builtin.zeroCells (Value.int .u8 0).cells (grownCap w (l.length+s.size) cap e - (l.length+s.size))).toList,rfl,fun _=>Iff.rfl,?_,?_,?_,?_⟩,fun _ x hx=>by cases hx; rfl⟩
   ·refine(World.alloc_heap_new w.drew _).trans ?_
    congr 2
    exact Array.ext' (by simp)
   ·simpa [hsl] using hge
   ·have hz1:(Value.int IntKind.u8 0).cells.size=1:=rfl
    simp only [List.length_append,hlo,hnl,Array.length_toList,size_zeroCells,hz1]
    omega
   ·simp only [List.drop_zero,List.flatMap_append,List.length_append,hsl,Nat.mul_one,zCB]
    rw [←hnl,←Nat.mul_one l.length,←hlo,←List.length_append,List.take_left]
end Go.K
namespace Go.K
open Go Go.RowKit Go.Shelf Go.Proofs
def Bld (b:Nat) (T e:TypeId) (l:List UInt8):Res where
 A B w:=∃ p v a c B1,w.heap[b]?=some (.cells #[p,v] T (0,0))∧(p=.pointer none∨p=.pointer (some ⟨b,0,none⟩))∧v=.slice a l.length c∧(Row a 1 c e zB2 l).A B1 w∧¬ B1 b∧(∀ k,B k↔(k=b∨B1 k))∧∀ x,a=some x→x.off=0
 loc _ w w' h hA:=by
  obtain⟨p,v,a,c,B1,h1,h2,h3,h4,h5,h6,h7⟩:=hA
  exact⟨p,v,a,c,B1,(h b ((h6 b).2 (.inl rfl))).trans h1,h2,h3,(Row a 1 c e zB2 l).loc B1 w w' (fun k hk=>h k ((h6 k).2 (.inr hk))) h4,h5,h6,h7⟩
section
variable {P:Program} {ρ:Ren}
theorem zBZ {w:World} {b o:Nat} {v:Value} {cs:Array Value} {t:TypeId} (h:w.heap[b]?=some (.cells cs t (0,0))) :
  Mod (· = b) w (w.setCell ⟨b,o,none⟩ v)∧(w.setCell ⟨b,o,none⟩ v).heap[b]?=some (.cells (cs.setIfInBounds o v) t (0,0)):=by
 refine⟨⟨by simp [World.setCell],⟨by simp [World.setCell],by simp [World.setCell]⟩,by simp [World.setCell],?_,fun k hk hb=>?_⟩,?_⟩
 ·simp [World.setCell]
 ·simp only [World.setCell]
  rw [Array.getElem?_modify,if_neg (fun e=>hb e.symm)]
 ·simp only [World.setCell]
  rw [Array.getElem?_modify,if_pos rfl,h]
  rfl
theorem zCW (L:Lays.n240 P ρ) (X:Builder.X72 P ρ) {b:Nat} {p v:Value} {w:World} (hbk:w.heap[b]?=some (.cells #[p,v] (ρ.t 72) (0,0))) (hp:p=.pointer none∨p=.pointer (some ⟨b,0,none⟩)) :
  Calls P (ρ.f 240) #[.pointer (some ⟨b,0,none⟩)] w fun e w'=>e=.returned (.tuple #[])∧w'.heap[b]?=some (.cells #[.pointer (some ⟨b,0,none⟩),v] (ρ.t 72) (0,0))∧Mod (· = b) w w':=by
 have c0:w.cell? ⟨b,0,none⟩=some p:=by rw [Lib.cell_of_heap hbk]; rfl
 rcases hp with rfl | rfl
 ·refine(Any.Builder_copyCheck_fresh L X b w c0 (by simp [World.shape?,hbk]) (Lib.frozen_of_heap hbk 0)).mono ?_
  rintro e w' ⟨rfl,rfl⟩
  obtain⟨h1,h2⟩:=zBZ (o:=0) (v:=.pointer (some ⟨b,0,none⟩)) hbk
  exact⟨rfl,h2,h1⟩
 ·refine(Any.Builder_copyCheck_used L X b w c0).mono ?_
  rintro e w' ⟨rfl,rfl⟩
  exact⟨rfl,hbk,Mod.rfl⟩
theorem zCb {ops:Array Oper} {rest:List Oper} {o:Oper} {a:Act} {Q:Exit→Act→World→Prop} (hgd:o.guard=none) (sl x:Operand) (t u e:TypeId)
  (ho:o.op=.call { callee:=.builtin .append,args:=#[sl,x],argTypes:=#[t,u] }) (ht:P.underlying t=some (.slice e)) (hu:P.underlying u=some .string) (hi:(P.info? e).map (fun i=>(i.size,i.bytes,i.zero))=some (1,1,some (.int .u8 0)))
  {ad:Option Addr} {cap:Nat} {l:List UInt8} {s:ByteArray} {w:World} {B:Nat→Prop} (hs:a.eval sl=.slice ad l.length cap) (hx:a.eval x=.string s) (hR:(Row ad 1 cap e zB2 l).A B w) (hb:l.length+s.size≤140737488355328)
  (h:∀ a' cap' w' B',Mod B w w'→Own B B' w w'→(Row a' 1 cap' e zB2 (l++s.data.toList)).A B' w'→((∀ x,ad=some x→x.off=0)→∀ x,a' = some x→x.off=0)→wpList P ops Q rest (a.put o.dst (.slice a' (l.length+s.size) cap')) w') :
  wpList P ops Q (o :: rest) a w:=by
 refine wpList_plain hgd fun K hK=>?_
 obtain⟨a',cap',w',B',hr,h2,h3,h4,h5⟩:=zCm (P:=P) (ty:=o.type) ht hu hi hR hb
 unfold Oper.wp execOp
 simp only [ho,resolve,invoke,builtin,Sem.run_bind,Sem.run_pure,Result.andThen_ok,List.map_toArray,List.map_cons,List.map_nil,hs,hx,hr]
 exact hK _ _ (h a' cap' w' B' h2 h3 h4 h5)
set_option maxHeartbeats 2000000 in
set_option maxRecDepth 100000 in
theorem zCg (L:Lays.n166 P ρ) (X:Builder.Extra P ρ) {b:Nat} {l:List UInt8} (s:ByteArray) {w:World} {B:Nat→Prop} (hBl:∀ k,B k→k < w.heap.size) (hA:(Bld b (ρ.t 72) (ρ.t 5) l).A B w) (hlen:l.length+s.size≤140737488355328) :
  Calls P (ρ.f 166) #[.pointer (some ⟨b,0,none⟩),.string s] w (zho (fun _:Unit=>.tuple #[.int .i64 s.size,.nilIface]) (fun _=>Bld b (ρ.t 72) (ρ.t 5) (l++s.data.toList)) (fun _=>True) B w):=by
 obtain⟨p,v,a,c,B1,hbk,hp,rfl,hR,hnb,hBk,hoff⟩:=hA
 have hinf:(P.info? (ρ.t 5)).map (fun i=>(i.size,i.bytes,i.zero))=some (1,1,some (.int .u8 0)):=by
  have:=X.infoByte
  cases hi:P.info? (ρ.t 5) with
  | none=>rw [hi] at this; cases this
  | some i=>
   rw [hi] at this
   simp only [Option.map_some,Option.some.injEq,Prod.mk.injEq] at this ⊢
   exact⟨this.2.1,this.2.2,this.1⟩
 have hlt:b < w.heap.size:=hBl b ((hBk b).2 (.inl rfl))
 have mixed:=L.mixed
 have t72:=L.t72; have a72:=L.a72; have z72:=L.z72; have v72:=L.v72; have u72:=run_underlying L.t72
 have t70:=L.t70; have a70:=L.a70; have z70:=L.z70; have v70:=L.v70; have u70:=run_underlying L.t70
 have t37:=L.t37; have a37:=L.a37; have z37:=L.z37; have v37:=L.v37; have u37:=run_underlying L.t37
 have t3:=L.t3; have a3:=L.a3; have z3:=L.z3; have v3:=L.v3; have u3:=run_underlying L.t3
 have t9:=L.t9; have a9:=L.a9; have z9:=L.z9; have v9:=L.v9; have u9:=run_underlying L.t9
 have t4:=L.t4; have a4:=L.a4; have z4:=L.z4; have v4:=L.v4; have u4:=run_underlying L.t4
 have t164:=L.t164; have a164:=L.a164; have z164:=L.z164; have v164:=L.v164; have u164:=run_underlying L.t164
 have t5:=X.t5; have a5:=X.a5; have z5:=X.z5; have v5:=X.v5; have u5:=run_underlying X.t5
 have e240:∀ args w,(callFunc (ρ.f 240) args).run P w=.ok (.enter (ρ.f 240) args) w:=enters_of L.f240 (by kernel_rfl) rfl
 go_enter L.f166,Body.n166_ntmps ρ
 go_wp2_with (go_at_fn (ρ.f 240); refine(zCW { L with } X.toX72 hbk hp).mono ?_)
 rintro e w1 ⟨rfl,hbk1,hm1⟩
 have hR1:(Row a 1 c (ρ.t 5) zB2 l).A B1 w1:=(Row a 1 c (ρ.t 5) zB2 l).loc B1 w w1 (fun k hk=>hm1.same k (hBl k ((hBk k).2 (.inr hk))) (fun e=>hnb (e ▸ hk))) hR
 have c0:w1.cell? ⟨b,0,none⟩=some (.pointer (some ⟨b,0,none⟩)):=by rw [Lib.cell_of_heap hbk1]; rfl
 have c1:w1.cell? ⟨b,1,none⟩=some (.slice a l.length c):=by rw [Lib.cell_of_heap hbk1]; rfl
 go_wp2_with (at_builtin; refine zCb rfl _ _ (ρ.t 37) (ρ.t 9) (ρ.t 5) rfl L.t37 L.t9 hinf (s:=s) rfl rfl hR1 hlen ?_)
 intro a' c' w2 B2 hm2 ho2 hR2 hoff2
 have hlt1:b < w1.heap.size:=Nat.lt_of_lt_of_le hlt hm1.size
 have hb2:w2.heap[b]?=some (.cells #[.pointer (some ⟨b,0,none⟩),.slice a l.length c] (ρ.t 72) (0,0)):=by
  rw [hm2.same b hlt1 hnb]; exact hbk1
 have d0:w2.cell? ⟨b,0,none⟩=some (.pointer (some ⟨b,0,none⟩)):=by rw [Lib.cell_of_heap hb2]; rfl
 have d1:w2.cell? ⟨b,1,none⟩=some (.slice a l.length c):=by rw [Lib.cell_of_heap hb2]; rfl
 have f1:w2.frozen? ⟨b,1,none⟩=false:=Lib.frozen_of_heap hb2 1
 go_wp2
 go_ret2
 obtain⟨hm3,hb3⟩:=zBZ (o:=1) (v:=.slice a' (l.length+s.size) c') hb2
 have hnb2:¬ B2 b:=fun h=>by
  rcases ho2 b h with h | h
  ·exact hnb h
  ·omega
 refine⟨(),fun k=>k=b∨B2 k,rfl,trivial,?_,?_,?_⟩
 ·refine⟨hm3.os.trans (hm2.os.trans hm1.os),(hm1.tape.trans hm2.tape).trans hm3.tape,hm3.output.trans (hm2.output.trans hm1.output),Nat.le_trans hm1.size (Nat.le_trans hm2.size hm3.size),fun k hk hb=>?_⟩
  have hkb:k≠b:=fun e=>hb ((hBk k).2 (.inl e))
  have hk1:¬ B1 k:=fun h=>hb ((hBk k).2 (.inr h))
  rw [hm3.same k (Nat.lt_of_lt_of_le hk (Nat.le_trans hm1.size hm2.size)) hkb,hm2.same k (Nat.lt_of_lt_of_le hk hm1.size) hk1,hm1.same k hk hkb]
 ·rintro k (rfl | hk)
  ·exact .inl ((hBk _).2 (.inl rfl))
  ·rcases ho2 k hk with h | h
   ·exact .inl ((hBk k).2 (.inr h))
   ·refine .inr ⟨Nat.le_trans hm1.size h.1,Nat.lt_of_lt_of_le h.2 hm3.size⟩
 ·have hl2:(l++s.data.toList).length=l.length+s.size:=by rw [List.length_append,Array.length_toList]; rfl
  refine⟨_,_,a',c',B2,hb3,.inr rfl,by rw [hl2],?_,hnb2,fun _=>Iff.rfl,hoff2 hoff⟩
  refine(Row a' 1 c' (ρ.t 5) zB2 _).loc B2 w2 _ (fun k hk=>hm3.same k ?_ (fun e=>hnb2 (e ▸ hk))) hR2
  rcases ho2 k hk with h | h
  ·exact Nat.lt_of_lt_of_le (hBl k ((hBk k).2 (.inr h))) (Nat.le_trans hm1.size hm2.size)
  ·exact h.2
theorem zDb {w:World} {g n:Nat}:Mod (· = g) w (w.drew.freeze ⟨g,0,none⟩ n):=by
 have hw:w.drew.freeze ⟨g,0,none⟩ n={ w.drew with heap:=(w.drew.freeze ⟨g,0,none⟩ n).heap }:=by
  unfold World.freeze
  split <;> rfl
 rw [hw]
 refine⟨rfl,⟨rfl,Nat.le_succ _⟩,rfl,?_,fun k hk hb=>?_⟩
 ·show w.heap.size≤(w.drew.freeze ⟨g,0,none⟩ n).heap.size
  unfold World.freeze
  split <;> simp
 ·show(w.drew.freeze ⟨g,0,none⟩ n).heap[k]?=_
  unfold World.freeze
  split
  ·rfl
  ·refine Array.getElem?_modify.trans ?_
   rw [if_neg (fun e=>hb e.symm)]; rfl
set_option maxHeartbeats 2000000 in
set_option maxRecDepth 100000 in
theorem zB9 (L:Lays.n169 P ρ) (X:Builder.Extra P ρ) {b:Nat} {l:List UInt8} {w:World} {B:Nat→Prop} (_:∀ k,B k→k < w.heap.size) (hA:(Bld b (ρ.t 72) (ρ.t 5) l).A B w) (h0:l≠[]) (h63:l.length≤9223372036854775807) :
  Calls P (ρ.f 169) #[.pointer (some ⟨b,0,none⟩)] w (zho (fun _:Unit=>.string ⟨l.toArray⟩) (fun _=>Emp) (fun _=>True) B w):=by
 obtain⟨p,v,a,c,B1,hbk,hp,rfl,hR,hnb,hBk,hoff⟩:=hA
 have hl0:l.length≠0:=by simpa using h0
 have hcap:=Row.bounds hR
 rcases hR with ⟨_,_,hl⟩ | ⟨g,off,cs,ha,hB,hg,h1,h2,h3⟩
 ·exact absurd hl h0
 obtain rfl:off=0:=hoff _ ha
 subst ha
 rw [Nat.zero_add,Nat.mul_one] at h2
 rw [List.drop_zero,Nat.mul_one] at h3
 have c1:w.drew.cell? ⟨b,1,none⟩=some (.slice (some ⟨g,0,none⟩) l.length c):=by
  have:w.drew.heap[b]?=some (.cells #[p,.slice (some ⟨g,0,none⟩) l.length c] (ρ.t 72) (0,0)):=hbk
  rw [Lib.cell_of_heap this]; rfl
 have hSD:(Builtin.unsafeSliceData_ #[(ρ.t 37)] (ρ.t 127) #[.slice (some ⟨g,0,none⟩) l.length c]).run P w.drew=.ok (.pointer (some ⟨g,0,none⟩)) w.drew:=
  Lib.run_unsafeSliceData_row _ _ _ _ _ _ (by omega)
 have hUS:(Builtin.unsafeString_ #[(ρ.t 127),(ρ.t 3)] (ρ.t 9) #[.pointer (some ⟨g,0,none⟩),.int .i64 l.length]).run P w.drew=.ok (.string ⟨l.toArray⟩) (w.drew.freeze ⟨g,0,none⟩ l.length):=by
  refine Lib.run_unsafeString_row w.drew (ρ.t 127) (ρ.t 3) (ρ.t 9) (ρ.t 5) L.t127 X.cellsByte g cs.length (by have hg':w.drew.heap[g]?=some (.cells cs.toArray (ρ.t 5) (0,0)):=hg; simp [World.shape?,hg']) l h0 (by omega) h63 ?_
  intro j x hx
  have hjl:j < l.length:=(List.getElem?_eq_some_iff.1 hx).1
  have h4:cs[j]?=some (.int .u8 x.toNat):=by
   have h5:=congrArg (fun z:List Value=>z[j]?) h3
   simp only [List.getElem?_take,if_pos hjl] at h5
   rw [h5]
   have:=zeG zCA l j x hx
   have h6:=congrArg (fun z:List Value=>z[0]?) this
   simpa using h6
  rw [zb2,Nat.zero_add,Lib.cell_of_heap (show w.drew.heap[g]?=some (.cells cs.toArray (ρ.t 5) (0,0)) from hg)]
  simpa using h4
 have mixed:=L.mixed
 have t72:=L.t72; have a72:=L.a72; have z72:=L.z72; have v72:=L.v72; have u72:=run_underlying L.t72
 have t70:=L.t70; have a70:=L.a70; have z70:=L.z70; have v70:=L.v70; have u70:=run_underlying L.t70
 have t37:=L.t37; have a37:=L.a37; have z37:=L.z37; have v37:=L.v37; have u37:=run_underlying L.t37
 have t127:=L.t127; have a127:=L.a127; have z127:=L.z127; have v127:=L.v127; have u127:=run_underlying L.t127
 have t3:=L.t3; have a3:=L.a3; have z3:=L.z3; have v3:=L.v3; have u3:=run_underlying L.t3
 have t9:=L.t9; have a9:=L.a9; have z9:=L.z9; have v9:=L.v9; have u9:=run_underlying L.t9
 have t5:=X.t5; have a5:=X.a5; have z5:=X.z5; have v5:=X.v5; have u5:=run_underlying X.t5
 have hmod:Mod B w (w.drew.freeze ⟨g,0,none⟩ l.length):=by
  have:=zDb (w:=w) (g:=g) (n:=l.length)
  exact⟨this.os,this.tape,this.output,this.size,fun k hk hb=>this.same k hk (fun e=>hb ((hBk k).2 (.inr ((hB k).2 e))))⟩
 go_enter L.f169,Body.n169_ntmps ρ
 go_wp2
 go_region_o
 all_goals (go_wp2; go_ret; exact⟨(),B,rfl,trivial,hmod,fun _ hk=>.inl hk,trivial⟩)
theorem zC7 (w:World) (o:Obj):Ext w (w.alloc o).drew:=⟨rfl,⟨rfl,Nat.le_succ _⟩,rfl,by simp,fun j hj=>heap_alloc_old w _ hj⟩
set_option maxHeartbeats 4000000 in
set_option maxRecDepth 100000 in
theorem zB8 (L:Lays.n169 P ρ) (X:Builder.Extra P ρ) {b:Nat} {w:World} {B:Nat→Prop} (hBl:∀ k,B k→k < w.heap.size) (hA:(Bld b (ρ.t 72) (ρ.t 5) []).A B w) :
  Calls P (ρ.f 169) #[.pointer (some ⟨b,0,none⟩)] w (zho (fun _:Unit=>.string ⟨#[]⟩) (fun _=>Emp) (fun _=>True) B w):=by
 obtain⟨p,v,a,c,B1,hbk,hp,rfl,hR,hnb,hBk,hoff⟩:=hA
 have hUS:=Any.unsafeString_none L X
 have hlt:b < w.heap.size:=hBl b ((hBk b).2 (.inl rfl))
 have fin:∀ w',Ext w w'→zho (fun _:Unit=>Value.string ⟨#[]⟩) (fun _=>Emp) (fun _=>True) B w (.returned (.string ⟨#[]⟩)) w':=fun w' hx=>⟨(),B,rfl,trivial,hx.mod B,fun _ hk=>.inl hk,trivial⟩
 have fin1:=fin w.drew ⟨rfl,⟨rfl,Nat.le_succ _⟩,rfl,Nat.le_refl _,fun _ _=>rfl⟩
 rcases hR with ⟨rfl,rfl,_⟩ | ⟨g,off,cs,ha,hB,hg,h1,h2,h3⟩
 ·have c1:w.drew.cell? ⟨b,1,none⟩=some (.slice none 0 0):=by
   have:w.drew.heap[b]?=some (.cells #[p,.slice none 0 0] (ρ.t 72) (0,0)):=hbk
   rw [Lib.cell_of_heap this]; rfl
  have hSD:(Builtin.unsafeSliceData_ #[(ρ.t 37)] (ρ.t 127) #[.slice none 0 0]).run P w.drew=.ok (.pointer none) w.drew:=rfl
  have mixed:=L.mixed
  have t72:=L.t72; have a72:=L.a72; have z72:=L.z72; have v72:=L.v72; have u72:=run_underlying L.t72
  have t70:=L.t70; have a70:=L.a70; have z70:=L.z70; have v70:=L.v70; have u70:=run_underlying L.t70
  have t37:=L.t37; have a37:=L.a37; have z37:=L.z37; have v37:=L.v37; have u37:=run_underlying L.t37
  have t127:=L.t127; have a127:=L.a127; have z127:=L.z127; have v127:=L.v127; have u127:=run_underlying L.t127
  have t3:=L.t3; have a3:=L.a3; have z3:=L.z3; have v3:=L.v3; have u3:=run_underlying L.t3
  have t9:=L.t9; have a9:=L.a9; have z9:=L.z9; have v9:=L.v9; have u9:=run_underlying L.t9
  have t5:=X.t5; have a5:=X.a5; have z5:=X.z5; have v5:=X.v5; have u5:=run_underlying X.t5
  go_enter L.f169,Body.n169_ntmps ρ
  go_wp2
  go_region_o
  all_goals (go_wp2; go_ret; exact fin1)
 ·obtain rfl:off=0:=hoff _ ha
  subst ha
  by_cases hc0:c=0
  ·subst hc0
   have c1:w.drew.cell? ⟨b,1,none⟩=some (.slice (some ⟨g,0,none⟩) 0 0):=by
    have:w.drew.heap[b]?=some (.cells #[p,.slice (some ⟨g,0,none⟩) 0 0] (ρ.t 72) (0,0)):=hbk
    rw [Lib.cell_of_heap this]; rfl
   have hSD:(Builtin.unsafeSliceData_ #[(ρ.t 37)] (ρ.t 127) #[.slice (some ⟨g,0,none⟩) 0 0]).run P w.drew=.ok (.pointer (some ⟨w.drew.heap.size,0,none⟩)) (w.drew.alloc (.view ⟨g,0,none⟩ (ρ.t 5))):=
    Lib.run_unsafeSliceData_zero w.drew _ _ (ρ.t 5) L.t127 ⟨g,0,none⟩ 0 ((ρ.t 5),cs.length) (by have hg':w.drew.heap[g]?=some (.cells cs.toArray (ρ.t 5) (0,0)):=hg; simp [World.shape?,hg'])
   have c2:(w.drew.alloc (.view ⟨g,0,none⟩ (ρ.t 5))).cell? ⟨b,1,none⟩=some (.slice (some ⟨g,0,none⟩) 0 0):=by
    have:(w.drew.alloc (.view ⟨g,0,none⟩ (ρ.t 5))).heap[b]?=_:=(Lib.alloc_old w.drew _ b hlt).trans hbk
    rw [Lib.cell_of_heap this]; rfl
   have c3:(w.alloc (.view ⟨g,0,none⟩ (ρ.t 5))).drew.cell? ⟨b,1,none⟩=some (.slice (some ⟨g,0,none⟩) 0 0):=c2
   have c0:w.cell? ⟨b,1,none⟩=some (.slice (some ⟨g,0,none⟩) 0 0):=c1
   have fin2:=fin (w.alloc (.view ⟨g,0,none⟩ (ρ.t 5))).drew (zC7 w _)
   have mixed:=L.mixed
   have t72:=L.t72; have a72:=L.a72; have z72:=L.z72; have v72:=L.v72; have u72:=run_underlying L.t72
   have t70:=L.t70; have a70:=L.a70; have z70:=L.z70; have v70:=L.v70; have u70:=run_underlying L.t70
   have t37:=L.t37; have a37:=L.a37; have z37:=L.z37; have v37:=L.v37; have u37:=run_underlying L.t37
   have t127:=L.t127; have a127:=L.a127; have z127:=L.z127; have v127:=L.v127; have u127:=run_underlying L.t127
   have t3:=L.t3; have a3:=L.a3; have z3:=L.z3; have v3:=L.v3; have u3:=run_underlying L.t3
   have t9:=L.t9; have a9:=L.a9; have z9:=L.z9; have v9:=L.v9; have u9:=run_underlying L.t9
   have t5:=X.t5; have a5:=X.a5; have z5:=X.z5; have v5:=X.v5; have u5:=run_underlying X.t5
   go_enter L.f169,Body.n169_ntmps ρ
   go_wp2
   go_region_o
   all_goals (go_wp2; go_ret; exact fin2)
  ·have c1:w.drew.cell? ⟨b,1,none⟩=some (.slice (some ⟨g,0,none⟩) 0 c):=by
    have:w.drew.heap[b]?=some (.cells #[p,.slice (some ⟨g,0,none⟩) 0 c] (ρ.t 72) (0,0)):=hbk
    rw [Lib.cell_of_heap this]; rfl
   have hSD:(Builtin.unsafeSliceData_ #[(ρ.t 37)] (ρ.t 127) #[.slice (some ⟨g,0,none⟩) 0 c]).run P w.drew=.ok (.pointer (some ⟨g,0,none⟩)) w.drew:=
    Lib.run_unsafeSliceData_row _ _ _ _ _ _ hc0
   clear hc0
   have mixed:=L.mixed
   have t72:=L.t72; have a72:=L.a72; have z72:=L.z72; have v72:=L.v72; have u72:=run_underlying L.t72
   have t70:=L.t70; have a70:=L.a70; have z70:=L.z70; have v70:=L.v70; have u70:=run_underlying L.t70
   have t37:=L.t37; have a37:=L.a37; have z37:=L.z37; have v37:=L.v37; have u37:=run_underlying L.t37
   have t127:=L.t127; have a127:=L.a127; have z127:=L.z127; have v127:=L.v127; have u127:=run_underlying L.t127
   have t3:=L.t3; have a3:=L.a3; have z3:=L.z3; have v3:=L.v3; have u3:=run_underlying L.t3
   have t9:=L.t9; have a9:=L.a9; have z9:=L.z9; have v9:=L.v9; have u9:=run_underlying L.t9
   have t5:=X.t5; have a5:=X.a5; have z5:=X.z5; have v5:=X.v5; have u5:=run_underlying X.t5
   go_enter L.f169,Body.n169_ntmps ρ
   go_wp2
   go_region_o
   all_goals (go_wp2; go_ret; exact fin1)
end
end Go.K
namespace Go.K
open Go Go.RowKit
def thrC (v:Value):List PanicEntry:=[{ v:=v,recovered:=false }]
def errT (te:TypeId) (k:Int):Value:=.iface te (.int .i64 k)
def YldT (P:Program) (o:Oper) (a:Act) (w:World) (R:Value→World→Prop) (Q:List PanicEntry→World→Prop):Prop:=
 match (execOp a.eval o).run P w with
 | .ok (.value v) w'=>R v w'
 | .ok .skip w'=>R undef w'
 | .ok (.enter f args) w'=>Calls P f args w' (fun e w''=>(∃ v,e=.returned v∧R v w'')∨(∃ ch,e=.panicked ch∧Q ch w''))
 | .halt (.panic v) w'=>Q (thrC v) w'
 | _=>False
theorem zhn {r:Option Nat} {P:Program} {o:Oper} {a:Act} {w:World} {R:Value→World→Prop} {Qp:List PanicEntry→World→Prop} {next:Act→World→Prop} {Q:Exit→Act→World→Prop}
  (hd:zfO o=false) (h:YldT P o a w R Qp) (hn:∀ v w',R v w'→next (a.put o.dst v) w') (hq:∀ ch w',Qp ch w'→Q (.panic ch) a w'):o.wpIn (FW r) 0 P a w next Q:=by
 refine⟨fun _ _=>trivial,?_⟩
 rw [Oper.semAt_eq _ _ _ (fun c hc=>by simp [zfO,hc] at hd)]
 unfold YldT at h
 generalize (execOp a.eval o).run P w=x at *
 cases x with
 | halt x w'=>
  cases x <;> first | exact hq _ _ h | exact h.elim
 | ok n w'=>
  cases n with
  | value v=>exact hn _ _ h
  | skip=>exact hn _ _ h
  | enter f args=>
   refine⟨fun hx=>by simp [FW] at hx,zfz.2 (Calls.mono h ?_)⟩
   rintro e w'' (⟨v,rfl,hv⟩ | ⟨ch,rfl,hv⟩)
   ·exact hn _ _ hv
   ·exact hq _ _ hv
  | _=>exact h.elim
theorem zp9 {w w':World} {B:Nat→Prop} {H:List Res} (h:Hp (fun k=>k < w.heap.size∧¬ B k) w H w'):Mod B w w':=
 ⟨h.base.os,h.base.tape,h.base.output,h.base.size,fun k hk hb=>h.base.same k ⟨hk,hb⟩⟩
def zej {X M:Type} (te:TypeId) (res:Except Int X) (V:X→M→Value) (J:X→M→Res) (B:Nat→Prop) (w:World):Ending→World→Prop:=fun e w'=>
 match res with
 | .ok x=>∃ m B',e=.returned (V x m)∧Mod B w w'∧Own B B' w w'∧(J x m).A B' w'
 | .error k=>e=.panicked (thrC (errT te k))∧Mod B w w'
section
variable {c:Cx} {ds:List Deferred} {p:Post} {T:List (Nat×Value)} {H:List Res} {ops:Array Oper} {rest:List Oper} {d:Option Nat} {ty:TypeId} {ps:String} {af:Array Edge}
theorem zk0 {o:Oper} (hg:o.guard=none) (hd:zfO o=false)
  (h:∀ a w,Sat c.n T ds a→Hp c.U c.w0 H w→YldT c.P o a w (fun v w'=>KL c ops p rest (a.put o.dst v) w') (fun ch w'=>p.pn a ch w')):GK c ds (KL c ops p (o :: rest)) T H:=by
 intro a w ha hw
 show wpListIn (FW c.r) 0 c.P ops p.Q (o :: rest) a w
 unfold wpListIn
 rw [if_pos (by simp [Region.wanted,hg])]
 exact zhn hd (h a w ha hw) (fun v w' h=>h) (fun ch w' h=>h)
theorem zcg {f:FuncId} {ch:List PanicEntry} (he:En c.P f) {«as»:List Operand} {tys:Array TypeId} {vs:List Value} (ha:evs T «as» = some vs)
  (hc:∀ w,Hp c.U c.w0 H w→Calls c.P f vs.toArray w (fun e w'=>e=.panicked ch∧Ext w w')) (kt:GK c ds (fun a w=>p.pn a ch w) T H) :
  GK c ds (KL c ops p (⟨d,.call ⟨.value (.func f),«as».toArray,tys⟩,ty,ps,af,none⟩ :: rest)) T H:=by
 refine zk0 rfl rfl fun a w hs hw=>?_
 unfold YldT
 rw [zfJ he ha hs w]
 refine(hc w hw).mono ?_
 rintro e w' ⟨rfl,hx⟩
 exact .inr ⟨ch,rfl,kt a w' hs (hw.ext hx)⟩
theorem zbZ {X M:Type} {te:TypeId} {res:Except Int X} {V:X→M→Value} {J:X→M→Res} {R:Res} {f:FuncId} (i:Nat) (he:En c.P f) {«as»:List Operand} {tys:Array TypeId} {vs:List Value} (hn:zhp d c.n=true) (ha:evs T «as» = some vs) (hi:H[i]?=some R)
  (hc:∀ w B,Foc c H i R B w→Calls c.P f vs.toArray w (zej te res V J B w))
  (kt:∀ k,res=.error k→GK c ds (fun a w=>p.pn a (thrC (errT te k)) w) T (H.set i Emp))
  (k:∀ x m,res=.ok x→GK c ds (KL c ops p rest) (putT d (V x m) T) (H.set i (J x m))) :
  GK c ds (KL c ops p (⟨d,.call ⟨.value (.func f),«as».toArray,tys⟩,ty,ps,af,none⟩ :: rest)) T H:=by
 refine zk0 rfl rfl fun a w hs hw=>?_
 obtain⟨B,hF⟩:=hw.foc hi
 unfold YldT
 rw [zfJ he ha hs w]
 refine(hc w B hF).mono ?_
 intro e w' he'
 cases hres:res with
 | ok x=>
  rw [hres] at he'
  obtain⟨m,B',rfl,hm,ho,hA⟩:=he'
  exact .inl ⟨V x m,rfl,k x m hres _ _ (hs.putT hn _) (hF.upd hi hm ho hA)⟩
 | error q=>
  rw [hres] at he'
  obtain⟨rfl,hm⟩:=he'
  refine .inr ⟨_,rfl,kt q hres a w' hs ?_⟩
  exact hF.upd hi hm (B':=fun _=>False) (fun _ hk=>hk.elim) trivial
theorem zcB {X M:Type} {te:TypeId} {res:Except Int X} {V:X→M→Value} {J:X→M→Res} {R:Res} {t:Nat} {f:FuncId} (i:Nat) (he:En c.P f) {fs cap:List Value} (hf:evo T (.tmp t)=some (.func (.func f) fs.toArray cap.toArray)) {«as»:List Operand} {tys:Array TypeId} {vs:List Value} (hn:zhp d c.n=true) (ha:evs T «as» = some vs) (hi:H[i]?=some R)
  (hc:∀ w B,Foc c H i R B w→Calls c.P f (fs++vs++cap).toArray w (zej te res V J B w))
  (kt:∀ k,res=.error k→GK c ds (fun a w=>p.pn a (thrC (errT te k)) w) T (H.set i Emp))
  (k:∀ x m,res=.ok x→GK c ds (KL c ops p rest) (putT d (V x m) T) (H.set i (J x m))) :
  GK c ds (KL c ops p (⟨d,.call ⟨.value (.tmp t),«as».toArray,tys⟩,ty,ps,af,none⟩ :: rest)) T H:=by
 refine zk0 rfl rfl fun a w hs hw=>?_
 obtain⟨B,hF⟩:=hw.foc hi
 unfold YldT
 rw [zgE he hf ha hs w]
 have:=hc w B hF
 rw [show(fs++vs++cap).toArray=fs.toArray++vs.toArray++cap.toArray from by simp] at this
 refine this.mono ?_
 intro e w' he'
 cases hres:res with
 | ok x=>
  rw [hres] at he'
  obtain⟨m,B',rfl,hm,ho,hA⟩:=he'
  exact .inl ⟨V x m,rfl,k x m hres _ _ (hs.putT hn _) (hF.upd hi hm ho hA)⟩
 | error q=>
  rw [hres] at he'
  obtain⟨rfl,hm⟩:=he'
  refine .inr ⟨_,rfl,kt q hres a w' hs ?_⟩
  exact hF.upd hi hm (B':=fun _=>False) (fun _ hk=>hk.elim) trivial
end
section
variable {P:Program} {n:Nat} {w0:World} {B:Nat→Prop} {T:List (Nat×Value)} {H:List Res} {fn:Func} {X M:Type} {te:TypeId} {res:Except Int X} {V:X→M→Value} {J:X→M→Res}
theorem zdm {v:Value} (x:X) (m:M) (i:Nat) (hv:RV (cxB P n w0 B) [] T H fn v) (hu:v=V x m) (hi:H[i]?=some (J x m)) (hq:res=.ok x) :
  GK (cxB P n w0 B) [] (RetP P fn (zej te res V J B w0)) T H:=zfh hv fun w hw=>by
 obtain⟨B',h1,h2,_,h3⟩:=zet hw hi
 subst hq
 exact⟨m,B',by rw [hu],h1,h2,h3⟩
theorem zij {c:Cx} {R:Ending→World→Prop} {ch:List PanicEntry} (h:∀ w,Hp c.U c.w0 H w→R (.panicked ch) w):GK c [] (fun a w=>(poOf c.P fn R).pn a ch w) T H:=by
 intro a w ha hw
 show LeavesInM Fence.wide 0 c.P fn a.tmps R a.defers (.panicking ch) w
 rw [ha.defers]
 exact h w hw
theorem za6 {k:Int} (hq:res=.error k):GK (cxB P n w0 B) [] (fun a w=>(poOf P fn (zej te res V J B w0)).pn a (thrC (errT te k)) w) T H:=
 zij (c:=cxB P n w0 B) fun w hw=>by
  subst hq
  exact⟨rfl,zp9 hw⟩
end
section
variable {c:Cx} {ds:List Deferred} {p:Post} {T:List (Nat×Value)} {H H':List Res} {ops:Array Oper} {rest:List Oper} {dst:Option Nat} {ty:TypeId} {ps:String} {af:Array Edge} {R:Ending→World→Prop} {fn:Func}
theorem zru (hr:c.r=none) {t:Nat} {g:FuncId} {cap:List Value} (hf:evo T (.tmp t)=some (.func (.func g) #[] cap.toArray)) {tys:Array TypeId} (hn:zhp dst c.n=true)
  (k:GK c ({ target:=.fn (.func g) cap.toArray,args:=#[] } :: ds) (KL c ops p rest) (putT dst undef T) H) :
  GK c ds (KL c ops p (⟨dst,.defer ⟨.value (.tmp t),#[],tys⟩,ty,ps,af,none⟩ :: rest)) T H:=by
 intro a w ha hw
 show wpListIn (FW c.r) 0 c.P ops p.Q (_ :: rest) a w
 unfold wpListIn
 rw [if_pos (by simp [Region.wanted])]
 refine⟨fun _ _=>trivial,?_⟩
 rw [hr]
 show Oper.uponIn _ _ _ _ _ _ _ ((Oper.semAt none a.eval _).run c.P w)
 rw [Oper.semAt_none]
 have:(execOp a.eval ⟨dst,.defer ⟨.value (.tmp t),#[],tys⟩,ty,ps,af,none⟩).run c.P w=.ok (.defer { target:=.fn (.func g) cap.toArray,args:=#[] }) w:=by
  simp only [execOp]
  rw [zal (v:=({ target:=.fn (.func g) cap.toArray,args:=#[] }:Deferred)) (w':=w) (by
   simp only [resolve,ha.eval hf]
   simp [Deferred.ofValue,pure])]
  rfl
 rw [this]
 have ha':Sat c.n T ({ target:=.fn (.func g) cap.toArray,args:=#[] } :: ds) { a with defers:={ target:=.fn (.func g) cap.toArray,args:=#[] } :: a.defers }:=⟨ha.size,ha.val,by simp [ha.defers]⟩
 have h2:=k _ w (ha'.putT hn undef) hw
 unfold KL at h2
 rw [hr] at h2
 exact h2
theorem zjn {P:Program} {tm:Array Value} {g:FuncId} {cap:List Value} {u:FrameMode} {w:World} (he:En P g) (hu:u≠.run)
  (hc:CallsDIn Fence.wide 0 P g cap.toArray u w (fun e u' w'=>(∃ v,e=.returned v)∧settle u' = .returning∧∃ v,(results fn tm).run P w' = .ok v w'∧R (.returned v) w')) :
  LeavesInM Fence.wide 0 P fn tm R [{ target:=.fn (.func g) cap.toArray,args:=#[] }] u w:=by
 refine⟨hu,.inr ⟨fun h=>by simp [Fence.wide] at h,.func g,cap.toArray,g,cap.toArray,rfl,?_,fun _ _=>trivial,?_⟩⟩
 ·have:=he cap.toArray w
  simp only [invoke,Array.empty_append]
  exact this
 ·refine CallsDIn.mono hc ?_
  rintro e u' w' ⟨⟨v,rfl⟩,hs,v',hv,hR⟩
  show LeavesInM Fence.wide 0 P fn tm R [] (settle u') w'
  rw [hs]
  exact⟨v',hv,hR⟩
theorem zfg {g:FuncId} {cap:List Value} {v:Value} {ch:List PanicEntry} (he:En c.P g)
  (hc:∀ w,Hp c.U c.w0 H w→CallsDIn Fence.wide 0 c.P g cap.toArray (.panicking ch) w (fun e u' w'=>(∃ v,e=.returned v)∧settle u' = .returning∧Hp c.U c.w0 H' w'))
  (hv:RV c [] T H' fn v) (h:∀ w,Hp c.U c.w0 H' w→R (.returned v) w):GK c [{ target:=.fn (.func g) cap.toArray,args:=#[] }] (fun a w=>(poOf c.P fn R).pn a ch w) T H:=by
 intro a w ha hw
 show LeavesInM Fence.wide 0 c.P fn a.tmps R a.defers (.panicking ch) w
 rw [ha.defers]
 refine zjn he (by simp) (CallsDIn.mono (hc w hw) ?_)
 rintro e u' w' ⟨hr,hs,hx⟩
 exact⟨hr,hs,v,hv { a with defers:=[] } w' ⟨ha.size,ha.val,rfl⟩ hx,h w' hx⟩
end
end Go.K
namespace Go.K
open Go Go.RowKit
structure zmO (c:Cx) (ds:List Deferred) (T:List (Nat×Value)) (H:List Res) (st:Oper) (R:Res) {Z:Type} (V:Z→Value) (R':Z→Res) (Bad:List PanicEntry→Prop):Prop where
 run:∀ a w B,Sat c.n T ds a→Hp c.U c.w0 H w→(∀ k,B k→k < w.heap.size)→R.A B w→YldT c.P st a w (fun v w'=>∃ z,v=V z∧Mod B w w'∧∃ B',Own B B' w w'∧(R' z).A B' w') (fun ch w'=>Bad ch∧Mod B w w')
def zjN (n:Nat) (pre:List Oper) (st:Oper) (suf:List Oper) (late:List Nat) (dd:Nat):Bool:=
 zb8 0 (pre++st :: suf)&&zkb (pre++st :: suf)&&zeE (dsts pre)&&pre.all (fun o=>zhp o.dst n)&&decide (st.dst=some dd)&&st.guard.isNone &&
 (suf.isEmpty||((List.range (pre.length+1)).all fun j=>zkj (pre++st :: suf) 64 (pre.length+1) j))&&zhL (pre++st :: suf) (pre.length+1) &&
 ((List.range pre.length).all fun j=>inL late j||zkj (pre++st :: suf) 64 pre.length j)&&Nat.blt dd n&&pre.all (fun o=>match o.dst with | some e=>!Nat.beq dd e | none=>true)
section
variable {c:Cx} {ds:List Deferred} {p:Post} {ops pre suf:List Oper} {st:Oper} {T0:List (Nat×Value)} {H:List Res} {S:Ents} {listed:Array Bool} {a:Act} {w:World}
theorem zpZ (hI:Inv c ds ops pre T0 H S listed a w) {m q dd:Nat} {R:Res} (hst:ops[m]?=some st) (hml:m < listed.size) (hclo:∀ j,zaT st j=true→isOn listed j)
  (hpm:pre[m]?=none) (hSm:∀ j dj ej,(j,dj,ej)∈S→j≠m) (hun:¬ isOn listed m) (hq:H[q]?=some R) (hdT:lk T0 dd=none) (hdS:∀ j dj ej,(j,dj,ej)∈S→dj≠dd) (hdn:dd < c.n) :
  ∃ B,(∀ k,B k→k < w.heap.size)∧R.A B w∧(∀ k,B k→¬ c.U k)∧∀ (R':Res) (v:Value) w' B',Mod B w w'→Own B B' w w'→R'.A B' w'→Inv c ds ops pre T0 (H.set q R') S (listed.setIfInBounds m true) (a.put (some dd) v) w'∧(a.put (some dd) v).tmps[dd]?=some v:=by
 obtain⟨v0,R0,B0,h1,h2,h3,h4⟩:=hI.fam
 obtain⟨B,hB,hA,hr⟩:=Holds.front H q hq h4
 have hon:∀ j,isOn (listed.setIfInBounds m true) j↔j=m∨isOn listed j:=zbt hml
 refine⟨B,fun k hk=>(hB k hk).2,hA,fun k hk hu=>(hB k hk).1 (.inl hu),fun R' v w' B' hm ho hA'=>⟨?_,by simp [Act.put,hI.size,hdn]⟩⟩
 have hUw:∀ k,(c.U k∨∃ i,isOn listed i∧(R0 i).isSome=true∧B0 i k)→k < w.heap.size:=by
  rintro k (hu | ⟨i,hi,hs,hb⟩)
  ·exact Nat.lt_of_lt_of_le (hI.base.lt k hu) hI.base.size
  ·obtain⟨r,hr⟩:=Option.isSome_iff_exists.1 hs
   exact((h2 i r hi hr).2 k hb).2
 have hput:∀ t u,t≠dd→a.tmps[t]?=some u→(a.put (some dd) v).tmps[t]?=some u:=fun t u ht hu=>by
  simp only [Act.put]
  rw [Array.getElem?_setIfInBounds_ne (Ne.symm ht)]; exact hu
 refine⟨hI.base.mod hm (fun k hk hu=>(hB k hk).1 (.inl hu)),by simp [Act.put,hI.size],hI.defers,?_,?_,v0,fun j=>if j=m then none else R0 j,B0,?_,?_,?_,?_⟩
 ·intro k ok hk honk j hj
  rcases(hon k).1 honk with rfl | hk'
  ·rw [hst] at hk; cases hk
   exact(hon j).2 (.inr (hclo j hj))
  ·exact(hon j).2 (.inr (hI.closed k ok hk hk' j hj))
 ·intro s u hs hno
  refine hput s u (fun h=>by rw [h,hdT] at hs; cases hs) (hI.old s u hs fun k o hk hok=>?_)
  exact hno k o hk ((hon k).2 (.inr hok))
 ·intro i d e hi hoi
  have him:=hSm i d e hi
  simp only [if_neg him]
  obtain⟨g1,g2⟩:=h1 i d e hi (((hon i).1 hoi).resolve_left him)
  exact⟨g1,hput d _ (hdS i d e hi) g2⟩
 ·intro i r hoi hri
  replace hri:(if i=m then none else R0 i)=some r:=hri
  by_cases him:i=m
  ·rw [if_pos him] at hri; cases hri
  ·rw [if_neg him] at hri
   have hoi':=((hon i).1 hoi).resolve_left him
   obtain⟨g1,g2⟩:=h2 i r hoi' hri
   refine⟨r.loc _ w w' (fun k hk=>hm.same k (g2 k hk).2 (fun hb=>(hB k hb).1 (.inr ⟨i,hoi',by rw [hri]; rfl,hk⟩))) g1,fun k hk=>⟨(g2 k hk).1,Nat.lt_of_lt_of_le (g2 k hk).2 hm.size⟩⟩
 ·intro i j hoi hoj hri hrj hij
  replace hri:(if i=m then none else R0 i).isSome=true:=hri
  replace hrj:(if j=m then none else R0 j).isSome=true:=hrj
  by_cases him:i=m
  ·rw [if_pos him] at hri; cases hri
  ·by_cases hjm:j=m
   ·rw [if_pos hjm] at hrj; cases hrj
   ·rw [if_neg him] at hri; rw [if_neg hjm] at hrj
    exact h3 i j (((hon i).1 hoi).resolve_left him) (((hon j).1 hoj).resolve_left hjm) hri hrj hij
 ·refine Holds.anti _ ?_ (zk8 hq hUw hB hr hm ho hA')
  rintro k (hu | ⟨i,hoi,hri,hb⟩)
  ·exact .inl hu
  ·replace hri:(if i=m then none else R0 i).isSome=true:=hri
   by_cases him:i=m
   ·rw [if_pos him] at hri; cases hri
   ·rw [if_neg him] at hri
    exact .inr ⟨i,((hon i).1 hoi).resolve_left him,hri,hb⟩
theorem zuu {late:List Nat} {q dd:Nat} {R:Res} {Z:Type} {V:Z→Value} {R':Z→Res} {Bad:List PanicEntry→Prop} (hc:zjN c.n pre st suf late dd=true) (hdT:lk T0 dd=none) (hbad:∀ ch,Bad ch→GK c ds (fun a w=>p.pn a ch w) [] []) {S:Ents} (hS1:S.map (·.1)=(List.range' 0 pre.length).reverse) (hqR:H[q]?=some R)
  (hall:∀ (j:Nat) o,pre[j]?=some o→∃ d e S',o.dst=some d∧Ob c ds pre T0 (bif inL late (0+j) then H.set q Emp else H) (0+j) o S' e∧∃ q,S=q++(0+j,d,e) :: S')
  (hstore:finE (deps st S) (zcl pre pre.length T0) H (fun T H'=>zmO c ds T H' st R V R' Bad))
  (hK:∀ z,finE (allE S) (zd3 pre T0) (H.set q (R' z)) (fun T H'=>GK c ds (KL c (pre++st :: suf).toArray p suf) ((dd,V z) :: T) H')) :
  ∀ (fuel:Nat) (listed:Array Bool) (a:Act) (w:World),((List.range (pre++st :: suf).length).filter (fun i=>!listed.getD i false)).length≤fuel→listed.size=(pre++st :: suf).length →
   (∀ k,pre.length < k→¬ isOn listed k)→((¬ isOn listed pre.length∧Inv c ds (pre++st :: suf) pre T0 H S listed a w)∨(isOn listed pre.length∧∃ z,a.tmps[dd]?=some (V z)∧Inv c ds (pre++st :: suf) pre T0 (H.set q (R' z)) S listed a w)) →
   wpAnyIn (FW c.r) 0 c.P .any (pre++st :: suf).toArray p.Q fuel listed a w:=by
 simp only [zjN,Bool.and_eq_true] at hc
 obtain⟨⟨⟨⟨⟨⟨⟨⟨⟨⟨hback,hdef⟩,hdst⟩,hok⟩,hstd⟩,hstg⟩,hfirst⟩,hchain⟩,hlate⟩,hddn⟩,hddp⟩:=hc
 have hnodup:(S.map (·.1)).Nodup:=by
  rw [hS1]
  unfold List.Nodup
  rw [List.pairwise_reverse]
  exact(List.nodup_range' (s:=0) (n:=pre.length) (step:=1)).imp Ne.symm
 have huniq:=zkS S hnodup
 have hpre:∀ (k:Nat) o,pre[k]?=some o→(pre++st :: suf)[k]?=some o:=fun k o h=>by
  have:=(List.getElem?_eq_some_iff.1 h).1
  rw [List.getElem?_append_left this]; exact h
 have hstm:(pre++st :: suf)[pre.length]?=some st:=by rw [List.getElem?_append_right (Nat.le_refl _)]; simp
 have hjlt:∀ j dj ej,(j,dj,ej)∈S→j < pre.length:=by
  intro j dj ej hj
  have hjm:j∈S.map (·.1):=List.mem_map.2 ⟨_,hj,rfl⟩
  rw [hS1,List.mem_reverse,List.mem_range'_1] at hjm
  omega
 have hSop:∀ j dj ej,(j,dj,ej)∈S→∃ oj,pre[j]?=some oj∧oj.dst=some dj:=by
  intro j dj ej hj
  have hlt:=hjlt j dj ej hj
  obtain⟨d,e,S',hd,_,q,hq⟩:=hall j pre[j] (by simp [hlt])
  rw [Nat.zero_add] at hq
  have hmem:(j,d,e)∈S:=by rw [hq]; simp
  have:=huniq _ hj _ hmem rfl
  simp only [Prod.mk.injEq,true_and] at this
  exact⟨pre[j],by simp [hlt],by rw [hd,this.1]⟩
 have hkeep:∀ {H':List Res} {listed:Array Bool} {a:Act} {w:World},Inv c ds (pre++st :: suf) pre T0 H' S listed a w→Sat c.n (zd3 pre T0) ds a:=by
  intro H' listed a w hI
  refine⟨hI.size,fun t v h=>?_,hI.defers⟩
  rw [zeI] at h
  obtain⟨h1,h2⟩:=zcD (fun s=>pre.all (fun f=>match f.dst with | some d=>!Nat.beq d s | none=>true)) T0 _ (fun _ _ _ _=>trivial) rfl t v h
  refine hI.old t v h1 fun k o hk _ hd=>?_
  rw [List.all_eq_true] at h2
  have h3:=h2 o (List.mem_of_getElem? hk)
  rw [hd] at h3
  simp at h3
 have hend:∀ (fuel:Nat) (listed:Array Bool) (a:Act) (w:World),((List.range (pre++st :: suf).length).filter (fun i=>!listed.getD i false)).length≤fuel→listed.size=(pre++st :: suf).length→(∀ k,pre.length < k→¬ isOn listed k) →
   (∀ i,i < pre.length+1→isOn listed i)→(∃ z,a.tmps[dd]?=some (V z)∧Inv c ds (pre++st :: suf) pre T0 (H.set q (R' z)) S listed a w)→wpAnyIn (FW c.r) 0 c.P .any (pre++st :: suf).toArray p.Q fuel listed a w:=by
  intro fuel listed a w hf hsz hsuf hallon ⟨z,hz,hI⟩
  obtain⟨T',H',hg,hsat,hhp⟩:=zdH (S:=S) (S1:=S) (f:=fun _=>true) (L:=allE) (K:=fun T H'=>GK c ds (KL c (pre++st :: suf).toArray p suf) ((dd,V z) :: T) H') (T1:=zd3 pre T0) hI (fun _ h=>h)
   (fun x hx _=>hallon x.1 (by have:=hjlt x.1 x.2.1 x.2.2 hx; omega)) (hkeep hI) rfl (fun _ _ _ _=>rfl) hnodup (hK z)
  have hl:=hg a w ⟨hsat.size,fun t u ht=>by
   by_cases hdt:dd=t
   ·subst hdt; rw [zcR] at ht; cases ht; exact hz
   ·rw [zdb hdt] at ht; exact hsat.val t u ht,hsat.defers⟩ hhp
  have hcnt:suf.length≤fuel:=by
   refine Nat.le_trans ?_ hf
   have hlen:(pre++st :: suf).length=(pre.length+1)+suf.length:=by simp; omega
   rw [hlen,List.range_eq_range',←List.range'_append_1,List.filter_append,List.length_append]
   refine Nat.le_trans ?_ (Nat.le_add_left _ _)
   rw [List.filter_eq_self.2 (fun x hx=>?_)]
   ·simp
   ·rw [List.mem_range'_1] at hx
    have:=hsuf x (by omega)
    unfold isOn at this
    simp only [Bool.not_eq_true] at this
    rw [this]; rfl
  refine zhl (m:=pre.length+1) hback hchain suf.length 0 fuel listed a w (by simp; omega) hcnt hsz (fun k hk=>⟨fun hon=>?_,fun h=>hallon k (by omega)⟩) ?_
  ·rcases Nat.lt_or_ge k (pre.length+1) with h | h
   ·omega
   ·exact absurd hon (hsuf k (by omega))
  rw [Nat.add_zero,show(pre++st :: suf).drop (pre.length+1)=suf from by rw [←List.drop_drop,List.drop_left]; rfl]
  exact hl
 have hmode:∀ {listed:Array Bool} {a:Act} {w:World},((¬ isOn listed pre.length∧Inv c ds (pre++st :: suf) pre T0 H S listed a w)∨(isOn listed pre.length∧∃ z,a.tmps[dd]?=some (V z)∧Inv c ds (pre++st :: suf) pre T0 (H.set q (R' z)) S listed a w)) →
   isOn listed pre.length→∃ z,a.tmps[dd]?=some (V z)∧Inv c ds (pre++st :: suf) pre T0 (H.set q (R' z)) S listed a w:=fun h hon=>by
  rcases h with ⟨h,_⟩ | ⟨_,h⟩
  ·exact absurd hon h
  ·exact h
 intro fuel
 induction fuel with
 | zero=>
  intro listed a w hf hsz hsuf hI
  by_cases hallon:∀ i,i < pre.length+1→isOn listed i
  ·exact hend 0 listed a w hf hsz hsuf hallon (hmode hI (hallon _ (by omega)))
  ·exfalso
   obtain⟨i,hi⟩:=Classical.not_forall.1 hallon
   obtain⟨hi1,hi2⟩:=Classical.not_imp.1 hi
   have hmem:i∈(List.range (pre++st :: suf).length).filter (fun i=>!listed.getD i false):=by
    rw [List.mem_filter,List.mem_range]
    refine⟨by simp; omega,?_⟩
    unfold isOn at hi2
    simp only [Bool.not_eq_true] at hi2
    rw [hi2]; rfl
   have:=List.length_pos_of_mem hmem
   omega
 | succ fuel ih=>
  intro listed a w hf hsz hsuf hI
  by_cases hallon:∀ i,i < pre.length+1→isOn listed i
  ·exact hend _ listed a w hf hsz hsuf hallon (hmode hI (hallon _ (by omega)))
  ·have hex:∃ i,i < pre.length+1∧¬ isOn listed i:=by
    obtain⟨i,hi⟩:=Classical.not_forall.1 hallon
    exact⟨i,Classical.not_imp.1 hi⟩
   have hclosed:∀ (k:Nat) (o:Oper),(pre++st :: suf)[k]?=some o→isOn listed k→∀ j,zaT o j=true→isOn listed j:=by
    rcases hI with ⟨_,h⟩ | ⟨_,z,_,h⟩ <;> exact h.closed
   refine⟨fun h0=>?_,fun i hi=>?_⟩
   ·exfalso
    have least:∀ n,(∃ i,i < n∧¬ isOn listed i)→∃ i,i < n∧¬ isOn listed i∧∀ k,k < i→isOn listed k:=by
     intro n
     induction n with
     | zero=>rintro ⟨i,hi,_⟩; omega
     | succ n ih=>
      rintro ⟨i,hi,hno⟩
      by_cases h:∃ i,i < n∧¬ isOn listed i
      ·obtain⟨j,h1,h2,h3⟩:=ih h
       exact⟨j,by omega,h2,h3⟩
      ·refine⟨i,hi,hno,fun k hk=>Classical.byContradiction fun hn=>h ⟨k,by omega,hn⟩⟩
    obtain⟨i,h1,h2,h3⟩:=least _ hex
    have hlt:i < (pre++st :: suf).length:=by simp; omega
    have:i∈Region.ready .any (pre++st :: suf).toArray listed:=by
     refine(zbX (by simpa using hsz)).2 ⟨by simpa using hlt,h2,(pre++st :: suf)[i],by simp,fun j hj=>?_⟩
     have:=zbY _ 0 hback i (pre++st :: suf)[i] (by simp) j hj
     exact h3 j (by omega)
    rw [h0] at this
    cases this
   ·obtain⟨g1,g2,o,ho,g3⟩:=(zbX (by simpa using hsz)).1 hi
    simp only [List.size_toArray] at g1
    have ho':(pre++st :: suf)[i]?=some o:=by simpa using ho
    have him:i < pre.length+1:=by
     rcases Nat.lt_or_ge i (pre.length+1) with h | h
     ·exact h
     ·exfalso
      rcases Nat.lt_or_ge (pre.length+1) i with hgt | hle
      ·unfold zhL at hchain
       have:=List.all_eq_true.1 hchain (i - (pre.length+1) - 1) (by rw [List.mem_range]; omega)
       rw [show pre.length+1+(i - (pre.length+1) - 1)+1=i from by omega,ho'] at this
       exact hsuf _ (by omega) (g3 _ this)
      ·have hie:i=pre.length+1:=by omega
       have hne:suf.isEmpty=false:=by
        cases suf with
        | nil=>simp at g1; omega
        | cons _ _=>rfl
       rw [hne,Bool.false_or] at hfirst
       obtain⟨k,hk1,hk2⟩:=hex
       have:=List.all_eq_true.1 hfirst k (List.mem_range.2 hk1)
       rw [←hie] at this
       exact hk2 (zdL hclosed 64 i k (fun o'' h''=>by rw [ho'] at h''; cases h''; exact g3) this)
    have hilt:i < listed.size:=by omega
    have hcnt:((List.range (pre++st :: suf).length).filter (fun k=>!(listed.setIfInBounds i true).getD k false)).length≤fuel:=by
     have:=zkI (l:=List.range (pre++st :: suf).length) (q:=fun i=>!listed.getD i false) (q':=fun k=>!(listed.setIfInBounds i true).getD k false) (i:=i) ?_ (List.mem_range.2 g1) ?_ ?_
     ·omega
     ·intro x hx'
      have:¬ isOn (listed.setIfInBounds i true) x:=by unfold isOn; simpa using hx'
      have:¬ isOn listed x:=fun h=>this ((zbt hilt x).2 (.inr h))
      unfold isOn at this
      simpa using this
     ·unfold isOn at g2; simpa using g2
     ·have:isOn (listed.setIfInBounds i true) i:=(zbt hilt i).2 (.inl rfl)
      unfold isOn at this
      simp only [this]; rfl
    have hsuf':∀ k,pre.length < k→¬ isOn (listed.setIfInBounds i true) k:=fun k hk hon=>by
     rcases(zbt hilt k).1 hon with rfl | h
     ·omega
     ·exact hsuf k hk h
    rcases Nat.lt_or_ge i pre.length with hip | hip
    ·
     have hpi:pre[i]?=some o:=by rw [List.getElem?_append_left hip] at ho'; exact ho'
     obtain⟨d,e,S',hd,hOb,q',hq⟩:=hall i o hpi
     rw [Nat.zero_add] at hOb hq
     have hsubS:∀ x∈S',x∈S:=fun x hx=>by rw [hq]; simp [hx]
     have hmem:(i,d,e)∈S:=by rw [hq]; simp
     have hndS':(S'.map (·.1)).Nodup:=by
      have:=hnodup
      rw [hq,List.map_append,List.nodup_append] at this
      have:=this.2.1
      rw [List.map_cons,List.nodup_cons] at this
      exact this.2
     have hshow:∃ HS,Inv c ds (pre++st :: suf) pre T0 HS S listed a w∧HS=(bif inL late i then H.set q Emp else H):=by
      cases hl:inL late i with
      | true=>
       simp only [cond_true]
       rcases hI with ⟨_,h⟩ | ⟨_,z,_,h⟩
       ·exact⟨_,h.emp q,rfl⟩
       ·exact⟨_,h.emp q,znQ⟩
      | false=>
       simp only [cond_false]
       rcases hI with ⟨_,h⟩ | ⟨hon,_⟩
       ·exact⟨_,h,rfl⟩
       ·exfalso
        have:=List.all_eq_true.1 hlate i (List.mem_range.2 hip)
        rw [hl,Bool.false_or] at this
        exact g2 (zdL hclosed 64 pre.length i (fun o'' h''=>hclosed _ _ h'' hon) this)
     obtain⟨HS,hIS,hHS⟩:=hshow
     rw [←hHS] at hOb
     have hsatb:Sat c.n (zcl pre i T0) ds a:=zgH hIS hpre g2
     have hdn:d < c.n:=by
      have:=List.all_eq_true.1 hok o (List.mem_of_getElem? hpi)
      rw [hd] at this
      exact Nat.le_of_ble_eq_true this
     have hnd:zfO o=false:=by
      have:=List.all_eq_true.1 hdef o (List.mem_of_getElem? (hpre i o hpi))
      simpa using this
     have hnext:∀ (v:Value) (r:Option Res) (w':World),Ext w w'→e.ok v r→(∀ R,r=some R→∃ B:Nat→Prop,(∀ k,B k→w.heap.size≤k∧k < w'.heap.size)∧R.A B w') →
       wpAnyIn (FW c.r) 0 c.P .any (pre++st :: suf).toArray p.Q fuel (listed.setIfInBounds i true) (a.put (some d) v) w':=by
      intro v r w' hx hek hr
      have hnm:isOn (listed.setIfInBounds i true) pre.length↔isOn listed pre.length:=by
       rw [zbt hilt]
       exact⟨fun h=>h.resolve_left (by omega),.inr⟩
      have hstep:∀ {HS:List Res},Inv c ds (pre++st :: suf) pre T0 HS S listed a w→Inv c ds (pre++st :: suf) pre T0 HS S (listed.setIfInBounds i true) (a.put (some d) v) w':=fun hI=>
       zj5 hI hpi ho' hilt hd (fun j oj hj hji=>zdF pre hdst i j o oj hpi hj (Ne.symm hji) d hd) hSop
        (fun d' e' h=>by have:=huniq _ h _ hmem rfl; simp only [Prod.mk.injEq,true_and] at this; exact this) hdn g3 g2 hx hek hr
      refine ih _ _ _ hcnt (by simp [hsz]) hsuf' ?_
      rcases hI with ⟨hno,h⟩ | ⟨hon,z,hz,h⟩
      ·exact .inl ⟨fun x=>hno (hnm.1 x),hstep h⟩
      ·refine .inr ⟨hnm.2 hon,z,?_,hstep h⟩
       have hne:dd≠d:=fun e=>by
        have:=List.all_eq_true.1 hddp o (List.mem_of_getElem? hpi)
        rw [hd] at this
        simp [e] at this
       simp only [Act.put]
       rw [Array.getElem?_setIfInBounds_ne (Ne.symm hne)]; exact hz
     unfold wpOpIn
     rw [ho]
     simp only []
     have hfun:∀ {K:List (Nat×Value)→List Res→Prop},finE (deps o S') (zcl pre i T0) HS K→∃ T' H',K T' H'∧Sat c.n T' ds a∧Hp c.U c.w0 H' w:=fun h=>
      zdH (f:=fun j=>zaT o j) (S1:=S') (L:=deps o) hIS hsubS (fun x _ hb=>g3 x.1 hb) hsatb rfl (fun _ _ _ _=>rfl) hndS' h
     unfold Ob at hOb
     cases hg:o.guard with
     | none=>
      rw [hg] at hOb
      simp only at hOb
      rw [if_pos (by simp [Region.wanted,hg])]
      obtain⟨T',H',hst',hsat,hhp⟩:=hfun hOb
      cases e with
      | pure u=>
       refine za9 hnd (hst'.run a w hsat hhp) fun v w' hv=>?_
       obtain⟨rfl,hx⟩:=hv
       rw [hd]
       exact hnext v none w' hx ⟨rfl,rfl⟩ (fun R h=>by cases h)
      | res X V A=>
       refine za9 hnd (hst'.run a w hsat hhp) fun v w' hv=>?_
       obtain⟨x,rfl,hx,B,hB,hA⟩:=hv
       rw [hd]
       exact hnext _ (some (A x)) w' hx ⟨x,rfl,rfl⟩ (fun R h=>by cases h; exact⟨B,hB,hA⟩)
     | some gw=>
      obtain⟨j,want⟩:=gw
      rw [hg] at hOb
      rcases hOb with ⟨hlk,hbj,hst0⟩ | ⟨u0,qb,u,hlk,hbj,hq0,rfl,hst'⟩
      ·obtain⟨dj,hj⟩:=zf6 S' j _ hlk
       have honj:=g3 j hbj
       obtain⟨oj,hoj,hdj⟩:=hSop j dj _ (hsubS _ hj)
       obtain⟨v0,R0,B0,h1,_⟩:=hIS.fam
       obtain⟨hok',hval⟩:=h1 j dj _ (hsubS _ hj) honj
       obtain⟨hvj,_⟩:=hok'
       rw [hvj] at hval
       have hy:yielded (pre++st :: suf).toArray a.tmps j=some want:=zec (by simpa using hpre j oj hoj) hdj hval
       rw [if_pos (by simp only [Region.wanted,hg]; rw [hy]; simp)]
       obtain⟨T',H',hst',hsat,hhp⟩:=hfun hst0
       cases e with
       | pure u=>
        refine za9 hnd (hst'.run a w hsat hhp) fun v w' hv=>?_
        obtain⟨rfl,hx⟩:=hv
        rw [hd]
        exact hnext v none w' hx ⟨rfl,rfl⟩ (fun R h=>by cases h)
       | res X V A=>
        refine za9 hnd (hst'.run a w hsat hhp) fun v w' hv=>?_
        obtain⟨x,rfl,hx,B,hB,hA⟩:=hv
        rw [hd]
        exact hnext _ (some (A x)) w' hx ⟨x,rfl,rfl⟩ (fun R h=>by cases h; exact⟨B,hB,hA⟩)
      obtain⟨dj,hj⟩:=zf6 S' j _ hlk
      have honj:=g3 j hbj
      obtain⟨oj,hoj,hdj⟩:=hSop j dj _ (hsubS _ hj)
      obtain⟨v0,R0,B0,h1,_⟩:=hIS.fam
      obtain⟨hok',hval⟩:=h1 j dj _ (hsubS _ hj) honj
      obtain⟨hvj,_⟩:=hok'
      rw [hvj] at hval
      have hy:yielded (pre++st :: suf).toArray a.tmps j=some want↔u0=.bool want:=zd2 (by simpa using hpre j oj hoj) hdj hval
      cases hqq:qb with
      | true=>
       rw [if_pos (by simp only [Region.wanted,hg]; rw [hy.2 (hq0.1 hqq)]; simp)]
       obtain⟨T',H',hst'',hsat,hhp⟩:=hfun (hst' hqq)
       refine za9 hnd (hst''.run a w hsat hhp) fun v w' hv=>?_
       obtain⟨rfl,hx⟩:=hv
       rw [hd]
       exact hnext v none w' hx ⟨by rw [if_pos hqq],rfl⟩ (fun R h=>by cases h)
      | false=>
       have hnw:¬ yielded (pre++st :: suf).toArray a.tmps j=some want:=fun h=>by
        have:=hq0.2 (hy.1 h)
        rw [hqq] at this
        cases this
       rw [if_neg (by simp only [Region.wanted,hg]; simpa using hnw)]
       refine⟨fun _ _=>trivial,?_⟩
       rw [hd]
       exact hnext undef none w Ext.rfl ⟨by rw [if_neg (by simp [hqq])],rfl⟩ (fun R h=>by cases h)
    ·
     have hie:i=pre.length:=by omega
     subst hie
     rw [hstm] at ho'
     simp only [Option.some.injEq] at ho'
     subst ho'
     have hIA:Inv c ds (pre++st :: suf) pre T0 H S listed a w:=by
      rcases hI with ⟨_,h⟩ | ⟨h,_⟩
      ·exact h
      ·exact absurd h g2
     obtain⟨T',H',hst',hsat,hhp⟩:=zdH (f:=fun j=>zaT st j) (S1:=S) (L:=deps st) hIA (fun _ h=>h) (fun x _ hb=>g3 x.1 hb) (zgH hIA hpre g2) rfl (fun _ _ _ _=>rfl) hnodup hstore
     obtain⟨B,hB,hA,hBU,hgo⟩:=zpZ hIA hstm hilt g3 (by simp) (fun j dj ej hj h=>by have:=hjlt j dj ej hj; omega) g2 hqR hdT (fun j dj ej hj e=>by
      obtain⟨oj,h1,h2⟩:=hSop j dj ej hj
      have:=List.all_eq_true.1 hddp oj (List.mem_of_getElem? h1)
      rw [h2] at this
      simp [e] at this) (Nat.le_of_ble_eq_true hddn)
     unfold wpOpIn
     rw [ho]
     simp only []
     have hgn:st.guard=none:=by simpa using hstg
     have hdn:st.dst=some dd:=by simpa using hstd
     rw [if_pos (by simp [Region.wanted,hgn])]
     have hnd:zfO st=false:=by
      have:=List.all_eq_true.1 hdef st (List.mem_of_getElem? hstm)
      simpa using this
     refine zhn hnd (hst'.run a w B hsat hhp hB hA) (fun v w' hv=>?_) (fun ch w' hv=>?_)
     ·obtain⟨z,rfl,hm,B',ho',hA'⟩:=hv
      rw [hdn]
      obtain⟨h1,h2⟩:=hgo (R' z) (V z) w' B' hm ho' hA'
      exact ih _ _ _ hcnt (by simp [hsz]) hsuf' (.inr ⟨(zbt hilt _).2 (.inl rfl),z,h2,h1⟩)
     ·obtain⟨hb,hm⟩:=hv
      exact hbad ch hb a w' ⟨hIA.size,fun t v h=>by simp [lk] at h,hIA.defers⟩ ⟨hIA.base.mod hm hBU,trivial⟩
theorem zjX {id:Nat} {l:List Oper} {d:Bool} {Z:Type} {V:Z→Value} {R':Z→Res} {Bad:List PanicEntry→Prop} (m:Nat) (late:List Nat) (q dd:Nat) {R:Res} (hm:d=true→c.P.follows .mixedOrders=true) (hl0:l.take m++st :: l.drop (m+1)=l) (hlm:(l.take m).length=m)
  (hc:zjN c.n (l.take m) st (l.drop (m+1)) late dd=true) (hdT:lk T0 dd=none) (hbad:∀ ch,Bad ch→GK c ds (fun a w=>p.pn a ch w) [] []) (hq:H[q]?=some R)
  (h:PHs c ds (l.take m) T0 (fun i=>bif inL late i then H.set q Emp else H) (fun S=>finE (deps st S) (zcl (l.take m) m T0) H (fun T H'=>zmO c ds T H' st R V R' Bad) ∧
   ∀ z,finE (allE S) (zd3 (l.take m) T0) (H.set q (R' z)) (fun T H'=>GK c ds (KL c l.toArray p (l.drop (m+1))) ((dd,V z) :: T) H')) 0 (l.take m) []):GK c ds (KC c (.region id l.toArray d) p) T0 H:=by
 intro a w ha hw
 obtain⟨S,⟨hst,hK⟩,⟨q',hq',hq2⟩,hall⟩:=zms _ _ _ h
 rw [List.append_nil] at hq'
 have hmain:∀ w,Hp c.U c.w0 H w→wpAnyIn (FW c.r) 0 c.P .any l.toArray p.Q l.length (Array.replicate l.length false) a w:=by
  intro w hw
  have hoff:∀ k,¬ isOn (Array.replicate l.length false) k:=fun k=>by
   unfold isOn
   by_cases hk:k < l.length
   ·simp [hk]
   ·simp [hk]
  have:=zuu (c:=c) (ds:=ds) (p:=p) (pre:=l.take m) (st:=st) (suf:=l.drop (m+1)) (T0:=T0) (H:=H) hc hdT hbad (S:=S) (by rw [hq']; exact hq2) hq hall (by rw [hlm]; exact hst) (by rw [hl0]; exact hK) l.length (Array.replicate l.length false) a w
   (by rw [hl0]; exact Nat.le_trans (List.length_filter_le _ _) (by simp)) (by rw [hl0]; simp) (fun k _=>hoff k)
   (.inl ⟨hoff _,⟨hw.base,ha.size,ha.defers,fun k o _ hon=>absurd hon (hoff k),fun s v hs _=>ha.val s v hs,
    ⟨fun _=>undef,fun _=>none,fun _ _=>False,fun i _ _ _ hon=>absurd hon (hoff i),fun i _ hon=>absurd hon (hoff i),fun i _ hon=>absurd hon (hoff i),
     Holds.anti H (fun k hk=>by
      rcases hk with hk | ⟨_,_,_,hk⟩
      ·exact hk
      ·exact hk.elim) hw.holds⟩⟩⟩)
  rw [hl0] at this
  exact this
 cases d
 ·refine wpIn_region ?_
  have hb:zb8 0 l=true:=by
   simp only [zjN,Bool.and_eq_true] at hc
   obtain⟨⟨⟨⟨⟨⟨⟨⟨⟨⟨hback,_⟩,_⟩,_⟩,_⟩,_⟩,_⟩,_⟩,_⟩,_⟩,_⟩:=hc
   rwa [hl0] at hback
  have:=zer (c:=c) (p:=p) hb l.length 0 l.length (Array.replicate l.length false) a w (by omega) (Nat.le_refl _) (by simp) (fun i hi=>⟨fun h=>by
   unfold isOn at h
   simp [hi] at h,fun h=>by omega⟩) (hmain w hw)
  rw [List.range_eq_range']
  simpa using this
 ·refine wpIn_region_any (hm rfl) ?_
  have:=hmain _ hw.drawn
  simpa using this
end
section
variable {c:Cx} {ds:List Deferred} {T:List (Nat×Value)} {H:List Res} {x y:Operand} {d:Option Nat} {ty:TypeId} {ps:String} {af:Array Edge}
theorem zrf {X M:Type} {te:TypeId} {res:Except Int X} {V:X→M→Value} {J:X→M→Res} {R:Res} {f:FuncId} (he:En c.P f) {«as»:List Operand} {tys:Array TypeId} {vs:List Value} (ha:evs T «as» = some vs)
  (hc:∀ w B,(∀ k,B k→k < w.heap.size)→R.A B w→Calls c.P f vs.toArray w (zej te res V J B w)) :
  zmO c ds T H ⟨d,.call ⟨.value (.func f),«as».toArray,tys⟩,ty,ps,af,none⟩ R (Z:={ z:X×M // res=.ok z.1 }) (fun z=>V z.1.1 z.1.2) (fun z=>J z.1.1 z.1.2) (fun ch=>∃ k,res=.error k∧ch=thrC (errT te k)):=by
 refine⟨fun a w B hs hw hB hA=>?_⟩
 unfold YldT
 rw [zfJ he ha hs w]
 refine(hc w B hB hA).mono ?_
 intro e w' he'
 cases hres:res with
 | ok x=>
  rw [hres] at he'
  obtain⟨m,B',rfl,hm,ho,hA⟩:=he'
  exact .inl ⟨V x m,rfl,⟨(x,m),rfl⟩,rfl,hm,B',ho,hA⟩
 | error q=>
  rw [hres] at he'
  obtain⟨rfl,hm⟩:=he'
  exact .inr ⟨_,rfl,⟨q,rfl,rfl⟩,hm⟩
variable {α:Type} {k:Nat} {enc:α→List Value}
theorem zhN {t e:TypeId} {by_:Nat} {zs:List Value} {a a2:Option Addr} {cap c2:Nat} {l m:List α} (hf:AF c.P t e k by_ zs) (he:Enc k enc)
  (hx:evo T x=some (.slice a l.length cap)) (hy:evo T y=some (.slice a2 m.length c2)) (hm:∀ w,Hp c.U c.w0 H w→Has w (zaW a2 k enc m))
  (hb:(l.length+m.length)*by_≤140737488355328) (hl:l.length+m.length≤maxLen) :
  zmO c ds T H ⟨d,.call ⟨.builtin .append,#[x,y],#[t,t]⟩,ty,ps,af,none⟩ (Row a k cap e enc l) (Z:=Option Addr×Nat) (fun z=>.slice z.1 (l++m).length z.2) (fun z=>Row z.1 k z.2 e enc (l++m)) (fun _=>False):=by
 refine⟨fun A w B hs hw hB hA=>?_⟩
 obtain⟨a',cap',w',B',hr,hmd,ho,hA⟩:=zfU (P:=c.P) (ty:=ty) hf he (c2:=c2) hA (hm w hw) hb hl
 unfold YldT
 rw [zcp («as»:=[x,y]) (vs:=[.slice a l.length cap,.slice a2 m.length c2]) (by simp [evs,hx,hy]) hs w]
 simp only [builtin]
 rw [zbu hr]
 exact⟨(a',cap'),rfl,hmd,B',ho,hA⟩
end
end Go.K
namespace Go.K
open Go Go.RowKit
section
variable {c:Cx} {ds:List Deferred} {p:Post} {T:List (Nat×Value)} {H:List Res} {ops:Array Oper} {rest:List Oper} {d:Option Nat} {ty:TypeId} {ps:String} {af:Array Edge} {g:Option (Nat×Bool)} {x y:Operand}
theorem zjt {P:Program} {w:World} {b:Nat} {es:Array MapEntry} {clock:Nat} (hb:w.heap[b]?=some (.map es clock)):(getObj b).run P w=.ok (.map es clock) w:=by
 unfold getObj
 simp [Sem.run,hb]
theorem zdZ {k:TypeId} {P:Program} {w:World} (hk:P.underlying k=some .string) (e:Bool) (s:ByteArray):(Instr.checkKey e 10000 k (.string s)).run P w=.ok () w:=by
 unfold Instr.checkKey
 rw [zal (zaU hk)]
 rfl
end
end Go.K
namespace Go.K
open Go Go.RowKit
def MapR (b:Nat) (l:List (ByteArray×Value)):Res where
 A B w:=(∀ j,B j↔j=b)∧∃ es clock,w.heap[b]?=some (.map es clock)∧es.toList.map (fun e=>(e.key,e.val))=l.map (fun s=>(Value.string s.1,s.2))
 loc _ _ _ h hA:=⟨hA.1,by obtain⟨es,clock,h1,h2⟩:=hA.2; exact⟨es,clock,(h b ((hA.1 b).2 rfl)).trans h1,h2⟩⟩
def mget:List (ByteArray×Value)→ByteArray→Option Value
 | [],_=>none
 | p :: r,s=>if (s == p.1)=true then some p.2 else mget r s
theorem zjS (s:ByteArray):∀ (es:List MapEntry) (l:List (ByteArray×Value)) (i:Nat),es.map (fun e=>(e.key,e.val))=l.map (fun s=>(Value.string s.1,s.2)) →
  (Instr.findNow .string (.string s) es i=some none∧mget l s=none)∨(∃ j v,Instr.findNow .string (.string s) es i=some (some (j,v))∧mget l s=some v)
 | [],[],i,_=>.inl ⟨rfl,rfl⟩
 | [],_ :: _,_,h=>by simp at h
 | _ :: _,[],_,h=>by simp at h
 | e :: es,n :: l,i,h=>by
  simp only [List.map_cons,List.cons.injEq,Prod.mk.injEq] at h
  obtain⟨⟨h1,h2⟩,h3⟩:=h
  unfold Instr.findNow
  rw [h1]
  simp only [Instr.sameNow,mget]
  cases hs:(s == n.1) with
  | true=>exact .inr ⟨i,n.2,by rw [h2],by simp⟩
  | false=>
   rcases zjS s es l (i+1) h3 with ⟨g1,g2⟩ | ⟨j,v,g1,g2⟩
   ·exact .inl ⟨g1,by simpa using g2⟩
   ·exact .inr ⟨j,v,g1,by simpa using g2⟩
structure MT (P:Program) (t k e:TypeId) (n:Nat) (ag:Bool) (z:Value):Prop where
 u:P.underlying t=some (.map k e)
 k:P.underlying k=some .string
 e:TF P e ag n z
section
variable {c:Cx} {ds:List Deferred} {p:Post} {T:List (Nat×Value)} {H:List Res} {ops:Array Oper} {rest:List Oper} {d:Option Nat} {ty:TypeId} {ps:String} {af:Array Edge} {g:Option (Nat×Bool)} {x y:Operand}
theorem zmM {t:TypeId}:YX c ds H T ⟨d,.makeMap t none,ty,ps,af,g⟩ (fun b=>.map (some b)) (fun b=>MapR b []):=by
 refine⟨fun a w ha hw=>?_⟩
 unfold Yld
 have:(execOp a.eval ⟨d,.makeMap t none,ty,ps,af,g⟩).run c.P w=.ok (.value (.map (some w.heap.size))) (w.alloc (.map #[] 0)):=by
  simp only [execOp]
  exact zbu rfl
 rw [this]
 refine⟨w.heap.size,rfl,zcG _,(· = w.heap.size),fun k hk=>by subst hk; simp,fun k=>Iff.rfl,#[],0,World.alloc_heap_new w _,rfl⟩
theorem zmL {t k e:TypeId} {n:Nat} {ag:Bool} {z:Value} {b:Nat} {l:List (ByteArray×Value)} {s:ByteArray} (hm:MT c.P t k e n ag z) (hx:evo T x=some (.map (some b))) (hy:evo T y=some (.string s)) (h:∀ w,Hp c.U c.w0 H w→Has w (MapR b l)) :
  Y c ds H T ⟨d,.lookup t x y true,ty,ps,af,g⟩ (.tuple #[(mget l s).getD z,.bool (mget l s).isSome]):=
 zcz fun a w ha hw=>by
  obtain⟨B,_,_,es,clock,hb,hes⟩:=h w hw
  simp only [execOp,ha.eval hx,ha.eval hy]
  refine zbu ?_
  unfold Instr.lookup
  rw [zal (zaU hm.u)]
  dsimp only
  rw [zal (zjt hb)]
  dsimp only
  rw [zal (v:=es) (w':=w) rfl,zal (zdZ hm.k _ s)]
  have hf:∀ r,Instr.findNow .string (.string s) es.toList 0=some r→(Instr.findKey k (.string s) es.toList).run c.P w=.ok r w:=fun r hr=>by
   unfold Instr.findKey
   rw [zal (zaU hm.k),hr]
   rfl
  rcases zjS s es.toList l 0 hes with ⟨g1,g2⟩ | ⟨j,v,g1,g2⟩
  ·rw [g2,zal (hf _ g1)]
   dsimp only
   rw [zal hm.e.zero,zal (v:=((z,false):Value×Bool)) (w':=w) rfl]
   rfl
  ·rw [g2,zal (hf _ g1)]
   dsimp only
   rw [zal (v:=((v,true):Value×Bool)) (w':=w) rfl]
   rfl
end
end Go.K
namespace Go.K
open Go Go.RowKit
def IF (P:Program) (t:TypeId):Prop:=∃ d,P.underlying t=some d∧∀ m,d≠.interface m
structure SA (P:Program) (t e:TypeId) (n k:Nat):Prop where
 u:P.underlying t=some (.array n e)
 i:(P.info? e).map (fun i=>i.size)=some k
section
variable {c:Cx} {ds:List Deferred} {p:Post} {T:List (Nat×Value)} {H:List Res} {ops:Array Oper} {rest:List Oper} {d:Option Nat} {ty:TypeId} {ps:String} {af:Array Edge} {g:Option (Nat×Bool)} {x y:Operand}
theorem zbx {a:Addr} (hx:evo T x=some (.pointer (some a))):Y c ds H T ⟨d,.nilCheck x,ty,ps,af,g⟩ (.pointer (some a)):=
 zcz fun A w ha _=>by
  simp only [execOp,ha.eval hx]
  rfl
theorem zeP {a:Option Addr} {n:Nat} (hx:evo T x=some (epx a n)) (h:∀ w,Hp c.U c.w0 H w→∃ b off,a=some ⟨b,off,none⟩):Y c ds H T ⟨d,.nilCheck x,ty,ps,af,g⟩ (epx a n):=
 zcz fun A w ha hw=>by
  obtain⟨b,off,rfl⟩:=h w hw
  simp only [execOp,ha.eval hx]
  rfl
theorem zuZ {t:TypeId} {v:Value} (ht:IF c.P t) (hx:evo T x=some v):Y c ds H T ⟨d,.makeInterface t x,ty,ps,af,g⟩ (.iface t v):=
 zcz fun A w ha _=>by
  simp only [execOp,ha.eval hx]
  refine zbu ?_
  obtain⟨d,hu,hd⟩:=ht
  unfold Instr.makeInterface
  rw [zal (zaU hu)]
  cases d <;> first | rfl | exact absurd rfl (hd _)
theorem zlN {t t0:TypeId} {v:Value} (ht:IF c.P t) (hx:evo T x=some (.iface t v)):Y c ds H T ⟨d,.typeAssert x t0 t true,ty,ps,af,g⟩ (.tuple #[v,.bool true]):=
 zcz fun A w ha _=>by
  simp only [execOp,ha.eval hx]
  refine zbu ?_
  obtain⟨d,hu,hd⟩:=ht
  unfold Instr.typeAssert
  rw [zal (zaU hu)]
  cases d <;> first | exact absurd rfl (hd _) | simp [pure]
theorem zqG {P:Program} {w:World} {e:TypeId} {k:Nat} (hi:(P.info? e).map (fun i=>i.size)=some k):(sizeOf e).run P w=.ok k w:=by
 cases hu:P.info? e with
 | none=>rw [hu] at hi; cases hi
 | some j=>
  rw [hu] at hi
  simp only [Option.map_some,Option.some.injEq] at hi
  unfold sizeOf
  rw [zal (zfK hu)]
  simp [pure,hi]
theorem zjB {t e:TypeId} {n k b o:Nat} (ht:SA c.P t e n k) (hx:evo T x=some (.pointer (some ⟨b,o,none⟩))):Y c ds H T ⟨d,.slice t x none none none,ty,ps,af,g⟩ (.slice (some ⟨b,o,none⟩) n n):=
 zcz fun A w ha _=>by
  simp only [execOp,ha.eval hx,Option.map_none]
  refine zbu ?_
  unfold Instr.sliceAt
  rw [zal (zaU ht.u)]
  simp only []
  rw [zal (v:=⟨b,o,none⟩) (w':=w) rfl]
  rw [zal (v:=((0,n,n):Nat×Nat×Nat)) (w':=w) (by rfl)]
  simp only []
  rw [zal (zqG ht.i)]
  simp [pure,Addr.add]
theorem zig {t k e:TypeId} {z:Operand} {zz:Value} {n:Nat} {ag:Bool} {b:Nat} {l:List (ByteArray×Value)} {s:ByteArray} {u:Value} (i:Nat) (hm:MT c.P t k e n ag zz) (hx:evo T x=some (.map (some b))) (hy:evo T y=some (.string s)) (hz:evo T z=some u) (hi:H[i]?=some (MapR b l)) (hn:mget l s=none)
  (kk:GK c ds (KL c ops p rest) T (H.set i (MapR b (l++[(s,u)])))):GK c ds (KL c ops p (⟨none,.insert t x y z,ty,ps,af,none⟩ :: rest)) T H:=by
 refine zjZ rfl (fun a w ha hw=>?_) kk
 obtain⟨B0,hB0,hA0⟩:=hw.has hi
 obtain⟨hBb,es,clock,hb,hes⟩:=hA0
 have hf:(Instr.findKey k (.string s) es.toList).run c.P w=.ok none w:=by
  unfold Instr.findKey
  rw [zal (zaU hm.k)]
  rcases zjS s es.toList l 0 hes with ⟨g1,_⟩ | ⟨j,v,_,g2⟩
  ·rw [g1]; rfl
  ·rw [g2] at hn; cases hn
 have hr:(Instr.mapUpdate t (.map (some b)) (.string s) u).run c.P w=.ok () (w.putObj b (.map (es.push { key:=.string s,val:=u,born:=clock }) (clock+1))):=by
  unfold Instr.mapUpdate
  rw [zal (zaU hm.u)]
  dsimp only
  rw [zal (zjt hb)]
  dsimp only
  rw [zal (zdZ hm.k _ s),zal hf]
  dsimp only
  simp [setObj,Sem.run,hb,World.putObj]
 unfold Yld
 have:(execOp a.eval ⟨none,.insert t x y z,ty,ps,af,none⟩).run c.P w=.ok .skip (w.putObj b (.map (es.push { key:=.string s,val:=u,born:=clock }) (clock+1))):=by
  simp only [execOp,ha.eval hx,ha.eval hy,ha.eval hz]
  rw [zal hr]
  rfl
 rw [this]
 refine hw.upd hi fun B hB hA=>⟨B,zj8 ((hA.1 b).2 rfl),fun k hk=>.inl hk,hA.1,es.push { key:=.string s,val:=u,born:=clock },clock+1,?_,?_⟩
 ·exact World.putObj_heap_same (hB0 b ((hBb b).2 rfl))
 ·simp [hes]
theorem zlo:∀ (pre cs vs:List Value),cs.length=vs.length→over (pre++cs) pre.length vs=pre++vs
 | pre,[],[],_=>rfl
 | pre,[],_ :: _,h=>by simp at h
 | pre,_ :: _,[],h=>by simp at h
 | pre,x :: cs,v :: vs,h=>by
  rw [over,List.set_append_right _ _ (Nat.le_refl _),Nat.sub_self]
  have:=zlo (pre++[v]) cs vs (by simpa using h)
  simpa using this
theorem zr2 {cs vs:List Value} (h:cs.length=vs.length):over cs 0 vs=vs:=zlo [] cs vs h
theorem zbz {t:TypeId} {gg:Bool} {k b:Nat} {z v:Value} {cs vs:List Value} {e:TypeId} (i:Nat) (ht:TF c.P t gg k z) (hx:evo T x=some (.pointer (some ⟨b,0,none⟩))) (hy:evo T y=some v)
  (hv:v.cells=vs.toArray) (hl:vs.length=k) (h1:vs.all zgS=true) (hi:H[i]?=some (Box b cs e)) (hc:cs.length=k)
  (kk:GK c ds (KL c ops p rest) T (H.set i (Box b vs e))):GK c ds (KL c ops p (⟨none,.store t x y,ty,ps,af,none⟩ :: rest)) T H:=
 zaA i ht hx hy hv hl h1 hi (by rw [hc,Nat.zero_add]; exact Nat.ble_self_eq_true k) (by rw [zr2 (by rw [hc,hl])]; exact kk)
theorem zpQ {t:TypeId} {v:Value} (hx:evo T x=some (.iface t v)) (k:GK c ds (fun a w=>p.pn a (thrC (.iface t v)) w) T H):GK c ds (KL c ops p (⟨d,.panic x,ty,ps,af,none⟩ :: rest)) T H:=by
 refine zk0 rfl rfl fun a w ha hw=>?_
 unfold YldT
 have:(execOp a.eval ⟨d,.panic x,ty,ps,af,none⟩).run c.P w=.halt (.panic (.iface t v)) w:=by
  simp only [execOp,ha.eval hx]
  rfl
 rw [this]
 exact k a w ha hw
end
def zvq (P:Program) (fn:Func) (c:Cx) (H':List Res):Post:=
 {nrm:=fun a w=>a.defers=[]∧(∃ v,(results fn a.tmps).run P w=.ok v w)∧Hp c.U c.w0 H' w,
  ret:=fun a w=>a.defers=[]∧(∃ v,(results fn a.tmps).run P w=.ok v w)∧Hp c.U c.w0 H' w,ex:=[] }
theorem zvZ {c:Cx} {T:List (Nat×Value)} {H:List Res} {fn:Func} {v:Value} (hv:RV c [] T H fn v) :
  GK c [] (fun a w=>a.defers=[]∧(∃ v,(results fn a.tmps).run c.P w=.ok v w)∧Hp c.U c.w0 H w) T H:=fun a w ha hw=>⟨ha.defers,⟨v,hv a w ha hw⟩,hw⟩
theorem zfR {c:Cx} {f:FuncId} {fn:Func} {id d:Nat} {ty:TypeId} {ps:String} {af:Array Edge} {rest:Code} {vs:List Value} {u u':FrameMode} {v:Value} {w:World} {H H':List Res} (hr:c.r=none)
  (hf:c.P.funcs[f]?=some fn) (hb:fn.body=some (.seq (.region id #[⟨some d,.call ⟨.builtin .recover,#[],#[]⟩,ty,ps,af,none⟩] false) rest)) (hn:fn.ntmps=c.n) (hl:vs.length≤c.n) (hd:d < c.n)
  (hrec:∀ (c₀:Frame) (cs:List Frame),c₀.mode=u→(recoverD (c₀ :: cs)=some (v,{ c₀ with mode:=u' } :: cs))∨(recoverD (c₀ :: cs)=none∧v=.nilIface∧u' = u))
  (hw:Hp c.U c.w0 H w) (h:GK c [] (KC c rest (zvq c.P fn c H')) ((d,v) :: idx 0 vs) H) :
  CallsDIn Fence.wide 0 c.P f vs.toArray u w (fun e u'' w'=>(∃ v,e=.returned v)∧u'' = u'∧Hp c.U c.w0 H' w'):=by
 refine callsDIn_of_wpSIn hf hb trivial ?_
 intro c₀ cs hu
 have hsat:Sat c.n (idx 0 vs) [] { tmps:=vs.toArray++Array.replicate (fn.ntmps - vs.toArray.size) undef,defers:=[] }:=by rw [hn]; exact zko hl
 refine wpSIn_seq (wpSIn_region ?_)
 have hex:∀ (a:Act),(execOp a.eval ⟨some d,.call ⟨.builtin .recover,#[],#[]⟩,ty,ps,af,none⟩).run c.P w=.ok .recover w:=fun a=>by
  simp only [execOp]
  rfl
 have hnext:∀ cs',cs' = { c₀ with mode:=u' } :: cs→∀ a,Sat c.n ((d,v) :: idx 0 vs) [] a→Exit.thenS (rest.wpSIn Fence.wide 0 c.P (bodyPostS c.P fn c₀ cs (fun e u'' w'=>(∃ v,e=.returned v)∧u'' = u'∧Hp c.U c.w0 H' w'))) (bodyPostS c.P fn c₀ cs (fun e u'' w'=>(∃ v,e=.returned v)∧u'' = u'∧Hp c.U c.w0 H' w')) .normal a cs' w:=by
  rintro cs' rfl a ha
  refine wpSIn_of_wpIn rfl ?_
  have h2:=h a w ha hw
  unfold KC at h2
  rw [hr] at h2
  refine Go.wpIn_mono h2 ?_
  intro e a' w' hq
  cases e with
  | normal=>obtain⟨h1,⟨v',h2⟩,h3⟩:=hq; exact⟨h1,u',rfl,v',h2,⟨_,rfl⟩,rfl,h3⟩
  | ret=>obtain⟨h1,⟨v',h2⟩,h3⟩:=hq; exact⟨h1,u',rfl,v',h2,⟨_,rfl⟩,rfl,h3⟩
  | exit id=>exact hq.elim
  | goto l=>exact hq.elim
  | panic ch=>exact hq.elim
  | outgrown=>exact hq.elim
 show wpOpsSIn _ _ _ _ _ [0] _ _ _
 simp only [wpOpsSIn]
 refine⟨fun _ _=>trivial,?_⟩
 simp only [Region.wanted]
 rcases hrec c₀ cs hu with h1 | ⟨h1,rfl,rfl⟩
 ·rw [h1]
  exact hnext _ rfl _ (hsat.put hd v)
 ·rw [h1]
  exact hnext _ (by subst hu; rfl) _ (hsat.put hd _)
theorem zkk (c₀:Frame) (cs:List Frame) (h:c₀.mode=.returning):recoverD (c₀ :: cs)=none:=by
 simp [recoverD,h]
theorem zor {v:Value} (c₀:Frame) (cs:List Frame) (h:c₀.mode=.panicking (thrC v)):recoverD (c₀ :: cs)=some (v,{ c₀ with mode:=.panicking [{ v:=v,recovered:=true }] } :: cs):=by
 simp [recoverD,h,thrC]
theorem zov {v:Value}:settle (.panicking [{ v:=v,recovered:=true }])=.returning:=rfl
end Go.K
namespace Go.K
open Go Go.RowKit Go.Shelf Go.Proofs
theorem zBV {c:Cx} {ds:List Deferred} {H:List Res} {T:List (Nat×Value)} {d:Option Nat} {ty:TypeId} {ps:String} {af:Array Edge} {g:Option (Nat×Bool)} {x:Operand} {t u t0:TypeId} {v z:Value} {ag:Bool} {k:Nat} (ht:IF c.P u) (hz:TF c.P u ag k z) (hne:t≠u) (hx:evo T x=some (.iface t v)) :
  Y c ds H T ⟨d,.typeAssert x t0 u true,ty,ps,af,g⟩ (.tuple #[z,.bool false]):=
 zcz fun A w ha _=>by
  simp only [execOp,ha.eval hx]
  refine zbu ?_
  obtain⟨d,hu,hd⟩:=ht
  have hzz:∀ w,(zeroValue u).run c.P w=.ok z w:=fun w=>TF.zero hz
  unfold Instr.typeAssert
  rw [zal (zaU hu)]
  cases d <;> first | exact absurd rfl (hd _) | (simp only [if_neg hne,if_true]; rw [zal (hzz _)]; rfl)
section
variable {P:Program} {ρ:Ren}
theorem zDY {w:World} {b:Nat} {T e:TypeId} {cs:Array Value} (hbk:w.heap[b]?=some (.cells #[.pointer (some ⟨b,0,none⟩),.slice none 0 0] T (0,0))) :
  Mod (· = b) w ((w.alloc (.cells cs e)).setCell ⟨b,1,none⟩ (.slice (some ⟨w.heap.size,0,none⟩) 0 cs.size)).drew.drew.drew ∧
   ∃ B',Own (· = b) B' w ((w.alloc (.cells cs e)).setCell ⟨b,1,none⟩ (.slice (some ⟨w.heap.size,0,none⟩) 0 cs.size)).drew.drew.drew ∧
    (Bld b T e []).A B' ((w.alloc (.cells cs e)).setCell ⟨b,1,none⟩ (.slice (some ⟨w.heap.size,0,none⟩) 0 cs.size)).drew.drew.drew:=by
 have hlt:b < w.heap.size:=by
  rcases Nat.lt_or_ge b w.heap.size with h' | h'
  ·exact h'
  ·simp [Array.getElem?_eq_none h'] at hbk
 have hb1:(w.alloc (.cells cs e)).heap[b]?=some (.cells #[.pointer (some ⟨b,0,none⟩),.slice none 0 0] T (0,0)):=(Lib.alloc_old w _ b hlt).trans hbk
 obtain⟨hm,hb2⟩:=zBZ (o:=1) (v:=.slice (some ⟨w.heap.size,0,none⟩) 0 cs.size) hb1
 have he:=zcG (w:=w) (.cells cs e)
 have hm2:=(he.mod (· = b)).trans hm
 generalize hW:(w.alloc (.cells cs e)).setCell ⟨b,1,none⟩ (.slice (some ⟨w.heap.size,0,none⟩) 0 cs.size)=W at *
 have hn:W.heap[w.heap.size]?=some (.cells cs e (0,0)):=by
  rw [hm.same w.heap.size (by simp) (by omega),show(w.alloc (.cells cs e)).heap=w.heap.push (.cells cs e) from rfl]
  simp
 have hsz:W.heap.size=w.heap.size+1:=by rw [←hW]; simp [World.setCell]
 refine⟨⟨hm2.os,⟨hm2.tape.eq,Nat.le_trans hm2.tape.le (by show W.drawn≤W.drawn+1+1+1; omega)⟩,hm2.output,hm2.size,hm2.same⟩,fun k=>k=b∨k=w.heap.size,fun k hk=>?_,?_⟩
 ·rcases hk with rfl | rfl
  ·exact .inl rfl
  ·exact .inr ⟨Nat.le_refl _,by show w.heap.size < W.heap.size; omega⟩
 ·refine⟨_,_,some ⟨w.heap.size,0,none⟩,cs.size,(· = w.heap.size),hb2,.inr rfl,rfl,.inr ⟨w.heap.size,0,cs.toList,rfl,fun _=>Iff.rfl,by rw [show W.drew.drew.drew.heap=W.heap from rfl,hn],Nat.zero_le _,by simp,by simp⟩,by omega,fun _=>Iff.rfl,fun x hx=>?_⟩
  cases hx; rfl
set_option maxHeartbeats 2000000 in
set_option maxRecDepth 1000000 in
theorem zEa (L:Lays.n241 P ρ) (X:Builder.Extra P ρ) (b n:Nat) (w:World) (hbk:w.heap[b]?=some (.cells #[.pointer (some ⟨b,0,none⟩),.slice none 0 0] (ρ.t 72) (0,0))) (hn:n≤281474976710656) :
  Calls P (ρ.f 241) #[.pointer (some ⟨b,0,none⟩),.int .i64 n] w fun e w'=>e=.returned (.tuple #[])∧Mod (· = b) w w'∧∃ B',Own (· = b) B' w w'∧(Bld b (ρ.t 72) (ρ.t 5) []).A B' w':=by
 obtain⟨cs,hrun,hle,hmax⟩:=Lib.run_makeNoZero (P:=P) w.drew #[(ρ.t 3)] (ρ.t 37) (ρ.t 5) L.t37 n hn
 have hw:IntKind.i64.wrap (IntKind.i64.wrap 0+(n:Int))=n:=by
  rw [IntKind.wrap_i64,IntKind.wrap_i64]
  omega
 have hcall:(callFunc (ρ.f 277) #[.int .i64 (IntKind.i64.wrap (IntKind.i64.wrap 0+(n:Int)))]).run P w.drew=.ok (.value (.slice (some ⟨w.drew.heap.size,0,none⟩) n cs.size)) (w.drew.drew.drew.alloc (.cells cs (ρ.t 5))):=by
  rw [hw,run_callFunc_extern L.f277 (by kernel_rfl) (by kernel_rfl) (by kernel_rfl) (e:=Extern.BytealgMakeNoZero.makeNoZero #[(ρ.t 3)] #[(ρ.t 37)]) (by kernel_rfl),hrun]
  rfl
 have c1:w.drew.cell? ⟨b,1,none⟩=some (.slice none 0 0):=by
  have:w.drew.heap[b]?=_:=hbk
  rw [Lib.cell_of_heap this]; rfl
 have c2:(w.alloc (.cells cs (ρ.t 5))).cell? ⟨b,1,none⟩=some (.slice none 0 0):=by
  have hlt:b < w.heap.size:=by
   rcases Nat.lt_or_ge b w.heap.size with h' | h'
   ·exact h'
   ·simp [Array.getElem?_eq_none h'] at hbk
  have:(w.alloc (.cells cs (ρ.t 5))).heap[b]?=_:=(Lib.alloc_old w _ b hlt).trans hbk
  rw [Lib.cell_of_heap this]; rfl
 have f2:(w.alloc (.cells cs (ρ.t 5))).frozen? ⟨b,1,none⟩=false:=by
  have hlt:b < w.heap.size:=by
   rcases Nat.lt_or_ge b w.heap.size with h' | h'
   ·exact h'
   ·simp [Array.getElem?_eq_none h'] at hbk
  exact Lib.frozen_of_heap ((Lib.alloc_old w _ b hlt).trans hbk) 1
 have hcopy:∀ W:World,(Builtin.copy_ #[(ρ.t 37),(ρ.t 37)] (ρ.t 3) #[.slice (some ⟨w.heap.size,0,none⟩) 0 cs.size,.slice none 0 0]).run P W=.ok (goInt 0) W:=
  fun W=>run_copy_none W (ρ.t 37) (ρ.t 37) (ρ.t 3) (ρ.t 5) _ _ 0 cs.size 0 0 L.t37 X.sizeByte rfl
 clear hw
 have mixed:=L.mixed
 have t72:=L.t72; have a72:=L.a72; have z72:=L.z72; have v72:=L.v72; have u72:=run_underlying L.t72
 have t70:=L.t70; have a70:=L.a70; have z70:=L.z70; have v70:=L.v70; have u70:=run_underlying L.t70
 have t37:=L.t37; have a37:=L.a37; have z37:=L.z37; have v37:=L.v37; have u37:=run_underlying L.t37
 have t3:=L.t3; have a3:=L.a3; have z3:=L.z3; have v3:=L.v3; have u3:=run_underlying L.t3
 have t5:=X.t5; have a5:=X.a5; have z5:=X.z5; have v5:=X.v5; have u5:=run_underlying X.t5
 go_enter L.f241,Body.n241_ntmps ρ
 go_wp2
 go_region_o
 all_goals (go_wp2; go_end0; exact⟨rfl,zDY hbk⟩)
set_option maxHeartbeats 2000000 in
set_option maxRecDepth 1000000 in
theorem zC8 (L:Lays.n165 P ρ) (X:Builder.Extra P ρ) {b n:Nat} {w:World} {B:Nat→Prop} (_:∀ k,B k→k < w.heap.size) (hA:(Box b [.pointer none,.slice none 0 0] (ρ.t 72)).A B w) (hn:n≤281474976710656) :
  Calls P (ρ.f 165) #[.pointer (some ⟨b,0,none⟩),.int .i64 n] w (zho (fun _:Unit=>.tuple #[]) (fun _=>Bld b (ρ.t 72) (ρ.t 5) []) (fun _=>True) B w):=by
 obtain⟨hB,hbk⟩:=hA
 have hbk:w.heap[b]?=some (.cells #[.pointer none,.slice none 0 0] (ρ.t 72) (0,0)):=hbk
 obtain rfl:B=(· = b):=funext fun k=>propext (hB k)
 obtain⟨hm0,hbk1⟩:=zBZ (o:=0) (v:=.pointer (some ⟨b,0,none⟩)) hbk
 have hbk1:(w.setCell ⟨b,0,none⟩ (.pointer (some ⟨b,0,none⟩))).heap[b]?=some (.cells #[.pointer (some ⟨b,0,none⟩),.slice none 0 0] (ρ.t 72) (0,0)):=hbk1
 have c1:(w.setCell ⟨b,0,none⟩ (.pointer (some ⟨b,0,none⟩))).cell? ⟨b,1,none⟩=some (.slice none 0 0):=by rw [Lib.cell_of_heap hbk1]; rfl
 have hmd:Mod (· = b) w (w.setCell ⟨b,0,none⟩ (.pointer (some ⟨b,0,none⟩))).drew:=⟨hm0.os,⟨hm0.tape.eq,Nat.le_trans hm0.tape.le (Nat.le_succ _)⟩,hm0.output,hm0.size,hm0.same⟩
 have hsz0:(w.setCell ⟨b,0,none⟩ (.pointer (some ⟨b,0,none⟩))).drew.heap.size=w.heap.size:=by simp [World.setCell]
 have hno:zho (fun _:Unit=>Value.tuple #[]) (fun _=>Bld b (ρ.t 72) (ρ.t 5) []) (fun _=>True) (· = b) w (.returned (.tuple #[])) (w.setCell ⟨b,0,none⟩ (.pointer (some ⟨b,0,none⟩))).drew:=
  ⟨(),(· = b),rfl,trivial,hmd,fun _ hk=>.inl hk,_,_,none,0,fun _=>False,hbk1,.inr rfl,rfl,.inl ⟨rfl,rfl,rfl⟩,id,fun _=>⟨fun h=>.inl h,fun h=>h.elim id False.elim⟩,fun x hx=>by cases hx⟩
 have mixed:=L.mixed
 have t72:=L.t72; have a72:=L.a72; have z72:=L.z72; have v72:=L.v72; have u72:=run_underlying L.t72
 have t70:=L.t70; have a70:=L.a70; have z70:=L.z70; have v70:=L.v70; have u70:=run_underlying L.t70
 have t37:=L.t37; have a37:=L.a37; have z37:=L.z37; have v37:=L.v37; have u37:=run_underlying L.t37
 have t3:=L.t3; have a3:=L.a3; have z3:=L.z3; have v3:=L.v3; have u3:=run_underlying L.t3
 have t9:=L.t9; have a9:=L.a9; have z9:=L.z9; have v9:=L.v9; have u9:=run_underlying L.t9
 have t4:=L.t4; have a4:=L.a4; have z4:=L.z4; have v4:=L.v4; have u4:=run_underlying L.t4
 have t164:=L.t164; have a164:=L.a164; have z164:=L.z164; have v164:=L.v164; have u164:=run_underlying L.t164
 have t5:=X.t5; have a5:=X.a5; have z5:=X.z5; have v5:=X.v5; have u5:=run_underlying X.t5
 have e240:∀ args w,(callFunc (ρ.f 240) args).run P w=.ok (.enter (ρ.f 240) args) w:=enters_of L.f240 (by kernel_rfl) rfl
 have e241:∀ args w,(callFunc (ρ.f 241) args).run P w=.ok (.enter (ρ.f 241) args) w:=enters_of L.f241 (by kernel_rfl) rfl
 go_enter L.f165,Body.n165_ntmps ρ
 have c1':(w.setCell ⟨b,0,none⟩ (.pointer (some ⟨b,0,none⟩))).drew.cell? ⟨b,1,none⟩=some (.slice none 0 0):=c1
 go_wp2_with (go_at_fn (ρ.f 240); refine(Any.Builder_copyCheck_fresh { L with } X.toX72 b w (by rw [Lib.cell_of_heap hbk]; rfl) (by simp [World.shape?,hbk]) (Lib.frozen_of_heap hbk 0)).mono ?_; rintro e w' ⟨rfl,rfl⟩)
 go_region_o
 all_goals go_wp2_with (go_at_fn (ρ.f 241); refine(zEa { L with } X b n (w.setCell ⟨b,0,none⟩ (.pointer (some ⟨b,0,none⟩))).drew hbk1 hn).mono ?_; rintro e w' ⟨rfl,hm,B',ho,hA⟩)
 all_goals first
  | (go_end0; exact⟨(),B',rfl,trivial,hmd.trans hm,fun k hk=>(ho k hk).imp id (fun h=>by rw [hsz0] at h; exact h),hA⟩)
  | (go_end0; exact hno)
end
end Go.K
namespace Go.Stn
open Go Go.K Go.RowKit
abbrev W (n:Int):Int:=IntKind.i64.wrap n
structure Pt where
 x:Int
 z:Int
 deriving Inhabited,DecidableEq
abbrev ptV (p:Pt):Value:=.agg #[.int .i64 p.x,.int .i64 p.z]
abbrev encI (n:Int):List Value:=[.int .i64 n]
abbrev Ints (a:Option Addr) (l:List Int):Res:=zaW a 1 encI l
theorem encI_ok:Enc 1 encI:=⟨fun _=>rfl,fun _=>rfl,by decide⟩
abbrev Small (n:Nat):Prop:=n≤1099511627776
abbrev Fits (n:Nat):Prop:=n≤140737488355328
def zee (s:ByteArray) (i:Int):Int:=((s[i.toNat]?.getD 0).toNat:Int)
def cmpI (x y:Int):Int:=if x < y then -1 else if y < x then 1 else 0
def subW (p q:Pt):Pt:=⟨W (p.x - q.x),W (p.z - q.z)⟩
def zi9 (p q:Pt):Int:=W (W (p.x*q.z) - W (p.z*q.x))
def dotW (p q:Pt):Int:=W (W (p.x*q.x)+W (p.z*q.z))
def zoB (p q r:Pt):Int:=zi9 (subW q p) (subW r q)
def zg4 (p q r:Pt):Int:=W (W (W (q.x - p.x)*W (r.z - p.z)) - W (W (q.z - p.z)*W (r.x - p.x)))
def allI (n:Nat) (p:Nat→Bool):Bool:=(List.range n).all p
theorem zdf {n:Nat} {p:Nat→Bool}:allI n p=true↔∀ i,i < n→p i=true:=by simp [allI]
theorem zdN {n:Nat} {p:Nat→Bool} (h:∀ i,i < n→p i=true):allI n p=true:=zdf.2 h
theorem zc9 {n i:Nat} {p:Nat→Bool} (hi:i < n) (h:p i=false):allI n p=false:=by
 cases hb:allI n p with
 | false=>rfl
 | true=>rw [zdf.1 hb i hi] at h; cases h
def orI:List Int→Int
 | []=>0
 | x :: r=>if x≠0 then x else orI r
def zs1 (p q:Pt):Int:=orI [cmpI p.z q.z,cmpI p.x q.x]
def atL (l:List Pt) (i:Int):Pt:=l.getD ((i+(l.length:Int)).tmod (l.length:Int)).toNat default
def zj9 (l:List Pt) (i:Int):Pt:=l.getD ((i+1).tmod (l.length:Int)).toNat default
def ptAt (l:List Pt) (i:Int):Pt:=l.getD i.toNat default
def zsZ (l:List Pt):Pt:=l.foldl (fun o p=>⟨min o.x p.x,min o.z p.z⟩) (l.getD 0 default)
theorem ziI {α:Type} [Inhabited α] {l:List α} {i:Int} (h0:0≤i) (h1:i < (l.length:Int)):l.take (i+1).toNat=l.take i.toNat++[l.getD i.toNat default]:=by
 have hlt:i.toNat < l.length:=by omega
 rw [show(i+1).toNat=i.toNat+1 from by omega,List.take_add_one]
 simp [hlt]
theorem zsm {α:Type} {l:List α} {i:Int} (h:(l.length:Int)≤i):l.take i.toNat=l:=List.take_of_length_le (by omega)
def zbJ {α:Type} (p:α→Bool) (l:List α):Int:=if l.any p=true then(l.findIdx p:Int) else -1
theorem zcs {α:Type} [Inhabited α] {p:α→Bool} {l:List α} {i:Int} (h0:0≤i) (h1:i < (l.length:Int)) (ha:∀ j:Nat,(j:Int) < i→p (l.getD j default)=false) (hp:p (l.getD i.toNat default)=true):zbJ p l=i:=by
 have hlt:i.toNat < l.length:=by omega
 have hp':p l[i.toNat]=true:=by simpa [hlt] using hp
 have hany:l.any p=true:=List.any_eq_true.2 ⟨l[i.toNat],List.getElem_mem hlt,hp'⟩
 have hidx:l.findIdx p=i.toNat:=(List.findIdx_eq hlt).2 ⟨hp',fun j hj=>by
  have:=ha j (by omega)
  have hj':j < l.length:=by omega
  simpa [hj'] using this⟩
 rw [zbJ,if_pos hany,hidx]
 omega
theorem zck {α:Type} [Inhabited α] {p:α→Bool} {l:List α} (ha:∀ j:Nat,j < l.length→p (l.getD j default)=false):zbJ p l = -1:=by
 have:¬ l.any p=true:=fun h=>by
  obtain⟨x,hx,hp⟩:=List.any_eq_true.1 h
  obtain⟨j,hj,rfl⟩:=List.getElem_of_mem hx
  have:=ha j hj
  simp [hj,hp] at this
 rw [zbJ,if_neg this]
theorem ze9 {α:Type} (p:α→Bool) (l:List α):decide (0≤zbJ p l)=l.any p:=by
 unfold zbJ
 cases h:l.any p with
 | true=>simp
 | false=>simp
def minF {α:Type} [Inhabited α] (f:α→α→Int) (l:List α):α:=(l.drop 1).foldl (fun m p=>if f p m < 0 then p else m) (l.getD 0 default)
def cvx1 (l:List Pt) (i:Int):Bool:=decide (0 < zoB (atL l (i - 1)) (ptAt l i) (atL l (i+1)))
def cvx2 (l:List Pt) (i k:Int):Bool:=decide (0 < zoB (ptAt l i) (atL l (i+1)) (atL l (i+k)))
def cvxI (l:List Pt) (i:Int):Bool:=cvx1 l i&&allI (l.length - 3) fun k=>cvx2 l i (k+2:Nat)
def zo8 (l:List Pt):Bool:=(decide (3≤(l.length:Int))&&decide ((l.length:Int)≤12))&&allI l.length fun i=>cvxI l i
def farB (p:Pt):Bool:=!(decide (0≤p.x)&&decide (p.x≤2000))||!(decide (0≤p.z)&&decide (p.z≤2000))
def zmu (l:List Pt):Bool:=!(l.any farB||!zo8 l)&&((decide ((zsZ l).x=0)&&decide ((zsZ l).z=0))&&(decide ((minF zs1 l).x=(l.getD 0 default).x)&&decide ((minF zs1 l).z=(l.getD 0 default).z)))
theorem zlW {l:List Pt} (h:zo8 l=true):3≤l.length∧l.length≤12:=by
 rw [zo8,Bool.and_eq_true,Bool.and_eq_true,decide_eq_true_eq,decide_eq_true_eq] at h
 omega
def zdj (l:List Pt):List (Pt×Pt):=(List.range l.length).map fun(i:Nat)=>(ptAt l (i:Int),atL l ((i:Int)+1))
theorem zjd (l:List Pt):(zdj l).length=l.length:=by simp [zdj]
theorem decode_low {s:ByteArray} {i:Nat} (h:(s.get! i).toNat < 128):Utf8.decode s i=((s.get! i).toNat,1):=by
 unfold Utf8.decode
 simp only [Nat.add_zero]
 rw [if_pos h]
theorem decode_high {s:ByteArray} {i:Nat} (h:¬ (s.get! i).toNat < 128):128≤(Utf8.decode s i).1∧1≤(Utf8.decode s i).2:=by
 unfold Utf8.decode
 simp only [Nat.add_zero]
 rw [if_neg h]
 simp only [Utf8.runeError]
 repeat' split
 all_goals simp_all
 all_goals omega
theorem zjc (s:ByteArray) (i:Nat):1≤(Utf8.decode s i).2:=by
 by_cases h:(s.get! i).toNat < 128
 ·rw [decode_low h]; exact Nat.le_refl _
 ·exact(decode_high h).2
def zcj (f:Int→Bool) (s:ByteArray) (p:Nat):Int:=
 if h:p < s.size then(if f ((Utf8.decode s p).1:Int)=true then(p:Int) else zcj f s (p+(Utf8.decode s p).2)) else -1
termination_by s.size - p
decreasing_by have:=zjc s p; omega
theorem zdW {f:Int→Bool} {s:ByteArray} {p:Nat} (h:p < s.size) (hf:f ((Utf8.decode s p).1:Int)=true):zcj f s p=p:=by rw [zcj,dif_pos h,if_pos hf]
theorem zfj {f:Int→Bool} {s:ByteArray} {p:Nat} (h:p < s.size) (hf:f ((Utf8.decode s p).1:Int)=false):zcj f s p=zcj f s (p+(Utf8.decode s p).2):=by
 conv=>lhs; rw [zcj,dif_pos h,if_neg (by rw [hf]; exact Bool.false_ne_true)]
theorem zf5 {f:Int→Bool} {s:ByteArray} {p:Nat} (h:¬ p < s.size):zcj f s p = -1:=by rw [zcj,dif_neg h]
def oddR (r:Int):Bool:=!(decide (97≤r)&&decide (r≤122))&&!(decide (48≤r)&&decide (r≤57))
def oddB (b:Int):Bool:=(decide (b < 97)||decide (122 < b))&&(decide (b < 48)||decide (57 < b))
def zgx (s:ByteArray):Bool:=(decide (1≤(s.size:Int))&&decide ((s.size:Int)≤16))&&!decide (0≤zcj oddR s 0)
def zdY (s:ByteArray):Bool:=allI s.size (fun i=>!oddB (zee s i))&&(decide (1≤(s.size:Int))&&decide ((s.size:Int)≤16))
theorem zqB {s:ByteArray} {i:Int} (h0:0≤i) (h1:i < (s.size:Int)) (h:oddB (zee s i)=true):zdY s=false:=by
 rw [zdY,zc9 (i:=i.toNat) (by omega) (by rw [show((i.toNat:Nat):Int)=i from by omega,h]; rfl)]; rfl
theorem zos {s:ByteArray} {i:Int} (h:∀ j:Nat,(j:Int) < i→oddB (zee s j)=false) (hi:(s.size:Int)≤i):zdY s=(decide (1≤(s.size:Int))&&decide ((s.size:Int)≤16)):=by
 rw [zdY,zdN (fun j hj=>by rw [h j (by omega)]; rfl)]; rfl
structure Stn where
 name:ByteArray
 shape:List Pt
 depth:Int
 density:Int
 grain:Pt
 deriving DecidableEq
def zwt (s:Stn):Bool:=(((!(decide (s.grain.x=0)&&decide (s.grain.z=0)))&&(decide (-100≤s.grain.x)&&decide (s.grain.x≤100)))&&(decide (-100≤s.grain.z)&&decide (s.grain.z≤100)))
def badB (s:Stn):Bool:=((((!zgx s.name||!zmu s.shape)||!(decide (1≤s.depth)&&decide (s.depth≤2000)))||!(decide (1≤s.density)&&decide (s.density≤10000)))||!zwt s)
def zmZ (s:Stn):Int:=if badB s=true then 2 else 0
end Go.Stn
namespace Go.Stn
open Go Go.K Go.RowKit
def Near (l:List Pt):Prop:=∀ p∈l,farB p=false
abbrev zwa (p:Pt):List Value:=[ptV p]
theorem znD (l:List Pt):∀ a∈l.map zwa,a.length=1:=fun a ha=>by
 obtain⟨e,_,rfl⟩:=List.mem_map.1 ha; rfl
theorem znC {l:List Pt} {n:Nat} {args:List Value} (h:(l.map zwa)[n]?=some args):∃ p,l[n]?=some p∧args=[ptV p]:=by
 rw [List.getElem?_map] at h
 cases he:l[n]? with
 | none=>rw [he] at h; cases h
 | some e=>rw [he] at h; exact⟨e,rfl,by simpa using h.symm⟩
theorem zoa {s:Stn} (h:zmZ s=0):badB s=false:=by
 unfold zmZ at h
 cases hb:badB s with
 | false=>rfl
 | true=>rw [hb] at h; simp at h
theorem zkG {s:Stn} (h:zmZ s=0):zmu s.shape=true:=by
 have:=zoa h
 unfold badB at this
 simp only [Bool.or_eq_false_iff,Bool.not_eq_false'] at this
 exact this.1.1.1.2
theorem zmv {l:List Pt} (h:zmu l=true):Near l∧3≤l.length∧l.length≤12:=by
 unfold zmu at h
 rw [Bool.and_eq_true,Bool.not_eq_true',Bool.or_eq_false_iff,Bool.not_eq_false'] at h
 refine⟨fun p hp=>?_,zlW h.1.2⟩
 cases hf:farB p with
 | false=>rfl
 | true=>have:=h.1.1; rw [List.any_eq_true.2 ⟨p,hp,hf⟩] at this; cases this
theorem zC4 {s:Stn} (h:zmZ s=0):Near s.shape:=(zmv (zkG h)).1
theorem zhM {s:Stn} (h:zmZ s=0):3≤s.shape.length∧s.shape.length≤12:=(zmv (zkG h)).2
structure Sli where
 a:Option Addr
 cap:Nat
 l:List Pt
instance:Inhabited Sli:=⟨⟨none,0,[]⟩⟩
def eqB (v p:Pt):Bool:=decide (v.x=p.x)&&decide (v.z=p.z)
theorem zpn {v p:Pt}:eqB v p=true↔v=p:=by
 unfold eqB
 cases v; cases p
 simp
end Go.Stn
namespace Go.Stn
open Go Go.K Go.RowKit
theorem W_in {n:Int} (h1:-9223372036854775808≤n) (h2:n≤9223372036854775807):W n=n:=zeA h1 h2
theorem zeV {s:ByteArray} {p:Nat} (h:p < s.size):zee s (p:Int)=((s.get! p).toNat:Int):=by
 unfold zee
 have h1:s[((p:Nat):Int).toNat]?=some (s[p]'h):=by
  rw [show((p:Nat):Int).toNat=p from by omega]
  exact getElem?_pos s p h
 rw [h1]
 simp only [Option.getD_some]
 have h2:s.get! p=s[p]'h:=by
  cases s with
  | mk d=>
   simp only [ByteArray.get!]
   exact getElem!_pos d p h
 rw [h2]
theorem zqf {n:Nat}:oddR (n:Int)=oddB (n:Int):=by
 unfold oddR oddB
 rw [Bool.eq_iff_iff]
 simp <;> omega
theorem znB {n:Int} (h:128≤n):oddR n=true∧oddB n=true:=by
 unfold oddR oddB
 simp
 omega
theorem zmf (s:ByteArray):∀ (m p:Nat),s.size - p=m→(0≤zcj oddR s p↔∃ j,p≤j∧j < s.size∧oddB (zee s (j:Nat))=true):=by
 intro m
 induction m using Nat.strongRecOn with
 | _ m ih=>
  intro p hm
  by_cases hp:p < s.size
  ·by_cases hlow:(s.get! p).toNat < 128
   ·have hd:=decode_low hlow
    have hb:=zeV hp
    cases ho:oddB (zee s (p:Int)) with
    | true=>
     rw [zdW hp (by rw [hd]; rw [hb] at ho; rw [zqf]; exact ho)]
     exact⟨fun _=>⟨p,Nat.le_refl _,hp,ho⟩,fun _=>by omega⟩
    | false=>
     rw [zfj hp (by rw [hd]; rw [hb] at ho; rw [zqf]; exact ho),hd]
     rw [ih (s.size - (p+1)) (by omega) (p+1) rfl]
     constructor
     ·rintro ⟨j,h1,h2,h3⟩; exact⟨j,by omega,h2,h3⟩
     ·rintro ⟨j,h1,h2,h3⟩
      refine⟨j,?_,h2,h3⟩
      by_cases hj:j=p
      ·subst hj; rw [ho] at h3; cases h3
      ·omega
   ·have hd:=decode_high hlow
    rw [zdW hp (znB (by omega)).1]
    refine⟨fun _=>⟨p,Nat.le_refl _,hp,?_⟩,fun _=>by omega⟩
    rw [zeV hp]
    exact(znB (by omega)).2
  ·rw [zf5 hp]
   refine⟨fun h=>by omega,?_⟩
   rintro ⟨j,h1,h2,_⟩; omega
theorem znv (s:ByteArray):zgx s=zdY s:=by
 unfold zgx zdY
 have h:=zmf s s.size 0 (by omega)
 have:(!decide (0≤zcj oddR s 0))=allI s.size (fun i=>!oddB (zee s i)):=by
  rw [Bool.eq_iff_iff,zdf]
  simp only [Bool.not_eq_true',decide_eq_false_iff_not,h]
  constructor
  ·intro hn i hi
   cases ho:oddB (zee s (i:Int)) with
   | false=>rfl
   | true=>exact absurd ⟨i,Nat.zero_le _,hi,ho⟩ hn
  ·rintro ha ⟨j,_,h2,h3⟩
   have:=ha j h2
   rw [h3] at this; cases this
 rw [this,Bool.and_comm]
def inR (b:Int) (p:Pt):Prop:=-b≤p.x∧p.x≤b∧-b≤p.z∧p.z≤b
theorem zc7 {a b m n:Int} (h1:-m≤a) (h2:a≤m) (h3:-n≤b) (h4:b≤n):-(m*n)≤a*b∧a*b≤m*n:=by
 have hm:0≤m:=by omega
 have hn:0≤n:=by omega
 have h:a.natAbs*b.natAbs≤m.natAbs*n.natAbs:=Nat.mul_le_mul (by omega) (by omega)
 have e1:((a*b).natAbs:Int)≤m*n:=by
  rw [Int.natAbs_mul]
  have:((m.natAbs*n.natAbs:Nat):Int)=m*n:=by rw [Int.natCast_mul,Int.natAbs_of_nonneg hm,Int.natAbs_of_nonneg hn]
  omega
 omega
def subZ (p q:Pt):Pt:=⟨p.x - q.x,p.z - q.z⟩
def zja (p q:Pt):Int:=p.x*q.z - p.z*q.x
def dotZ (p q:Pt):Int:=p.x*q.x+p.z*q.z
def zbs (p q r:Pt):Int:=(q.x - p.x)*(r.z - p.z) - (q.z - p.z)*(r.x - p.x)
theorem zks {p q:Pt} {b:Int} (hb:b≤1000000000) (hp:inR b p) (hq:inR b q):subW p q=subZ p q:=by
 unfold inR at hp hq
 unfold subW subZ
 rw [W_in (by omega) (by omega),W_in (by omega) (by omega)]
theorem zkt {p q:Pt} {b:Int} (hp:inR b p) (hq:inR b q):inR (b+b) (subZ p q):=by
 unfold inR subZ at *
 dsimp only
 omega
theorem zkM {p q:Pt} {b c:Int} (hb:b≤1000000000) (hc:c≤1000000000) (hp:inR b p) (hq:inR c q):zi9 p q=zja p q:=by
 unfold inR at hp hq
 obtain⟨a1,a2⟩:=zc7 hp.1 hp.2.1 hq.2.2.1 hq.2.2.2
 obtain⟨a3,a4⟩:=zc7 hp.2.2.1 hp.2.2.2 hq.1 hq.2.1
 have hm:b*c≤1000000000*1000000000:=Int.mul_le_mul hb hc (by omega) (by omega)
 unfold zi9 zja
 rw [W_in (n:=p.x*q.z) (by omega) (by omega),W_in (n:=p.z*q.x) (by omega) (by omega),W_in (by omega) (by omega)]
theorem zl0 {p q:Pt} {b c:Int} (hb:b≤1000000000) (hc:c≤1000000000) (hp:inR b p) (hq:inR c q):dotW p q=dotZ p q:=by
 unfold inR at hp hq
 obtain⟨a1,a2⟩:=zc7 hp.1 hp.2.1 hq.1 hq.2.1
 obtain⟨a3,a4⟩:=zc7 hp.2.2.1 hp.2.2.2 hq.2.2.1 hq.2.2.2
 have hm:b*c≤1000000000*1000000000:=Int.mul_le_mul hb hc (by omega) (by omega)
 unfold dotW dotZ
 rw [W_in (n:=p.x*q.x) (by omega) (by omega),W_in (n:=p.z*q.z) (by omega) (by omega),W_in (by omega) (by omega)]
theorem zqU (p q r:Pt):zja (subZ q p) (subZ r q)=zbs p q r:=by
 unfold zja subZ zbs
 dsimp only
 grind
theorem znY {p q r:Pt} {b:Int} (hb:b≤100000000) (hp:inR b p) (hq:inR b q) (hr:inR b r):zoB p q r=zbs p q r:=by
 unfold zoB
 rw [zks (by omega) hq hp,zks (by omega) hr hq,zkM (b:=b+b) (c:=b+b) (by omega) (by omega) (zkt hq hp) (zkt hr hq),zqU]
theorem znS {p q r:Pt} {b:Int} (hb:b≤100000000) (hp:inR b p) (hq:inR b q) (hr:inR b r):zg4 p q r=zbs p q r:=by
 unfold inR at hp hq hr
 unfold zg4 zbs
 have e1:W (q.x - p.x)=q.x - p.x:=W_in (by omega) (by omega)
 have e2:W (r.z - p.z)=r.z - p.z:=W_in (by omega) (by omega)
 have e3:W (q.z - p.z)=q.z - p.z:=W_in (by omega) (by omega)
 have e4:W (r.x - p.x)=r.x - p.x:=W_in (by omega) (by omega)
 rw [e1,e2,e3,e4]
 obtain⟨a1,a2⟩:=zc7 (a:=q.x - p.x) (b:=r.z - p.z) (m:=b+b) (n:=b+b) (by omega) (by omega) (by omega) (by omega)
 obtain⟨a3,a4⟩:=zc7 (a:=q.z - p.z) (b:=r.x - p.x) (m:=b+b) (n:=b+b) (by omega) (by omega) (by omega) (by omega)
 have hm:(b+b)*(b+b)≤200000000*200000000:=Int.mul_le_mul (by omega) (by omega) (by omega) (by omega)
 rw [W_in (n:=(q.x - p.x)*(r.z - p.z)) (by omega) (by omega),W_in (n:=(q.z - p.z)*(r.x - p.x)) (by omega) (by omega),W_in (by omega) (by omega)]
theorem zhD (p q r:Pt):zbs p q r=zbs q r p:=by
 unfold zbs
 grind
theorem zeQ {p:Pt} (h:farB p=false):0≤p.x∧p.x≤2000∧0≤p.z∧p.z≤2000:=by
 unfold farB at h
 simp at h
 omega
theorem near {l:List Pt} (h:l.any farB=false) {p:Pt} (hp:p∈l):farB p=false:=by
 cases hf:farB p with
 | false=>rfl
 | true=>rw [List.any_eq_true.2 ⟨p,hp,hf⟩] at h; cases h
def cor (l:List Pt) (i:Nat):Pt:=l.getD (i % l.length) default
theorem ztw {l:List Pt} (h:0 < l.length) (i:Nat):cor l i∈l:=by
 have:i % l.length < l.length:=Nat.mod_lt _ h
 unfold cor
 simp [this]
theorem zoU {l:List Pt} {i:Int} {n:Nat} (h:i+(l.length:Int)=(n:Int)):atL l i=cor l n:=by
 unfold atL cor
 rw [h]
 rfl
theorem zqc {l:List Pt} (i:Nat):zj9 l (i:Int)=cor l (i+1):=by
 unfold zj9 cor
 rfl
theorem zgC {l:List Pt} {i:Nat} (h:i < l.length):ptAt l (i:Int)=cor l i:=by
 unfold ptAt cor
 rw [Nat.mod_eq_of_lt h]
 rfl
theorem ze0 {l:List Pt} (i:Nat):cor l (i+l.length)=cor l i:=by
 unfold cor
 rw [Nat.add_mod_right]
def Cvx (l:List Pt):Prop:=∀ i k,i < l.length→2≤k→k < l.length→0 < zbs (cor l i) (cor l (i+1)) (cor l (i+k))
theorem zD8 {l:List Pt} (hf:l.any farB=false) (h:0 < l.length) (i:Nat):inR 2000 (cor l i):=by
 have:=zeQ (near hf (ztw h i))
 unfold inR
 omega
theorem zC5 {l:List Pt} (hf:l.any farB=false) (h3:3≤l.length) (h12:l.length≤12):zo8 l=true↔Cvx l:=by
 have hin:=zD8 hf (by omega)
 have e1:∀ i:Nat,i < l.length→cvx1 l i=decide (0 < zbs (cor l (i+(l.length - 1))) (cor l i) (cor l (i+1))):=fun i hi=>by
  unfold cvx1
  rw [zoU (n:=i+(l.length - 1)) (by omega),zgC hi,zoU (i:=(i:Int)+1) (n:=i+1+l.length) (by omega),ze0]
  rw [znY (b:=2000) (by omega) (hin _) (hin _) (hin _)]
 have e2:∀ i k:Nat,i < l.length→cvx2 l i (k:Nat)=decide (0 < zbs (cor l i) (cor l (i+1)) (cor l (i+k))):=fun i k hi=>by
  unfold cvx2
  rw [zgC hi,zoU (i:=(i:Int)+1) (n:=i+1+l.length) (by omega),zoU (n:=i+k+l.length) (by omega),ze0,ze0]
  rw [znY (b:=2000) (by omega) (hin _) (hin _) (hin _)]
 unfold zo8
 rw [decide_eq_true (by omega),decide_eq_true (by omega),Bool.and_self,Bool.true_and,zdf]
 constructor
 ·intro h i k hi hk2 hk
  have hi2:=h i hi
  unfold cvxI at hi2
  rw [Bool.and_eq_true,zdf] at hi2
  by_cases hkn:k=l.length - 1
  ·have:=hi2.1
   rw [e1 i hi,decide_eq_true_eq,zhD] at this
   rw [hkn]
   exact this
  ·have:=hi2.2 (k - 2) (by omega)
   rw [show k - 2+2=k from by omega,e2 i k hi,decide_eq_true_eq] at this
   exact this
 ·intro h i hi
  unfold cvxI
  rw [Bool.and_eq_true,zdf]
  refine⟨?_,fun k hk=>?_⟩
  ·rw [e1 i hi,decide_eq_true_eq,zhD]
   exact h i (l.length - 1) hi (by omega) (by omega)
  ·rw [e2 i (k+2) hi,decide_eq_true_eq]
   exact h i (k+2) hi (by omega) (by omega)
def Lo (p q:Pt):Prop:=p.z < q.z∨(p.z=q.z∧p.x < q.x)
instance (p q:Pt):Decidable (Lo p q):=by unfold Lo; exact inferInstance
theorem Lo.trans {p q r:Pt} (h:Lo p q) (k:Lo q r):Lo p r:=by
 unfold Lo at *; omega
end Go.Stn
namespace Go.Stn
open Go Go.K Go.RowKit
theorem zC2 {o m:List Pt} {g:Pt→Pt} {i:Int} (h0:0≤i) (h1:i < (o.length:Int)) (hm:m=(o.take i.toNat).map g++o.drop i.toNat):m.set i.toNat (g (m.getD i.toNat default))=(o.take (i+1).toNat).map g++o.drop (i+1).toNat:=by
 have hlt:i.toNat < o.length:=by omega
 have hl:((o.take i.toNat).map g).length=i.toNat:=by simp; omega
 have hget:m.getD i.toNat default=o[i.toNat]:=by
  rw [hm,List.getD_eq_getElem?_getD,List.getElem?_append_right (by omega),hl,Nat.sub_self,List.getElem?_drop]
  simp [hlt]
 rw [hget,hm,List.set_append_right _ _ (by omega),hl,Nat.sub_self,show(i+1).toNat=i.toNat+1 from by omega,List.drop_eq_getElem_cons hlt,List.set_cons_zero,List.take_add_one,show o[i.toNat]?.toList=[o[i.toNat]] from by simp [hlt],List.map_append]
 simp only [List.map_cons,List.map_nil,List.append_assoc,List.cons_append,List.nil_append]
def onE (x:Pt) (e:Pt×Pt):Bool:=((decide (zi9 (subW e.2 e.1) (subW x e.1)=0)&&decide (0≤dotW (subW x e.1) (subW e.2 e.1)))&&decide (dotW (subW x e.1) (subW x e.1) < dotW (subW e.2 e.1) (subW e.2 e.1)))
def zdw (l:List Pt) (x:Pt):Int:=if farB x=true then -1 else zbJ (onE x) (zdj l)
theorem zro {α:Type} {p:α→Bool} {l:List α} {n:Nat} {e:α} (he:l[n]?=some e) (ha:∀ j x,j < n→l[j]?=some x→p x=false) (hp:p e=true):zbJ p l=(n:Int):=by
 have hlt:n < l.length:=(List.getElem?_eq_some_iff.1 he).1
 have hle:l[n]=e:=(List.getElem?_eq_some_iff.1 he).2
 have hany:l.any p=true:=List.any_eq_true.2 ⟨l[n],List.getElem_mem hlt,by rw [hle]; exact hp⟩
 have hidx:l.findIdx p=n:=(List.findIdx_eq hlt).2 ⟨by rw [hle]; exact hp,fun j hj=>ha j _ hj (by simp)⟩
 rw [zbJ,if_pos hany,hidx]
theorem ztE {l:List Pt} {x:Pt}:zdw l x < (l.length:Int)∧-1≤zdw l x:=by
 unfold zdw
 split
 ·omega
 ·unfold zbJ
  split
  ·rename_i h
   have:(zdj l).findIdx (onE x) < (zdj l).length:=List.findIdx_lt_length_of_exists (by simpa using h)
   rw [zjd] at this
   omega
  ·omega
def zto (p q:Pt) (e:Pt×Pt):Bool:=decide (zoB e.1 e.2 p=0)&&decide (zoB e.1 e.2 q=0)
def zhI (l:List Pt) (p q:Pt):Bool:=!(zdj l).any (zto p q)
def znL (l:List Pt) (q:Pt):Nat→Int→List Pt
 | 0,_=>[q]
 | k+1,i=>if eqB (atL l i) q=true then [q] else atL l i :: znL l q k (i+1)
def zqA (l:List Pt) (p q:Pt):Nat:=if zdw l p≤zdw l q then(zdw l q - zdw l p).toNat else(zdw l q - zdw l p+(l.length:Int)).toNat
def zqz (l:List Pt) (p q:Pt):List Pt:=p :: znL l q (zqA l p q) (zdw l p+1)
end Go.Stn
namespace Go.Stn
open Go Go.K Go.RowKit
def outB (s:Stn) (p:Pt) (t:Int) (q:Pt):Bool:=zhI s.shape p q&&decide (W (100*max (zi9 (subW q p) s.grain) (W (-(zi9 (subW q p) s.grain))))≤W (t*max (dotW (subW q p) s.grain) (W (-(dotW (subW q p) s.grain)))))
theorem findI_lt {α:Type} (p:α→Bool) {l:List α} (h:0≤zbJ p l):zbJ p l < (l.length:Int):=by
 unfold zbJ at *
 split at h
 ·rename_i h1
  rw [if_pos h1]
  have:l.findIdx p < l.length:=List.findIdx_lt_length_of_exists (by simpa using h1)
  omega
 ·omega
end Go.Stn
namespace Go.Stn
open Go Go.K Go.RowKit
structure SC where
 s:Stn
 a:Option Addr
 cap:Nat
instance:Inhabited SC:=⟨⟨⟨⟨#[]⟩,[],0,0,⟨0,0⟩⟩,none,0⟩⟩
end Go.Stn
namespace Go.Stn
open Go Go.K Go.RowKit
def ronB (a b p:Pt):Bool:=(decide (zg4 a b p=0)&&(decide (min a.x b.x≤p.x)&&decide (p.x≤max a.x b.x)))&&(decide (min a.z b.z≤p.z)&&decide (p.z≤max a.z b.z))
def zqu (l:List Pt) (p:Pt) (n:Nat):Bool:=!allI n fun i=>!ronB (ptAt l i) (zj9 l i) p
def znJ (l:List Pt) (p:Pt):Bool:=!farB p&&zqu l p l.length
def zuC (l:List Pt) (p q:Pt) (i:Int):Bool:=ronB (ptAt l i) (zj9 l i) p&&ronB (ptAt l i) (zj9 l i) q
def zmx (l:List Pt) (p q:Pt):Bool:=allI l.length fun i=>!zuC l p q i
theorem zqv {l:List Pt} {p:Pt} {i:Int} (hf:farB p=false) (h0:0≤i) (h1:i < (l.length:Int)) (h:ronB (ptAt l i) (zj9 l i) p=true):znJ l p=true:=by
 rw [znJ,hf,zqu,zc9 (i:=i.toNat) (by omega) (by rw [show((i.toNat:Nat):Int)=i from by omega,h]; rfl)]; rfl
def zt9 (l:List Pt) (p q:Pt) (i:Int):Bool:=decide (0 < zg4 p q (ptAt l i))&&decide (zg4 p q (ptAt l ((i+(l.length:Int) - 1).tmod (l.length:Int)))≤0)
def zpJ (l:List Pt) (p q:Pt):Nat→Int
 | 0=>0
 | n+1=>if zt9 l p q (n:Int)=true then(n:Int) else zpJ l p q n
def zub (l:List Pt) (f:Int) (i:Int):Pt:=ptAt l ((f+i).tmod (l.length:Int))
def zv5 (l:List Pt) (p q:Pt) (f:Int) (n:Nat):List Pt:=p :: q :: ((List.range n).map fun(j:Nat)=>zub l f (j:Int)).filter fun c=>decide (0 < zg4 p q c)
def zua (l:List Pt) (p q:Pt):List Pt:=zv5 l p q (zpJ l p q l.length) l.length
end Go.Stn
namespace Go.Stn
open Go Go.K Go.RowKit
theorem zmP {R:Res} {w:World}:∀ (X:List Res) (B C D:Nat→Prop),(∀ k,C k→B k)→(∀ k,D k→B k∧¬ C k)→All X C w→R.A D w→All (X++[R]) B w
 | [],_,_,D,_,hD,_,hR=>⟨D,fun _=>False,fun k hk=>(hD k hk).1,fun _ hk=>hk.elim,hR,trivial⟩
 | _ :: r,_,_,D,hC,hD,⟨C0,E0,h1,h2,hA,hr⟩,hR=>
  ⟨C0,fun k=>E0 k∨D k,fun k hk=>hC k (h1 k hk),fun k hk=>hk.elim (fun h=>⟨hC k (h2 k h).1,(h2 k h).2⟩) (fun h=>⟨(hD k h).1,fun h0=>(hD k h).2 (h1 k h0)⟩),hA,
   zmP r _ E0 D (fun _ h=>.inl h) (fun k h=>⟨.inr h,fun h0=>(hD k h).2 (h2 k h0).1⟩) hr hR⟩
theorem zoQ {R:Res} {w:World}:∀ (X:List Res) (B:Nat→Prop),(∀ k,B k→k < w.heap.size)→All X B w→R∈X→Has w R
 | _ :: r,_,hB,⟨C0,E0,h1,h2,hA,hr⟩,hm=>by
  rcases List.mem_cons.1 hm with rfl | hm
  ·exact⟨C0,fun k hk=>hB k (h1 k hk),hA⟩
  ·exact zoQ r E0 (fun k hk=>hB k (h2 k hk).1) hr hm
end Go.Stn
namespace Go.K
open Go Go.RowKit Go.Stn
def Rows {α:Type} (f:α→Res) (L:List α):Res:=SepR (L.map f)
section
variable {α:Type} {f:α→Res} {L:List α} {z:α} {B:Nat→Prop} {w:World}
theorem zsb:(Rows f []).A B w:=trivial
theorem zfr (h:(SepR [Rows f L,f z]).A B w):(Rows f (L++[z])).A B w:=by
 obtain⟨C,E,h1,h2,hA,D,_,h3,_,hR,_⟩:=h
 show All ((L++[z]).map f) B w
 rw [List.map_append]
 exact zmP _ B C D h1 (fun k hk=>h2 k (h3 k hk)) hA hR
theorem zbV (h:Has w (Rows f L)) (hz:z∈L):Has w (f z):=by
 obtain⟨B,hB,hA⟩:=h
 exact zoQ (R:=f z) _ B hB hA (List.mem_map.2 ⟨z,hz,rfl⟩)
end
section
variable {c:Cx} {ds:List Deferred} {T:List (Nat×Value)} {H:List Res} {K:Act→World→Prop}
theorem zjj {α:Type} (f:α→Res) (h:GK c ds K T (Rows f [] :: H)):GK c ds K T H:=fun a w ha hw=>
 h a w ha ⟨hw.base,fun _=>False,fun _ hk=>hk.elim,zsb,Holds.anti H (fun _ hk=>hk.elim id False.elim) hw.holds⟩
end
end Go.K
namespace Go.Pln
open Go Go.K Go.RowKit Go.Stn
structure Sht where
 name:ByteArray
 base:Int
 batter:Int
 height:Int
 skin:Int
 heights:List Int
 least:Int
 lap:Int
 run:Int
 every:Int
 at_:Int
 footing:Int
 spread:Int
 cope:Int
 tall:Int
 short:Int
 thick:Int
 low:Int
 high:Int
 rood:Int
structure Opn where
 kind:Int
 at_:Int
 width:Int
 frm:Int
 high:Int
structure Wll where
 name:ByteArray
 sheet:ByteArray
 length:Int
 opens:List Opn
instance:Inhabited Opn:=⟨⟨0,0,0,0,0⟩⟩
instance:Inhabited Sht:=⟨⟨⟨#[]⟩,0,0,0,0,[],0,0,0,0,0,0,0,0,0,0,0,0,0,0⟩⟩
instance:Inhabited Wll:=⟨⟨⟨#[]⟩,⟨#[]⟩,0,[]⟩⟩
structure ShC where
 s:Sht
 a:Option Addr
 cap:Nat
structure WlC where
 s:Wll
 a:Option Addr
 cap:Nat
instance:Inhabited ShC:=⟨⟨default,none,0⟩⟩
instance:Inhabited WlC:=⟨⟨default,none,0⟩⟩
abbrev zba (o:Opn):List Value:=[.int .u8 o.kind,.int .i64 o.at_,.int .i64 o.width,.int .i64 o.frm,.int .i64 o.high]
theorem encOpn_ok:Enc 5 zba:=⟨fun _=>rfl,fun _=>rfl,by decide⟩
abbrev zbH (z:ShC):List Value:=[.string z.s.name,.int .i64 z.s.base,.int .i64 z.s.batter,.int .i64 z.s.height,.int .i64 z.s.skin,.slice z.a z.s.heights.length z.cap,.int .i64 z.s.least,.int .i64 z.s.lap,.int .i64 z.s.run,.int .i64 z.s.every,.int .i64 z.s.at_,
 .int .i64 z.s.footing,.int .i64 z.s.spread,.int .u8 z.s.cope,.int .i64 z.s.tall,.int .i64 z.s.short,.int .i64 z.s.thick,.int .i64 z.s.low,.int .i64 z.s.high,.int .i64 z.s.rood]
theorem zbI:Enc 20 zbH:=⟨fun _=>rfl,fun _=>rfl,by decide⟩
abbrev zbS (z:WlC):List Value:=[.string z.s.name,.string z.s.sheet,.int .i64 z.s.length,.slice z.a z.s.opens.length z.cap]
theorem zbo:Enc 4 zbS:=⟨fun _=>rfl,fun _=>rfl,by decide⟩
abbrev rowH (e:TypeId) (z:ShC):Res:=Row z.a 1 z.cap e encI z.s.heights
abbrev rowO (e:TypeId) (z:WlC):Res:=Row z.a 5 z.cap e zba z.s.opens
def inB (n low high:Int):Bool:=decide (low≤n)&&decide (n≤high)
def zb5 (s:Sht) (z:Int):Int:=s.base - 2*(s.batter*z).tdiv 1000
def zce (s:Sht) (i:Nat):Int:=s.heights.getD (min i (s.heights.length - 1)) default
end Go.Pln
namespace Go.Pln
open Go Go.K Go.RowKit Go.Stn
def zAt (s:Sht):Nat→Int
 | 0=>0
 | i+1=>zAt s i+zce s i
structure Crs where
 frm:Int
 to:Int
instance:Inhabited Crs:=⟨⟨0,0⟩⟩
abbrev zbq (c:Crs):List Value:=[.int .i64 c.frm,.int .i64 c.to]
theorem zax:Enc 2 zbq:=⟨fun _=>rfl,fun _=>rfl,by decide⟩
def crsN (s:Sht) (n:Nat):List Crs:=(List.range n).map fun i=>⟨zAt s i,zAt s (i+1)⟩
theorem zeC (s:Sht) (n:Nat):(crsN s n).length=n:=by simp [crsN]
theorem ze7 (s:Sht) (n:Nat):crsN s (n+1)=crsN s n++[⟨zAt s n,zAt s (n+1)⟩]:=by
 unfold crsN
 rw [List.range_succ,List.map_append]; rfl
def zc5 (s:Sht) (i:Nat):Bool:=decide (zAt s i+zce s i≤s.height)
def cntF (s:Sht):Nat→Nat→Nat
 | 0,i=>i
 | f+1,i=>if zc5 s i=true then cntF s f (i+1) else i
def cnt (s:Sht):Nat:=cntF s (s.height.toNat+1) 0
theorem zo5 {s:Sht} {n:Nat} (hb:zc5 s n=false):∀ (f i:Nat),i≤n→n - i < f→(∀ j,i≤j→j < n→zc5 s j=true)→cntF s f i=n
 | 0,i,_,hf,_=>by omega
 | f+1,i,hi,hf,hu=>by
  rw [cntF]
  by_cases e:i=n
  ·subst e; rw [hb]; rfl
  ·rw [if_pos (hu i (Nat.le_refl _) (by omega))]
   exact zo5 hb f (i+1) (by omega) (by omega) (fun j h1 h2=>hu j (by omega) h2)
theorem zlP {s:Sht} (h:∀ i,1≤zce s i):∀ n:Nat,(n:Int)≤zAt s n
 | 0=>by simp [zAt]
 | n+1=>by
  have:=zlP h n
  have:=h n
  rw [zAt]; omega
theorem zsH {s:Sht} {n:Nat} (h:∀ i,1≤zce s i) (hb:zc5 s n=false) (hu:∀ j,j < n→zc5 s j=true):cnt s=n:=by
 refine zo5 hb _ 0 (Nat.zero_le _) ?_ (fun j _=>hu j)
 cases n with
 | zero=>omega
 | succ m=>
  have h1:=hu m (Nat.lt_succ_self _)
  unfold zc5 at h1
  rw [decide_eq_true_eq] at h1
  have h2:=zlP h m
  have h3:=h m
  omega
def zaj (s:Sht):List Crs:=
 let n:=cnt s
 let rest:=s.height - zAt s n
 if rest=0 then crsN s n
 else if s.least≤rest∨n=0 then crsN s n++[⟨zAt s n,s.height⟩]
 else(crsN s n).set (n - 1) ⟨(crsN s n).getD (n - 1) default |>.frm,s.height⟩
theorem ze6 {s:Sht} {n:Nat} (hc:cnt s=n) (h:s.height - zAt s n=0):zaj s=crsN s n:=by
 unfold zaj
 simp only [hc,if_pos h]
theorem ze5 {s:Sht} {n:Nat} (hc:cnt s=n) (h:¬ s.height - zAt s n=0) (h2:s.least≤s.height - zAt s n∨n=0):zaj s=crsN s n++[⟨zAt s n,s.height⟩]:=by
 unfold zaj
 simp only [hc,if_neg h,if_pos h2]
theorem ze4 {s:Sht} {n:Nat} (hc:cnt s=n) (h:¬ s.height - zAt s n=0) (h2:¬ (s.least≤s.height - zAt s n∨n=0)):zaj s=(crsN s n).set (n - 1) ⟨((crsN s n).getD (n - 1) default).frm,s.height⟩:=by
 unfold zaj
 simp only [hc,if_neg h,if_neg h2]
theorem zn7 {s:Sht} (h0:0≤s.height):∀ {n:Nat},(∀ j,j < n→zc5 s j=true)→zAt s n≤s.height
 | 0,_=>h0
 | n+1,hu=>by
  have:=hu n (Nat.lt_succ_self _)
  unfold zc5 at this
  rw [decide_eq_true_eq] at this
  rw [zAt]; exact this
theorem zr8 {s:Sht} (h:∀ i,1≤zce s i) {n:Nat} (h0:0≤s.height) (hu:∀ j,j < n→zc5 s j=true):(n:Int)≤s.height:=by
 have:=zlP h n
 have:=zn7 h0 hu
 omega
theorem zme {s:Sht} (h0:0 < s.heights.length) (h:∀ x∈s.heights,1≤x) (i:Nat):1≤zce s i:=by
 unfold zce
 refine h _ ?_
 have:min i (s.heights.length - 1) < s.heights.length:=by omega
 rw [List.getD_eq_getElem?_getD,List.getElem?_eq_getElem this]
 exact List.getElem_mem this
def zm3 (s:Sht):Bool:=
 if s.cope=0 then decide (s.tall=0)&&decide (s.short=0)&&decide (s.thick=0)
 else inB s.tall 1 1000&&inB s.thick 1 1000&&(if s.cope=3 then inB s.short 1 1000 else decide (s.short=0))&&decide (s.cope≤3)
def zgJ (s:Sht):Bool:=(decide (s.every=0)&&decide (s.at_=0))||(inB s.every 1 100000&&inB s.at_ 0 3000)
def zgy (s:Sht):Bool:=inB s.base 1 3000&&inB s.batter 0 500&&inB s.height 1 3000&&inB s.skin 1 1500&&inB s.heights.length 1 12&&inB s.least 1 1000&&inB s.lap 0 500&&inB s.run 1 20&&inB s.footing 0 1000&&inB s.spread 0 1000&&inB s.low 0 s.high&&inB s.high 0 2000&&inB s.rood 1 100000
end Go.Pln
namespace Go.Pln
open Go Go.K Go.RowKit Go.Stn
def zfY (len top:Int) (o:Opn):Bool:=
 (inB o.kind 1 4&&inB len 1 100000&&inB o.width 1 len&&inB o.at_ 0 (len - o.width)&&inB o.high 1 top&&inB o.frm 0 (top - o.high)) &&
  ((!decide (o.kind=3)||decide (o.frm+o.high=top))&&(!decide (o.kind=4)||(decide (o.frm+o.high=top)&&decide (o.frm=0))))
def zs8 (len top:Int) (o:Opn):Bool:=
 !((!inB o.kind 1 4||!inB o.at_ 0 len||!inB o.width 1 len||decide (len < o.at_+o.width)||!inB o.frm 0 top||!inB o.high 1 top||decide (top < o.frm+o.high)) ||
  ((decide (3≤o.kind)&&!decide (o.frm+o.high=top))||(decide (o.kind=4)&&!decide (o.frm=0))))
theorem ztN {len top:Int} {o:Opn} (h:inB len 1 100000=true):zfY len top o=zs8 len top o:=by
 rw [Bool.eq_iff_iff]
 unfold zfY zs8
 rw [h]
 unfold inB
 simp only [Bool.and_eq_true,Bool.or_eq_true,Bool.not_eq_true',Bool.or_eq_false_iff,Bool.and_eq_false_iff,Bool.not_eq_false',decide_eq_true_eq,decide_eq_false_iff_not,and_true]
 constructor
 ·rintro ⟨⟨⟨⟨⟨⟨a1,a2⟩,a3,a4⟩,a5,a6⟩,a7,a8⟩,a9,a10⟩,b1,b2⟩
  omega
 ·intro h
  omega
def zea (o p:Opn):Bool:=decide (o.at_ < p.at_+p.width)&&decide (p.at_ < o.at_+o.width)&&decide (o.frm < p.frm+p.high)&&decide (p.frm < o.frm+o.high)
def zhI (o q:Opn):Bool:=decide (o.at_+o.width≤q.at_)||decide (q.at_+q.width≤o.at_)||decide (o.frm+o.high≤q.frm)||decide (q.frm+q.high≤o.frm)
theorem znr (o p:Opn):zea o p = !zhI o p:=by
 rw [Bool.eq_iff_iff]
 unfold zea zhI
 simp only [Bool.and_eq_true,Bool.not_eq_true',Bool.or_eq_false_iff,decide_eq_true_eq,decide_eq_false_iff_not]
 omega
def zcI (top:Int) (w:Wll) (i:Nat):Bool:=zfY w.length top (w.opens.getD i default)&&!((w.opens.take i).any fun q=>zea (w.opens.getD i default) q)
def zd1 (top:Int) (w:Wll):Bool:=zdY w.name&&inB w.length 1 100000&&inB w.opens.length 0 20&&allI w.opens.length fun i=>zcI top w i
def zaS (S:List ShC) (n:ByteArray):Int:=zbJ (fun z=>z.s.name.toList == n.toList) S
def zaM (W:List WlC) (n:ByteArray):Int:=zbJ (fun z=>z.s.name.toList == n.toList) W
end Go.Pln
namespace Go.Pln
open Go Go.K Go.RowKit Go.Stn
structure Lim where
 n:Int
 lo:Int
 hi:Int
instance:Inhabited Lim:=⟨⟨0,0,0⟩⟩
abbrev zgk (x:Lim):List Value:=[.int .i64 x.n,.int .i64 x.lo,.int .i64 x.hi]
theorem zbM:Enc 3 zgk:=⟨fun _=>rfl,fun _=>rfl,by decide⟩
structure Cpe where
 at_:Int
 width:Int
 high:Int
 deriving DecidableEq
instance:Inhabited Cpe:=⟨⟨0,0,0⟩⟩
abbrev zcm (x:Cpe):List Value:=[.int .i64 x.at_,.int .i64 x.width,.int .i64 x.high]
theorem zbc:Enc 3 zcm:=⟨fun _=>rfl,fun _=>rfl,by decide⟩
def outB (x:Lim):Bool:=decide (x.n < x.lo)||decide (x.hi < x.n)
def zhr (l:List Lim):Bool:=!l.any outB
theorem zdI:zhr []=true:=rfl
theorem zcC (x:Lim) (l:List Lim):zhr (x :: l)=(inB x.n x.lo x.hi&&zhr l):=by
 have h:(!outB x)=inB x.n x.lo x.hi:=by
  rw [Bool.eq_iff_iff]
  unfold outB inB
  simp only [Bool.not_eq_true',Bool.or_eq_false_iff,decide_eq_false_iff_not,Bool.and_eq_true,decide_eq_true_eq]
  omega
 unfold zhr
 rw [List.any_cons,Bool.not_or,h]
def zfv (s:Sht) (z:Int):Int:=W (s.base - W (2*W ((W (s.batter*z)).tdiv 1000)))
def oddN (r:Int):Bool:=decide (r < 48)||decide (57 < r)
def numW (s:ByteArray):Bool:=(((!(s.toList == (⟨#[]⟩:ByteArray).toList))&&(decide ((s.size:Int)≤6)))&&(!decide (0≤zcj oddN s 0)))&&((!decide (zee s 0=48))||(s.toList == (⟨#[48]⟩:ByteArray).toList))
def zdJ (s:Sht):Bool:=(decide (s.every=0)&&decide (s.at_=0))||zhr [⟨s.every,1,100000⟩,⟨s.at_,0,3000⟩]
def znz (s:Sht):Bool:=zhr [⟨s.base,1,3000⟩,⟨s.batter,0,500⟩,⟨s.height,1,3000⟩,⟨s.skin,1,1500⟩,⟨(s.heights.length:Int),1,12⟩,⟨s.least,1,1000⟩,⟨s.lap,0,500⟩,⟨s.run,1,20⟩,⟨s.footing,0,1000⟩,⟨s.spread,0,1000⟩,⟨s.low,0,s.high⟩,⟨s.high,0,2000⟩,⟨s.rood,1,100000⟩]
def zgP (h:Int):Bool:=!zhr [⟨h,1,1000⟩]
def zgh (s:Sht):Bool:=
 if s.cope=0 then(decide (s.tall=0)&&decide (s.short=0))&&decide (s.thick=0)
 else if s.cope=1∨s.cope=2 then zhr [⟨s.tall,1,1000⟩,⟨s.short,0,0⟩,⟨s.thick,1,1000⟩]
 else if s.cope=3 then zhr [⟨s.tall,1,1000⟩,⟨s.short,1,1000⟩,⟨s.thick,1,1000⟩]
 else false
def badP (s:Sht):Bool:=(((!zgx s.name||!zdJ s)||!znz s)||s.heights.any zgP)||!zgh s
theorem zqZ (h:Int):zgP h = !inB h 1 1000:=by
 unfold zgP
 rw [zcC,zdI,Bool.and_true]
theorem zjz (l:List Int):l.any zgP = !l.all (fun h=>inB h 1 1000):=by
 rw [show zgP=fun h=>!inB h 1 1000 from funext zqZ]
 induction l with
 | nil=>rfl
 | cons x r ih=>rw [List.any_cons,List.all_cons,ih,Bool.not_and]
theorem ziP (s:Sht):zdJ s=zgJ s:=by
 unfold zdJ zgJ
 rw [zcC,zcC,zdI,Bool.and_true]
theorem zir (s:Sht):znz s=zgy s:=by
 unfold znz zgy
 simp only [zcC,zdI,Bool.and_true,Bool.and_assoc]
theorem zt4 (n:Int):inB n 0 0=decide (n=0):=by
 rw [Bool.eq_iff_iff]
 unfold inB
 simp only [Bool.and_eq_true,decide_eq_true_eq]
 omega
theorem zo9 {s:Sht} (h:0≤s.cope):zgh s=zm3 s:=by
 unfold zgh zm3
 by_cases h0:s.cope=0
 ·rw [if_pos h0,if_pos h0]
 ·rw [if_neg h0,if_neg h0]
  by_cases h1:s.cope=1∨s.cope=2
  ·rw [if_pos h1,if_neg (show ¬ s.cope=3 by omega),decide_eq_true (show s.cope≤3 by omega)]
   simp only [zcC,zdI,Bool.and_true,zt4]
   cases inB s.tall 1 1000 <;> cases inB s.thick 1 1000 <;> cases decide (s.short=0) <;> rfl
  ·rw [if_neg h1]
   by_cases h3:s.cope=3
   ·rw [if_pos h3,if_pos h3,decide_eq_true (show s.cope≤3 by omega)]
    simp only [zcC,zdI,Bool.and_true]
    cases inB s.tall 1 1000 <;> cases inB s.thick 1 1000 <;> cases inB s.short 1 1000 <;> rfl
   ·rw [if_neg h3,if_neg h3,decide_eq_false (show ¬ s.cope≤3 by omega),Bool.and_false]
structure Nums (s:Sht):Prop where
 base:1≤s.base∧s.base≤3000
 batter:0≤s.batter∧s.batter≤500
 height:1≤s.height∧s.height≤3000
 skin:1≤s.skin∧s.skin≤1500
 len:1≤s.heights.length∧s.heights.length≤12
 least:1≤s.least∧s.least≤1000
 each:∀ h∈s.heights,1≤h∧h≤1000
 rood:1≤s.rood∧s.rood≤100000
 foot:0≤s.footing∧s.footing≤1000∧0≤s.spread∧s.spread≤1000
theorem zul {s:Sht} (h1:zgy s=true) (h2:s.heights.all (fun h=>inB h 1 1000)=true):Nums s:=by
 unfold zgy inB at h1
 simp only [Bool.and_eq_true,decide_eq_true_eq] at h1
 rw [List.all_eq_true] at h2
 refine⟨by omega,by omega,by omega,by omega,by omega,by omega,fun h hh=>?_,by omega,by omega⟩
 have:=h2 h hh
 unfold inB at this
 simpa only [Bool.and_eq_true,decide_eq_true_eq] using this
theorem zbr {n:Int} (h1:-9223372036854775808≤n) (h2:n≤9223372036854775807):W n=n:=zeA h1 h2
theorem zfM {s:Sht} {z:Int} (h1:0≤s.batter∧s.batter≤500) (h2:1≤s.base∧s.base≤3000) (h0:0≤z) (h3:z≤3000):zfv s z=zb5 s z:=by
 have hm:0≤s.batter*z:=Int.mul_nonneg h1.1 h0
 have hM:s.batter*z≤500*3000:=Int.mul_le_mul h1.2 h3 h0 (by omega)
 have hd0:0≤(s.batter*z).tdiv 1000:=Int.tdiv_nonneg hm (by omega)
 have hd1:(s.batter*z).tdiv 1000≤500*3000:=by
  rw [Int.tdiv_eq_ediv_of_nonneg hm]; omega
 unfold zfv zb5
 rw [zbr (n:=s.batter*z) (by omega) (by omega),zbr (n:=(s.batter*z).tdiv 1000) (by omega) (by omega),zbr (n:=2*_) (by omega) (by omega),zbr (by omega) (by omega)]
theorem zgZ {s:Sht} (h:badP s=false):Nums s:=by
 unfold badP at h
 simp only [Bool.or_eq_false_iff,Bool.not_eq_false'] at h
 exact zul (by rw [←zir]; exact h.1.1.2) (by have:=h.1.2; rw [zjz,Bool.not_eq_false'] at this; exact this)
end Go.Pln
namespace Go.Pln
open Go Go.K Go.RowKit Go.Stn
theorem zll {b:Bool} (h:(!b)=false):b=true:=by simpa using h
theorem zqg {b:Bool} (h:(!b)=true):b=false:=by simpa using h
def za4 (s:Sht):Bool:=!badP s&&(decide (1≤zb5 s s.height)&&decide ((zaj s).length≤100))
def zcX (s:Sht):Int:=if za4 s=true then 0 else 2
theorem zaZ {s:Sht} (h:za4 s=true):Nums s:=by
 unfold za4 at h
 simp only [Bool.and_eq_true,Bool.not_eq_true'] at h
 exact zgZ h.1
theorem zcv {s:Sht} (h:za4 s=true):(zaj s).length≤100:=by
 unfold za4 at h
 simp only [Bool.and_eq_true,decide_eq_true_eq] at h
 exact h.2.2
theorem zlC {s:Sht} (h:za4 s=true):1≤zb5 s s.height:=by
 unfold za4 at h
 simp only [Bool.and_eq_true,decide_eq_true_eq] at h
 exact h.2.1
theorem zeX {s:Sht} (h:badP s=true):zcX s=2:=by
 unfold zcX za4
 rw [h]; rfl
theorem zo4 {s:Sht} (h:badP s=false) (hw:zfv s s.height < 1):zcX s=2:=by
 have hn:=zgZ h
 rw [zfM hn.batter hn.base (by have:=hn.height; omega) (by have:=hn.height; omega)] at hw
 unfold zcX za4
 rw [h,decide_eq_false (show ¬ 1≤zb5 s s.height by omega)]; rfl
theorem zhM {s:Sht} (h:badP s=false) (hw:¬ zfv s s.height < 1):zcX s=if 100 < (zaj s).length then 2 else 0:=by
 have hn:=zgZ h
 rw [zfM hn.batter hn.base (by have:=hn.height; omega) (by have:=hn.height; omega)] at hw
 unfold zcX za4
 rw [h,decide_eq_true (show 1≤zb5 s s.height by omega)]
 by_cases hl:(zaj s).length≤100
 ·rw [decide_eq_true hl,if_neg (show ¬ 100 < (zaj s).length by omega)]; rfl
 ·rw [decide_eq_false hl,if_pos (show 100 < (zaj s).length by omega)]; rfl
theorem ziM {s:Sht} (h9:decide (s.every=0)=true) (h14:decide (s.at_=0)=true):true=zdJ s:=by unfold zdJ; rw [h9,h14]; rfl
theorem ziN {s:Sht} (h14:decide (s.at_=0)=false):zhr [⟨s.every,1,100000⟩,⟨s.at_,0,3000⟩]=zdJ s:=by unfold zdJ; rw [h14,Bool.and_false]; rfl
theorem ziO {s:Sht} (h9:decide (s.every=0)=false):zhr [⟨s.every,1,100000⟩,⟨s.at_,0,3000⟩]=zdJ s:=by unfold zdJ; rw [h9]; rfl
theorem zjE {s:Sht} (h1:(!zgx s.name)=false) (h2:(!zdJ s)=false) (h3:(!znz s)=false) (h4:s.heights.any zgP=false) (h5:(!zgh s)=false):badP s=false:=by
 unfold badP; rw [h1,h2,h3,h4,h5]; rfl
theorem zu4 {s:Sht} (h:(!zgx s.name)=true):badP s=true:=by unfold badP; rw [h]; rfl
theorem zu5 {s:Sht} (h:(!zdJ s)=true):badP s=true:=by unfold badP; rw [h]; simp
theorem zu6 {s:Sht} (h:(!znz s)=true):badP s=true:=by unfold badP; rw [h]; simp
theorem zu7 {s:Sht} (h:s.heights.any zgP=true):badP s=true:=by unfold badP; rw [h]; simp
theorem zu8 {s:Sht} (h:(!zgh s)=true):badP s=true:=by unfold badP; rw [h]; simp
theorem zeg {s:Sht} (h:Nums s) (i:Nat):1≤zce s i∧zce s i≤1000:=by
 refine⟨zme (by have:=h.len; omega) (fun x hx=>(h.each x hx).1) i,?_⟩
 unfold zce
 have:min i (s.heights.length - 1) < s.heights.length:=by have:=h.len; omega
 rw [List.getD_eq_getElem?_getD,List.getElem?_eq_getElem this]
 exact(h.each _ (List.getElem_mem this)).2
theorem zjC {s:Sht} (h:Nums s) (n:Nat):0≤zAt s n:=by
 have:=zlP (fun i=>(zeg h i).1) n
 omega
theorem zxq {s:Sht} (h:1≤s.heights.length) (n:Nat):s.heights.getD (min (n:Int) ((s.heights.length:Int) - 1)).toNat default=zce s n:=by
 unfold zce
 rw [show(min (n:Int) ((s.heights.length:Int) - 1)).toNat=min n (s.heights.length - 1) by omega]
theorem ziR {s:Sht} {n:Nat} (h:zAt s n+zce s n≤s.height):zc5 s n=true:=decide_eq_true h
theorem zsp {s:Sht} {n:Nat} (h:¬ zAt s n+zce s n≤s.height):zc5 s n=false:=decide_eq_false h
theorem zg7 {s:Sht} {n:Nat} (hu:∀ j,j < n→zc5 s j=true) (h:zc5 s n=true):∀ j,j < n+1→zc5 s j=true:=fun j hj=>by
 rcases Nat.lt_or_eq_of_le (Nat.le_of_lt_succ hj) with g | rfl
 ·exact hu j g
 ·exact h
theorem zsG {s:Sht} {n:Nat} (hn:Nums s) (hu:∀ j,j < n→zc5 s j=true) (hb:¬ zAt s n+zce s n≤s.height):cnt s=n:=zsH (fun i=>(zeg hn i).1) (zsp hb) hu
theorem zlf {s:Sht} {L:List Crs} {n:Nat} (hL:L=crsN s n) (h:1≤L.length):((L.length:Int) - 1).toNat=n - 1:=by
 rw [hL,zeC] at h ⊢
 omega
theorem zjb {s:Sht} (hn:Nums s) {n:Nat} (hu:∀ j,j < n→zc5 s j=true):n≤3000:=by
 have:=zr8 (fun i=>(zeg hn i).1) (by have:=hn.height; omega) hu
 have:=hn.height
 omega
theorem zdP {f:Nat→Bool} {i:Int} (h0:0≤i) (h:∀ j:Nat,(j:Int) < i→f j=false) (hi:f i.toNat=false):∀ j:Nat,(j:Int) < i+1→f j=false:=fun j hj=>by
 rcases Int.lt_or_eq_of_le (show(j:Int)≤i by omega) with g | g
 ·exact h j g
 ·rw [show j=i.toNat from by omega]; exact hi
theorem za0 {α:Type} [Inhabited α] {l:List α} {i:Nat} (h:i < l.length):l.getD i default∈l:=by simp [h]
def v1 (s:Sht):Bool:=!zdY s.name||!inB s.base 1 3000||!inB s.batter 0 500||!inB s.height 1 3000||!inB s.skin 1 1500||!inB (s.heights.length:Int) 1 12
def v2 (s:Sht):Bool:=!inB s.least 1 1000||!inB s.lap 0 500||!inB s.run 1 20||!inB s.footing 0 1000||!inB s.spread 0 1000
def v3 (s:Sht):Bool:=!(decide (s.every=0)&&decide (s.at_=0))&&!(inB s.every 1 100000&&inB s.at_ 0 3000)
def v4 (s:Sht):Bool:=!inB s.high 0 2000||!inB s.low 0 s.high||!inB s.rood 1 100000||decide (3 < s.cope)
def v5 (s:Sht):Bool:=decide (s.cope=0)&&(!decide (s.tall=0)||!decide (s.short=0)||!decide (s.thick=0))
def v6 (s:Sht):Bool:=!decide (s.cope=0)&&(!inB s.tall 1 1000||!inB s.thick 1 1000)
def v7 (s:Sht):Bool:=decide (s.cope=3)&&!inB s.short 1 1000||!decide (s.cope=3)&&!decide (s.short=0)
def v0 (s:Sht):Bool:=!s.heights.all (fun h=>inB h 1 1000)
theorem zpa (s:Sht):zm3 s = !(decide (3 < s.cope)||v5 s||v6 s||v7 s):=by
 unfold zm3 v5 v6 v7
 by_cases h0:s.cope=0
 ·rw [if_pos h0,decide_eq_true h0,decide_eq_false (show ¬ 3 < s.cope by omega),decide_eq_false (show ¬ s.cope=3 by omega)]
  cases decide (s.tall=0) <;> cases decide (s.short=0) <;> cases decide (s.thick=0) <;> rfl
 ·rw [if_neg h0,decide_eq_false h0]
  by_cases h3:s.cope=3
  ·rw [if_pos h3,decide_eq_true h3,decide_eq_false (show ¬ 3 < s.cope by omega),decide_eq_true (show s.cope≤3 by omega)]
   cases inB s.tall 1 1000 <;> cases inB s.short 1 1000 <;> cases inB s.thick 1 1000 <;> rfl
  ·rw [if_neg h3,decide_eq_false h3]
   by_cases h4:3 < s.cope
   ·rw [decide_eq_true h4,decide_eq_false (show ¬ s.cope≤3 by omega)]; simp
   ·rw [decide_eq_false h4,decide_eq_true (show s.cope≤3 by omega)]
    cases inB s.tall 1 1000 <;> cases decide (s.short=0) <;> cases inB s.thick 1 1000 <;> rfl
theorem zmG (s:Sht):zgJ s = !v3 s:=by
 unfold zgJ v3
 cases (decide (s.every=0)&&decide (s.at_=0)) <;> cases (inB s.every 1 100000&&inB s.at_ 0 3000) <;> rfl
theorem zdE {s:Sht} (hco:0≤s.cope):badP s=(v1 s||v0 s||v2 s||v3 s||v4 s||v5 s||v6 s||v7 s):=by
 unfold badP
 rw [ziP,zir,zjz,zo9 hco,znv,zpa,zmG]
 unfold v1 v2 v4 v0 zgy
 rw [Bool.eq_iff_iff]
 simp only [Bool.or_eq_true,Bool.not_eq_true',Bool.and_eq_false_iff,Bool.not_eq_false']
 grind
theorem zcS {s:Sht} (h:badP s=true):za4 s=false:=by unfold za4; rw [h]; rfl
theorem zuN {s:Sht} {i:Int} (h0:0≤i) (h1:i < (s.heights.length:Int)) (h:(!inB (s.heights.getD i.toNat default) 1 1000)=true):v0 s=true:=by
 unfold v0
 cases hb:s.heights.all (fun h=>inB h 1 1000) with
 | false=>rfl
 | true=>
  rw [List.all_eq_true] at hb
  rw [hb _ (za0 (by omega))] at h
  exact h
theorem zsq {s:Sht} {i:Int} (h1:¬ i < (s.heights.length:Int)) (h:∀ j:Nat,(j:Int) < i→(!inB (s.heights.getD j default) 1 1000)=false):v0 s=false:=by
 unfold v0
 rw [Bool.not_eq_false',List.all_eq_true]
 intro x hx
 obtain⟨j,hj,rfl⟩:=List.getElem_of_mem hx
 have:=h j (by omega)
 simpa [hj] using this
theorem zq7 {s:Sht} (hco:0≤s.cope) (h1:v1 s=false) (h0:v0 s=false) (h2:v2 s=false) (h3:v3 s=false) (h4:v4 s=false) (h5:v5 s=false) (h6:v6 s=false) (h7:v7 s=false):badP s=false:=by
 rw [zdE hco,h1,h0,h2,h3,h4,h5,h6,h7]; rfl
theorem zlD {s:Sht} (h:badP s=false):za4 s=(decide (1≤zfv s s.height)&&decide (((zaj s).length:Int)≤100)):=by
 have hn:=zgZ h
 rw [zfM hn.batter hn.base (by have:=hn.height; omega) (by have:=hn.height; omega)]
 unfold za4
 rw [h,Bool.eq_iff_iff]
 simp only [Bool.not_false,Bool.true_and,Bool.and_eq_true,decide_eq_true_eq]
 omega
end Go.Pln
namespace Go.Pln
open Go Go.K Go.RowKit Go.Stn
abbrev Knd (o:Opn):Prop:=0≤o.kind∧o.kind≤255
def zvV (len top:Int) (o:Opn):Bool:=zhr [⟨W o.kind,1,4⟩,⟨len,1,100000⟩,⟨o.width,1,len⟩,⟨o.at_,0,W (len - o.width)⟩,⟨o.high,1,top⟩,⟨o.frm,0,W (top - o.high)⟩]
theorem zbp {n lo hi:Int}:inB n lo hi=true↔lo≤n∧n≤hi:=by
 unfold inB; simp only [Bool.and_eq_true,decide_eq_true_eq]
theorem zh4 {len top:Int} {o:Opn} (hk:Knd o) (hl:1≤len∧len≤100000) (hh:0≤top∧top≤3000) :
  zvV len top o=true↔(1≤o.kind∧o.kind≤4)∧(1≤o.width∧o.width≤len)∧(0≤o.at_∧o.at_≤len - o.width)∧(1≤o.high∧o.high≤top)∧(0≤o.frm∧o.frm≤top - o.high):=by
 unfold zvV
 simp only [zcC,zdI,Bool.and_eq_true,zbp,and_true]
 rw [zbr (n:=o.kind) (by omega) (by omega)]
 constructor
 ·rintro ⟨a,b,c,d,e,f⟩
  rw [zbr (by omega) (by omega)] at d f
  exact⟨a,c,d,e,f⟩
 ·rintro ⟨a,c,d,e,f⟩
  rw [zbr (n:=len - o.width) (by omega) (by omega),zbr (n:=top - o.high) (by omega) (by omega)]
  exact⟨a,hl,c,d,e,f⟩
structure zn8 (len top:Int) (o:Opn):Prop where
 k:1≤o.kind∧o.kind≤4
 w:1≤o.width∧o.width≤len
 a:0≤o.at_∧o.at_+o.width≤len
 h:1≤o.high∧o.high≤top
 f:0≤o.frm∧o.frm+o.high≤top
 l:1≤len∧len≤100000
 s:o.kind=3→o.frm+o.high=top
 g:o.kind=4→o.frm+o.high=top∧o.frm=0
theorem zh3 {len top:Int} {o:Opn}:zfY len top o=true↔zn8 len top o:=by
 unfold zfY
 simp only [Bool.and_eq_true,Bool.or_eq_true,Bool.not_eq_true',decide_eq_true_eq,decide_eq_false_iff_not,zbp]
 constructor
 ·rintro ⟨⟨⟨⟨⟨⟨a,b⟩,c⟩,d⟩,e⟩,f⟩,g,h⟩
  exact⟨a,c,by omega,e,by omega,b,by omega,by omega⟩
 ·rintro ⟨a,b,c,d,e,f,g,h⟩
  refine⟨⟨⟨⟨⟨⟨a,f⟩,b⟩,by omega⟩,d⟩,by omega⟩,?_,?_⟩
  ·by_cases h3:o.kind=3
   ·exact .inr (g h3)
   ·exact .inl h3
  ·by_cases h4:o.kind=4
   ·exact .inr (h h4)
   ·exact .inl h4
theorem ztO {len top:Int} {o:Opn} (hk:Knd o) (hl:1≤len∧len≤100000) (hh:0≤top∧top≤3000) (h:(!zvV len top o)=true):zfY len top o=false:=by
 cases hb:zfY len top o with
 | false=>rfl
 | true=>
  have f:=zh3.1 hb
  have:=(zh4 hk hl hh).2 ⟨f.k,f.w,by have:=f.a; omega,f.h,by have:=f.f; omega⟩
  rw [this] at h; cases h
theorem zrq {len top:Int} {o:Opn} (hk:Knd o) (hl:1≤len∧len≤100000) (hh:0≤top∧top≤3000) (h:(!zvV len top o)=false) :
  zfY len top o=((!decide (o.kind=3)||decide (o.frm+o.high=top))&&(!decide (o.kind=4)||(decide (o.frm+o.high=top)&&decide (o.frm=0)))):=by
 have f:=(zh4 hk hl hh).1 (zll h)
 unfold zfY
 rw [show inB o.kind 1 4=true from zbp.2 f.1,show inB len 1 100000=true from zbp.2 hl,show inB o.width 1 len=true from zbp.2 f.2.1,show inB o.at_ 0 (len - o.width)=true from zbp.2 f.2.2.1,show inB o.high 1 top=true from zbp.2 f.2.2.2.1,show inB o.frm 0 (top - o.high)=true from zbp.2 f.2.2.2.2]
 simp
def zhk (o p:Opn):Bool:=decide (o.at_ < W (p.at_+p.width))&&decide (p.at_ < W (o.at_+o.width))&&decide (o.frm < W (p.frm+p.high))&&decide (p.frm < W (o.frm+o.high))
theorem zp8 {len top:Int} {o p:Opn} (hh:top≤3000) (ho:zn8 len top o) (hp:zn8 len top p):zhk o p=zea o p:=by
 have a1:=ho.a; have a2:=ho.f; have a3:=hp.a; have a4:=hp.f; have a5:=ho.w; have a6:=ho.h; have a7:=hp.w; have a8:=hp.h; have a9:=ho.l
 unfold zhk zea
 rw [zbr (n:=p.at_+p.width) (by omega) (by omega),zbr (n:=o.at_+o.width) (by omega) (by omega),zbr (n:=p.frm+p.high) (by omega) (by omega),zbr (n:=o.frm+o.high) (by omega) (by omega)]
theorem zf7 {top:Int} {w:Wll} {i:Nat} (h:zcI top w i=true):zn8 w.length top (w.opens.getD i default):=by
 unfold zcI at h
 simp only [Bool.and_eq_true] at h
 exact zh3.1 h.1
theorem zoS {top:Int} {w:Wll} {i:Int} (hh:top≤3000) (h0:0≤i) (h1:i < (w.opens.length:Int)) (hp:∀ j:Nat,(j:Int) < i→zcI top w j=true) (ho:zn8 w.length top (w.opens.getD i.toNat default)) :
  (w.opens.take i.toNat).any (zhk (w.opens.getD i.toNat default))=(w.opens.take i.toNat).any (fun q=>zea (w.opens.getD i.toNat default) q):=by
 have key:∀ q∈w.opens.take i.toNat,zhk (w.opens.getD i.toNat default) q=zea (w.opens.getD i.toNat default) q:=fun q hq=>by
  obtain⟨j,hj,rfl⟩:=List.getElem_of_mem hq
  rw [List.length_take] at hj
  have hf:=zf7 (hp j (by omega))
  rw [List.getD_eq_getElem?_getD,List.getElem?_eq_getElem (by omega)] at hf
  rw [List.getElem_take]
  exact zp8 hh ho hf
 rw [Bool.eq_iff_iff,List.any_eq_true,List.any_eq_true]
 exact⟨fun⟨q,h1,h2⟩=>⟨q,h1,by rw [←key q h1]; exact h2⟩,fun⟨q,h1,h2⟩=>⟨q,h1,by rw [key q h1]; exact h2⟩⟩
theorem zln {top:Int} {w:Wll} {i:Int} (hh:top≤3000) (h0:0≤i) (h1:i < (w.opens.length:Int)) (hp:∀ j:Nat,(j:Int) < i→zcI top w j=true) :
  (!zfY w.length top (w.opens.getD i.toNat default)||(w.opens.take i.toNat).any (zhk (w.opens.getD i.toNat default))) = !zcI top w i.toNat:=by
 unfold zcI
 cases hf:zfY w.length top (w.opens.getD i.toNat default) with
 | false=>rfl
 | true=>rw [zoS hh h0 h1 hp (zh3.1 hf)]; simp
def zfP (w:Wll):Bool:=zdY w.name&&inB w.length 1 100000&&inB (w.opens.length:Int) 0 20
theorem zgN (top:Int) (w:Wll):zd1 top w=(zfP w&&allI w.opens.length fun i=>zcI top w i):=rfl
theorem zkz {top:Int} {w:Wll} (h:zfP w=false):zd1 top w=false:=by rw [zgN,h]; rfl
theorem zhH {top:Int} {w:Wll} {i:Int} (h0:0≤i) (h1:i < (w.opens.length:Int)) (h:zcI top w i.toNat=false):zd1 top w=false:=by
 rw [zgN,zc9 (i:=i.toNat) (by omega) h,Bool.and_false]
theorem zn0 {top:Int} {w:Wll} {i:Int} (h:zfP w=true) (h1:¬ i < (w.opens.length:Int)) (hp:∀ j:Nat,(j:Int) < i→zcI top w j=true):zd1 top w=true:=by
 rw [zgN,h,zdN (fun j hj=>hp j (by omega))]; rfl
theorem zgM {w:Wll} (h:zfP w=true):(1≤w.length∧w.length≤100000)∧w.opens.length≤20:=by
 unfold zfP at h
 simp only [Bool.and_eq_true,zbp] at h
 omega
theorem zqW {top:Int} {w:Wll} (h:zd1 top w=true):zfP w=true:=by
 rw [zgN,Bool.and_eq_true] at h; exact h.1
theorem zmJ (w:Wll):zfP w = !(!zgx w.name||!zhr [⟨w.length,1,100000⟩,⟨(w.opens.length:Int),0,20⟩]):=by
 unfold zfP
 rw [zcC,zcC,zdI,znv]
 cases zdY w.name <;> cases inB w.length 1 100000 <;> cases inB (w.opens.length:Int) 0 20 <;> rfl
theorem zuO (w:Wll):zfP w = !(!zdY w.name||!inB w.length 1 100000||decide (20 < (w.opens.length:Int))):=by
 unfold zfP
 have:inB (w.opens.length:Int) 0 20 = !decide (20 < (w.opens.length:Int)):=by
  rw [Bool.eq_iff_iff,zbp,Bool.not_eq_true',decide_eq_false_iff_not]; omega
 rw [this]
 cases zdY w.name <;> cases inB w.length 1 100000 <;> cases decide (20 < (w.opens.length:Int)) <;> rfl
theorem zdu {f:Nat→Bool} {i:Int} (h0:0≤i) (h:∀ j:Nat,(j:Int) < i→f j=true) (hi:f i.toNat=true):∀ j:Nat,(j:Int) < i+1→f j=true:=fun j hj=>by
 rcases Int.lt_or_eq_of_le (show(j:Int)≤i by omega) with g | g
 ·exact h j g
 ·rw [show j=i.toNat from by omega]; exact hi
def zav (S:List ShC) (n:ByteArray):ShC:=if 0≤zaS S n then S.getD (zaS S n).toNat default else default
theorem findI_lt {α:Type} (p:α→Bool) (l:List α):zbJ p l < (l.length:Int)∨zbJ p l = -1:=by
 unfold zbJ
 split
 ·rename_i h
  left
  obtain⟨x,hx,hp⟩:=List.any_eq_true.1 h
  have:=List.findIdx_lt_length_of_exists ⟨x,hx,hp⟩
  omega
 ·right; rfl
theorem zrp {α:Type} (p:α→Bool) (l:List α):-1≤zbJ p l:=by unfold zbJ; split <;> omega
theorem ziE {S:List ShC} {n:ByteArray} (h:0≤zaS S n):zaS S n < (S.length:Int):=by
 rcases findI_lt (fun z:ShC=>z.s.name.toList == n.toList) S with g | g
 ·exact g
 ·unfold zaS at h; rw [g] at h; omega
theorem zky {S:List WlC} {n:ByteArray} (h:0≤zaM S n):zaM S n < (S.length:Int):=by
 rcases findI_lt (fun z:WlC=>z.s.name.toList == n.toList) S with g | g
 ·exact g
 ·unfold zaM at h; rw [g] at h; omega
theorem zgp {S:List ShC} {n:ByteArray} (h:0≤zaS S n):zav S n∈S:=by
 unfold zav
 rw [if_pos h]
 exact za0 (by have:=ziE h; omega)
theorem zpL {S:List ShC} {n:ByteArray} {w:World} (h:∀ z∈S,Has w (Ints z.a z.s.heights)):Has w (Ints (zav S n).a (zav S n).s.heights):=by
 by_cases h0:0≤zaS S n
 ·exact h _ (zgp h0)
 ·unfold zav
  rw [if_neg h0]
  exact⟨fun _=>False,fun _ hk=>hk.elim,.inl rfl⟩
theorem zrs {S:List ShC} {n:ByteArray} {P:ShC→Prop} (h:∀ z∈S,P z) (hd:P default):P (zav S n):=by
 by_cases h0:0≤zaS S n
 ·exact h _ (zgp h0)
 ·unfold zav; rw [if_neg h0]; exact hd
theorem zh2 {α:Type} [Inhabited α] {p:α→Bool} {l:List α} {i:Int} (h0:0≤i) (h1:i < (l.length:Int)) (hp:p (l.getD i.toNat default)=true):decide (zbJ p l=i) = !(l.take i.toNat).any p:=by
 rw [Bool.eq_iff_iff,decide_eq_true_eq,Bool.not_eq_true',List.any_eq_false]
 constructor
 ·intro h x hx
  obtain⟨j,hj,rfl⟩:=List.getElem_of_mem hx
  rw [List.length_take] at hj
  rw [List.getElem_take]
  have hany:l.any p=true:=List.any_eq_true.2 ⟨_,za0 (by omega),hp⟩
  unfold zbJ at h
  rw [if_pos hany] at h
  have:=List.not_of_lt_findIdx (p:=p) (xs:=l) (i:=j) (by omega)
  simpa using this
 ·intro h
  refine zcs h0 h1 (fun j hj=>?_) hp
  have:=h (l.getD j default) (by
   rw [List.getD_eq_getElem?_getD,List.getElem?_eq_getElem (by omega)]
   exact List.mem_take_iff_getElem.2 ⟨j,by omega,rfl⟩)
  simpa using this
theorem ztM {α:Type} [Inhabited α] {p:α→Bool} {l:List α} {i:Int} (h0:0≤i) (h1:i < (l.length:Int)) (hp:p (l.getD i.toNat default)=true):decide (zbJ p l < i) = !decide (zbJ p l=i):=by
 have hany:l.any p=true:=List.any_eq_true.2 ⟨_,za0 (by omega),hp⟩
 have hle:(l.findIdx p:Int)≤i:=by
  have:l.findIdx p≤i.toNat:=by
   rcases Nat.lt_or_ge i.toNat (l.findIdx p) with g | g
   ·have:=List.not_of_lt_findIdx g
    rw [List.getD_eq_getElem?_getD,List.getElem?_eq_getElem (by omega)] at hp
    simp at hp
    simp [hp] at this
   ·exact g
  omega
 unfold zbJ
 rw [if_pos hany,Bool.eq_iff_iff,decide_eq_true_eq,Bool.not_eq_true',decide_eq_false_iff_not]
 omega
def shAt (S:List ShC) (i:Nat):Bool:=!(S.take i).any (fun z=>z.s.name.toList == (S.getD i default).s.name.toList)&&za4 (S.getD i default).s
def wlAt (S:List ShC) (V:List WlC) (i:Nat):Bool:=decide (0≤zaS S (V.getD i default).s.sheet)&&!(V.take i).any (fun z=>z.s.name.toList == (V.getD i default).s.name.toList)&&zd1 (zav S (V.getD i default).s.sheet).s.height (V.getD i default).s
def zc4 (S:List ShC) (V:List WlC):Bool:=!(decide (20 < (S.length:Int))||decide (50 < (V.length:Int)))&&allI S.length (shAt S)&&allI V.length (wlAt S V)
def zeW (S:List ShC) (V:List WlC):Int:=if zc4 S V=true then 0 else 2
end Go.Pln