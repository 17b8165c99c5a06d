/- What the proof of the root text leans on, part 1: the layer, plain facts and walks. No statement of the seat is proved in this text. -/
import Derived.ArgAppend
import Derived.OrdersIn
import Derived.RangeFuncBound
import Derived.RangeFuncCalls
import Derived.RangeFuncLeaves
import Derived.RangeFuncNested
import Derived.RangeFuncRecord
import Derived.RecoverIn
import Derived.WalkKit
set_option maxRecDepth 100000
set_option maxHeartbeats 32000000
namespace Go
theorem I {α:Sort _} {a:α}:a=a:=rfl
abbrev O (n:Int):Value:=.int .i64 n
abbrev Z (n:Nat):Value:=.pointer (some ⟨n,0,none⟩)
abbrev C (a:Option Addr) (n c:Nat):Value:=.slice a n c
abbrev yO:=Option Addr
abbrev yB:=ByteArray
end Go
namespace Go
theorem nT (b:Bool):((!b)=true)=(b=false):=Bool.not_eq_true' b
theorem oF {x y:Bool}:(x || y)=false ↔ x=false ∧ y=false:=Bool.or_eq_false_iff
theorem dF {p:Prop} {_:Decidable p}:decide p=false ↔ ¬p:=decide_eq_false_iff_not
theorem nF (b:Bool):((!b)=false)=(b=true):=Bool.not_eq_false' b
theorem dT {p:Prop} [Decidable p]:(decide p=true)=p:=decide_eq_true_eq
theorem aT (a b:Bool):((a && b)=true)=(a=true ∧ b=true):=Bool.and_eq_true a b
theorem lC {α:Type _} {a:α} {l:List α}:(a :: l).length=l.length + 1:=List.length_cons
theorem lN {α:Type _}:([]:List α).length=0:=List.length_nil
theorem oD {p:Prop} [Decidable p]:decide p=false → ¬p:=of_decide_eq_false
theorem oT {p:Prop} [Decidable p]:decide p=true → p:=of_decide_eq_true
theorem gE {α:Type _} {l:List α} {i:Nat} {a:α}:l.getD i a=l[i]?.getD a:=List.getD_eq_getElem?_getD
theorem eG {α:Type _} {l:List α} {i:Nat} (h:i<l.length):l[i]?=some l[i]:=List.getElem?_eq_getElem h
theorem bL {n m:Nat}:n.ble m=true → n ≤ m:=Nat.le_of_ble_eq_true
theorem lA {α:Type _} {l m:List α}:(l ++ m).length=l.length + m.length:=List.length_append
theorem sI {α:Type _} (a b:α):(some a=some b)=(a=b):=Option.some.injEq a b
theorem tN {a:Int}:0 ≤ a → (a.toNat:Int)=a:=Int.toNat_of_nonneg
theorem fT : false ≠ true:=Bool.false_ne_true
theorem lL {n m k:Nat}:n<m → m ≤ k → n<k:=Nat.lt_of_lt_of_le
theorem lM {α β:Type _} {l:List α} (f:α → β):(l.map f).length=l.length:=List.length_map f
theorem mS {α:Type _} {a:α} {l:List α}:a ∈ a :: l:=List.mem_cons_self
theorem mM {α:Type _} (y:α) {a:α} {l:List α}:a ∈ l → a ∈ y :: l:=List.mem_cons_of_mem y
end Go
namespace Go.K
open Go Go.RowKit
def lk:List (Nat×Value)→Nat→Option Value
 | [],_=>none
 | (k,v) :: r,t=>bif Nat.beq k t then some v else lk r t
def sub:List (Nat×Value)→List (Nat×Value)→Prop
 | [],_=>True
 | (k,v) :: r,T=>lk T k=some v∧sub r T
structure Sat (n:Nat) (T:List (Nat×Value)) (ds:List Deferred) (a:Act):Prop where
 size:a.tmps.size=n
 val:∀ t v,lk T t=some v→a.tmps[t]?=some v
 defers:a.defers=ds
theorem zta {T':List (Nat×Value)}:∀ (T:List (Nat×Value)),sub T T'→∀ t v,lk T t=some v→lk T' t=some v
 | [],_,_,_,h=>by simp [lk] at h
 | (k,u) :: r,hs,t,v,h=>by
  unfold lk at h
  cases hb:Nat.beq k t with
  | true=>
   rw [hb] at h
   simp only [cond_true,sI] at h
   have:k=t:=Nat.eq_of_beq_eq_true hb
   subst this;subst h
   exact hs.1
  | false=>
   rw [hb] at h
   exact zta r hs.2 t v h
section
variable {n:Nat} {T T':List (Nat×Value)} {ds:List Deferred} {a:Act}
theorem Sat.mono (h:Sat n T ds a) (hs:sub T' T):Sat n T' ds a:=⟨h.size,λ t v ht=>h.val t v (zta T' hs t v ht),h.defers⟩
theorem zdb {d t:Nat} {v:Value} (h:d≠t):lk ((d,v) :: T) t=lk T t:=by
 show(bif Nat.beq d t then some v else lk T t)=lk T t
 have:Nat.beq d t=false:=by
  cases hb:Nat.beq d t with
  | false=>rfl
  | true=>exact absurd (Nat.eq_of_beq_eq_true hb) h
 rw [this];rfl
theorem zcR {d:Nat} {v:Value}:lk ((d,v) :: T) d=some v:=by
 show(bif Nat.beq d d then some v else lk T d)=some v
 rw [Nat.beq_refl];rfl
theorem Sat.put (h:Sat n T ds a) {d:Nat} (hd:d<n) (v:Value):Sat n ((d,v) :: T) ds (a.put (some d) v):=by
 refine⟨by simp [Act.put,h.size],λ t u ht=>?_,h.defers⟩
 simp only [Act.put]
 by_cases hdt:d=t
 ·subst hdt
  rw [zcR] at ht
  cases ht
  simp [h.size,hd]
 ·rw [zdb hdt] at ht
  rw [Array.getElem?_setIfInBounds_ne hdt]
  exact h.val t u ht
def evo (T:List (Nat×Value)):Operand→Option Value
 | .tmp t=>lk T t
 | .const v=>some v
 | .global g=>some (Z g)
 | .func f=>some (.func (.func f) #[] #[])
theorem Sat.eval (h:Sat n T ds a) {x:Operand} {v:Value} (hx:evo T x=some v):a.eval x=v:=by
 cases x with
 | tmp t=>simp only [evo] at hx;simp [Act.eval,h.val t v hx]
 | const u=>simp only [evo,sI] at hx;exact hx
 | global g=>simp only [evo,sI] at hx;exact hx
 | func f=>simp only [evo,sI] at hx;exact hx
def evs (T:List (Nat×Value)):List Operand→Option (List Value)
 | []=>some []
 | x :: r=>match evo T x,evs T r with
  | some v,some vs=>some (v :: vs)
  | _,_=>none
theorem Sat.evals (h:Sat n T ds a):∀ {xs:List Operand} {vs:List Value},evs T xs=some vs→xs.map a.eval=vs
 | [],vs,hv=>by simp only [evs,sI] at hv;subst hv;rfl
 | x :: r,vs,hv=>by
  simp only [evs] at hv
  cases h1:evo T x with
  | none=>rw [h1] at hv;cases hv
  | some v=>
   cases h2:evs T r with
   | none=>rw [h1,h2] at hv;cases hv
   | some us=>
    rw [h1,h2] at hv
    simp only [sI] at hv
    subst hv
    simp [h.eval h1,h.evals h2]
end
structure Res where
 A:(Nat→Prop)→World→Prop
 loc:∀ B w w',(∀ k,B k→w'.heap[k]?=w.heap[k]?)→A B w→A B w'
def Holds:List Res→(Nat→Prop)→World→Prop
 | [],_,_=>True
 | R :: r,U,w=>∃ B,(∀ k,B k→¬ U k∧k<w.heap.size)∧R.A B w∧Holds r (λ k=>U k∨B k) w
structure Tp (w w':World):Prop where
 eq:w'.tape=w.tape
 le:w.drawn≤w'.drawn
theorem Tp.same (w:World):Tp w w:=⟨rfl,Nat.le_refl _⟩
theorem Tp.trans {a b c:World} (h:Tp a b) (k:Tp b c):Tp a c:=⟨k.eq.trans h.eq,Nat.le_trans h.le k.le⟩
structure Base (U:Nat→Prop) (w0 w:World):Prop where
 os:w.os=w0.os
 tape:Tp w0 w
 output:w.output=w0.output
 size:w0.heap.size≤w.heap.size
 lt:∀ k,U k→k<w0.heap.size
 same:∀ k,U k→w.heap[k]?=w0.heap[k]?
structure Hp (U:Nat→Prop) (w0:World) (H:List Res) (w:World):Prop where
 base:Base U w0 w
 holds:Holds H U w
structure Mod (B:Nat→Prop) (w w':World):Prop where
 os:w'.os=w.os
 tape:Tp w w'
 output:w'.output=w.output
 size:w.heap.size≤w'.heap.size
 same:∀ k,k<w.heap.size→¬ B k→w'.heap[k]?=w.heap[k]?
structure Ext (w w':World):Prop where
 os:w'.os=w.os
 tape:Tp w w'
 output:w'.output=w.output
 size:w.heap.size≤w'.heap.size
 block:∀ k,k<w.heap.size→w'.heap[k]?=w.heap[k]?
theorem Ext.below {w w':World} (h:Ext w w'):Below w.heap.size w w':=⟨h.os,h.tape.eq,h.output,h.size,h.block⟩
theorem Ext.of {w w':World} (h:Below w.heap.size w w') (hd:w.drawn≤w'.drawn):Ext w w':=⟨h.os,⟨h.tape,hd⟩,h.output,h.size,h.block⟩
theorem Ext.mod {w w':World} (h:Ext w w') (B:Nat→Prop):Mod B w w':=⟨h.os,h.tape,h.output,h.size,λ k hk _=>h.block k hk⟩
theorem Ext.trans {a b c:World} (h:Ext a b) (k:Ext b c):Ext a c:=⟨k.os.trans h.os,h.tape.trans k.tape,k.output.trans h.output,Nat.le_trans h.size k.size,λ i hi=>(k.block i (lL hi h.size)).trans (h.block i hi)⟩
theorem Ext.rfl {a:World}:Ext a a:=⟨_root_.rfl,Tp.same _,_root_.rfl,Nat.le_refl _,λ _ _=>_root_.rfl⟩
theorem Holds.mod {B:Nat→Prop} {w w':World} (hm:Mod B w w'):∀ (H:List Res) (U:Nat→Prop),(∀ k,B k→U k)→Holds H U w→Holds H U w'
 | [],_,_,_=>trivial
 | R :: r,U,hB,h=>by
  obtain⟨C,hC,hA,hr⟩:=h
  refine⟨C,λ k hk=>⟨(hC k hk).1,lL (hC k hk).2 hm.size⟩,R.loc C w w' (λ k hk=>?_) hA,Holds.mod hm r _ (λ k hk=>.inl (hB k hk)) hr⟩
  exact hm.same k (hC k hk).2 (λ hb=>(hC k hk).1 (hB k hb))
theorem Holds.ext {w w':World} (h:Ext w w') {H:List Res} {U:Nat→Prop} (hh:Holds H U w):Holds H U w':=
 Holds.mod (h.mod (λ _=>False)) H U (λ _ x=>x.elim) hh
theorem Base.mod {U B:Nat→Prop} {w0 w w':World} (h:Base U w0 w) (hm:Mod B w w') (hB:∀ k,B k→¬ U k):Base U w0 w':=
 ⟨hm.os.trans h.os,h.tape.trans hm.tape,hm.output.trans h.output,Nat.le_trans h.size hm.size,h.lt,λ k hk=>
  (hm.same k (lL (h.lt k hk) h.size) (λ hb=>hB k hb hk)).trans (h.same k hk)⟩
theorem Base.ext {U:Nat→Prop} {w0 w w':World} (h:Base U w0 w) (hm:Ext w w'):Base U w0 w':=h.mod (hm.mod (λ _=>False)) (λ _ x=>x.elim)
theorem Hp.ext {U:Nat→Prop} {w0 w w':World} {H:List Res} (h:Hp U w0 H w) (hm:Ext w w'):Hp U w0 H w':=⟨h.base.ext hm,Holds.ext hm h.holds⟩
theorem Holds.anti {w:World}:∀ (H:List Res) {U V:Nat→Prop},(∀ k,V k→U k)→Holds H U w→Holds H V w
 | [],_,_,_,_=>trivial
 | R :: r,U,V,hV,h=>by
  obtain⟨C,hC,hA,hr⟩:=h
  exact⟨C,λ k hk=>⟨λ hv=>(hC k hk).1 (hV k hv),(hC k hk).2⟩,hA,Holds.anti r (λ k hk=>hk.imp (hV k) id) hr⟩
theorem Hp.new {U:Nat→Prop} {w0 w w':World} {H:List Res} (h:Hp U w0 H w) (hm:Ext w w') {R:Res} {B:Nat→Prop}
  (hB:∀ k,B k→w.heap.size≤k∧k<w'.heap.size) (hA:R.A B w'):Hp U w0 (R :: H) w':=by
 refine⟨h.base.ext hm,B,λ k hk=>⟨λ hu=>?_,(hB k hk).2⟩,hA,?_⟩
 ·have:=h.base.lt k hu
  have:=h.base.size
  have:=(hB k hk).1
  omega
 ·have key:∀ (H:List Res) (V:Nat→Prop),Holds H V w→Holds H (λ k=>V k∨B k) w':=by
   intro H
   induction H with
   | nil=>intro _ _;trivial
   | cons R r ih=>
    intro V hh
    obtain⟨C,hC,hA,hr⟩:=hh
    refine⟨C,λ k hk=>⟨λ hv=>?_,lL (hC k hk).2 hm.size⟩,R.loc C w w' (λ k hk=>hm.block k (hC k hk).2) hA,?_⟩
    ·rcases hv with hv|hv
     ·exact(hC k hk).1 hv
     ·have:=(hB k hv).1;have:=(hC k hk).2;omega
    ·exact Holds.anti r (λ k hk=>by rcases hk with (h|h)|h <;> simp [h]) (ih _ hr)
  exact key H U h.holds
theorem Holds.swap {R S:Res} {r:List Res} {U:Nat→Prop} {w:World} (h:Holds (R :: S :: r) U w):Holds (S :: R :: r) U w:=by
 obtain⟨B,hB,hA,C,hC,hA',hr⟩:=h
 exact⟨C,λ k hk=>⟨λ hu=>(hC k hk).1 (.inl hu),(hC k hk).2⟩,hA',B,λ k hk=>⟨λ hu=>hu.elim (hB k hk).1 (λ hc=>(hC k hc).1 (.inr hk)),(hB k hk).2⟩,hA,
  Holds.anti r (λ k hk=>by rcases hk with (h|h)|h <;> simp [h]) hr⟩
theorem Holds.front {w:World}:∀ (H:List Res) (p:Nat) {R:Res} {U:Nat→Prop},H[p]?=some R→Holds H U w→Holds (R :: H.eraseIdx p) U w
 | [],_,_,_,h,_=>by simp at h
 | S :: r,0,R,U,h,hh=>by simp only [List.getElem?_cons_zero,sI] at h;subst h;exact hh
 | S :: r,p+1,R,U,h,hh=>by
  simp only [List.getElem?_cons_succ] at h
  obtain⟨B,hB,hA,hr⟩:=hh
  exact Holds.swap ⟨B,hB,hA,Holds.front r p h hr⟩
theorem Holds.back {w:World}:∀ (H:List Res) (p:Nat) {R R':Res} {U:Nat→Prop},H[p]?=some R→Holds (R' :: H.eraseIdx p) U w→Holds (H.set p R') U w
 | [],_,_,_,_,h,_=>by simp at h
 | S :: r,0,R,R',U,h,hh=>hh
 | S :: r,p+1,R,R',U,h,hh=>by
  simp only [List.getElem?_cons_succ] at h
  obtain⟨B,hB,hA,hr⟩:=Holds.swap (R:=R') (S:=S) (r:=r.eraseIdx p) hh
  exact⟨B,hB,hA,Holds.back r p h hr⟩
theorem Hp.drop {U:Nat→Prop} {w0 w:World} {R:Res} {H:List Res} (h:Hp U w0 (R :: H) w):Hp U w0 H w:=
 ⟨h.base,let ⟨_,_,_,hr⟩:=h.holds;Holds.anti H (λ _ hk=>.inl hk) hr⟩
theorem Hp.swap {U:Nat→Prop} {w0 w:World} {R S:Res} {H:List Res} (h:Hp U w0 (R :: S :: H) w):Hp U w0 (S :: R :: H) w:=⟨h.base,h.holds.swap⟩
def Has (w:World) (R:Res):Prop:=∃ B,(∀ k,B k→k<w.heap.size)∧R.A B w
theorem Has.ext {w w':World} {R:Res} (h:Has w R) (hm:Ext w w'):Has w' R:=by
 obtain⟨B,hB,hA⟩:=h
 exact⟨B,λ k hk=>lL (hB k hk) hm.size,R.loc B w w' (λ k hk=>hm.block k (hB k hk)) hA⟩
theorem Hp.has {U:Nat→Prop} {w0 w:World} {H:List Res} (h:Hp U w0 H w) {p:Nat} {R:Res} (hp:H[p]?=some R):Has w R:=by
 obtain⟨B,hB,hA,_⟩:=Holds.front H p hp h.holds
 exact⟨B,λ k hk=>(hB k hk).2,hA⟩
def Rd (U:Nat→Prop) (w:World) (R:Res):Prop:=∃ B,(∀ k,B k→U k)∧R.A B w
theorem Rd.has {U:Nat→Prop} {w0 w:World} {H:List Res} {R:Res} (h:Rd U w0 R) (hp:Hp U w0 H w):Has w R:=by
 obtain⟨B,hB,hA⟩:=h
 exact⟨B,λ k hk=>lL (hp.base.lt k (hB k hk)) hp.base.size,R.loc B w0 w (λ k hk=>hp.base.same k (hB k hk)) hA⟩
theorem Has.rd {w:World} {R:Res} (h:Has w R):Rd (· < w.heap.size) w R:=h
theorem rH {w0 w:World} {R:Res} {H:List Res} (h:Has w0 R) (hp:Hp (· < w0.heap.size) w0 H w):Has w R:=Rd.has (Has.rd h) hp
theorem Hp.upd {U:Nat→Prop} {w0 w w':World} {H:List Res} (h:Hp U w0 H w) {p:Nat} {R R':Res} (hp:H[p]?=some R)
  (hu:∀ B,(∀ k,B k→k<w.heap.size)→R.A B w→∃ B',Mod B w w'∧(∀ k,B' k→B k∨(w.heap.size≤k∧k<w'.heap.size))∧R'.A B' w'):Hp U w0 (H.set p R') w':=by
 obtain⟨B,hB,hA,hr⟩:=Holds.front H p hp h.holds
 obtain⟨B',hm,hB',hA'⟩:=hu B (λ k hk=>(hB k hk).2) hA
 refine⟨h.base.mod hm (λ k hk=>(hB k hk).1),Holds.back H p hp ⟨B',λ k hk=>?_,hA',?_⟩⟩
 ·rcases hB' k hk with hb | ⟨h1,h2⟩
  ·exact⟨(hB k hb).1,lL (hB k hb).2 hm.size⟩
  ·refine⟨λ hu=>?_,h2⟩
   have:=h.base.lt k hu;have:=h.base.size;omega
 ·have key:∀ (H:List Res) (V:Nat→Prop),(∀ k,V k→k<w.heap.size→¬ B' k∨V k)→Holds H (λ k=>V k∨B k) w→Holds H (λ k=>V k∨B' k) w':=by
   intro H
   induction H with
   | nil=>intro _ _ _;trivial
   | cons S r ih=>
    intro V hV hh
    obtain⟨C,hC,hA,hr⟩:=hh
    refine⟨C,λ k hk=>⟨λ hv=>?_,lL (hC k hk).2 hm.size⟩,S.loc C w w' (λ k hk=>hm.same k (hC k hk).2 (λ hb=>(hC k hk).1 (.inr hb))) hA,?_⟩
    ·rcases hv with hv|hv
     ·exact(hC k hk).1 (.inl hv)
     ·rcases hB' k hv with hb | ⟨h1,_⟩
      ·exact(hC k hk).1 (.inr hb)
      ·have:=(hC k hk).2;omega
    ·have:=ih (λ k=>V k∨C k) (λ k hk _=>.inr hk) (Holds.anti r (λ k hk=>by rcases hk with (h|h)|h <;> simp [h]) hr)
     exact Holds.anti r (λ k hk=>by rcases hk with (h|h)|h <;> simp [h]) this
  exact key _ U (λ k hk _=>.inr hk) hr
def FW (r:Option Nat):Fence:={ fn:=λ _=>True,depth:=none,alive:=false,round:=r }
theorem zfz {r:Option Nat} {n:Nat} {P:Program} {f:FuncId} {args:Array Value} {w:World} {R:Ending→World→Prop} :
  CallsIn (FW r) n P f args w R↔Calls P f args w R:=by
 show CallsIn Fence.wide n P f args w R↔_
 exact callsIn_wide
structure Cx where
 r:Option Nat
 P:Program
 n:Nat
 U:Nat→Prop
 w0:World
structure Post where
 nrm:Act→World→Prop
 ret:Act→World→Prop
 ex:List (Nat×(Act→World→Prop))
 pn:Act→List PanicEntry→World→Prop:=λ _ _ _=>False
def lke:List (Nat×(Act→World→Prop))→Nat→Option (Act→World→Prop)
 | [],_=>none
 | (k,v) :: r,t=>bif Nat.beq k t then some v else lke r t
def Post.Q (p:Post):Exit→Act→World→Prop
 | .normal,a,w=>p.nrm a w
 | .ret,a,w=>p.ret a w
 | .exit id,a,w=>match lke p.ex id with
  | some K=>K a w
  | none=>False
 | .goto _,_,_=>False
 | .panic ch,a,w=>p.pn a ch w
 | .outgrown,_,_=>False
def KC (c:Cx) (code:Code) (p:Post):Act→World→Prop:=λ a w=>code.wpIn (FW c.r) 0 c.P p.Q a w
def KL (c:Cx) (ops:Array Oper) (p:Post) (rest:List Oper):Act→World→Prop:=λ a w=>wpListIn (FW c.r) 0 c.P ops p.Q rest a w
def GK (c:Cx) (ds:List Deferred) (K:Act→World→Prop) (T:List (Nat×Value)) (H:List Res):Prop:=
 ∀ a w,Sat c.n T ds a→Hp c.U c.w0 H w→K a w
section
variable {c:Cx} {ds:List Deferred} {p:Post} {T T':List (Nat×Value)} {H H':List Res} {K:Act→World→Prop}
theorem zae (hs:sub T' T) (h:GK c ds K T' H):GK c ds K T H:=λ a w ha hw=>h a w (ha.mono hs) hw
theorem ztW {R:Res} (h:GK c ds K T H):GK c ds K T (R :: H):=λ a w ha hw=>h a w ha hw.drop
theorem zao {R:Res} (i:Nat) (hR:H[i]?=some R) (h:GK c ds K T (R :: H.eraseIdx i)):GK c ds K T H:=λ a w ha hw=>h a w ha ⟨hw.base,Holds.front H i hR hw.holds⟩
theorem zaK (i:Nat) {R:Res} (hR:H[i]?=some R) (h:GK c ds K T (H.eraseIdx i)):GK c ds K T H:=zao i hR (ztW h)
theorem zac {x y:Code} (h:GK c ds (KC c x { nrm:=KC c y p,ret:=p.ret,ex:=p.ex,pn:=p.pn }) T H):GK c ds (KC c (.seq x y) p) T H:=by
 intro a w ha hw
 refine wpIn_seq (Go.wpIn_mono (h a w ha hw) ?_)
 intro e a w hq
 cases e <;> first|exact hq|exact hq.elim
theorem zaa {id:Nat} {l:List Oper} (h:GK c ds (KL c l.toArray p l) T H):GK c ds (KC c (.region id l.toArray false) p) T H:=
 λ a w ha hw=>wpIn_region_lit (h a w ha hw)
theorem zag {ops:Array Oper} (h:GK c ds p.nrm T H):GK c ds (KL c ops p []) T H:=λ a w ha hw=>h a w ha hw
def lks (T:List (Nat×Value)):List Nat→Option (List (Nat×Value))
 | []=>some []
 | k :: ks=>match lk T k,lks T ks with
  | some v,some r=>some ((k,v) :: r)
  | _,_=>none
theorem sub_lks {T:List (Nat×Value)}:∀ {ks:List Nat} {r:List (Nat×Value)},lks T ks=some r→sub r T
 | [],r,h=>by cases h;trivial
 | k :: ks,r,h=>by
  unfold lks at h
  split at h
  ·rename_i v q h1 h2
   cases h
   exact⟨h1,sub_lks h2⟩
  ·cases h
theorem gK {c:Cx} {ds:List Deferred} {T T':List (Nat×Value)} {H:List Res} {K:Act→World→Prop} (ks:List Nat) (h:lks T ks=some T') (k:GK c ds K T' H):GK c ds K T H:=zae (sub_lks h) k
theorem gN {c:Cx} {ds:List Deferred} {ops:Array Oper} {p:Post} {T T':List (Nat×Value)} {H:List Res} (ks:List Nat) (h:lks T ks=some T') (k:GK c ds p.nrm T' H):GK c ds (KL c ops p []) T H:=zag (gK ks h k)
theorem sB {T r:List (Nat×Value)} (h:lks T (r.map (·.1))=some r):sub r T:=sub_lks h
theorem zaq (h:GK c ds p.nrm T H):GK c ds (KC c .skip p) T H:=λ a w ha hw=>wpIn_skip (h a w ha hw)
theorem zaw (h:GK c ds p.ret T H):GK c ds (KC c .ret p) T H:=λ a w ha hw=>wpIn_ret (h a w ha hw)
theorem za8 {id:Nat} (hk:lke p.ex id=some K) (h:GK c ds K T H):GK c ds (KC c (.exit id) p) T H:=
 λ a w ha hw=>wpIn_exit (by show(match lke p.ex id with|some K=>K a w|none=>False);rw [hk];exact h a w ha hw)
theorem zas {id:Nat} {body:Code} (h:GK c ds (KC c body { nrm:=p.nrm,ret:=p.ret,ex:=(id,p.nrm) :: p.ex,pn:=p.pn }) T H):GK c ds (KC c (.block id body) p) T H:=by
 intro a w ha hw
 refine wpIn_block (Go.wpIn_mono (h a w ha hw) ?_)
 intro e a w hq
 cases e with
 | exit id'=>
  show(if id' = id then p.Q .normal a w else p.Q (.exit id') a w)
  change (match lke ((id,p.nrm) :: p.ex) id' with|some K=>K a w|none=>False) at hq
  by_cases he:id' = id
  ·subst he
   rw [if_pos I]
   have:lke ((id',p.nrm) :: p.ex) id' = some p.nrm:=by show(bif Nat.beq id' id' then _ else _)=_;rw [Nat.beq_refl];rfl
   rw [this] at hq
   exact hq
  ·rw [if_neg he]
   have:lke ((id,p.nrm) :: p.ex) id' = lke p.ex id':=by
    show(bif Nat.beq id id' then _ else _)=_
    have hb:Nat.beq id id' = false:=by
     cases hb:Nat.beq id id' with
     | false=>rfl
     | true=>exact absurd (Nat.eq_of_beq_eq_true hb).symm he
    rw [hb];rfl
   rw [this] at hq
   exact hq
 | normal=>exact hq
 | ret=>exact hq
 | goto l=>exact hq.elim
 | panic ch=>exact hq
 | outgrown=>exact hq.elim
theorem zap {x:Operand} {A B:Code} {b:Bool} (hx:evo T x=some (.bool b)) (h1:b=true→GK c ds (KC c A p) T H) (h2:b=false→GK c ds (KC c B p) T H) :
  GK c ds (KC c (.cond x A B) p) T H:=λ a w ha hw=>
 wpIn_cond_split (ha.eval hx) (λ hb=>h1 hb a w ha hw) (λ hb=>h2 hb a w ha hw)
theorem zdg {x:Operand} {A B:Code} (hx:evo T x=some (.bool true)) (h1:GK c ds (KC c A p) T H):GK c ds (KC c (.cond x A B) p) T H:=λ a w ha hw=>wpIn_cond_true (ha.eval hx) (h1 a w ha hw)
theorem zd8 {x:Operand} {A B:Code} (hx:evo T x=some (.bool false)) (h1:GK c ds (KC c B p) T H):GK c ds (KC c (.cond x A B) p) T H:=λ a w ha hw=>wpIn_cond_false (ha.eval hx) (h1 a w ha hw)
def Nxt (c:Cx) (ds:List Deferred) {X:Type} (Tf:X→List (Nat×Value)) (Hf:X→List Res) (I:X→Prop) (μ:X→Nat) (m:Nat):Act→World→Prop:=
 λ a w=>∃ x',Sat c.n (Tf x') ds a∧Hp c.U c.w0 (Hf x') w∧I x'∧μ x' < m
def Join (c:Cx) (ds:List Deferred) {X:Type} (Tf:X→List (Nat×Value)) (Hf:X→List Res) (I:X→Prop):Act→World→Prop:=
 λ a w=>∃ x',Sat c.n (Tf x') ds a∧Hp c.U c.w0 (Hf x') w∧I x'
theorem za1 {X:Type} {Tf:X→List (Nat×Value)} {Hf:X→List Res} {I:X→Prop} {μ:X→Nat} {m:Nat} (x':X) (hT:sub (Tf x') T) (hH:Hf x' = H) (hI:I x') (hm:μ x' < m) :
  GK c ds (Nxt c ds Tf Hf I μ m) T H:=λ _ _ ha hw=>⟨x',ha.mono hT,hH ▸ hw,hI,hm⟩
theorem zb9 {X:Type} {Tf:X→List (Nat×Value)} {Hf:X→List Res} {I:X→Prop} (x':X) (hT:sub (Tf x') T) (hH:Hf x' = H) (hI:I x') :
  GK c ds (Join c ds Tf Hf I) T H:=λ _ _ ha hw=>⟨x',ha.mono hT,hH ▸ hw,hI⟩
theorem zbf {body:Code} {X:Type} (Tf:X→List (Nat×Value)) (Hf:X→List Res) (I:X→Prop) (μ:X→Nat) (x0:X) (hT:sub (Tf x0) T) (hH:Hf x0=H) (hI:I x0)
  (round:∀ x,I x→GK c ds (KC c body { nrm:=Nxt c ds Tf Hf I μ (μ x),ret:=p.ret,ex:=p.ex,pn:=p.pn }) (Tf x) (Hf x)):GK c ds (KC c (.loop body) p) T H:=by
 subst hH
 intro a w ha hw
 have key:∀ (m:Nat) (x:X),μ x=m→I x→∀ a w,Sat c.n (Tf x) ds a→Hp c.U c.w0 (Hf x) w →
   ∀ (b:Frame) (k:List Item) (cs:List Frame),b.roundOf=(FW c.r).round→(FW c.r).fn b.fn→(FW c.r).room (cs.length+1+0) →
   ∃ e a' w',p.Q e a' w'∧ArrivesIn (Machine.fenced c.P (FW c.r)) c.P (lone (b.atR a (.code body :: .inLoop body :: k)) cs w) b k cs e a' w':=by
  intro m
  induction m using Nat.strongRecOn with
  | _ m ih=>
   intro x hm hI a w ha hw b k cs hro hb hr
   obtain⟨e,a₁,w₁,hq,harr⟩:=round x hI a w ha hw b (.inLoop body :: k) cs hro hb hr
   cases e with
   | normal=>
    obtain⟨x',ha',hw',hI',hlt⟩:=hq
    obtain⟨e₂,a₂,w₂,hq₂,harr₂⟩:=ih (μ x') (hm ▸ hlt) x' rfl hI' a₁ w₁ ha' hw' b k cs hro hb hr
    exact⟨e₂,a₂,w₂,hq₂,.of_steps (StepsIn.trans harr (.one (fenced_calm hb hr rfl) stepR_inLoop)) harr₂⟩
   | exit id=>exact⟨.exit id,a₁,w₁,hq,.pass (x:=.inLoop body) rfl (λ _ _=>.inl (by simp)) harr⟩
   | ret=>exact⟨.ret,a₁,w₁,hq,.pass (x:=.inLoop body) rfl (λ _ _=>.inl (by simp)) harr⟩
   | goto l=>exact hq.elim
   | panic ch=>exact⟨.panic ch,a₁,w₁,hq,.pass (x:=.inLoop body) rfl (λ _ _=>.inl (by simp)) harr⟩
   | outgrown=>exact hq.elim
 intro b k cs hro hb hr
 obtain⟨e,a',w',hq,harr⟩:=key _ x0 rfl hI a w (ha.mono hT) hw b k cs hro hb hr
 exact⟨e,a',w',hq,.of_steps (.one (fenced_calm hb hr rfl) stepR_loop) harr⟩
theorem zih {x y:Code} {X:Type} (Tf:X→List (Nat×Value)) (Hf:X→List Res) (I:X→Prop)
  (h1:GK c ds (KC c x { nrm:=Join c ds Tf Hf I,ret:=p.ret,ex:=p.ex,pn:=p.pn }) T H)
  (h2:∀ x,I x→GK c ds (KC c y p) (Tf x) (Hf x)):GK c ds (KC c (.seq x y) p) T H:=by
 refine zac ?_
 intro a w ha hw
 refine Go.wpIn_mono (h1 a w ha hw) ?_
 intro e a w hq
 cases e with
 | normal=>
  obtain⟨x',ha',hw',hI⟩:=hq
  exact h2 x' hI a w ha' hw'
 | exit id=>exact hq
 | ret=>exact hq
 | goto l=>exact hq.elim
 | panic ch=>exact hq
 | outgrown=>exact hq.elim
end
def idx:Nat→List Value→List (Nat×Value)
 | _,[]=>[]
 | i,v :: r=>(i,v) :: idx (i+1) r
theorem zs0:∀ (l:List Value) (i t:Nat) (v:Value),lk (idx i l) t=some v→i≤t∧l[t - i]?=some v
 | [],_,_,_,h=>by simp [idx,lk] at h
 | u :: r,i,t,v,h=>by
  by_cases hit:i=t
  ·subst hit
   rw [idx,zcR] at h
   simp at h
   subst h
   simp
  ·rw [idx,zdb hit] at h
   obtain⟨h1,h2⟩:=zs0 r (i+1) t v h
   refine⟨by omega,?_⟩
   have:t - i=(t - (i+1))+1:=by omega
   rw [this]
   simpa using h2
theorem zko {n:Nat} {vs:List Value} (hn:vs.length≤n):Sat n (idx 0 vs) [] { tmps:=vs.toArray++Array.replicate (n - vs.toArray.size) undef,defers:=[] }:=by
 refine⟨by simp;omega,λ t v h=>?_,rfl⟩
 obtain⟨_,h2⟩:=zs0 vs 0 t v h
 simp only [Nat.sub_zero] at h2
 have hlt:t<vs.length:=(List.getElem?_eq_some_iff.1 h2).1
 rw [Array.getElem?_append_left (by simpa using hlt)]
 simpa using h2
def RetP (P:Program) (fn:Func) (R:Ending→World→Prop):Act→World→Prop:=λ a w=>LeavesInM Fence.wide 0 P fn a.tmps R a.defers .returning w
def cxOf (P:Program) (n:Nat) (w:World):Cx:={ r:=none,P:=P,n:=n,U:=λ k=>k<w.heap.size,w0:=w }
def poOf (P:Program) (fn:Func) (R:Ending→World→Prop):Post:={ nrm:=RetP P fn R,ret:=RetP P fn R,ex:=[],pn:=λ a ch w=>LeavesInM Fence.wide 0 P fn a.tmps R a.defers (.panicking ch) w }
theorem zry (w:World):Hp (λ k=>k<w.heap.size) w [] w:=⟨⟨rfl,Tp.same _,rfl,Nat.le_refl _,λ _ h=>h,λ _ _=>rfl⟩,trivial⟩
theorem zan {P:Program} {f:FuncId} {fn:Func} {code:Code} {n:Nat} {vs:List Value} {w:World} {R:Ending→World→Prop}
  (hf:P.funcs[f]?=some fn) (hb:fn.body=some code) (hn:fn.ntmps=n) (hl:vs.length≤n)
  (h:GK (cxOf P n w) [] (KC (cxOf P n w) code (poOf P fn R)) (idx 0 vs) []):Calls P f vs.toArray w R:=by
 subst hn
 refine callsIn_wide (n:=0).1 (callsIn_of_wp_marks hf hb trivial (Go.wpIn_mono (h _ _ (zko hl) (zry w)) ?_))
 intro e a w hq
 cases e with
 | normal=>exact hq
 | ret=>exact hq
 | exit id=>exact hq.elim
 | goto l=>exact hq.elim
 | panic ch=>exact hq
 | outgrown=>exact hq.elim
def RV (c:Cx) (ds:List Deferred) (T:List (Nat×Value)) (H:List Res) (fn:Func) (v:Value):Prop:=
 ∀ a w,Sat c.n T ds a→Hp c.U c.w0 H w→(results fn a.tmps).run c.P w=.ok v w
theorem zfh {c:Cx} {T:List (Nat×Value)} {H:List Res} {fn:Func} {R:Ending→World→Prop} {v:Value} (hv:RV c [] T H fn v)
  (h:∀ w,Hp c.U c.w0 H w→R (.returned v) w):GK c [] (RetP c.P fn R) T H:=by
 intro a w ha hw
 show LeavesInM Fence.wide 0 c.P fn a.tmps R a.defers .returning w
 rw [ha.defers]
 exact⟨v,hv a w ha hw,h w hw⟩
def zfO (o:Oper):Bool:=match o.op with
 | .defer _=>true
 | _=>false
def Yld (P:Program) (o:Oper) (a:Act) (w:World) (R:Value→World→Prop):Prop:=
 match (execOp a.eval o).run P w with
 | .ok (.value v) w'=>R v w'
 | .ok .skip w'=>R undef w'
 | .ok (.enter f args) w'=>Calls P f args w' (λ e w''=>∃ v,e=.returned v∧R v w'')
 | .ok (.round l f tmps assign body) w'=>RoundIn Fence.wide 0 P l f tmps assign body w' (λ e w''=>∃ v,e=.returned v∧R v w'')
 | _=>False
theorem Yld.mono {P:Program} {o:Oper} {a:Act} {w:World} {R R':Value→World→Prop} (h:Yld P o a w R) (hr:∀ v w',R v w'→R' v w'):Yld P o a w R':=by
 unfold Yld at *
 generalize (execOp a.eval o).run P w=r at *
 cases r with
 | halt x w'=>exact h
 | ok n w'=>
  cases n <;> first
   | exact hr _ _ h
   | exact Calls.mono h (λ e w'' ⟨v,he,hv⟩=>⟨v,he,hr _ _ hv⟩)
   | exact RoundIn.mono h (λ e w'' ⟨v,he,hv⟩=>⟨v,he,hr _ _ hv⟩)
   | exact h
theorem za9 {r:Option Nat} {P:Program} {o:Oper} {a:Act} {w:World} {R:Value→World→Prop} {next:Act→World→Prop} {Q:Exit→Act→World→Prop}
  (hd:zfO o=false) (h:Yld P o a w R) (hn:∀ v w',R v w'→next (a.put o.dst v) w'):o.wpIn (FW r) 0 P a w next Q:=by
 refine⟨λ _ _=>trivial,?_⟩
 rw [Oper.semAt_eq _ _ _ (λ c hc=>by simp [zfO,hc] at hd)]
 unfold Yld at h
 generalize (execOp a.eval o).run P w=x at *
 cases x with
 | halt x w'=>exact h.elim
 | ok n w'=>
  cases n with
  | value v=>exact hn _ _ h
  | skip=>exact hn _ _ h
  | enter f args=>
   refine⟨λ hx=>by simp [FW] at hx,zfz.2 (Calls.mono h ?_)⟩
   rintro e w'' ⟨v,rfl,hv⟩
   exact hn _ _ hv
  | round l f tmps assign body=>
   refine⟨λ hx=>by simp [FW] at hx,?_⟩
   have h2:RoundIn (FW r) (0 - 1) P l f tmps assign body w' (λ e w''=>∃ v,e=.returned v∧R v w''):=⟨trivial,λ c cs _=>h.2 c cs (room_wide _)⟩
   refine h2.mono ?_
   rintro e w'' ⟨v,rfl,hv⟩
   exact hn _ _ hv
  | _=>exact h.elim
def putT (dst:Option Nat) (v:Value) (T:List (Nat×Value)):List (Nat×Value):=match dst with
 | some d=>(d,v) :: T
 | none=>T
def zhp (dst:Option Nat) (n:Nat):Bool:=match dst with
 | some d=>Nat.blt d n
 | none=>true
theorem Sat.putT {n:Nat} {T:List (Nat×Value)} {ds:List Deferred} {a:Act} (h:Sat n T ds a) {dst:Option Nat} (hd:zhp dst n=true) (v:Value):Sat n (putT dst v T) ds (a.put dst v):=by
 cases dst with
 | none=>exact h
 | some d=>exact h.put (bL hd) v
section
variable {c:Cx} {ds:List Deferred} {p:Post} {T:List (Nat×Value)} {H:List Res} {ops:Array Oper} {rest:List Oper} {o:Oper}
theorem zrv (hg:o.guard=none) (hd:zfO o=false)
  (h:∀ a w,Sat c.n T ds a→Hp c.U c.w0 H w→Yld c.P o a w (λ v w'=>KL c ops p rest (a.put o.dst v) w')):GK c ds (KL c ops p (o :: rest)) T H:=by
 intro a w ha hw
 show wpListIn (FW c.r) 0 c.P ops p.Q (o :: rest) a w
 unfold wpListIn
 rw [if_pos (by simp [Region.wanted,hg])]
 exact za9 hd (h a w ha hw) (λ v w' h=>h)
theorem zif {X:Type} (V:X→Value) (Hf:X→List Res) (hg:o.guard=none) (hd:zfO o=false) (hn:zhp o.dst c.n=true)
  (h:∀ a w,Sat c.n T ds a→Hp c.U c.w0 H w→Yld c.P o a w (λ v w'=>∃ x,v=V x∧Hp c.U c.w0 (Hf x) w'))
  (k:∀ x,GK c ds (KL c ops p rest) (putT o.dst (V x) T) (Hf x)):GK c ds (KL c ops p (o :: rest)) T H:=
 zrv hg hd λ a w ha hw=>(h a w ha hw).mono λ v w' ⟨x,hv,hw'⟩=>by subst hv;exact k x _ _ (ha.putT hn _) hw'
structure Y (c:Cx) (ds:List Deferred) (H:List Res) (T:List (Nat×Value)) (o:Oper) (v:Value):Prop where
 run:∀ a w,Sat c.n T ds a→Hp c.U c.w0 H w→Yld c.P o a w (λ v' w'=>v' = v∧Ext w w')
structure YX (c:Cx) (ds:List Deferred) (H:List Res) (T:List (Nat×Value)) (o:Oper) {X:Type} (V:X→Value) (A:X→Res):Prop where
 run:∀ a w,Sat c.n T ds a→Hp c.U c.w0 H w→Yld c.P o a w (λ v w'=>∃ x,v=V x∧Ext w w'∧∃ B:Nat→Prop,(∀ k,B k→w.heap.size≤k∧k<w'.heap.size)∧(A x).A B w')
end
def zim (o:Op):Bool:=match o with
 | .defer _=>true
 | _=>false
section
variable {c:Cx} {ds:List Deferred} {p:Post} {T:List (Nat×Value)} {H:List Res} {ops:Array Oper} {rest:List Oper} {op:Op} {d:Nat} {ty:TypeId} {ps:String} {af:Array Edge}
theorem zj6 (h:zim op=false) {dst:Option Nat} {g:Option (Nat×Bool)}:zfO ⟨dst,op,ty,ps,af,g⟩=false:=by
 unfold zfO
 cases op <;> first|rfl|simp [zim] at h
theorem gk_y {v:Value} (hd:zim op=false) (hn:Nat.blt d c.n=true) (h:Y c ds H T ⟨some d,op,ty,ps,af,none⟩ v)
  (k:GK c ds (KL c ops p rest) ((d,v) :: T) H):GK c ds (KL c ops p (⟨some d,op,ty,ps,af,none⟩ :: rest)) T H:=
 zrv I (zj6 hd) λ a w ha hw=>(h.run a w ha hw).mono λ v w' ⟨hv,hw'⟩=>by subst hv;exact k _ _ (ha.putT (dst:=some d) hn _) (hw.ext hw')
theorem gQ {v:Value} (h:Y c ds H T ⟨some d,op,ty,ps,af,none⟩ v) (k:GK c ds (KL c ops p rest) ((d,v)::T) H) (hd:zim op=false:=by rfl) (hn:Nat.blt d c.n=true:=by rfl):GK c ds (KL c ops p (⟨some d,op,ty,ps,af,none⟩::rest)) T H:=gk_y hd hn h k
theorem zaG {X:Type} {V:X→Value} {A:X→Res} (hd:zim op=false) (hn:Nat.blt d c.n=true) (h:YX c ds H T ⟨some d,op,ty,ps,af,none⟩ V A)
  (k:∀ x,GK c ds (KL c ops p rest) ((d,V x) :: T) (A x :: H)):GK c ds (KL c ops p (⟨some d,op,ty,ps,af,none⟩ :: rest)) T H:=
 zrv I (zj6 hd) λ a w ha hw=>(h.run a w ha hw).mono λ v w' ⟨x,hv,hw',B,hB,hA⟩=>by subst hv;exact k x _ _ (ha.putT (dst:=some d) hn _) (hw.new hw' hB hA)
theorem zjZ {H':List Res} (hd:zim op=false) (h:∀ a w,Sat c.n T ds a→Hp c.U c.w0 H w→Yld c.P ⟨none,op,ty,ps,af,none⟩ a w (λ _ w'=>Hp c.U c.w0 H' w'))
  (k:GK c ds (KL c ops p rest) T H'):GK c ds (KL c ops p (⟨none,op,ty,ps,af,none⟩ :: rest)) T H:=
 zrv I (zj6 hd) λ a w ha hw=>(h a w ha hw).mono λ v _ hw'=>k _ _ (ha.putT (dst:=none) I v) hw'
end
structure TF (P:Program) (t:TypeId) (agg:Bool) (k:Nat) (z:Value):Prop where
 a:(P.underlying t).map (λ d=>match d with | .struct _=>true | .array _ _=>true|_=>false)=some agg
 i:(P.info? t).map (λ i=>(i.size,i.zero))=some (k,some z)
theorem tK {P:Program} {t:TypeId} {agg:Bool} {k:Nat} {z:Value} (a:(P.underlying t).map (λ d=>match d with | .struct _=>true | .array _ _=>true|_=>false)=some agg:=by kernel_rfl) (i:(P.info? t).map (λ i=>(i.size,i.zero))=some (k,some z):=by kernel_rfl):TF P t agg k z:=⟨a,i⟩
structure FO (P:Program) (S:TypeId) (f k:Nat):Prop where
 o:(P.underlying S).bind (λ d=>match d with | .struct fs=>(fs[f]?).bind (λ fl=>((P.info? fl.type).map (λ i=>(fl.offset,Nat.blt 0 i.size))))|_=>none)=some (k,true)
theorem fK {P:Program} {S:TypeId} {f k:Nat} (o:(P.underlying S).bind (λ d=>match d with | .struct fs=>(fs[f]?).bind (λ fl=>((P.info? fl.type).map (λ i=>(fl.offset,Nat.blt 0 i.size))))|_=>none)=some (k,true):=by kernel_rfl):FO P S f k:=⟨o⟩
structure SE (P:Program) (t e:TypeId) (k:Nat):Prop where
 u:P.underlying t=some (.slice e)
 i:(P.info? e).map (λ i=>i.size)=some k
def En (P:Program) (f:FuncId):Prop:=∀ args w,(callFunc f args).run P w=.ok (.enter f args) w
section
variable {P:Program} {w:World}
theorem zal {α β:Type} {s:Sem α} {f:α→Sem β} {v:α} {w':World} (h:s.run P w=.ok v w'):(s >>= f).run P w=(f v).run P w':=by
 simp [Sem.run_bind,h,Result.andThen]
theorem zfK {t:TypeId} {i:TypeInfo} (h:P.info? t=some i):(typeInfo t).run P w=.ok i w:=by
 simp [typeInfo,program,h,bind,Sem.bind,Sem.run,pure]
theorem zaU {t:TypeId} {d:TypeDesc} (h:P.underlying t=some d):(underlying t).run P w=.ok d w:=by
 simp [underlying,program,h,bind,Sem.bind,Sem.run,pure]
theorem TF.agg {t:TypeId} {g:Bool} {k:Nat} {z:Value} (h:TF P t g k z):(isAgg t).run P w=.ok g w:=by
 have ha:=h.a
 cases hu:P.underlying t with
 | none=>rw [hu] at ha;cases ha
 | some d=>
  rw [hu] at ha
  simp only [Option.map_some,sI] at ha
  unfold isAgg
  rw [zal (zaU hu)]
  cases d <;> simp_all [pure]
theorem TF.size {t:TypeId} {g:Bool} {k:Nat} {z:Value} (h:TF P t g k z):(sizeOf t).run P w=.ok k w:=by
 have hi:=h.i
 cases hu:P.info? t with
 | none=>rw [hu] at hi;cases hi
 | some i=>
  rw [hu] at hi
  simp only [Option.map_some,sI,Prod.mk.injEq] at hi
  unfold sizeOf
  rw [zal (zfK hu)]
  simp [pure,hi.1]
theorem TF.zero {t:TypeId} {g:Bool} {k:Nat} {z:Value} (h:TF P t g k z):(zeroValue t).run P w=.ok z w:=by
 have hi:=h.i
 cases hu:P.info? t with
 | none=>rw [hu] at hi;cases hi
 | some i=>
  rw [hu] at hi
  simp only [Option.map_some,sI,Prod.mk.injEq] at hi
  unfold zeroValue
  rw [zal (zfK hu)]
  simp [pure,hi.2]
theorem zcG (o:Obj):Ext w (w.alloc o):=Ext.of ((Below.refl _ _).alloc (Nat.le_refl _) _) (Nat.le_refl _)
end
def Box (b:Nat) (cs:List Value) (t:TypeId):Res where
 A B w:=(∀ k,B k↔k=b)∧w.heap[b]?=some (.cells cs.toArray t (0,0))
 loc _ _ _ h hA:=⟨hA.1,(h b ((hA.1 b).2 I)).trans hA.2⟩
theorem zaQ {w:World} {b:Nat} {cs:List Value} {t:TypeId} (h:Has w (Box b cs t)) {o:Nat} {v:Value} (hv:cs[o]?=some v):w.cell? ⟨b,o,none⟩=some v:=by
 obtain⟨B,hB,hA⟩:=h
 simp only [World.cell?,hA.2]
 simpa using hv
def zc8 (w:World) (b:Nat):Nat→List Value→Prop
 | _,[]=>True
 | o,v :: r=>w.cell? ⟨b,o,none⟩=some v∧zc8 w b (o+1) r
theorem zfA {w:World} {b:Nat}:∀ (vs:List Value) (o:Nat),(∀ i v,vs[i]?=some v→w.cell? ⟨b,o+i,none⟩=some v)→zc8 w b o vs
 | [],_,_=>trivial
 | v :: r,o,h=>⟨h 0 v I,zfA r (o+1) (λ i u hu=>by
   have:=h (i+1) u (by simpa using hu)
   rwa [show o+1+i=o+(i+1) from by omega])⟩
theorem zgr {w:World} {b:Nat} {cs:List Value} {t:TypeId} (h:Has w (Box b cs t)) {o k:Nat} {vs:List Value} (hv:(cs.drop o).take k=vs):zc8 w b o vs:=by
 refine zfA vs o λ i v hi=>zaQ h ?_
 subst hv
 rw [List.getElem?_take] at hi
 split at hi
 ·simpa using hi
 ·cases hi
section
variable {P:Program} {w:World}
theorem znN {b o:Nat} {v:Value} (h:w.cell? ⟨b,o,none⟩=some v):(load ⟨b,o,none⟩).run P w=.ok v w:=by
 simp [load,Sem.run,h]
theorem zev {b o:Nat}:∀ (vs:List Value) (i:Nat) (acc:Array Value),zc8 w b (o+i) vs→(loadCellsFrom ⟨b,o,none⟩ i vs.length acc).run P w=.ok (acc++vs.toArray) w
 | [],i,acc,_=>by simp [loadCellsFrom,pure]
 | v :: r,i,acc,h=>by
  obtain⟨h1,h2⟩:=h
  have ha:Addr.add ⟨b,o,none⟩ i=⟨b,o+i,none⟩:=by unfold Addr.add;split <;> simp_all
  have h3:=zev r (i+1) (acc.push v) (by rwa [show o+(i+1)=o+i+1 from by omega])
  simp only [lC,loadCellsFrom]
  rw [zal (by rw [ha];exact znN h1),h3]
  simp
theorem zc1 {t:TypeId} {k:Nat} {z:Value} (ht:TF P t false k z) {b o:Nat} {v:Value} (h:w.cell? ⟨b,o,none⟩=some v):(loadVar t ⟨b,o,none⟩).run P w=.ok v w:=by
 unfold loadVar
 rw [zal ht.agg]
 exact znN h
theorem zd0 {t:TypeId} {k:Nat} {z:Value} (ht:TF P t true k z) {b o:Nat} {vs:List Value} (hl:vs.length=k) (h:zc8 w b o vs):(loadVar t ⟨b,o,none⟩).run P w=.ok (.agg vs.toArray) w:=by
 unfold loadVar
 rw [zal ht.agg]
 simp only [if_true]
 rw [zal ht.size]
 have:=zev (P:=P) (w:=w) (b:=b) (o:=o) vs 0 #[] h
 rw [hl] at this
 unfold loadCells
 rw [zal this]
 simp [pure]
end
section
variable {c:Cx} {ds:List Deferred} {H:List Res} {T:List (Nat×Value)} {d:Option Nat} {ty:TypeId} {ps:String} {af:Array Edge} {g:Option (Nat×Bool)} {x y z:Operand} {u v:Value}
theorem zcz {o:Oper} {v:Value} (h:∀ a w,Sat c.n T ds a→Hp c.U c.w0 H w→(execOp a.eval o).run c.P w=.ok (.value v) w):Y c ds H T o v:=by
 refine⟨λ a w ha hw=>?_⟩
 unfold Yld
 rw [h a w ha hw]
 exact⟨rfl,Ext.rfl⟩
theorem zbu {s:Sem Value} {P:Program} {w:World} {v:Value} {w':World} (h:s.run P w=.ok v w'):(do pure (Next.value (←s)):Sem Next).run P w=.ok (.value v) w':=by
 rw [zal h];rfl
theorem zaf (hx:evo T x=some v):Y c ds H T ⟨d,.move x,ty,ps,af,g⟩ v:=
 zcz λ a w ha _=>by simp [execOp,ha.eval hx,pure]
theorem zad (hx:evo T x=some v):Y c ds H T ⟨d,.assign x,ty,ps,af,g⟩ v:=
 zcz λ a w ha _=>by simp [execOp,ha.eval hx,pure]
theorem za5 {b:Bool} (hx:evo T x=some (.bool b)) (hy:evo T y=some u) (hz:evo T z=some v):Y c ds H T ⟨d,.pick x y z,ty,ps,af,g⟩ (if b=true then u else v):=
 zcz λ a w ha _=>by simp only [execOp,ha.eval hx,ha.eval hy,ha.eval hz];cases b <;> rfl
theorem zaX {b e:Bool} (hx:evo T x=some (.bool b)) (hy:evo T y=some (if b=true then .bool e else undef)) (hz:evo T z=some (.bool false)):Y c ds H T ⟨d,.pick x y z,ty,ps,af,g⟩ (.bool (b&&e)):=
 zcz λ a w ha _=>by simp only [execOp,ha.eval hx,ha.eval hy,ha.eval hz];cases b <;> rfl
theorem zaR {b e:Bool} (hx:evo T x=some (.bool b)) (hy:evo T y=some (.bool true)) (hz:evo T z=some (if (!b)=true then .bool e else undef)):Y c ds H T ⟨d,.pick x y z,ty,ps,af,g⟩ (.bool (b||e)):=
 zcz λ a w ha _=>by simp only [execOp,ha.eval hx,ha.eval hy,ha.eval hz];cases b <;> rfl
theorem zbR {b:Bool} {t:TypeId} (hx:evo T x=some (.bool b)):Y c ds H T ⟨d,.unOp .not t x,ty,ps,af,g⟩ (.bool !b):=
 zcz λ a w ha _=>by simp only [execOp,ha.eval hx];rfl
theorem ziB {op:BinOp} {t:TypeId} {x y:Operand} {k j:IntKind} {m n:Int} {P:Program} {w:World}:(eqGuard op t x y (.int k m) (.int j n)).run P w=.ok () w:=by
 unfold eqGuard
 cases op <;> rfl
theorem zhs {op:BinOp} {t:TypeId} {x y:Operand} {m n:Bool} {P:Program} {w:World}:(eqGuard op t x y (.bool m) (.bool n)).run P w=.ok () w:=by
 unfold eqGuard
 cases op <;> rfl
theorem zgF {op:BinOp} {t:TypeId} {x y:Operand} {m n:yB} {P:Program} {w:World}:(eqGuard op t x y (.string m) (.string n)).run P w=.ok () w:=by
 unfold eqGuard
 cases op <;> rfl
theorem zc3 {op:BinOp} {t t':TypeId} {k j:IntKind} {m n:Int} (hx:evo T x=some (.int k m)) (hy:evo T y=some (.int j n)) (hv:∀ P w,(binOp op t (.int k m) (.int j n)).run P w=.ok v w) :
  Y c ds H T ⟨d,.binOp op t x y t',ty,ps,af,g⟩ v:=
 zcz λ a w ha _=>by
  simp only [execOp,ha.eval hx,ha.eval hy]
  exact zbu (by rw [zal ziB];exact hv _ _)
section
variable {t t':TypeId} {k:IntKind} {m n:Int} (hx:evo T x=some (.int k m)) (hy:evo T y=some (.int k n))
include hx hy
theorem zfw:Y c ds H T ⟨d,.binOp .add t x y t',ty,ps,af,g⟩ (.int k (k.wrap (m+n))):=zc3 hx hy λ P w=>by simp [binOp,Op.intArith,pure]
theorem ziW:Y c ds H T ⟨d,.binOp .sub t x y t',ty,ps,af,g⟩ (.int k (k.wrap (m - n))):=zc3 hx hy λ P w=>by simp [binOp,Op.intArith,pure]
theorem zdv:Y c ds H T ⟨d,.binOp .mul t x y t',ty,ps,af,g⟩ (.int k (k.wrap (m*n))):=zc3 hx hy λ P w=>by simp [binOp,Op.intArith,pure]
theorem zoI (h0:n≠0):Y c ds H T ⟨d,.binOp .quo t x y t',ty,ps,af,g⟩ (.int k (k.wrap (m.tdiv n))):=zc3 hx hy λ P w=>by simp [binOp,Op.intDiv,h0,pure]
theorem zbw:Y c ds H T ⟨d,.binOp .lss t x y t',ty,ps,af,g⟩ (.bool (decide (m<n))):=zc3 hx hy λ P w=>by simp [binOp,Op.intCmp,pure]
theorem zeT:Y c ds H T ⟨d,.binOp .leq t x y t',ty,ps,af,g⟩ (.bool (decide (m≤n))):=zc3 hx hy λ P w=>by simp [binOp,Op.intCmp,pure]
theorem zc6:Y c ds H T ⟨d,.binOp .gtr t x y t',ty,ps,af,g⟩ (.bool (decide (n<m))):=zc3 hx hy λ P w=>by simp [binOp,Op.intCmp,pure]
theorem zfx:Y c ds H T ⟨d,.binOp .geq t x y t',ty,ps,af,g⟩ (.bool (decide (n≤m))):=zc3 hx hy λ P w=>by simp [binOp,Op.intCmp,pure]
theorem zbL:Y c ds H T ⟨d,.binOp .eql t x y t',ty,ps,af,g⟩ (.bool (decide (m=n))):=zc3 hx hy λ P w=>by
 simp only [binOp,Op.intCmp,ne_eq,not_true_eq_false,if_false]
 show Result.ok _ _=_
 congr 2
theorem zcr:Y c ds H T ⟨d,.binOp .neq t x y t',ty,ps,af,g⟩ (.bool (!decide (m=n))):=zc3 hx hy λ P w=>by
 simp only [binOp,Op.intCmp,ne_eq,not_true_eq_false,if_false]
 show Result.ok _ _=_
 congr 2
end
theorem zeA {n:Int} (h1:-9223372036854775808≤n) (h2:n≤9223372036854775807):IntKind.i64.wrap n=n:=by
 simp only [IntKind.wrap,IntKind.signed,IntKind.bits]
 simp
 omega
end
section
variable {P:Program} {w:World}
theorem zb2 (b o k:Nat):Addr.add ⟨b,o,none⟩ k=⟨b,o+k,none⟩:=by unfold Addr.add;split <;> simp_all
theorem FO.run {S:TypeId} {f k:Nat} (h:FO P S f k) (b o:Nat):(Instr.fieldAt S (.pointer (some ⟨b,o,none⟩)) f).run P w=.ok (.pointer (some ⟨b,o+k,none⟩)) w:=by
 have ho:=h.o
 cases hu:P.underlying S with
 | none=>rw [hu] at ho;cases ho
 | some d=>
  rw [hu] at ho
  cases d with
  | struct fs=>
   simp only [Option.bind_some] at ho
   cases hf:fs[f]? with
   | none=>rw [hf] at ho;cases ho
   | some fl=>
    rw [hf] at ho
    simp only [Option.bind_some] at ho
    cases hi:P.info? fl.type with
    | none=>rw [hi] at ho;cases ho
    | some i=>
     rw [hi] at ho
     simp only [Option.map_some,sI,Prod.mk.injEq] at ho
     have hs:i.size≠0:=by
      have:1≤i.size:=bL ho.2
      omega
     unfold Instr.fieldAt
     rw [zal (zaU hu)]
     simp only [hf]
     show(Instr.sureAddr _ >>= _).run P w=_
     rw [zal (v:=⟨b,o,none⟩) (w':=w) I]
     have hp:(fieldPlace ⟨b,o,none⟩ fl).run P w=.ok ⟨b,o+k,none⟩ w:=by
      unfold fieldPlace
      have hz:(sizeOf fl.type).run P w=.ok i.size w:=by
       unfold sizeOf
       rw [zal (zfK hi)]
       rfl
      rw [zal hz,if_neg hs]
      simp only [zb2,ho.1]
      rfl
     rw [zal hp]
     rfl
  | _=>cases ho
end
section
variable {c:Cx} {ds:List Deferred} {H:List Res} {T:List (Nat×Value)} {d:Option Nat} {ty:TypeId} {ps:String} {af:Array Edge} {g:Option (Nat×Bool)} {x y z:Operand} {u v:Value}
theorem zab {S:TypeId} {f k b o:Nat} (h:FO c.P S f k) (hx:evo T x=some (.pointer (some ⟨b,o,none⟩))):Y c ds H T ⟨d,.fieldAddr S x f,ty,ps,af,g⟩ (.pointer (some ⟨b,o+k,none⟩)):=
 zcz λ a w ha _=>by
  simp only [execOp,ha.eval hx]
  exact zbu (h.run b o)
theorem zbW {t:TypeId} {k b o:Nat} {z:Value} (ht:TF c.P t false k z) (hx:evo T x=some (.pointer (some ⟨b,o,none⟩))) (h:∀ w,Hp c.U c.w0 H w→w.cell? ⟨b,o,none⟩=some v) :
  Y c ds H T ⟨d,.load t x,ty,ps,af,g⟩ v:=
 zcz λ a w ha hw=>by
  simp only [execOp,ha.eval hx]
  refine zbu ?_
  unfold Instr.loadAt
  rw [zal (v:=⟨b,o,none⟩) (w':=w) I]
  exact zc1 ht (h w hw)
theorem zu0 {t:TypeId} {k b o:Nat} {z:Value} {vs:List Value} (ht:TF c.P t true k z) (hx:evo T x=some (.pointer (some ⟨b,o,none⟩))) (hl:vs.length=k)
  (h:∀ w,Hp c.U c.w0 H w→zc8 w b o vs):Y c ds H T ⟨d,.load t x,ty,ps,af,g⟩ (.agg vs.toArray):=
 zcz λ a w ha hw=>by
  simp only [execOp,ha.eval hx]
  refine zbu ?_
  unfold Instr.loadAt
  rw [zal (v:=⟨b,o,none⟩) (w':=w) I]
  exact zd0 ht hl (h w hw)
theorem zah {t:TypeId} {k b o:Nat} {z:Value} {cs:List Value} {e:TypeId} (i:Nat) (ht:TF c.P t false k z) (hx:evo T x=some (.pointer (some ⟨b,o,none⟩))) (hi:H[i]?=some (Box b cs e)) (hv:cs[o]?=some v) :
  Y c ds H T ⟨d,.load t x,ty,ps,af,g⟩ v:=zbW ht hx λ _ hw=>zaQ (hw.has hi) hv
theorem zat {t:TypeId} {k b o:Nat} {z:Value} {cs vs:List Value} {e:TypeId} (i:Nat) (ht:TF c.P t true k z) (hx:evo T x=some (.pointer (some ⟨b,o,none⟩))) (hi:H[i]?=some (Box b cs e))
  (hv:(cs.drop o).take k=vs) (hl:vs.length=k):Y c ds H T ⟨d,.load t x,ty,ps,af,g⟩ (.agg vs.toArray):=zu0 ht hx hl λ _ hw=>zgr (hw.has hi) hv
theorem zaL {t:TypeId} {gg:Bool} {k:Nat} {z:Value} {zs:List Value} (ht:TF c.P t gg k z) (hz:z.cells=zs.toArray):YX c ds H T ⟨d,.alloc t,ty,ps,af,g⟩ (λ b=>Z b) (λ b=>Box b zs t):=by
 refine⟨λ a w ha hw=>?_⟩
 unfold Yld
 have:(execOp a.eval ⟨d,.alloc t,ty,ps,af,g⟩).run c.P w=.ok (.value (Z w.heap.size)) (w.alloc (.cells z.cells t)):=by
  simp only [execOp]
  refine zbu ?_
  unfold Instr.alloc
  rw [zal ht.zero]
  rfl
 rw [this]
 refine⟨w.heap.size,rfl,zcG _,(· = w.heap.size),λ k hk=>by subst hk;simp,λ k=>Iff.rfl,?_⟩
 rw [hz]
 exact World.alloc_heap_new w _
theorem za3 {t:TypeId} {vs:List Value} (hx:evo T x=some v) (hv:v.cells=vs.toArray):YX c ds H T ⟨d,.box t x,ty,ps,af,g⟩ (λ b=>Z b) (λ b=>Box b vs t):=by
 refine⟨λ a w ha hw=>?_⟩
 unfold Yld
 have:(execOp a.eval ⟨d,.box t x,ty,ps,af,g⟩).run c.P w=.ok (.value (Z w.heap.size)) (w.alloc (.cells v.cells t)):=by
  simp only [execOp,ha.eval hx]
  exact zbu I
 rw [this]
 refine⟨w.heap.size,rfl,zcG _,(· = w.heap.size),λ k hk=>by subst hk;simp,λ k=>Iff.rfl,?_⟩
 rw [hv]
 exact World.alloc_heap_new w _
def zgS:Value→Bool
 | .agg _=>false
 | .tuple _=>false
 | _=>true
def over (cs:List Value):Nat→List Value→List Value
 | _,[]=>cs
 | o,v :: r=>over (cs.set o v) (o+1) r
theorem zcL:∀ (vs:List Value) (cs:List Value) (o:Nat),(over cs o vs).length=cs.length
 | [],_,_=>rfl
 | v :: r,cs,o=>by rw [over,zcL r];simp
theorem zqH {P:Program} {w:World} {b o:Nat} {t:TypeId} {cs:List Value} {v:Value} (hb:w.heap[b]?=some (.cells cs.toArray t (0,0))) (ho:o<cs.length) (h1:zgS v=true) :
  (store ⟨b,o,none⟩ v).run P w=.ok () (w.setCell ⟨b,o,none⟩ v):=by
 have hc:∃ u,w.cell? ⟨b,o,none⟩=some u:=⟨cs[o],by simp [World.cell?,hb,ho]⟩
 obtain⟨u,hu⟩:=hc
 have hf:w.frozen? ⟨b,o,none⟩=false:=by simp [World.frozen?,hb]
 cases v <;> first
  | (simp [zgS] at h1;done)
  | simp [store,Sem.run,hu,hf]
theorem zkp {w:World} {b o:Nat} {t:TypeId} {cs:List Value} {v:Value} (hb:w.heap[b]?=some (.cells cs.toArray t (0,0))) :
  (w.setCell ⟨b,o,none⟩ v).heap[b]?=some (.cells (cs.set o v).toArray t (0,0)):=by
 simp [World.setCell,Array.getElem?_modify,hb]
theorem zmA (w:World) (b o:Nat) (v:Value):Mod (· = b) w (w.setCell ⟨b,o,none⟩ v):=
 ⟨rfl,⟨rfl,Nat.le_refl _⟩,rfl,by simp [World.setCell],λ k _ hk=>Below.heap_setCell w ⟨b,o,none⟩ v k hk⟩
theorem Mod.trans {B:Nat→Prop} {a b c:World} (h:Mod B a b) (k:Mod B b c):Mod B a c:=
 ⟨k.os.trans h.os,h.tape.trans k.tape,k.output.trans h.output,Nat.le_trans h.size k.size,λ i hi hb=>(k.same i (lL hi h.size) hb).trans (h.same i hi hb)⟩
theorem Mod.refl (B:Nat→Prop) (w:World):Mod B w w:=⟨rfl,Tp.same _,rfl,Nat.le_refl _,λ _ _ _=>rfl⟩
theorem zb7 {P:Program} {b o:Nat} {t:TypeId}:∀ (vs cs:List Value) (i:Nat) (w:World),w.heap[b]?=some (.cells cs.toArray t (0,0))→o+i+vs.length≤cs.length→vs.all zgS=true →
  ∃ w',(storeCells ⟨b,o,none⟩ vs i).run P w=.ok () w'∧Mod (· = b) w w'∧w'.heap[b]?=some (.cells (over cs (o+i) vs).toArray t (0,0))
 | [],cs,i,w,hb,_,_=>⟨w,rfl,Mod.refl _ _,hb⟩
 | v :: r,cs,i,w,hb,hl,h1=>by
  simp only [List.all_cons,aT] at h1
  simp only [lC] at hl
  have h2:=zqH (P:=P) (o:=o+i) (v:=v) (cs:=cs) hb (by omega) h1.1
  obtain⟨w',hr,hm,hb'⟩:=zb7 (P:=P) (b:=b) (o:=o) (t:=t) r (cs.set (o+i) v) (i+1) _ (zkp (o:=o+i) (v:=v) hb) (by simp;omega) h1.2
  refine⟨w',?_,(zmA w b (o+i) v).trans hm,?_⟩
  ·unfold storeCells
   rw [zal (by rw [zb2];exact h2)]
   exact hr
  ·rw [over,show o+i+1=o+(i+1) from by omega]
   exact hb'
section
variable {p:Post} {ops:Array Oper} {rest:List Oper}
theorem zaA {t:TypeId} {gg:Bool} {k b o:Nat} {z:Value} {cs vs:List Value} {e:TypeId} (i:Nat) (ht:TF c.P t gg k z) (hx:evo T x=some (.pointer (some ⟨b,o,none⟩))) (hy:evo T y=some v)
  (hv:v.cells=vs.toArray) (hl:vs.length=k) (h1:vs.all zgS=true) (hi:H[i]?=some (Box b cs e)) (ho:Nat.ble (o+k) cs.length=true)
  (kk:GK c ds (KL c ops p rest) T (H.set i (Box b (over cs o vs) e))):GK c ds (KL c ops p (⟨none,.store t x y,ty,ps,af,none⟩ :: rest)) T H:=by
 refine zjZ I (λ a w ha hw=>?_) kk
 obtain⟨B0,hB0,hA0⟩:=hw.has hi
 obtain⟨w',hr,hm,hb'⟩:=zb7 (P:=c.P) (o:=o) vs cs 0 w hA0.2 (by have:=bL ho;omega) h1
 unfold Yld
 have:(execOp a.eval ⟨none,.store t x y,ty,ps,af,none⟩).run c.P w=.ok .skip w':=by
  simp only [execOp,ha.eval hx,ha.eval hy]
  have h3:(Instr.storeAt t (.pointer (some ⟨b,o,none⟩)) v).run c.P w=.ok () w':=by
   unfold Instr.storeAt
   rw [zal (v:=⟨b,o,none⟩) (w':=w) I]
   unfold storeVar
   rw [zal ht.size]
   have:v.cells.size=k:=by rw [hv];simpa using hl
   rw [if_neg (by simp [this])]
   rw [hv]
   exact hr
  rw [zal h3]
  rfl
 rw [this]
 refine hw.upd hi λ B hB hA=>⟨B,?_,λ k hk=>.inl hk,hA.1,hb'⟩
 exact⟨hm.os,hm.tape,hm.output,hm.size,λ k hk hnb=>hm.same k hk (λ he=>hnb ((hA.1 k).2 he))⟩
end
theorem zuS {t:TypeId} {parts:Array (Nat×Operand)} {pv:Array (Nat×Value)} (hp:∀ a,Sat c.n T ds a→parts.map (λ(i,x)=>(i,a.eval x))=pv) (hr:∀ w,(Instr.build t pv).run c.P w=.ok v w) :
  Y c ds H T ⟨d,.build t parts,ty,ps,af,g⟩ v:=
 zcz λ a w ha _=>by
  simp only [execOp]
  have:=hp a ha
  rw [this]
  exact zbu (hr w)
def evp (T:List (Nat×Value)):List (Nat×Operand)→Option (List (Nat×Value))
 | []=>some []
 | (i,x) :: r=>match evo T x,evp T r with
  | some v,some vs=>some ((i,v) :: vs)
  | _,_=>none
theorem Sat.evalp {n:Nat} {T:List (Nat×Value)} {ds:List Deferred} {a:Act} (h:Sat n T ds a):∀ {xs:List (Nat×Operand)} {vs:List (Nat×Value)},evp T xs=some vs→xs.map (λ(i,x)=>(i,a.eval x))=vs
 | [],vs,hv=>by simp only [evp,sI] at hv;subst hv;rfl
 | (i,x) :: r,vs,hv=>by
  simp only [evp] at hv
  cases h1:evo T x with
  | none=>rw [h1] at hv;cases hv
  | some v=>
   cases h2:evp T r with
   | none=>rw [h1,h2] at hv;cases hv
   | some us=>
    rw [h1,h2] at hv
    simp only [sI] at hv
    subst hv
    simp [h.eval h1,h.evalp h2]
theorem zaI {t:TypeId} {parts:List (Nat×Operand)} {pv:List (Nat×Value)} (hp:evp T parts=some pv) (hr:∀ w,(Instr.build t pv.toArray).run c.P w=.ok v w) :
  Y c ds H T ⟨d,.build t parts.toArray,ty,ps,af,g⟩ v:=zuS (pv:=pv.toArray) (λ a ha=>by rw [←ha.evalp hp];simp) hr
theorem zaB {i:Nat} {vs:Array Value} (hx:evo T x=some (.tuple vs)) (hi:vs.toList[i]?=some v):Y c ds H T ⟨d,.extract x i,ty,ps,af,g⟩ v:=
 zcz λ a w ha _=>by
  have hi':vs[i]?=some v:=by rw [←hi];simp
  simp only [execOp,ha.eval hx]
  refine zbu ?_
  unfold Instr.extract
  simp only [hi']
  rfl
theorem zbO {f:Fn} {«as» bs:List Operand} {av bv:List Value} (h1:evs T «as» = some av) (h2:evs T bs=some bv):Y c ds H T ⟨d,.makeFunc f «as».toArray bs.toArray,ty,ps,af,g⟩ (.func f av.toArray bv.toArray):=
 zcz λ a w ha _=>by
  simp only [execOp,Instr.makeFunc,List.map_toArray,ha.evals h1,ha.evals h2]
  rfl
theorem ziU {s t:TypeId} {k j:IntKind} {n:Int} (hs:(c.P.underlying s).isSome=true) (ht:c.P.underlying t=some (.int k)) (hx:evo T x=some (.int j n)):Y c ds H T ⟨d,.convert s t x,ty,ps,af,g⟩ (.int k (k.wrap n)):=
 zcz λ a w ha _=>by
  simp only [execOp,ha.eval hx]
  refine zbu ?_
  unfold convert
  obtain⟨ss,hss⟩:=Option.isSome_iff_exists.1 hs
  rw [zal (zaU hss),zal (zaU ht)]
  cases ss <;> rfl
theorem zfJ {f:FuncId} (he:En c.P f) {«as»:List Operand} {tys:Array TypeId} {vs:List Value} (ha:evs T «as» = some vs) {a:Act} (hs:Sat c.n T ds a) (w:World) :
  (execOp a.eval ⟨d,.call ⟨.value (.func f),«as».toArray,tys⟩,ty,ps,af,g⟩).run c.P w=.ok (.enter f vs.toArray) w:=by
 have e1:«as».toArray.map a.eval=vs.toArray:=by rw [List.map_toArray,hs.evals ha]
 simp only [execOp]
 rw [zal (v:=({ target:=.fn (.func f) #[],args:=vs.toArray }:Deferred)) (w':=w) (by
  simp only [resolve,e1]
  show(Deferred.ofValue (.func (.func f) #[] #[]) vs.toArray).run c.P w=_
  simp [Deferred.ofValue,pure])]
 simp only [invoke,Array.append_empty]
 exact he _ w
theorem zaJ {f:FuncId} (he:En c.P f) {«as»:List Operand} {tys:Array TypeId} {vs:List Value} (ha:evs T «as» = some vs)
  (hc:∀ w,Hp c.U c.w0 H w→Calls c.P f vs.toArray w (λ e w'=>e=.returned v∧Ext w w')):Y c ds H T ⟨d,.call ⟨.value (.func f),«as».toArray,tys⟩,ty,ps,af,g⟩ v:=by
 refine⟨λ a w hs hw=>?_⟩
 unfold Yld
 rw [zfJ he ha hs w]
 exact(hc w hw).mono λ e w' ⟨he,hx⟩=>⟨v,he,rfl,hx⟩
def New (w w':World) (R:Res):Prop:=∃ B:Nat→Prop,(∀ k,B k→w.heap.size≤k∧k<w'.heap.size)∧R.A B w'
theorem zbm {X:Type} {V:X→Value} {A:X→Res} {f:FuncId} (he:En c.P f) {«as»:List Operand} {tys:Array TypeId} {vs:List Value} (ha:evs T «as» = some vs)
  (hc:∀ w,Hp c.U c.w0 H w→Calls c.P f vs.toArray w (λ e w'=>∃ x,e=.returned (V x)∧Ext w w'∧New w w' (A x))):YX c ds H T ⟨d,.call ⟨.value (.func f),«as».toArray,tys⟩,ty,ps,af,g⟩ V A:=by
 refine⟨λ a w hs hw=>?_⟩
 unfold Yld
 rw [zfJ he ha hs w]
 exact(hc w hw).mono λ e w' ⟨x,he,hx,hn⟩=>⟨V x,he,x,rfl,hx,hn⟩
theorem zgE {t:Nat} {f:FuncId} (he:En c.P f) {fs cap:Array Value} (hf:evo T (.tmp t)=some (.func (.func f) fs cap)) {«as»:List Operand} {tys:Array TypeId} {vs:List Value} (ha:evs T «as» = some vs) {a:Act} (hs:Sat c.n T ds a) (w:World) :
  (execOp a.eval ⟨d,.call ⟨.value (.tmp t),«as».toArray,tys⟩,ty,ps,af,g⟩).run c.P w=.ok (.enter f (fs++vs.toArray++cap)) w:=by
 have e1:«as».toArray.map a.eval=vs.toArray:=by rw [List.map_toArray,hs.evals ha]
 simp only [execOp]
 rw [zal (v:=({ target:=.fn (.func f) cap,args:=fs++vs.toArray }:Deferred)) (w':=w) (by
  simp only [resolve,e1,hs.eval hf]
  rfl)]
 simp only [invoke]
 exact he _ w
theorem zde {t:Nat} {f:FuncId} (he:En c.P f) {fs cap:List Value} (hf:evo T (.tmp t)=some (.func (.func f) fs.toArray cap.toArray)) {«as»:List Operand} {tys:Array TypeId} {vs:List Value} (ha:evs T «as» = some vs)
  (hc:∀ w,Hp c.U c.w0 H w→Calls c.P f (fs++vs++cap).toArray w (λ e w'=>e=.returned v∧Ext w w')):Y c ds H T ⟨d,.call ⟨.value (.tmp t),«as».toArray,tys⟩,ty,ps,af,g⟩ v:=by
 refine⟨λ a w hs hw=>?_⟩
 unfold Yld
 rw [zgE he hf ha hs w]
 have:=hc w hw
 rw [show(fs++vs++cap).toArray=fs.toArray++vs.toArray++cap.toArray from by simp] at this
 exact this.mono λ e w' ⟨he,hx⟩=>⟨v,he,rfl,hx⟩
theorem zcp {b:Builtin} {«as»:List Operand} {tys:Array TypeId} {vs:List Value} (ha:evs T «as» = some vs) {a:Act} (hs:Sat c.n T ds a) (w:World) :
  (execOp a.eval ⟨d,.call ⟨.builtin b,«as».toArray,tys⟩,ty,ps,af,g⟩).run c.P w=(builtin b tys ty («as».toArray.map λ | .const _=>true|_=>false) vs.toArray).run c.P w:=by
 have e1:«as».toArray.map a.eval=vs.toArray:=by rw [List.map_toArray,hs.evals ha]
 simp only [execOp]
 rw [zal (v:=({ target:=.builtin b tys ty («as».toArray.map λ | .const _=>true|_=>false),args:=vs.toArray }:Deferred)) (w':=w) (by
  simp only [resolve,e1]
  rfl)]
 rfl
theorem zaV {x:Operand} {t e:TypeId} {a0:yO} {n k:Nat} (ht:c.P.underlying t=some (.slice e)) (hx:evo T x=some (.slice a0 n k)) :
  Y c ds H T ⟨d,.call ⟨.builtin .len,#[x],#[t]⟩,ty,ps,af,g⟩ (O (n:Int)):=
 zcz λ a w hs _=>by
  rw [zcp («as»:=[x]) (vs:=[.slice a0 n k]) (by simp [evs,hx]) hs w]
  simp only [builtin]
  refine zbu ?_
  unfold Builtin.len_
  show(underlying t >>= _).run c.P w=_
  rw [zal (zaU ht)]
  rfl
theorem zeO {x:Operand} {t:TypeId} {s:yB} (ht:c.P.underlying t=some .string) (hx:evo T x=some (.string s)) :
  Y c ds H T ⟨d,.call ⟨.builtin .len,#[x],#[t]⟩,ty,ps,af,g⟩ (O (s.size:Int)):=
 zcz λ a w hs _=>by
  rw [zcp («as»:=[x]) (vs:=[.string s]) (by simp [evs,hx]) hs w]
  simp only [builtin]
  refine zbu ?_
  unfold Builtin.len_
  show(underlying t >>= _).run c.P w=_
  rw [zal (zaU ht)]
  rfl
theorem zws {x y:Operand} {tys:Array TypeId} {k:IntKind} {m n:Int} (hx:evo T x=some (.int k m)) (hy:evo T y=some (.int k n)) :
  Y c ds H T ⟨d,.call ⟨.builtin .max,#[x,y],tys⟩,ty,ps,af,g⟩ (.int k (max m n)):=
 zcz λ a w hs _=>by
  rw [zcp («as»:=[x,y]) (vs:=[.int k m,.int k n]) (by simp [evs,hx,hy]) hs w]
  simp only [builtin]
  refine zbu ?_
  show Result.ok (Value.int k (if n > m then n else m)) w=_
  congr 2
  by_cases h:n > m
  ·rw [if_pos h,Int.max_eq_right (by omega)]
  ·rw [if_neg h,Int.max_eq_left (by omega)]
theorem zsy {x y:Operand} {tys:Array TypeId} {k:IntKind} {m n:Int} (hx:evo T x=some (.int k m)) (hy:evo T y=some (.int k n)) :
  Y c ds H T ⟨d,.call ⟨.builtin .min,#[x,y],tys⟩,ty,ps,af,g⟩ (.int k (min m n)):=
 zcz λ a w hs _=>by
  rw [zcp («as»:=[x,y]) (vs:=[.int k m,.int k n]) (by simp [evs,hx,hy]) hs w]
  simp only [builtin]
  refine zbu ?_
  show Result.ok (Value.int k (if n<m then n else m)) w=_
  congr 2
  by_cases h:n<m
  ·rw [if_pos h,Int.min_eq_right (by omega)]
  ·rw [if_neg h,Int.min_eq_left (by omega)]
end
def one (tmps:Array Value):ResultVar→Sem Value
 | .tmp t=>pure (tmps.getD t undef)
 | .cell a t=>do loadVar t (←asAddr (tmps.getD a undef))
def R1 (c:Cx) (ds:List Deferred) (T:List (Nat×Value)) (H:List Res) (r:ResultVar) (v:Value):Prop:=
 ∀ a w,Sat c.n T ds a→Hp c.U c.w0 H w→(one a.tmps r).run c.P w=.ok v w
def F2 {α β:Type} (R:α→β→Prop):List α→List β→Prop
 | [],[]=>True
 | x :: xs,y :: ys=>R x y∧F2 R xs ys
 | _,_=>False
def RL (c:Cx) (ds:List Deferred) (T:List (Nat×Value)) (H:List Res):List ResultVar→List Value→Prop
 | [],[]=>True
 | r :: rs,v :: vs=>R1 c ds T H r v∧RL c ds T H rs vs
 | _,_=>False
section
variable {c:Cx} {ds:List Deferred} {H:List Res} {T:List (Nat×Value)} {v:Value}
theorem zau {t:Nat} (h:lk T t=some v):R1 c ds T H (.tmp t) v:=λ a w ha _=>by
 have:=ha.val t v h
 simp [one,this,pure]
theorem zcy {s b o i k:Nat} {t e:TypeId} {z:Value} {cs:List Value} (ht:TF c.P t false k z) (h:lk T s=some (.pointer (some ⟨b,o,none⟩))) (hi:H[i]?=some (Box b cs e)) (hv:cs[o]?=some v):R1 c ds T H (.cell s t) v:=λ a w ha hw=>by
 have:=ha.val s _ h
 simp only [one,Array.getD_eq_getD_getElem?,this,Option.getD_some]
 rw [zal (v:=⟨b,o,none⟩) (w':=w) I]
 exact zc1 ht (zaQ (hw.has hi) hv)
theorem zbU {s b o i k:Nat} {t e:TypeId} {z:Value} {cs vs:List Value} (ht:TF c.P t true k z) (h:lk T s=some (.pointer (some ⟨b,o,none⟩))) (hi:H[i]?=some (Box b cs e)) (hv:(cs.drop o).take k=vs) (hl:vs.length=k) :
  R1 c ds T H (.cell s t) (.agg vs.toArray):=λ a w ha hw=>by
 have:=ha.val s _ h
 simp only [one,Array.getD_eq_getD_getElem?,this,Option.getD_some]
 rw [zal (v:=⟨b,o,none⟩) (w':=w) I]
 exact zd0 ht hl (zgr (hw.has hi) hv)
theorem znq {P:Program} {w:World} {α β:Type} (f:α→Sem β):∀ (xs:List α) (ys:List β),F2 (λ x y=>(f x).run P w=.ok y w) xs ys→(xs.mapM f).run P w=.ok ys w
 | [],[],_=>rfl
 | [],_ :: _,h=>h.elim
 | _ :: _,[],h=>h.elim
 | x :: xs,y :: ys,h=>by
  rw [List.mapM_cons,zal h.1,zal (znq f xs ys h.2)]
  rfl
theorem zeJ {P:Program} {w:World} {fn:Func} {tmps:Array Value} {rs:List ResultVar} {vs:List Value} (hf:fn.results=rs.toArray) (h:F2 (λ r v=>(one tmps r).run P w=.ok v w) rs vs) :
  (results fn tmps).run P w=.ok (match vs with | [v]=>v|vs=>.tuple vs.toArray) w:=by
 have hm:(fn.results.mapM (one tmps)).run P w=.ok vs.toArray w:=by
  rw [hf,List.mapM_toArray]
  show((λ l:List Value=>l.toArray) <$> rs.mapM (one tmps)).run P w=_
  have:((λ l:List Value=>l.toArray) <$> rs.mapM (one tmps))=(rs.mapM (one tmps) >>= λ l=>pure l.toArray):=rfl
  rw [this,zal (znq _ rs vs h)]
  rfl
 have he:results fn tmps=(fn.results.mapM (one tmps) >>= λ vs=>pure (if h:vs.size=1 then vs[0] else .tuple vs)):=by
  unfold results
  congr 1
 rw [he,zal hm]
 match vs with
 | []=>rfl
 | [v]=>rfl
 | a :: b :: r=>rfl
theorem RL.all {a:Act} {w:World} (ha:Sat c.n T ds a) (hw:Hp c.U c.w0 H w):∀ (rs:List ResultVar) (vs:List Value),RL c ds T H rs vs→F2 (λ r v=>(one a.tmps r).run c.P w=.ok v w) rs vs
 | [],[],_=>trivial
 | [],_ :: _,h=>h.elim
 | _ :: _,[],h=>h.elim
 | _ :: rs,_ :: vs,h=>⟨h.1 a w ha hw,RL.all ha hw rs vs h.2⟩
theorem zaC {fn:Func} {r:ResultVar} (hf:fn.results=#[r]) (h:R1 c ds T H r v):RV c ds T H fn v:=λ _ _ ha hw=>
 zeJ (rs:=[r]) (vs:=[v]) hf (RL.all ha hw _ _ ⟨h,trivial⟩)
theorem zcN {fn:Func} (hf:fn.results=#[]):RV c ds T H fn (.tuple #[]):=λ _ _ _ _=>zeJ (rs:=[]) (vs:=[]) hf trivial
theorem zc2 {fn:Func} {r1 r2:ResultVar} {v1 v2:Value} (hf:fn.results=#[r1,r2]) (h1:R1 c ds T H r1 v1) (h2:R1 c ds T H r2 v2):RV c ds T H fn (.tuple #[v1,v2]):=λ _ _ ha hw=>
 zeJ (rs:=[r1,r2]) (vs:=[v1,v2]) hf (RL.all ha hw _ _ ⟨h1,h2,trivial⟩)
theorem zdh {fn:Func} {r1 r2 r3:ResultVar} {v1 v2 v3:Value} (hf:fn.results=#[r1,r2,r3]) (h1:R1 c ds T H r1 v1) (h2:R1 c ds T H r2 v2) (h3:R1 c ds T H r3 v3):RV c ds T H fn (.tuple #[v1,v2,v3]):=λ _ _ ha hw=>
 zeJ (rs:=[r1,r2,r3]) (vs:=[v1,v2,v3]) hf (RL.all ha hw _ _ ⟨h1,h2,h3,trivial⟩)
theorem zGD {fn:Func} {r1 r2 r3 r4:ResultVar} {v1 v2 v3 v4:Value} (hf:fn.results=#[r1,r2,r3,r4]) (h1:R1 c ds T H r1 v1) (h2:R1 c ds T H r2 v2) (h3:R1 c ds T H r3 v3) (h4:R1 c ds T H r4 v4):RV c ds T H fn (.tuple #[v1,v2,v3,v4]):=λ _ _ ha hw=>
 zeJ (rs:=[r1,r2,r3,r4]) (vs:=[v1,v2,v3,v4]) hf (RL.all ha hw _ _ ⟨h1,h2,h3,h4,trivial⟩)
end
def Pure (v:Value) (w:World):Ending→World→Prop:=λ e w'=>e=.returned v∧Ext w w'
def zcU {X:Type} (V:X→Value) (A:X→Res) (w:World):Ending→World→Prop:=λ e w'=>∃ x,e=.returned (V x)∧Ext w w'∧New w w' (A x)
theorem Base.ext0 {w0 w:World} (h:Base (λ k=>k<w0.heap.size) w0 w):Ext w0 w:=⟨h.os,h.tape,h.output,h.size,h.same⟩
theorem zay {P:Program} {n:Nat} {w0:World} {T:List (Nat×Value)} {H:List Res} {fn:Func} {v u:Value} (hv:RV (cxOf P n w0) [] T H fn v) (hu:v=u) :
  GK (cxOf P n w0) [] (RetP P fn (Pure u w0)) T H:=zfh hv λ _ hw=>⟨by rw [hu],hw.base.ext0⟩
theorem zbd {P:Program} {n:Nat} {w0:World} {T:List (Nat×Value)} {H:List Res} {fn:Func} {v:Value} {X:Type} {V:X→Value} {A:X→Res} (x:X) (i:Nat) (hv:RV (cxOf P n w0) [] T H fn v) (hu:v=V x) (hi:H[i]?=some (A x)) :
  GK (cxOf P n w0) [] (RetP P fn (zcU V A w0)) T H:=zfh hv λ w hw=>by
 obtain⟨B,hB,hA,_⟩:=Holds.front H i hi hw.holds
 refine⟨x,by rw [hu],hw.base.ext0,B,λ k hk=>⟨?_,(hB k hk).2⟩,hA⟩
 have:=(hB k hk).1
 simp only [cxOf] at this
 omega
inductive Ent where
 | pure (v:Value)
 | res (X:Type) (V:X→Value) (A:X→Res)
def Ent.ok:Ent→Value→Option Res→Prop
 | .pure u,v,r=>v=u∧r=none
 | .res _ V A,v,r=>∃ x,v=V x∧r=some (A x)
def finE:List (Nat×Ent)→List (Nat×Value)→List Res→(List (Nat×Value)→List Res→Prop)→Prop
 | [],T,H,K=>K T H
 | (d,.pure v) :: r,T,H,K=>finE r ((d,v) :: T) H K
 | (d,.res _ V A) :: r,T,H,K=>∀ x,finE r ((d,V x) :: T) (A x :: H) K
abbrev Ents:=List (Nat×Nat×Ent)
def lkS:Ents→Nat→Option Ent
 | [],_=>none
 | (k,_,e) :: r,t=>bif Nat.beq k t then some e else lkS r t
def zaT (o:Oper) (i:Nat):Bool:=o.after.toList.any λ e=>Region.binds .any e&&Nat.beq e.on i
def deps (o:Oper):Ents→List (Nat×Ent)
 | []=>[]
 | (i,d,e) :: r=>bif zaT o i then(d,e) :: deps o r else deps o r
def zcl (ops:List Oper) (i:Nat):List (Nat×Value)→List (Nat×Value)
 | []=>[]
 | (s,v) :: r=>bif ops.all (λ f=>(match f.dst with|some d=>!Nat.beq d s|none=>true)||zaT f i) then(s,v) :: zcl ops i r else zcl ops i r
def zs9 (c:Cx) (ds:List Deferred) (H:List Res) (T:List (Nat×Value)) (o:Oper):Ent→Prop
 | .pure v=>Y c ds H T o v
 | .res _ V A=>YX c ds H T o V A
def Ob (c:Cx) (ds:List Deferred) (pre:List Oper) (T0:List (Nat×Value)) (H:List Res) (i:Nat) (o:Oper) (S:Ents) (e:Ent):Prop:=
 match o.guard with
 | none=>finE (deps o S) (zcl pre i T0) H (λ T H'=>zs9 c ds H' T o e)
 | some (j,want)=>(lkS S j=some (.pure (.bool want))∧zaT o j=true∧finE (deps o S) (zcl pre i T0) H (λ T H'=>zs9 c ds H' T o e))∨∃ (u0:Value) (q:Bool) (u:Value),lkS S j=some (.pure u0)∧zaT o j=true∧(q=true↔u0=.bool want)∧e=.pure (if q=true then u else undef) ∧
   (q=true→finE (deps o S) (zcl pre i T0) H (λ T H'=>Y c ds H' T o u))
def PH (c:Cx) (ds:List Deferred) (pre:List Oper) (T0:List (Nat×Value)) (H:List Res) (K:Ents→Prop):Nat→List Oper→Ents→Prop
 | _,[],S=>K S
 | i,o :: r,S=>∃ d e,o.dst=some d∧Ob c ds pre T0 H i o S e∧PH c ds pre T0 H K (i+1) r ((i,d,e) :: S)
def dsts (ops:List Oper):List (Option Nat):=ops.map (·.dst)
def zb8:Nat→List Oper→Bool
 | _,[]=>true
 | i,o :: r=>(o.after.toList.all λ e=>!Region.binds .any e||Nat.blt e.on i)&&zb8 (i+1) r
def zkb (ops:List Oper):Bool:=ops.all λ o=>!zfO o
def zeE:List (Option Nat)→Bool
 | []=>true
 | some d :: r=>r.all (λ x=>match x with|some e=>!Nat.beq d e|none=>true)&&zeE r
 | none :: _=>false
def reach (ops:List Oper):Nat→Nat→Nat→Bool
 | 0,_,_=>false
 | n+1,i,j=>match ops[i]? with
  | none=>false
  | some o=>zaT o j||o.after.toList.any λ e=>Region.binds .any e&&reach ops n e.on j
def zjf (ops:List Oper) (m:Nat):Bool:=(List.range m).all λ j=>reach ops 64 m j
def zhL (ops:List Oper) (m:Nat):Bool:=(List.range (ops.length - m - 1)).all λ j=>match ops[m+j+1]? with
 | some o=>zaT o (m+j)
 | none=>true
def zjO (n:Nat) (pre suf:List Oper):Bool:=
 zb8 0 (pre++suf)&&zkb (pre++suf)&&zeE (dsts pre)&&pre.all (λ o=>zhp o.dst n) &&
 (suf.isEmpty||zjf (pre++suf) pre.length)&&zhL (pre++suf) pre.length
def isOn (l:Array Bool) (i:Nat):Prop:=l.getD i false=true
theorem zbt {l:Array Bool} {i:Nat} (hi:i<l.size) (j:Nat):isOn (l.setIfInBounds i true) j↔j=i∨isOn l j:=by
 unfold isOn
 by_cases h:i=j
 ·subst h;simp [hi]
 ·rw [getD_set_ne false h]
  constructor
  ·exact .inr
  ·rintro (h'|h')
   ·exact absurd h'.symm h
   ·exact h'
structure Inv (c:Cx) (ds:List Deferred) (ops pre:List Oper) (T0:List (Nat×Value)) (H:List Res) (S:Ents) (listed:Array Bool) (a:Act) (w:World):Prop where
 base:Base c.U c.w0 w
 size:a.tmps.size=c.n
 defers:a.defers=ds
 closed:∀ (k:Nat) (o:Oper),ops[k]?=some o→isOn listed k→∀ j,zaT o j=true→isOn listed j
 old:∀ s v,lk T0 s=some v→(∀ (i:Nat) (o:Oper),pre[i]?=some o→isOn listed i→o.dst≠some s)→a.tmps[s]?=some v
 fam:∃ (v:Nat→Value) (R:Nat→Option Res) (B:Nat→Nat→Prop),
  (∀ i d e,(i,d,e)∈S→isOn listed i→e.ok (v i) (R i)∧a.tmps[d]?=some (v i)) ∧
  (∀ i r,isOn listed i→R i=some r→r.A (B i) w∧∀ k,B i k→¬ c.U k∧k<w.heap.size) ∧
  (∀ i j,isOn listed i→isOn listed j→(R i).isSome=true→(R j).isSome=true→i≠j→∀ k,B i k→¬ B j k) ∧
  Holds H (λ k=>c.U k∨∃ i,isOn listed i∧(R i).isSome=true∧B i k) w
section
variable {c:Cx} {ds:List Deferred} {p:Post} {ops pre suf:List Oper} {T0:List (Nat×Value)} {H:List Res} {S:Ents} {listed:Array Bool} {a:Act} {w:World}
theorem zj5 (hI:Inv c ds ops pre T0 H S listed a w) {i d:Nat} {o:Oper} {e:Ent} (hp:pre[i]?=some o) (ho:ops[i]?=some o) (hil:i<listed.size) (hd:o.dst=some d)
  (hdist:∀ j oj,pre[j]?=some oj→j≠i→oj.dst≠some d)
  (hS:∀ j dj ej,(j,dj,ej)∈S→∃ oj,pre[j]?=some oj∧oj.dst=some dj) (huniq:∀ d' e',(i,d',e')∈S→d' = d∧e' = e)
  (hn:d<c.n) (hclo:∀ j,zaT o j=true→isOn listed j) (hun:¬ isOn listed i)
  {v:Value} {r:Option Res} {w':World} (hx:Ext w w') (hok:e.ok v r) (hr:∀ R,r=some R→∃ B:Nat→Prop,(∀ k,B k→w.heap.size≤k∧k<w'.heap.size)∧R.A B w') :
  Inv c ds ops pre T0 H S (listed.setIfInBounds i true) (a.put (some d) v) w':=by
 obtain⟨v0,R0,B0,h1,h2,h3,h4⟩:=hI.fam
 have hon:∀ j,isOn (listed.setIfInBounds i true) j↔j=i∨isOn listed j:=zbt hil
 obtain⟨Bn,hBn⟩:∃ Bn:Nat→Prop,∀ R,r=some R→(∀ k,Bn k→w.heap.size≤k∧k<w'.heap.size)∧R.A Bn w':=by
  cases r with
  | none=>exact⟨λ _=>False,λ R h=>by cases h⟩
  | some R=>obtain⟨B,hB⟩:=hr R I;exact⟨B,λ R' h=>by cases h;exact hB⟩
 have hUlt:∀ k,c.U k→k<w.heap.size:=λ k hk=>lL (hI.base.lt k hk) hI.base.size
 have hput:∀ t u,t≠d→a.tmps[t]?=some u→(a.put (some d) v).tmps[t]?=some u:=λ t u ht hu=>by
  simp only [Act.put]
  rw [Array.getElem?_setIfInBounds_ne (Ne.symm ht)];exact hu
 refine⟨hI.base.ext hx,by simp [Act.put,hI.size],hI.defers,?_,?_,?_⟩
 ·intro k ok hk honk j hj
  rcases(hon k).1 honk with rfl|hk'
  ·rw [ho] at hk;cases hk
   exact(hon j).2 (.inr (hclo j hj))
  ·exact(hon j).2 (.inr (hI.closed k ok hk hk' j hj))
 ·intro s u hs hno
  have hsd:s≠d:=λ h=>hno i o hp ((hon i).2 (.inl I)) (by rw [hd,h])
  exact hput s u hsd (hI.old s u hs (λ k ok hk hlk=>hno k ok hk ((hon k).2 (.inr hlk))))
 ·refine⟨λ j=>if j=i then v else v0 j,λ j=>if j=i then r else R0 j,λ j=>if j=i then Bn else B0 j,?_,?_,?_,?_⟩
  ·intro j dj ej hj hoj
   by_cases hji:j=i
   ·subst hji
    obtain⟨rfl,rfl⟩:=huniq dj ej hj
    simp only [if_true]
    refine⟨hok,?_⟩
    simp [Act.put,hI.size,hn]
   ·have hlj:isOn listed j:=((hon j).1 hoj).resolve_left hji
    obtain⟨g1,g2⟩:=h1 j dj ej hj hlj
    simp only [if_neg hji]
    refine⟨g1,hput dj _ ?_ g2⟩
    intro hdd
    obtain⟨oj,hoj',hdj⟩:=hS j dj ej hj
    exact hdist j oj hoj' hji (by rw [hdj,hdd])
  ·intro j rj hoj hrj
   by_cases hji:j=i
   ·subst hji
    simp only [if_true] at hrj ⊢
    obtain⟨g1,g2⟩:=hBn rj hrj
    refine⟨g2,λ k hk=>⟨λ hu=>?_,(g1 k hk).2⟩⟩
    have:=hUlt k hu;have:=(g1 k hk).1;omega
   ·have hlj:isOn listed j:=((hon j).1 hoj).resolve_left hji
    simp only [if_neg hji] at hrj ⊢
    obtain⟨g1,g2⟩:=h2 j rj hlj hrj
    exact⟨rj.loc _ w w' (λ k hk=>hx.block k (g2 k hk).2) g1,λ k hk=>⟨(g2 k hk).1,lL (g2 k hk).2 hx.size⟩⟩
  ·intro j k hoj hok' hrj hrk hjk x hxj hxk
   by_cases hji:j=i
   ·subst hji
    simp only [if_true] at hrj hxj
    have hkj:¬ k=j:=λ h=>hjk h.symm
    simp only [if_neg hkj] at hrk hxk
    have hlk:isOn listed k:=((hon k).1 hok').resolve_left hkj
    obtain⟨rk,hrk'⟩:=Option.isSome_iff_exists.1 hrk
    obtain⟨R,hR⟩:=Option.isSome_iff_exists.1 hrj
    have:=((h2 k rk hlk hrk').2 x hxk).2
    have:=((hBn R hR).1 x hxj).1
    omega
   ·simp only [if_neg hji] at hrj hxj
    have hlj:isOn listed j:=((hon j).1 hoj).resolve_left hji
    by_cases hki:k=i
    ·subst hki
     simp only [if_true] at hrk hxk
     obtain⟨rj,hrj'⟩:=Option.isSome_iff_exists.1 hrj
     obtain⟨R,hR⟩:=Option.isSome_iff_exists.1 hrk
     have:=((h2 j rj hlj hrj').2 x hxj).2
     have:=((hBn R hR).1 x hxk).1
     omega
    ·simp only [if_neg hki] at hrk hxk
     have hlk:isOn listed k:=((hon k).1 hok').resolve_left hki
     exact h3 j k hlj hlk hrj hrk hjk x hxj hxk
  ·have key:∀ (L:List Res) (V V':Nat→Prop),(∀ k,k<w.heap.size→V' k→V k)→Holds L V w→Holds L V' w':=by
    intro L
    induction L with
    | nil=>intro _ _ _ _;trivial
    | cons R L ih=>
     intro V V' hV hh
     obtain⟨C,hC,hA,hr'⟩:=hh
     refine⟨C,λ k hk=>⟨λ hv=>(hC k hk).1 (hV k (hC k hk).2 hv),lL (hC k hk).2 hx.size⟩,R.loc C w w' (λ k hk=>hx.block k (hC k hk).2) hA,?_⟩
     exact ih _ _ (λ k hk hv=>hv.imp (hV k hk) id) hr'
   refine key H _ _ ?_ h4
   rintro k hk (hu | ⟨j,hoj,hrj,hbj⟩)
   ·exact .inl hu
   ·by_cases hji:j=i
    ·subst hji
     simp only [if_true] at hrj hbj
     obtain⟨R,hR⟩:=Option.isSome_iff_exists.1 hrj
     have:=((hBn R hR).1 k hbj).1
     omega
    ·simp only [if_neg hji] at hrj hbj
     exact .inr ⟨j,((hon j).1 hoj).resolve_left hji,hrj,hbj⟩
theorem zdH (hI:Inv c ds ops pre T0 H S listed a w) {f:Nat→Bool} {S1:Ents} (hsub1:∀ x∈S1,x∈S) (hf:∀ x∈S1,f x.1=true→isOn listed x.1) {K:List (Nat×Value)→List Res→Prop} {T1:List (Nat×Value)} (hT1:Sat c.n T1 ds a)
  {L:Ents→List (Nat×Ent)} (hL0:L []=[]) (hL:∀ i d e r,L ((i,d,e) :: r)=bif f i then(d,e) :: L r else L r)
  (hnd:(S1.map (·.1)).Nodup) (h:finE (L S1) T1 H K):∃ T' H',K T' H'∧Sat c.n T' ds a∧Hp c.U c.w0 H' w:=by
 obtain⟨v0,R0,B0,h1,h2,h3,h4⟩:=hI.fam
 have key:∀ (S':Ents) (T:List (Nat×Value)) (H1:List Res) (Dn:Nat→Prop),(∀ x∈S',x∈S1)→(S'.map (·.1)).Nodup→(∀ x∈S',¬ Dn x.1)→Sat c.n T ds a →
   Holds H1 (λ k=>c.U k∨∃ i,isOn listed i∧(R0 i).isSome=true∧¬ Dn i∧B0 i k) w→finE (L S') T H1 K→∃ T' H',K T' H'∧Sat c.n T' ds a∧Hp c.U c.w0 H' w:=by
  intro S'
  induction S' with
  | nil=>
   intro T H1 Dn _ _ _ hT hH hfin
   rw [hL0] at hfin
   exact⟨T,H1,hfin,hT,hI.base,Holds.anti H1 (λ k hk=>.inl hk) hH⟩
  | cons x r ih=>
   obtain⟨i,d,e⟩:=x
   intro T H1 Dn hsub hnd' hDn hT hH hfin
   rw [hL] at hfin
   have hnd'':=hnd'
   simp only [List.map_cons,List.nodup_cons] at hnd''
   have hsub':∀ x∈r,x∈S1:=λ x hx=>hsub x (mM _ hx)
   have hDr:∀ x∈r,¬ Dn x.1:=λ x hx=>hDn x (mM _ hx)
   cases hfi:f i with
   | false=>
    rw [hfi] at hfin
    exact ih T H1 Dn hsub' hnd''.2 hDr hT hH hfin
   | true=>
    rw [hfi] at hfin
    simp only [cond_true] at hfin
    have hon:=hf _ (hsub _ (mS ..)) hfi
    obtain⟨g1,g2⟩:=h1 i d e (hsub1 _ (hsub _ (mS ..))) hon
    have hsat:Sat c.n ((d,v0 i) :: T) ds a:=⟨hT.size,λ t u ht=>by
     by_cases hdt:d=t
     ·subst hdt;rw [zcR] at ht;cases ht;exact g2
     ·rw [zdb hdt] at ht;exact hT.val t u ht,hT.defers⟩
    cases e with
    | pure u=>
     obtain⟨g3,_⟩:=g1
     rw [g3] at hsat
     exact ih _ H1 Dn hsub' hnd''.2 hDr hsat hH hfin
    | res X V A=>
     obtain⟨x,hvx,hRx⟩:=g1
     rw [hvx] at hsat
     have hfin':=hfin x
     refine ih _ _ (λ j=>Dn j∨j=i) hsub' hnd''.2 (λ y hy=>?_) hsat ?_ hfin'
     ·rintro (h|h)
      ·exact hDr y hy h
      ·exact hnd''.1 (List.mem_map.2 ⟨y,hy,h⟩)
     ·obtain⟨q1,q2⟩:=h2 i (A x) hon hRx
      refine⟨B0 i,λ k hk=>⟨?_,(q2 k hk).2⟩,q1,Holds.anti H1 ?_ hH⟩
      ·rintro (hu | ⟨j,hoj,hsj,hnj,hbj⟩)
       ·exact(q2 k hk).1 hu
       ·exact h3 i j hon hoj (by rw [hRx];rfl) hsj (λ h=>hnj (.inr h.symm)) k hk hbj
      ·rintro k ((hu | ⟨j,hoj,hsj,hnj,hbj⟩)|hk)
       ·exact .inl hu
       ·exact .inr ⟨j,hoj,hsj,λ h=>hnj (.inl h),hbj⟩
       ·exact .inr ⟨i,hon,by rw [hRx];rfl,hDn _ (mS ..),hk⟩
 refine key S1 T1 H (λ _=>False) (λ _ h=>h) hnd (λ _ _ h=>h) hT1 (Holds.anti H ?_ h4) h
 rintro k (hu | ⟨i,hi,hs,_,hb⟩)
 ·exact .inl hu
 ·exact .inr ⟨i,hi,hs,hb⟩
theorem zcD (q:Nat→Bool):∀ (T T':List (Nat×Value)),(∀ s v r,T=(s,v) :: r→True)→T' = T.filter (λ x=>q x.1)→∀ t v,lk T' t=some v→lk T t=some v∧q t=true
 | [],T',_,h,t,v,hl=>by subst h;simp [lk] at hl
 | (s,u) :: r,T',_,h,t,v,hl=>by
  subst h
  by_cases hq:q s=true
  ·rw [List.filter_cons_of_pos (by simpa using hq)] at hl
   by_cases hst:s=t
   ·subst hst;rw [zcR] at hl ⊢;exact⟨hl,hq⟩
   ·rw [zdb hst] at hl ⊢
    exact zcD q r _ (λ _ _ _ _=>trivial) I t v hl
  ·rw [List.filter_cons_of_neg (by simpa using hq)] at hl
   have ih:=zcD q r _ (λ _ _ _ _=>trivial) I t v hl
   by_cases hst:s=t
   ·subst hst;exact absurd ih.2 hq
   ·rw [zdb hst];exact ih
theorem zhu (ops:List Oper) (i:Nat):∀ T,zcl ops i T=T.filter (λ x=>ops.all (λ f=>(match f.dst with|some d=>!Nat.beq d x.1|none=>true)||zaT f i))
 | []=>rfl
 | (s,v) :: r=>by
  simp only [zcl,zhu ops i r,List.filter_cons]
  cases ops.all (λ f=>(match f.dst with|some d=>!Nat.beq d s|none=>true)||zaT f i) <;> rfl
theorem zha {a b:Nat}:Nat.beq a b=true↔a=b:=⟨Nat.eq_of_beq_eq_true,λ h=>by subst h;exact Nat.beq_refl _⟩
theorem zgH (hI:Inv c ds ops pre T0 H S listed a w) {i:Nat} (hpre:∀ (k:Nat) o,pre[k]?=some o→ops[k]?=some o) (hun:¬ isOn listed i):Sat c.n (zcl pre i T0) ds a:=by
 refine⟨hI.size,λ t v h=>?_,hI.defers⟩
 rw [zhu] at h
 obtain⟨h1,h2⟩:=zcD (λ s=>pre.all (λ f=>(match f.dst with|some d=>!Nat.beq d s|none=>true)||zaT f i)) T0 _ (λ _ _ _ _=>trivial) I t v h
 refine hI.old t v h1 λ k o hk hon hd=>?_
 rw [List.all_eq_true] at h2
 have h3:=h2 o (List.mem_of_getElem? hk)
 rw [hd] at h3
 simp only [Nat.beq_refl,Bool.not_true,Bool.false_or] at h3
 exact hun (hI.closed k o (hpre k o hk) hon i h3)
theorem zs7 {K:Ents→Prop}:∀ (r:List Oper) (i:Nat) (Sa:Ents),PH c ds pre T0 H K i r Sa→∃ S,K S∧(∃ q,S=q++Sa∧q.map (·.1)=(List.range' i r.length).reverse) ∧
  ∀ (j:Nat) o,r[j]?=some o→∃ d e S',o.dst=some d∧Ob c ds pre T0 H (i+j) o S' e∧∃ q,S=q++(i+j,d,e) :: S'
 | [],i,Sa,h=>⟨Sa,h,⟨[],rfl,rfl⟩,λ j o hj=>by simp at hj⟩
 | o :: r,i,Sa,h=>by
  obtain⟨d,e,hd,hO,hr⟩:=h
  obtain⟨S,hK,⟨q,hq,hq2⟩,hall⟩:=zs7 r (i+1) _ hr
  refine⟨S,hK,⟨q++[(i,d,e)],by rw [hq];simp,?_⟩,?_⟩
  ·simp only [List.map_append,hq2,List.map_cons,List.map_nil,lC,List.range'_succ,List.reverse_cons]
  ·intro j oj hj
   cases j with
   | zero=>
    simp only [List.getElem?_cons_zero,sI] at hj
    subst hj
    exact⟨d,e,Sa,hd,hO,q,hq⟩
   | succ j=>
    simp only [List.getElem?_cons_succ] at hj
    obtain⟨d',e',S',h1,h2,h3⟩:=hall j oj hj
    exact⟨d',e',S',h1,by rwa [show i+(j+1)=i+1+j from by omega],by rwa [show i+(j+1)=i+1+j from by omega]⟩
theorem zkI {l:List Nat} {q q':Nat→Bool} (hq:∀ x,q' x=true→q x=true) {i:Nat} (hi:i∈l) (h1:q i=true) (h2:q' i=false):(l.filter q').length<(l.filter q).length:=by
 have hle:∀ l:List Nat,(l.filter q').length≤(l.filter q).length:=by
  intro l
  induction l with
  | nil=>exact Nat.le_refl _
  | cons x r ih=>
   simp only [List.filter_cons]
   cases hx':q' x with
   | true=>simp [hq x hx',ih]
   | false=>cases q x <;> simp <;> omega
 induction l with
 | nil=>cases hi
 | cons x r ih=>
  simp only [List.filter_cons]
  rcases List.mem_cons.1 hi with rfl|hi'
  ·simp only [h1,h2,if_true,Bool.false_eq_true,if_false,lC]
   have:=hle r
   omega
  ·have:=ih hi'
   cases hx':q' x with
   | true=>simp [hq x hx',this]
   | false=>cases q x <;> simp <;> omega
theorem zbX {listed:Array Bool} {l:Array Oper} {i:Nat} (hs:listed.size=l.size):i∈Region.ready .any l listed↔i<l.size∧¬ isOn listed i∧∃ o,l[i]?=some o∧∀ j,zaT o j=true→isOn listed j:=by
 rw [mem_ready]
 constructor
 ·rintro ⟨h0,o,ho,hall⟩
  have hlt:i<l.size:=(Array.getElem?_eq_some_iff.1 ho).1
  refine⟨hlt,?_,o,ho,λ j hj=>?_⟩
  ·unfold isOn
   have:i<listed.size:=by omega
   simp [this] at h0 ⊢
   exact h0
  ·unfold zaT at hj
   rw [List.any_eq_true] at hj
   obtain⟨e,he,hb⟩:=hj
   rw [aT,zha] at hb
   have:=hall e (by simpa using he) hb.1
   rw [hb.2] at this
   exact this
 ·rintro ⟨hlt,hno,o,ho,hall⟩
  have hlt':i<listed.size:=by omega
  refine⟨?_,o,ho,λ e he hb=>?_⟩
  ·unfold isOn at hno
   simp [hlt'] at hno ⊢
   exact hno
  ·refine hall e.on ?_
   unfold zaT
   rw [List.any_eq_true]
   exact⟨e,by simpa using he,by rw [hb,Nat.beq_refl];rfl⟩
theorem zbY:∀ (l:List Oper) (i:Nat),zb8 i l=true→∀ (k:Nat) o,l[k]?=some o→∀ j,zaT o j=true→j<i+k
 | [],_,_,k,o,hk,_,_=>by simp at hk
 | x :: r,i,h,k,o,hk,j,hj=>by
  simp only [zb8,aT] at h
  cases k with
  | zero=>
   simp only [List.getElem?_cons_zero,sI] at hk
   subst hk
   unfold zaT at hj
   rw [List.any_eq_true] at hj
   obtain⟨e,he,hb⟩:=hj
   rw [aT,zha] at hb
   have:=List.all_eq_true.1 h.1 e he
   rw [hb.1] at this
   simp only [Bool.not_true,Bool.false_or] at this
   have:=bL this
   omega
  | succ k=>
   simp only [List.getElem?_cons_succ] at hk
   have:=zbY r (i+1) h.2 k o hk j hj
   omega
theorem zdL {l:List Oper} {listed:Array Bool} (hc:∀ (k:Nat) o,l[k]?=some o→isOn listed k→∀ j,zaT o j=true→isOn listed j) :
  ∀ (n i j:Nat),(∀ o,l[i]?=some o→∀ j,zaT o j=true→isOn listed j)→reach l n i j=true→isOn listed j
 | 0,_,_,_,h=>by simp [reach] at h
 | n+1,i,j,hi,h=>by
  unfold reach at h
  cases ho:l[i]? with
  | none=>rw [ho] at h;cases h
  | some o=>
   rw [ho] at h
   simp only [Bool.or_eq_true] at h
   rcases h with h|h
   ·exact hi o ho j h
   ·rw [List.any_eq_true] at h
    obtain⟨e,he,hb⟩:=h
    rw [aT] at hb
    have hon:isOn listed e.on:=hi o ho e.on (by
     unfold zaT
     rw [List.any_eq_true]
     exact⟨e,he,by rw [hb.1,Nat.beq_refl];rfl⟩)
    exact zdL hc n e.on j (λ o' ho'=>hc e.on o' ho' hon) hb.2
theorem zdF:∀ (l:List Oper),zeE (dsts l)=true→∀ (i j:Nat) (oi oj:Oper),l[i]?=some oi→l[j]?=some oj→i≠j→∀ d,oi.dst=some d→oj.dst≠some d
 | [],_,i,_,_,_,h,_,_,_,_=>by simp at h
 | x :: r,h,i,j,oi,oj,hi,hj,hij,d,hd=>by
  simp only [dsts,List.map_cons] at h
  cases hx:x.dst with
  | none=>rw [hx] at h;simp [zeE] at h
  | some dx=>
   rw [hx] at h
   simp only [zeE,aT] at h
   have hr:∀ (k:Nat) o,r[k]?=some o→o.dst≠some dx:=λ k o hk he=>by
    have:=List.all_eq_true.1 h.1 o.dst (List.mem_map.2 ⟨o,List.mem_of_getElem? hk,rfl⟩)
    rw [he] at this
    simp at this
   cases i with
   | zero=>
    simp only [List.getElem?_cons_zero,sI] at hi
    subst hi
    rw [hx] at hd
    cases hd
    cases j with
    | zero=>exact absurd I hij
    | succ j=>exact hr j oj (by simpa using hj)
   | succ i=>
    cases j with
    | zero=>
     simp only [List.getElem?_cons_zero,sI] at hj
     subst hj
     intro he
     rw [hx] at he
     cases he
     exact hr i oi (by simpa using hi) hd
    | succ j=>exact zdF r h.2 i j oi oj (by simpa using hi) (by simpa using hj) (by omega) d hd
end
section
variable {c:Cx} {p:Post} {l:List Oper} {m:Nat}
theorem zhl (hb:zb8 0 l=true) (hch:zhL l m=true):∀ (s j fuel:Nat) (listed:Array Bool) (a:Act) (w:World),m+j+s=l.length→s≤fuel→listed.size=l.length →
  (∀ k,k<l.length→(isOn listed k↔k<m+j))→wpListIn (FW c.r) 0 c.P l.toArray p.Q (l.drop (m+j)) a w→wpAnyIn (FW c.r) 0 c.P .any l.toArray p.Q fuel listed a w:=by
 intro s
 induction s with
 | zero=>
  intro j fuel listed a w hs _ hsz hon h
  have hready:Region.ready .any l.toArray listed=[]:=by
   rw [List.eq_nil_iff_forall_not_mem]
   intro i hi
   obtain⟨h1,h2,_⟩:=(zbX (by simpa using hsz)).1 hi
   simp only [List.size_toArray] at h1
   exact h2 ((hon i h1).2 (by omega))
  rw [List.drop_eq_nil_of_le (by omega)] at h
  exact wpAnyIn_done hready h fuel
 | succ s ih=>
  intro j fuel listed a w hs hf hsz hon h
  obtain⟨fuel,rfl⟩:∃ f,fuel=f+1:=⟨fuel - 1,by omega⟩
  have hlt:m+j<l.length:=by omega
  have hdrop:l.drop (m+j)=l[m+j] :: l.drop (m+j+1):=List.drop_eq_getElem_cons hlt
  have hin:m+j∈Region.ready .any l.toArray listed:=by
   refine(zbX (by simpa using hsz)).2 ⟨by simpa using hlt,λ h=>?_,l[m+j],by simp [hlt],λ k hk=>?_⟩
   ·have:=(hon _ hlt).1 h;omega
   ·have:=zbY l 0 hb (m+j) l[m+j] (by simp [hlt]) k hk
    exact(hon k (by omega)).2 (by omega)
  refine⟨λ h0=>(by rw [h0] at hin;cases hin),λ i hi=>?_⟩
  obtain⟨h1,h2,o,ho,h3⟩:=(zbX (by simpa using hsz)).1 hi
  simp only [List.size_toArray] at h1
  have hge:m+j≤i:=by
   rcases Nat.lt_or_ge i (m+j) with h|h
   ·exact absurd ((hon i h1).2 h) h2
   ·exact h
  have hi':i=m+j:=by
   rcases Nat.lt_or_ge (m+j) i with hgt|hle
   ·exfalso
    unfold zhL at hch
    have:=List.all_eq_true.1 hch (i - m - 1) (by rw [List.mem_range];omega)
    rw [show m+(i - m - 1)+1=i from by omega] at this
    have ho':l[i]?=some o:=by simpa using ho
    rw [ho'] at this
    have hx:=h3 _ this
    have:=(hon (m+(i - m - 1)) (by omega)).1 hx
    omega
   ·omega
  subst hi'
  rw [hdrop] at h
  have key:wpOpIn (FW c.r) 0 c.P l.toArray p.Q (m+j) (wpListIn (FW c.r) 0 c.P l.toArray p.Q (l.drop (m+j+1))) a w:=by
   unfold wpOpIn
   have hg:l.toArray[m+j]?=some l[m+j]:=by simp [hlt]
   rw [hg]
   unfold wpListIn at h
   exact h
  refine wpOpIn_mono (λ a' w' h'=>?_) key
  refine ih (j+1) fuel _ a' w' (by omega) (by omega) (by simp [hsz]) (λ k hk=>?_) (by rwa [show m+(j+1)=m+j+1 from by omega])
  rw [zbt (by omega),hon k hk]
  omega
theorem zer (hb:zb8 0 l=true):∀ (s k fuel:Nat) (listed:Array Bool) (a:Act) (w:World),k+s=l.length→s≤fuel→listed.size=l.length→(∀ i,i<l.length→(isOn listed i↔i<k)) →
  wpAnyIn (FW c.r) 0 c.P .any l.toArray p.Q fuel listed a w→wpOpsIn (FW c.r) 0 c.P l.toArray p.Q (List.range' k s) a w:=by
 intro s
 induction s with
 | zero=>
  intro k fuel listed a w hs _ hsz hon h
  have hready:Region.ready .any l.toArray listed=[]:=by
   rw [List.eq_nil_iff_forall_not_mem]
   intro i hi
   obtain⟨h1,h2,_⟩:=(zbX (by simpa using hsz)).1 hi
   simp only [List.size_toArray] at h1
   exact h2 ((hon i h1).2 (by omega))
  cases fuel with
  | zero=>exact h.2
  | succ f=>exact h.1 hready
 | succ s ih=>
  intro k fuel listed a w hs hf hsz hon h
  obtain⟨fuel,rfl⟩:∃ f,fuel=f+1:=⟨fuel - 1,by omega⟩
  have hlt:k<l.length:=by omega
  have hin:k∈Region.ready .any l.toArray listed:=by
   refine(zbX (by simpa using hsz)).2 ⟨by simpa using hlt,λ h=>?_,l[k],by simp [hlt],λ j hj=>?_⟩
   ·have:=(hon _ hlt).1 h;omega
   ·have:=zbY l 0 hb k l[k] (by simp [hlt]) j hj
    exact(hon j (by omega)).2 (by omega)
  rw [List.range'_succ,wpOpsIn_cons]
  refine wpOpIn_mono (λ a' w' h'=>?_) (h.2 k hin)
  refine ih (k+1) fuel _ a' w' (by omega) (by omega) (by simp [hsz]) (λ i hi=>?_) h'
  rw [zbt (by omega),hon i hi]
  omega
end
def zd3 (ops:List Oper):List (Nat×Value)→List (Nat×Value)
 | []=>[]
 | (s,v) :: r=>bif ops.all (λ f=>match f.dst with|some d=>!Nat.beq d s|none=>true) then(s,v) :: zd3 ops r else zd3 ops r
theorem zeI (ops:List Oper):∀ T,zd3 ops T=T.filter (λ x=>ops.all (λ f=>match f.dst with|some d=>!Nat.beq d x.1|none=>true))
 | []=>rfl
 | (s,v) :: r=>by
  simp only [zd3,zeI ops r,List.filter_cons]
  cases ops.all (λ f=>match f.dst with|some d=>!Nat.beq d s|none=>true) <;> rfl
def allE:Ents→List (Nat×Ent)
 | []=>[]
 | (_,d,e) :: r=>(d,e) :: allE r
theorem zf6:∀ (S:Ents) (j:Nat) (e:Ent),lkS S j=some e→∃ d,(j,d,e)∈S
 | [],_,_,h=>by simp [lkS] at h
 | (k,d,e') :: r,j,e,h=>by
  have h':(bif Nat.beq k j then some e' else lkS r j)=some e:=h
  cases hb:Nat.beq k j with
  | true=>
   rw [hb] at h'
   simp only [cond_true,sI] at h'
   have:=Nat.eq_of_beq_eq_true hb
   subst this;subst h'
   exact⟨d,mS ..⟩
  | false=>
   rw [hb] at h'
   obtain⟨d',hd⟩:=zf6 r j e h'
   exact⟨d',mM _ hd⟩
theorem zd2 {ops:Array Oper} {tmps:Array Value} {j d:Nat} {b:Bool} {u:Value} {o:Oper} (ho:ops[j]?=some o) (hd:o.dst=some d) (h:tmps[d]?=some u):yielded ops tmps j=some b↔u=.bool b:=by
 unfold yielded
 simp only [ho,Option.bind_some,hd,h]
 cases u <;> simp
theorem zec {ops:Array Oper} {tmps:Array Value} {j d:Nat} {b:Bool} {o:Oper} (ho:ops[j]?=some o) (hd:o.dst=some d) (h:tmps[d]?=some (.bool b)):yielded ops tmps j=some b:=by
 simp [yielded,ho,hd,h]
section
variable {c:Cx} {ds:List Deferred} {p:Post} {pre suf:List Oper} {T0:List (Nat×Value)} {H:List Res}
theorem zwb (hc:zjO c.n pre suf=true) {S:Ents} (hS1:S.map (·.1)=(List.range' 0 pre.length).reverse)
  (hall:∀ (j:Nat) o,pre[j]?=some o→∃ d e S',o.dst=some d∧Ob c ds pre T0 H (0+j) o S' e∧∃ q,S=q++(0+j,d,e) :: S')
  (hK:finE (allE S) (zd3 pre T0) H (λ T H'=>GK c ds (KL c (pre++suf).toArray p suf) T H')) :
  ∀ (fuel:Nat) (listed:Array Bool) (a:Act) (w:World),((List.range (pre++suf).length).filter (λ i=>!listed.getD i false)).length≤fuel→listed.size=(pre++suf).length →
   (∀ k,pre.length≤k→¬ isOn listed k)→Inv c ds (pre++suf) pre T0 H S listed a w→wpAnyIn (FW c.r) 0 c.P .any (pre++suf).toArray p.Q fuel listed a w:=by
 simp only [zjO,aT] at hc
 obtain⟨⟨⟨⟨⟨hback,hdef⟩,hdst⟩,hok⟩,hfirst⟩,hchain⟩:=hc
 have hnodup:(S.map (·.1)).Nodup:=by
  rw [hS1]
  unfold List.Nodup
  rw [List.pairwise_reverse]
  exact(List.nodup_range' (s:=0) (n:=pre.length) (step:=1)).imp Ne.symm
 have hpre:∀ (k:Nat) o,pre[k]?=some o→(pre++suf)[k]?=some o:=λ k o h=>by
  have:=(List.getElem?_eq_some_iff.1 h).1
  rw [List.getElem?_append_left this];exact h
 have hSop:∀ j dj ej,(j,dj,ej)∈S→∃ oj,pre[j]?=some oj∧oj.dst=some dj:=by
  intro j dj ej hj
  have hjm:j∈S.map (·.1):=List.mem_map.2 ⟨_,hj,rfl⟩
  rw [hS1,List.mem_reverse,List.mem_range'_1] at hjm
  have hlt:j<pre.length:=by omega
  obtain⟨d,e,S',hd,_,q,hq⟩:=hall j pre[j] (by simp [hlt])
  rw [Nat.zero_add] at hq
  have hmem:(j,d,e)∈S:=by rw [hq];simp
  have:(j,dj,ej)=(j,d,e):=by
   have key:∀ (L:Ents),(L.map (·.1)).Nodup→∀ x∈L,∀ y∈L,x.1=y.1→x=y:=by
    intro L
    induction L with
    | nil=>intro _ x hx;cases hx
    | cons z r ih=>
     intro hn x hx y hy hxy
     simp only [List.map_cons,List.nodup_cons] at hn
     rcases List.mem_cons.1 hx with rfl|hx' <;> rcases List.mem_cons.1 hy with rfl|hy'
     ·rfl
     ·exact absurd (List.mem_map.2 ⟨y,hy',hxy.symm⟩) hn.1
     ·exact absurd (List.mem_map.2 ⟨x,hx',hxy⟩) hn.1
     ·exact ih hn.2 x hx' y hy' hxy
   exact key S hnodup _ hj _ hmem I
  simp only [Prod.mk.injEq,true_and] at this
  exact⟨pre[j],by simp [hlt],by rw [hd,this.1]⟩
 have huniq:∀ x∈S,∀ y∈S,x.1=y.1→x=y:=by
  have key:∀ (L:Ents),(L.map (·.1)).Nodup→∀ x∈L,∀ y∈L,x.1=y.1→x=y:=by
   intro L
   induction L with
   | nil=>intro _ x hx;cases hx
   | cons z r ih=>
    intro hn x hx y hy hxy
    simp only [List.map_cons,List.nodup_cons] at hn
    rcases List.mem_cons.1 hx with rfl|hx' <;> rcases List.mem_cons.1 hy with rfl|hy'
    ·rfl
    ·exact absurd (List.mem_map.2 ⟨y,hy',hxy.symm⟩) hn.1
    ·exact absurd (List.mem_map.2 ⟨x,hx',hxy⟩) hn.1
    ·exact ih hn.2 x hx' y hy' hxy
  exact key S hnodup
 intro fuel
 induction fuel with
 | zero=>
  intro listed a w hf hsz hsuf hI
  by_cases hallon:∀ i,i<pre.length→isOn listed i
  ·obtain⟨T',H',hg,hsat,hhp⟩:=zdH (S:=S) (S1:=S) (f:=λ _=>true) (L:=allE) (K:=λ T H'=>GK c ds (KL c (pre++suf).toArray p suf) T H') (T1:=zd3 pre T0) hI (λ _ h=>h)
    (λ x hx _=>by
     have hjm:x.1∈S.map (·.1):=List.mem_map.2 ⟨_,hx,rfl⟩
     rw [hS1,List.mem_reverse,List.mem_range'_1] at hjm
     exact hallon x.1 (by omega))
    (by
     refine⟨hI.size,λ t v h=>?_,hI.defers⟩
     rw [zeI] at h
     obtain⟨h1,h2⟩:=zcD (λ s=>pre.all (λ f=>match f.dst with|some d=>!Nat.beq d s|none=>true)) T0 _ (λ _ _ _ _=>trivial) I t v h
     refine hI.old t v h1 λ k o hk _ hd=>?_
     rw [List.all_eq_true] at h2
     have h3:=h2 o (List.mem_of_getElem? hk)
     rw [hd] at h3
     simp at h3)
    rfl (λ _ _ _ _=>rfl) hnodup hK
   have hl:=hg a w hsat hhp
   have h0:suf.length=0:=by
    rcases Nat.eq_zero_or_pos suf.length with h|h
    ·exact h
    ·exfalso
     have hmem:pre.length∈(List.range (pre++suf).length).filter (λ i=>!listed.getD i false):=by
      rw [List.mem_filter,List.mem_range]
      refine⟨by simp;omega,?_⟩
      have:=hsuf pre.length (Nat.le_refl _)
      unfold isOn at this
      simp only [Bool.not_eq_true] at this
      rw [this];rfl
     have:=List.length_pos_of_mem hmem
     omega
   refine zhl (m:=pre.length) hback hchain 0 0 0 listed a w (by rw [lA];omega) (Nat.le_refl _) hsz (λ k hk=>⟨λ _=>by simp at hk;omega,λ h=>hallon k (by omega)⟩) ?_
   rw [Nat.add_zero,List.drop_left]
   exact hl
  ·exfalso
   obtain⟨i,hi⟩:=Classical.not_forall.1 hallon
   obtain⟨hi1,hi2⟩:=Classical.not_imp.1 hi
   have hmem:i∈(List.range (pre++suf).length).filter (λ i=>!listed.getD i false):=by
    rw [List.mem_filter,List.mem_range]
    refine⟨by simp;omega,?_⟩
    unfold isOn at hi2
    simp only [Bool.not_eq_true] at hi2
    rw [hi2];rfl
   have:=List.length_pos_of_mem hmem
   omega
 | succ fuel ih=>
  intro listed a w hf hsz hsuf hI
  by_cases hallon:∀ i,i<pre.length→isOn listed i
  ·obtain⟨T',H',hg,hsat,hhp⟩:=zdH (S:=S) (S1:=S) (f:=λ _=>true) (L:=allE) (K:=λ T H'=>GK c ds (KL c (pre++suf).toArray p suf) T H') (T1:=zd3 pre T0) hI (λ _ h=>h)
    (λ x hx _=>by
     have hjm:x.1∈S.map (·.1):=List.mem_map.2 ⟨_,hx,rfl⟩
     rw [hS1,List.mem_reverse,List.mem_range'_1] at hjm
     exact hallon x.1 (by omega))
    (by
     refine⟨hI.size,λ t v h=>?_,hI.defers⟩
     rw [zeI] at h
     obtain⟨h1,h2⟩:=zcD (λ s=>pre.all (λ f=>match f.dst with|some d=>!Nat.beq d s|none=>true)) T0 _ (λ _ _ _ _=>trivial) I t v h
     refine hI.old t v h1 λ k o hk _ hd=>?_
     rw [List.all_eq_true] at h2
     have h3:=h2 o (List.mem_of_getElem? hk)
     rw [hd] at h3
     simp at h3)
    rfl (λ _ _ _ _=>rfl) hnodup hK
   have hl:=hg a w hsat hhp
   have hcnt:suf.length≤fuel+1:=by
    refine Nat.le_trans ?_ hf
    rw [lA,List.range_eq_range',←List.range'_append_1,List.filter_append,lA]
    refine Nat.le_trans ?_ (Nat.le_add_left _ _)
    rw [List.filter_eq_self.2 (λ x hx=>?_)]
    ·simp
    ·rw [List.mem_range'_1] at hx
     have:=hsuf x (by omega)
     unfold isOn at this
     simp only [Bool.not_eq_true] at this
     rw [this];rfl
   refine zhl (m:=pre.length) hback hchain suf.length 0 (fuel+1) listed a w (by simp) hcnt hsz (λ k hk=>⟨λ hon=>?_,λ h=>hallon k (by omega)⟩) ?_
   ·rcases Nat.lt_or_ge k pre.length with h|h
    ·omega
    ·exact absurd hon (hsuf k h)
   rw [Nat.add_zero,List.drop_left]
   exact hl
  ·have hex:∃ i,i<pre.length∧¬ isOn listed i:=by
    obtain⟨i,hi⟩:=Classical.not_forall.1 hallon
    exact⟨i,Classical.not_imp.1 hi⟩
   refine⟨λ h0=>?_,λ i hi=>?_⟩
   ·exfalso
    have least:∀ n,(∃ i,i<n∧¬ isOn listed i)→∃ i,i<n∧¬ isOn listed i∧∀ k,k<i→isOn listed k:=by
     intro n
     induction n with
     | zero=>rintro ⟨i,hi,_⟩;omega
     | succ n ih=>
      rintro ⟨i,hi,hno⟩
      by_cases h:∃ i,i<n∧¬ isOn listed i
      ·obtain⟨j,h1,h2,h3⟩:=ih h
       exact⟨j,by omega,h2,h3⟩
      ·refine⟨i,hi,hno,λ k hk=>Classical.byContradiction λ hn=>h ⟨k,by omega,hn⟩⟩
    obtain⟨i,h1,h2,h3⟩:=least _ hex
    have hlt:i<(pre++suf).length:=by simp;omega
    have:i∈Region.ready .any (pre++suf).toArray listed:=by
     refine(zbX (by simpa using hsz)).2 ⟨by simpa using hlt,h2,(pre++suf)[i],by simp,λ j hj=>?_⟩
     have:=zbY _ 0 hback i (pre++suf)[i] (by simp) j hj
     exact h3 j (by omega)
    rw [h0] at this
    cases this
   ·obtain⟨g1,g2,o,ho,g3⟩:=(zbX (by simpa using hsz)).1 hi
    simp only [List.size_toArray] at g1
    have ho':(pre++suf)[i]?=some o:=by simpa using ho
    have him:i<pre.length:=by
     rcases Nat.lt_or_ge i pre.length with h|h
     ·exact h
     ·exfalso
      rcases Nat.lt_or_ge pre.length i with hgt|hle
      ·unfold zhL at hchain
       have:=List.all_eq_true.1 hchain (i - pre.length - 1) (by rw [List.mem_range];omega)
       rw [show pre.length+(i - pre.length - 1)+1=i from by omega,ho'] at this
       exact hsuf _ (by omega) (g3 _ this)
      ·have hie:i=pre.length:=by omega
       have hne:suf.isEmpty=false:=by
        cases suf with
        | nil=>simp at g1;omega
        | cons _ _=>rfl
       rw [hne,Bool.false_or] at hfirst
       obtain⟨k,hk1,hk2⟩:=hex
       unfold zjf at hfirst
       have:=List.all_eq_true.1 hfirst k (List.mem_range.2 hk1)
       rw [←hie] at this
       exact hk2 (zdL hI.closed 64 i k (λ o'' h''=>by rw [ho'] at h'';cases h'';exact g3) this)
    have hpi:pre[i]?=some o:=by rw [List.getElem?_append_left him] at ho';exact ho'
    obtain⟨d,e,S',hd,hOb,q,hq⟩:=hall i o hpi
    rw [Nat.zero_add] at hOb hq
    have hsubS:∀ x∈S',x∈S:=λ x hx=>by rw [hq];simp [hx]
    have hmem:(i,d,e)∈S:=by rw [hq];simp
    have hndS':(S'.map (·.1)).Nodup:=by
     have:=hnodup
     rw [hq,List.map_append,List.nodup_append] at this
     have:=this.2.1
     rw [List.map_cons,List.nodup_cons] at this
     exact this.2
    have hsatb:Sat c.n (zcl pre i T0) ds a:=zgH hI hpre g2
    have hdn:d<c.n:=by
     have:=List.all_eq_true.1 hok o (List.mem_of_getElem? hpi)
     rw [hd] at this
     exact bL this
    have hnd:zfO o=false:=by
     have:=List.all_eq_true.1 hdef o (List.mem_of_getElem? (hpre i o hpi))
     simpa using this
    have hnext:∀ (v:Value) (r:Option Res) (w':World),Ext w w'→e.ok v r→(∀ R,r=some R→∃ B:Nat→Prop,(∀ k,B k→w.heap.size≤k∧k<w'.heap.size)∧R.A B w') →
      wpAnyIn (FW c.r) 0 c.P .any (pre++suf).toArray p.Q fuel (listed.setIfInBounds i true) (a.put (some d) v) w':=by
     intro v r w' hx hek hr
     have hilt:i<listed.size:=by omega
     refine ih _ _ _ ?_ (by simp [hsz]) (λ k hk hon=>?_) ?_
     ·have:=zkI (l:=List.range (pre++suf).length) (q:=λ i=>!listed.getD i false) (q':=λ k=>!(listed.setIfInBounds i true).getD k false) (i:=i) ?_ (List.mem_range.2 g1) ?_ ?_
      ·omega
      ·intro x hx'
       have:¬ isOn (listed.setIfInBounds i true) x:=by unfold isOn;simpa using hx'
       have:¬ isOn listed x:=λ h=>this ((zbt hilt x).2 (.inr h))
       unfold isOn at this
       simpa using this
      ·unfold isOn at g2;simpa using g2
      ·have:isOn (listed.setIfInBounds i true) i:=(zbt hilt i).2 (.inl I)
       unfold isOn at this
       simp only [this];rfl
     ·rcases(zbt hilt k).1 hon with rfl|h
      ·omega
      ·exact hsuf k hk h
     ·exact zj5 hI hpi ho' hilt hd (λ j oj hj hji=>zdF pre hdst i j o oj hpi hj (Ne.symm hji) d hd) hSop
       (λ d' e' h=>by have:=huniq _ h _ hmem I;simp only [Prod.mk.injEq,true_and] at this;exact this) hdn g3 g2 hx hek hr
    unfold wpOpIn
    rw [ho]
    simp only []
    have hfun:∀ {K:List (Nat×Value)→List Res→Prop},finE (deps o S') (zcl pre i T0) H K→∃ T' H',K T' H'∧Sat c.n T' ds a∧Hp c.U c.w0 H' w:=λ h=>
     zdH (f:=λ j=>zaT o j) (S1:=S') (L:=deps o) hI hsubS (λ x _ hb=>g3 x.1 hb) hsatb I (λ _ _ _ _=>rfl) hndS' h
    unfold Ob at hOb
    cases hg:o.guard with
    | none=>
     rw [hg] at hOb
     simp only at hOb
     rw [if_pos (by simp [Region.wanted,hg])]
     obtain⟨T',H',hst,hsat,hhp⟩:=hfun hOb
     cases e with
     | pure u=>
      refine za9 hnd (hst.run a w hsat hhp) λ v w' hv=>?_
      obtain⟨rfl,hx⟩:=hv
      rw [hd]
      exact hnext v none w' hx ⟨rfl,rfl⟩ (λ R h=>by cases h)
     | res X V A=>
      refine za9 hnd (hst.run a w hsat hhp) λ v w' hv=>?_
      obtain⟨x,rfl,hx,B,hB,hA⟩:=hv
      rw [hd]
      exact hnext _ (some (A x)) w' hx ⟨x,rfl,rfl⟩ (λ R h=>by cases h;exact⟨B,hB,hA⟩)
    | some gw=>
     obtain⟨j,want⟩:=gw
     rw [hg] at hOb
     rcases hOb with ⟨hlk,hbj,hst⟩ | ⟨u0,q,u,hlk,hbj,hq0,rfl,hst⟩
     ·obtain⟨dj,hj⟩:=zf6 S' j _ hlk
      have honj:=g3 j hbj
      obtain⟨oj,hoj,hdj⟩:=hSop j dj _ (hsubS _ hj)
      obtain⟨v0,R0,B0,h1,_⟩:=hI.fam
      obtain⟨hok',hval⟩:=h1 j dj _ (hsubS _ hj) honj
      obtain⟨hvj,_⟩:=hok'
      rw [hvj] at hval
      have hy:yielded (pre++suf).toArray a.tmps j=some want:=zec (by simpa using hpre j oj hoj) hdj hval
      rw [if_pos (by simp only [Region.wanted,hg];rw [hy];simp)]
      obtain⟨T',H',hst',hsat,hhp⟩:=hfun hst
      cases e with
      | pure u=>
       refine za9 hnd (hst'.run a w hsat hhp) λ v w' hv=>?_
       obtain⟨rfl,hx⟩:=hv
       rw [hd]
       exact hnext v none w' hx ⟨rfl,rfl⟩ (λ R h=>by cases h)
      | res X V A=>
       refine za9 hnd (hst'.run a w hsat hhp) λ v w' hv=>?_
       obtain⟨x,rfl,hx,B,hB,hA⟩:=hv
       rw [hd]
       exact hnext _ (some (A x)) w' hx ⟨x,rfl,rfl⟩ (λ R h=>by cases h;exact⟨B,hB,hA⟩)
     obtain⟨dj,hj⟩:=zf6 S' j _ hlk
     have honj:=g3 j hbj
     obtain⟨oj,hoj,hdj⟩:=hSop j dj _ (hsubS _ hj)
     obtain⟨v0,R0,B0,h1,_⟩:=hI.fam
     obtain⟨hok',hval⟩:=h1 j dj _ (hsubS _ hj) honj
     obtain⟨hvj,_⟩:=hok'
     rw [hvj] at hval
     have hy:yielded (pre++suf).toArray a.tmps j=some want↔u0=.bool want:=zd2 (by simpa using hpre j oj hoj) hdj hval
     cases hqq:q with
     | true=>
      rw [if_pos (by simp only [Region.wanted,hg];rw [hy.2 (hq0.1 hqq)];simp)]
      obtain⟨T',H',hst',hsat,hhp⟩:=hfun (hst hqq)
      refine za9 hnd (hst'.run a w hsat hhp) λ v w' hv=>?_
      obtain⟨rfl,hx⟩:=hv
      rw [hd]
      exact hnext v none w' hx ⟨by rw [if_pos hqq],rfl⟩ (λ R h=>by cases h)
     | false=>
      have hnw:¬ yielded (pre++suf).toArray a.tmps j=some want:=λ h=>by
       have:=hq0.2 (hy.1 h)
       rw [hqq] at this
       cases this
      rw [if_neg (by simp only [Region.wanted,hg];simpa using hnw)]
      refine⟨λ _ _=>trivial,?_⟩
      rw [hd]
      exact hnext undef none w Ext.rfl ⟨by rw [if_neg (by simp [hqq])],rfl⟩ (λ R h=>by cases h)
theorem Hp.drawn {U:Nat→Prop} {w0 w:World} {H:List Res} (h:Hp U w0 H w):Hp U w0 H { w with drawn:=w.drawn+1 }:=h.ext (Ext.of (Below.refl _ _).drew (Nat.le_succ _))
theorem zbb {id:Nat} {l:List Oper} {d:Bool} (m:Nat) (hm:d=true→c.P.follows .mixedOrders=true) (hc:zjO c.n (l.take m) (l.drop m)=true)
  (h:PH c ds (l.take m) T0 H (λ S=>finE (allE S) (zd3 (l.take m) T0) H (λ T H'=>GK c ds (KL c l.toArray p (l.drop m)) T H')) 0 (l.take m) []):GK c ds (KC c (.region id l.toArray d) p) T0 H:=by
 intro a w ha hw
 obtain⟨S,hK,⟨q,hq,hq2⟩,hall⟩:=zs7 _ _ _ h
 rw [List.append_nil] at hq
 have hl:l.take m++l.drop m=l:=List.take_append_drop m l
 have hmain:∀ w,Hp c.U c.w0 H w→wpAnyIn (FW c.r) 0 c.P .any l.toArray p.Q l.length (Array.replicate l.length false) a w:=by
  intro w hw
  have hoff:∀ k,¬ isOn (Array.replicate l.length false) k:=λ k=>by
   unfold isOn
   by_cases hk:k<l.length
   ·simp [hk]
   ·simp [hk]
  have:=zwb (c:=c) (ds:=ds) (p:=p) (pre:=l.take m) (suf:=l.drop m) (T0:=T0) (H:=H) hc (S:=S) (by rw [hq];exact hq2) hall (by rw [hl];exact hK) l.length (Array.replicate l.length false) a w
   (by rw [hl];exact Nat.le_trans (List.length_filter_le _ _) (by simp)) (by rw [hl];simp) (λ k _=>hoff k)
   ⟨hw.base,ha.size,ha.defers,λ k o _ hon=>absurd hon (hoff k),λ s v hs _=>ha.val s v hs,
    ⟨λ _=>undef,λ _=>none,λ _ _=>False,λ i _ _ _ hon=>absurd hon (hoff i),λ i _ hon=>absurd hon (hoff i),λ i _ hon=>absurd hon (hoff i),
     Holds.anti H (λ k hk=>by
      rcases hk with hk | ⟨_,_,_,hk⟩
      ·exact hk
      ·exact hk.elim) hw.holds⟩⟩
  rw [hl] at this
  exact this
 cases d
 ·refine wpIn_region ?_
  have hb:zb8 0 l=true:=by
   simp only [zjO,aT] at hc
   obtain⟨⟨⟨⟨⟨hback,_⟩,_⟩,_⟩,_⟩,_⟩:=hc
   rwa [hl] at hback
  have:=zer (c:=c) (p:=p) hb l.length 0 l.length (Array.replicate l.length false) a w (by omega) (Nat.le_refl _) (by simp) (λ i hi=>⟨λ h=>by
   unfold isOn at h
   simp [hi] at h,λ h=>by omega⟩) (hmain w hw)
  rw [List.range_eq_range']
  simpa using this
 ·refine wpIn_region_any (hm I) ?_
  have:=hmain _ hw.drawn
  simpa using this
theorem gZ {c:Cx} {ds:List Deferred} {p:Post} {T0:List (Nat×Value)} {H:List Res} {id:Nat} {l:List Oper} {d:Bool} (m:Nat)
  (h:PH c ds (l.take m) T0 H (λ S=>finE (allE S) (zd3 (l.take m) T0) H (λ T H'=>GK c ds (KL c l.toArray p (l.drop m)) T H')) 0 (l.take m) []) (hm:d=true→c.P.follows .mixedOrders=true:=by exact λ _=>mixed) (hc:zjO c.n (l.take m) (l.drop m)=true:=by kernel_rfl):GK c ds (KC c (.region id l.toArray d) p) T0 H:=zbb m hm hc h
end
section
variable {c:Cx} {ds:List Deferred} {pre:List Oper} {T0:List (Nat×Value)} {H:List Res} {K:Ents→Prop} {i d:Nat} {r:List Oper} {S:Ents} {op:Op} {ty:TypeId} {ps:String} {af:Array Edge}
theorem ph_y {v:Value} (h:finE (deps ⟨some d,op,ty,ps,af,none⟩ S) (zcl pre i T0) H (λ T H'=>Y c ds H' T ⟨some d,op,ty,ps,af,none⟩ v)) (k:PH c ds pre T0 H K (i+1) r ((i,d,.pure v) :: S)) :
  PH c ds pre T0 H K i (⟨some d,op,ty,ps,af,none⟩ :: r) S:=⟨d,.pure v,rfl,h,k⟩
theorem zmr {X:Type} {V:X→Value} {A:X→Res} (h:finE (deps ⟨some d,op,ty,ps,af,none⟩ S) (zcl pre i T0) H (λ T H'=>YX c ds H' T ⟨some d,op,ty,ps,af,none⟩ V A))
  (k:PH c ds pre T0 H K (i+1) r ((i,d,.res X V A) :: S)):PH c ds pre T0 H K i (⟨some d,op,ty,ps,af,none⟩ :: r) S:=⟨d,.res X V A,rfl,h,k⟩
theorem zaH {v:Value} {j:Nat} {b:Bool} (hb:lkS S j=some (.pure (.bool b))) (hj:zaT ⟨some d,op,ty,ps,af,some (j,true)⟩ j=true)
  (h:b=true→finE (deps ⟨some d,op,ty,ps,af,some (j,true)⟩ S) (zcl pre i T0) H (λ T H'=>Y c ds H' T ⟨some d,op,ty,ps,af,some (j,true)⟩ v))
  (k:PH c ds pre T0 H K (i+1) r ((i,d,.pure (if b=true then v else undef)) :: S)):PH c ds pre T0 H K i (⟨some d,op,ty,ps,af,some (j,true)⟩ :: r) S:=
 ⟨d,_,rfl,Or.inr ⟨_,b,v,hb,hj,by cases b <;> simp,rfl,h⟩,k⟩
theorem zaz {v:Value} {j:Nat} {b:Bool} (hb:lkS S j=some (.pure (.bool b))) (hj:zaT ⟨some d,op,ty,ps,af,some (j,false)⟩ j=true)
  (h:(!b)=true→finE (deps ⟨some d,op,ty,ps,af,some (j,false)⟩ S) (zcl pre i T0) H (λ T H'=>Y c ds H' T ⟨some d,op,ty,ps,af,some (j,false)⟩ v))
  (k:PH c ds pre T0 H K (i+1) r ((i,d,.pure (if (!b)=true then v else undef)) :: S)):PH c ds pre T0 H K i (⟨some d,op,ty,ps,af,some (j,false)⟩ :: r) S:=
 ⟨d,_,rfl,Or.inr ⟨_,!b,v,hb,hj,by cases b <;> simp,rfl,h⟩,k⟩
theorem ziw {v:Value} {j:Nat} {b:Bool} (hb:lkS S j=some (.pure (.bool b))) (hj:zaT ⟨some d,op,ty,ps,af,some (j,b)⟩ j=true)
  (h:finE (deps ⟨some d,op,ty,ps,af,some (j,b)⟩ S) (zcl pre i T0) H (λ T H'=>Y c ds H' T ⟨some d,op,ty,ps,af,some (j,b)⟩ v)) (k:PH c ds pre T0 H K (i+1) r ((i,d,.pure v) :: S)) :
  PH c ds pre T0 H K i (⟨some d,op,ty,ps,af,some (j,b)⟩ :: r) S:=⟨d,.pure v,rfl,Or.inl ⟨hb,hj,h⟩,k⟩
theorem zdr {v:Value} {j:Nat} {q b:Bool} (hb:lkS S j=some (.pure (if q=true then .bool b else undef))) (hj:zaT ⟨some d,op,ty,ps,af,some (j,true)⟩ j=true)
  (h:(q&&b)=true→finE (deps ⟨some d,op,ty,ps,af,some (j,true)⟩ S) (zcl pre i T0) H (λ T H'=>Y c ds H' T ⟨some d,op,ty,ps,af,some (j,true)⟩ v))
  (k:PH c ds pre T0 H K (i+1) r ((i,d,.pure (if (q&&b)=true then v else undef)) :: S)):PH c ds pre T0 H K i (⟨some d,op,ty,ps,af,some (j,true)⟩ :: r) S:=
 ⟨d,_,rfl,Or.inr ⟨_,q&&b,v,hb,hj,by cases q <;> cases b <;> simp [undef],rfl,h⟩,k⟩
theorem zc0 {v:Value} {j:Nat} {q b:Bool} (hb:lkS S j=some (.pure (if q=true then .bool b else undef))) (hj:zaT ⟨some d,op,ty,ps,af,some (j,false)⟩ j=true)
  (h:(q&&!b)=true→finE (deps ⟨some d,op,ty,ps,af,some (j,false)⟩ S) (zcl pre i T0) H (λ T H'=>Y c ds H' T ⟨some d,op,ty,ps,af,some (j,false)⟩ v))
  (k:PH c ds pre T0 H K (i+1) r ((i,d,.pure (if (q&&!b)=true then v else undef)) :: S)):PH c ds pre T0 H K i (⟨some d,op,ty,ps,af,some (j,false)⟩ :: r) S:=
 ⟨d,_,rfl,Or.inr ⟨_,q&&!b,v,hb,hj,by cases q <;> cases b <;> simp [undef],rfl,h⟩,k⟩
end
theorem za7 {P:Program} {f:FuncId} {fn:Func} (hf:P.funcs[f]?=some fn) (hn:(fn.name == "runtime.NumGoroutine")=false) (hb:fn.body.isNone=false):En P f:=λ args w=>by
 unfold callFunc
 rw [zal (v:=P) (w':=w) I]
 simp only [hf,hn,hb,Bool.false_eq_true,if_false]
 rfl
theorem eK {P:Program} {f:FuncId} {fn:Func} (hf:P.funcs[f]?=some fn) (hn:(fn.name == "runtime.NumGoroutine")=false:=by kernel_rfl) (hb:fn.body.isNone=false:=by kernel_rfl):En P f:=za7 hf hn hb
section
variable {c:Cx} {ds:List Deferred} {H:List Res} {T:List (Nat×Value)} {d:Option Nat} {ty:TypeId} {ps:String} {af:Array Edge} {g:Option (Nat×Bool)} {x y z:Operand} {u v:Value}
section
variable {t t':TypeId} {m n:Int} (hx:evo T x=some (O m)) (hy:evo T y=some (O n))
include hx hy
theorem zaY (h1:-9223372036854775808≤m+n:=by omega) (h2:m+n≤9223372036854775807:=by omega):Y c ds H T ⟨d,.binOp .add t x y t',ty,ps,af,g⟩ (O (m+n)):=by
 have:=zfw (c:=c) (ds:=ds) (H:=H) (d:=d) (ty:=ty) (ps:=ps) (af:=af) (g:=g) (t:=t) (t':=t') hx hy
 rwa [zeA h1 h2] at this
theorem zfV (h1:-9223372036854775808≤m - n:=by omega) (h2:m - n≤9223372036854775807:=by omega):Y c ds H T ⟨d,.binOp .sub t x y t',ty,ps,af,g⟩ (O (m - n)):=by
 have:=ziW (c:=c) (ds:=ds) (H:=H) (d:=d) (ty:=ty) (ps:=ps) (af:=af) (g:=g) (t:=t) (t':=t') hx hy
 rwa [zeA h1 h2] at this
end
theorem zn5 {op:BinOp} {t t':TypeId} {m n:yB} (hx:evo T x=some (.string m)) (hy:evo T y=some (.string n)) (hv:∀ P w,(Op.stringOp op m n).run P w=.ok v w) (ho:∀ P w,(binOp op t (.string m) (.string n)).run P w=(Op.stringOp op m n).run P w) :
  Y c ds H T ⟨d,.binOp op t x y t',ty,ps,af,g⟩ v:=
 zcz λ a w ha _=>by
  simp only [execOp,ha.eval hx,ha.eval hy]
  exact zbu (by rw [zal zgF,ho];exact hv _ _)
section
variable {t t':TypeId} {m n:yB} (hx:evo T x=some (.string m)) (hy:evo T y=some (.string n))
include hx hy
theorem zge:Y c ds H T ⟨d,.binOp .eql t x y t',ty,ps,af,g⟩ (.bool (m.toList == n.toList)):=zn5 hx hy (λ _ _=>rfl) (λ _ _=>rfl)
theorem ziV:Y c ds H T ⟨d,.binOp .neq t x y t',ty,ps,af,g⟩ (.bool (!(m.toList == n.toList))):=zn5 hx hy (λ _ _=>rfl) (λ _ _=>rfl)
end
def epx (a:yO) (o:Nat):Value:=.pointer (a.map λ x=>x.add o)
def zaW {α:Type} (a:yO) (k:Nat) (enc:α→List Value) (l:List α):Res where
 A B w:=l=[]∨∃ b off,a=some ⟨b,off,none⟩∧(∀ j,B j↔j=b)∧∀ i x,l[i]?=some x→zc8 w b (off+i*k) (enc x)
 loc B w w' h hA:=by
  rcases hA with hA | ⟨b,off,ha,hB,hc⟩
  ·exact .inl hA
  ·refine .inr ⟨b,off,ha,hB,λ i x hi=>?_⟩
   have key:∀ (vs:List Value) (o:Nat),zc8 w b o vs→zc8 w' b o vs:=by
    intro vs
    induction vs with
    | nil=>intro _ _;trivial
    | cons v r ih=>
     intro o hh
     refine⟨?_,ih _ hh.2⟩
     rw [←hh.1]
     simp only [World.cell?]
     rw [h b ((hB b).2 I)]
   exact key _ _ (hc i x hi)
theorem zdG {α:Type} {w:World} {a:yO} {k:Nat} {enc:α→List Value} {l:List α} (h:Has w (zaW a k enc l)) {i:Nat} {x:α} (hx:l[i]?=some x):∃ b off,a=some ⟨b,off,none⟩∧zc8 w b (off+i*k) (enc x):=by
 obtain⟨B,hB,hA⟩:=h
 rcases hA with hA | ⟨b,off,ha,hb,hc⟩
 ·subst hA;simp at hx
 ·exact⟨b,off,ha,hc i x hx⟩
theorem zdQ {w:World} {b:Nat}:∀ (vs:List Value) (o i:Nat) (v:Value),zc8 w b o vs→vs[i]?=some v→w.cell? ⟨b,o+i,none⟩=some v
 | [],_,_,_,_,h=>by simp at h
 | u :: r,o,0,v,hc,h=>by simp at h;subst h;exact hc.1
 | u :: r,o,i+1,v,hc,h=>by
  have:=zdQ r (o+1) i v hc.2 (by simpa using h)
  rwa [show o+1+i=o+(i+1) from by omega] at this
theorem zeF {α:Type} {l:List α} {i:Int} (h0:0≤i) (h1:i<(l.length:Int)) [Inhabited α]:l[i.toNat]?=some (l.getD i.toNat default):=by
 have:i.toNat<l.length:=by omega
 simp [this]
theorem zaE {α:Type} {t e:TypeId} {k cap:Nat} {a0:yO} {kd:IntKind} {i:Int} {enc:α→List Value} {l:List α} (ht:SE c.P t e k) (hx:evo T x=some (.slice a0 l.length cap)) (hy:evo T y=some (.int kd i))
  (hh:∀ w,Hp c.U c.w0 H w→Has w (zaW a0 k enc l)) (h0:0≤i:=by omega) (h1:i<(l.length:Int):=by omega):Y c ds H T ⟨d,.indexAddr t x y,ty,ps,af,g⟩ (epx a0 (i.toNat*k)):=
 zcz λ a w ha hw=>by
  have hlt:i.toNat<l.length:=by omega
  obtain⟨b,off,hab,_⟩:=zdG (hh w hw) (i:=i.toNat) (x:=l[i.toNat]) (by simp [hlt])
  subst hab
  simp only [execOp,ha.eval hx,ha.eval hy]
  refine zbu ?_
  unfold Instr.indexAt
  rw [zal (v:=(kd,i)) (w':=w) I]
  simp only []
  have hz:(sizeOf e).run c.P w=.ok k w:=by
   have hi:=ht.i
   cases hu:c.P.info? e with
   | none=>rw [hu] at hi;cases hi
   | some j=>
    rw [hu] at hi
    simp only [Option.map_some,sI] at hi
    unfold sizeOf
    rw [zal (zfK hu)]
    simp [pure,hi]
  have hu:=zaU (w:=w) ht.u
  rw [zal hu]
  simp only []
  rw [zal (v:=(some ⟨b,off,none⟩,l.length,e)) (w':=w) I,zal hu]
  simp only []
  rw [if_pos ⟨h0,h1⟩,zal hz]
  rfl
theorem zbh {S:TypeId} {f k o:Nat} {a0:yO} (h:FO c.P S f k) (hx:evo T x=some (epx a0 o)) (ha0:∀ w,Hp c.U c.w0 H w→∃ b off,a0=some ⟨b,off,none⟩):Y c ds H T ⟨d,.fieldAddr S x f,ty,ps,af,g⟩ (epx a0 (o+k)):=
 zcz λ a w ha hw=>by
  obtain⟨b,off,rfl⟩:=ha0 w hw
  simp only [execOp,ha.eval hx]
  refine zbu ?_
  simp only [epx,Option.map_some,zb2]
  rw [h.run b (off+o),Nat.add_assoc]
theorem zbv {α:Type} [Inhabited α] {t:TypeId} {k:Nat} {z:Value} {a0:yO} {i:Int} {enc:α→List Value} {l:List α} {vs:List Value} (ht:TF c.P t true k z) (hx:evo T x=some (epx a0 (i.toNat*k)))
  (hh:∀ w,Hp c.U c.w0 H w→Has w (zaW a0 k enc l)) (h0:0≤i) (h1:i<(l.length:Int)) (hv:enc (l.getD i.toNat default)=vs) (hl:vs.length=k:=by rfl):Y c ds H T ⟨d,.load t x,ty,ps,af,g⟩ (.agg vs.toArray):=
 zcz λ a w ha hw=>by
  obtain⟨b,off,hab,hc⟩:=zdG (hh w hw) (zeF h0 h1)
  subst hab
  simp only [execOp,ha.eval hx,epx,Option.map_some,zb2]
  refine zbu ?_
  unfold Instr.loadAt
  rw [zal (v:=⟨b,off+i.toNat*k,none⟩) (w':=w) I]
  rw [hv] at hc
  exact zd0 ht hl hc
theorem zcE {α:Type} [Inhabited α] {t:TypeId} {k:Nat} {z:Value} {a0:yO} {i:Int} {enc:α→List Value} {l:List α} (ht:TF c.P t false k z) (hx:evo T x=some (epx a0 (i.toNat*k)))
  (hh:∀ w,Hp c.U c.w0 H w→Has w (zaW a0 k enc l)) (h0:0≤i) (h1:i<(l.length:Int)) (hv:enc (l.getD i.toNat default)=[v]):Y c ds H T ⟨d,.load t x,ty,ps,af,g⟩ v:=
 zcz λ a w ha hw=>by
  obtain⟨b,off,hab,hc⟩:=zdG (hh w hw) (zeF h0 h1)
  subst hab
  simp only [execOp,ha.eval hx,epx,Option.map_some,zb2]
  refine zbu ?_
  unfold Instr.loadAt
  rw [zal (v:=⟨b,off+i.toNat*k,none⟩) (w':=w) I]
  rw [hv] at hc
  exact zc1 ht hc.1
theorem zbn {α:Type} [Inhabited α] {t:TypeId} {k k' f:Nat} {z:Value} {a0:yO} {i:Int} {enc:α→List Value} {l:List α} (ht:TF c.P t false k' z) (hx:evo T x=some (epx a0 (i.toNat*k+f)))
  (hh:∀ w,Hp c.U c.w0 H w→Has w (zaW a0 k enc l)) (h0:0≤i) (h1:i<(l.length:Int)) (hv:(enc (l.getD i.toNat default))[f]?=some v):Y c ds H T ⟨d,.load t x,ty,ps,af,g⟩ v:=
 zcz λ a w ha hw=>by
  obtain⟨b,off,hab,hc⟩:=zdG (hh w hw) (zeF h0 h1)
  subst hab
  simp only [execOp,ha.eval hx,epx,Option.map_some,zb2]
  refine zbu ?_
  unfold Instr.loadAt
  rw [zal (v:=⟨b,off+(i.toNat*k+f),none⟩) (w':=w) I]
  refine zc1 ht ?_
  have:=zdQ _ _ f v hc hv
  rwa [Nat.add_assoc] at this
end
theorem zaO {α:Type} {w:World} {a:yO} {k:Nat} {enc:α→List Value} {l:List α} (h:Has w (zaW a k enc l)) {i:Int} (h0:0≤i:=by omega) (h1:i<(l.length:Int):=by omega):∃ b off,a=some ⟨b,off,none⟩:=by
 have hlt:i.toNat<l.length:=by omega
 obtain⟨b,off,hab,_⟩:=zdG h (i:=i.toNat) (x:=l[i.toNat]) (by simp [hlt])
 exact⟨b,off,hab⟩
def Own (B B':Nat→Prop) (w w':World):Prop:=∀ k,B' k→B k∨(w.heap.size≤k∧k<w'.heap.size)
theorem Mod.rfl {B:Nat→Prop} {w:World}:Mod B w w:=⟨_root_.rfl,Tp.same _,_root_.rfl,Nat.le_refl _,λ _ _ _=>_root_.rfl⟩
def All:List Res→(Nat→Prop)→World→Prop
 | [],_,_=>True
 | R :: r,B,w=>∃ C E:Nat→Prop,(∀ k,C k→B k)∧(∀ k,E k→B k∧¬ C k)∧R.A C w∧All r E w
theorem All.loc:∀ (H:List Res) (B:Nat→Prop) (w w':World),(∀ k,B k→w'.heap[k]?=w.heap[k]?)→All H B w→All H B w'
 | [],_,_,_,_,_=>trivial
 | R :: r,_,w,w',h,⟨C,E,hC,hE,hA,hr⟩=>⟨C,E,hC,hE,R.loc C w w' (λ k hk=>h k (hC k hk)) hA,All.loc r E w w' (λ k hk=>h k (hE k hk).1) hr⟩
def SepR (H:List Res):Res where
 A B w:=All H B w
 loc B w w' h hA:=All.loc H B w w' h hA
theorem zdi {w:World}:∀ (H:List Res) (U:Nat→Prop),Holds H U w→∃ B,(∀ k,B k→¬ U k∧k<w.heap.size)∧All H B w
 | [],_,_=>⟨λ _=>False,λ _ h=>h.elim,trivial⟩
 | R :: r,U,⟨C,hC,hA,hr⟩=>by
  obtain⟨E,hE,hAll⟩:=zdi r _ hr
  refine⟨λ k=>C k∨E k,λ k hk=>?_,C,E,λ k hk=>.inl hk,λ k hk=>⟨.inr hk,λ hc=>(hE k hk).1 (.inr hc)⟩,hA,hAll⟩
  rcases hk with hk|hk
  ·exact hC k hk
  ·exact⟨λ hu=>(hE k hk).1 (.inl hu),(hE k hk).2⟩
theorem zcQ {w:World}:∀ (H:List Res) (U B:Nat→Prop),(∀ k,B k→¬ U k∧k<w.heap.size)→All H B w→Holds H U w
 | [],_,_,_,_=>trivial
 | _ :: r,_,_,hB,⟨C,E,hC,hE,hA,hr⟩=>
  ⟨C,λ k hk=>hB k (hC k hk),hA,zcQ r _ E (λ k hk=>⟨λ h=>h.elim (hB k (hE k hk).1).1 (hE k hk).2,(hB k (hE k hk).1).2⟩) hr⟩
theorem Hp.split {U:Nat→Prop} {w0 w:World} {L H:List Res} (h:Hp U w0 (SepR L :: H) w):Hp U w0 (L++H) w:=by
 obtain⟨hb,B,hB,hA,hr⟩:=h
 refine⟨hb,?_⟩
 have key:∀ (L:List Res) (U B:Nat→Prop),(∀ k,B k→¬ U k∧k<w.heap.size)→All L B w→Holds H (λ k=>U k∨B k) w→Holds (L++H) U w:=by
  intro L
  induction L with
  | nil=>intro U B _ _ hr;exact Holds.anti H (λ k hk=>.inl hk) hr
  | cons R r ih=>
   rintro U B hB ⟨C,E,hC,hE,hA,hAll⟩ hr
   refine⟨C,λ k hk=>hB k (hC k hk),hA,ih _ E (λ k hk=>⟨λ h=>h.elim (hB k (hE k hk).1).1 (hE k hk).2,(hB k (hE k hk).1).2⟩) hAll (Holds.anti H ?_ hr)⟩
   rintro k ((hu|hc)|he)
   ·exact .inl hu
   ·exact .inr (hC k hc)
   ·exact .inr (hE k he).1
 exact key L U B hB hA hr
theorem Hp.pack {U:Nat→Prop} {w0 w:World} {L H:List Res} (h:Hp U w0 (L++H) w):Hp U w0 (SepR L :: H) w:=by
 obtain⟨hb,hh⟩:=h
 have key:∀ (L:List Res) (U:Nat→Prop),Holds (L++H) U w→∃ B,(∀ k,B k→¬ U k∧k<w.heap.size)∧All L B w∧Holds H (λ k=>U k∨B k) w:=by
  intro L
  induction L with
  | nil=>intro U hr;exact⟨λ _=>False,λ _ h=>h.elim,trivial,Holds.anti H (λ k hk=>hk.elim id False.elim) hr⟩
  | cons R r ih=>
   rintro U ⟨C,hC,hA,hr⟩
   obtain⟨E,hE,hAll,hH⟩:=ih _ hr
   refine⟨λ k=>C k∨E k,λ k hk=>?_,⟨C,E,λ k hk=>.inl hk,λ k hk=>⟨.inr hk,λ hc=>(hE k hk).1 (.inr hc)⟩,hA,hAll⟩,Holds.anti H ?_ hH⟩
   ·rcases hk with hk|hk
    ·exact hC k hk
    ·exact⟨λ hu=>(hE k hk).1 (.inl hu),(hE k hk).2⟩
   ·rintro k (hu|hc|he)
    ·exact .inl (.inl hu)
    ·exact .inl (.inr hc)
    ·exact .inr he
 obtain⟨B,hB,hA,hr⟩:=key L U hh
 exact⟨hb,B,hB,hA,hr⟩
def cxB (P:Program) (n:Nat) (w:World) (B:Nat→Prop):Cx:={ r:=none,P:=P,n:=n,U:=λ k=>k<w.heap.size∧¬ B k,w0:=w }
theorem zpX (w:World) {B:Nat→Prop} {R:Res} (hB:∀ k,B k→k<w.heap.size) (hA:R.A B w):Hp (λ k=>k<w.heap.size∧¬ B k) w [R] w:=
 ⟨⟨rfl,Tp.same _,rfl,Nat.le_refl _,λ _ h=>h.1,λ _ _=>rfl⟩,B,λ k hk=>⟨λ h=>h.2 hk,hB k hk⟩,hA,trivial⟩
theorem zby {P:Program} {f:FuncId} {fn:Func} {code:Code} {n:Nat} {vs:List Value} {w:World} {B:Nat→Prop} {A:Res} {R:Ending→World→Prop}
  (hB:∀ k,B k→k<w.heap.size) (hA:A.A B w)
  (hf:P.funcs[f]?=some fn) (hb:fn.body=some code) (hn:fn.ntmps=n) (hl:vs.length≤n)
  (h:GK (cxB P n w B) [] (KC (cxB P n w B) code (poOf P fn R)) (idx 0 vs) [A]):Calls P f vs.toArray w R:=by
 subst hn
 refine callsIn_wide (n:=0).1 (callsIn_of_wp_marks hf hb trivial (Go.wpIn_mono (h _ _ (zko hl) (zpX w hB hA)) ?_))
 intro e a w hq
 cases e with
 | normal=>exact hq
 | ret=>exact hq
 | exit id=>exact hq.elim
 | goto l=>exact hq.elim
 | panic ch=>exact hq
 | outgrown=>exact hq.elim
def zho {X:Type} (V:X→Value) (J:X→Res) (Q:X→Prop) (B:Nat→Prop) (w:World):Ending→World→Prop:=
 λ e w'=>∃ x B',e=.returned (V x)∧Q x∧Mod B w w'∧Own B B' w w'∧(J x).A B' w'
theorem zet {w w':World} {B:Nat→Prop} {H:List Res} (h:Hp (λ k=>k<w.heap.size∧¬ B k) w H w') {p:Nat} {R:Res} (hp:H[p]?=some R) :
  ∃ B',Mod B w w'∧Own B B' w w'∧(∀ k,B' k→k<w'.heap.size)∧R.A B' w':=by
 obtain⟨B',hB',hA,_⟩:=Holds.front H p hp h.holds
 refine⟨B',⟨h.base.os,h.base.tape,h.base.output,h.base.size,λ k hk hb=>h.base.same k ⟨hk,hb⟩⟩,λ k hk=>?_,λ k hk=>(hB' k hk).2,hA⟩
 by_cases hb:B k
 ·exact .inl hb
 ·refine .inr ⟨?_,(hB' k hk).2⟩
  have:=(hB' k hk).1
  exact Nat.le_of_not_lt λ hlt=>this ⟨hlt,hb⟩
theorem zd9 {P:Program} {n:Nat} {w0:World} {B:Nat→Prop} {T:List (Nat×Value)} {H:List Res} {fn:Func} {v:Value} {X:Type} {V:X→Value} {J:X→Res} {Q:X→Prop} (x:X) (i:Nat)
  (hv:RV (cxB P n w0 B) [] T H fn v) (hu:v=V x) (hi:H[i]?=some (J x)) (hq:Q x) :
  GK (cxB P n w0 B) [] (RetP P fn (zho V J Q B w0)) T H:=zfh hv λ w hw=>by
 obtain⟨B',h1,h2,_,h3⟩:=zet hw hi
 exact⟨x,B',by rw [hu],hq,h1,h2,h3⟩
structure Foc (c:Cx) (H:List Res) (p:Nat) (R:Res) (B:Nat→Prop) (w:World):Prop where
 hp:Hp c.U c.w0 H w
 own:∀ k,B k→¬ c.U k∧k<w.heap.size
 A:R.A B w
 others:Holds (H.eraseIdx p) (λ k=>c.U k∨B k) w
theorem zrx {w:World} {S:Res}:∀ (H:List Res) (q:Nat) (U B:Nat→Prop),(∀ k,B k→U k)→H[q]?=some S→Holds H U w→Rd (λ k=>k<w.heap.size∧¬ B k) w S:=λ H q U B hBU hq h=>by
 obtain⟨C,hC,hA,_⟩:=Holds.front H q hq h
 exact⟨C,λ k hk=>⟨(hC k hk).2,λ hb=>(hC k hk).1 (hBU k hb)⟩,hA⟩
theorem Foc.other {c:Cx} {H:List Res} {p:Nat} {R S:Res} {B:Nat→Prop} {w:World} (h:Foc c H p R B w) (q:Nat) (hq:(H.eraseIdx p)[q]?=some S):Rd (λ k=>k<w.heap.size∧¬ B k) w S:=
 zrx _ q _ B (λ _ hk=>.inr hk) hq h.others
theorem Foc.rd {c:Cx} {H:List Res} {p:Nat} {R S:Res} {B:Nat→Prop} {w:World} (h:Foc c H p R B w) (hS:Rd c.U c.w0 S):Rd (λ k=>k<w.heap.size∧¬ B k) w S:=by
 obtain⟨C,hC,hA⟩:=hS
 exact⟨C,λ k hk=>⟨lL (h.hp.base.lt k (hC k hk)) h.hp.base.size,λ hb=>(h.own k hb).1 (hC k hk)⟩,S.loc C c.w0 w (λ k hk=>h.hp.base.same k (hC k hk)) hA⟩
theorem Hp.foc {c:Cx} {H:List Res} {p:Nat} {R:Res} {w:World} (h:Hp c.U c.w0 H w) (hp:H[p]?=some R):∃ B,Foc c H p R B w:=by
 obtain⟨B,hB,hA,hr⟩:=Holds.front H p hp h.holds
 exact⟨B,h,hB,hA,hr⟩
theorem Foc.upd {c:Cx} {H:List Res} {p:Nat} {R R':Res} {B B':Nat→Prop} {w w':World} (h:Foc c H p R B w) (hp:H[p]?=some R) (hm:Mod B w w') (ho:Own B B' w w') (hA:R'.A B' w'):Hp c.U c.w0 (H.set p R') w':=by
 have h1:Hp c.U c.w0 (R :: H.eraseIdx p) w:=⟨h.hp.base,B,h.own,h.A,h.others⟩
 have hb:Base c.U c.w0 w':=h.hp.base.mod hm (λ k hk=>(h.own k hk).1)
 refine⟨hb,Holds.back H p hp ⟨B',λ k hk=>?_,hA,?_⟩⟩
 ·rcases ho k hk with hk' | ⟨h1,h2⟩
  ·exact⟨(h.own k hk').1,lL (h.own k hk').2 hm.size⟩
  ·exact⟨λ hu=>by have:=h.hp.base.lt k hu;have:=h.hp.base.size;omega,h2⟩
 ·have key:∀ (L:List Res) (V:Nat→Prop),(∀ k,B k→V k)→Holds L V w→Holds L (λ k=>V k∨B' k) w':=by
   intro L
   induction L with
   | nil=>intro _ _ _;trivial
   | cons S r ih=>
    rintro V hV ⟨C,hC,hA,hr⟩
    refine⟨C,λ k hk=>⟨λ hv=>?_,lL (hC k hk).2 hm.size⟩,S.loc C w w' (λ k hk=>hm.same k (hC k hk).2 (λ hb=>(hC k hk).1 (hV k hb))) hA,?_⟩
    ·rcases hv with hv|hv
     ·exact(hC k hk).1 hv
     ·rcases ho k hv with hb | ⟨h1,_⟩
      ·exact(hC k hk).1 (hV k hb)
      ·have:=(hC k hk).2;omega
    ·exact Holds.anti r (λ k hk=>by rcases hk with (h|h)|h <;> simp [h]) (ih _ (λ k hk=>.inl (hV k hk)) hr)
  have:=key _ _ (λ k hk=>.inr hk) h.others
  exact Holds.anti _ (λ k hk=>by rcases hk with h|h <;> simp [h]) this
section
variable {c:Cx} {ds:List Deferred} {p:Post} {T:List (Nat×Value)} {H:List Res} {ops:Array Oper} {rest:List Oper} {d:Nat} {ty:TypeId} {ps:String} {af:Array Edge}
theorem zjY {X:Type} {V:X→Value} {J:X→Res} {Q:X→Prop} {R:Res} {f:FuncId} (i:Nat) (he:En c.P f) {«as»:List Operand} {tys:Array TypeId} {vs:List Value} (hn:Nat.blt d c.n=true) (ha:evs T «as» = some vs) (hi:H[i]?=some R)
  (hc:∀ w B,Foc c H i R B w→Calls c.P f vs.toArray w (zho V J Q B w)) (k:∀ x,Q x→GK c ds (KL c ops p rest) ((d,V x) :: T) (H.set i (J x))) :
  GK c ds (KL c ops p (⟨some d,.call ⟨.value (.func f),«as».toArray,tys⟩,ty,ps,af,none⟩ :: rest)) T H:=by
 refine zif (X:={ x:X // Q x }) (λ x=>V x.1) (λ x=>H.set i (J x.1)) I I hn ?_ (λ x=>k x.1 x.2)
 intro a w hs hw
 obtain⟨B,hF⟩:=hw.foc hi
 unfold Yld
 rw [zfJ he ha hs w]
 refine(hc w B hF).mono ?_
 rintro e w' ⟨x,B',rfl,hq,hm,ho,hA⟩
 exact⟨V x,rfl,⟨x,hq⟩,rfl,hF.upd hi hm ho hA⟩
theorem zkZ {X:Type} {V:X→Value} {J:X→Res} {Q:X→Prop} {R:Res} {t:Nat} {f:FuncId} (i:Nat) (he:En c.P f) {fs cap:List Value} (hf:evo T (.tmp t)=some (.func (.func f) fs.toArray cap.toArray)) {«as»:List Operand} {tys:Array TypeId} {vs:List Value} (hn:Nat.blt d c.n=true)
  (ha:evs T «as» = some vs) (hi:H[i]?=some R) (hc:∀ w B,Foc c H i R B w→Calls c.P f (fs++vs++cap).toArray w (zho V J Q B w)) (k:∀ x,Q x→GK c ds (KL c ops p rest) ((d,V x) :: T) (H.set i (J x))) :
  GK c ds (KL c ops p (⟨some d,.call ⟨.value (.tmp t),«as».toArray,tys⟩,ty,ps,af,none⟩ :: rest)) T H:=by
 refine zif (X:={ x:X // Q x }) (λ x=>V x.1) (λ x=>H.set i (J x.1)) I I hn ?_ (λ x=>k x.1 x.2)
 intro a w hs hw
 obtain⟨B,hF⟩:=hw.foc hi
 unfold Yld
 rw [zgE he hf ha hs w]
 have:=hc w B hF
 rw [show(fs++vs++cap).toArray=fs.toArray++vs.toArray++cap.toArray from by simp] at this
 refine this.mono ?_
 rintro e w' ⟨x,B',rfl,hq,hm,ho,hA⟩
 exact⟨V x,rfl,⟨x,hq⟩,rfl,hF.upd hi hm ho hA⟩
end
def zoO (P:Program) (w0:World) (B0:Nat→Prop) (l:Nat) (args:List Value) {X:Type} (J:X→Res) (x:X) (post:Bool→X→Prop):Prop:=
 ∀ w B,Mod B0 w0 w→Own B0 B w0 w→(∀ k,B k→k<w.heap.size)→(J x).A B w →
  YieldAt Fence.wide 0 P l args.toArray w (λ e w'=>∃ b x' B',e=.returned (.bool b)∧post b x'∧Mod B w w'∧Own B B' w w'∧(J x').A B' w')
def SeqC (P:Program) (f:FuncId) (cap:List Value) (xs:List (List Value)) (M:World→Prop):Prop:=
 ∀ {X:Type} (J:X→Res) (Rl:Nat→X→Prop) (D:X→Prop) (l:Nat) (w:World) (B:Nat→Prop) (x0:X),(∀ k,B k→k<w.heap.size)→(J x0).A B w→Rl 0 x0 →
  (∀ x w' B',(J x).A B' w'→Mod B w w'→Own B B' w w'→(∀ k,B' k→k<w'.heap.size)→M w') →
  (∀ i x args,xs[i]?=some args→Rl i x→zoO P w B l args J x (λ b x'=>if b=true then Rl (i+1) x' else D x')) →
  Calls P f (Value.func (.yield l) #[] #[] :: cap).toArray w (zho (λ _=>.tuple #[]) J (λ x=>Rl xs.length x∨D x) B w)
section
variable {c:Cx} {ds:List Deferred} {p:Post} {T:List (Nat×Value)} {H:List Res} {ops:Array Oper} {rest:List Oper} {d:Nat} {ty:TypeId} {ps:String} {af:Array Edge}
structure Inside (U0:Nat→Prop) (w0:World) (c:Cx):Prop where
 sub:∀ k,U0 k→c.U k
 base:Base U0 w0 c.w0
theorem Inside.base' {U0:Nat→Prop} {w0:World} {c:Cx} {H:List Res} {w:World} (h:Inside U0 w0 c) (hw:Hp c.U c.w0 H w):Base U0 w0 w:=
 ⟨hw.base.os.trans h.base.os,h.base.tape.trans hw.base.tape,hw.base.output.trans h.base.output,Nat.le_trans h.base.size hw.base.size,h.base.lt,
  λ k hk=>(hw.base.same k (h.sub k hk)).trans (h.base.same k hk)⟩
theorem zpY (P:Program) (n:Nat) (w:World) (B:Nat→Prop):Inside (λ k=>k<w.heap.size∧¬ B k) w (cxB P n w B):=
 ⟨λ _ h=>h,⟨rfl,Tp.same _,rfl,Nat.le_refl _,λ _ h=>h.1,λ _ _=>rfl⟩⟩
theorem Inside.foc {w0:World} {B0:Nat→Prop} {c:Cx} (hin:Inside (λ k=>k<w0.heap.size∧¬ B0 k) w0 c) {H:List Res} {i:Nat} {R:Res} {B:Nat→Prop} {w:World} (hF:Foc c H i R B w):Mod B0 w0 w∧Own B0 B w0 w:=by
 have hb:=hin.base' hF.hp
 refine⟨⟨hb.os,hb.tape,hb.output,hb.size,λ k hk hb0=>hb.same k ⟨hk,hb0⟩⟩,λ k hk=>?_⟩
 by_cases hb0:B0 k
 ·exact .inl hb0
 ·exact .inr ⟨Nat.le_of_not_lt λ hlt=>(hF.own k hk).1 (hin.sub k ⟨hlt,hb0⟩),(hF.own k hk).2⟩
theorem zqm {w w':World} {B:Nat→Prop} {c:Cx} (hin:Inside (λ k=>k<w.heap.size∧¬ B k) w c) {H:List Res} {p:Nat} {R:Res} (hp:H[p]?=some R) (h:Hp c.U c.w0 H w') :
  ∃ B',Mod B w w'∧Own B B' w w'∧(∀ k,B' k→k<w'.heap.size)∧R.A B' w':=by
 obtain⟨B',hF⟩:=h.foc hp
 obtain⟨h1,h2⟩:=hin.foc hF
 exact⟨B',h1,h2,λ k hk=>(hF.own k hk).2,hF.A⟩
theorem znl {w0:World} {B0:Nat→Prop} {X:Type} {J:X→Res} {x:X} {post:Bool→X→Prop} {t l:Nat} (i:Nat) (hin:Inside (λ k=>k<w0.heap.size∧¬ B0 k) w0 c) (hf:lk T t=some (.func (.yield l) #[] #[])) {«as»:List Operand} {tys:Array TypeId} {vs:List Value} (hn:Nat.blt d c.n=true)
  (ha:evs T «as» = some vs) (hi:H[i]?=some (J x)) (hy:zoO c.P w0 B0 l vs J x post) (k:∀ b x',post b x'→GK c ds (KL c ops p rest) ((d,.bool b) :: T) (H.set i (J x'))) :
  GK c ds (KL c ops p (⟨some d,.call ⟨.value (.tmp t),«as».toArray,tys⟩,ty,ps,af,none⟩ :: rest)) T H:=by
 refine zif (X:={ bx:Bool×X // post bx.1 bx.2 }) (λ z=>.bool z.1.1) (λ z=>H.set i (J z.1.2)) I I hn ?_ (λ z=>k z.1.1 z.1.2 z.2)
 intro a w hs hw
 obtain⟨B,hF⟩:=hw.foc hi
 obtain⟨hm,ho⟩:=hin.foc hF
 obtain⟨fn,tmps,assign,body,hrun,hround⟩:=hy w B hm ho (λ k hk=>(hF.own k hk).2) hF.A
 have e1:«as».toArray.map a.eval=vs.toArray:=by rw [List.map_toArray,hs.evals ha]
 have hex:(execOp a.eval ⟨some d,.call ⟨.value (.tmp t),«as».toArray,tys⟩,ty,ps,af,none⟩).run c.P w=.ok (.round l fn tmps assign body) w:=by
  simp only [execOp]
  rw [zal (v:=({ target:=.fn (.yield l) #[],args:=vs.toArray }:Deferred)) (w':=w) (by
   have:a.eval (.tmp t)=_:=hs.eval (x:=.tmp t) hf
   simp only [resolve,e1,this,Deferred.ofValue]
   simp [pure])]
  exact hrun
 show Yld c.P _ a w _
 unfold Yld
 rw [hex]
 refine RoundIn.mono hround ?_
 rintro e w' ⟨b,x',B',rfl,hpost,hm',ho',hA'⟩
 exact⟨_,rfl,⟨(b,x'),hpost⟩,rfl,hF.upd hi hm' ho' hA'⟩
theorem zai {op:Op} {d:Option Nat} {j dj:Nat} {want b:Bool} {oj:Oper} (hj:ops[j]?=some oj) (hd:oj.dst=some dj) (hv:lk T dj=some (.bool b)) (hn:zhp d c.n=true)
  (h1:b=want→GK c ds (KL c ops p (⟨d,op,ty,ps,af,none⟩ :: rest)) T H) (h0:b=(!want)→GK c ds (KL c ops p rest) (putT d undef T) H) :
  GK c ds (KL c ops p (⟨d,op,ty,ps,af,some (j,want)⟩ :: rest)) T H:=by
 intro a w ha hw
 have hy:yielded ops a.tmps j=some b:=zec hj hd (ha.val dj _ hv)
 show wpListIn (FW c.r) 0 c.P ops p.Q (_ :: rest) a w
 unfold wpListIn
 by_cases hb:b=want
 ·rw [if_pos (by simp [Region.wanted,hy,hb])]
  have:=h1 hb a w ha hw
  change wpListIn (FW c.r) 0 c.P ops p.Q (_ :: rest) a w at this
  unfold wpListIn at this
  rwa [if_pos (by simp [Region.wanted])] at this
 ·have hb':b=(!want):=by cases b <;> cases want <;> simp_all
  rw [if_neg (by simp [Region.wanted,hy];exact hb)]
  exact⟨λ _ _=>trivial,h0 hb' _ w (ha.putT hn _) hw⟩
theorem gM {c:Cx} {ds:List Deferred} {p:Post} {ops:Array Oper} {rest:List Oper} {T:List (Nat×Value)} {H:List Res} {d:Nat} {ty:TypeId} {ps:String} {af:Array Edge} {x:Operand} {v:Value} (hx:evo T x=some v) (k:GK c ds (KL c ops p rest) ((d,v) :: T) H) (hn:Nat.blt d c.n=true:=by rfl):GK c ds (KL c ops p (⟨some d,.move x,ty,ps,af,none⟩ :: rest)) T H:=gk_y I hn (zaf hx) k
theorem gA {c:Cx} {ds:List Deferred} {p:Post} {ops:Array Oper} {rest:List Oper} {T:List (Nat×Value)} {H:List Res} {d:Nat} {ty:TypeId} {ps:String} {af:Array Edge} {x:Operand} {v:Value} (hx:evo T x=some v) (k:GK c ds (KL c ops p rest) ((d,v) :: T) H) (hn:Nat.blt d c.n=true:=by rfl):GK c ds (KL c ops p (⟨some d,.assign x,ty,ps,af,none⟩ :: rest)) T H:=gk_y I hn (zad hx) k
theorem gT {c:Cx} {ds:List Deferred} {p:Post} {ops:Array Oper} {rest:List Oper} {T:List (Nat×Value)} {H:List Res} {ty:TypeId} {ps:String} {af:Array Edge} {op:Op} {d:Option Nat} {j dj:Nat} {want:Bool} {oj:Oper} (hj:ops[j]?=some oj) (hd:oj.dst=some dj) (hv:lk T dj=some (.bool want)) (k:GK c ds (KL c ops p (⟨d,op,ty,ps,af,none⟩ :: rest)) T H) (hn:zhp d c.n=true:=by rfl) :
  GK c ds (KL c ops p (⟨d,op,ty,ps,af,some (j,want)⟩ :: rest)) T H:=zai hj hd hv hn (λ _=>k) (λ h=>absurd h (by cases want <;> decide))
theorem gF {c:Cx} {ds:List Deferred} {p:Post} {ops:Array Oper} {rest:List Oper} {T:List (Nat×Value)} {H:List Res} {ty:TypeId} {ps:String} {af:Array Edge} {op:Op} {d:Option Nat} {j dj:Nat} {want:Bool} {oj:Oper} (hj:ops[j]?=some oj) (hd:oj.dst=some dj) (hv:lk T dj=some (.bool (!want))) (k:GK c ds (KL c ops p rest) (putT d undef T) H) (hn:zhp d c.n=true:=by rfl) :
  GK c ds (KL c ops p (⟨d,op,ty,ps,af,some (j,want)⟩ :: rest)) T H:=zai hj hd hv hn (λ h=>absurd h (by cases want <;> decide)) (λ _=>k)
theorem gS {c:Cx} {ds:List Deferred} {p:Post} {T:List (Nat×Value)} {H:List Res} {y:Code} {id:Nat} {l:List Oper} (h:GK c ds (KL c l.toArray { nrm:=KC c y p,ret:=p.ret,ex:=p.ex,pn:=p.pn } l) T H):GK c ds (KC c (.seq (.region id l.toArray false) y) p) T H:=zac (zaa h)
theorem zNe {op:Op} {d:Option Nat} {j dj:Nat} {want:Bool} {oj:Oper} (hj:ops[j]?=some oj) (hd:oj.dst=some dj) (hv:lk T dj=some undef) (hn:zhp d c.n=true)
  (h0:GK c ds (KL c ops p rest) (putT d undef T) H):GK c ds (KL c ops p (⟨d,op,ty,ps,af,some (j,want)⟩ :: rest)) T H:=by
 intro a w ha hw
 have hy:yielded ops a.tmps j=none:=by
  have:=ha.val dj _ hv
  simp [yielded,hj,hd,this,undef]
 show wpListIn (FW c.r) 0 c.P ops p.Q (_ :: rest) a w
 unfold wpListIn
 rw [if_neg (by simp [Region.wanted,hy])]
 exact⟨λ _ _=>trivial,h0 _ w (ha.putT hn _) hw⟩
end
def Rec (l:Nat) (st:LoopState) (pe:Option Code) (fn:FuncId) (tmps:Array Value) (ps:Array Tmp) (assign body:Code) (D:Nat):Res where
 A B w:=(∀ k,B k↔k=l)∧w.heap[l]?=some (.loop { state:=st,pending:=pe,fn:=fn,tmps:=tmps,params:=ps,assign:=assign,body:=body,defers:=D })
 loc _ _ _ h hA:=⟨hA.1,(h l ((hA.1 l).2 I)).trans hA.2⟩
def Dfr (D:Nat):Res where
 A B w:=(∀ k,B k↔k=D)∧w.heap[D]?=some (.deferred (some []))
 loc _ _ _ h hA:=⟨hA.1,(h D ((hA.1 D).2 I)).trans hA.2⟩
def mark (D:Nat):Deferred:={ target:=.collected D,args:=#[] }
def Beg (P:Program) (l:Nat) (K:Act→World→Prop):Act→World→Prop:=λ a w=>∃ w₂,(Instr.beginRound l).run P w=.ok () w₂∧K a w₂
def zipT:List Tmp→List Value→List (Nat×Value)→List (Nat×Value)
 | t :: ts,v :: vs,T=>zipT ts vs ((t,v) :: T)
 | _,_,T=>T
theorem zmy {n:Nat}:∀ (ts:List Tmp) (vs:List Value) (T:List (Nat×Value)) (tm:Array Value),(∀ t∈ts,t<n)→Sat n T [] { tmps:=tm,defers:=[] } →
  Sat n (zipT ts vs T) [] { tmps:=(ts.zip vs).foldl (λ t (p,v)=>t.setIfInBounds p v) tm,defers:=[] }
 | [],vs,T,tm,_,h=>by cases vs <;> exact h
 | t :: ts,[],T,tm,_,h=>h
 | t :: ts,v :: vs,T,tm,hn,h=>by
  have:=zmy ts vs ((t,v) :: T) (tm.setIfInBounds t v) (λ s hs=>hn s (mM _ hs)) (h.put (hn t (mS ..)) v)
  exact this
theorem zj8 {w:World} {l:Nat} {o:Obj} {B:Nat→Prop} (hB:B l):Mod B w (w.putObj l o):=
 ⟨rfl,⟨rfl,Nat.le_refl _⟩,rfl,Nat.le_of_eq (World.putObj_size).symm,λ _ _ hb=>World.putObj_heap_other (λ h=>hb (h ▸ hB))⟩
theorem zhi {U:Nat→Prop} {w0 w:World} {H:List Res} {l D:Nat} {st st':LoopState} {pe pe':Option Code} {fn:FuncId} {tmps:Array Value} {ps:Array Tmp} {assign body:Code}
  (h:Hp U w0 (SepR [Rec l st pe fn tmps ps assign body D,Dfr D] :: H) w) :
  w.heap[l]?=some (.loop { state:=st,pending:=pe,fn:=fn,tmps:=tmps,params:=ps,assign:=assign,body:=body,defers:=D }) ∧
  Hp U w0 (SepR [Rec l st' pe' fn tmps ps assign body D,Dfr D] :: H) (w.putObj l (.loop { state:=st',pending:=pe',fn:=fn,tmps:=tmps,params:=ps,assign:=assign,body:=body,defers:=D })):=by
 have h1:Hp U w0 (Rec l st pe fn tmps ps assign body D :: Dfr D :: H) w:=Hp.split (L:=[_,_]) h
 have hl:w.heap[l]?=some (.loop { state:=st,pending:=pe,fn:=fn,tmps:=tmps,params:=ps,assign:=assign,body:=body,defers:=D }):=by
  obtain⟨_,B,_,hA,_⟩:=h1
  exact hA.2
 refine⟨hl,Hp.pack (L:=[_,_]) (H:=H) ?_⟩
 have:=Hp.upd (R':=Rec l st' pe' fn tmps ps assign body D) h1 (p:=0) I (w':=w.putObj l (.loop { state:=st',pending:=pe',fn:=fn,tmps:=tmps,params:=ps,assign:=assign,body:=body,defers:=D })) (λ B hB hA=>
  ⟨B,zj8 ((hA.1 l).2 I),λ k hk=>.inl hk,hA.1,World.putObj_heap_same (Array.getElem?_eq_some_iff.1 hl).1⟩)
 exact this
def zqC (c:Cx) {X:Type} (R:Res) (Hf:X→List Res) (N Dr:X→Prop) (exs:List (Nat×(X→Prop))):Post where
 nrm:=Join c [] (λ _=>[]) (λ x=>R :: Hf x) N
 ret:=Join c [] (λ _=>[]) (λ x=>R :: Hf x) Dr
 ex:=exs.map λ e=>(e.1,Join c [] (λ _=>[]) (λ x=>R :: Hf x) e.2)
theorem zmk {X:Type} (g:(X→Prop)→(Act→World→Prop)):∀ (exs:List (Nat×(X→Prop))) (id:Nat) (K:Act→World→Prop),lke (exs.map λ e=>(e.1,g e.2)) id=some K→∃ Q,(id,Q)∈exs∧K=g Q
 | [],_,_,h=>by simp [lke] at h
 | (k,Q) :: r,id,K,h=>by
  simp only [List.map_cons,lke] at h
  cases hb:Nat.beq k id with
  | true=>
   rw [hb] at h
   simp only [cond_true,sI] at h
   have:=Nat.eq_of_beq_eq_true hb
   subst this
   exact⟨Q,mS ..,h.symm⟩
  | false=>
   rw [hb] at h
   obtain⟨Q',h1,h2⟩:=zmk g r id K h
   exact⟨Q',mM _ h1,h2⟩
theorem zk1 {c:Cx} {ds:List Deferred} {p:Post} {T:List (Nat×Value)} {H:List Res} {g:Operand} {ps:List Tmp} {assign body:Code} {f:FuncId} {cap:List Value} {xs:List (List Value)} {M:World→Prop} {X:Type}
  (Hf:X→List Res) (Rl:Nat→X→Prop) (Dr:X→Prop) (exs:List (Nat×(X→Prop))) (x0:X)
  (hr:c.r=none) (he:En c.P f) (hg:evo T g=some (.func (.func f) #[] cap.toArray)) (hH:Hf x0=H) (h0:Rl 0 x0)
  (hseq:SeqC c.P f cap xs M) (hM:∀ x w,Hp c.U c.w0 (Hf x) w→M w) (hps:∀ a∈xs,a.length=ps.length) (hpn':ps.all (λ t=>Nat.blt t c.n)=true)
  (hbody:∀ (R1 R2:Res) (l:Nat) (U':Nat→Prop) (w':World) (i:Nat) (x:X) (args:List Value),xs[i]?=some args→Rl i x →
   (∀ S,Rd c.U c.w0 S→Rd U' w' S)→Inside c.U c.w0 ⟨some l,c.P,c.n,U',w'⟩→(∀ T' H' K,GK ⟨some l,c.P,c.n,U',w'⟩ [] K T' (R2 :: H')→GK ⟨some l,c.P,c.n,U',w'⟩ [] (Beg c.P l K) T' (R1 :: H')) →
   GK ⟨some l,c.P,c.n,U',w'⟩ [] (KC ⟨some l,c.P,c.n,U',w'⟩ assign { nrm:=Beg c.P l (KC ⟨some l,c.P,c.n,U',w'⟩ body (zqC ⟨some l,c.P,c.n,U',w'⟩ R2 Hf (Rl (i+1)) Dr exs)),ret:=λ _ _=>False,ex:=[] }) (zipT ps args T) (R1 :: Hf x))
  (hnext:∀ D x,Rl xs.length x→GK c (mark D :: ds) p.nrm T (Dfr D :: Hf x))
  (hret:∀ D x,Dr x→GK c (mark D :: ds) p.ret T (Dfr D :: Hf x))
  (hex:∀ D x id Q,(id,Q)∈exs→Q x→∃ K,lke p.ex id=some K∧GK c (mark D :: ds) K T (Dfr D :: Hf x)) :
  GK c ds (KC c (.rangeFunc g ps.toArray assign body) p) T H:=by
 subst hH
 have hpn:∀ t∈ps,t<c.n:=λ t ht=>bL (List.all_eq_true.1 hpn' t ht)
 intro a w ha hw
 show(Code.rangeFunc g ps.toArray assign body).wpIn (FW c.r) 0 c.P p.Q a w
 rw [hr]
 refine wpIn_rangeFunc ?_
 intro fn hfn
 let D:=w.heap.size
 let l:=w.heap.size+1
 let rec_:LoopState→Option Code→Res:=λ st pe=>SepR [Rec l st pe fn a.tmps ps.toArray assign body D,Dfr D]
 obtain⟨W1,hW1⟩:∃ W1,W1=(w.alloc (.deferred (some []))).alloc (.loop { state:=.ready,pending:=none,fn:=fn,tmps:=a.tmps,params:=ps.toArray,assign:=assign,body:=body,defers:=D }):=⟨_,rfl⟩
 have hdef:Hp c.U c.w0 (Dfr D :: Hf x0) (w.alloc (.deferred (some []))):=
  hw.new (zcG _) (B:=λ k=>k=D) (λ k hk=>by subst hk;exact⟨Nat.le_refl _,by simp [D]⟩) ⟨λ _=>Iff.rfl,World.alloc_heap_new w _⟩
 have hrec:Hp c.U c.w0 (Rec l .ready none fn a.tmps ps.toArray assign body D :: Dfr D :: Hf x0) W1:=by
  rw [hW1]
  refine hdef.new (zcG _) (B:=λ k=>k=l) (λ k hk=>by subst hk;exact⟨by simp [l],by simp [l]⟩) ⟨λ _=>Iff.rfl,?_⟩
  have:=World.alloc_heap_new (w.alloc (.deferred (some []))) (.loop { state:=.ready,pending:=none,fn:=fn,tmps:=a.tmps,params:=ps.toArray,assign:=assign,body:=body,defers:=D })
  rwa [World.size_alloc] at this
 have hst:Hp c.U c.w0 (rec_ .ready none :: Hf x0) W1:=Hp.pack (L:=[_,_]) hrec
 let J:X×LoopState×Option Code→Res:=λ z=>SepR (rec_ z.2.1 z.2.2 :: Hf z.1)
 have hJ:∃ B,(∀ k,B k→¬ c.U k∧k<W1.heap.size)∧(J (x0,.ready,none)).A B W1:=zdi _ _ hst.holds
 obtain⟨B,hB,hA⟩:=hJ
 have hcalls:=hseq J (λ i z=>z.2.1=.ready∧z.2.2=none∧Rl i z.1)
  (λ z=>z.2.1=.done∧((z.2.2=some .ret∧Dr z.1)∨∃ id Q,z.2.2=some (.exit id)∧(id,Q)∈exs∧Q z.1))
  l W1 B (x0,.ready,none) (λ k hk=>(hB k hk).2) hA ⟨rfl,rfl,h0⟩ ?mem ?rounds
 case mem=>
  intro z w' B' hA' hm ho hlt
  have:Hp c.U c.w0 (rec_ z.2.1 z.2.2 :: Hf z.1) w':=⟨hst.base.mod hm (λ k hk=>(hB k hk).1),zcQ _ _ B' (λ k hk=>⟨λ hu=>by
   rcases ho k hk with hb | ⟨h1,_⟩
   ·exact(hB k hb).1 hu
   ·have:=hst.base.lt k hu;have:=hst.base.size;omega,hlt k hk⟩) hA'⟩
  exact hM z.1 w' this.drop
 case rounds=>
  rintro i ⟨x,st,pe⟩ args hargs ⟨hst1,hst2,hR⟩
  simp only at hst1 hst2 hR
  subst hst1;subst hst2
  intro w' B' hm ho hlt hA'
  have hp1:Hp (λ k=>k<w'.heap.size∧¬ B' k) w' (rec_ .ready none :: Hf x) w':=
   ⟨⟨rfl,Tp.same _,rfl,Nat.le_refl _,λ _ h=>h.1,λ _ _=>rfl⟩,zcQ _ _ B' (λ k hk=>⟨λ h=>h.2 hk,hlt k hk⟩) hA'⟩
  have hl:=(zhi (st':=.ready) (pe':=none) hp1).1
  have hy:=run_yield (P:=c.P) (args:=args.toArray) hl (by simp [hps args (List.mem_of_getElem? hargs)])
  refine⟨_,_,_,_,hy,roundIn_of_wpIn trivial ?_⟩
  have hb:=hbody (rec_ .ready none) (rec_ .busy none) l (λ k=>k<w'.heap.size∧¬ B' k) w' i x args hargs hR ?rd ?ins ?beg
  case ins=>
   have hb':Base c.U c.w0 w':=hst.base.mod hm (λ k hk=>(hB k hk).1)
   refine⟨λ k hk=>⟨lL (hb'.lt k hk) hb'.size,λ hbk=>?_⟩,hb'⟩
   rcases ho k hbk with hb2 | ⟨h1,_⟩
   ·exact(hB k hb2).1 hk
   ·have:=hst.base.lt k hk;have:=hst.base.size;omega
  case rd=>
   rintro S ⟨C,hC,hS⟩
   have hb':Base c.U c.w0 w':=hst.base.mod hm (λ k hk=>(hB k hk).1)
   refine⟨C,λ k hk=>⟨lL (hb'.lt k (hC k hk)) hb'.size,λ hbk=>?_⟩,S.loc C c.w0 w' (λ k hk=>hb'.same k (hC k hk)) hS⟩
   rcases ho k hbk with hb2 | ⟨h1,_⟩
   ·exact(hB k hb2).1 (hC k hk)
   ·have:=hst.base.lt k (hC k hk);have:=hst.base.size;omega
  case beg=>
   intro T' H' K hK a1 w1 ha1 hw1
   obtain⟨hl1,hw2⟩:=zhi (st':=.busy) (pe':=none) hw1
   exact⟨_,run_beginRound hl1 I,hK a1 _ ha1 hw2⟩
  have hs:=zmy ps args T a.tmps hpn (Sat.mk ha.size ha.val I)
  have hwalk:=hb _ w' hs hp1
  have harr:((ps.toArray.zip args.toArray).foldl (λ tmps (t,a)=>tmps.setIfInBounds t a) a.tmps)=(ps.zip args).foldl (λ t (p,v)=>t.setIfInBounds p v) a.tmps:=by
   rw [List.zip_toArray,List.foldl_toArray]
  rw [harr]
  refine Go.wpIn_mono hwalk ?_
  intro e a1 w1 hq
  cases e with
  | normal=>
   obtain⟨w2,hbr,hwb⟩:=hq
   refine⟨w2,hbr,Go.wpIn_mono hwb ?_⟩
   intro e a2 w2 hq2
   have fin:∀ (x':X) (j:Option Code),Hp (λ k=>k<w'.heap.size∧¬ B' k) w' (rec_ .busy none :: Hf x') w2→∃ w4,(Instr.endRound l j).run c.P w2=.ok (.bool j.isNone) w4 ∧
     ∃ B'',Mod B' w' w4∧Own B' B'' w' w4∧(J (x',(if j.isNone then .ready else .done),j)).A B'' w4:=by
    intro x' j hw2
    obtain⟨hl2,hw4⟩:=zhi (st':=if j.isNone then .ready else .done) (pe':=j) hw2
    refine⟨_,run_endRound j hl2,?_⟩
    obtain⟨B'',hB'',hA''⟩:=zdi _ _ hw4.holds
    refine⟨B'',⟨hw4.base.os,hw4.base.tape,hw4.base.output,hw4.base.size,λ k hk hb=>hw4.base.same k ⟨hk,hb⟩⟩,λ k hk=>?_,hA''⟩
    by_cases hbk:B' k
    ·exact .inl hbk
    ·exact .inr ⟨Nat.le_of_not_lt λ hlt=>(hB'' k hk).1 ⟨hlt,hbk⟩,(hB'' k hk).2⟩
   cases e with
   | normal=>
    obtain⟨x',_,hw3,hN⟩:=hq2
    obtain⟨w4,hend,B'',hm4,ho4,hA4⟩:=fin x' none hw3
    exact⟨_,w4,hend,true,(x',.ready,none),B'',rfl,(if_pos I).mpr ⟨rfl,rfl,hN⟩,hm4,ho4,hA4⟩
   | ret=>
    obtain⟨x',_,hw3,hD⟩:=hq2
    obtain⟨w4,hend,B'',hm4,ho4,hA4⟩:=fin x' (some .ret) hw3
    exact⟨_,w4,hend,false,(x',.done,some .ret),B'',rfl,(if_neg fT).mpr ⟨rfl,.inl ⟨rfl,hD⟩⟩,hm4,ho4,hA4⟩
   | exit id=>
    change (match lke (exs.map λ e=>(e.1,Join _ [] (λ _=>[]) (λ x=>rec_ .busy none :: Hf x) e.2)) id with|some K=>K a2 w2|none=>False) at hq2
    cases hk:lke (exs.map λ e=>(e.1,Join _ [] (λ _=>[]) (λ x=>rec_ .busy none :: Hf x) e.2)) id with
    | none=>rw [hk] at hq2;exact hq2.elim
    | some K=>
     rw [hk] at hq2
     obtain⟨Q,hmem,rfl⟩:=zmk (λ Q=>Join _ [] (λ _=>[]) (λ x=>rec_ .busy none :: Hf x) Q) exs id K hk
     obtain⟨x',_,hw3,hD⟩:=hq2
     obtain⟨w4,hend,B'',hm4,ho4,hA4⟩:=fin x' (some (.exit id)) hw3
     exact⟨_,w4,hend,false,(x',.done,some (.exit id)),B'',rfl,(if_neg fT).mpr ⟨rfl,.inr ⟨id,Q,rfl,hmem,hD⟩⟩,hm4,ho4,hA4⟩
   | goto t=>exact hq2.elim
   | panic ch=>exact hq2.elim
   | outgrown=>exact hq2.elim
  | ret=>exact hq.elim
  | exit id=>exact hq.elim
  | goto t=>exact hq.elim
  | panic ch=>exact hq.elim
  | outgrown=>exact hq.elim
 refine⟨l,[mark D],W1,{ target:=.fn (.func f) cap.toArray,args:=#[.func (.yield l) #[] #[]] },W1,f,#[.func (.yield l) #[] #[]]++cap.toArray,W1,?_,?_,λ _ _=>trivial,?_,λ h=>by simp [FW] at h,?_⟩
 ·rw [hW1];exact run_enterLoop_outer _ _ _ _ _
 ·simp only [resolve,ha.eval hg,Deferred.ofValue]
  simp [pure,Act.eval]
 ·exact he _ W1
 ·refine zfz.2 ?_
  have e2:(#[Value.func (.yield l) #[] #[]]++cap.toArray:Array Value)=(Value.func (.yield l) #[] #[] :: cap).toArray:=by simp
  rw [e2]
  refine hcalls.mono ?_
  rintro e w3 ⟨⟨x',st,pe⟩,B',rfl,hQ,hm,ho,hA'⟩
  have hlt':∀ k,B' k→k<w3.heap.size:=λ k hk=>by
   rcases ho k hk with hb | ⟨_,h2⟩
   ·exact lL (hB k hb).2 hm.size
   ·exact h2
  have hw3:Hp c.U c.w0 (rec_ st pe :: Hf x') w3:=⟨hst.base.mod hm (λ k hk=>(hB k hk).1),zcQ _ _ B' (λ k hk=>⟨λ hu=>by
   rcases ho k hk with hb | ⟨h1,_⟩
   ·exact(hB k hb).1 hu
   ·have:=hst.base.lt k hu;have:=hst.base.size;omega,hlt' k hk⟩) hA'⟩
  obtain⟨hl3,hw4⟩:=zhi (st':=.exhausted) (pe':=pe) hw3
  have hnb:st≠.busy:=by rcases hQ with ⟨h,_⟩ | ⟨h,_⟩ <;> (simp only at h;subst h;decide)
  refine⟨pe,_,run_endLoop hl3 hnb,?_⟩
  have hw5:Hp c.U c.w0 (Dfr D :: Hf x') _:=(Hp.split (L:=[_,_]) hw4).drop
  have ha5:Sat c.n T (mark D :: ds) { a with defers:=[mark D]++a.defers }:=⟨ha.size,ha.val,by simp [ha.defers]⟩
  rcases hQ with ⟨_,h2,h3⟩ | ⟨_,⟨h2,h3⟩ | ⟨id,Q,h2,h3,h4⟩⟩
  ·simp only at h2 h3;subst h2
   exact hnext D x' h3 _ _ ha5 hw5
  ·simp only at h2 h3;subst h2
   exact wpIn_ret (hret D x' h3 _ _ ha5 hw5)
  ·simp only at h2 h4;subst h2
   obtain⟨K,hk,hG⟩:=hex D x' id Q h3 h4
   exact wpIn_exit (by show(match lke p.ex id with|some K=>K _ _|none=>False);rw [hk];exact hG _ _ ha5 hw5)
theorem zil {c:Cx} {ds:List Deferred} {T:List (Nat×Value)} {H:List Res} {fn:Func} {R:Ending→World→Prop} {D:Nat} (i:Nat) (hi:H[i]?=some (Dfr D)) (h:GK c ds (RetP c.P fn R) T (H.eraseIdx i)):GK c (mark D :: ds) (RetP c.P fn R) T H:=by
 intro a w ha hw
 have hw1:Hp c.U c.w0 (Dfr D :: H.eraseIdx i) w:=⟨hw.base,Holds.front H i hi hw.holds⟩
 have hD:w.heap[D]?=some (.deferred (some [])):=by obtain⟨_,B,_,hA,_⟩:=hw1;exact hA.2
 have hw2:Hp c.U c.w0 (SepR [] :: H.eraseIdx i) (w.putObj D (.deferred none)):=
  Hp.upd (R':=SepR []) hw1 (p:=0) I (λ B hB hA=>⟨λ _=>False,zj8 ((hA.1 D).2 I),λ _ h=>h.elim,trivial⟩)
 have h2:=h { a with defers:=ds } _ ⟨ha.size,ha.val,rfl⟩ hw2.drop
 show LeavesInM Fence.wide 0 c.P fn a.tmps R a.defers .returning w
 rw [ha.defers]
 exact⟨by simp,.inl ⟨D,_,rfl,run_takeDeferred hD,h2⟩⟩
def Row {α:Type} (a:yO) (k cap:Nat) (e:TypeId) (enc:α→List Value) (l:List α):Res where
 A B w:=(a=none∧cap=0∧l=[])∨∃ b off cs,a=some ⟨b,off,none⟩∧(∀ j,B j↔j=b)∧w.heap[b]?=some (.cells (List.toArray cs) e (0,0)) ∧
  l.length≤cap∧off+cap*k≤cs.length∧(cs.drop off).take (l.length*k)=l.flatMap enc
 loc B w w' h hA:=by
  rcases hA with hA | ⟨b,off,cs,ha,hB,hb,h1,h2,h3⟩
  ·exact .inl hA
  ·exact .inr ⟨b,off,cs,ha,hB,(h b ((hB b).2 I)).trans hb,h1,h2,h3⟩
structure Enc {α:Type} (k:Nat) (enc:α→List Value):Prop where
 len:∀ x,(enc x).length=k
 one:∀ x,(enc x).all zgS=true
 pos:0<k
section
variable {α:Type} {k:Nat} {enc:α→List Value}
theorem zcd (h:Enc k enc):∀ (l:List α),(l.flatMap enc).length=l.length*k
 | []=>by simp
 | x :: r=>by simp [List.flatMap_cons,h.len,zcd h r,Nat.add_mul,Nat.add_comm]
theorem zeG (h:Enc k enc):∀ (l:List α) (i:Nat) (x:α),l[i]?=some x→((l.flatMap enc).drop (i*k)).take k=enc x
 | [],_,_,hx=>by simp at hx
 | y :: r,0,x,hx=>by
  simp at hx;subst hx
  simp only [List.flatMap_cons,Nat.zero_mul,List.drop_zero]
  rw [←h.len y,List.take_left]
 | y :: r,i+1,x,hx=>by
  have ih:=zeG h r i x (by simpa using hx)
  rw [List.flatMap_cons,Nat.add_mul,Nat.one_mul,←List.drop_drop]
  rw [show(enc y++r.flatMap enc).drop (i*k)=(enc y++r.flatMap enc).drop (i*k) from rfl]
  rw [List.drop_drop,Nat.add_comm (i*k) k,←List.drop_drop]
  have:(enc y++r.flatMap enc).drop k=r.flatMap enc:=by rw [←h.len y,List.drop_left]
  rw [this]
  exact ih
theorem zfE (h:Enc k enc):∀ (l:List α),(l.flatMap enc).all zgS=true
 | []=>rfl
 | x :: r=>by simp [List.flatMap_cons,h.one,zfE h r]
theorem zlU {w:World} {b:Nat}:∀ (vs:List Value) (o:Nat),zc8 w b o vs↔∀ i v,vs[i]?=some v→w.cell? ⟨b,o+i,none⟩=some v
 | [],o=>by simp [zc8]
 | v :: r,o=>by
  constructor
  ·intro h i u hu
   exact zdQ _ o i u h hu
  ·exact λ h=>zfA _ o h
theorem zgD {w:World} {b:Nat} {e:TypeId} {cs:List Value} (hb:w.heap[b]?=some (.cells cs.toArray e (0,0))) (o:Nat):w.cell? ⟨b,o,none⟩=cs[o]?:=by
 simp [World.cell?,hb]
theorem Row.elems (h:Enc k enc) {a:yO} {cap:Nat} {e:TypeId} {l:List α} {B:Nat→Prop} {w:World} (hA:(Row a k cap e enc l).A B w):(zaW a k enc l).A B w:=by
 rcases hA with ⟨_,_,rfl⟩ | ⟨b,off,cs,ha,hB,hb,h1,h2,h3⟩
 ·exact .inl I
 ·refine .inr ⟨b,off,ha,hB,λ i x hx=>(zlU _ _).2 λ j v hv=>?_⟩
  rw [zgD hb]
  have hi:i<l.length:=(List.getElem?_eq_some_iff.1 hx).1
  have hj:j<k:=by have:=(List.getElem?_eq_some_iff.1 hv).1;rwa [h.len] at this
  have hg:=zeG h l i x hx
  rw [←h3] at hg
  rw [←hg] at hv
  rw [List.getElem?_take,if_pos hj,List.getElem?_drop,List.getElem?_take] at hv
  have:i*k+j<l.length*k:=by
   have:(i+1)*k≤l.length*k:=Nat.mul_le_mul_right _ hi
   rw [Nat.add_mul] at this;omega
  rw [if_pos this,List.getElem?_drop] at hv
  rwa [Nat.add_assoc]
theorem zam (h:Enc k enc) {a:yO} {cap:Nat} {e:TypeId} {l:List α} {w:World} (hR:Has w (Row a k cap e enc l)):Has w (zaW a k enc l):=by
 obtain⟨B,hB,hA⟩:=hR
 exact⟨B,hB,Row.elems h hA⟩
theorem zdX (h:Enc k enc) {U:Nat→Prop} {a:yO} {cap:Nat} {e:TypeId} {l:List α} {w:World} (hR:Rd U w (Row a k cap e enc l)):Rd U w (zaW a k enc l):=by
 obtain⟨B,hB,hA⟩:=hR
 exact⟨B,hB,Row.elems h hA⟩
theorem Row.bounds {a:yO} {cap:Nat} {e:TypeId} {l:List α} {B:Nat→Prop} {w:World} (hA:(Row a k cap e enc l).A B w):l.length≤cap:=by
 rcases hA with ⟨_,rfl,rfl⟩ | ⟨_,_,_,_,_,_,h,_⟩
 ·simp
 ·exact h
end
structure AF (P:Program) (t e:TypeId) (k by_:Nat) (zs:List Value):Prop where
 u:P.underlying t=some (.slice e)
 i:(P.info? e).map (λ i=>(i.size,i.bytes,i.zero.map (λ z=>z.cells.toList)))=some (k,by_,some zs)
 zl:zs.length=k
theorem zg0 {v:Value} (h:zgS v=true):v.oneCell' = true:=by
 cases v <;> first|rfl|simp [zgS] at h
theorem zlp:∀ (vs cs:List Value) (o:Nat),o+vs.length≤cs.length→(over cs o vs).take o=cs.take o∧((over cs o vs).drop o).take vs.length=vs
 | [],cs,o,_=>⟨rfl,by simp⟩
 | v :: r,cs,o,h=>by
  simp only [lC] at h
  obtain⟨h1,h2⟩:=zlp r (cs.set o v) (o+1) (by simp;omega)
  rw [over]
  have hlen:(over (cs.set o v) (o+1) r).length=cs.length:=by rw [zcL];simp
  have ho:(over (cs.set o v) (o+1) r)[o]?=some v:=by
   have:=congrArg (λ l:List Value=>l[o]?) h1
   change (List.take (o+1) _)[o]?=(List.take (o+1) _)[o]? at this
   rw [List.getElem?_take,List.getElem?_take,if_pos (by omega),if_pos (by omega)] at this
   rw [this,List.getElem?_set_self (by omega)]
  refine⟨?_,?_⟩
  ·have:=congrArg (List.take o) h1
   rw [List.take_take,List.take_take,Nat.min_eq_left (by omega)] at this
   rw [this]
   apply List.ext_getElem?
   intro i
   rw [List.getElem?_take,List.getElem?_take]
   split
   ·rw [List.getElem?_set_ne (by omega)]
   ·rfl
  ·have hd:(over (cs.set o v) (o+1) r).drop o=v :: (over (cs.set o v) (o+1) r).drop (o+1):=by
    have hlt:o<(over (cs.set o v) (o+1) r).length:=by omega
    rw [List.drop_eq_getElem_cons hlt]
    congr 1
    exact(List.getElem?_eq_some_iff.1 ho).2
   rw [hd,lC,List.take_succ_cons,h2]
section
variable {P:Program} {α:Type} {k:Nat} {enc:α→List Value}
theorem zfU {t ty e:TypeId} {by_:Nat} {zs:List Value} (hf:AF P t e k by_ zs) (he:Enc k enc) {a a2:yO} {cap c2:Nat} {l m:List α} {w:World} {B:Nat→Prop}
  (hR:(Row a k cap e enc l).A B w) (hm:Has w (zaW a2 k enc m)) (hb:(l.length+m.length)*by_≤140737488355328) (hl:l.length+m.length≤maxLen) :
  ∃ a' cap' w' B',(Builtin.append_ #[t,t] ty #[.slice a l.length cap,.slice a2 m.length c2]).run P w=.ok (.slice a' (l++m).length cap') w'∧Mod B w w'∧Own B B' w w'∧(Row a' k cap' e enc (l++m)).A B' w':=by
 have hi:=hf.i
 cases hu:P.info? e with
 | none=>rw [hu] at hi;cases hi
 | some i=>
 rw [hu] at hi
 simp only [Option.map_some,sI,Prod.mk.injEq] at hi
 obtain⟨hsz,hby,hz⟩:=hi
 cases hz0:i.zero with
 | none=>rw [hz0] at hz;cases hz
 | some z=>
 have hzl:z.cells.size=i.size:=by
  rw [hz0] at hz
  simp only [Option.map_some,sI] at hz
  rw [hsz,←hf.zl,←hz];simp
 have hcap:=Row.bounds hR
 have hsmall:l.length+m.length≤9223372036854775807:=by simp only [maxLen] at hl;omega
 by_cases hm0:m=[]
 ·subst hm0
  refine⟨a,cap,w,B,?_,Mod.rfl,λ k hk=>.inl hk,by simpa using hR⟩
  have hfc:(Builtin.firstCells i.size 0 (.slice a2 0 c2)).run P w=.ok #[] w:=by
   cases a2 with
   | none=>exact run_firstCells_none w _ _ _ _
   | some b2=>exact run_firstCells_some w i.size 0 b2 _ _ [] (by simp) (by simp)
  cases a with
  | none=>simp [Builtin.append_,run_underlying hf.u,sizeOf,typeInfo,hu,Builtin.lenOf,hcap,hfc]
  | some b1=>simp [Builtin.append_,run_underlying hf.u,sizeOf,typeInfo,hu,Builtin.lenOf,hcap,hfc,storeCells]
 ·obtain⟨x0,m',hm1⟩:∃ x m',m=x :: m':=by cases m with
   | nil=>exact absurd I hm0
   | cons x m'=>exact⟨x,m',rfl⟩
  obtain⟨b2,off2,ha2,_⟩:=zdG hm (i:=0) (x:=x0) (by rw [hm1];rfl)
  have hmlen:0<m.length:=by rw [hm1];simp
  have hnl:(m.flatMap enc).length=m.length*i.size:=by rw [zcd he,hsz]
  have hnews:∀ j v,(m.flatMap enc)[j]?=some v→w.cell? ((⟨b2,off2,none⟩:Addr).add j)=some v:=by
   intro j v hj
   have hjl:j<m.length*k:=by rw [←zcd he];exact(List.getElem?_eq_some_iff.1 hj).1
   have hq:j / k<m.length:=Nat.div_lt_of_lt_mul (by rwa [Nat.mul_comm])
   obtain⟨b3,off3,ha3,hc3⟩:=zdG hm (i:=j / k) (x:=m[j / k]) (by simp [hq])
   rw [ha2] at ha3
   simp only [sI,Addr.mk.injEq] at ha3
   obtain⟨rfl,rfl,_⟩:=ha3
   have hg:=zeG he m (j / k) m[j / k] (by simp [hq])
   have hmod:j % k<k:=Nat.mod_lt _ he.pos
   have hdm:j / k*k+j % k=j:=by rw [Nat.mul_comm];exact Nat.div_add_mod j k
   have hv:(enc m[j / k])[j % k]?=some v:=by
    rw [←hg,List.getElem?_take,if_pos hmod,List.getElem?_drop,hdm];exact hj
   have:=zdQ _ _ _ _ hc3 hv
   rw [zb2]
   rwa [Nat.add_assoc,hdm] at this
  have hone:∀ u∈m.flatMap enc,u.oneCell' = true:=λ u hu'=>zg0 (List.all_eq_true.1 (zfE he m) u hu')
  subst hsz;subst hby
  by_cases hroom:l.length+m.length≤cap
  ·rcases hR with ⟨_,rfl,rfl⟩ | ⟨b,off,cs,ha,hB,hbk,h1,h2,h3⟩
   ·omega
   ·subst ha
    have hfit:off+l.length*i.size+(m.flatMap enc).length≤cs.length:=by
     have:(l.length+m.length)*i.size≤cap*i.size:=Nat.mul_le_mul_right _ hroom
     rw [Nat.add_mul] at this
     rw [hnl];omega
    obtain⟨w',hr,hmd,hb'⟩:=zb7 (P:=P) (b:=b) (o:=off) (m.flatMap enc) cs (l.length*i.size) w hbk (by omega) (zfE he m)
    have hst:(storeCells (Addr.add ⟨b,off,none⟩ (l.length*i.size)) (m.flatMap enc)).run P w=.ok () w':=by
     obtain⟨w2,hr2,hmd2,hb2⟩:=zb7 (P:=P) (b:=b) (o:=off+l.length*i.size) (m.flatMap enc) cs 0 w hbk (by omega) (zfE he m)
     rw [zb2]
     have key:∀ (vs:List Value) (j:Nat) (w:World),(storeCells ⟨b,off,none⟩ vs (l.length*i.size+j)).run P w=(storeCells ⟨b,off+l.length*i.size,none⟩ vs j).run P w:=by
      intro vs
      induction vs with
      | nil=>intro j w;rfl
      | cons v r ih=>
       intro j w
       unfold storeCells
       simp only [Sem.run_bind,zb2]
       rw [show off+(l.length*i.size+j)=off+l.length*i.size+j from by omega]
       congr 1
       funext _ w1
       rw [show l.length*i.size+j+1=l.length*i.size+(j+1) from by omega]
       exact ih (j+1) w1
     rw [←key _ 0 w]
     exact hr
    refine⟨some ⟨b,off,none⟩,cap,w',(· = b),?_,⟨hmd.os,hmd.tape,hmd.output,hmd.size,λ j hj hbj=>hmd.same j hj (λ h=>hbj ((hB j).2 h))⟩,λ j hj=>.inl ((hB j).2 hj),?_⟩
    ·have hfc:=run_firstCells_some (P:=P) w i.size m.length ⟨b2,off2,none⟩ m.length c2 (m.flatMap enc) hnl hnews
     subst ha2
     simp [Builtin.append_,run_underlying hf.u,sizeOf,typeInfo,hu,Builtin.lenOf,hroom,hfc,hst]
    ·refine .inr ⟨b,off,over cs (off+l.length*i.size) (m.flatMap enc),rfl,λ _=>Iff.rfl,hb',by simpa using hroom,by rw [zcL];exact h2,?_⟩
     obtain⟨t1,t2⟩:=zlp (m.flatMap enc) cs (off+l.length*i.size) (by omega)
     have hlen2:(over cs (off+l.length*i.size) (m.flatMap enc)).length=cs.length:=zcL _ _ _
     rw [List.flatMap_append,lA,Nat.add_mul,←hnl]
     have e1:((over cs (off+l.length*i.size) (m.flatMap enc)).drop off).take (l.length*i.size)=l.flatMap enc:=by
      rw [←h3]
      have:=congrArg (List.drop off) t1
      rwa [List.drop_take,List.drop_take,Nat.add_sub_cancel_left] at this
     rw [List.take_add,e1,List.drop_drop]
     congr 1
  ·have hg:cap<l.length+m.length:=by omega
   rcases hR with ⟨ha,hc0,hl0⟩ | ⟨b,off,cs,ha,hB,hbk,h1,h2,h3⟩
   ·subst ha;subst hc0;subst hl0
    have hr:=run_append_nil (P:=P) w t ty e i z hf.u hu hz0 ⟨b2,off2,none⟩ m.length c2 (m.flatMap enc) hnl hnews hmlen (by simp at hsmall;omega) (by simp at hb;omega)
    subst ha2
    refine⟨some ⟨w.heap.size,0,none⟩,grownCap w m.length 0 e,w.drew.alloc (.cells ((m.flatMap enc).toArray++Builtin.zeroCells z.cells (grownCap w m.length 0 e - m.length)) e),(· = w.heap.size),by simpa only [lN,Nat.zero_add,List.nil_append] using hr,⟨rfl,⟨rfl,Nat.le_succ _⟩,rfl,by simp,λ j hj _=>heap_alloc_old w.drew _ hj⟩,λ j hj=>.inr ⟨by omega,by subst hj;simp⟩,.inr ⟨w.heap.size,0,m.flatMap enc++(Builtin.zeroCells z.cells (grownCap w m.length 0 e - m.length)).toList,rfl,λ _=>Iff.rfl,?_,?_,?_,?_⟩⟩
    ·refine(World.alloc_heap_new w.drew _).trans ?_
     congr 2
     exact Array.ext' (by simp)
    ·simpa using grownCap_ge w m.length 0 e
    ·have:=grownCap_ge w m.length 0 e
     simp only [lA,hnl,Array.length_toList,size_zeroCells,hzl,Nat.zero_add,←Nat.add_mul]
     exact Nat.mul_le_mul_right _ (by omega)
    ·simp only [List.drop_zero,List.nil_append,←hnl,List.take_left]
   ·subst ha
    have holds:∀ j v,(l.flatMap enc)[j]?=some v→w.cell? ((⟨b,off,none⟩:Addr).add j)=some v:=by
     intro j v hj
     rw [zb2,zgD hbk]
     rw [←h3,List.getElem?_take] at hj
     split at hj
     ·rwa [List.getElem?_drop] at hj
     ·cases hj
    have hlo:(l.flatMap enc).length=l.length*i.size:=zcd he l
    have hr:=run_append_grow (P:=P) w t ty e i z hf.u hu hz0 ⟨b,off,none⟩ l.length cap (l.flatMap enc) hlo holds ⟨b2,off2,none⟩ m.length c2 (m.flatMap enc) hnl hnews hg (by omega) (growslice_fits hg hb)
    subst ha2
    refine⟨some ⟨w.heap.size,0,none⟩,grownCap w (l.length+m.length) cap e,w.drew.alloc (.cells ((l.flatMap enc).toArray++(m.flatMap enc).toArray++Builtin.zeroCells z.cells (grownCap w (l.length+m.length) cap e - (l.length+m.length))) e),(· = w.heap.size),by simpa only [lA] using hr,⟨rfl,⟨rfl,Nat.le_succ _⟩,rfl,by simp,λ j hj _=>heap_alloc_old w.drew _ hj⟩,λ j hj=>.inr ⟨by omega,by subst hj;simp⟩,.inr ⟨w.heap.size,0,l.flatMap enc++m.flatMap enc++(Builtin.zeroCells z.cells (grownCap w (l.length+m.length) cap e - (l.length+m.length))).toList,rfl,λ _=>Iff.rfl,?_,?_,?_,?_⟩⟩
    ·refine(World.alloc_heap_new w.drew _).trans ?_
     congr 2
     exact Array.ext' (by simp)
    ·simpa using grownCap_ge w (l.length+m.length) cap e
    ·have:=grownCap_ge w (l.length+m.length) cap e
     simp only [lA,hnl,hlo,Array.length_toList,size_zeroCells,hzl,Nat.zero_add,←Nat.add_mul]
     exact Nat.mul_le_mul_right _ (by omega)
    ·simp only [List.drop_zero,List.flatMap_append,lA,Nat.add_mul]
     rw [←hlo,←hnl,←lA,List.take_left]
end
section
variable {c:Cx} {ds:List Deferred} {p:Post} {T:List (Nat×Value)} {H:List Res} {ops:Array Oper} {rest:List Oper} {d:Nat} {dd:Option Nat} {ty:TypeId} {ps:String} {af:Array Edge} {g:Option (Nat×Bool)} {x y z:Operand} {u v:Value}
variable {α:Type} {k:Nat} {enc:α→List Value}
theorem za2 {K:Act→World→Prop} {R R':Res} (i:Nat) (hi:H[i]?=some R) (hc:∀ B w,R.A B w→R'.A B w) (h:GK c ds K T (H.set i R')):GK c ds K T H:=λ a w ha hw=>
 h a w ha (Hp.upd hw hi λ B _ hA=>⟨B,Mod.rfl,λ _ hk=>.inl hk,hc B w hA⟩)
theorem zAR {e:TypeId} {B:Nat→Prop} {w:World}:(Row (α:=α) none k 0 e enc []).A B w:=.inl ⟨rfl,rfl,rfl⟩
theorem zbB {K:Act→World→Prop} (e:TypeId) (enc:α→List Value) (k:Nat) (h:GK c ds K T (Row (α:=α) none k 0 e enc [] :: H)):GK c ds K T H:=λ a w ha hw=>
 h a w ha ⟨hw.base,λ _=>False,λ _ hk=>hk.elim,.inl ⟨rfl,rfl,rfl⟩,Holds.anti H (λ _ hk=>hk.elim id False.elim) hw.holds⟩
theorem zh6 (he:Enc k enc) {n:Nat} {l:List α} (hn:n≤l.length):(l.flatMap enc).take (n*k)=(l.take n).flatMap enc:=by
 conv=>lhs;rw [←List.take_append_drop n l,List.flatMap_append]
 have:((l.take n).flatMap enc).length=n*k:=by rw [zcd he,List.length_take,Nat.min_eq_left hn]
 rw [←this,List.take_left]
theorem zh5 (he:Enc k enc) {n:Nat} {l:List α} (hn:n≤l.length):(l.flatMap enc).drop (n*k)=(l.drop n).flatMap enc:=by
 conv=>lhs;rw [←List.take_append_drop n l,List.flatMap_append]
 have:((l.take n).flatMap enc).length=n*k:=by rw [zcd he,List.length_take,Nat.min_eq_left hn]
 rw [←this,List.drop_left]
theorem zg1:∀ (vs cs:List Value) (o:Nat),o+vs.length≤cs.length→over cs o vs=cs.take o++vs++cs.drop (o+vs.length)
 | [],cs,o,_=>by simp [over]
 | v :: r,cs,o,h=>by
  simp only [lC] at h
  rw [over,zg1 r _ (o+1) (by simp;omega)]
  have h1:(cs.set o v).take (o+1)=cs.take o++[v]:=by
   rw [List.set_eq_take_append_cons_drop,if_pos (by omega),List.take_append,List.take_of_length_le (by simp;omega)]
   simp
   rw [show o+1 - min o cs.length=1 from by omega]
   simp
  have h2:(cs.set o v).drop (o+1+r.length)=cs.drop (o+1+r.length):=by
   apply List.ext_getElem?
   intro i
   rw [List.getElem?_drop,List.getElem?_drop,List.getElem?_set_ne (by omega)]
  rw [h1,h2]
  simp only [lC,List.append_assoc,List.cons_append,List.nil_append]
  rw [show o+(r.length+1)=o+1+r.length from by omega]
theorem zb4 {t e:TypeId} {by_:Nat} {zs:List Value} {a a2:yO} {cap c2:Nat} {l m:List α} (i:Nat) (hf:AF c.P t e k by_ zs) (he:Enc k enc) (hn:Nat.blt d c.n=true)
  (hx:evo T x=some (.slice a l.length cap)) (hy:evo T y=some (.slice a2 m.length c2)) (hi:H[i]?=some (Row a k cap e enc l)) (hm:∀ w,Hp c.U c.w0 H w→Has w (zaW a2 k enc m))
  (hb:(l.length+m.length)*by_≤140737488355328) (hl:l.length+m.length≤maxLen)
  (kk:∀ a' cap',GK c ds (KL c ops p rest) ((d,.slice a' (l++m).length cap') :: T) (H.set i (Row a' k cap' e enc (l++m)))) :
  GK c ds (KL c ops p (⟨some d,.call ⟨.builtin .append,#[x,y],#[t,t]⟩,ty,ps,af,none⟩ :: rest)) T H:=by
 refine zif (X:=yO×Nat) (λ z=>.slice z.1 (l++m).length z.2) (λ z=>H.set i (Row z.1 k z.2 e enc (l++m))) I I hn ?_ (λ z=>kk z.1 z.2)
 intro A w hs hw
 obtain⟨B,hF⟩:=hw.foc hi
 obtain⟨a',cap',w',B',hr,hmd,ho,hA⟩:=zfU (P:=c.P) (ty:=ty) hf he (c2:=c2) hF.A (hm w hw) hb hl
 unfold Yld
 rw [zcp («as»:=[x,y]) (vs:=[.slice a l.length cap,.slice a2 m.length c2]) (by simp [evs,hx,hy]) hs w]
 simp only [builtin]
 rw [zbu hr]
 exact⟨(a',cap'),rfl,hF.upd hi hmd ho hA⟩
theorem zaD {t e:TypeId} {n:Nat} {parts:List (Nat×Operand)} {pv:List (Nat×Value)} {l:List α} (hp:evp T parts=some pv)
  (hr:∀ w,(Instr.buildSlice t n pv.toArray).run c.P w=.ok (.slice (some ⟨w.heap.size,0,none⟩) n n) (w.alloc (.cells (l.flatMap enc).toArray e))) (he:Enc k enc) (hl:l.length=n) :
  YX c ds H T ⟨dd,.buildSlice t n parts.toArray,ty,ps,af,g⟩ (λ b=>.slice (some ⟨b,0,none⟩) n n) (λ b=>Row (some ⟨b,0,none⟩) k n e enc l):=by
 refine⟨λ a w ha hw=>?_⟩
 unfold Yld
 have:(execOp a.eval ⟨dd,.buildSlice t n parts.toArray,ty,ps,af,g⟩).run c.P w=.ok (.value (.slice (some ⟨w.heap.size,0,none⟩) n n)) (w.alloc (.cells (l.flatMap enc).toArray e)):=by
  simp only [execOp]
  refine zbu ?_
  rw [List.map_toArray,ha.evalp hp]
  exact hr w
 rw [this]
 refine⟨w.heap.size,rfl,zcG _,(· = w.heap.size),λ k hk=>by subst hk;simp,.inr ⟨w.heap.size,0,l.flatMap enc,rfl,λ _=>Iff.rfl,World.alloc_heap_new w _,by omega,?_,?_⟩⟩
 ·rw [zcd he,hl];omega
 ·rw [List.drop_zero,←zcd he,List.take_length]
theorem zpR {t e:TypeId} {gg:Bool} {zz:Value} {a:yO} {cap:Nat} {l:List α} {ix:Int} {vs:List Value} {x':α} (i:Nat) (he:Enc k enc) (ht:TF c.P t gg k zz) (hx:evo T x=some (epx a (ix.toNat*k))) (hy:evo T y=some v)
  (hv:v.cells=vs.toArray) (hxx:enc x' = vs) (hi:H[i]?=some (Row a k cap e enc l)) (h0:0≤ix) (h1:ix<(l.length:Int))
  (kk:GK c ds (KL c ops p rest) T (H.set i (Row a k cap e enc (l.set ix.toNat x')))):GK c ds (KL c ops p (⟨none,.store t x y,ty,ps,af,none⟩ :: rest)) T H:=by
 refine zjZ I (λ A w ha hw=>?_) kk
 obtain⟨B,hF⟩:=hw.foc hi
 have hlt:ix.toNat<l.length:=by omega
 rcases hF.A with ⟨_,_,rfl⟩ | ⟨b,off,cs,hab,hB,hbk,g1,g2,g3⟩
 ·simp at hlt
 subst hab
 have hvl:vs.length=k:=by rw [←hxx];exact he.len x'
 have hone:vs.all zgS=true:=by rw [←hxx];exact he.one x'
 have hkk:(ix.toNat+1)*k≤cap*k:=Nat.mul_le_mul_right _ (by omega)
 rw [Nat.add_mul,Nat.one_mul] at hkk
 obtain⟨w',hr,hm,hb'⟩:=zb7 (P:=c.P) (o:=off+ix.toNat*k) vs cs 0 w hbk (by omega) hone
 have hrun:(execOp A.eval ⟨none,.store t x y,ty,ps,af,none⟩).run c.P w=.ok .skip w':=by
  simp only [execOp,ha.eval hx,ha.eval hy,epx,Option.map_some,zb2]
  have h3:(Instr.storeAt t (.pointer (some ⟨b,off+ix.toNat*k,none⟩)) v).run c.P w=.ok () w':=by
   unfold Instr.storeAt
   rw [zal (v:=⟨b,off+ix.toNat*k,none⟩) (w':=w) I]
   unfold storeVar
   rw [zal ht.size]
   have:v.cells.size=k:=by rw [hv];simpa using hvl
   simp only [this,ne_eq,not_true_eq_false,if_false]
   rw [hv]
   exact hr
  rw [zal h3]
  rfl
 unfold Yld
 rw [hrun]
 refine hF.upd hi ⟨hm.os,hm.tape,hm.output,hm.size,λ j hj hbj=>hm.same j hj (λ h=>hbj ((hB j).2 h))⟩ (λ j hj=>.inl hj) (.inr ⟨b,off,over cs (off+ix.toNat*k) vs,rfl,hB,hb',by simpa using g1,by rw [zcL];exact g2,?_⟩)
 rw [List.length_set,zg1 vs cs _ (by omega),hvl]
 have hll:l.length*k≤cap*k:=Nat.mul_le_mul_right _ g1
 have hik:ix.toNat*k+k≤l.length*k:=by
  have:(ix.toNat+1)*k≤l.length*k:=Nat.mul_le_mul_right _ hlt
  rwa [Nat.add_mul,Nat.one_mul] at this
 have e1:(cs.take (off+ix.toNat*k)).drop off=(l.take ix.toNat).flatMap enc:=by
  rw [List.drop_take,Nat.add_sub_cancel_left,←zh6 he (by omega),←g3,List.take_take,Nat.min_eq_left (by omega)]
 have hAl:((l.take ix.toNat).flatMap enc).length=ix.toNat*k:=by rw [zcd he,List.length_take,Nat.min_eq_left (by omega)]
 have e2:(cs.take (off+ix.toNat*k)++vs++cs.drop (off+ix.toNat*k+k)).drop off=(l.take ix.toNat).flatMap enc++(vs++cs.drop (off+ix.toNat*k+k)):=by
  rw [List.append_assoc,List.drop_append_of_le_length (by rw [List.length_take];omega),e1]
 rw [e2,List.take_append,hAl,List.take_of_length_le (l:=(l.take ix.toNat).flatMap enc) (by rw [hAl];omega),List.take_append,hvl,List.take_of_length_le (l:=vs) (by rw [hvl];omega)]
 have e3:(cs.drop (off+ix.toNat*k+k)).take (l.length*k - ix.toNat*k - k)=(l.drop (ix.toNat+1)).flatMap enc:=by
  rw [←zh5 he (by omega),←g3,List.drop_take,List.drop_drop,Nat.add_mul,Nat.one_mul]
  congr 1
  ·omega
  ·rw [Nat.add_assoc]
 rw [e3,List.set_eq_take_append_cons_drop,if_pos hlt,List.flatMap_append,List.flatMap_cons,hxx]
end
def subA (a:yO) (k lo m:Nat):yO:=if m=lo then a else a.map λ x=>x.add (lo*k)
section
variable {α:Type} {k:Nat} {enc:α→List Value}
theorem zkR {a:yO} {l:List α} {w:World} (h:Has w (zaW a k enc l)) (lo n m:Nat) (hm:lo+n≤m) (hl:lo+n≤l.length):Has w (zaW (subA a k lo m) k enc ((l.drop lo).take n)):=by
 obtain⟨B,hB,hA⟩:=h
 refine⟨B,hB,?_⟩
 rcases hA with rfl | ⟨b,off,ha,hb,hc⟩
 ·left;simp
 ·by_cases hml:m=lo
  ·left
   have:n=0:=by omega
   simp [this]
  ·right
   subst ha
   refine⟨b,off+lo*k,by simp [subA,hml,zb2],hb,λ i x hx=>?_⟩
   rw [List.getElem?_take] at hx
   split at hx
   ·rw [List.getElem?_drop] at hx
    have:=hc _ x hx
    rwa [Nat.add_mul,←Nat.add_assoc] at this
   ·cases hx
end
section
variable {c:Cx} {ds:List Deferred} {p:Post} {T:List (Nat×Value)} {H:List Res} {ops:Array Oper} {rest:List Oper} {d:Option Nat} {ty:TypeId} {ps:String} {af:Array Edge} {g:Option (Nat×Bool)} {x y z:Operand} {u v:Value}
theorem zlu {P:Program} {w:World} {kd:IntKind} {i:Int} {y:Nat} {code:BoundsCode} (h0:0≤i) (h1:i≤(y:Int)):(Instr.sliceBound (.int kd i) y code).run P w=.ok i.toNat w:=by
 unfold Instr.sliceBound
 rw [zal (v:=(kd,i)) (w':=w) I]
 simp only []
 rw [if_pos ⟨h0,h1⟩]
 rfl
theorem zse {P:Program} {w:World} {t e:TypeId} {k:Nat} (ht:SE P t e k):(sizeOf e).run P w=.ok k w:=by
 have hi:=ht.i
 cases hu:P.info? e with
 | none=>rw [hu] at hi;cases hi
 | some j=>
  rw [hu] at hi
  simp only [Option.map_some,sI] at hi
  unfold sizeOf
  rw [zal (zfK hu)]
  simp [pure,hi]
theorem zlv {P:Program} {w:World} {t e:TypeId} {k n cap l h m:Nat} {a:yO} {lo hi mx:Option Value} (ht:SE P t e k) (hb:(Instr.sliceBounds true n cap lo hi mx).run P w=.ok (l,h,m) w) :
  (Instr.sliceAt t (.slice a n cap) lo hi mx).run P w=.ok (.slice (subA a k l m) (h - l) (m - l)) w:=by
 have hu:=zaU (w:=w) ht.u
 unfold Instr.sliceAt
 rw [zal hu]
 simp only []
 unfold Instr.slice
 rw [zal hu]
 simp only []
 rw [zal hb]
 simp only []
 rw [zal (zse ht)]
 rfl
section
variable {t e:TypeId} {k n cap:Nat} {a:yO} {kl kh km:IntKind} {lo hi mx:Int} {xl xh xm:Operand}
theorem zq2 (ht:SE c.P t e k) (hx:evo T x=some (.slice a n cap)) (hl:evo T xl=some (.int kl lo)) (h0:0≤lo) (h1:lo≤(n:Int)) :
  Y c ds H T ⟨d,.slice t x (some xl) none none,ty,ps,af,g⟩ (.slice (subA a k lo.toNat cap) (n - lo.toNat) (cap - lo.toNat)):=
 zcz λ A w ha _=>by
  simp only [execOp,ha.eval hx,Option.map_some,Option.map_none,ha.eval hl]
  refine zbu (zlv ht ?_)
  unfold Instr.sliceBounds
  rw [zal (v:=cap) (w':=w) I]
  simp only []
  rw [zal (v:=n) (w':=w) I]
  rw [zal (zlu h0 h1)]
  rfl
theorem zq1 (ht:SE c.P t e k) (hx:evo T x=some (.slice a n cap)) (hh:evo T xh=some (.int kh hi)) (h0:0≤hi) (h1:hi≤(cap:Int)) :
  Y c ds H T ⟨d,.slice t x none (some xh) none,ty,ps,af,g⟩ (.slice (subA a k 0 cap) (hi.toNat - 0) (cap - 0)):=
 zcz λ A w ha _=>by
  simp only [execOp,ha.eval hx,Option.map_some,Option.map_none,ha.eval hh]
  refine zbu (zlv ht ?_)
  unfold Instr.sliceBounds
  rw [zal (v:=cap) (w':=w) I]
  simp only []
  rw [zal (zlu h0 h1)]
  rfl
end
theorem zdM {t:TypeId} {s:yB} {kd:IntKind} {i:Int} (ht:c.P.underlying t=some .string) (hx:evo T x=some (.string s)) (hy:evo T y=some (.int kd i)) (h0:0≤i) (h1:i<(s.size:Int)) :
  Y c ds H T ⟨d,.index t x y,ty,ps,af,g⟩ (.int .u8 ((s[i.toNat]?.getD 0).toNat:Int)):=
 zcz λ A w ha _=>by
  simp only [execOp,ha.eval hx,ha.eval hy]
  refine zbu ?_
  unfold Instr.index
  rw [zal (v:=(kd,i)) (w':=w) I]
  simp only []
  rw [zal (zaU ht)]
  simp only []
  have hlt:i.toNat<s.size:=by omega
  rw [if_pos h0,getElem?_pos s i.toNat hlt]
  rfl
def Iter (b:Nat) (s:yB) (pos:Nat):Res where
 A B w:=(∀ k,B k↔k=b)∧w.heap[b]?=some (.stringIter s pos)
 loc _ _ _ h hA:=⟨hA.1,(h b ((hA.1 b).2 I)).trans hA.2⟩
theorem zmN {t:TypeId} {s:yB} (ht:c.P.underlying t=some .string) (hx:evo T x=some (.string s)):YX c ds H T ⟨d,.range t x,ty,ps,af,g⟩ (λ b=>Z b) (λ b=>Iter b s 0):=by
 refine⟨λ a w ha hw=>?_⟩
 unfold Yld
 have:(execOp a.eval ⟨d,.range t x,ty,ps,af,g⟩).run c.P w=.ok (.value (Z w.heap.size)) (w.alloc (.stringIter s 0)):=by
  simp only [execOp,ha.eval hx]
  refine zbu ?_
  unfold Instr.range
  rw [zal (zaU ht)]
  simp only []
  rw [zal (v:=.stringIter s 0) (w':=w) I,zal (v:=w.heap.size) (w':=w.alloc (.stringIter s 0)) I]
  rfl
 rw [this]
 exact⟨w.heap.size,rfl,zcG _,(· = w.heap.size),λ k hk=>by subst hk;simp,λ k=>Iff.rfl,World.alloc_heap_new w _⟩
theorem zoi {dn b:Nat} {s:yB} {pos:Nat} (i:Nat) (hn:Nat.blt dn c.n=true) (hx:evo T x=some (Z b)) (hi:H[i]?=some (Iter b s pos))
  (k1:pos<s.size→GK c ds (KL c ops p rest) ((dn,.tuple #[.bool true,O (pos:Int),.int .i32 (Utf8.decode s pos).1]) :: T) (H.set i (Iter b s (pos+(Utf8.decode s pos).2))))
  (k0:¬ pos<s.size→GK c ds (KL c ops p rest) ((dn,.tuple #[.bool false]) :: T) (H.set i (Iter b s pos))) :
  GK c ds (KL c ops p (⟨some dn,.next x true,ty,ps,af,none⟩ :: rest)) T H:=by
 by_cases hp:pos<s.size
 ·refine zif (X:=Unit) (λ _=>.tuple #[.bool true,O (pos:Int),.int .i32 (Utf8.decode s pos).1]) (λ _=>H.set i (Iter b s (pos+(Utf8.decode s pos).2))) I I hn ?_ (λ _=>k1 hp)
  intro A w ha hw
  obtain⟨B,hF⟩:=hw.foc hi
  have hb:=hF.A.2
  have:(execOp A.eval ⟨some dn,.next x true,ty,ps,af,none⟩).run c.P w=.ok (.value (.tuple #[.bool true,O (pos:Int),.int .i32 (Utf8.decode s pos).1])) (w.putObj b (.stringIter s (pos+(Utf8.decode s pos).2))):=by
   simp only [execOp,ha.eval hx]
   refine zbu ?_
   unfold Instr.next
   simp only []
   rw [zal (v:=.stringIter s pos) (w':=w) (by simp [getObj,Sem.run,hb])]
   simp only [if_pos hp]
   rw [zal (v:=()) (w':=w.putObj b (.stringIter s (pos+(Utf8.decode s pos).2))) (by simp [setObj,Sem.run,hb,World.putObj])]
   rfl
  unfold Yld
  rw [this]
  exact⟨(),rfl,hF.upd hi (zj8 ((hF.A.1 b).2 I)) (λ j hj=>.inl hj) ⟨hF.A.1,World.putObj_heap_same (Array.getElem?_eq_some_iff.1 hb).1⟩⟩
 ·refine zif (X:=Unit) (λ _=>.tuple #[.bool false]) (λ _=>H.set i (Iter b s pos)) I I hn ?_ (λ _=>k0 hp)
  intro A w ha hw
  obtain⟨B,hF⟩:=hw.foc hi
  have hb:=hF.A.2
  have:(execOp A.eval ⟨some dn,.next x true,ty,ps,af,none⟩).run c.P w=.ok (.value (.tuple #[.bool false])) w:=by
   simp only [execOp,ha.eval hx]
   refine zbu ?_
   unfold Instr.next
   simp only []
   rw [zal (v:=.stringIter s pos) (w':=w) (by simp [getObj,Sem.run,hb])]
   simp only [if_neg hp]
   rfl
  unfold Yld
  rw [this]
  exact⟨(),rfl,hF.upd hi Mod.rfl (λ j hj=>.inl hj) hF.A⟩
end
def Emp:Res:=⟨λ _ _=>True,λ _ _ _ _ _=>trivial⟩
def inL:List Nat→Nat→Bool
 | [],_=>false
 | x :: r,i=>Nat.beq x i||inL r i
structure zfW (c:Cx) (ds:List Deferred) (T:List (Nat×Value)) (H:List Res) (st:Oper) (R R':Res):Prop where
 run:∀ a w B,Sat c.n T ds a→Hp c.U c.w0 H w→(∀ k,B k→k<w.heap.size)→R.A B w→Yld c.P st a w (λ _ w'=>Mod B w w'∧∃ B',Own B B' w w'∧R'.A B' w')
def PHs (c:Cx) (ds:List Deferred) (pre:List Oper) (T0:List (Nat×Value)) (Hf:Nat→List Res) (K:Ents→Prop):Nat→List Oper→Ents→Prop
 | _,[],S=>K S
 | i,o :: r,S=>∃ d e,o.dst=some d∧Ob c ds pre T0 (Hf i) i o S e∧PHs c ds pre T0 Hf K (i+1) r ((i,d,e) :: S)
def zjP (n:Nat) (pre:List Oper) (st:Oper) (suf:List Oper) (late:List Nat):Bool:=
 zb8 0 (pre++st :: suf)&&zkb (pre++st :: suf)&&zeE (dsts pre)&&pre.all (λ o=>zhp o.dst n)&&st.dst.isNone&&st.guard.isNone &&
 (suf.isEmpty||((List.range (pre.length+1)).all λ j=>reach (pre++st :: suf) 64 (pre.length+1) j))&&zhL (pre++st :: suf) (pre.length+1) &&
 ((List.range pre.length).all λ j=>inL late j||reach (pre++st :: suf) 64 pre.length j)
section
variable {c:Cx} {ds:List Deferred} {p:Post} {ops pre suf:List Oper} {st:Oper} {T0:List (Nat×Value)} {H:List Res} {S:Ents} {listed:Array Bool} {a:Act} {w:World}
theorem zk7 {w:World}:∀ (H:List Res) (q:Nat) (U:Nat→Prop),Holds H U w→Holds (H.set q Emp) U w
 | [],_,_,h=>h
 | _ :: _,0,_,⟨B,hB,_,hr⟩=>⟨B,hB,trivial,hr⟩
 | _ :: r,q+1,_,⟨B,hB,hA,hr⟩=>⟨B,hB,hA,zk7 r q _ hr⟩
theorem znQ {H:List Res} {q:Nat} {R:Res}:(H.set q R).set q Emp=H.set q Emp:=by simp
theorem Inv.emp (h:Inv c ds ops pre T0 H S listed a w) (q:Nat):Inv c ds ops pre T0 (H.set q Emp) S listed a w:=by
 obtain⟨v,R,B,h1,h2,h3,h4⟩:=h.fam
 exact⟨h.base,h.size,h.defers,h.closed,h.old,v,R,B,h1,h2,h3,zk7 H q _ h4⟩
theorem zk8 {w w':World} {H:List Res} {q:Nat} {R R':Res} {U B B':Nat→Prop} (hq:H[q]?=some R) (hU:∀ k,U k→k<w.heap.size) (hB:∀ k,B k→¬ U k∧k<w.heap.size)
  (hr:Holds (H.eraseIdx q) (λ k=>U k∨B k) w) (hm:Mod B w w') (ho:Own B B' w w') (hA:R'.A B' w'):Holds (H.set q R') U w':=by
 refine Holds.back H q hq ⟨B',λ k hk=>?_,hA,?_⟩
 ·rcases ho k hk with hk' | ⟨h1,h2⟩
  ·exact⟨(hB k hk').1,lL (hB k hk').2 hm.size⟩
  ·exact⟨λ hu=>by have:=hU k hu;omega,h2⟩
 ·have key:∀ (L:List Res) (V:Nat→Prop),(∀ k,B k→V k)→Holds L V w→Holds L (λ k=>V k∨B' k) w':=by
   intro L
   induction L with
   | nil=>intro _ _ _;trivial
   | cons S r ih=>
    rintro V hV ⟨C,hC,hA,hr⟩
    refine⟨C,λ k hk=>⟨λ hv=>?_,lL (hC k hk).2 hm.size⟩,S.loc C w w' (λ k hk=>hm.same k (hC k hk).2 (λ hb=>(hC k hk).1 (hV k hb))) hA,?_⟩
    ·rcases hv with hv|hv
     ·exact(hC k hk).1 hv
     ·rcases ho k hv with hb | ⟨h1,_⟩
      ·exact(hC k hk).1 (hV k hb)
      ·have:=(hC k hk).2;omega
    ·exact Holds.anti r (λ k hk=>by rcases hk with (h|h)|h <;> simp [h]) (ih _ (λ k hk=>.inl (hV k hk)) hr)
  exact Holds.anti _ (λ k hk=>by rcases hk with h|h <;> simp [h]) (key _ _ (λ k hk=>.inr hk) hr)
theorem zp0 (hI:Inv c ds ops pre T0 H S listed a w) {m q:Nat} {R R':Res} (hst:ops[m]?=some st) (hml:m<listed.size) (hclo:∀ j,zaT st j=true→isOn listed j)
  (hpm:pre[m]?=none) (hSm:∀ j dj ej,(j,dj,ej)∈S→j≠m) (hun:¬ isOn listed m) (hq:H[q]?=some R) :
  ∃ B,(∀ k,B k→k<w.heap.size)∧R.A B w∧∀ w' B',Mod B w w'→Own B B' w w'→R'.A B' w'→Inv c ds ops pre T0 (H.set q R') S (listed.setIfInBounds m true) a w':=by
 obtain⟨v0,R0,B0,h1,h2,h3,h4⟩:=hI.fam
 obtain⟨B,hB,hA,hr⟩:=Holds.front H q hq h4
 have hon:∀ j,isOn (listed.setIfInBounds m true) j↔j=m∨isOn listed j:=zbt hml
 refine⟨B,λ k hk=>(hB k hk).2,hA,λ w' B' hm ho hA'=>?_⟩
 have hUw:∀ k,(c.U k∨∃ i,isOn listed i∧(R0 i).isSome=true∧B0 i k)→k<w.heap.size:=by
  rintro k (hu | ⟨i,hi,hs,hb⟩)
  ·exact lL (hI.base.lt k hu) hI.base.size
  ·obtain⟨r,hr⟩:=Option.isSome_iff_exists.1 hs
   exact((h2 i r hi hr).2 k hb).2
 refine⟨hI.base.mod hm (λ k hk hu=>(hB k hk).1 (.inl hu)),hI.size,hI.defers,?_,?_,v0,λ j=>if j=m then none else R0 j,B0,?_,?_,?_,?_⟩
 ·intro k ok hk honk j hj
  rcases(hon k).1 honk with rfl|hk'
  ·rw [hst] at hk;cases hk
   exact(hon j).2 (.inr (hclo j hj))
  ·exact(hon j).2 (.inr (hI.closed k ok hk hk' j hj))
 ·intro s u hs hno
  refine hI.old s u hs λ k o hk hok=>?_
  exact hno k o hk ((hon k).2 (.inr hok))
 ·intro i d e hi hoi
  have him:=hSm i d e hi
  simp only [if_neg him]
  exact h1 i d e hi (((hon i).1 hoi).resolve_left him)
 ·intro i r hoi hri
  replace hri:(if i=m then none else R0 i)=some r:=hri
  by_cases him:i=m
  ·rw [if_pos him] at hri;cases hri
  ·rw [if_neg him] at hri
   have hoi':=((hon i).1 hoi).resolve_left him
   obtain⟨g1,g2⟩:=h2 i r hoi' hri
   refine⟨r.loc _ w w' (λ k hk=>hm.same k (g2 k hk).2 (λ hb=>(hB k hb).1 (.inr ⟨i,hoi',by rw [hri];rfl,hk⟩))) g1,λ k hk=>⟨(g2 k hk).1,lL (g2 k hk).2 hm.size⟩⟩
 ·intro i j hoi hoj hri hrj hij
  replace hri:(if i=m then none else R0 i).isSome=true:=hri
  replace hrj:(if j=m then none else R0 j).isSome=true:=hrj
  by_cases him:i=m
  ·rw [if_pos him] at hri;cases hri
  ·by_cases hjm:j=m
   ·rw [if_pos hjm] at hrj;cases hrj
   ·rw [if_neg him] at hri;rw [if_neg hjm] at hrj
    exact h3 i j (((hon i).1 hoi).resolve_left him) (((hon j).1 hoj).resolve_left hjm) hri hrj hij
 ·refine Holds.anti _ ?_ (zk8 hq hUw hB hr hm ho hA')
  rintro k (hu | ⟨i,hoi,hri,hb⟩)
  ·exact .inl hu
  ·replace hri:(if i=m then none else R0 i).isSome=true:=hri
   by_cases him:i=m
   ·rw [if_pos him] at hri;cases hri
   ·rw [if_neg him] at hri
    exact .inr ⟨i,((hon i).1 hoi).resolve_left him,hri,hb⟩
theorem zms {K:Ents→Prop} {Hf:Nat→List Res}:∀ (r:List Oper) (i:Nat) (Sa:Ents),PHs c ds pre T0 Hf K i r Sa→∃ S,K S∧(∃ q,S=q++Sa∧q.map (·.1)=(List.range' i r.length).reverse) ∧
  ∀ (j:Nat) o,r[j]?=some o→∃ d e S',o.dst=some d∧Ob c ds pre T0 (Hf (i+j)) (i+j) o S' e∧∃ q,S=q++(i+j,d,e) :: S'
 | [],i,Sa,h=>⟨Sa,h,⟨[],rfl,rfl⟩,λ j o hj=>by simp at hj⟩
 | o :: r,i,Sa,h=>by
  obtain⟨d,e,hd,hO,hr⟩:=h
  obtain⟨S,hK,⟨q,hq,hq2⟩,hall⟩:=zms r (i+1) _ hr
  refine⟨S,hK,⟨q++[(i,d,e)],by rw [hq];simp,?_⟩,?_⟩
  ·simp only [List.map_append,hq2,List.map_cons,List.map_nil,lC,List.range'_succ,List.reverse_cons]
  ·intro j oj hj
   cases j with
   | zero=>
    simp only [List.getElem?_cons_zero,sI] at hj
    subst hj
    exact⟨d,e,Sa,hd,hO,q,hq⟩
   | succ j=>
    simp only [List.getElem?_cons_succ] at hj
    obtain⟨d',e',S',h1,h2,h3⟩:=hall j oj hj
    exact⟨d',e',S',h1,by rwa [show i+(j+1)=i+1+j from by omega],by rwa [show i+(j+1)=i+1+j from by omega]⟩
theorem zkS:∀ (L:Ents),(L.map (·.1)).Nodup→∀ x∈L,∀ y∈L,x.1=y.1→x=y:=by
 intro L
 induction L with
 | nil=>intro _ x hx;cases hx
 | cons z r ih=>
  intro hn x hx y hy hxy
  simp only [List.map_cons,List.nodup_cons] at hn
  rcases List.mem_cons.1 hx with rfl|hx' <;> rcases List.mem_cons.1 hy with rfl|hy'
  ·rfl
  ·exact absurd (List.mem_map.2 ⟨y,hy',hxy.symm⟩) hn.1
  ·exact absurd (List.mem_map.2 ⟨x,hx',hxy⟩) hn.1
  ·exact ih hn.2 x hx' y hy' hxy
theorem zuv {late:List Nat} {q:Nat} {R R':Res} (hc:zjP c.n pre st suf late=true) {S:Ents} (hS1:S.map (·.1)=(List.range' 0 pre.length).reverse) (hqR:H[q]?=some R)
  (hall:∀ (j:Nat) o,pre[j]?=some o→∃ d e S',o.dst=some d∧Ob c ds pre T0 (bif inL late (0+j) then H.set q Emp else H) (0+j) o S' e∧∃ q,S=q++(0+j,d,e) :: S')
  (hstore:finE (deps st S) (zcl pre pre.length T0) H (λ T H'=>zfW c ds T H' st R R'))
  (hK:finE (allE S) (zd3 pre T0) (H.set q R') (λ T H'=>GK c ds (KL c (pre++st :: suf).toArray p suf) T H')) :
  ∀ (fuel:Nat) (listed:Array Bool) (a:Act) (w:World),((List.range (pre++st :: suf).length).filter (λ i=>!listed.getD i false)).length≤fuel→listed.size=(pre++st :: suf).length →
   (∀ k,pre.length<k→¬ isOn listed k)→((¬ isOn listed pre.length∧Inv c ds (pre++st :: suf) pre T0 H S listed a w)∨(isOn listed pre.length∧Inv c ds (pre++st :: suf) pre T0 (H.set q R') S listed a w)) →
   wpAnyIn (FW c.r) 0 c.P .any (pre++st :: suf).toArray p.Q fuel listed a w:=by
 simp only [zjP,aT] at hc
 obtain⟨⟨⟨⟨⟨⟨⟨⟨hback,hdef⟩,hdst⟩,hok⟩,hstd⟩,hstg⟩,hfirst⟩,hchain⟩,hlate⟩:=hc
 have hnodup:(S.map (·.1)).Nodup:=by
  rw [hS1]
  unfold List.Nodup
  rw [List.pairwise_reverse]
  exact(List.nodup_range' (s:=0) (n:=pre.length) (step:=1)).imp Ne.symm
 have huniq:=zkS S hnodup
 have hpre:∀ (k:Nat) o,pre[k]?=some o→(pre++st :: suf)[k]?=some o:=λ k o h=>by
  have:=(List.getElem?_eq_some_iff.1 h).1
  rw [List.getElem?_append_left this];exact h
 have hstm:(pre++st :: suf)[pre.length]?=some st:=by rw [List.getElem?_append_right (Nat.le_refl _)];simp
 have hjlt:∀ j dj ej,(j,dj,ej)∈S→j<pre.length:=by
  intro j dj ej hj
  have hjm:j∈S.map (·.1):=List.mem_map.2 ⟨_,hj,rfl⟩
  rw [hS1,List.mem_reverse,List.mem_range'_1] at hjm
  omega
 have hSop:∀ j dj ej,(j,dj,ej)∈S→∃ oj,pre[j]?=some oj∧oj.dst=some dj:=by
  intro j dj ej hj
  have hlt:=hjlt j dj ej hj
  obtain⟨d,e,S',hd,_,q,hq⟩:=hall j pre[j] (by simp [hlt])
  rw [Nat.zero_add] at hq
  have hmem:(j,d,e)∈S:=by rw [hq];simp
  have:=huniq _ hj _ hmem I
  simp only [Prod.mk.injEq,true_and] at this
  exact⟨pre[j],by simp [hlt],by rw [hd,this.1]⟩
 have hkeep:∀ {H':List Res} {listed:Array Bool} {a:Act} {w:World},Inv c ds (pre++st :: suf) pre T0 H' S listed a w→Sat c.n (zd3 pre T0) ds a:=by
  intro H' listed a w hI
  refine⟨hI.size,λ t v h=>?_,hI.defers⟩
  rw [zeI] at h
  obtain⟨h1,h2⟩:=zcD (λ s=>pre.all (λ f=>match f.dst with|some d=>!Nat.beq d s|none=>true)) T0 _ (λ _ _ _ _=>trivial) I t v h
  refine hI.old t v h1 λ k o hk _ hd=>?_
  rw [List.all_eq_true] at h2
  have h3:=h2 o (List.mem_of_getElem? hk)
  rw [hd] at h3
  simp at h3
 have hend:∀ (fuel:Nat) (listed:Array Bool) (a:Act) (w:World),((List.range (pre++st :: suf).length).filter (λ i=>!listed.getD i false)).length≤fuel→listed.size=(pre++st :: suf).length→(∀ k,pre.length<k→¬ isOn listed k) →
   (∀ i,i<pre.length+1→isOn listed i)→Inv c ds (pre++st :: suf) pre T0 (H.set q R') S listed a w→wpAnyIn (FW c.r) 0 c.P .any (pre++st :: suf).toArray p.Q fuel listed a w:=by
  intro fuel listed a w hf hsz hsuf hallon hI
  obtain⟨T',H',hg,hsat,hhp⟩:=zdH (S:=S) (S1:=S) (f:=λ _=>true) (L:=allE) (K:=λ T H'=>GK c ds (KL c (pre++st :: suf).toArray p suf) T H') (T1:=zd3 pre T0) hI (λ _ h=>h)
   (λ x hx _=>hallon x.1 (by have:=hjlt x.1 x.2.1 x.2.2 hx;omega)) (hkeep hI) I (λ _ _ _ _=>rfl) hnodup hK
  have hl:=hg a w hsat hhp
  have hcnt:suf.length≤fuel:=by
   refine Nat.le_trans ?_ hf
   have hlen:(pre++st :: suf).length=(pre.length+1)+suf.length:=by simp;omega
   rw [hlen,List.range_eq_range',←List.range'_append_1,List.filter_append,lA]
   refine Nat.le_trans ?_ (Nat.le_add_left _ _)
   rw [List.filter_eq_self.2 (λ x hx=>?_)]
   ·simp
   ·rw [List.mem_range'_1] at hx
    have:=hsuf x (by omega)
    unfold isOn at this
    simp only [Bool.not_eq_true] at this
    rw [this];rfl
  refine zhl (m:=pre.length+1) hback hchain suf.length 0 fuel listed a w (by simp;omega) hcnt hsz (λ k hk=>⟨λ hon=>?_,λ h=>hallon k (by omega)⟩) ?_
  ·rcases Nat.lt_or_ge k (pre.length+1) with h|h
   ·omega
   ·exact absurd hon (hsuf k (by omega))
  rw [Nat.add_zero,show(pre++st :: suf).drop (pre.length+1)=suf from by rw [←List.drop_drop,List.drop_left];rfl]
  exact hl
 have hmode:∀ {listed:Array Bool} {a:Act} {w:World},((¬ isOn listed pre.length∧Inv c ds (pre++st :: suf) pre T0 H S listed a w)∨(isOn listed pre.length∧Inv c ds (pre++st :: suf) pre T0 (H.set q R') S listed a w)) →
   isOn listed pre.length→Inv c ds (pre++st :: suf) pre T0 (H.set q R') S listed a w:=λ h hon=>by
  rcases h with ⟨h,_⟩ | ⟨_,h⟩
  ·exact absurd hon h
  ·exact h
 intro fuel
 induction fuel with
 | zero=>
  intro listed a w hf hsz hsuf hI
  by_cases hallon:∀ i,i<pre.length+1→isOn listed i
  ·exact hend 0 listed a w hf hsz hsuf hallon (hmode hI (hallon _ (by omega)))
  ·exfalso
   obtain⟨i,hi⟩:=Classical.not_forall.1 hallon
   obtain⟨hi1,hi2⟩:=Classical.not_imp.1 hi
   have hmem:i∈(List.range (pre++st :: suf).length).filter (λ i=>!listed.getD i false):=by
    rw [List.mem_filter,List.mem_range]
    refine⟨by simp;omega,?_⟩
    unfold isOn at hi2
    simp only [Bool.not_eq_true] at hi2
    rw [hi2];rfl
   have:=List.length_pos_of_mem hmem
   omega
 | succ fuel ih=>
  intro listed a w hf hsz hsuf hI
  by_cases hallon:∀ i,i<pre.length+1→isOn listed i
  ·exact hend _ listed a w hf hsz hsuf hallon (hmode hI (hallon _ (by omega)))
  ·have hex:∃ i,i<pre.length+1∧¬ isOn listed i:=by
    obtain⟨i,hi⟩:=Classical.not_forall.1 hallon
    exact⟨i,Classical.not_imp.1 hi⟩
   have hclosed:∀ (k:Nat) (o:Oper),(pre++st :: suf)[k]?=some o→isOn listed k→∀ j,zaT o j=true→isOn listed j:=by
    rcases hI with ⟨_,h⟩ | ⟨_,h⟩ <;> exact h.closed
   refine⟨λ h0=>?_,λ i hi=>?_⟩
   ·exfalso
    have least:∀ n,(∃ i,i<n∧¬ isOn listed i)→∃ i,i<n∧¬ isOn listed i∧∀ k,k<i→isOn listed k:=by
     intro n
     induction n with
     | zero=>rintro ⟨i,hi,_⟩;omega
     | succ n ih=>
      rintro ⟨i,hi,hno⟩
      by_cases h:∃ i,i<n∧¬ isOn listed i
      ·obtain⟨j,h1,h2,h3⟩:=ih h
       exact⟨j,by omega,h2,h3⟩
      ·refine⟨i,hi,hno,λ k hk=>Classical.byContradiction λ hn=>h ⟨k,by omega,hn⟩⟩
    obtain⟨i,h1,h2,h3⟩:=least _ hex
    have hlt:i<(pre++st :: suf).length:=by simp;omega
    have:i∈Region.ready .any (pre++st :: suf).toArray listed:=by
     refine(zbX (by simpa using hsz)).2 ⟨by simpa using hlt,h2,(pre++st :: suf)[i],by simp,λ j hj=>?_⟩
     have:=zbY _ 0 hback i (pre++st :: suf)[i] (by simp) j hj
     exact h3 j (by omega)
    rw [h0] at this
    cases this
   ·obtain⟨g1,g2,o,ho,g3⟩:=(zbX (by simpa using hsz)).1 hi
    simp only [List.size_toArray] at g1
    have ho':(pre++st :: suf)[i]?=some o:=by simpa using ho
    have him:i<pre.length+1:=by
     rcases Nat.lt_or_ge i (pre.length+1) with h|h
     ·exact h
     ·exfalso
      rcases Nat.lt_or_ge (pre.length+1) i with hgt|hle
      ·unfold zhL at hchain
       have:=List.all_eq_true.1 hchain (i - (pre.length+1) - 1) (by rw [List.mem_range];omega)
       rw [show pre.length+1+(i - (pre.length+1) - 1)+1=i from by omega,ho'] at this
       exact hsuf _ (by omega) (g3 _ this)
      ·have hie:i=pre.length+1:=by omega
       have hne:suf.isEmpty=false:=by
        cases suf with
        | nil=>simp at g1;omega
        | cons _ _=>rfl
       rw [hne,Bool.false_or] at hfirst
       obtain⟨k,hk1,hk2⟩:=hex
       have:=List.all_eq_true.1 hfirst k (List.mem_range.2 hk1)
       rw [←hie] at this
       exact hk2 (zdL hclosed 64 i k (λ o'' h''=>by rw [ho'] at h'';cases h'';exact g3) this)
    have hilt:i<listed.size:=by omega
    have hcnt:((List.range (pre++st :: suf).length).filter (λ k=>!(listed.setIfInBounds i true).getD k false)).length≤fuel:=by
     have:=zkI (l:=List.range (pre++st :: suf).length) (q:=λ i=>!listed.getD i false) (q':=λ k=>!(listed.setIfInBounds i true).getD k false) (i:=i) ?_ (List.mem_range.2 g1) ?_ ?_
     ·omega
     ·intro x hx'
      have:¬ isOn (listed.setIfInBounds i true) x:=by unfold isOn;simpa using hx'
      have:¬ isOn listed x:=λ h=>this ((zbt hilt x).2 (.inr h))
      unfold isOn at this
      simpa using this
     ·unfold isOn at g2;simpa using g2
     ·have:isOn (listed.setIfInBounds i true) i:=(zbt hilt i).2 (.inl I)
      unfold isOn at this
      simp only [this];rfl
    have hsuf':∀ k,pre.length<k→¬ isOn (listed.setIfInBounds i true) k:=λ k hk hon=>by
     rcases(zbt hilt k).1 hon with rfl|h
     ·omega
     ·exact hsuf k hk h
    rcases Nat.lt_or_ge i pre.length with hip|hip
    ·have hpi:pre[i]?=some o:=by rw [List.getElem?_append_left hip] at ho';exact ho'
     obtain⟨d,e,S',hd,hOb,q',hq⟩:=hall i o hpi
     rw [Nat.zero_add] at hOb hq
     have hsubS:∀ x∈S',x∈S:=λ x hx=>by rw [hq];simp [hx]
     have hmem:(i,d,e)∈S:=by rw [hq];simp
     have hndS':(S'.map (·.1)).Nodup:=by
      have:=hnodup
      rw [hq,List.map_append,List.nodup_append] at this
      have:=this.2.1
      rw [List.map_cons,List.nodup_cons] at this
      exact this.2
     have hshow:∃ HS,Inv c ds (pre++st :: suf) pre T0 HS S listed a w∧HS=(bif inL late i then H.set q Emp else H):=by
      cases hl:inL late i with
      | true=>
       simp only [cond_true]
       rcases hI with ⟨_,h⟩ | ⟨_,h⟩
       ·exact⟨_,h.emp q,rfl⟩
       ·exact⟨_,h.emp q,znQ⟩
      | false=>
       simp only [cond_false]
       rcases hI with ⟨_,h⟩ | ⟨hon,_⟩
       ·exact⟨_,h,rfl⟩
       ·exfalso
        have:=List.all_eq_true.1 hlate i (List.mem_range.2 hip)
        rw [hl,Bool.false_or] at this
        exact g2 (zdL hclosed 64 pre.length i (λ o'' h''=>hclosed _ _ h'' hon) this)
     obtain⟨HS,hIS,hHS⟩:=hshow
     rw [←hHS] at hOb
     have hsatb:Sat c.n (zcl pre i T0) ds a:=zgH hIS hpre g2
     have hdn:d<c.n:=by
      have:=List.all_eq_true.1 hok o (List.mem_of_getElem? hpi)
      rw [hd] at this
      exact bL this
     have hnd:zfO o=false:=by
      have:=List.all_eq_true.1 hdef o (List.mem_of_getElem? (hpre i o hpi))
      simpa using this
     have hnext:∀ (v:Value) (r:Option Res) (w':World),Ext w w'→e.ok v r→(∀ R,r=some R→∃ B:Nat→Prop,(∀ k,B k→w.heap.size≤k∧k<w'.heap.size)∧R.A B w') →
       wpAnyIn (FW c.r) 0 c.P .any (pre++st :: suf).toArray p.Q fuel (listed.setIfInBounds i true) (a.put (some d) v) w':=by
      intro v r w' hx hek hr
      have hnm:isOn (listed.setIfInBounds i true) pre.length↔isOn listed pre.length:=by
       rw [zbt hilt]
       exact⟨λ h=>h.resolve_left (by omega),.inr⟩
      have hstep:∀ {HS:List Res},Inv c ds (pre++st :: suf) pre T0 HS S listed a w→Inv c ds (pre++st :: suf) pre T0 HS S (listed.setIfInBounds i true) (a.put (some d) v) w':=λ hI=>
       zj5 hI hpi ho' hilt hd (λ j oj hj hji=>zdF pre hdst i j o oj hpi hj (Ne.symm hji) d hd) hSop
        (λ d' e' h=>by have:=huniq _ h _ hmem I;simp only [Prod.mk.injEq,true_and] at this;exact this) hdn g3 g2 hx hek hr
      refine ih _ _ _ hcnt (by simp [hsz]) hsuf' ?_
      rcases hI with ⟨hno,h⟩ | ⟨hon,h⟩
      ·exact .inl ⟨λ x=>hno (hnm.1 x),hstep h⟩
      ·exact .inr ⟨hnm.2 hon,hstep h⟩
     unfold wpOpIn
     rw [ho]
     simp only []
     have hfun:∀ {K:List (Nat×Value)→List Res→Prop},finE (deps o S') (zcl pre i T0) HS K→∃ T' H',K T' H'∧Sat c.n T' ds a∧Hp c.U c.w0 H' w:=λ h=>
      zdH (f:=λ j=>zaT o j) (S1:=S') (L:=deps o) hIS hsubS (λ x _ hb=>g3 x.1 hb) hsatb I (λ _ _ _ _=>rfl) hndS' h
     unfold Ob at hOb
     cases hg:o.guard with
     | none=>
      rw [hg] at hOb
      simp only at hOb
      rw [if_pos (by simp [Region.wanted,hg])]
      obtain⟨T',H',hst',hsat,hhp⟩:=hfun hOb
      cases e with
      | pure u=>
       refine za9 hnd (hst'.run a w hsat hhp) λ v w' hv=>?_
       obtain⟨rfl,hx⟩:=hv
       rw [hd]
       exact hnext v none w' hx ⟨rfl,rfl⟩ (λ R h=>by cases h)
      | res X V A=>
       refine za9 hnd (hst'.run a w hsat hhp) λ v w' hv=>?_
       obtain⟨x,rfl,hx,B,hB,hA⟩:=hv
       rw [hd]
       exact hnext _ (some (A x)) w' hx ⟨x,rfl,rfl⟩ (λ R h=>by cases h;exact⟨B,hB,hA⟩)
     | some gw=>
      obtain⟨j,want⟩:=gw
      rw [hg] at hOb
      rcases hOb with ⟨hlk,hbj,hst0⟩ | ⟨u0,qb,u,hlk,hbj,hq0,rfl,hst'⟩
      ·obtain⟨dj,hj⟩:=zf6 S' j _ hlk
       have honj:=g3 j hbj
       obtain⟨oj,hoj,hdj⟩:=hSop j dj _ (hsubS _ hj)
       obtain⟨v0,R0,B0,h1,_⟩:=hIS.fam
       obtain⟨hok',hval⟩:=h1 j dj _ (hsubS _ hj) honj
       obtain⟨hvj,_⟩:=hok'
       rw [hvj] at hval
       have hy:yielded (pre++st :: suf).toArray a.tmps j=some want:=zec (by simpa using hpre j oj hoj) hdj hval
       rw [if_pos (by simp only [Region.wanted,hg];rw [hy];simp)]
       obtain⟨T',H',hst',hsat,hhp⟩:=hfun hst0
       cases e with
       | pure u=>
        refine za9 hnd (hst'.run a w hsat hhp) λ v w' hv=>?_
        obtain⟨rfl,hx⟩:=hv
        rw [hd]
        exact hnext v none w' hx ⟨rfl,rfl⟩ (λ R h=>by cases h)
       | res X V A=>
        refine za9 hnd (hst'.run a w hsat hhp) λ v w' hv=>?_
        obtain⟨x,rfl,hx,B,hB,hA⟩:=hv
        rw [hd]
        exact hnext _ (some (A x)) w' hx ⟨x,rfl,rfl⟩ (λ R h=>by cases h;exact⟨B,hB,hA⟩)
      obtain⟨dj,hj⟩:=zf6 S' j _ hlk
      have honj:=g3 j hbj
      obtain⟨oj,hoj,hdj⟩:=hSop j dj _ (hsubS _ hj)
      obtain⟨v0,R0,B0,h1,_⟩:=hIS.fam
      obtain⟨hok',hval⟩:=h1 j dj _ (hsubS _ hj) honj
      obtain⟨hvj,_⟩:=hok'
      rw [hvj] at hval
      have hy:yielded (pre++st :: suf).toArray a.tmps j=some want↔u0=.bool want:=zd2 (by simpa using hpre j oj hoj) hdj hval
      cases hqq:qb with
      | true=>
       rw [if_pos (by simp only [Region.wanted,hg];rw [hy.2 (hq0.1 hqq)];simp)]
       obtain⟨T',H',hst'',hsat,hhp⟩:=hfun (hst' hqq)
       refine za9 hnd (hst''.run a w hsat hhp) λ v w' hv=>?_
       obtain⟨rfl,hx⟩:=hv
       rw [hd]
       exact hnext v none w' hx ⟨by rw [if_pos hqq],rfl⟩ (λ R h=>by cases h)
      | false=>
       have hnw:¬ yielded (pre++st :: suf).toArray a.tmps j=some want:=λ h=>by
        have:=hq0.2 (hy.1 h)
        rw [hqq] at this
        cases this
       rw [if_neg (by simp only [Region.wanted,hg];simpa using hnw)]
       refine⟨λ _ _=>trivial,?_⟩
       rw [hd]
       exact hnext undef none w Ext.rfl ⟨by rw [if_neg (by simp [hqq])],rfl⟩ (λ R h=>by cases h)
    ·have hie:i=pre.length:=by omega
     subst hie
     rw [hstm] at ho'
     simp only [sI] at ho'
     subst ho'
     have hIA:Inv c ds (pre++st :: suf) pre T0 H S listed a w:=by
      rcases hI with ⟨_,h⟩ | ⟨h,_⟩
      ·exact h
      ·exact absurd h g2
     obtain⟨T',H',hst',hsat,hhp⟩:=zdH (f:=λ j=>zaT st j) (S1:=S) (L:=deps st) hIA (λ _ h=>h) (λ x _ hb=>g3 x.1 hb) (zgH hIA hpre g2) I (λ _ _ _ _=>rfl) hnodup hstore
     obtain⟨B,hB,hA,hgo⟩:=zp0 (R':=R') hIA hstm hilt g3 (by simp) (λ j dj ej hj h=>by have:=hjlt j dj ej hj;omega) g2 hqR
     unfold wpOpIn
     rw [ho]
     simp only []
     have hgn:st.guard=none:=by simpa using hstg
     have hdn:st.dst=none:=by simpa using hstd
     rw [if_pos (by simp [Region.wanted,hgn])]
     have hnd:zfO st=false:=by
      have:=List.all_eq_true.1 hdef st (List.mem_of_getElem? hstm)
      simpa using this
     refine za9 hnd (hst'.run a w B hsat hhp hB hA) λ v w' hv=>?_
     obtain⟨hm,B',ho',hA'⟩:=hv
     rw [hdn]
     exact ih _ _ _ hcnt (by simp [hsz]) hsuf' (.inr ⟨(zbt hilt _).2 (.inl I),hgo w' B' hm ho' hA'⟩)
theorem zpN {id:Nat} {l:List Oper} {d:Bool} (m:Nat) (late:List Nat) (q:Nat) {R R':Res} (hm:d=true→c.P.follows .mixedOrders=true) (hl0:l.take m++st :: l.drop (m+1)=l) (hlm:(l.take m).length=m)
  (hc:zjP c.n (l.take m) st (l.drop (m+1)) late=true) (hq:H[q]?=some R)
  (h:PHs c ds (l.take m) T0 (λ i=>bif inL late i then H.set q Emp else H) (λ S=>finE (deps st S) (zcl (l.take m) m T0) H (λ T H'=>zfW c ds T H' st R R') ∧
   finE (allE S) (zd3 (l.take m) T0) (H.set q R') (λ T H'=>GK c ds (KL c l.toArray p (l.drop (m+1))) T H')) 0 (l.take m) []):GK c ds (KC c (.region id l.toArray d) p) T0 H:=by
 intro a w ha hw
 obtain⟨S,⟨hst,hK⟩,⟨q',hq',hq2⟩,hall⟩:=zms _ _ _ h
 rw [List.append_nil] at hq'
 have hmain:∀ w,Hp c.U c.w0 H w→wpAnyIn (FW c.r) 0 c.P .any l.toArray p.Q l.length (Array.replicate l.length false) a w:=by
  intro w hw
  have hoff:∀ k,¬ isOn (Array.replicate l.length false) k:=λ k=>by
   unfold isOn
   by_cases hk:k<l.length
   ·simp [hk]
   ·simp [hk]
  have:=zuv (c:=c) (ds:=ds) (p:=p) (pre:=l.take m) (st:=st) (suf:=l.drop (m+1)) (T0:=T0) (H:=H) hc (S:=S) (by rw [hq'];exact hq2) hq hall (by rw [hlm];exact hst) (by rw [hl0];exact hK) l.length (Array.replicate l.length false) a w
   (by rw [hl0];exact Nat.le_trans (List.length_filter_le _ _) (by simp)) (by rw [hl0];simp) (λ k _=>hoff k)
   (.inl ⟨hoff _,⟨hw.base,ha.size,ha.defers,λ k o _ hon=>absurd hon (hoff k),λ s v hs _=>ha.val s v hs,
    ⟨λ _=>undef,λ _=>none,λ _ _=>False,λ i _ _ _ hon=>absurd hon (hoff i),λ i _ hon=>absurd hon (hoff i),λ i _ hon=>absurd hon (hoff i),
     Holds.anti H (λ k hk=>by
      rcases hk with hk | ⟨_,_,_,hk⟩
      ·exact hk
      ·exact hk.elim) hw.holds⟩⟩⟩)
  rw [hl0] at this
  exact this
 cases d
 ·refine wpIn_region ?_
  have hb:zb8 0 l=true:=by
   simp only [zjP,aT] at hc
   obtain⟨⟨⟨⟨⟨⟨⟨⟨hback,_⟩,_⟩,_⟩,_⟩,_⟩,_⟩,_⟩,_⟩:=hc
   rwa [hl0] at hback
  have:=zer (c:=c) (p:=p) hb l.length 0 l.length (Array.replicate l.length false) a w (by omega) (Nat.le_refl _) (by simp) (λ i hi=>⟨λ h=>by
   unfold isOn at h
   simp [hi] at h,λ h=>by omega⟩) (hmain w hw)
  rw [List.range_eq_range']
  simpa using this
 ·refine wpIn_region_any (hm I) ?_
  have:=hmain _ hw.drawn
  simpa using this
end
section
variable {c:Cx} {ds:List Deferred} {pre:List Oper} {T0:List (Nat×Value)} {Hf:Nat→List Res} {K:Ents→Prop} {i d:Nat} {r:List Oper} {S:Ents} {op:Op} {ty:TypeId} {ps:String} {af:Array Edge}
theorem zcf {v:Value} (h:finE (deps ⟨some d,op,ty,ps,af,none⟩ S) (zcl pre i T0) (Hf i) (λ T H'=>Y c ds H' T ⟨some d,op,ty,ps,af,none⟩ v)) (k:PHs c ds pre T0 Hf K (i+1) r ((i,d,.pure v) :: S)) :
  PHs c ds pre T0 Hf K i (⟨some d,op,ty,ps,af,none⟩ :: r) S:=⟨d,.pure v,rfl,h,k⟩
theorem zqp {X:Type} {V:X→Value} {A:X→Res} (h:finE (deps ⟨some d,op,ty,ps,af,none⟩ S) (zcl pre i T0) (Hf i) (λ T H'=>YX c ds H' T ⟨some d,op,ty,ps,af,none⟩ V A))
  (k:PHs c ds pre T0 Hf K (i+1) r ((i,d,.res X V A) :: S)):PHs c ds pre T0 Hf K i (⟨some d,op,ty,ps,af,none⟩ :: r) S:=⟨d,.res X V A,rfl,h,k⟩
end
section
variable {c:Cx} {ds:List Deferred} {T:List (Nat×Value)} {H:List Res} {x y:Operand} {v:Value} {ty:TypeId} {ps:String} {af:Array Edge} {g:Option (Nat×Bool)} {d:Option Nat}
theorem zex {t:TypeId} {gg:Bool} {k b o:Nat} {z:Value} {cs cs' vs:List Value} {e:TypeId} (ht:TF c.P t gg k z) (hx:evo T x=some (.pointer (some ⟨b,o,none⟩))) (hy:evo T y=some v)
  (hv:v.cells=vs.toArray) (hl:vs.length=k) (h1:vs.all zgS=true) (ho:Nat.ble (o+k) cs.length=true) (hcs:over cs o vs=cs'):zfW c ds T H ⟨d,.store t x y,ty,ps,af,g⟩ (Box b cs e) (Box b cs' e):=by
 subst hcs
 refine⟨λ a w B ha hw hB hA=>?_⟩
 obtain⟨w',hr,hm,hb'⟩:=zb7 (P:=c.P) (o:=o) vs cs 0 w hA.2 (by have:=bL ho;omega) h1
 have:(execOp a.eval ⟨d,.store t x y,ty,ps,af,g⟩).run c.P w=.ok .skip w':=by
  simp only [execOp,ha.eval hx,ha.eval hy]
  have h3:(Instr.storeAt t (.pointer (some ⟨b,o,none⟩)) v).run c.P w=.ok () w':=by
   unfold Instr.storeAt
   rw [zal (v:=⟨b,o,none⟩) (w':=w) I]
   unfold storeVar
   rw [zal ht.size]
   have:v.cells.size=k:=by rw [hv];simpa using hl
   rw [if_neg (by simp [this])]
   rw [hv]
   exact hr
  rw [zal h3]
  rfl
 unfold Yld
 rw [this]
 exact⟨⟨hm.os,hm.tape,hm.output,hm.size,λ k hk hnb=>hm.same k hk (λ he=>hnb ((hA.1 k).2 he))⟩,B,λ k hk=>.inl hk,hA.1,hb'⟩
end
def thrC (v:Value):List PanicEntry:=[{ v:=v,recovered:=false }]
def errT (te:TypeId) (k:Int):Value:=.iface te (O k)
def YldT (P:Program) (o:Oper) (a:Act) (w:World) (R:Value→World→Prop) (Q:List PanicEntry→World→Prop):Prop:=
 match (execOp a.eval o).run P w with
 | .ok (.value v) w'=>R v w'
 | .ok .skip w'=>R undef w'
 | .ok (.enter f args) w'=>Calls P f args w' (λ e w''=>(∃ v,e=.returned v∧R v w'')∨(∃ ch,e=.panicked ch∧Q ch w''))
 | .halt (.panic v) w'=>Q (thrC v) w'
 | _=>False
theorem zhn {r:Option Nat} {P:Program} {o:Oper} {a:Act} {w:World} {R:Value→World→Prop} {Qp:List PanicEntry→World→Prop} {next:Act→World→Prop} {Q:Exit→Act→World→Prop}
  (hd:zfO o=false) (h:YldT P o a w R Qp) (hn:∀ v w',R v w'→next (a.put o.dst v) w') (hq:∀ ch w',Qp ch w'→Q (.panic ch) a w'):o.wpIn (FW r) 0 P a w next Q:=by
 refine⟨λ _ _=>trivial,?_⟩
 rw [Oper.semAt_eq _ _ _ (λ c hc=>by simp [zfO,hc] at hd)]
 unfold YldT at h
 generalize (execOp a.eval o).run P w=x at *
 cases x with
 | halt x w'=>
  cases x <;> first|exact hq _ _ h|exact h.elim
 | ok n w'=>
  cases n with
  | value v=>exact hn _ _ h
  | skip=>exact hn _ _ h
  | enter f args=>
   refine⟨λ hx=>by simp [FW] at hx,zfz.2 (Calls.mono h ?_)⟩
   rintro e w'' (⟨v,rfl,hv⟩ | ⟨ch,rfl,hv⟩)
   ·exact hn _ _ hv
   ·exact hq _ _ hv
  | _=>exact h.elim
theorem zp9 {w w':World} {B:Nat→Prop} {H:List Res} (h:Hp (λ k=>k<w.heap.size∧¬ B k) w H w'):Mod B w w':=
 ⟨h.base.os,h.base.tape,h.base.output,h.base.size,λ k hk hb=>h.base.same k ⟨hk,hb⟩⟩
def zej {X M:Type} (te:TypeId) (res:Except Int X) (V:X→M→Value) (J:X→M→Res) (B:Nat→Prop) (w:World):Ending→World→Prop:=λ e w'=>
 match res with
 | .ok x=>∃ m B',e=.returned (V x m)∧Mod B w w'∧Own B B' w w'∧(J x m).A B' w'
 | .error k=>e=.panicked (thrC (errT te k))∧Mod B w w'
section
variable {c:Cx} {ds:List Deferred} {p:Post} {T:List (Nat×Value)} {H:List Res} {ops:Array Oper} {rest:List Oper} {d:Option Nat} {ty:TypeId} {ps:String} {af:Array Edge}
theorem zk0 {o:Oper} (hg:o.guard=none) (hd:zfO o=false)
  (h:∀ a w,Sat c.n T ds a→Hp c.U c.w0 H w→YldT c.P o a w (λ v w'=>KL c ops p rest (a.put o.dst v) w') (λ ch w'=>p.pn a ch w')):GK c ds (KL c ops p (o :: rest)) T H:=by
 intro a w ha hw
 show wpListIn (FW c.r) 0 c.P ops p.Q (o :: rest) a w
 unfold wpListIn
 rw [if_pos (by simp [Region.wanted,hg])]
 exact zhn hd (h a w ha hw) (λ v w' h=>h) (λ ch w' h=>h)
theorem zcg {f:FuncId} {ch:List PanicEntry} (he:En c.P f) {«as»:List Operand} {tys:Array TypeId} {vs:List Value} (ha:evs T «as» = some vs)
  (hc:∀ w,Hp c.U c.w0 H w→Calls c.P f vs.toArray w (λ e w'=>e=.panicked ch∧Ext w w')) (kt:GK c ds (λ a w=>p.pn a ch w) T H) :
  GK c ds (KL c ops p (⟨d,.call ⟨.value (.func f),«as».toArray,tys⟩,ty,ps,af,none⟩ :: rest)) T H:=by
 refine zk0 I I λ a w hs hw=>?_
 unfold YldT
 rw [zfJ he ha hs w]
 refine(hc w hw).mono ?_
 rintro e w' ⟨rfl,hx⟩
 exact .inr ⟨ch,rfl,kt a w' hs (hw.ext hx)⟩
theorem zbZ {X M:Type} {te:TypeId} {res:Except Int X} {V:X→M→Value} {J:X→M→Res} {R:Res} {f:FuncId} (i:Nat) (he:En c.P f) {«as»:List Operand} {tys:Array TypeId} {vs:List Value} (hn:zhp d c.n=true) (ha:evs T «as» = some vs) (hi:H[i]?=some R)
  (hc:∀ w B,Foc c H i R B w→Calls c.P f vs.toArray w (zej te res V J B w))
  (kt:∀ k,res=.error k→GK c ds (λ a w=>p.pn a (thrC (errT te k)) w) T (H.set i Emp))
  (k:∀ x m,res=.ok x→GK c ds (KL c ops p rest) (putT d (V x m) T) (H.set i (J x m))) :
  GK c ds (KL c ops p (⟨d,.call ⟨.value (.func f),«as».toArray,tys⟩,ty,ps,af,none⟩ :: rest)) T H:=by
 refine zk0 I I λ a w hs hw=>?_
 obtain⟨B,hF⟩:=hw.foc hi
 unfold YldT
 rw [zfJ he ha hs w]
 refine(hc w B hF).mono ?_
 intro e w' he'
 cases hres:res with
 | ok x=>
  rw [hres] at he'
  obtain⟨m,B',rfl,hm,ho,hA⟩:=he'
  exact .inl ⟨V x m,rfl,k x m hres _ _ (hs.putT hn _) (hF.upd hi hm ho hA)⟩
 | error q=>
  rw [hres] at he'
  obtain⟨rfl,hm⟩:=he'
  refine .inr ⟨_,rfl,kt q hres a w' hs ?_⟩
  exact hF.upd hi hm (B':=λ _=>False) (λ _ hk=>hk.elim) trivial
theorem zcB {X M:Type} {te:TypeId} {res:Except Int X} {V:X→M→Value} {J:X→M→Res} {R:Res} {t:Nat} {f:FuncId} (i:Nat) (he:En c.P f) {fs cap:List Value} (hf:evo T (.tmp t)=some (.func (.func f) fs.toArray cap.toArray)) {«as»:List Operand} {tys:Array TypeId} {vs:List Value} (hn:zhp d c.n=true) (ha:evs T «as» = some vs) (hi:H[i]?=some R)
  (hc:∀ w B,Foc c H i R B w→Calls c.P f (fs++vs++cap).toArray w (zej te res V J B w))
  (kt:∀ k,res=.error k→GK c ds (λ a w=>p.pn a (thrC (errT te k)) w) T (H.set i Emp))
  (k:∀ x m,res=.ok x→GK c ds (KL c ops p rest) (putT d (V x m) T) (H.set i (J x m))) :
  GK c ds (KL c ops p (⟨d,.call ⟨.value (.tmp t),«as».toArray,tys⟩,ty,ps,af,none⟩ :: rest)) T H:=by
 refine zk0 I I λ a w hs hw=>?_
 obtain⟨B,hF⟩:=hw.foc hi
 unfold YldT
 rw [zgE he hf ha hs w]
 have:=hc w B hF
 rw [show(fs++vs++cap).toArray=fs.toArray++vs.toArray++cap.toArray from by simp] at this
 refine this.mono ?_
 intro e w' he'
 cases hres:res with
 | ok x=>
  rw [hres] at he'
  obtain⟨m,B',rfl,hm,ho,hA⟩:=he'
  exact .inl ⟨V x m,rfl,k x m hres _ _ (hs.putT hn _) (hF.upd hi hm ho hA)⟩
 | error q=>
  rw [hres] at he'
  obtain⟨rfl,hm⟩:=he'
  refine .inr ⟨_,rfl,kt q hres a w' hs ?_⟩
  exact hF.upd hi hm (B':=λ _=>False) (λ _ hk=>hk.elim) trivial
end
section
variable {P:Program} {n:Nat} {w0:World} {B:Nat→Prop} {T:List (Nat×Value)} {H:List Res} {fn:Func} {X M:Type} {te:TypeId} {res:Except Int X} {V:X→M→Value} {J:X→M→Res}
theorem zdm {v:Value} (x:X) (m:M) (i:Nat) (hv:RV (cxB P n w0 B) [] T H fn v) (hu:v=V x m) (hi:H[i]?=some (J x m)) (hq:res=.ok x) :
  GK (cxB P n w0 B) [] (RetP P fn (zej te res V J B w0)) T H:=zfh hv λ w hw=>by
 obtain⟨B',h1,h2,_,h3⟩:=zet hw hi
 subst hq
 exact⟨m,B',by rw [hu],h1,h2,h3⟩
theorem zij {c:Cx} {R:Ending→World→Prop} {ch:List PanicEntry} (h:∀ w,Hp c.U c.w0 H w→R (.panicked ch) w):GK c [] (λ a w=>(poOf c.P fn R).pn a ch w) T H:=by
 intro a w ha hw
 show LeavesInM Fence.wide 0 c.P fn a.tmps R a.defers (.panicking ch) w
 rw [ha.defers]
 exact h w hw
theorem za6 {k:Int} (hq:res=.error k):GK (cxB P n w0 B) [] (λ a w=>(poOf P fn (zej te res V J B w0)).pn a (thrC (errT te k)) w) T H:=
 zij (c:=cxB P n w0 B) λ w hw=>by
  subst hq
  exact⟨rfl,zp9 hw⟩
end
section
variable {c:Cx} {ds:List Deferred} {p:Post} {T:List (Nat×Value)} {H H':List Res} {ops:Array Oper} {rest:List Oper} {dst:Option Nat} {ty:TypeId} {ps:String} {af:Array Edge} {R:Ending→World→Prop} {fn:Func}
theorem zru (hr:c.r=none) {t:Nat} {g:FuncId} {cap:List Value} (hf:evo T (.tmp t)=some (.func (.func g) #[] cap.toArray)) {tys:Array TypeId} (hn:zhp dst c.n=true)
  (k:GK c ({ target:=.fn (.func g) cap.toArray,args:=#[] } :: ds) (KL c ops p rest) (putT dst undef T) H) :
  GK c ds (KL c ops p (⟨dst,.defer ⟨.value (.tmp t),#[],tys⟩,ty,ps,af,none⟩ :: rest)) T H:=by
 intro a w ha hw
 show wpListIn (FW c.r) 0 c.P ops p.Q (_ :: rest) a w
 unfold wpListIn
 rw [if_pos (by simp [Region.wanted])]
 refine⟨λ _ _=>trivial,?_⟩
 rw [hr]
 show Oper.uponIn _ _ _ _ _ _ _ ((Oper.semAt none a.eval _).run c.P w)
 rw [Oper.semAt_none]
 have:(execOp a.eval ⟨dst,.defer ⟨.value (.tmp t),#[],tys⟩,ty,ps,af,none⟩).run c.P w=.ok (.defer { target:=.fn (.func g) cap.toArray,args:=#[] }) w:=by
  simp only [execOp]
  rw [zal (v:=({ target:=.fn (.func g) cap.toArray,args:=#[] }:Deferred)) (w':=w) (by
   simp only [resolve,ha.eval hf]
   simp [Deferred.ofValue,pure])]
  rfl
 rw [this]
 have ha':Sat c.n T ({ target:=.fn (.func g) cap.toArray,args:=#[] } :: ds) { a with defers:={ target:=.fn (.func g) cap.toArray,args:=#[] } :: a.defers }:=⟨ha.size,ha.val,by simp [ha.defers]⟩
 have h2:=k _ w (ha'.putT hn undef) hw
 unfold KL at h2
 rw [hr] at h2
 exact h2
theorem zjn {P:Program} {tm:Array Value} {g:FuncId} {cap:List Value} {u:FrameMode} {w:World} (he:En P g) (hu:u≠.run)
  (hc:CallsDIn Fence.wide 0 P g cap.toArray u w (λ e u' w'=>(∃ v,e=.returned v)∧settle u' = .returning∧∃ v,(results fn tm).run P w' = .ok v w'∧R (.returned v) w')) :
  LeavesInM Fence.wide 0 P fn tm R [{ target:=.fn (.func g) cap.toArray,args:=#[] }] u w:=by
 refine⟨hu,.inr ⟨λ h=>by simp [Fence.wide] at h,.func g,cap.toArray,g,cap.toArray,rfl,?_,λ _ _=>trivial,?_⟩⟩
 ·have:=he cap.toArray w
  simp only [invoke,Array.empty_append]
  exact this
 ·refine CallsDIn.mono hc ?_
  rintro e u' w' ⟨⟨v,rfl⟩,hs,v',hv,hR⟩
  show LeavesInM Fence.wide 0 P fn tm R [] (settle u') w'
  rw [hs]
  exact⟨v',hv,hR⟩
theorem zfg {g:FuncId} {cap:List Value} {v:Value} {ch:List PanicEntry} (he:En c.P g)
  (hc:∀ w,Hp c.U c.w0 H w→CallsDIn Fence.wide 0 c.P g cap.toArray (.panicking ch) w (λ e u' w'=>(∃ v,e=.returned v)∧settle u' = .returning∧Hp c.U c.w0 H' w'))
  (hv:RV c [] T H' fn v) (h:∀ w,Hp c.U c.w0 H' w→R (.returned v) w):GK c [{ target:=.fn (.func g) cap.toArray,args:=#[] }] (λ a w=>(poOf c.P fn R).pn a ch w) T H:=by
 intro a w ha hw
 show LeavesInM Fence.wide 0 c.P fn a.tmps R a.defers (.panicking ch) w
 rw [ha.defers]
 refine zjn he (by simp) (CallsDIn.mono (hc w hw) ?_)
 rintro e u' w' ⟨hr,hs,hx⟩
 exact⟨hr,hs,v,hv { a with defers:=[] } w' ⟨ha.size,ha.val,rfl⟩ hx,h w' hx⟩
end
end Go.K