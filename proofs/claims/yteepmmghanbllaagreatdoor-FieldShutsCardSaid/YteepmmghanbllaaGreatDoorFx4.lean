/- What the proof of the root text leans on, part 4: the layer, plain facts and walks. No statement of the seat is proved in this text. -/
import Derived.Laws.DeepStrings4
import Derived.Lib.AtoiAll
import Derived.Lib.IndexBytes
import Derived.Lib.IndexLaws
import Derived.Lib.ItoaNum
import Derived.Lib.SplitLaws
import Derived.Shelf.Strconv.AtoiAll
import Derived.Shelf.Strconv.Itoa3
import Derived.Shelf.Strings.Cut
import Derived.Shelf.Strings.Split
import Derived.Test.YteepmmghanbllaaGreatDoorProg
import Derived.WideLaws
import Derived.Test.YteepmmghanbllaaGreatDoorFx3
set_option maxRecDepth 100000
set_option maxHeartbeats 32000000
namespace Go.K
open Go Go.RowKit
section
variable {α:Type} {k:Nat} {enc:α→List Value} {P:Program}
theorem zi0 {t ty e:TypeId} {by_:Nat} {zs:List Value} (hf:AF P t e k by_ zs) (he:Enc k enc) {a a2:Option Addr} {cap c2:Nat} {l m:List α} {w:World} (hRo:Has w (Row a k cap e enc l)) (hm:Has w (zaW a2 k enc m)) (hb:(l.length+m.length)*by_≤140737488355328) (hl:l.length+m.length≤maxLen) (hg:cap<l.length+m.length) :
  ∃ a' cap' w',(Builtin.append_ #[t,t] ty #[.slice a l.length cap,.slice a2 m.length c2]).run P w=.ok (.slice a' (l++m).length cap') w'∧Ext w w'∧New w w' (Row a' k cap' e enc (l++m)):=by
 obtain⟨B,_,hR⟩:=hRo
 have hi:=hf.i
 cases hu:P.info? e with
 | none=>rw [hu] at hi;cases hi
 | some i=>
 rw [hu] at hi
 simp only [Option.map_some,sI,Prod.mk.injEq] at hi
 obtain⟨hsz,hby,hz⟩:=hi
 cases hz0:i.zero with
 | none=>rw [hz0] at hz;cases hz
 | some z=>
 have hzl:z.cells.size=i.size:=by
  rw [hz0] at hz
  simp only [Option.map_some,sI] at hz
  rw [hsz,←hf.zl,←hz];simp
 have hcap:=Row.bounds hR
 have hsmall:l.length+m.length≤9223372036854775807:=by simp only [maxLen] at hl;omega
 have hm0:m≠[]:=λ h=>by subst h;simp at hg;omega
 obtain⟨x0,m',hm1⟩:∃ x m',m=x :: m':=by cases m with
  | nil=>exact absurd I hm0
  | cons x m'=>exact⟨x,m',rfl⟩
 obtain⟨b2,off2,ha2,_⟩:=zdG hm (i:=0) (x:=x0) (by rw [hm1];rfl)
 have hmlen:0<m.length:=by rw [hm1];simp
 have hnl:(m.flatMap enc).length=m.length*i.size:=by rw [zcd he,hsz]
 have hnews:∀ j v,(m.flatMap enc)[j]?=some v→w.cell? ((⟨b2,off2,none⟩:Addr).add j)=some v:=by
  intro j v hj
  have hjl:j<m.length*k:=by rw [←zcd he];exact(List.getElem?_eq_some_iff.1 hj).1
  have hq:j / k<m.length:=Nat.div_lt_of_lt_mul (by rwa [Nat.mul_comm])
  obtain⟨b3,off3,ha3,hc3⟩:=zdG hm (i:=j / k) (x:=m[j / k]) (by simp [hq])
  rw [ha2] at ha3
  simp only [sI,Addr.mk.injEq] at ha3
  obtain⟨rfl,rfl,_⟩:=ha3
  have hg:=zeG he m (j / k) m[j / k] (by simp [hq])
  have hmod:j % k<k:=Nat.mod_lt _ he.pos
  have hdm:j / k*k+j % k=j:=by rw [Nat.mul_comm];exact Nat.div_add_mod j k
  have hv:(enc m[j / k])[j % k]?=some v:=by
   rw [←hg,List.getElem?_take,if_pos hmod,List.getElem?_drop,hdm];exact hj
  have:=zdQ _ _ _ _ hc3 hv
  rw [zb2]
  rwa [Nat.add_assoc,hdm] at this
 have hone:∀ u∈m.flatMap enc,u.oneCell' = true:=λ u hu'=>zg0 (List.all_eq_true.1 (zfE he m) u hu')
 subst hsz;subst hby
 rcases hR with ⟨ha,hc0,hl0⟩ | ⟨b,off,cs,ha,hB,hbk,h1,h2,h3⟩
 ·subst ha;subst hc0;subst hl0
  have hr:=run_append_nil (P:=P) w t ty e i z hf.u hu hz0 ⟨b2,off2,none⟩ m.length c2 (m.flatMap enc) hnl hnews hmlen (by simp at hsmall;omega) (by simp at hb;omega)
  subst ha2
  refine⟨some ⟨w.heap.size,0,none⟩,grownCap w m.length 0 e,w.drew.alloc (.cells ((m.flatMap enc).toArray++Builtin.zeroCells z.cells (grownCap w m.length 0 e - m.length)) e),by simpa only [lN,Nat.zero_add,List.nil_append] using hr,⟨rfl,⟨rfl,Nat.le_succ _⟩,rfl,by simp,λ j hj=>heap_alloc_old w.drew _ hj⟩,(· = w.heap.size),λ j hj=>⟨by omega,by subst hj;simp⟩,.inr ⟨w.heap.size,0,m.flatMap enc++(Builtin.zeroCells z.cells (grownCap w m.length 0 e - m.length)).toList,rfl,λ _=>Iff.rfl,?_,?_,?_,?_⟩⟩
  ·refine(World.alloc_heap_new w.drew _).trans ?_
   congr 2
   exact Array.ext' (by simp)
  ·simpa using grownCap_ge w m.length 0 e
  ·have:=grownCap_ge w m.length 0 e
   simp only [lA,hnl,Array.length_toList,size_zeroCells,hzl,Nat.zero_add,←Nat.add_mul]
   exact Nat.mul_le_mul_right _ (by omega)
  ·simp only [List.drop_zero,List.nil_append,←hnl,List.take_left]
 ·subst ha
  have holds:∀ j v,(l.flatMap enc)[j]?=some v→w.cell? ((⟨b,off,none⟩:Addr).add j)=some v:=by
   intro j v hj
   rw [zb2,zgD hbk]
   rw [←h3,List.getElem?_take] at hj
   split at hj
   ·rwa [List.getElem?_drop] at hj
   ·cases hj
  have hlo:(l.flatMap enc).length=l.length*i.size:=zcd he l
  have hr:=run_append_grow (P:=P) w t ty e i z hf.u hu hz0 ⟨b,off,none⟩ l.length cap (l.flatMap enc) hlo holds ⟨b2,off2,none⟩ m.length c2 (m.flatMap enc) hnl hnews hg (by omega) (growslice_fits hg hb)
  subst ha2
  refine⟨some ⟨w.heap.size,0,none⟩,grownCap w (l.length+m.length) cap e,w.drew.alloc (.cells ((l.flatMap enc).toArray++(m.flatMap enc).toArray++Builtin.zeroCells z.cells (grownCap w (l.length+m.length) cap e - (l.length+m.length))) e),by simpa only [lA] using hr,⟨rfl,⟨rfl,Nat.le_succ _⟩,rfl,by simp,λ j hj=>heap_alloc_old w.drew _ hj⟩,(· = w.heap.size),λ j hj=>⟨by omega,by subst hj;simp⟩,.inr ⟨w.heap.size,0,l.flatMap enc++m.flatMap enc++(Builtin.zeroCells z.cells (grownCap w (l.length+m.length) cap e - (l.length+m.length))).toList,rfl,λ _=>Iff.rfl,?_,?_,?_,?_⟩⟩
  ·refine(World.alloc_heap_new w.drew _).trans ?_
   congr 2
   exact Array.ext' (by simp)
  ·simpa using grownCap_ge w (l.length+m.length) cap e
  ·have:=grownCap_ge w (l.length+m.length) cap e
   simp only [lA,hnl,hlo,Array.length_toList,size_zeroCells,hzl,Nat.zero_add,←Nat.add_mul]
   exact Nat.mul_le_mul_right _ (by omega)
  ·simp only [List.drop_zero,List.flatMap_append,lA,Nat.add_mul]
   rw [←hlo,←hnl,←lA,List.take_left]
variable {c:Cx} {ds:List Deferred} {H:List Res} {T:List (Nat×Value)} {d:Option Nat} {ty:TypeId} {ps:String} {af:Array Edge} {g:Option (Nat×Bool)} {x y:Operand}
theorem ziA {t ty e:TypeId} {by_:Nat} {zs:List Value} (hf:AF P t e k by_ zs) {a a2:Option Addr} {n cap c2:Nat} {w:World} (hcap:n≤cap) :
  (Builtin.append_ #[t,t] ty #[.slice a n cap,.slice a2 0 c2]).run P w=.ok (.slice a n cap) w:=by
 have hi:=hf.i
 cases hu:P.info? e with
 | none=>rw [hu] at hi;cases hi
 | some i=>
 have hfc:(Builtin.firstCells i.size 0 (.slice a2 0 c2)).run P w=.ok #[] w:=by
  cases a2 with
  | none=>exact run_firstCells_none w _ _ _ _
  | some b2=>exact run_firstCells_some w i.size 0 b2 _ _ [] (by simp) (by simp)
 cases a with
 | none=>simp [Builtin.append_,run_underlying hf.u,sizeOf,typeInfo,hu,Builtin.lenOf,hcap,hfc]
 | some b1=>simp [Builtin.append_,run_underlying hf.u,sizeOf,typeInfo,hu,Builtin.lenOf,hcap,hfc,storeCells]
theorem zlO {t e:TypeId} {by_:Nat} {zs:List Value} {a a2:Option Addr} {cap c2:Nat} {l m:List α} (hf:AF c.P t e k by_ zs) (he:Enc k enc)
  (hx:evo T x=some (.slice a l.length cap)) (hy:evo T y=some (.slice a2 m.length c2)) (hl:∀ w,Hp c.U c.w0 H w→Has w (Row a k cap e enc l)) (hm:∀ w,Hp c.U c.w0 H w→Has w (zaW a2 k enc m))
  (hb:(l.length+m.length)*by_≤140737488355328) (hlm:l.length+m.length≤maxLen) (hg:cap<l.length+m.length) :
  YX c ds H T ⟨d,.call ⟨.builtin .append,#[x,y],#[t,t]⟩,ty,ps,af,g⟩ (λ z:Option Addr×Nat=>.slice z.1 (l++m).length z.2) (λ z=>Row z.1 k z.2 e enc (l++m)):=by
 refine⟨λ A w hs hw=>?_⟩
 obtain⟨a',cap',w',hr,hx',hn⟩:=zi0 (P:=c.P) (ty:=ty) hf he (c2:=c2) (hl w hw) (hm w hw) hb hlm hg
 unfold Yld
 rw [zcp («as»:=[x,y]) (vs:=[.slice a l.length cap,.slice a2 m.length c2]) (by simp [evs,hx,hy]) hs w]
 simp only [builtin]
 rw [zbu hr]
 exact⟨(a',cap'),rfl,hx',hn⟩
end
end Go.K
namespace Go.K
open Go Go.RowKit Go.Shelf Go.Proofs
theorem ziY (w:World) (e:TypeId) (s:ByteArray):Ext w (Lib.bytesWorld w e s):=by
 have h1:Ext w (w.drew.alloc (.cells (Lib.bytesCells w e s) e)):=⟨rfl,⟨rfl,Nat.le_succ _⟩,rfl,by simp,λ j hj=>heap_alloc_old w.drew _ hj⟩
 have hw:Lib.bytesWorld w e s={ (w.drew.alloc (.cells (Lib.bytesCells w e s) e)) with heap:=(Lib.bytesWorld w e s).heap }:=by
  unfold Lib.bytesWorld World.freeze
  rfl
 rw [hw]
 refine⟨rfl,⟨rfl,Nat.le_succ _⟩,rfl,?_,λ k hk=>?_⟩
 ·show w.heap.size≤(Lib.bytesWorld w e s).heap.size
  unfold Lib.bytesWorld World.freeze
  simp
 ·show(Lib.bytesWorld w e s).heap[k]?=_
  unfold Lib.bytesWorld World.freeze
  refine Array.getElem?_modify.trans ?_
  rw [if_neg (by show ¬ w.heap.size=k;omega)]
  exact h1.block k hk
end Go.K
namespace Go.Txt
open Go
def cutL (b:UInt8):List UInt8→List (List UInt8)
 | []=>[[]]
 | x :: r=>if x=b then [] :: cutL b r else match cutL b r with
  | []=>[[x]]
  | h :: t=>(x :: h) :: t
theorem zeD {b:UInt8}:∀ {p:List UInt8},(∀ x∈p,x≠b)→cutL b p=[p]
 | [],_=>rfl
 | x :: r,h=>by
  rw [cutL,if_neg (h x (by simp)),zeD (p:=r) (λ y hy=>h y (by simp [hy]))]
theorem zhx {b:UInt8} {r:List UInt8}:∀ {p:List UInt8},(∀ x∈p,x≠b)→cutL b (p++b :: r)=p :: cutL b r
 | [],_=>by rw [List.nil_append,cutL,if_pos I]
 | x :: q,h=>by
  rw [List.cons_append,cutL,if_neg (h x (by simp)),zhx (p:=q) (λ y hy=>h y (by simp [hy]))]
theorem zm4 (b:UInt8) (l:List UInt8):0<(cutL b l).length:=by
 induction l with
 | nil=>simp [cutL]
 | cons x r ih=>
  rw [cutL]
  split
  ·simp
  ·split <;> simp
theorem zm5 (l:List UInt8) (b:UInt8):(∃ p r,l=p++b :: r∧(∀ x∈p,x≠b)∧Lib.cut l [b]=(p,r,true))∨((∀ x∈l,x≠b)∧Lib.cut l [b]=(l,[],false)):=by
 have hge:=Lib.indexByte_ge l b
 by_cases h:Lib.indexByte l b = -1
 ·right
  refine⟨λ x hx e=>?_,?_⟩
  ·obtain⟨k,hk,rfl⟩:=List.getElem_of_mem hx
   exact Lib.indexByte_none h k (by rw [eG hk,e])
  ·unfold Lib.cut
   rw [Lib.index_one,if_neg (by omega)]
 ·left
  obtain⟨o,ho⟩:∃ o:Nat,Lib.indexByte l b=o:=⟨(Lib.indexByte l b).toNat,by omega⟩
  obtain⟨h1,h2⟩:=Lib.indexByte_some ho
  have hlt:o<l.length:=(List.getElem?_eq_some_iff.1 h1).1
  refine⟨l.take o,l.drop (o+1),?_,λ x hx e=>?_,?_⟩
  ·have:l.drop o=b :: l.drop (o+1):=by
    rw [List.drop_eq_getElem_cons hlt]
    congr 1
    exact(List.getElem?_eq_some_iff.1 h1).2
   rw [←this,List.take_append_drop]
  ·obtain⟨k,hk,rfl⟩:=List.mem_take_iff_getElem.1 hx
   exact h2 k (by omega) (by rw [eG (by omega),e])
  ·unfold Lib.cut
   rw [Lib.index_one,ho,if_pos (by omega)]
   simp
theorem split_spec (c:UInt8):∀ (k:Nat) (l:List UInt8),l.count c=k→Lib.splitK [c] 0 k l=cutL c l
 | 0,l,h=>by
  rw [Lib.splitK,zeD]
  intro x hx e
  subst e
  exact absurd (List.count_pos_iff.2 hx) (by omega)
 | k+1,l,h=>by
  rw [Lib.splitK,Lib.index_one]
  have hge:=Lib.indexByte_ge l c
  have hm:¬ Lib.indexByte l c = -1:=λ e=>by
   have h0:c∈l:=List.count_pos_iff.1 (by omega)
   obtain⟨j,hj,e2⟩:=List.getElem_of_mem h0
   exact Lib.indexByte_none e j (by rw [eG hj,e2])
  rw [if_neg (λ e=>hm (beq_iff_eq.1 e))]
  obtain⟨o,ho⟩:∃ o:Nat,Lib.indexByte l c=o:=⟨(Lib.indexByte l c).toNat,by omega⟩
  obtain⟨h1,h2⟩:=Lib.indexByte_some ho
  have hlt:o<l.length:=(List.getElem?_eq_some_iff.1 h1).1
  have hl:l=l.take o++c :: l.drop (o+1):=by
   have:l.drop o=c :: l.drop (o+1):=by
    rw [List.drop_eq_getElem_cons hlt]
    congr 1
    exact(List.getElem?_eq_some_iff.1 h1).2
   rw [←this,List.take_append_drop]
  have hp:∀ x∈l.take o,x≠c:=λ x hx e=>by
   obtain⟨k,hk,rfl⟩:=List.mem_take_iff_getElem.1 hx
   exact h2 k (by omega) (by rw [eG (by omega),e])
  have hc:(l.drop (o+1)).count c=k:=by
   have h3:=congrArg (List.count c) hl
   rw [h,List.count_append,List.count_cons_self,List.count_eq_zero_of_not_mem (λ hx=>hp c hx I)] at h3
   omega
  have ih:=split_spec c k (l.drop (o+1)) hc
  rw [ho,Int.toNat_natCast,Nat.add_zero,show o+[c].length=o+1 from rfl,ih]
  conv=>rhs;rw [hl]
  rw [zhx hp]
def ziZ (c:UInt8):Prop:=48≤c.toNat∧c.toNat≤57
instance (c:UInt8):Decidable (ziZ c):=inferInstanceAs (Decidable (_∧_))
def zfQ (acc:Nat) (l:List UInt8):Nat:=l.foldl (λ a c=>a*10+(c.toNat - 48)) acc
theorem zhX (a:Nat) (c:UInt8) (r:List UInt8):zfQ a (c :: r)=zfQ (a*10+(c.toNat - 48)) r:=by unfold zfQ;rw [List.foldl_cons]
theorem zjp:∀ (l:List UInt8) (acc:Nat),(∀ c∈l,ziZ c)→(acc+1)*10 ^ l.length≤10 ^ 18→Lib.parseUint10 acc l=.ok (zfQ acc l)
 | [],_,_,_=>rfl
 | c :: r,acc,hd,hb=>by
  have hc:=hd c (by simp)
  unfold ziZ at hc
  rw [lC,Nat.pow_succ,Nat.mul_comm (10 ^ r.length) 10,←Nat.mul_assoc] at hb
  have hp:1≤10 ^ r.length:=Nat.pos_of_ne_zero (by simp)
  have h1:(acc+1)*10≤10 ^ 18:=Nat.le_trans (Nat.le_mul_of_pos_right _ hp) hb
  have h18:(10:Nat) ^ 18=1000000000000000000:=rfl
  rw [Lib.parseUint10,if_pos hc,if_neg (by omega),if_neg (by omega),zhX]
  refine zjp r _ (λ x hx=>hd x (by simp [hx])) (Nat.le_trans (Nat.mul_le_mul_right _ ?_) hb)
  omega
end Go.Txt
namespace Go.K
open Go Go.RowKit Go.Shelf Go.Proofs
abbrev encS (s:ByteArray):List Value:=[.string s]
theorem ztJ:Enc 1 encS:=⟨λ _=>rfl,λ _=>rfl,by decide⟩
def IntV (b:Nat):Res where
 A B w:=(∀ k,B k↔k=b)∧∃ m,w.cell? ⟨b,0,none⟩=some (O m)
 loc _ w w' h hA:=⟨hA.1,let ⟨m,hm⟩:=hA.2;⟨m,by
  have:=h b ((hA.1 b).2 I)
  simp only [World.cell?] at hm ⊢
  rw [this];exact hm⟩⟩
theorem zpo (w:World) (n:Nat):Ext w (w.drewN n):=⟨rfl,⟨rfl,Nat.le_add_right _ _⟩,rfl,Nat.le_refl _,λ _ _=>rfl⟩
section
variable {P:Program} {ρ:Ren}
abbrev mkB (l:List UInt8):ByteArray:=⟨l.toArray⟩
def cutV (s sep:ByteArray):Value:=.tuple #[.string (mkB (Lib.cut s.data.toList sep.data.toList).1),.string (mkB (Lib.cut s.data.toList sep.data.toList).2.1),.bool (Lib.cut s.data.toList sep.data.toList).2.2]
theorem zrk (L:Lays.n145 P ρ) (s sep:ByteArray) (w:World) (hs:s.size<4294967281) (hm:Has w (IntV (ρ.g 1))):Calls P (ρ.f 145) #[.string s,.string sep] w (Pure (cutV s sep) w):=by
 obtain⟨_,_,_,m,hm⟩:=hm
 refine(Any.strings_Cut L s sep m w hs hm).mono ?_
 rintro e w' ⟨rfl,n,rfl⟩
 exact⟨rfl,zpo w n⟩
def zcn (s:ByteArray) (c:UInt8):List ByteArray:=Lib.splitB ⟨#[c]⟩ 0 (Lib.countB s ⟨#[c]⟩) s
theorem ziG (s:ByteArray) (c:UInt8):(zcn s c).map (·.data.toList)=Txt.cutL c s.data.toList:=by
 unfold zcn
 rw [Lib.splitB_data]
 exact Txt.split_spec c _ _ (by rw [←Lib.count_one])
theorem zmD (L:Lays.n146 P ρ) (hi9:(P.info? (ρ.t 9)).map (λ i=>(i.zero,i.size,i.bytes))=some (some (.string ByteArray.empty),1,16)) (s:ByteArray) (c:UInt8) (w:World) (hs:s.size<4294967281) (hm:Has w (IntV (ρ.g 1))) :
  Calls P (ρ.f 146) #[.string s,.string ⟨#[c]⟩] w (zcU (λ b:Nat=>.slice (some ⟨b,0,none⟩) (zcn s c).length (zcn s c).length) (λ b=>Row (some ⟨b,0,none⟩) 1 (zcn s c).length (ρ.t 9) encS (zcn s c)) w):=by
 obtain⟨_,_,_,m,hm⟩:=hm
 have hlen:(zcn s c).length=Lib.countB s ⟨#[c]⟩+1:=Lib.splitB_all _ (show 1≤(⟨#[c]⟩:ByteArray).size from Nat.le_refl 1) 0 _ s I
 refine(Any.strings_Split L hi9 s ⟨#[c]⟩ m w hs hm (show 1≤(⟨#[c]⟩:ByteArray).size from Nat.le_refl 1)).mono ?_
 rintro e w' ⟨rfl,rfl⟩
 refine⟨w.heap.size,by rw [hlen],zcG _,(· = w.heap.size),λ k hk=>by subst hk;simp,.inr ⟨w.heap.size,0,(zcn s c).map Value.string,rfl,λ _=>Iff.rfl,World.alloc_heap_new w _,Nat.le_refl _,by simp,?_⟩⟩
 rw [List.drop_zero,Nat.mul_one,←lM (f:=Value.string),List.take_length]
 induction zcn s c with
 | nil=>rfl
 | cons x r ih=>rw [List.map_cons,List.flatMap_cons,ih];rfl
def zv3:Value→Bool
 | .nilIface=>true
 | _=>false
def zdO (s:ByteArray):Int:=match Lib.atoiAll s.data.toList with
 | .ok v=>v
 | .range=>Lib.atoiSat s.data.toList
 | _=>0
end
section
variable {c:Cx} {ds:List Deferred} {T:List (Nat×Value)} {H:List Res} {d:Option Nat} {ty:TypeId} {ps:String} {af:Array Edge} {g:Option (Nat×Bool)} {x y z:Operand}
theorem zjA {t t':TypeId} {v:Value} (ht:c.P.underlying t=some (.interface (c.P.methodsAt t))) (hx:evo T x=some v) (hv:v=.nilIface∨∃ u z,v=.iface u z) :
  Y c ds H T ⟨d,.binOp .eql t x (.const .nilIface) t',ty,ps,af,g⟩ (.bool (zv3 v)):=
 zcz λ a w ha _=>by
  have hxe:=ha.eval hx
  have hye:a.eval (.const .nilIface)=.nilIface:=rfl
  simp only [execOp,hxe,hye]
  rcases hv with rfl | ⟨u,z,rfl⟩
  ·have hg:(eqGuard .eql t x (.const .nilIface) .nilIface .nilIface).run c.P w=.ok () w:=by rw [eqGuard_nil_constR];rfl
   refine zbu ?_
   rw [zal hg]
   exact run_eql_nil_nil w t ht
  ·have hg:(eqGuard .eql t x (.const .nilIface) (.iface u z) .nilIface).run c.P w=.ok () w:=rfl
   refine zbu ?_
   rw [zal hg]
   exact run_eql_held_nil w t u z ht
end
end Go.K
namespace Go.K
open Go Go.RowKit
abbrev zhZ (p:Nat×Nat):List Value:=[.pointer (some ⟨p.1,p.2,none⟩)]
theorem zbj:Enc 1 zhZ:=⟨λ _=>rfl,λ _=>rfl,by decide⟩
theorem zl2 {α:Type} {k cap:Nat} {enc:α→List Value} {a:Option Addr} {l:List α} {B:Nat→Prop} {w:World} {n:Nat} (h:(zaW a k enc l).A B w) (hc:l.length≤cap) (h1:n≤l.length):(zaW (subA a k n cap) k enc (l.drop n)).A B w:=by
 by_cases hd:l.drop n=[]
 ·exact .inl hd
 ·rcases h with rfl | ⟨b,off,rfl,hB,hx⟩
  ·simp at hd
  ·refine .inr ⟨b,off+n*k,?_,hB,λ i x hi=>?_⟩
   ·unfold subA
    rw [if_neg (λ e=>hd (by rw [List.drop_eq_nil_iff];omega))]
    simp [zb2]
   ·rw [List.getElem?_drop] at hi
    have:=hx (n+i) x hi
    rwa [show off+n*k+i*k=off+(n+i)*k by rw [Nat.add_mul];omega]
def Rdr (tb:TypeId) (r:Nat) (ws:List ByteArray):Res where
 A B w:=∃ a1 c1,ws.length≤c1∧(SepR [Box r [.slice a1 ws.length c1] tb,zaW a1 1 encS ws]).A B w
 loc B w w' h hA:=let ⟨a1,c1,h1,h2⟩:=hA;⟨a1,c1,h1,(SepR [Box r [.slice a1 ws.length c1] tb,zaW a1 1 encS ws]).loc B w w' h h2⟩
section
variable {c:Cx} {ds:List Deferred} {T:List (Nat×Value)} {H:List Res} {K:Act→World→Prop} {tb:TypeId} {r:Nat} {ws:List ByteArray}
theorem zgV (h:∀ a1 c1,ws.length≤c1→GK c ds K T (Box r [.slice a1 ws.length c1] tb :: zaW a1 1 encS ws :: H)):GK c ds K T (Rdr tb r ws :: H):=by
 intro a w ha hw
 obtain⟨hb,B,hB,⟨a1,c1,h1,h2⟩,hr⟩:=hw
 exact h a1 c1 h1 a w ha (Hp.split (L:=[_,_]) ⟨hb,B,hB,h2,hr⟩)
theorem zeH {a1:Option Addr} {c1:Nat} (h1:ws.length≤c1) (h:GK c ds K T (Rdr tb r ws :: H)):GK c ds K T (Box r [.slice a1 ws.length c1] tb :: zaW a1 1 encS ws :: H):=by
 intro a w ha hw
 obtain⟨hb,B,hB,h2,hr⟩:=Hp.pack (L:=[_,_]) (H:=H) hw
 exact h a w ha ⟨hb,B,hB,⟨a1,c1,h1,h2⟩,hr⟩
theorem zoh {a1:Option Addr} {c1:Nat} (h1:ws.length≤c1) (h0:1≤ws.length) (h:GK c ds K T (Rdr tb r (ws.drop 1) :: H)):GK c ds K T (Box r [.slice (subA a1 1 1 c1) (ws.drop 1).length (c1 - 1)] tb :: zaW a1 1 encS ws :: H):=by
 intro a w ha hw
 refine zeH (a1:=subA a1 1 1 c1) (c1:=c1 - 1) (by rw [List.length_drop];omega) h a w ha ?_
 have h2:=hw.swap
 obtain⟨hb,B,hB,hA,hr⟩:=h2
 exact Hp.swap ⟨hb,B,hB,zl2 hA h1 h0,hr⟩
end
theorem zak {α β:Type} (a:α) (f:α→Except Int β):(Except.ok a >>= f)=f a:=rfl
theorem zcc {α β:Type} (k:Int) (f:α→Except Int β):((Except.error k:Except Int α) >>= f)=.error k:=rfl
end Go.K
namespace Go.Pln
open Go Go.K Go.RowKit Go.Stn
def zdp:List ByteArray→Except Int (ByteArray×List ByteArray)
 | []=>.error 4
 | x :: r=>.ok (x,r)
def sayE (u:ByteArray) (ws:List ByteArray):Except Int (Unit×List ByteArray):=do
 let x ←zdp ws
 if (x.1.toList == u.toList)=true then .ok ((),x.2) else .error 4
def zes (ws:List ByteArray):Except Int (ByteArray×List ByteArray):=do
 let x ←zdp ws
 if zgx x.1=true then .ok (x.1,x.2) else .error 4
def endE (ws:List ByteArray):Except Int (Unit×List ByteArray):=if ws.length=0 then .ok ((),ws) else .error 4
def numE (ws:List ByteArray):Except Int (Int×List ByteArray):=do
 let x ←zdp ws
 if numW x.1=true then .ok (zdO x.1,x.2) else .error 4
def zco:Nat→List ByteArray→Except Int (List Int×List ByteArray)
 | 0,ws=>.ok ([],ws)
 | n+1,ws=>do
  let x ←numE ws
  let y ←zco n x.2
  .ok (x.1 :: y.1,y.2)
def zlz:List Value→List Nat→List Int→List Value
 | cs,[],_=>cs
 | cs,o :: os,l=>zlz (cs.set o (.int .i64 (l.getD 0 0))) os (l.drop 1)
def zfk (l:List ByteArray) (f:Nat) (ws:List ByteArray):Except Int (Int×List ByteArray):=do
 let x ←zdp ws
 if zbJ (λ y=>x.1.toList == y.toList) (l.drop f)<0 then .error 4 else .ok (zbJ (λ y=>x.1.toList == y.toList) (l.drop f)+f,x.2)
def oneE (u:ByteArray) (n:Nat) (ws:List ByteArray):Except Int (List Int×List ByteArray):=do
 let x ←sayE u ws
 zco n x.2
def wLeast:ByteArray:=⟨#[108,101,97,115,116]⟩
def zbF (acc:List Int):List ByteArray→Except Int (List Int×List ByteArray)
 | []=>.ok (acc,[])
 | x :: r=>if (x.toList == wLeast.toList)=true then .ok (acc,x :: r) else if numW x=true then zbF (acc++[zdO x]) r else .error 4
def zeZ:List ByteArray:=[⟨#[110,111,110,101]⟩,⟨#[102,108,97,116]⟩,⟨#[117,112,114,105,103,104,116]⟩,⟨#[98,117,99,107]⟩]
def opensW:List ByteArray:=[⟨#[]⟩,⟨#[115,109,111,111,116]⟩,⟨#[108,117,110,107,121]⟩,⟨#[115,116,105,108,101]⟩,⟨#[103,97,116,101]⟩]
def zci (ws:List ByteArray):Except Int (Sht×List ByteArray):=do
 let x0 ←zes ws
 let x1 ←oneE ⟨#[98,97,115,101]⟩ 1 x0.2
 let x2 ←oneE ⟨#[98,97,116,116,101,114]⟩ 1 x1.2
 let x3 ←oneE ⟨#[104,101,105,103,104,116]⟩ 1 x2.2
 let x4 ←oneE ⟨#[115,107,105,110]⟩ 1 x3.2
 let x5 ←sayE ⟨#[104,101,105,103,104,116,115]⟩ x4.2
 let x6 ←zbF [] x5.2
 let x7 ←oneE ⟨#[108,101,97,115,116]⟩ 1 x6.2
 let x8 ←oneE ⟨#[108,97,112]⟩ 1 x7.2
 let x9 ←oneE ⟨#[114,117,110]⟩ 1 x8.2
 let x10 ←oneE ⟨#[116,104,114,111,117,103,104]⟩ 2 x9.2
 let x11 ←oneE ⟨#[102,111,111,116,105,110,103]⟩ 2 x10.2
 let x12 ←sayE ⟨#[99,111,112,101]⟩ x11.2
 let x13 ←zfk zeZ 0 x12.2
 let x14 ←zco 3 x13.2
 let x15 ←oneE ⟨#[102,114,105,99,116,105,111,110]⟩ 2 x14.2
 let x16 ←oneE ⟨#[114,111,111,100]⟩ 1 x15.2
 if x6.1.length=0 then .error 4 else
 .ok (⟨x0.1,x1.1.getD 0 0,x2.1.getD 0 0,x3.1.getD 0 0,x4.1.getD 0 0,x6.1,x7.1.getD 0 0,x8.1.getD 0 0,x9.1.getD 0 0,x10.1.getD 0 0,(x10.1.drop 1).getD 0 0,x11.1.getD 0 0,(x11.1.drop 1).getD 0 0,x13.1,
  x14.1.getD 0 0,(x14.1.drop 1).getD 0 0,((x14.1.drop 1).drop 1).getD 0 0,x15.1.getD 0 0,(x15.1.drop 1).getD 0 0,x16.1.getD 0 0⟩,x16.2)
structure Plan where
 S:List Sht
 V:List Wll
def zew (S:List Sht) (n:ByteArray):Int:=zbJ (λ z=>z.name.toList == n.toList) S
def zss (V:List Wll) (n:ByteArray):Int:=zbJ (λ z=>z.name.toList == n.toList) V
def getS (S:List Sht) (n:ByteArray):Sht:=if 0≤zew S n then S.getD (zew S n).toNat default else default
theorem zkU {α β:Type} (f:α→β) (p:β→Bool) (l:List α):zbJ p (l.map f)=zbJ (λ x=>p (f x)) l:=by
 unfold zbJ
 rw [List.any_map,List.findIdx_map];rfl
theorem zeL (S:List ShC) (n:ByteArray):zaS S n=zew (S.map (·.s)) n:=(zkU (λ z:ShC=>z.s) (λ z=>z.name.toList == n.toList) S).symm
theorem zkx (V:List WlC) (n:ByteArray):zaM V n=zss (V.map (·.s)) n:=(zkU (λ z:WlC=>z.s) (λ z=>z.name.toList == n.toList) V).symm
theorem zeq {α β:Type} [Inhabited α] [Inhabited β] (f:α→β) (hf:f default=default) (l:List α) (i:Nat):(l.map f).getD i default=f (l.getD i default):=by
 rw [gE,gE,List.getElem?_map]
 cases l[i]? <;> simp [hf]
theorem zf2 (S:List ShC) (n:ByteArray):(zav S n).s=getS (S.map (·.s)) n:=by
 unfold zav getS
 rw [←zeL]
 split
 ·rw [zeq (λ z:ShC=>z.s) I]
 ·rfl
def zb3 (q:Plan) (ws:List ByteArray):Except Int Plan:=do
 let a ←zci ws
 let _ ←endE a.2
 if 0≤zew q.S a.1.name then .error 7 else if za4 a.1=true then(if q.S.length=20 then .error 5 else .ok ⟨q.S++[a.1],q.V⟩) else .error 2
def zb1 (q:Plan) (ws:List ByteArray):Except Int Plan:=do
 let a ←zes ws
 let b ←zes a.2
 let c ←zco 1 b.2
 let _ ←endE c.2
 if 0≤zss q.V a.1 then .error 7 else if 0≤zew q.S b.1 then
  (if zd1 (getS q.S b.1).height ⟨a.1,b.1,c.1.getD 0 0,[]⟩=true then(if q.V.length=50 then .error 5 else .ok ⟨q.S,q.V++[⟨a.1,b.1,c.1.getD 0 0,[]⟩]⟩) else .error 2) else .error 6
def more (v:Wll) (o:Opn):Wll:=⟨v.name,v.sheet,v.length,v.opens++[o]⟩
def zch (q:Plan) (ws:List ByteArray):Except Int Plan:=do
 let a ←zfk opensW 1 ws
 let b ←zco 4 a.2
 let _ ←endE b.2
 if q.V.length=0 then .error 4 else
  let o:Opn:=⟨a.1,b.1.getD 0 0,(b.1.drop 1).getD 0 0,((b.1.drop 1).drop 1).getD 0 0,(((b.1.drop 1).drop 1).drop 1).getD 0 0⟩
  let v:=q.V.getD (q.V.length - 1) default
  if zd1 (getS q.S v.sheet).height (more v o)=true then .ok ⟨q.S,q.V.set (q.V.length - 1) (more v o)⟩ else .error 2
def zff (q:Plan) (u:ByteArray) (ws:List ByteArray):Except Int Plan:=
 if (u == ⟨#[115,104,101,101,116]⟩)=true then zb3 q ws
 else if (u == ⟨#[119,97,108,108]⟩)=true then zb1 q ws
 else if (u == ⟨#[111,112,101,110]⟩)=true then zch q ws
 else .error 4
def zcu (q:Plan) (t:ByteArray):Except Int Plan:=do
 let x ←zdp (zcn t 32)
 zff q x.1 x.2
def zkJ {α:Type}:Except Int α→Int
 | .ok _=>0
 | .error k=>k
structure OkQ (q:Plan):Prop where
 sh:∀ s∈q.S,za4 s=true
 ls:q.S.length≤20
 lv:q.V.length≤50
 wv:∀ v∈q.V,v.opens.length≤20∧∀ o∈v.opens,Knd o
theorem znp {l:List ByteArray} {f:Nat} {ws:List ByteArray} {x:Int×List ByteArray} (h:zfk l f ws=.ok x):(f:Int)≤x.1∧x.1<(l.length:Int):=by
 unfold zfk at h
 cases hx:zdp ws with
 | error k=>rw [hx,zcc] at h;cases h
 | ok y=>
  rw [hx,zak] at h
  split at h
  ·cases h
  ·rename_i h0
   cases h
   have:=findI_lt (λ z=>y.1.toList == z.toList) (l.drop f)
   rw [List.length_drop] at this
   dsimp only
   omega
theorem zmK {top:Int} {v:Wll} (h:zd1 top v=true):v.opens.length≤20:=(zgM (zqW h)).2
theorem zqj {q q':Plan} {ws:List ByteArray} (h:OkQ q) (he:zb3 q ws=.ok q'):OkQ q':=by
 unfold zb3 at he
 cases h1:zci ws with
 | error k=>rw [h1,zcc] at he;cases he
 | ok a=>
  rw [h1,zak] at he
  cases h2:endE a.2 with
  | error k=>rw [h2,zcc] at he;cases he
  | ok b=>
   rw [h2,zak] at he
   split at he
   ·cases he
   ·split at he
    ·rename_i hs
     split at he
     ·cases he
     ·rename_i hl
      cases he
      exact⟨λ s hs'=>by
       rcases List.mem_append.1 hs' with h'|h'
       ·exact h.sh s h'
       ·rw [List.mem_singleton] at h';rw [h'];exact hs,by have:=h.ls;simp only [lA,lC,lN];omega,h.lv,h.wv⟩
    ·cases he
theorem zrU {q q':Plan} {ws:List ByteArray} (h:OkQ q) (he:zb1 q ws=.ok q'):OkQ q':=by
 unfold zb1 at he
 cases h1:zes ws with
 | error k=>rw [h1,zcc] at he;cases he
 | ok a=>
  rw [h1,zak] at he
  cases h2:zes a.2 with
  | error k=>rw [h2,zcc] at he;cases he
  | ok b=>
   rw [h2,zak] at he
   cases h3:zco 1 b.2 with
   | error k=>rw [h3,zcc] at he;cases he
   | ok c=>
    rw [h3,zak] at he
    cases h4:endE c.2 with
    | error k=>rw [h4,zcc] at he;cases he
    | ok d=>
     rw [h4,zak] at he
     split at he
     ·cases he
     ·split at he
      ·split at he
       ·split at he
        ·cases he
        ·rename_i hl
         cases he
         exact⟨h.sh,h.ls,by have:=h.lv;simp only [lA,lC,lN];omega,λ v hv=>by
          rcases List.mem_append.1 hv with h'|h'
          ·exact h.wv v h'
          ·rw [List.mem_singleton] at h';rw [h'];exact⟨by simp,λ o ho=>by cases ho⟩⟩
       ·cases he
      ·cases he
theorem zrT {q q':Plan} {ws:List ByteArray} (h:OkQ q) (he:zch q ws=.ok q'):OkQ q':=by
 unfold zch at he
 cases h1:zfk opensW 1 ws with
 | error k=>rw [h1,zcc] at he;cases he
 | ok a=>
  have hk:=znp h1
  rw [h1,zak] at he
  cases h2:zco 4 a.2 with
  | error k=>rw [h2,zcc] at he;cases he
  | ok b=>
   rw [h2,zak] at he
   cases h3:endE b.2 with
   | error k=>rw [h3,zcc] at he;cases he
   | ok d=>
    rw [h3,zak] at he
    split at he
    ·cases he
    ·rename_i h0
     dsimp only at he
     split at he
     ·rename_i hw
      cases he
      refine⟨h.sh,h.ls,by rw [List.length_set];exact h.lv,λ v hv=>?_⟩
      rcases List.mem_or_eq_of_mem_set hv with h'|h'
      ·exact h.wv v h'
      ·rw [h']
       refine⟨zmK hw,λ o ho=>?_⟩
       rcases List.mem_append.1 ho with h''|h''
       ·exact(h.wv _ (za0 (by omega))).2 o h''
       ·rw [List.mem_singleton] at h''
        rw [h'']
        have:(opensW.length:Int)=5:=rfl
        exact⟨by dsimp only;omega,by dsimp only;omega⟩
     ·cases he
theorem zrS {q q':Plan} {t:ByteArray} (h:OkQ q) (he:zcu q t=.ok q'):OkQ q':=by
 unfold zcu at he
 cases h1:zdp (zcn t 32) with
 | error k=>rw [h1,zcc] at he;cases he
 | ok x=>
  rw [h1,zak] at he
  unfold zff at he
  split at he
  ·exact zqj h he
  ·split at he
   ·exact zrU h he
   ·split at he
    ·exact zrT h he
    ·cases he
theorem zuj {ws:List ByteArray} (h:¬ ws.length=0):zdp ws=.ok (ws.getD 0 default,ws.drop 1):=by
 cases ws with
 | nil=>exact absurd I h
 | cons x r=>rfl
theorem zrL {ws:List ByteArray} (h:ws.length=0):zdp ws=.error 4:=by
 cases ws with
 | nil=>rfl
 | cons x r=>simp at h
theorem zlk (ws:List ByteArray):zco 1 ws=(numE ws >>= λ x=>.ok ([x.1],x.2)):=by
 unfold zco
 cases numE ws <;> rfl
theorem zrP {s:ByteArray} (h:numW s=true):s.size≤6:=by
 unfold numW at h
 simp only [aT,dT] at h
 omega
theorem znx {ws:List ByteArray} {x:Int×List ByteArray} (h:numE ws=.ok x):x.2.length<ws.length:=by
 cases ws with
 | nil=>cases h
 | cons y r=>
  unfold numE at h
  rw [show zdp (y :: r)=.ok (y,r) from rfl,zak] at h
  split at h
  ·cases h;simp
  ·cases h
theorem zlj {ws:List ByteArray} {x:List Int×List ByteArray} (h:zco 1 ws=.ok x):x.2.length<ws.length:=by
 rw [zlk] at h
 cases h1:numE ws with
 | error k=>rw [h1] at h;cases h
 | ok y=>rw [h1,zak] at h;cases h;exact znx h1
theorem zka {ws:List ByteArray} {x:ByteArray×List ByteArray} (h:zdp ws=.ok x):x.2.length<ws.length:=by
 cases ws with
 | nil=>cases h
 | cons y r=>cases h;simp
theorem zmz {u:ByteArray} {ws:List ByteArray} {x:Unit×List ByteArray} (h:sayE u ws=.ok x):x.2.length<ws.length:=by
 unfold sayE at h
 cases h1:zdp ws with
 | error k=>rw [h1,zcc] at h;cases h
 | ok y=>
  rw [h1,zak] at h
  split at h
  ·cases h;exact zka h1
  ·cases h
theorem znu {ws:List ByteArray} {x:ByteArray×List ByteArray} (h:zes ws=.ok x):x.2.length<ws.length:=by
 unfold zes at h
 cases h1:zdp ws with
 | error k=>rw [h1,zcc] at h;cases h
 | ok y=>
  rw [h1,zak] at h
  split at h
  ·cases h;exact zka h1
  ·cases h
theorem znA:∀ (n:Nat) {ws:List ByteArray} {x:List Int×List ByteArray},zco n ws=.ok x→x.2.length≤ws.length
 | 0,ws,x,h=>by cases h;exact Nat.le_refl _
 | n+1,ws,x,h=>by
  rw [zco] at h
  cases h1:numE ws with
  | error k=>rw [h1,zcc] at h;cases h
  | ok y=>
   rw [h1,zak] at h
   cases h2:zco n y.2 with
   | error k=>rw [h2,zcc] at h;cases h
   | ok z=>
    rw [h2,zak] at h;cases h
    have:=znA n h2
    have:=znx h1
    dsimp only;omega
theorem zfo {u:ByteArray} {n:Nat} {ws:List ByteArray} {x:List Int×List ByteArray} (h:oneE u n ws=.ok x):x.2.length<ws.length:=by
 unfold oneE at h
 cases h1:sayE u ws with
 | error k=>rw [h1,zcc] at h;cases h
 | ok y=>
  rw [h1,zak] at h
  have:=znA n h
  have:=zmz h1
  omega
end Go.Pln
namespace Go.Proofs.YteepmmghanbllaaGreatDoor
open Go.K Go.Stn Go.Pln Go.RowKit
theorem tf26:TF Tryz.prog 26 false 1 (C none 0 0):=tK
theorem zzR:FO Tryz.prog 202 0 0:=fK
theorem se26:SE Tryz.prog 26 9 1:=⟨Tryz.underlying26,by kernel_rfl⟩
theorem if46:IF Tryz.prog 46:=⟨_,Tryz.underlying46,λ _ h=>by cases h⟩
theorem zwY:En Tryz.prog 100:=eK Tryz.func100
theorem zwZ:En Tryz.prog 101:=eK Tryz.func101
theorem zdk (k:Int) (w:World)  :
  Calls Tryz.prog 101 #[O k] w ((λ e w'=>e=.panicked (thrC (errT 46 k))∧Ext w w')):=by
 refine zan (vs:=[_]) Tryz.func101 I I (bL I) (zaa (gM I (gQ (zuZ if46 I) (zpQ I ?_))))
 exact zij λ w hw=>⟨rfl,hw.base.ext0⟩
abbrev yak (B:Nat→Prop) (w:World):=∀ k,B k→k<w.heap.size
theorem zli (r:Nat) (ws:List ByteArray) (w:World) (B:Nat→Prop) (hB:yak B w) (hA:(Rdr 202 r ws).A B w)  :
  Calls Tryz.prog 100 #[Z r] w (zej 46 (zdp ws) (λ x (_:Unit)=>.string x.1) (λ x _=>Rdr 202 r x.2) B w):=by
 refine zby hB hA (vs:=[_]) Tryz.func100 I I (bL I) (zgV λ a1 c1 hc1=>(gS (gA I (gN [0,2] I (zac (gS (gM I (gQ (zbx I) (gQ (zab zzR I) (gQ (zah 0 tf26 I I I) (gQ (zaV (Tryz.underlying26) I) (gQ (zbL I I) (gN [0,2,9] I (zap I (λ hc9=>?_) (λ hc9=>?_)))))))))))))))
 ·have h0:ws.length=0:=by have:=oT hc9;omega
  refine zaa (zcg zwZ I (λ w hw=>zdk _ w) ?_)
  exact za6 (zrL h0)
 ·have h0:¬ ws.length=0:=by have:=oD hc9;omega
  refine zaq (gS (gM I (gQ (zbx I) (gQ (zab zzR I) (gQ (zah 0 tf26 I I I) (gQ (zaE se26 I I (λ _ hw=>(hw.has (p:=1) I))) (gQ (zcE tf9 I (λ _ hw=>(hw.has (p:=1) I)) (by omega) (by omega) I) (gA I (gN [0,2,3] I (gS (gM I (gM I (gQ (zbx I) (gQ (zab zzR I) (gQ (zah 0 tf26 I I I) (gQ (zg9 se26 I I (by omega) (by omega)) (gQ (zbx I) (gQ (zab zzR I) (zaA 0 tf26 I I (vs:=[_]) I I I I I (gN [2,3] I (gS (gM I (gA I (gN [2] I (zaw (zoh hc1 (by omega) ?_))))))))))))))))))))))))))
  exact zdm (ws.getD 0 default,ws.drop 1) () 0 (zaC I (zau I)) I I (zuj h0)
theorem zuG (r:Nat) (ws:List ByteArray) (u:ByteArray) (w:World) (B:Nat→Prop) (hB:yak B w) (hA:(Rdr 202 r ws).A B w)  :
  Calls Tryz.prog 150 #[Z r,.string u] w (zej 46 (sayE u ws) (λ _x (_:Unit)=>.tuple #[]) (λ x _=>Rdr 202 r x.2) B w):=by
 refine zby hB hA (vs:=[_,_]) Tryz.func150 I I (bL I) (gS (gM I (zbZ (res:=zdp ws) 0 zwY I I I (λ w B hF=>zli r ws w B (λ k hk=>(hF.own k hk).2) hF.A) (λ k hk5=>?_) (λ x5 m5 hx5=>?_))))
 ·exact za6 (by rw [sayE,hk5];rfl)
 refine gM I (gQ (ziV I I) (gN [7] I (zap I (λ hc7=>?_) (λ hc7=>?_))))
 ·have h7:¬ (x5.1.toList == u.toList)=true:=by simpa using hc7
  refine zaa (zcg zwZ I (λ w hw=>zdk _ w) ?_)
  exact za6 (by rw [sayE,hx5,zak,if_neg h7])
 ·have h7:(x5.1.toList == u.toList)=true:=by simpa using hc7
  refine zaq ?_
  exact zdm ((),x5.2) () 0 (zcN I) I I (by rw [sayE,hx5,zak,if_pos h7])
theorem zqa (r:Nat) (ws:List ByteArray) (w:World) (B:Nat→Prop) (hB:yak B w) (hA:(Rdr 202 r ws).A B w)  :
  Calls Tryz.prog 124 #[Z r] w (zej 46 (zes ws) (λ x (_:Unit)=>.string x.1) (λ x _=>Rdr 202 r x.2) B w):=by
 refine zby hB hA (vs:=[_]) Tryz.func124 I I (bL I) (gS (gA I (gN [0,2] I (gS (gM I (zbZ (res:=zdp ws) 0 zwY I I I (λ w B hF=>zli r ws w B (λ k hk=>(hF.own k hk).2) hF.A) (λ k hk5=>?_) (λ x5 m5 hx5=>?_)))))))
 ·exact za6 (by rw [zes,hk5];rfl)
 refine gA I (gN [2,3] I (zac (gS (gM I (gQ (zaJ ztI I (λ w hw=>zmo _ w)) (gQ (zbR I) (gN [2,3,8] I (zap I (λ hc8=>?_) (λ hc8=>?_)))))))))
 ·have h8:¬ zgx x5.1=true:=by simpa using hc8
  refine zaa (zcg zwZ I (λ w hw=>zdk _ w) ?_)
  exact za6 (by rw [zes,hx5,zak,if_neg h8])
 ·have h8:zgx x5.1=true:=by simpa using hc8
  refine zaq (gS (gM I (gA I (gN [2] I (zaw ?_)))))
  exact zdm (x5.1,x5.2) () 0 (zaC I (zau I)) I I (by rw [zes,hx5,zak,if_pos h8])
theorem ztK (r:Nat) (ws:List ByteArray) (w:World) (B:Nat→Prop) (hB:yak B w) (hA:(Rdr 202 r ws).A B w)  :
  Calls Tryz.prog 122 #[Z r] w (zej 46 (endE ws) (λ _x (_:Unit)=>.tuple #[]) (λ x _=>Rdr 202 r x.2) B w):=by
 refine zby hB hA (vs:=[_]) Tryz.func122 I I (bL I) (zgV λ a1 c1 hc1=>(gS (gM I (gQ (zbx I) (gQ (zab zzR I) (gQ (zah 0 tf26 I I I) (gQ (zaV (Tryz.underlying26) I) (gQ (zc6 I I) (gN [7] I (zap I (λ hc7=>?_) (λ hc7=>?_)))))))))))
 ·have h7:¬ ws.length=0:=by have:=oT hc7;omega
  refine zaa (zcg zwZ I (λ w hw=>zdk _ w) ?_)
  exact za6 (if_neg h7)
 ·have h7:ws.length=0:=by have:=oD hc7;omega
  refine zaq (zeH hc1 ?_)
  exact zdm ((),ws) () 0 (zcN I) I I (if_pos h7)
end Go.Proofs.YteepmmghanbllaaGreatDoor
namespace Go.Pln
open Go Go.K Go.RowKit Go.Stn Go.Txt
theorem ziQ (s:ByteArray):(s.toList == (⟨#[]⟩:ByteArray).toList)=decide ((s.size:Int)<1):=by
 rw [ByteArray.toList_eq,ByteArray.toList_eq,Bool.eq_iff_iff,beq_iff_eq,dT]
 have hz:s.size=s.data.toList.length:=rfl
 rw [hz]
 constructor
 ·intro h
  rw [h];decide
 ·intro h
  have h0:s.data.toList.length=0:=by omega
  rw [List.length_eq_zero_iff.1 h0]
theorem zcZ {s:ByteArray} {b c:Bool} (h:(((!(s.toList == (⟨#[]⟩:ByteArray).toList))&&b)&&c)=true):1≤s.size:=by
 simp only [aT,nT,ziQ,dF] at h
 omega
def zmp (b:Int):Bool:=decide (b<48)||decide (57<b)
theorem zrA (s:ByteArray):∀ (m p:Nat),s.size - p=m→(0≤zcj oddN s p↔∃ j,p≤j∧j<s.size∧zmp (zee s (j:Nat))=true):=by
 intro m
 induction m using Nat.strongRecOn with
 | _ m ih=>
  intro p hm
  by_cases hp:p<s.size
  ·by_cases hlow:(s.get! p).toNat<128
   ·have hd:=Go.Stn.decode_low hlow
    have hb:=zeV hp
    cases ho:zmp (zee s (p:Int)) with
    | true=>
     rw [zdW hp (by rw [hd];rw [hb] at ho;exact ho)]
     exact⟨λ _=>⟨p,Nat.le_refl _,hp,ho⟩,λ _=>by omega⟩
    | false=>
     rw [zfj hp (by rw [hd];rw [hb] at ho;exact ho),hd]
     rw [ih (s.size - (p+1)) (by omega) (p+1) I]
     constructor
     ·rintro ⟨j,h1,h2,h3⟩;exact⟨j,by omega,h2,h3⟩
     ·rintro ⟨j,h1,h2,h3⟩
      refine⟨j,?_,h2,h3⟩
      by_cases hj:j=p
      ·subst hj;rw [ho] at h3;cases h3
      ·omega
   ·have hd:=Go.Stn.decode_high hlow
    rw [zdW hp (by unfold oddN;simp;omega)]
    refine⟨λ _=>⟨p,Nat.le_refl _,hp,?_⟩,λ _=>by omega⟩
    rw [zeV hp]
    unfold zmp;simp;omega
  ·rw [zf5 hp]
   refine⟨λ h=>by omega,?_⟩
   rintro ⟨j,h1,h2,_⟩;omega
theorem zgR (s:ByteArray) (i:Nat) (h:i<s.size):zee s (i:Int)=((s.data.toList[i]'(by simpa using h)).toNat:Int):=by
 rw [zeV h]
 congr 2
 cases s with
 | mk d=>
  have hd:i<d.size:=h
  simp only [ByteArray.get!]
  rw [getElem!_pos d i hd,Array.getElem_toList]
theorem zvg {s:ByteArray} {c:UInt8} {r:List UInt8} (hl:s.data.toList=c :: r):zee s 0=(c.toNat:Int):=by
 have h0:0<s.size:=by
  have hz:s.size=s.data.toList.length:=rfl
  rw [hz,hl];simp
 have:=zgR s 0 h0
 rw [show((0:Nat):Int)=0 from rfl] at this
 rw [this]
 congr 2
 have h1:s.data.toList[0]?=some c:=by rw [hl];rfl
 rw [eG (by rw [hl];simp)] at h1
 injection h1
def digW (l:List UInt8):Prop:=1≤l.length∧l.length≤6∧(∀ c∈l,ziZ c)∧(l=[48]∨∃ c r,l=c :: r∧c≠48)
theorem zph {c:UInt8}:zmp (c.toNat:Int)=false↔ziZ c:=by
 unfold zmp ziZ
 simp only [oF,dF]
 omega
theorem zrO (s:ByteArray):numW s=true↔digW s.data.toList:=by
 have hz:s.size=s.data.toList.length:=rfl
 unfold numW digW
 rw [ziQ,ByteArray.toList_eq,ByteArray.toList_eq]
 simp only [aT,Bool.or_eq_true,nT,dF,dT,beq_iff_eq,zrA s s.size 0 (by omega)]
 have hall:(¬ ∃ j,0≤j∧j<s.size∧zmp (zee s (j:Nat))=true)↔∀ c∈s.data.toList,ziZ c:=by
  constructor
  ·intro h c hc
   obtain⟨j,hj,rfl⟩:=List.getElem_of_mem hc
   refine zph.1 ?_
   cases hb:zmp ((s.data.toList[j].toNat:Nat):Int) with
   | false=>rfl
   | true=>exact absurd ⟨j,Nat.zero_le _,by omega,by rw [zgR s j (by omega)];exact hb⟩ h
  ·rintro h ⟨j,_,hj,hb⟩
   rw [zgR s j hj,zph.2 (h _ (List.getElem_mem _))] at hb
   cases hb
 rw [hall]
 constructor
 ·rintro ⟨⟨⟨h1,h2⟩,h3⟩,h4⟩
  refine⟨by omega,by omega,h3,?_⟩
  rcases h4 with h4|h4
  ·right
   cases hl:s.data.toList with
   | nil=>rw [hl,lN] at hz;omega
   | cons c r=>
    refine⟨c,r,rfl,λ e=>h4 ?_⟩
    rw [zvg hl,e];rfl
  ·left;exact h4
 ·rintro ⟨h1,h2,h3,h4⟩
  refine⟨⟨⟨by omega,by omega⟩,h3⟩,?_⟩
  rcases h4 with h4 | ⟨c,r,hl,hc⟩
  ·exact .inr h4
  ·left
   intro e
   rw [zvg hl] at e
   exact hc (UInt8.toNat_inj.1 (by have h48:(48:UInt8).toNat=48:=rfl;omega))
theorem zpf {l:List UInt8} (h:digW l):zfQ 0 l<10 ^ 6:=by
 have key:∀ (l:List UInt8) (a:Nat),(∀ c∈l,ziZ c)→zfQ a l<(a+1)*10 ^ l.length:=by
  intro l
  induction l with
  | nil=>intro a _;simp [zfQ]
  | cons c r ih=>
   intro a hd
   have hc:=hd c (by simp)
   unfold ziZ at hc
   rw [zhX,lC,Nat.pow_succ,Nat.mul_comm (10 ^ r.length) 10,←Nat.mul_assoc]
   refine lL (ih _ (λ x hx=>hd x (by simp [hx]))) (Nat.mul_le_mul_right _ (by omega))
 have h1:=key l 0 h.2.2.1
 rw [Nat.zero_add,Nat.one_mul] at h1
 exact lL h1 (Nat.pow_le_pow_right (by decide) h.2.1)
theorem zq6 {l:List UInt8} (h:digW l):Lib.atoiAll l=.ok (zfQ 0 l:Int):=by
 have hs:=zpf h
 obtain⟨h1,h2,h3,h4⟩:=h
 have hb:(0+1)*10 ^ l.length≤10 ^ 18:=by
  rw [Nat.zero_add,Nat.one_mul]
  exact Nat.pow_le_pow_right (by decide) (by omega)
 have hp:=zjp l 0 h3 hb
 have hm:Lib.parseMag l=.ok (zfQ 0 l):=by
  unfold Lib.parseMag
  rw [if_neg (by intro e;rw [e] at h1;simp at h1)];exact hp
 cases hl:l with
 | nil=>rw [hl] at h1;simp at h1
 | cons c r=>
  rw [hl] at hm h3 hs
  have hc:=h3 c (by simp)
  unfold ziZ at hc
  have h6:(10:Nat) ^ 6=1000000:=rfl
  unfold Lib.atoiAll
  simp only [if_neg (show ¬ (c.toNat=43∨c.toNat=45) by omega),hm]
  rw [if_neg (by omega),if_neg (by omega),if_neg (by omega)]
theorem zoV {s:ByteArray} (h:numW s=true):Lib.atoiAll s.data.toList=.ok (zdO s)∧zdO s=(zfQ 0 s.data.toList:Int):=by
 have:=zq6 ((zrO s).1 h)
 unfold zdO
 rw [this]
 exact⟨rfl,rfl⟩
def putE (os:List Nat) (cs:List Value) (ws:List ByteArray):Except Int (List Value×List ByteArray):=zco os.length ws >>= λ x=>.ok (zlz cs os x.1,x.2)
theorem zr5 (cs:List Value) (ws:List ByteArray):putE [] cs ws=.ok (cs,ws):=rfl
theorem ziy (o:Nat) (os:List Nat) (cs:List Value) (ws:List ByteArray):putE (o :: os) cs ws=(numE ws >>= λ x=>putE os (cs.set o (O x.1)) x.2):=by
 unfold putE
 rw [lC,zco]
 cases h1:numE ws with
 | error k=>rfl
 | ok x=>
  rw [zak,zak]
  cases h2:zco os.length x.2 with
  | error k=>rfl
  | ok y=>rfl
theorem zwf {os:List Nat} {cs cs':List Value} {ws ws':List ByteArray} (h:.ok (cs',ws')=putE os cs ws):∃ l,zco os.length ws=.ok (l,ws')∧cs' = zlz cs os l:=by
 unfold putE at h
 cases h2:zco os.length ws with
 | error k=>rw [h2] at h;cases h
 | ok x=>
  rw [h2,zak] at h
  injection h with h3
  injection h3 with h4 h5
  exact⟨x.1,by rw [h5],h4⟩
theorem zqt {os:List Nat} {cs:List Value} {ws:List ByteArray} {k:Int} (h:.error k=putE os cs ws):zco os.length ws=.error k:=by
 unfold putE at h
 cases h2:zco os.length ws with
 | error k'=>rw [h2,zcc] at h;injection h with h3;rw [h3]
 | ok x=>rw [h2,zak] at h;cases h
theorem zkh {os:List Nat} {i:Int} (h0:0≤i) (h1:i<(os.length:Int)):os.drop i.toNat=os.getD i.toNat 0 :: os.drop (i+1).toNat:=by
 rw [List.drop_eq_getElem_cons (by omega),show(i+1).toNat=i.toNat+1 by omega]
 congr 1
 simp [show i.toNat<os.length by omega]
theorem ztP {b:Nat} {os:List Nat} {i:Int} (h0:0≤i) (h1:i<(os.length:Int)):(os.map (λ o=>(b,o))).getD i.toNat default=(b,os.getD i.toNat 0):=by
 have:i.toNat<os.length:=by omega
 simp [this]
theorem zgs {acc:List Int} {ws:List ByteArray} (h:¬ ws.length=0) (hl:¬ ((ws.getD 0 default).toList == wLeast.toList)=true):zbF acc ws=(zco 1 ws >>= λ x=>zbF (acc++[x.1.getD 0 0]) x.2):=by
 cases ws with
 | nil=>exact absurd I h
 | cons x r=>
  replace hl:¬ (x.toList == wLeast.toList)=true:=hl
  rw [zbF,if_neg hl,zlk]
  unfold numE
  rw [show zdp (x :: r)=.ok (x,r) from rfl,zak]
  by_cases hn:numW x=true
  ·rw [if_pos hn,if_pos hn];rfl
  ·rw [if_neg hn,if_neg hn];rfl
theorem zk4 {acc:List Int} {ws:List ByteArray} (h:ws.length=0∨((ws.getD 0 default).toList == wLeast.toList)=true):zbF acc ws=.ok (acc,ws):=by
 cases ws with
 | nil=>rfl
 | cons x r=>
  have h2:(x.toList == wLeast.toList)=true:=h.resolve_left (by simp)
  rw [zbF,if_pos h2]
theorem zwr {n:Int} (h:0≤n) (h2:n≤255):IntKind.u8.wrap n=n:=by
 unfold IntKind.wrap
 simp only [IntKind.signed,IntKind.bits,Bool.false_and]
 rw [if_neg (by simp)]
 omega
theorem zcA {α β:Type} {r:Except Int α} {f:α→Except Int β} {y:β} (h:(r >>= f)=.ok y):∃ x,r=.ok x∧f x=.ok y:=by
 cases r with
 | error k=>cases h
 | ok x=>exact⟨x,rfl,h⟩
theorem zhh:∀ (us:List ByteArray) (acc:List Int) {x:List Int×List ByteArray},zbF acc us=.ok x→x.1.length+x.2.length≤acc.length+us.length
 | [],acc,x,h=>by cases h;simp
 | u :: us,acc,x,h=>by
  rw [zbF] at h
  split at h
  ·cases h;exact Nat.le_refl _
  ·split at h
   ·have:=zhh us _ h
    simp only [lA,lC,lN] at this ⊢
    omega
   ·cases h
theorem zkq {ws:List ByteArray} {x:Sht×List ByteArray} (h:zci ws=.ok x):x.1.heights.length≤ws.length:=by
 unfold zci at h
 obtain⟨x0,h0,h⟩:=zcA h
 obtain⟨x1,h1,h⟩:=zcA h
 obtain⟨x2,h2,h⟩:=zcA h
 obtain⟨x3,h3,h⟩:=zcA h
 obtain⟨x4,h4,h⟩:=zcA h
 obtain⟨x5,h5,h⟩:=zcA h
 obtain⟨x6,h6,h⟩:=zcA h
 obtain⟨x7,h7,h⟩:=zcA h
 obtain⟨x8,h8,h⟩:=zcA h
 obtain⟨x9,h9,h⟩:=zcA h
 obtain⟨x10,h10,h⟩:=zcA h
 obtain⟨x11,h11,h⟩:=zcA h
 obtain⟨x12,h12,h⟩:=zcA h
 obtain⟨x13,h13,h⟩:=zcA h
 obtain⟨x14,h14,h⟩:=zcA h
 obtain⟨x15,h15,h⟩:=zcA h
 obtain⟨x16,h16,h⟩:=zcA h
 split at h
 ·cases h
 ·cases h
  have a0:=znu h0;have a1:=zfo h1;have a2:=zfo h2;have a3:=zfo h3;have a4:=zfo h4;have a5:=zmz h5
  have a6:=zhh _ _ h6
  simp only [lN] at a6
  dsimp only
  omega
end Go.Pln
namespace Go.Proofs
open Go.Shelf
def Tryz.lays145_ren:Go.Shelf.Ren:=⟨λ|145=>96|220=>118|219=>145|217=>158|225=>159|224=>160|267=>161|266=>169|314=>170|n=>n,λ|9=>9|4=>4|59=>196|3=>3|5=>5|46=>266|146=>272|51=>271|n=>n,λ|1=>2|n=>n⟩
theorem Tryz.lays145:Go.Proofs.Lays.n145 Tryz.prog Tryz.lays145_ren:={
 mixed:=by kernel_rfl
 f145:=Tryz.func96.trans (congrArg some (by kernel_rfl))
 f217:=Tryz.func158.trans (congrArg some (by kernel_rfl))
 f219:=Tryz.func145.trans (congrArg some (by kernel_rfl))
 f220:=Tryz.func118.trans (congrArg some (by kernel_rfl))
 f224:=Tryz.func160.trans (congrArg some (by kernel_rfl))
 f225:=Tryz.func159.trans (congrArg some (by kernel_rfl))
 f266:=Tryz.func169.trans (congrArg some (by kernel_rfl))
 f267:=Tryz.func161.trans (congrArg some (by kernel_rfl))
 f314:=Tryz.func170.trans (congrArg some (by kernel_rfl))
 t3:=Tryz.underlying3
 a3:=Tryz.isAgg3
 z3:=Tryz.sizeOf3
 v3:=Tryz.zeroValue3
 t4:=Tryz.underlying4
 a4:=Tryz.isAgg4
 z4:=Tryz.sizeOf4
 v4:=Tryz.zeroValue4
 t5:=Tryz.underlying5
 a5:=Tryz.isAgg5
 z5:=Tryz.sizeOf5
 v5:=Tryz.zeroValue5
 t9:=Tryz.underlying9
 a9:=Tryz.isAgg9
 z9:=Tryz.sizeOf9
 v9:=Tryz.zeroValue9
 t46:=Tryz.underlying266
 a46:=Tryz.isAgg266
 z46:=Tryz.sizeOf266
 v46:=Tryz.zeroValue266
 t51:=Tryz.underlying271
 a51:=Tryz.isAgg271
 z51:=Tryz.sizeOf271
 v51:=Tryz.zeroValue271
 t59:=Tryz.underlying196
 a59:=Tryz.isAgg196
 z59:=Tryz.sizeOf196
 v59:=Tryz.zeroValue196
 t146:=Tryz.underlying272
 a146:=Tryz.isAgg272
 z146:=Tryz.sizeOf272
 v146:=Tryz.zeroValue272
 g1:=by kernel_rfl }
def Tryz.lays146_ren:Go.Shelf.Ren:=⟨λ|146=>98|221=>119|268=>146|138=>147|143=>148|195=>162|197=>163|218=>164|219=>145|260=>171|217=>158|225=>159|224=>160|267=>161|266=>169|314=>170|n=>n,λ|9=>9|31=>26|3=>3|4=>4|0=>0|105=>267|21=>21|5=>5|46=>266|119=>281|139=>284|138=>283|146=>272|51=>271|n=>n,λ|1=>2|3=>3|4=>4|n=>n⟩
theorem Tryz.lays146:Go.Proofs.Lays.n146 Tryz.prog Tryz.lays146_ren:={
 mixed:=by kernel_rfl
 f138:=Tryz.func147.trans (congrArg some (by kernel_rfl))
 f143:=Tryz.func148.trans (congrArg some (by kernel_rfl))
 f146:=Tryz.func98.trans (congrArg some (by kernel_rfl))
 f195:=Tryz.func162.trans (congrArg some (by kernel_rfl))
 f197:=Tryz.func163.trans (congrArg some (by kernel_rfl))
 f217:=Tryz.func158.trans (congrArg some (by kernel_rfl))
 f218:=Tryz.func164.trans (congrArg some (by kernel_rfl))
 f219:=Tryz.func145.trans (congrArg some (by kernel_rfl))
 f221:=Tryz.func119.trans (congrArg some (by kernel_rfl))
 f224:=Tryz.func160.trans (congrArg some (by kernel_rfl))
 f225:=Tryz.func159.trans (congrArg some (by kernel_rfl))
 f260:=Tryz.func171.trans (congrArg some (by kernel_rfl))
 f266:=Tryz.func169.trans (congrArg some (by kernel_rfl))
 f267:=Tryz.func161.trans (congrArg some (by kernel_rfl))
 f268:=Tryz.func146.trans (congrArg some (by kernel_rfl))
 f314:=Tryz.func170.trans (congrArg some (by kernel_rfl))
 t0:=Tryz.underlying0
 a0:=Tryz.isAgg0
 z0:=Tryz.sizeOf0
 v0:=Tryz.zeroValue0
 t3:=Tryz.underlying3
 a3:=Tryz.isAgg3
 z3:=Tryz.sizeOf3
 v3:=Tryz.zeroValue3
 t4:=Tryz.underlying4
 a4:=Tryz.isAgg4
 z4:=Tryz.sizeOf4
 v4:=Tryz.zeroValue4
 t5:=Tryz.underlying5
 a5:=Tryz.isAgg5
 z5:=Tryz.sizeOf5
 v5:=Tryz.zeroValue5
 t9:=Tryz.underlying9
 a9:=Tryz.isAgg9
 z9:=Tryz.sizeOf9
 v9:=Tryz.zeroValue9
 t21:=Tryz.underlying21
 a21:=Tryz.isAgg21
 z21:=Tryz.sizeOf21
 v21:=Tryz.zeroValue21
 t31:=Tryz.underlying26
 a31:=Tryz.isAgg26
 z31:=Tryz.sizeOf26
 v31:=Tryz.zeroValue26
 t46:=Tryz.underlying266
 a46:=Tryz.isAgg266
 z46:=Tryz.sizeOf266
 v46:=Tryz.zeroValue266
 t51:=Tryz.underlying271
 a51:=Tryz.isAgg271
 z51:=Tryz.sizeOf271
 v51:=Tryz.zeroValue271
 t105:=Tryz.underlying267
 a105:=Tryz.isAgg267
 z105:=Tryz.sizeOf267
 v105:=Tryz.zeroValue267
 t119:=Tryz.underlying281
 a119:=Tryz.isAgg281
 z119:=Tryz.sizeOf281
 t138:=Tryz.underlying283
 a138:=Tryz.isAgg283
 z138:=Tryz.sizeOf283
 v138:=Tryz.zeroValue283
 t139:=Tryz.underlying284
 a139:=Tryz.isAgg284
 z139:=Tryz.sizeOf284
 v139:=Tryz.zeroValue284
 t146:=Tryz.underlying272
 a146:=Tryz.isAgg272
 z146:=Tryz.sizeOf272
 v146:=Tryz.zeroValue272
 g1:=by kernel_rfl
 g3:=by kernel_rfl
 g4:=by kernel_rfl }
def Tryz.laysC172_ren:Go.Shelf.Ren:=⟨λ|172=>152|244=>166|245=>167|247=>172|279=>173|280=>174|281=>175|282=>176|287=>177|316=>178|171=>180|205=>179|321=>181|322=>182|243=>183|246=>184|283=>185|284=>186|285=>187|286=>188|129=>190|317=>189|318=>191|319=>192|320=>193|337=>194|338=>195|n=>n,λ|9=>9|3=>3|75=>254|76=>255|4=>4|5=>5|167=>274|37=>275|0=>0|85=>276|2=>2|168=>278|53=>285|175=>286|46=>266|210=>290|127=>294|145=>297|143=>295|21=>21|171=>299|173=>302|212=>305|51=>271|20=>20|213=>306|232=>309|233=>310|80=>105|n=>n,λ|15=>5|16=>6|17=>7|18=>8|19=>9|n=>n⟩
theorem Tryz.laysC172:Go.Proofs.LaysC.n172 Tryz.prog Tryz.laysC172_ren:={
 mixed:=by kernel_rfl
 f129:=Tryz.func190.trans (congrArg some (by kernel_rfl))
 f171:=Tryz.func180.trans (congrArg some (by kernel_rfl))
 f172:=Tryz.func152.trans (congrArg some (by kernel_rfl))
 f205:=Tryz.func179.trans (congrArg some (by kernel_rfl))
 f243:=Tryz.func183.trans (congrArg some (by kernel_rfl))
 f244:=Tryz.func166.trans (congrArg some (by kernel_rfl))
 f245:=Tryz.func167.trans (congrArg some (by kernel_rfl))
 f246:=Tryz.func184.trans (congrArg some (by kernel_rfl))
 f247:=Tryz.func172.trans (congrArg some (by kernel_rfl))
 f279:=Tryz.func173.trans (congrArg some (by kernel_rfl))
 f280:=Tryz.func174.trans (congrArg some (by kernel_rfl))
 f281:=Tryz.func175.trans (congrArg some (by kernel_rfl))
 f282:=Tryz.func176.trans (congrArg some (by kernel_rfl))
 f283:=Tryz.func185.trans (congrArg some (by kernel_rfl))
 f284:=Tryz.func186.trans (congrArg some (by kernel_rfl))
 f285:=Tryz.func187.trans (congrArg some (by kernel_rfl))
 f286:=Tryz.func188.trans (congrArg some (by kernel_rfl))
 f287:=Tryz.func177.trans (congrArg some (by kernel_rfl))
 f316:=Tryz.func178.trans (congrArg some (by kernel_rfl))
 f317:=Tryz.func189.trans (congrArg some (by kernel_rfl))
 f318:=Tryz.func191.trans (congrArg some (by kernel_rfl))
 f319:=Tryz.func192.trans (congrArg some (by kernel_rfl))
 f320:=Tryz.func193.trans (congrArg some (by kernel_rfl))
 f321:=Tryz.func181.trans (congrArg some (by kernel_rfl))
 f322:=Tryz.func182.trans (congrArg some (by kernel_rfl))
 f337:=Tryz.func194.trans (congrArg some (by kernel_rfl))
 f338:=Tryz.func195.trans (congrArg some (by kernel_rfl))
 t0:=Tryz.underlying0
 a0:=Tryz.isAgg0
 z0:=Tryz.sizeOf0
 v0:=Tryz.zeroValue0
 t2:=Tryz.underlying2
 a2:=Tryz.isAgg2
 z2:=Tryz.sizeOf2
 v2:=Tryz.zeroValue2
 t3:=Tryz.underlying3
 a3:=Tryz.isAgg3
 z3:=Tryz.sizeOf3
 v3:=Tryz.zeroValue3
 t4:=Tryz.underlying4
 a4:=Tryz.isAgg4
 z4:=Tryz.sizeOf4
 v4:=Tryz.zeroValue4
 t5:=Tryz.underlying5
 a5:=Tryz.isAgg5
 z5:=Tryz.sizeOf5
 v5:=Tryz.zeroValue5
 t9:=Tryz.underlying9
 a9:=Tryz.isAgg9
 z9:=Tryz.sizeOf9
 v9:=Tryz.zeroValue9
 t20:=Tryz.underlying20
 a20:=Tryz.isAgg20
 z20:=Tryz.sizeOf20
 v20:=Tryz.zeroValue20
 t21:=Tryz.underlying21
 a21:=Tryz.isAgg21
 z21:=Tryz.sizeOf21
 v21:=Tryz.zeroValue21
 t37:=Tryz.underlying275
 a37:=Tryz.isAgg275
 z37:=Tryz.sizeOf275
 v37:=Tryz.zeroValue275
 t46:=Tryz.underlying266
 a46:=Tryz.isAgg266
 z46:=Tryz.sizeOf266
 v46:=Tryz.zeroValue266
 t51:=Tryz.underlying271
 a51:=Tryz.isAgg271
 z51:=Tryz.sizeOf271
 v51:=Tryz.zeroValue271
 t53:=Tryz.underlying285
 a53:=Tryz.isAgg285
 z53:=Tryz.sizeOf285
 v53:=Tryz.zeroValue285
 t75:=Tryz.underlying254
 a75:=Tryz.isAgg254
 z75:=Tryz.sizeOf254
 v75:=Tryz.zeroValue254
 t76:=Tryz.underlying255
 a76:=Tryz.isAgg255
 z76:=Tryz.sizeOf255
 v76:=Tryz.zeroValue255
 t85:=Tryz.underlying276
 a85:=Tryz.isAgg276
 z85:=Tryz.sizeOf276
 v85:=Tryz.zeroValue276
 t127:=Tryz.underlying294
 a127:=Tryz.isAgg294
 z127:=Tryz.sizeOf294
 v127:=Tryz.zeroValue294
 t143:=Tryz.underlying295
 a143:=Tryz.isAgg295
 z143:=Tryz.sizeOf295
 v143:=Tryz.zeroValue295
 t145:=Tryz.underlying297
 a145:=Tryz.isAgg297
 z145:=Tryz.sizeOf297
 v145:=Tryz.zeroValue297
 t167:=Tryz.underlying274
 a167:=Tryz.isAgg274
 z167:=Tryz.sizeOf274
 v167:=Tryz.zeroValue274
 t168:=Tryz.underlying278
 a168:=Tryz.isAgg278
 z168:=Tryz.sizeOf278
 v168:=Tryz.zeroValue278
 t171:=Tryz.underlying299
 a171:=Tryz.isAgg299
 z171:=Tryz.sizeOf299
 v171:=Tryz.zeroValue299
 t173:=Tryz.underlying302
 a173:=Tryz.isAgg302
 z173:=Tryz.sizeOf302
 v173:=Tryz.zeroValue302
 t175:=Tryz.underlying286
 a175:=Tryz.isAgg286
 z175:=Tryz.sizeOf286
 v175:=Tryz.zeroValue286
 t210:=Tryz.underlying290
 a210:=Tryz.isAgg290
 z210:=Tryz.sizeOf290
 v210:=Tryz.zeroValue290
 t212:=Tryz.underlying305
 a212:=Tryz.isAgg305
 z212:=Tryz.sizeOf305
 v212:=Tryz.zeroValue305
 t213:=Tryz.underlying306
 a213:=Tryz.isAgg306
 z213:=Tryz.sizeOf306
 t232:=Tryz.underlying309
 a232:=Tryz.isAgg309
 z232:=Tryz.sizeOf309
 v232:=Tryz.zeroValue309
 t233:=Tryz.underlying310
 a233:=Tryz.isAgg310
 z233:=Tryz.sizeOf310
 v233:=Tryz.zeroValue310
 g15:=by kernel_rfl
 g16:=by kernel_rfl
 g17:=by kernel_rfl
 g18:=by kernel_rfl
 g19:=by kernel_rfl
 t80:=Tryz.underlying105
 a80:=Tryz.isAgg105
 z80:=Tryz.sizeOf105
 v80:=Tryz.zeroValue105
 i0:=by kernel_rfl
 i2:=by kernel_rfl
 i3:=by kernel_rfl
 i4:=by kernel_rfl
 i5:=by kernel_rfl
 i9:=by kernel_rfl
 i20:=by kernel_rfl
 i21:=by kernel_rfl
 i37:=by kernel_rfl
 i46:=by kernel_rfl
 i51:=by kernel_rfl
 i53:=by kernel_rfl
 i75:=by kernel_rfl
 i76:=by kernel_rfl
 i80:=by kernel_rfl
 i85:=by kernel_rfl
 i127:=by kernel_rfl
 i143:=by kernel_rfl
 i145:=by kernel_rfl
 i167:=by kernel_rfl
 i168:=by kernel_rfl
 i171:=by kernel_rfl
 i173:=by kernel_rfl
 i175:=by kernel_rfl
 i210:=by kernel_rfl
 i212:=by kernel_rfl
 i232:=by kernel_rfl
 i233:=by kernel_rfl
 m15:=by kernel_rfl
 m16:=by kernel_rfl
 m17:=by kernel_rfl
 m18:=by kernel_rfl
 m19:=by kernel_rfl
 c0:=by kernel_rfl
 c2:=by kernel_rfl
 c3:=by kernel_rfl
 c4:=by kernel_rfl
 c5:=by kernel_rfl
 c9:=by kernel_rfl
 c20:=by kernel_rfl
 c21:=by kernel_rfl
 c37:=by kernel_rfl
 c46:=by kernel_rfl
 c51:=by kernel_rfl
 c53:=by kernel_rfl
 c75:=by kernel_rfl
 c76:=by kernel_rfl
 c80:=by kernel_rfl
 c85:=by kernel_rfl
 c127:=by kernel_rfl
 c143:=by kernel_rfl
 c145:=by kernel_rfl
 c167:=by kernel_rfl
 c168:=by kernel_rfl
 c171:=by kernel_rfl
 c173:=by kernel_rfl
 c175:=by kernel_rfl
 c210:=by kernel_rfl
 c212:=by kernel_rfl
 c213:=by kernel_rfl
 c232:=by kernel_rfl
 c233:=by kernel_rfl }
end Go.Proofs
namespace Go.Proofs.YteepmmghanbllaaGreatDoor
open Go.K Go.Stn Go.Pln Go.RowKit
theorem zw2:En Tryz.prog 109:=eK Tryz.func109
theorem zHH:En Tryz.prog 165:=eK Tryz.func165
theorem zww (s sep:ByteArray) (w:World) (hs:s.size<4294967281) (hm:Has w (IntV 2)):Calls Tryz.prog 96 #[.string s,.string sep] w (Pure (cutV s sep) w):=zrk Tryz.lays145 s sep w hs hm
theorem zuJ (s:ByteArray) (c:UInt8) (w:World) (hs:s.size<4294967281) (hm:Has w (IntV 2)):Calls Tryz.prog 98 #[.string s,.string ⟨#[c]⟩] w (zcU (λ b:Nat=>C (some ⟨b,0,none⟩) (zcn s c).length (zcn s c).length) (λ b=>Row (some ⟨b,0,none⟩) 1 (zcn s c).length 9 encS (zcn s c)) w):=zmD Tryz.lays146 (by kernel_rfl) s c w hs hm
theorem zu3 (s:ByteArray) (w:World) (h:numW s=true):Calls Tryz.prog 152 #[.string s] w (Pure (.tuple #[O (zdO s),.nilIface]) w):=by
 have hs:=zrP h
 refine(Go.Proofs.Any.strconv_Atoi_ok Tryz.laysC172 s (by omega) (zdO s) (zoV h).1 w).mono ?_
 rintro e w' ⟨rfl,hw⟩
 refine⟨rfl,?_⟩
 rcases hw with rfl | ⟨t,rfl⟩
 ·exact Ext.rfl
 ·exact ziY _ _ _
theorem zoj (s:ByteArray) (w:World)  :
  Calls Tryz.prog 151 #[.string s] w (Pure (.bool (numW s)) w):=by
 refine zan (vs:=[_]) Tryz.func151 I I (bL I) (gS (gA I (gN [0,2] I (gS (gA I (gN [0,2,3] I (zac (gZ 23 (ph_y (zaf I) (ph_y (ziV I I) (ph_y (zaf I) (zaH I I (λ hgd=>by(try rw [hgd]);(try have hgd2:=zcZ hgd);exact(zaf I)) (zaH I I (λ hgd=>by(try rw [hgd]);(try have hgd2:=zcZ hgd);exact(zeO (Tryz.underlying9) I)) (zaH I I (λ hgd=>by(try rw [hgd]);(try have hgd2:=zcZ hgd);exact(zeT I I)) (ph_y (zaX I I I) (ph_y (zaf I) (zaH I I (λ hgd=>by(try rw [hgd]);(try have hgd2:=zcZ hgd);exact(zaf I)) (zaH I I (λ hgd=>by(try rw [hgd]);(try have hgd2:=zcZ hgd);exact(zaf I)) (zaH I I (λ hgd=>by(try rw [hgd]);(try have hgd2:=zcZ hgd);exact(zaJ (v:=.bool (decide (0≤zcj oddN s 0))) zF1 I (λ w hw=>ziD s oddN _ [] w (λ _=>True) (λ _ _=>trivial) zHH (λ r w _=>zmg r w)))) (zaH I I (λ hgd=>by(try rw [hgd]);(try have hgd2:=zcZ hgd);exact(zbR I)) (ph_y (zaX I I I) (ph_y (zaf I) (zaH I I (λ hgd=>by(try rw [hgd]);(try have hgd2:=zcZ hgd);exact(zaf I)) (zaH I I (λ hgd=>by(try rw [hgd]);(try have hgd2:=zcZ hgd);exact(zdM (Tryz.underlying9) I I (by omega) (by omega))) ?_))))))))))))))))))))))))
 refine zaH I I (λ hgd=>by(try rw [hgd]);(try have hgd2:=zcZ hgd);exact(zcr I I)) (zaH I I (λ hgd=>by(try rw [hgd]);(try have hgd2:=zcZ hgd);exact(zaf I)) (zc0 I I (λ hgd=>by(try rw [hgd]);(try have hgd2:=zcZ hgd);exact(zaf I)) (zc0 I I (λ hgd=>by(try rw [hgd]);(try have hgd2:=zcZ hgd);exact(zge I I)) (zaH I I (λ hgd=>by(try rw [hgd]);(try have hgd2:=zcZ hgd);exact(zaR I I I)) (ph_y (zaX I I I) (ph_y (zad I) (gN [2] I (zaw (zay (zaC I (zau I)) ?_)))))))))
 rfl
theorem zt5 (a:yO) (cap:Nat) (l:List ByteArray) (v:ByteArray) (w:World) (hl:Has w (zaW a 1 encS l)) (hs:zaP l.length) :
  Calls Tryz.prog 109 #[C a l.length cap,.string v] w (Pure (O (zbJ (λ y=>v.toList == y.toList) l)) w):=by
 refine zan (vs:=[_,_]) Tryz.func109 I I (bL I) (gS (gA I (gN [0,1,4] I (zac (gS (gM I (gQ (zaV (Tryz.underlying26) I) (gM I (gN [0,1,4,7,8] I (zas (zbf (X:=Int) (λ(i:Int)=>[(0,C a l.length cap),(1,.string v),(4,O 0),(7,O (l.length:Int)),(8,O i)]) (λ(i:Int)=>[]) (λ(i:Int)=>(0≤i∧i≤l.length∧∀ j:Nat,(j:Int)<i→(v.toList == (l.getD j default).toList)=false)) (λ(i:Int)=>(l.length - i).toNat) 0 (sB I) I ?_ ?_)))))))))))
 ·exact⟨by omega,by omega,λ j hj=>by omega⟩
 ·rintro i hI
  obtain⟨g0,g1,g2⟩:=hI
  refine gS (gQ (zbw I I) (gN [0,1,4,7,8,9] I (zac (zap I (λ hc9=>?_) (λ hc9=>?_)))))
  ·simp only [dT] at hc9
   refine zaq (zac (zas (gS (gM I (gA I (gN [0,1,4,5,7,8] I (gS (gM I (gM I (gM I (gQ (zaE se26 I I (λ _=>rH hl)) (gQ (zcE tf9 I (λ _=>rH hl) (by omega) (by omega) I) (gQ (zge I I) (gN [0,1,4,5,7,8,16] I (zap I (λ hc16=>?_) (λ hc16=>?_))))))))))))))))
   ·refine gS (gM I (gA I (gN [0,1,4,7,8] I (zaw (zay (zaC I (zau I)) ?_)))))
    exact congrArg (λ x=>Value.int .i64 x) (zcs (p:=λ y:ByteArray=>v.toList == y.toList) g0 (by omega) g2 hc16).symm
   ·refine zaq (zaa (gQ (zaY I I) (gM I (gN [0,1,4,7,8] I ?_))))
    exact za1 _ (sB I) I ⟨by omega,by omega,λ j hj=>if h:(j:Int)<i then g2 j h else(by rw [show j=i.toNat from by omega];exact hc16)⟩ (by omega)
  ·simp only [dF] at hc9
   refine za8 I (gS (gA I (gN [4] I (zaw (zay (zaC I (zau I)) ?_)))))
   exact congrArg (λ x=>Value.int .i64 x) (zck (p:=λ y:ByteArray=>v.toList == y.toList) (λ j hj=>g2 j (by omega))).symm
theorem zsX (r:Nat) (ws:List ByteArray) (a:yO) (cap:Nat) (l:List ByteArray) (f:Nat) (w:World) (B:Nat→Prop) (hB:yak B w) (hA:(Rdr 202 r ws).A B w) (hl:Rd (λ k=>k<w.heap.size∧¬ B k) w (zaW a 1 encS l)) (hs:l.length≤200) (hcap:l.length≤cap) (hf:f≤l.length) :
  Calls Tryz.prog 127 #[.pointer (some ⟨r,0,none⟩),C a l.length cap,O (f:Int)] w (zej 46 (zfk l f ws) (λ x (_:Unit)=>.int .u8 x.1) (λ x _=>Rdr 202 r x.2) B w):=by
 refine zby hB hA (vs:=[_,_,_]) Tryz.func127 I I (bL I) (gS (gA I (gN [0,1,2,6] I (zac (zjX (Z:={ z:(ByteArray×List ByteArray)×Unit // zdp ws=.ok z.1 }) (V:=λ z=>.string z.1.1.1) (R':=λ z=>Rdr 202 r z.1.1.2) (Bad:=λ ch=>∃ k,zdp ws=.error k∧ch=thrC (errT 46 k)) 4 [0,1,2] 0 12 (λ _=>mixed) I I (by kernel_rfl) I ?_ I ?_)))))
 ·rintro _ ⟨k,hk12,rfl⟩
  exact za6 (by rw [zfk,hk12];rfl)
 refine zcf (zaf I) (zcf (zaf I) (zcf (zg9 se26 I I (by omega) (by omega)) (zcf (zaf I) (⟨(zrf (M:=Unit) (te:=46) (res:=zdp ws) (V:=λ x _=>.string x.1) (J:=λ x _=>Rdr 202 r x.2) zwY I (λ w B hB hA=>zli r ws w B hB hA)),?_⟩))))
 rintro ⟨⟨x12,m12⟩,hx12⟩
 replace hx12:zdp ws=.ok x12:=hx12
 refine gK [2,6,10,12] I (gQ (zaJ zw2 I (λ w hw=>zt5 _ _ _ x12.1 w (zoc (Rd.has hl hw) hcap (by omega)) (by rw [List.length_drop];unfold zaP;omega))) (gA I (gN [2,6,7] I (zac (gS (gM I (gQ (zbw I I) (gN [2,6,7,15] I (zap I (λ hc15=>?_) (λ hc15=>?_))))))))))
 ·have h15:=oT hc15
  refine zaa (zcg zwZ I (λ w hw=>zdk _ w) ?_)
  exact za6 (by rw [zfk,hx12,zak];exact if_pos h15)
 ·have h15:=oD hc15
  have hlt:=findI_lt (λ y=>x12.1.toList == y.toList) (l.drop (f:Int).toNat)
  rw [List.length_drop] at hlt
  refine zaq (gS (gM I (gM I (gQ (zaY I I) (gQ (ziU (by kernel_rfl) (Tryz.underlying5) I) (gA I (gN [6] I (zaw ?_))))))))
  exact zdm ((zbJ (λ y=>x12.1.toList == y.toList) (l.drop (f:Int).toNat))+f,x12.2) () 0 (zaC I (zau I)) (congrArg (λ x=>Value.int .u8 x) (zwr (n:=(zbJ (λ y=>x12.1.toList == y.toList) (l.drop (f:Int).toNat))+(f:Int)) (by omega) (by omega))) I (by rw [zfk,hx12,zak];exact if_neg h15)
end Go.Proofs.YteepmmghanbllaaGreatDoor
namespace Go.K
open Go Go.RowKit
section
variable {c:Cx} {ds:List Deferred} {p:Post} {T:List (Nat×Value)} {H:List Res} {ops:Array Oper} {rest:List Oper} {ty:TypeId} {ps:String} {af:Array Edge} {x y:Operand}
theorem zpS {t:TypeId} {gg:Bool} {b o:Nat} {z v:Value} {cs:List Value} {e:TypeId} (i:Nat) (ht:TF c.P t gg 1 z) (hx:evo T x=some (.pointer (some ⟨b,o,none⟩))) (hy:evo T y=some v)
  (hv:v.cells=#[v]) (h1:zgS v=true) (hi:H[i]?=some (Box b cs e)) (ho:o<cs.length)
  (kk:GK c ds (KL c ops p rest) T (H.set i (Box b (cs.set o v) e))):GK c ds (KL c ops p (⟨none,.store t x y,ty,ps,af,none⟩ :: rest)) T H:=
 zaA i ht hx hy (vs:=[v]) hv I (by simp [h1]) hi (Nat.ble_eq_true_of_le ho) kk
end
section
variable {c:Cx} {T:List (Nat×Value)} {H H':List Res} {R:Ending→World→Prop} {fn:Func}
theorem zgW {g:FuncId} {cap:List Value} {v:Value} (he:En c.P g)
  (hc:∀ w,Hp c.U c.w0 H w→CallsDIn Fence.wide 0 c.P g cap.toArray .returning w (λ e u' w'=>(∃ v,e=.returned v)∧settle u' = .returning∧Hp c.U c.w0 H' w'))
  (hv:RV c [] T H' fn v) (h:∀ w,Hp c.U c.w0 H' w→R (.returned v) w):GK c [{ target:=.fn (.func g) cap.toArray,args:=#[] }] (RetP c.P fn R) T H:=by
 intro a w ha hw
 show LeavesInM Fence.wide 0 c.P fn a.tmps R a.defers .returning w
 rw [ha.defers]
 refine zjn he (by simp) (CallsDIn.mono (hc w hw) ?_)
 rintro e u' w' ⟨hr,hs,hx⟩
 exact⟨hr,hs,v,hv { a with defers:=[] } w' ⟨ha.size,ha.val,rfl⟩ hx,h w' hx⟩
end
end Go.K
namespace Go.Proofs.YteepmmghanbllaaGreatDoor
open Go.K Go.Stn Go.Pln Go.RowKit
theorem zA1:TF Tryz.prog 199 false 1 (.pointer none):=tK
theorem zH4:TF Tryz.prog 229 false 1 (.pointer none):=tK
theorem zH1:SE Tryz.prog 249 229 1:=⟨Tryz.underlying249,by kernel_rfl⟩
theorem zDJ:En Tryz.prog 125:=eK Tryz.func125
theorem zF4:En Tryz.prog 150:=eK Tryz.func150
theorem zxi:En Tryz.prog 151:=eK Tryz.func151
theorem zHF:En Tryz.prog 152:=eK Tryz.func152
theorem zpK {l:List Nat} {i:Nat} (h:i<l.length):l.getD i 0∈l:=by simp [h]
theorem zfl (r:Nat) (ws:List ByteArray) (b:Nat) (cs:List Value) (t:TypeId) (os:List Nat) (ps:List (Nat×Nat)) (a:yO) (cap:Nat) (w:World) (B:Nat→Prop) (hB:yak B w) (hA:(SepR [Rdr 202 r ws,Box b cs t]).A B w) (hl:Rd (λ k=>k<w.heap.size∧¬ B k) w (zaW a 1 zhZ ps)) (hps:ps=os.map (λ o=>(b,o))) (ho:∀ o∈os,o<cs.length) (hs:zaP ps.length) :
  Calls Tryz.prog 125 #[Z r,C a ps.length cap] w (zej 46 (zco os.length ws) (λ _x (_:Unit)=>.tuple #[]) (λ x _=>SepR [Rdr 202 r x.2,Box b (zlz cs os x.1) t]) B w):=by
 have hlen:ps.length=os.length:=by rw [hps,lM]
 refine zby hB hA (vs:=[_,_]) Tryz.func125 I I (bL I) (zbP (gS (gM I (gQ (zaV (Tryz.underlying249) I) (gM I (gN [0,7,8,9] I (zas (zbf (X:=Int×List ByteArray×List Value) (λ⟨i,us,ds⟩=>[(0,Z r),(7,C a ps.length cap),(8,O (ps.length:Int)),(9,O i)]) (λ⟨i,us,ds⟩=>[Rdr 202 r us,Box b ds t]) (λ⟨i,us,ds⟩=>(0≤i∧i≤ps.length∧ds.length=cs.length∧putE (os.drop i.toNat) ds us=putE os cs ws)) (λ⟨i,us,ds⟩=>(ps.length - i).toNat) (0,ws,cs) ⟨I,I,I,I,trivial⟩ rfl ?_ ?_))))))))
 ·exact⟨by omega,by omega,rfl,rfl⟩
 ·rintro ⟨i,us,ds⟩ hI
  obtain⟨g0,g1,g2,g3⟩:=hI
  refine gS (gQ (zbw I I) (gN [0,7,8,9,10] I (zac (zap I (λ hc10=>?_) (λ hc10=>?_)))))
  ·have hc10:=oT hc10
   refine zaq (zac (zas (gS (gQ (zaE zH1 I I (λ _ hw=>(Rd.has hl hw))) (gQ (zcE zH4 I (λ _ hw=>(Rd.has hl hw)) (by omega) (by omega) I) (gA I (gN [0,5,7,8,9] I ?_)))))))
   have hg5:ps.getD i.toNat default=(b,os.getD i.toNat 0):=by rw [hps];exact ztP g0 (by omega)
   refine zae (T':=[(0,_),(5,.pointer (some ⟨b,os.getD i.toNat 0,none⟩)),(7,_),(8,_),(9,_)]) ⟨rfl,(by show some (Value.pointer (some ⟨(ps.getD i.toNat default).1,(ps.getD i.toNat default).2,none⟩))=_;rw [hg5]),I,I,I,trivial⟩ (gS (gM I (zbZ (res:=zdp us) 0 zwY I I I (λ w B hF=>zli r us w B (λ k hk=>(hF.own k hk).2) hF.A) (λ k hk14=>?_) (λ x14 m14 hx14=>?_))))
   ·exact za6 (zqt (by rw [←g3,zkh g0 (by omega),ziy,numE,hk14];rfl))
   refine gA I (gN [0,5,6,7,8,9] I (zac (gS (gM I (gQ (zaJ zxi I (λ w hw=>zoj _ w)) (gQ (zbR I) (gN [0,5,6,7,8,9,17] I (zap I (λ hc17=>?_) (λ hc17=>?_)))))))))
   ·have h17:¬ numW x14.1=true:=by simpa using hc17
    refine zaa (zcg zwZ I (λ w hw=>zdk _ w) ?_)
    exact za6 (zqt (by rw [←g3,zkh g0 (by omega),ziy,numE,hx14,zak,if_neg h17];rfl))
   ·have h17:numW x14.1=true:=by simpa using hc17
    refine zaq (zaa (gM I (gM I (gQ (zaJ zHF I (λ w hw=>zu3 _ w (by assumption))) (gM I (gQ (zaB I I) (gQ (zaB I I) (gQ (zbx I) (zpS 1 tf3 I I I I I (by rw [g2];exact ho _ (zpK (by omega))) (gN [0,7,8,9] I (zaa (gQ (zaY I I) (gM I (gN [0,7,8,9] I ?_))))))))))))))
    exact za1 (i+1,x14.2,_) ⟨I,I,I,I,trivial⟩ rfl ⟨by omega,by omega,by rw [List.length_set,g2],by rw [←g3,zkh g0 (by omega),ziy,numE,hx14,zak,if_pos h17];rfl⟩ (by simp only [];omega)
  ·have hc10:=oD hc10
   refine za8 I ?_
   obtain⟨l,hl1,hl2⟩:=zwf (os:=os) (cs:=cs) (ws:=ws) (cs':=ds) (ws':=us) (by rw [←g3,List.drop_of_length_le (by omega),zr5])
   refine zbT 2 ?_
   exact zdm (l,us) () 0 (zcN I) I (by rw [hl2];rfl) hl1
theorem ziv (r:Nat) (ws:List ByteArray) (b:Nat) (cs:List Value) (t:TypeId) (os:List Nat) (ps:List (Nat×Nat)) (a:yO) (cap:Nat) (u:ByteArray) (br:Nat) (w:World) (B:Nat→Prop) (hB:yak B w) (hA:(SepR [Rdr 202 r ws,Box b cs t]).A B w) (hl:Rd (λ k=>k<w.heap.size∧¬ B k) w (zaW a 1 zhZ ps)) (hps:ps=os.map (λ o=>(b,o))) (ho:∀ o∈os,o<cs.length) (hs:zaP ps.length) (hb:Rd (λ k=>k<w.heap.size∧¬ B k) w (Box br [Z r] 199)) :
  Calls Tryz.prog 149 #[.string u,C a ps.length cap,Z br] w (zej 46 (oneE u os.length ws) (λ _x (_:Unit)=>.tuple #[]) (λ x _=>SepR [Rdr 202 r x.2,Box b (zlz cs os x.1) t]) B w):=by
 refine zby hB hA (vs:=[_,_,_]) Tryz.func149 I I (bL I) (zbP (gS (gQ (zbW zA1 I (λ _ hw=>zaQ (Rd.has hb hw) I)) (gM I (zbZ (res:=sayE u ws) 0 zF4 I I I (λ w B hF=>zuG r ws u w B (λ k hk=>(hF.own k hk).2) hF.A) (λ k hk7=>?_) (λ x7 m7 hx7=>?_))))))
 ·exact za6 (by rw [oneE,hk7];first|done|rfl)
 refine gN [1,2] I (zaa (gQ (zbW zA1 I (λ _ hw=>zaQ (Rd.has hb hw) I)) (gM I (zao 1 I (zao 1 I (zbT 2 (zbZ 0 zDJ I I I (λ w B hF=>zfl r x7.2 b cs t os ps _ _ w B (λ k hk=>(hF.own k hk).2) hF.A (hF.rd hl) hps ho hs) (λ k hk10=>?_) (λ x10 m10 hx10=>?_))))))))
 ·exact za6 (by rw [oneE,hx7,zak,hk10];first|done|rfl)
 refine zag (zae (T':=[]) trivial ?_)
 exact zdm x10 () 0 (zcN I) I I (by rw [oneE,hx7,zak,hx10])
theorem zHW:SA Tryz.prog 252 9 4 1:=⟨Tryz.underlying252,by kernel_rfl⟩
theorem af45:AF Tryz.prog 45 3 1 8 [O 0]:=⟨Tryz.underlying45,by kernel_rfl,rfl⟩
theorem zF3:En Tryz.prog 124:=eK Tryz.func124
theorem zHb:En Tryz.prog 127:=eK Tryz.func127
theorem zAF:En Tryz.prog 149:=eK Tryz.func149
theorem zEA (x0:ByteArray) (w:World):(Instr.build 118 #[(0,.string x0)]).run Tryz.prog w=.ok (.agg #[.string x0,O 0,O 0,O 0,O 0,C none 0 0,O 0,O 0,O 0,O 0,O 0,O 0,O 0,.int .u8 0,O 0,O 0,O 0,O 0,O 0,O 0]) w:=by kernel_rfl
theorem zA3 (x0_0:Int) (w:World):(Instr.buildSlice 45 1 #[(0,O x0_0)]).run Tryz.prog w=.ok (C (some ⟨w.heap.size,0,none⟩) 1 1) (w.alloc (.cells (([x0_0]:List (Int)).flatMap D).toArray 3)):=by kernel_rfl
theorem zy9 (x0:Nat×Nat) (w:World):(Instr.buildSlice 249 1 #[(0,.pointer (some ⟨x0.1,x0.2,none⟩))]).run Tryz.prog w=.ok (C (some ⟨w.heap.size,0,none⟩) 1 1) (w.alloc (.cells (([x0]:List (Nat×Nat)).flatMap zhZ).toArray 229)):=by kernel_rfl
theorem zB6 (x0 x1:Nat×Nat) (w:World):(Instr.buildSlice 249 2 #[(0,.pointer (some ⟨x0.1,x0.2,none⟩)),(1,.pointer (some ⟨x1.1,x1.2,none⟩))]).run Tryz.prog w=.ok (C (some ⟨w.heap.size,0,none⟩) 2 2) (w.alloc (.cells (([x0,x1]:List (Nat×Nat)).flatMap zhZ).toArray 229)):=by kernel_rfl
theorem zFR (x0 x1 x2:Nat×Nat) (w:World):(Instr.buildSlice 249 3 #[(0,.pointer (some ⟨x0.1,x0.2,none⟩)),(1,.pointer (some ⟨x1.1,x1.2,none⟩)),(2,.pointer (some ⟨x2.1,x2.2,none⟩))]).run Tryz.prog w=.ok (C (some ⟨w.heap.size,0,none⟩) 3 3) (w.alloc (.cells (([x0,x1,x2]:List (Nat×Nat)).flatMap zhZ).toArray 229)):=by kernel_rfl
abbrev yao (w:World) (B:Nat→Prop):=Rd (λ k=>k<w.heap.size∧¬ B k) w (zaW (some ⟨1,0,none⟩) 1 encS zeZ)
theorem zuH (r:Nat) (ws:List ByteArray) (w:World) (B:Nat→Prop) (hB:yak B w) (hA:(Rdr 202 r ws).A B w) (hws:ws.length≤100000) (hcp:yao w B) :
  Calls Tryz.prog 121 #[Z r] w (zej 46 (zci ws) (λ x (m:Option Addr×Nat)=>.agg (zbH ⟨x.1,m.1,m.2⟩).toArray) (λ x m=>SepR [Rdr 202 r x.2,Row m.1 1 m.2 3 D x.1.heights]) B w):=by
 refine zby hB hA (vs:=[_]) Tryz.func121 I I (bL I) (gS (zaG I I (za3 (vs:=[_]) I I) λ b1=>(zaG I I (zaL zyq (zs:=[_,_,_,_,_,_,_,_,_,_,_,_,_,_,_,_,_,_,_,_]) I) λ b2=>(gN [1,2] I (gS (gQ (zah 1 zA1 I I I) (zbZ (res:=zes ws) 2 zF3 I I I (λ w B hF=>zqa r ws w B (λ k hk=>(hF.own k hk).2) hF.A) (λ k hk7=>?_) (λ x7 m7 hx7=>?_))))))))
 ·exact za6 (by rw [zci,hk7];first|done|rfl)
 refine gQ (zaI I (zEA _)) (zaG I I (zaL zyq (zs:=[_,_,_,_,_,_,_,_,_,_,_,_,_,_,_,_,_,_,_,_]) I) λ b3=>(zbz 0 zyq I I (vs:=[_,_,_,_,_,_,_,_,_,_,_,_,_,_,_,_,_,_,_,_]) I I I I I (gN [1,2,3] I (gS (gQ (zbO («as»:=[]) (bs:=[_]) I I) (gA I (gN [1,2,3,4] I (gS (gM I (gQ (zab zCg I) (zaG I I (zaD I (zy9 (b3,1)) zbj I) λ b12=>(zao 1 I (zao 4 I (zbT 2 (zcB (res:=oneE (⟨#[98,97,115,101]⟩:ByteArray) 1 x7.2) (fs:=[]) (cap:=[_]) 0 zAF I I I I (λ w B hF=>ziv r x7.2 b3 [.string x7.1,O 0,O 0,O 0,O 0,C none 0 0,O 0,O 0,O 0,O 0,O 0,O 0,O 0,.int .u8 0,O 0,O 0,O 0,O 0,O 0,O 0] 118 [1] [(b3,1)] _ _ (⟨#[98,97,115,101]⟩:ByteArray) b1 w B (λ k hk=>(hF.own k hk).2) hF.A (zdX zbj (hF.other 0 I)) I (by intro o ho;simp at ho;simp;omega) (by simp [zaP]) (hF.other 2 I)) (λ k hk13=>?_) (λ x13 m13 hx13=>?_))))))))))))))))
 ·exact za6 (by rw [zci,hx7,zak,hk13];first|done|rfl)
 refine zbP (za2 (R':=Box b3 [.string x7.1,O ((x13.1).getD 0 0),O 0,O 0,O 0,C none 0 0,O 0,O 0,O 0,O 0,O 0,O 0,O 0,.int .u8 0,O 0,O 0,O 0,O 0,O 0,O 0] 118) 1 I (λ B w hA=>hA) (zaK 2 I (gN [1,2,3,4] I (gS (gM I (gQ (zab zCh I) (zaG I I (zaD I (zy9 (b3,2)) zbj I) λ b16=>(zao 2 I (zao 2 I (zbT 2 (zcB (res:=oneE (⟨#[98,97,116,116,101,114]⟩:ByteArray) 1 x13.2) (fs:=[]) (cap:=[_]) 0 zAF I I I I (λ w B hF=>ziv r x13.2 b3 [.string x7.1,O ((x13.1).getD 0 0),O 0,O 0,O 0,C none 0 0,O 0,O 0,O 0,O 0,O 0,O 0,O 0,.int .u8 0,O 0,O 0,O 0,O 0,O 0,O 0] 118 [2] [(b3,2)] _ _ (⟨#[98,97,116,116,101,114]⟩:ByteArray) b1 w B (λ k hk=>(hF.own k hk).2) hF.A (zdX zbj (hF.other 0 I)) I (by intro o ho;simp at ho;simp;omega) (by simp [zaP]) (hF.other 2 I)) (λ k hk17=>?_) (λ x17 m17 hx17=>?_))))))))))))
 ·exact za6 (by rw [zci,hx7,zak,hx13,zak,hk17];first|done|rfl)
 refine zbP (za2 (R':=Box b3 [.string x7.1,O ((x13.1).getD 0 0),O ((x17.1).getD 0 0),O 0,O 0,C none 0 0,O 0,O 0,O 0,O 0,O 0,O 0,O 0,.int .u8 0,O 0,O 0,O 0,O 0,O 0,O 0] 118) 1 I (λ B w hA=>hA) (zaK 2 I (gN [1,2,3,4] I (gS (gM I (gQ (zab zyM I) (zaG I I (zaD I (zy9 (b3,3)) zbj I) λ b20=>(zao 2 I (zao 2 I (zbT 2 (zcB (res:=oneE (⟨#[104,101,105,103,104,116]⟩:ByteArray) 1 x17.2) (fs:=[]) (cap:=[_]) 0 zAF I I I I (λ w B hF=>ziv r x17.2 b3 [.string x7.1,O ((x13.1).getD 0 0),O ((x17.1).getD 0 0),O 0,O 0,C none 0 0,O 0,O 0,O 0,O 0,O 0,O 0,O 0,.int .u8 0,O 0,O 0,O 0,O 0,O 0,O 0] 118 [3] [(b3,3)] _ _ (⟨#[104,101,105,103,104,116]⟩:ByteArray) b1 w B (λ k hk=>(hF.own k hk).2) hF.A (zdX zbj (hF.other 0 I)) I (by intro o ho;simp at ho;simp;omega) (by simp [zaP]) (hF.other 2 I)) (λ k hk21=>?_) (λ x21 m21 hx21=>?_))))))))))))
 ·exact za6 (by rw [zci,hx7,zak,hx13,zak,hx17,zak,hk21];first|done|rfl)
 refine zbP (za2 (R':=Box b3 [.string x7.1,O ((x13.1).getD 0 0),O ((x17.1).getD 0 0),O ((x21.1).getD 0 0),O 0,C none 0 0,O 0,O 0,O 0,O 0,O 0,O 0,O 0,.int .u8 0,O 0,O 0,O 0,O 0,O 0,O 0] 118) 1 I (λ B w hA=>hA) (zaK 2 I (gN [1,2,3,4] I (gS (gM I (gQ (zab zDM I) (zaG I I (zaD I (zy9 (b3,4)) zbj I) λ b24=>(zao 2 I (zao 2 I (zbT 2 (zcB (res:=oneE (⟨#[115,107,105,110]⟩:ByteArray) 1 x21.2) (fs:=[]) (cap:=[_]) 0 zAF I I I I (λ w B hF=>ziv r x21.2 b3 [.string x7.1,O ((x13.1).getD 0 0),O ((x17.1).getD 0 0),O ((x21.1).getD 0 0),O 0,C none 0 0,O 0,O 0,O 0,O 0,O 0,O 0,O 0,.int .u8 0,O 0,O 0,O 0,O 0,O 0,O 0] 118 [4] [(b3,4)] _ _ (⟨#[115,107,105,110]⟩:ByteArray) b1 w B (λ k hk=>(hF.own k hk).2) hF.A (zdX zbj (hF.other 0 I)) I (by intro o ho;simp at ho;simp;omega) (by simp [zaP]) (hF.other 2 I)) (λ k hk25=>?_) (λ x25 m25 hx25=>?_))))))))))))
 ·exact za6 (by rw [zci,hx7,zak,hx13,zak,hx17,zak,hx21,zak,hk25];first|done|rfl)
 refine zbP (za2 (R':=Box b3 [.string x7.1,O ((x13.1).getD 0 0),O ((x17.1).getD 0 0),O ((x21.1).getD 0 0),O ((x25.1).getD 0 0),C none 0 0,O 0,O 0,O 0,O 0,O 0,O 0,O 0,.int .u8 0,O 0,O 0,O 0,O 0,O 0,O 0] 118) 1 I (λ B w hA=>hA) (zaK 2 I (gN [1,2,3,4] I (gS (gQ (zah 3 zA1 I I I) (zbZ (res:=sayE (⟨#[104,101,105,103,104,116,115]⟩:ByteArray) x25.2) 0 zF4 I I I (λ w B hF=>zuG r x25.2 (⟨#[104,101,105,103,104,116,115]⟩:ByteArray) w B (λ k hk=>(hF.own k hk).2) hF.A) (λ k hk27=>?_) (λ x27 m27 hx27=>?_)))))))
 ·exact za6 (by rw [zci,hx7,zak,hx13,zak,hx17,zak,hx21,zak,hx25,zak,hk27];first|done|rfl)
 refine gN [1,2,3,4] I ?_
 have hlen27:x27.2.length≤ws.length:=by have:=znu hx7;have:=zfo hx13;have:=zfo hx17;have:=zfo hx21;have:=zfo hx25;have:=zmz hx27;omega
 refine zao 3 I (zao 3 I (zao 3 I (zao 3 I (zac (zas (zbB 3 D 1 (zbf (X:=List Int×List ByteArray×Option Addr×Nat) (λ⟨acc,us,ha,hc⟩=>[(1,Z b1),(2,Z b2),(3,Z b3),(4,.func (.func 149) #[] #[Z b1])]) (λ⟨acc,us,ha,hc⟩=>[Row ha 1 hc 3 D acc,Rdr 202 r us,Box b3 [.string x7.1,O ((x13.1).getD 0 0),O ((x17.1).getD 0 0),O ((x21.1).getD 0 0),O ((x25.1).getD 0 0),C ha acc.length hc,O 0,O 0,O 0,O 0,O 0,O 0,O 0,.int .u8 0,O 0,O 0,O 0,O 0,O 0,O 0] 118,Box b2 [.string ⟨#[]⟩,O 0,O 0,O 0,O 0,C none 0 0,O 0,O 0,O 0,O 0,O 0,O 0,O 0,.int .u8 0,O 0,O 0,O 0,O 0,O 0,O 0] 118,Box b1 [Z r] 199]) (λ⟨acc,us,ha,hc⟩=>(zbF acc us=zbF [] x27.2∧acc.length+us.length≤x27.2.length)) (λ⟨acc,us,ha,hc⟩=>us.length) ([],x27.2,none,0) ⟨I,I,I,I,trivial⟩ rfl ?_ ?_)))))))
 ·exact⟨rfl,by simp⟩
 ·rintro ⟨acc,us,ha,hc⟩ hI
  obtain⟨hI,hal⟩:=hI
  refine zao 1 I (zgV λ a1h c1h hc1h=>(zac (zac (gZ 15 (ph_y (zah 5 zA1 I I I) (ph_y (zbx I) (ph_y (zab zzR I) (ph_y (zah 0 tf26 I I I) (ph_y (zaV (Tryz.underlying26) I) (ph_y (zc6 I I) (ph_y (zaf I) (zaH I I (λ hgd=>by(try rw [hgd]);(try have hgd2:=oT hgd);exact(zah 5 zA1 I I I)) (zaH I I (λ hgd=>by(try rw [hgd]);(try have hgd2:=oT hgd);exact(zbx I)) (zaH I I (λ hgd=>by(try rw [hgd]);(try have hgd2:=oT hgd);exact(zab zzR I)) (zaH I I (λ hgd=>by(try rw [hgd]);(try have hgd2:=oT hgd);exact(zah 0 tf26 I I I)) (zaH I I (λ hgd=>by(try rw [hgd]);(try have hgd2:=oT hgd);exact(zaE se26 I I (λ _ hw=>(hw.has (p:=1) I)))) (zaH I I (λ hgd=>by(try rw [hgd]);(try have hgd2:=oT hgd);exact(zcE tf9 I (λ _ hw=>(hw.has (p:=1) I)) (by omega) (by omega) I)) (zaH I I (λ hgd=>by(try rw [hgd]);(try have hgd2:=oT hgd);exact(ziV I I)) (ph_y (zaX I I I) (gN [1,2,3,4,42] I (zao 1 I (zao 1 I (zeH hc1h (zao 4 I (zap I (λ hc42=>?_) (λ hc42=>?_))))))))))))))))))))))))))
  ·simp only [aT,dT] at hc42
   have h0:¬ us.length=0:=by have:=hc42.1;omega
   have hl0:¬ ((us.getD 0 default).toList == wLeast.toList)=true:=by have:=hc42.2;rw [nT] at this;rw [show((us.getD 0 default).toList == wLeast.toList)=false from this];exact fT
   refine zaq (zas (gS (zaG I I (zaL tf3 (zs:=[_]) I) λ b5=>(gN [1,2,3,4,5] I (gS (gQ (zah 1 zA1 I I I) (zaG I I (zaD I (zy9 (b5,0)) zbj I) λ b44=>(zao 1 I (zao 3 I (zbT 2 (zbZ (res:=zco 1 us) 0 zDJ I I I (λ w B hF=>zfl r us b5 [O 0] 3 [0] [(b5,0)] _ _ w B (λ k hk=>(hF.own k hk).2) hF.A (zdX zbj (hF.other 0 I)) I (by intro o ho;simp at ho;simp;omega) (by simp [zaP])) (λ k hk45=>?_) (λ x45 m45 hx45=>?_))))))))))))
   ·have hh6:zbF [] x27.2=.error k:=by rw [←hI,zgs h0 hl0,hk45];rfl
    exact za6 (by rw [zci,hx7,zak,hx13,zak,hx17,zak,hx21,zak,hx25,zak,hx27,zak,hh6];first|done|rfl)
   refine zbP (za2 (R':=Box b5 [O ((x45.1).getD 0 0)] 3) 1 I (λ B w hA=>hA) (zaK 2 I (gN [1,2,3,4,5] I (zaa (gQ (zab zzi I) (gQ (zah 4 tf45 I I I) (gQ (zah 1 tf3 I I I) (zaG I I (zaD I (zA3 _) Go.Stn.encI_ok I) λ b49=>(zb4 (m:=[((x45.1).getD 0 0)]) 4 af45 Go.Stn.encI_ok I I I I (λ _ hw=>(zam Go.Stn.encI_ok (hw.has (p:=0) I))) (by first|omega|(simp only [lC,lN];omega)) (by first|(unfold maxLen;omega)|(simp only [lC,lN,maxLen];omega)) λ a50 c50=>(gQ (zab zzi I) (zaA 5 tf45 I I (vs:=[_]) I I I I I (gN [1,2,3,4] I (zaK 0 I (zaK 1 I (zao 1 I (zao 4 I (zao 4 I (zao 3 I (zao 4 I ?_)))))))))))))))))))
   exact za1 (acc++[(x45.1).getD 0 0],x45.2,a50,c50) ⟨I,I,I,I,trivial⟩ rfl ⟨by rw [←hI,zgs h0 hl0,hx45];rfl,by have:=zlj hx45;simp only [lA,lC,lN];omega⟩ (by have:=zlj hx45;simp only [];omega)
  ·simp only [Bool.and_eq_false_iff,dF] at hc42
   have hh6:zbF [] x27.2=.ok (acc,us):=by rw [←hI];exact zk4 (by rcases hc42 with h|h;exact .inl (by omega);exact .inr (zll h))
   refine za8 I (gS (gM I (gQ (zab zCi I) (zaG I I (zaD I (zy9 (b3,6)) zbj I) λ b54=>(zao 4 I (zao 3 I (zbT 2 (zcB (res:=oneE (⟨#[108,101,97,115,116]⟩:ByteArray) 1 us) (fs:=[]) (cap:=[_]) 0 zAF I I I I (λ w B hF=>ziv r us b3 [.string x7.1,O ((x13.1).getD 0 0),O ((x17.1).getD 0 0),O ((x21.1).getD 0 0),O ((x25.1).getD 0 0),C ha acc.length hc,O 0,O 0,O 0,O 0,O 0,O 0,O 0,.int .u8 0,O 0,O 0,O 0,O 0,O 0,O 0] 118 [6] [(b3,6)] _ _ (⟨#[108,101,97,115,116]⟩:ByteArray) b1 w B (λ k hk=>(hF.own k hk).2) hF.A (zdX zbj (hF.other 0 I)) I (by intro o ho;simp at ho;simp;omega) (by simp [zaP]) (hF.other 1 I)) (λ k hk55=>?_) (λ x55 m55 hx55=>?_)))))))))
   ·exact za6 (by rw [zci,hx7,zak,hx13,zak,hx17,zak,hx21,zak,hx25,zak,hx27,zak,hh6,zak,hk55];first|done|rfl)
   refine zbP (za2 (R':=Box b3 [.string x7.1,O ((x13.1).getD 0 0),O ((x17.1).getD 0 0),O ((x21.1).getD 0 0),O ((x25.1).getD 0 0),C ha acc.length hc,O ((x55.1).getD 0 0),O 0,O 0,O 0,O 0,O 0,O 0,.int .u8 0,O 0,O 0,O 0,O 0,O 0,O 0] 118) 1 I (λ B w hA=>hA) (zaK 2 I (gN [1,2,3,4] I (gS (gM I (gQ (zab zDN I) (zaG I I (zaD I (zy9 (b3,7)) zbj I) λ b58=>(zao 2 I (zao 2 I (zbT 2 (zcB (res:=oneE (⟨#[108,97,112]⟩:ByteArray) 1 x55.2) (fs:=[]) (cap:=[_]) 0 zAF I I I I (λ w B hF=>ziv r x55.2 b3 [.string x7.1,O ((x13.1).getD 0 0),O ((x17.1).getD 0 0),O ((x21.1).getD 0 0),O ((x25.1).getD 0 0),C ha acc.length hc,O ((x55.1).getD 0 0),O 0,O 0,O 0,O 0,O 0,O 0,.int .u8 0,O 0,O 0,O 0,O 0,O 0,O 0] 118 [7] [(b3,7)] _ _ (⟨#[108,97,112]⟩:ByteArray) b1 w B (λ k hk=>(hF.own k hk).2) hF.A (zdX zbj (hF.other 0 I)) I (by intro o ho;simp at ho;simp;omega) (by simp [zaP]) (hF.other 1 I)) (λ k hk59=>?_) (λ x59 m59 hx59=>?_))))))))))))
   ·exact za6 (by rw [zci,hx7,zak,hx13,zak,hx17,zak,hx21,zak,hx25,zak,hx27,zak,hh6,zak,hx55,zak,hk59];first|done|rfl)
   refine zbP (za2 (R':=Box b3 [.string x7.1,O ((x13.1).getD 0 0),O ((x17.1).getD 0 0),O ((x21.1).getD 0 0),O ((x25.1).getD 0 0),C ha acc.length hc,O ((x55.1).getD 0 0),O ((x59.1).getD 0 0),O 0,O 0,O 0,O 0,O 0,.int .u8 0,O 0,O 0,O 0,O 0,O 0,O 0] 118) 1 I (λ B w hA=>hA) (zaK 2 I (gN [1,2,3,4] I (gS (gM I (gQ (zab zDO I) (zaG I I (zaD I (zy9 (b3,8)) zbj I) λ b62=>(zao 2 I (zao 2 I (zbT 2 (zcB (res:=oneE (⟨#[114,117,110]⟩:ByteArray) 1 x59.2) (fs:=[]) (cap:=[_]) 0 zAF I I I I (λ w B hF=>ziv r x59.2 b3 [.string x7.1,O ((x13.1).getD 0 0),O ((x17.1).getD 0 0),O ((x21.1).getD 0 0),O ((x25.1).getD 0 0),C ha acc.length hc,O ((x55.1).getD 0 0),O ((x59.1).getD 0 0),O 0,O 0,O 0,O 0,O 0,.int .u8 0,O 0,O 0,O 0,O 0,O 0,O 0] 118 [8] [(b3,8)] _ _ (⟨#[114,117,110]⟩:ByteArray) b1 w B (λ k hk=>(hF.own k hk).2) hF.A (zdX zbj (hF.other 0 I)) I (by intro o ho;simp at ho;simp;omega) (by simp [zaP]) (hF.other 1 I)) (λ k hk63=>?_) (λ x63 m63 hx63=>?_))))))))))))
   ·exact za6 (by rw [zci,hx7,zak,hx13,zak,hx17,zak,hx21,zak,hx25,zak,hx27,zak,hh6,zak,hx55,zak,hx59,zak,hk63];first|done|rfl)
   refine zbP (za2 (R':=Box b3 [.string x7.1,O ((x13.1).getD 0 0),O ((x17.1).getD 0 0),O ((x21.1).getD 0 0),O ((x25.1).getD 0 0),C ha acc.length hc,O ((x55.1).getD 0 0),O ((x59.1).getD 0 0),O ((x63.1).getD 0 0),O 0,O 0,O 0,O 0,.int .u8 0,O 0,O 0,O 0,O 0,O 0,O 0] 118) 1 I (λ B w hA=>hA) (zaK 2 I (gN [1,2,3,4] I (gS (gM I (gQ (zab zBr I) (gQ (zab zAu I) (zaG I I (zaD I (zB6 (b3,9) (b3,10)) zbj I) λ b67=>(zao 2 I (zao 2 I (zbT 2 ?_)))))))))))
   refine zcB (res:=oneE (⟨#[116,104,114,111,117,103,104]⟩:ByteArray) 2 x63.2) (fs:=[]) (cap:=[_]) 0 zAF I I I I (λ w B hF=>ziv r x63.2 b3 [.string x7.1,O ((x13.1).getD 0 0),O ((x17.1).getD 0 0),O ((x21.1).getD 0 0),O ((x25.1).getD 0 0),C ha acc.length hc,O ((x55.1).getD 0 0),O ((x59.1).getD 0 0),O ((x63.1).getD 0 0),O 0,O 0,O 0,O 0,.int .u8 0,O 0,O 0,O 0,O 0,O 0,O 0] 118 [9,10] [(b3,9),(b3,10)] _ _ (⟨#[116,104,114,111,117,103,104]⟩:ByteArray) b1 w B (λ k hk=>(hF.own k hk).2) hF.A (zdX zbj (hF.other 0 I)) I (by intro o ho;simp at ho;simp;omega) (by simp [zaP]) (hF.other 1 I)) (λ k hk68=>?_) (λ x68 m68 hx68=>?_)
   ·exact za6 (by rw [zci,hx7,zak,hx13,zak,hx17,zak,hx21,zak,hx25,zak,hx27,zak,hh6,zak,hx55,zak,hx59,zak,hx63,zak,hk68];first|done|rfl)
   refine zbP (za2 (R':=Box b3 [.string x7.1,O ((x13.1).getD 0 0),O ((x17.1).getD 0 0),O ((x21.1).getD 0 0),O ((x25.1).getD 0 0),C ha acc.length hc,O ((x55.1).getD 0 0),O ((x59.1).getD 0 0),O ((x63.1).getD 0 0),O ((x68.1).getD 0 0),O (((x68.1.drop 1)).getD 0 0),O 0,O 0,.int .u8 0,O 0,O 0,O 0,O 0,O 0,O 0] 118) 1 I (λ B w hA=>hA) (zaK 2 I (gN [1,2,3,4] I (gS (gM I (gQ (zab zCH I) (gQ (zab zCI I) (zaG I I (zaD I (zB6 (b3,11) (b3,12)) zbj I) λ b72=>(zao 2 I (zao 2 I (zbT 2 ?_)))))))))))
   refine zcB (res:=oneE (⟨#[102,111,111,116,105,110,103]⟩:ByteArray) 2 x68.2) (fs:=[]) (cap:=[_]) 0 zAF I I I I (λ w B hF=>ziv r x68.2 b3 [.string x7.1,O ((x13.1).getD 0 0),O ((x17.1).getD 0 0),O ((x21.1).getD 0 0),O ((x25.1).getD 0 0),C ha acc.length hc,O ((x55.1).getD 0 0),O ((x59.1).getD 0 0),O ((x63.1).getD 0 0),O ((x68.1).getD 0 0),O (((x68.1.drop 1)).getD 0 0),O 0,O 0,.int .u8 0,O 0,O 0,O 0,O 0,O 0,O 0] 118 [11,12] [(b3,11),(b3,12)] _ _ (⟨#[102,111,111,116,105,110,103]⟩:ByteArray) b1 w B (λ k hk=>(hF.own k hk).2) hF.A (zdX zbj (hF.other 0 I)) I (by intro o ho;simp at ho;simp;omega) (by simp [zaP]) (hF.other 1 I)) (λ k hk73=>?_) (λ x73 m73 hx73=>?_)
   ·exact za6 (by rw [zci,hx7,zak,hx13,zak,hx17,zak,hx21,zak,hx25,zak,hx27,zak,hh6,zak,hx55,zak,hx59,zak,hx63,zak,hx68,zak,hk73];first|done|rfl)
   refine zbP (za2 (R':=Box b3 [.string x7.1,O ((x13.1).getD 0 0),O ((x17.1).getD 0 0),O ((x21.1).getD 0 0),O ((x25.1).getD 0 0),C ha acc.length hc,O ((x55.1).getD 0 0),O ((x59.1).getD 0 0),O ((x63.1).getD 0 0),O ((x68.1).getD 0 0),O (((x68.1.drop 1)).getD 0 0),O ((x73.1).getD 0 0),O (((x73.1.drop 1)).getD 0 0),.int .u8 0,O 0,O 0,O 0,O 0,O 0,O 0] 118) 1 I (λ B w hA=>hA) (zaK 2 I (gN [1,2,3,4] I (gS (gQ (zah 2 zA1 I I I) (zbZ (res:=sayE (⟨#[99,111,112,101]⟩:ByteArray) x73.2) 0 zF4 I I I (λ w B hF=>zuG r x73.2 (⟨#[99,111,112,101]⟩:ByteArray) w B (λ k hk=>(hF.own k hk).2) hF.A) (λ k hk75=>?_) (λ x75 m75 hx75=>?_)))))))
   ·exact za6 (by rw [zci,hx7,zak,hx13,zak,hx17,zak,hx21,zak,hx25,zak,hx27,zak,hh6,zak,hx55,zak,hx59,zak,hx63,zak,hx68,zak,hx73,zak,hk75];first|done|rfl)
   refine gN [1,2,3,4] I (zac (gZ 2 (ph_y (zah 2 zA1 I I I) (ph_y (zjB zHW I) (gK [1,2,3,4,76,77] I (zbZ (res:=zfk zeZ 0 x75.2) 0 zHb I I I (λ w B hF=>zsX r x75.2 (some ⟨1,0,none⟩) 4 zeZ 0 w B (λ k hk=>(hF.own k hk).2) hF.A (hF.rd hcp) (by decide) (by decide) (by decide)) (λ k hk78=>?_) (λ x78 m78 hx78=>?_)))))))
   ·exact za6 (by rw [zci,hx7,zak,hx13,zak,hx17,zak,hx21,zak,hx25,zak,hx27,zak,hh6,zak,hx55,zak,hx59,zak,hx63,zak,hx68,zak,hx73,zak,hx75,zak,hk78];first|done|rfl)
   refine gQ (zab zCJ I) (zaA 1 tf5 I I (vs:=[_]) I I I I I (gN [1,2,3,4] I (gS (gQ (zah 2 zA1 I I I) (gQ (zab zzh I) (gQ (zab zzx I) (gQ (zab zzy I) (zaG I I (zaD I (zFR (b3,14) (b3,15) (b3,16)) zbj I) λ b84=>(zao 2 I (zao 2 I (zbT 2 (zbZ (res:=zco 3 x78.2) 0 zDJ I I I (λ w B hF=>zfl r x78.2 b3 [.string x7.1,O ((x13.1).getD 0 0),O ((x17.1).getD 0 0),O ((x21.1).getD 0 0),O ((x25.1).getD 0 0),C ha acc.length hc,O ((x55.1).getD 0 0),O ((x59.1).getD 0 0),O ((x63.1).getD 0 0),O ((x68.1).getD 0 0),O (((x68.1.drop 1)).getD 0 0),O ((x73.1).getD 0 0),O (((x73.1.drop 1)).getD 0 0),.int .u8 x78.1,O 0,O 0,O 0,O 0,O 0,O 0] 118 [14,15,16] [(b3,14),(b3,15),(b3,16)] _ _ w B (λ k hk=>(hF.own k hk).2) hF.A (zdX zbj (hF.other 0 I)) I (by intro o ho;simp at ho;simp;omega) (by simp [zaP])) (λ k hk85=>?_) (λ x85 m85 hx85=>?_)))))))))))))
   ·exact za6 (by rw [zci,hx7,zak,hx13,zak,hx17,zak,hx21,zak,hx25,zak,hx27,zak,hh6,zak,hx55,zak,hx59,zak,hx63,zak,hx68,zak,hx73,zak,hx75,zak,hx78,zak,hk85];first|done|rfl)
   refine zbP (za2 (R':=Box b3 [.string x7.1,O ((x13.1).getD 0 0),O ((x17.1).getD 0 0),O ((x21.1).getD 0 0),O ((x25.1).getD 0 0),C ha acc.length hc,O ((x55.1).getD 0 0),O ((x59.1).getD 0 0),O ((x63.1).getD 0 0),O ((x68.1).getD 0 0),O (((x68.1.drop 1)).getD 0 0),O ((x73.1).getD 0 0),O (((x73.1.drop 1)).getD 0 0),.int .u8 x78.1,O ((x85.1).getD 0 0),O (((x85.1.drop 1)).getD 0 0),O ((((x85.1.drop 1).drop 1)).getD 0 0),O 0,O 0,O 0] 118) 1 I (λ B w hA=>hA) (zaK 2 I (gN [2,3,4] I (gS (gM I (gQ (zab zCK I) (gQ (zab zBq I) (zaG I I (zaD I (zB6 (b3,17) (b3,18)) zbj I) λ b89=>(zao 2 I (zao 2 I (zbT 2 ?_)))))))))))
   refine zcB (res:=oneE (⟨#[102,114,105,99,116,105,111,110]⟩:ByteArray) 2 x85.2) (fs:=[]) (cap:=[_]) 0 zAF I I I I (λ w B hF=>ziv r x85.2 b3 [.string x7.1,O ((x13.1).getD 0 0),O ((x17.1).getD 0 0),O ((x21.1).getD 0 0),O ((x25.1).getD 0 0),C ha acc.length hc,O ((x55.1).getD 0 0),O ((x59.1).getD 0 0),O ((x63.1).getD 0 0),O ((x68.1).getD 0 0),O (((x68.1.drop 1)).getD 0 0),O ((x73.1).getD 0 0),O (((x73.1.drop 1)).getD 0 0),.int .u8 x78.1,O ((x85.1).getD 0 0),O (((x85.1.drop 1)).getD 0 0),O ((((x85.1.drop 1).drop 1)).getD 0 0),O 0,O 0,O 0] 118 [17,18] [(b3,17),(b3,18)] _ _ (⟨#[102,114,105,99,116,105,111,110]⟩:ByteArray) b1 w B (λ k hk=>(hF.own k hk).2) hF.A (zdX zbj (hF.other 0 I)) I (by intro o ho;simp at ho;simp;omega) (by simp [zaP]) (hF.other 1 I)) (λ k hk90=>?_) (λ x90 m90 hx90=>?_)
   ·exact za6 (by rw [zci,hx7,zak,hx13,zak,hx17,zak,hx21,zak,hx25,zak,hx27,zak,hh6,zak,hx55,zak,hx59,zak,hx63,zak,hx68,zak,hx73,zak,hx75,zak,hx78,zak,hx85,zak,hk90];first|done|rfl)
   refine zbP (za2 (R':=Box b3 [.string x7.1,O ((x13.1).getD 0 0),O ((x17.1).getD 0 0),O ((x21.1).getD 0 0),O ((x25.1).getD 0 0),C ha acc.length hc,O ((x55.1).getD 0 0),O ((x59.1).getD 0 0),O ((x63.1).getD 0 0),O ((x68.1).getD 0 0),O (((x68.1.drop 1)).getD 0 0),O ((x73.1).getD 0 0),O (((x73.1.drop 1)).getD 0 0),.int .u8 x78.1,O ((x85.1).getD 0 0),O (((x85.1.drop 1)).getD 0 0),O ((((x85.1.drop 1).drop 1)).getD 0 0),O ((x90.1).getD 0 0),O (((x90.1.drop 1)).getD 0 0),O 0] 118) 1 I (λ B w hA=>hA) (zaK 2 I (gN [2,3,4] I (gS (gM I (gQ (zab zCL I) (zaG I I (zaD I (zy9 (b3,19)) zbj I) λ b93=>(zao 2 I (zao 2 I (zbT 2 ?_))))))))))
   refine zcB (res:=oneE (⟨#[114,111,111,100]⟩:ByteArray) 1 x90.2) (fs:=[]) (cap:=[_]) 0 zAF I I I I (λ w B hF=>ziv r x90.2 b3 [.string x7.1,O ((x13.1).getD 0 0),O ((x17.1).getD 0 0),O ((x21.1).getD 0 0),O ((x25.1).getD 0 0),C ha acc.length hc,O ((x55.1).getD 0 0),O ((x59.1).getD 0 0),O ((x63.1).getD 0 0),O ((x68.1).getD 0 0),O (((x68.1.drop 1)).getD 0 0),O ((x73.1).getD 0 0),O (((x73.1.drop 1)).getD 0 0),.int .u8 x78.1,O ((x85.1).getD 0 0),O (((x85.1.drop 1)).getD 0 0),O ((((x85.1.drop 1).drop 1)).getD 0 0),O ((x90.1).getD 0 0),O (((x90.1.drop 1)).getD 0 0),O 0] 118 [19] [(b3,19)] _ _ (⟨#[114,111,111,100]⟩:ByteArray) b1 w B (λ k hk=>(hF.own k hk).2) hF.A (zdX zbj (hF.other 0 I)) I (by intro o ho;simp at ho;simp;omega) (by simp [zaP]) (hF.other 1 I)) (λ k hk94=>?_) (λ x94 m94 hx94=>?_)
   ·exact za6 (by rw [zci,hx7,zak,hx13,zak,hx17,zak,hx21,zak,hx25,zak,hx27,zak,hh6,zak,hx55,zak,hx59,zak,hx63,zak,hx68,zak,hx73,zak,hx75,zak,hx78,zak,hx85,zak,hx90,zak,hk94];first|done|rfl)
   refine zbP (za2 (R':=Box b3 [.string x7.1,O ((x13.1).getD 0 0),O ((x17.1).getD 0 0),O ((x21.1).getD 0 0),O ((x25.1).getD 0 0),C ha acc.length hc,O ((x55.1).getD 0 0),O ((x59.1).getD 0 0),O ((x63.1).getD 0 0),O ((x68.1).getD 0 0),O (((x68.1.drop 1)).getD 0 0),O ((x73.1).getD 0 0),O (((x73.1.drop 1)).getD 0 0),.int .u8 x78.1,O ((x85.1).getD 0 0),O (((x85.1.drop 1)).getD 0 0),O ((((x85.1.drop 1).drop 1)).getD 0 0),O ((x90.1).getD 0 0),O (((x90.1.drop 1)).getD 0 0),O ((x94.1).getD 0 0)] 118) 1 I (λ B w hA=>hA) (zaK 2 I (gN [2,3] I (zac (gS (gQ (zab zzi I) (gQ (zah 1 tf45 I I I) (gQ (zaV (Tryz.underlying45) I) (gQ (zbL I I) (gN [2,3,98] I (zap I (λ hc98=>?_) (λ hc98=>?_))))))))))))
   ·have h98:acc.length=0:=by have:=oT hc98;omega
    refine zaa (zcg zwZ I (λ w hw=>zdk _ w) ?_)
    exact za6 (by rw [zci,hx7,zak,hx13,zak,hx17,zak,hx21,zak,hx25,zak,hx27,zak,hh6,zak,hx55,zak,hx59,zak,hx63,zak,hx68,zak,hx73,zak,hx75,zak,hx78,zak,hx85,zak,hx90,zak,hx94,zak];exact if_pos h98)
   ·have h98:¬ acc.length=0:=by have:=oD hc98;omega
    refine zaq (gS (gQ (zat 1 zyq I I (vs:=[_,_,_,_,_,_,_,_,_,_,_,_,_,_,_,_,_,_,_,_]) I I) (zbz 4 zyq I I (vs:=[_,_,_,_,_,_,_,_,_,_,_,_,_,_,_,_,_,_,_,_]) I I I I I (gN [2] I (zao 3 I (zao 1 I (zbT 2 (zaw ?_))))))))
    exact zdm (⟨x7.1,x13.1.getD 0 0,x17.1.getD 0 0,x21.1.getD 0 0,x25.1.getD 0 0,acc,x55.1.getD 0 0,x59.1.getD 0 0,x63.1.getD 0 0,x68.1.getD 0 0,(x68.1.drop 1).getD 0 0,x73.1.getD 0 0,(x73.1.drop 1).getD 0 0,x78.1,x85.1.getD 0 0,(x85.1.drop 1).getD 0 0,((x85.1.drop 1).drop 1).getD 0 0,x90.1.getD 0 0,(x90.1.drop 1).getD 0 0,x94.1.getD 0 0⟩,x94.2) (ha,hc) 0 (zaC I (zbU (i:=3) (vs:=[.string x7.1,O ((x13.1).getD 0 0),O ((x17.1).getD 0 0),O ((x21.1).getD 0 0),O ((x25.1).getD 0 0),C ha acc.length hc,O ((x55.1).getD 0 0),O ((x59.1).getD 0 0),O ((x63.1).getD 0 0),O ((x68.1).getD 0 0),O (((x68.1.drop 1)).getD 0 0),O ((x73.1).getD 0 0),O (((x73.1.drop 1)).getD 0 0),.int .u8 x78.1,O ((x85.1).getD 0 0),O (((x85.1.drop 1)).getD 0 0),O ((((x85.1.drop 1).drop 1)).getD 0 0),O ((x90.1).getD 0 0),O (((x90.1.drop 1)).getD 0 0),O ((x94.1).getD 0 0)]) zyq I I I I)) I I (by rw [zci,hx7,zak,hx13,zak,hx17,zak,hx21,zak,hx25,zak,hx27,zak,hh6,zak,hx55,zak,hx59,zak,hx63,zak,hx68,zak,hx73,zak,hx75,zak,hx78,zak,hx85,zak,hx90,zak,hx94,zak];exact if_neg h98)
end Go.Proofs.YteepmmghanbllaaGreatDoor
namespace Go.K
open Go Go.RowKit
def zu2 (P:Program) (f:FuncId) (cap:List Value) (xs:List (List Value)) (O S:Res):Prop:=
 ∀ {X:Type} (J:X→Res) (Rl:Nat→X→Prop) (D:X→Prop) (l:Nat) (w:World) (B C:Nat→Prop) (x0:X),(∀ k,B k→k<w.heap.size)→(∀ k,C k→k<w.heap.size∧¬ B k)→(J x0).A B w→O.A C w→Rl 0 x0→Rd (λ k=>k<w.heap.size∧¬ (B k∨C k)) w S →
  (∀ i x args,xs[i]?=some args→Rl i x→zoO P w (λ k=>B k∨C k) l args J x (λ b x'=>if b=true then Rl (i+1) x' else D x')) →
  Calls P f (Value.func (.yield l) #[] #[] :: cap).toArray w (zho (λ _=>.tuple #[]) J (λ x=>Rl xs.length x∨D x) (λ k=>B k∨C k) w)
theorem zsg {R S:Res} {B C:Nat→Prop} {w:World} (h1:R.A B w) (h2:S.A C w) (hd:∀ k,C k→¬ B k):(SepR [R,S]).A (λ k=>B k∨C k) w:=
 ⟨B,C,λ _ h=>.inl h,λ k h=>⟨.inr h,hd k h⟩,h1,C,λ _=>False,λ _ h=>h,λ _ h=>h.elim,h2,trivial⟩
theorem zj0 {c:Cx} {ds:List Deferred} {p:Post} {T:List (Nat×Value)} {H:List Res} {g:Operand} {ps:List Tmp} {assign body:Code} {f:FuncId} {cap:List Value} {xs:List (List Value)} {O S:Res} {X:Type}
  (Hf:X→List Res) (Rl:Nat→X→Prop) (Dr:X→Prop) (exs:List (Nat×(X→Prop))) (x0:X)
  (hr:c.r=none) (he:En c.P f) (hg:evo T g=some (.func (.func f) #[] cap.toArray)) (hH:O :: Hf x0=H) (h0:Rl 0 x0)
  (hseq:zu2 c.P f cap xs O S) (hSR:Rd c.U c.w0 S) (hps:∀ a∈xs,a.length=ps.length) (hpn':ps.all (λ t=>Nat.blt t c.n)=true)
  (hbody:∀ (R1 R2:Res) (l:Nat) (U':Nat→Prop) (w':World) (i:Nat) (x:X) (args:List Value),xs[i]?=some args→Rl i x →
   (∀ S,Rd c.U c.w0 S→Rd U' w' S)→Inside c.U c.w0 ⟨some l,c.P,c.n,U',w'⟩→(∀ T' H' K,GK ⟨some l,c.P,c.n,U',w'⟩ [] K T' (R2 :: H')→GK ⟨some l,c.P,c.n,U',w'⟩ [] (Beg c.P l K) T' (R1 :: H')) →
   GK ⟨some l,c.P,c.n,U',w'⟩ [] (KC ⟨some l,c.P,c.n,U',w'⟩ assign { nrm:=Beg c.P l (KC ⟨some l,c.P,c.n,U',w'⟩ body (zqC ⟨some l,c.P,c.n,U',w'⟩ R2 Hf (Rl (i+1)) Dr exs)),ret:=λ _ _=>False,ex:=[] }) (zipT ps args T) (R1 :: Hf x))
  (hnext:∀ D x,Rl xs.length x→GK c (mark D :: ds) p.nrm T (Dfr D :: Hf x))
  (hret:∀ D x,Dr x→GK c (mark D :: ds) p.ret T (Dfr D :: Hf x))
  (hex:∀ D x id Q,(id,Q)∈exs→Q x→∃ K,lke p.ex id=some K∧GK c (mark D :: ds) K T (Dfr D :: Hf x)) :
  GK c ds (KC c (.rangeFunc g ps.toArray assign body) p) T H:=by
 subst hH
 have hpn:∀ t∈ps,t<c.n:=λ t ht=>bL (List.all_eq_true.1 hpn' t ht)
 intro a w ha hw
 show(Code.rangeFunc g ps.toArray assign body).wpIn (FW c.r) 0 c.P p.Q a w
 rw [hr]
 refine wpIn_rangeFunc ?_
 intro fn hfn
 let D:=w.heap.size
 let l:=w.heap.size+1
 let rec_:LoopState→Option Code→Res:=λ st pe=>SepR [Rec l st pe fn a.tmps ps.toArray assign body D,Dfr D]
 obtain⟨W1,hW1⟩:∃ W1,W1=(w.alloc (.deferred (some []))).alloc (.loop { state:=.ready,pending:=none,fn:=fn,tmps:=a.tmps,params:=ps.toArray,assign:=assign,body:=body,defers:=D }):=⟨_,rfl⟩
 have hdef:Hp c.U c.w0 (Dfr D :: O :: Hf x0) (w.alloc (.deferred (some []))):=
  hw.new (zcG _) (B:=λ k=>k=D) (λ k hk=>by subst hk;exact⟨Nat.le_refl _,by simp [D]⟩) ⟨λ _=>Iff.rfl,World.alloc_heap_new w _⟩
 have hrec:Hp c.U c.w0 (Rec l .ready none fn a.tmps ps.toArray assign body D :: Dfr D :: O :: Hf x0) W1:=by
  rw [hW1]
  refine hdef.new (zcG _) (B:=λ k=>k=l) (λ k hk=>by subst hk;exact⟨by simp [l],by simp [l]⟩) ⟨λ _=>Iff.rfl,?_⟩
  have:=World.alloc_heap_new (w.alloc (.deferred (some []))) (.loop { state:=.ready,pending:=none,fn:=fn,tmps:=a.tmps,params:=ps.toArray,assign:=assign,body:=body,defers:=D })
  rwa [World.size_alloc] at this
 have hst:Hp c.U c.w0 (O :: rec_ .ready none :: Hf x0) W1:=(Hp.pack (L:=[_,_]) hrec).swap
 obtain⟨C,hC,hAO,hrest⟩:=hst.holds
 let J:X×LoopState×Option Code→Res:=λ z=>SepR (rec_ z.2.1 z.2.2 :: Hf z.1)
 have hJ:∃ B,(∀ k,B k→¬ (c.U k∨C k)∧k<W1.heap.size)∧(J (x0,.ready,none)).A B W1:=zdi _ _ hrest
 obtain⟨B0,hB0,hA⟩:=hJ
 let B:Nat→Prop:=λ k=>B0 k∨C k
 have hB:∀ k,B k→¬ c.U k∧k<W1.heap.size:=λ k hk=>hk.elim (λ h=>⟨λ hu=>(hB0 k h).1 (.inl hu),(hB0 k h).2⟩) (hC k)
 have hSR':Rd (λ k=>k<W1.heap.size∧¬ (B0 k∨C k)) W1 S:=by
  obtain⟨E,hE,hSA⟩:=hSR
  have hbase:Base c.U c.w0 W1:=hst.base
  exact⟨E,λ k hk=>⟨lL (hbase.lt k (hE k hk)) hbase.size,λ h=>h.elim (λ h=>(hB0 k h).1 (.inl (hE k hk))) (λ h=>(hC k h).1 (hE k hk))⟩,S.loc E c.w0 W1 (λ k hk=>hbase.same k (hE k hk)) hSA⟩
 have hcalls:=hseq J (λ i z=>z.2.1=.ready∧z.2.2=none∧Rl i z.1)
  (λ z=>z.2.1=.done∧((z.2.2=some .ret∧Dr z.1)∨∃ id Q,z.2.2=some (.exit id)∧(id,Q)∈exs∧Q z.1))
  l W1 B0 C (x0,.ready,none) (λ k hk=>(hB0 k hk).2) (λ k hk=>⟨(hC k hk).2,λ h=>(hB0 k h).1 (.inr hk)⟩) hA hAO ⟨rfl,rfl,h0⟩ hSR' ?rounds
 case rounds=>
  rintro i ⟨x,st,pe⟩ args hargs ⟨hst1,hst2,hR⟩
  simp only at hst1 hst2 hR
  subst hst1;subst hst2
  intro w' B' hm ho hlt hA'
  have hp1:Hp (λ k=>k<w'.heap.size∧¬ B' k) w' (rec_ .ready none :: Hf x) w':=
   ⟨⟨rfl,Tp.same _,rfl,Nat.le_refl _,λ _ h=>h.1,λ _ _=>rfl⟩,zcQ _ _ B' (λ k hk=>⟨λ h=>h.2 hk,hlt k hk⟩) hA'⟩
  have hl:=(zhi (st':=.ready) (pe':=none) hp1).1
  have hy:=run_yield (P:=c.P) (args:=args.toArray) hl (by simp [hps args (List.mem_of_getElem? hargs)])
  refine⟨_,_,_,_,hy,roundIn_of_wpIn trivial ?_⟩
  have hb:=hbody (rec_ .ready none) (rec_ .busy none) l (λ k=>k<w'.heap.size∧¬ B' k) w' i x args hargs hR ?rd ?ins ?beg
  case ins=>
   have hb':Base c.U c.w0 w':=hst.base.mod hm (λ k hk=>(hB k hk).1)
   refine⟨λ k hk=>⟨lL (hb'.lt k hk) hb'.size,λ hbk=>?_⟩,hb'⟩
   rcases ho k hbk with hb2 | ⟨h1,_⟩
   ·exact(hB k hb2).1 hk
   ·have:=hst.base.lt k hk;have:=hst.base.size;omega
  case rd=>
   rintro S ⟨C,hC,hS⟩
   have hb':Base c.U c.w0 w':=hst.base.mod hm (λ k hk=>(hB k hk).1)
   refine⟨C,λ k hk=>⟨lL (hb'.lt k (hC k hk)) hb'.size,λ hbk=>?_⟩,S.loc C c.w0 w' (λ k hk=>hb'.same k (hC k hk)) hS⟩
   rcases ho k hbk with hb2 | ⟨h1,_⟩
   ·exact(hB k hb2).1 (hC k hk)
   ·have:=hst.base.lt k (hC k hk);have:=hst.base.size;omega
  case beg=>
   intro T' H' K hK a1 w1 ha1 hw1
   obtain⟨hl1,hw2⟩:=zhi (st':=.busy) (pe':=none) hw1
   exact⟨_,run_beginRound hl1 I,hK a1 _ ha1 hw2⟩
  have hs:=zmy ps args T a.tmps hpn (Sat.mk ha.size ha.val I)
  have hwalk:=hb _ w' hs hp1
  have harr:((ps.toArray.zip args.toArray).foldl (λ tmps (t,a)=>tmps.setIfInBounds t a) a.tmps)=(ps.zip args).foldl (λ t (p,v)=>t.setIfInBounds p v) a.tmps:=by
   rw [List.zip_toArray,List.foldl_toArray]
  rw [harr]
  refine Go.wpIn_mono hwalk ?_
  intro e a1 w1 hq
  cases e with
  | normal=>
   obtain⟨w2,hbr,hwb⟩:=hq
   refine⟨w2,hbr,Go.wpIn_mono hwb ?_⟩
   intro e a2 w2 hq2
   have fin:∀ (x':X) (j:Option Code),Hp (λ k=>k<w'.heap.size∧¬ B' k) w' (rec_ .busy none :: Hf x') w2→∃ w4,(Instr.endRound l j).run c.P w2=.ok (.bool j.isNone) w4 ∧
     ∃ B'',Mod B' w' w4∧Own B' B'' w' w4∧(J (x',(if j.isNone then .ready else .done),j)).A B'' w4:=by
    intro x' j hw2
    obtain⟨hl2,hw4⟩:=zhi (st':=if j.isNone then .ready else .done) (pe':=j) hw2
    refine⟨_,run_endRound j hl2,?_⟩
    obtain⟨B'',hB'',hA''⟩:=zdi _ _ hw4.holds
    refine⟨B'',⟨hw4.base.os,hw4.base.tape,hw4.base.output,hw4.base.size,λ k hk hb=>hw4.base.same k ⟨hk,hb⟩⟩,λ k hk=>?_,hA''⟩
    by_cases hbk:B' k
    ·exact .inl hbk
    ·exact .inr ⟨Nat.le_of_not_lt λ hlt=>(hB'' k hk).1 ⟨hlt,hbk⟩,(hB'' k hk).2⟩
   cases e with
   | normal=>
    obtain⟨x',_,hw3,hN⟩:=hq2
    obtain⟨w4,hend,B'',hm4,ho4,hA4⟩:=fin x' none hw3
    exact⟨_,w4,hend,true,(x',.ready,none),B'',rfl,(if_pos I).mpr ⟨rfl,rfl,hN⟩,hm4,ho4,hA4⟩
   | ret=>
    obtain⟨x',_,hw3,hD⟩:=hq2
    obtain⟨w4,hend,B'',hm4,ho4,hA4⟩:=fin x' (some .ret) hw3
    exact⟨_,w4,hend,false,(x',.done,some .ret),B'',rfl,(if_neg fT).mpr ⟨rfl,.inl ⟨rfl,hD⟩⟩,hm4,ho4,hA4⟩
   | exit id=>
    change (match lke (exs.map λ e=>(e.1,Join _ [] (λ _=>[]) (λ x=>rec_ .busy none :: Hf x) e.2)) id with|some K=>K a2 w2|none=>False) at hq2
    cases hk:lke (exs.map λ e=>(e.1,Join _ [] (λ _=>[]) (λ x=>rec_ .busy none :: Hf x) e.2)) id with
    | none=>rw [hk] at hq2;exact hq2.elim
    | some K=>
     rw [hk] at hq2
     obtain⟨Q,hmem,rfl⟩:=zmk (λ Q=>Join _ [] (λ _=>[]) (λ x=>rec_ .busy none :: Hf x) Q) exs id K hk
     obtain⟨x',_,hw3,hD⟩:=hq2
     obtain⟨w4,hend,B'',hm4,ho4,hA4⟩:=fin x' (some (.exit id)) hw3
     exact⟨_,w4,hend,false,(x',.done,some (.exit id)),B'',rfl,(if_neg fT).mpr ⟨rfl,.inr ⟨id,Q,rfl,hmem,hD⟩⟩,hm4,ho4,hA4⟩
   | goto t=>exact hq2.elim
   | panic ch=>exact hq2.elim
   | outgrown=>exact hq2.elim
  | ret=>exact hq.elim
  | exit id=>exact hq.elim
  | goto t=>exact hq.elim
  | panic ch=>exact hq.elim
  | outgrown=>exact hq.elim
 refine⟨l,[mark D],W1,{ target:=.fn (.func f) cap.toArray,args:=#[.func (.yield l) #[] #[]] },W1,f,#[.func (.yield l) #[] #[]]++cap.toArray,W1,?_,?_,λ _ _=>trivial,?_,λ h=>by simp [FW] at h,?_⟩
 ·rw [hW1];exact run_enterLoop_outer _ _ _ _ _
 ·simp only [resolve,ha.eval hg,Deferred.ofValue]
  simp [pure,Act.eval]
 ·exact he _ W1
 ·refine zfz.2 ?_
  have e2:(#[Value.func (.yield l) #[] #[]]++cap.toArray:Array Value)=(Value.func (.yield l) #[] #[] :: cap).toArray:=by simp
  rw [e2]
  refine hcalls.mono ?_
  rintro e w3 ⟨⟨x',st,pe⟩,B',rfl,hQ,hm,ho,hA'⟩
  have hlt':∀ k,B' k→k<w3.heap.size:=λ k hk=>by
   rcases ho k hk with hb | ⟨_,h2⟩
   ·exact lL (hB k hb).2 hm.size
   ·exact h2
  have hw3:Hp c.U c.w0 (rec_ st pe :: Hf x') w3:=⟨hst.base.mod hm (λ k hk=>(hB k hk).1),zcQ _ _ B' (λ k hk=>⟨λ hu=>by
   rcases ho k hk with hb | ⟨h1,_⟩
   ·exact(hB k hb).1 hu
   ·have:=hst.base.lt k hu;have:=hst.base.size;omega,hlt' k hk⟩) hA'⟩
  obtain⟨hl3,hw4⟩:=zhi (st':=.exhausted) (pe':=pe) hw3
  have hnb:st≠.busy:=by rcases hQ with ⟨h,_⟩ | ⟨h,_⟩ <;> (simp only at h;subst h;decide)
  refine⟨pe,_,run_endLoop hl3 hnb,?_⟩
  have hw5:Hp c.U c.w0 (Dfr D :: Hf x') _:=(Hp.split (L:=[_,_]) hw4).drop
  have ha5:Sat c.n T (mark D :: ds) { a with defers:=[mark D]++a.defers }:=⟨ha.size,ha.val,by simp [ha.defers]⟩
  rcases hQ with ⟨_,h2,h3⟩ | ⟨_,⟨h2,h3⟩ | ⟨id,Q,h2,h3,h4⟩⟩
  ·simp only at h2 h3;subst h2
   exact hnext D x' h3 _ _ ha5 hw5
  ·simp only at h2 h3;subst h2
   exact wpIn_ret (hret D x' h3 _ _ ha5 hw5)
  ·simp only at h2 h4;subst h2
   obtain⟨K,hk,hG⟩:=hex D x' id Q h3 h4
   exact wpIn_exit (by show(match lke p.ex id with|some K=>K _ _|none=>False);rw [hk];exact hG _ _ ha5 hw5)
def zi5 {X M:Type} (te:TypeId) (res:Except Int X) (V:X→M→Value) (J:X→M→Res) (E:Res) (B:Nat→Prop) (w:World):Ending→World→Prop:=λ e w'=>
 match res with
 | .ok x=>∃ m B',e=.returned (V x m)∧Mod B w w'∧Own B B' w w'∧(J x m).A B' w'
 | .error k=>∃ B',e=.panicked (thrC (errT te k))∧Mod B w w'∧Own B B' w w'∧E.A B' w'
section
variable {c:Cx} {ds:List Deferred} {p:Post} {T:List (Nat×Value)} {H:List Res} {ops:Array Oper} {rest:List Oper} {d:Option Nat} {ty:TypeId} {ps:String} {af:Array Edge}
theorem zie {X M:Type} {te:TypeId} {res:Except Int X} {V:X→M→Value} {J:X→M→Res} {E R:Res} {t:Nat} {f:FuncId} (i:Nat) (he:En c.P f) {fs cap:List Value} (hf:evo T (.tmp t)=some (.func (.func f) fs.toArray cap.toArray)) {os:List Operand} {tys:Array TypeId} {vs:List Value} (hn:zhp d c.n=true) (ha:evs T os=some vs) (hi:H[i]?=some R)
  (hc:∀ w B,Foc c H i R B w→Calls c.P f (fs++vs++cap).toArray w (zi5 te res V J E B w))
  (kt:∀ k,res=.error k→GK c ds (λ a w=>p.pn a (thrC (errT te k)) w) T (H.set i E))
  (k:∀ x m,res=.ok x→GK c ds (KL c ops p rest) (putT d (V x m) T) (H.set i (J x m))) :
  GK c ds (KL c ops p (⟨d,.call ⟨.value (.tmp t),os.toArray,tys⟩,ty,ps,af,none⟩ :: rest)) T H:=by
 refine zk0 I I λ a w hs hw=>?_
 obtain⟨B,hF⟩:=hw.foc hi
 unfold YldT
 rw [zgE he hf ha hs w]
 have:=hc w B hF
 rw [show(fs++vs++cap).toArray=fs.toArray++vs.toArray++cap.toArray from by simp] at this
 refine this.mono ?_
 intro e w' he'
 cases hres:res with
 | ok x=>
  rw [hres] at he'
  obtain⟨m,B',rfl,hm,ho,hA⟩:=he'
  exact .inl ⟨V x m,rfl,k x m hres _ _ (hs.putT hn _) (hF.upd hi hm ho hA)⟩
 | error q=>
  rw [hres] at he'
  obtain⟨B',rfl,hm,ho,hA⟩:=he'
  exact .inr ⟨_,rfl,kt q hres a w' hs (hF.upd hi hm ho hA)⟩
end
section
variable {P:Program} {n:Nat} {w0:World} {B:Nat→Prop} {T:List (Nat×Value)} {H:List Res} {fn:Func} {X M:Type} {te:TypeId} {res:Except Int X} {V:X→M→Value} {J:X→M→Res} {E:Res}
theorem zik {v:Value} (x:X) (m:M) (i:Nat) (hv:RV (cxB P n w0 B) [] T H fn v) (hu:v=V x m) (hi:H[i]?=some (J x m)) (hq:res=.ok x) :
  GK (cxB P n w0 B) [] (RetP P fn (zi5 te res V J E B w0)) T H:=zfh hv λ w hw=>by
 obtain⟨B',h1,h2,_,h3⟩:=zet hw hi
 subst hq
 exact⟨m,B',by rw [hu],h1,h2,h3⟩
theorem zbG {k:Int} {R:Res} (i:Nat) (hi:H[i]?=some R) (hR:∀ B w,R.A B w→E.A B w) (hq:res=.error k):GK (cxB P n w0 B) [] (λ a w=>(poOf P fn (zi5 te res V J E B w0)).pn a (thrC (errT te k)) w) T H:=
 zij (c:=cxB P n w0 B) λ w hw=>by
  obtain⟨B',h1,h2,_,h3⟩:=zet hw hi
  subst hq
  exact⟨B',rfl,h1,h2,hR _ _ h3⟩
end
end Go.K
namespace Go.Pln
open Go Go.K Go.RowKit Go.Stn
structure PTy where
 p:TypeId
 s:TypeId
 w:TypeId
 i:TypeId
 o:TypeId
def plH (y:PTy) (p:Nat) (sa:Option Addr) (sc:Nat) (S:List ShC) (wa:Option Addr) (wc:Nat) (V:List WlC):List Res:=
 [Box p [.slice sa S.length sc,.slice wa V.length wc] y.p,Row sa 20 sc y.s zbH S,Go.K.Rows (rowH y.i) S,Row wa 4 wc y.w zbS V,Go.K.Rows (rowO y.o) V]
def PlE (y:PTy) (p:Nat) (q:Plan):Res where
 A B w:=∃ (sa:Option Addr) (sc:Nat) (S:List ShC) (wa:Option Addr) (wc:Nat) (V:List WlC),S.map (·.s)=q.S∧V.map (·.s)=q.V∧(SepR (plH y p sa sc S wa wc V)).A B w
 loc B w w' h hA:=let ⟨sa,sc,S,wa,wc,V,h1,h2,h3⟩:=hA;⟨sa,sc,S,wa,wc,V,h1,h2,(SepR (plH y p sa sc S wa wc V)).loc B w w' h h3⟩
def plAt (y:PTy) (p:Nat):Res where
 A B w:=∃ B':Nat→Prop,(∀ k,B' k→B k)∧∃ (a:Option Addr) (n c:Nat) (b:Option Addr) (m d:Nat),(Box p [.slice a n c,.slice b m d] y.p).A B' w
 loc _B w w' h hA:=let ⟨B',h1,a,n,c,b,m,d,h2⟩:=hA;⟨B',h1,a,n,c,b,m,d,(Box p [.slice a n c,.slice b m d] y.p).loc B' w w' (λ k hk=>h k (h1 k hk)) h2⟩
def plOr (y:PTy) (p:Nat):Except Int Plan→Res
 | .ok q=>PlE y p q
 | .error _=>plAt y p
theorem zdy {y:PTy} {p:Nat} {q:Plan} (B:Nat→Prop) (w:World) (hA:(PlE y p q).A B w):(plAt y p).A B w:=by
 obtain⟨sa,sc,S,wa,wc,V,_,_,C,E,h1,_,h3,_⟩:=hA
 exact⟨C,h1,sa,_,sc,wa,_,wc,h3⟩
theorem zeb {y:PTy} {p:Nat} {a b:Option Addr} {n c m d:Nat} (B:Nat→Prop) (w:World) (hA:(Box p [.slice a n c,.slice b m d] y.p).A B w):(plAt y p).A B w:=
 ⟨B,λ _ h=>h,a,n,c,b,m,d,hA⟩
theorem zmt {y:PTy} {p:Nat} (B:Nat→Prop) (w:World) (hA:(plAt y p).A B w):(plAt y p).A B w:=hA
section
variable {c:Cx} {ds:List Deferred} {T:List (Nat×Value)} {H:List Res} {K:Act→World→Prop} {y:PTy} {p:Nat} {q:Plan}
theorem zgq (h:∀ (sa:Option Addr) (sc:Nat) (S:List ShC) (wa:Option Addr) (wc:Nat) (V:List WlC),S.map (·.s)=q.S→V.map (·.s)=q.V→GK c ds K T (plH y p sa sc S wa wc V++H)):GK c ds K T (PlE y p q :: H):=by
 intro a w ha hw
 obtain⟨hb,B,hB,⟨sa,sc,S,wa,wc,V,h1,h2,h3⟩,hr⟩:=hw
 exact h sa sc S wa wc V h1 h2 a w ha (Hp.split ⟨hb,B,hB,h3,hr⟩)
theorem zpP (h:∀ (a:Option Addr) (n m:Nat) (b:Option Addr) (e d:Nat),GK c ds K T (Box p [.slice a n m,.slice b e d] y.p :: H)):GK c ds K T (plAt y p :: H):=by
 intro a w ha hw
 obtain⟨hb,B,hB,⟨B',h1,x,n,m,b,e,d,h2⟩,hr⟩:=hw
 exact h x n m b e d a w ha ⟨hb,B',λ k hk=>hB k (h1 k hk),h2,Holds.anti H (λ k hk=>hk.elim .inl (λ h=>.inr (h1 k h))) hr⟩
theorem zgU {sa:Option Addr} {sc:Nat} {S:List ShC} {wa:Option Addr} {wc:Nat} {V:List WlC} (h1:S.map (·.s)=q.S) (h2:V.map (·.s)=q.V) (h:GK c ds K T (PlE y p q :: H)):GK c ds K T (plH y p sa sc S wa wc V++H):=by
 intro a w ha hw
 obtain⟨hb,B,hB,h3,hr⟩:=Hp.pack (L:=plH y p sa sc S wa wc V) (H:=H) hw
 exact h a w ha ⟨hb,B,hB,⟨sa,sc,S,wa,wc,V,h1,h2,h3⟩,hr⟩
end
theorem zkD {w:World} {R:Res}:∀ (X:List Res) (B:Nat→Prop),All (X++[R]) B w→∃ C D:Nat→Prop,(∀ k,C k→B k)∧(∀ k,D k→B k∧¬ C k)∧All X C w∧R.A D w
 | [],B,⟨C,E,h1,h2,hA,_⟩=>⟨λ _=>False,C,λ _ h=>h.elim,λ k hk=>⟨h1 k hk,λ h=>h⟩,trivial,hA⟩
 | S :: X,B,⟨C,E,h1,h2,hA,hr⟩=>by
  obtain⟨C',D,g1,g2,g3,g4⟩:=zkD X E hr
  refine⟨λ k=>C k∨C' k,D,λ k hk=>hk.elim (h1 k) (λ h=>(h2 k (g1 k h)).1),λ k hk=>⟨(h2 k (g2 k hk).1).1,λ h=>h.elim (h2 k (g2 k hk).1).2 (g2 k hk).2⟩,⟨C,C',λ k hk=>.inl hk,λ k hk=>⟨.inr hk,(h2 k (g1 k hk)).2⟩,hA,g3⟩,g4⟩
theorem zsh {α:Type} [Inhabited α] {V:List α} {x:α} (h:0<V.length):V.set (V.length - 1) x=V.take (V.length - 1)++[x]:=by
 rw [List.set_eq_take_append_cons_drop,if_pos (by omega),List.drop_of_length_le (by omega)]
theorem zqS {α:Type} [Inhabited α] {V:List α} (h:0<V.length):V=V.take (V.length - 1)++[V.getD (V.length - 1) default]:=by
 have h1:V.drop (V.length - 1)=[V.getD (V.length - 1) default]:=by
  rw [List.drop_eq_getElem_cons (by omega),List.drop_of_length_le (by omega)]
  simp [show V.length - 1<V.length by omega]
 conv=>lhs;rw [←List.take_append_drop (V.length - 1) V,h1]
theorem zqE {α:Type} [Inhabited α] {f:α→Res} {V:List α} {B:Nat→Prop} {w:World} (h:0<V.length) (hA:(Go.K.Rows f V).A B w):(SepR [Go.K.Rows f (V.take (V.length - 1)),f (V.getD (V.length - 1) default)]).A B w:=by
 have h2:All (V.map f) B w:=hA
 rw [zqS h,List.map_append] at h2
 obtain⟨C,D,g1,g2,g3,g4⟩:=zkD _ _ h2
 exact⟨C,D,g1,g2,g3,D,λ _=>False,λ _ h=>h,λ _ h=>h.elim,g4,trivial⟩
theorem zsc {α:Type} [Inhabited α] {f:α→Res} {V:List α} {x:α} {B:Nat→Prop} {w:World} (h:0<V.length) (hA:(SepR [Go.K.Rows f (V.take (V.length - 1)),f x]).A B w):(Go.K.Rows f (V.set (V.length - 1) x)).A B w:=by
 rw [zsh h]
 exact zfr hA
end Go.Pln
namespace Go.Proofs.YteepmmghanbllaaGreatDoor
open Go.K Go.Stn Go.Pln Go.RowKit
theorem zAm:TF Tryz.prog 198 false 1 (.pointer none):=tK
theorem af34:AF Tryz.prog 34 118 20 184 [.string ⟨#[]⟩,O 0,O 0,O 0,O 0,C none 0 0,O 0,O 0,O 0,O 0,O 0,O 0,O 0,.int .u8 0,O 0,O 0,O 0,O 0,O 0,O 0]:=⟨Tryz.underlying34,by kernel_rfl,rfl⟩
theorem zw9:En Tryz.prog 121:=eK Tryz.func121
theorem zF2:En Tryz.prog 122:=eK Tryz.func122
theorem zFp (x0:ShC) (w:World):(Instr.buildSlice 34 1 #[(0,.agg #[.string x0.s.name,O x0.s.base,O x0.s.batter,O x0.s.height,O x0.s.skin,C x0.a x0.s.heights.length x0.cap,O x0.s.least,O x0.s.lap,O x0.s.run,O x0.s.every,O x0.s.at_,O x0.s.footing,O x0.s.spread,.int .u8 x0.s.cope,O x0.s.tall,O x0.s.short,O x0.s.thick,O x0.s.low,O x0.s.high,O x0.s.rood])]).run Tryz.prog w=.ok (C (some ⟨w.heap.size,0,none⟩) 1 1) (w.alloc (.cells (([x0]:List (ShC)).flatMap zbH).toArray 118)):=by kernel_rfl
abbrev yP:PTy:=⟨37,118,116,3,122⟩
abbrev PlP (p:Nat) (q:Plan):Res:=PlE yP p q
abbrev yam (w:World) (B:Nat→Prop) (bp:Nat) (p:Nat):=Rd (λ k=>k<w.heap.size∧¬ B k) w (Box bp [.pointer (some ⟨p,0,none⟩)] 198)
theorem ztS (r:Nat) (ws:List ByteArray) (p:Nat) (q:Plan) (bp:Nat) (w:World) (B:Nat→Prop) (hB:yak B w) (hA:(SepR [Rdr 202 r ws,PlP p q]).A B w) (hq:OkQ q) (hb:yam w B bp p) (hws:ws.length≤100000) (hcp:yao w B) :
  Calls Tryz.prog 120 #[Z r,Z bp] w (zi5 46 (zb3 q ws) (λ _x (_:Unit)=>.tuple #[]) (λ x _=>PlP p x) (plAt yP p) B w):=by
 refine zby hB hA (vs:=[_,_]) Tryz.func120 I I (bL I) (zbP (gS (gM I (zbZ (res:=zci ws) 0 zw9 I I I (λ w B hF=>zuH r ws w B (λ k hk=>(hF.own k hk).2) hF.A hws (hF.rd hcp)) (λ k hk7=>?_) (λ x7 m7 hx7=>?_)))))
 ·exact zbG 1 I zdy (by rw [zb3,hk7];first|done|rfl)
 refine zbP (zaG I I (zaL zyq (zs:=[_,_,_,_,_,_,_,_,_,_,_,_,_,_,_,_,_,_,_,_]) I) λ b3=>(zbz 0 zyq I I (vs:=[_,_,_,_,_,_,_,_,_,_,_,_,_,_,_,_,_,_,_,_]) I I I I I (gN [0,1,3] I (gS (gM I (zbZ (res:=endE x7.2) 1 zF2 I I I (λ w B hF=>ztK r x7.2 w B (λ k hk=>(hF.own k hk).2) hF.A) (λ k hk9=>?_) (λ x9 m9 hx9=>?_)))))))
 ·exact zbG 3 I zdy (by rw [zb3,hx7,zak,hk9];first|done|rfl)
 refine gN [1,3] I (zao 3 I (zgq λ sa sc S wa wc V hS hV=>?_))
 have hlS:S.length=q.S.length:=by rw [←hS,lM]
 have hlV:V.length=q.V.length:=by rw [←hV,lM]
 have hq20:=hq.ls
 have hq50:=hq.lv
 refine zac (zCs [] (ch [(9,Nat)]) 1000 12 [0,1,3,0,8,31,63,127,127,0,767,2047] [] I (λ _=>mixed) (by kernel_rfl) (zjK _ ⟨inferInstance,trivial⟩) (pY (λ ρ=>zbW zAm I (λ _ hw=>zaQ (Rd.has hb hw) I)) (pY (λ ρ=>zbx I) (pY (λ ρ=>zat 0 tf37 I I (vs:=[_,_]) I I) (pY (λ ρ=>zab zBp I) (pY (λ ρ=>zah 5 tf9 I I I) (pY (λ ρ=>zaJ zDb I (λ w hw=>zeu _ _ S _ _ _ x7.1.name w (zam zbI (hw.has (p:=1) I)) (by unfold zaP;omega))) (pY (λ ρ=>zaf I) (pY (λ ρ=>zaB I I) (pY (λ ρ=>zaB I I) (zFy (λ ρ=>zaL zyq (zs:=[_,_,_,_,_,_,_,_,_,_,_,_,_,_,_,_,_,_,_,_]) I) (λ ρ ρ' h=>⟨by rfl,by rfl⟩) (zIb (R:=λ ρ=>Box (ρ 9) [.string ⟨#[]⟩,O 0,O 0,O 0,O 0,C none 0 0,O 0,O 0,O 0,O 0,O 0,O 0,O 0,.int .u8 0,O 0,O 0,O 0,O 0,O 0,O 0] 118) (A:=λ ρ=>Box (ρ 9) (sV ((zav S x7.1.name).s) ((zav S x7.1.name).a) ((zav S x7.1.name).cap)) 118) 9 I I (λ _=>rfl) (λ ρ=>zex zyq I I (vs:=[_,_,_,_,_,_,_,_,_,_,_,_,_,_,_,_,_,_,_,_]) I I I I I) (λ ρ ρ' h=>by(first|rfl|(simp only [h 9 I];done)|(simp only [h 9 I];rfl))) ?_))))))))))))
 refine pY (λ ρ=>zad I) (λ ρ=>zag (zf4 (X:=Nat) (ρ 9) (λ b4=>[(1,Z bp),(3,Z b3),(5,.bool (decide (0≤zaS S x7.1.name)))]) (λ b4=>[Box b4 (sV ((zav S x7.1.name).s) ((zav S x7.1.name).a) ((zav S x7.1.name).cap)) 118,Box p (zzz5 sa S sc wa V wc) 37,Row sa 20 sc 118 zbH S,Go.K.Rows (rowH 3) S,Row wa 4 wc 116 zbS V,Go.K.Rows (rowO 122) V,Box b3 (sV x7.1 m7.1 m7.2) 118,Rdr 202 r x9.2,Row m7.1 1 m7.2 3 D x7.1.heights]) ⟨I,I,I,trivial⟩ rfl ?_))
 rintro b4
 refine zac (zas (gS (gM I (gA I (gN [1,3,19] I (zap I (λ hc19=>?_) (λ hc19=>?_)))))))
 ·have h19:0≤zew q.S x7.1.name:=by have:=oT hc19;rwa [zeL,hS] at this
  refine zaa (zcg zwZ I (λ w hw=>zdk _ w) ?_)
  exact zbG 1 I (zeb (y:=yP)) (by rw [zb3,hx7,zak,hx9,zak];exact if_pos h19)
 ·have h19:¬ 0≤zew q.S x7.1.name:=by have:=oD hc19;rwa [zeL,hS] at this
  refine gS (gQ (zat 6 zyq I I (vs:=[_,_,_,_,_,_,_,_,_,_,_,_,_,_,_,_,_,_,_,_]) I I) (gQ (zaJ zvR I (λ w hw=>zd4 _ _ x7.1 w (zam Go.Stn.encI_ok (hw.has (p:=8) I)) (by have:=zkq hx7;unfold zaP;omega))) (gQ (zcr I I) (gA I (gN [1,3,22] I (zap I (λ hc22=>?_) (λ hc22=>?_)))))))
  ·have h22:¬ za4 x7.1=true:=λ h=>by simp [zda.2 h] at hc22
   refine zaa (zcg zwZ I (λ w hw=>zdk _ w) ?_)
   exact zbG 1 I (zeb (y:=yP)) (by rw [zb3,hx7,zak,hx9,zak];exact(if_neg h19).trans (if_neg h22))
  ·have h22:za4 x7.1=true:=zda.1 (by simpa using hc22)
   refine gS (gQ (zbW zAm I (λ _ hw=>zaQ (Rd.has hb hw) I)) (gQ (zbx I) (gQ (zab zkW I) (gQ (zah 1 tf34 I I I) (gQ (zaV (Tryz.underlying34) I) (gQ (zbL I I) (gA I (gN [1,3,27] I (zap I (λ hc27=>?_) (λ hc27=>?_))))))))))
   ·have h27:q.S.length=20:=by have:=oT hc27;omega
    refine zaa (zcg zwZ I (λ w hw=>zdk _ w) ?_)
    exact zbG 1 I (zeb (y:=yP)) (by rw [zb3,hx7,zak,hx9,zak];exact(if_neg h19).trans ((if_pos h22).trans (if_pos h27)))
   ·have h27:¬ q.S.length=20:=by have:=oD hc27;omega
    refine zaq (zjX (V:=λ z=>C z.1 ((S++[(⟨x7.1,m7.1,m7.2⟩:ShC)])).length z.2) (R':=λ z:Option Addr×Nat=>Row z.1 20 z.2 118 zbH (S++[(⟨x7.1,m7.1,m7.2⟩:ShC)])) (Bad:=λ _=>False) 7 [0] 2 42 (λ _=>mixed) I I (by kernel_rfl) I (λ _ hb=>hb.elim) I (zcf (zbW zAm I (λ _ hw=>zaQ (Rd.has hb hw) I)) (zcf (zbW zAm I (λ _ hw=>zaQ (Rd.has hb hw) I)) (zcf (zbx I) (zcf (zab zkW I) (zcf (zah 1 tf34 I I I) (zcf (zat 6 zyq I I (vs:=[_,_,_,_,_,_,_,_,_,_,_,_,_,_,_,_,_,_,_,_]) I I) (zqp (zaD I (zFp (⟨x7.1,m7.1,m7.2⟩:ShC)) zbI I) (⟨λ b41=>zhN (m:=[(⟨x7.1,m7.1,m7.2⟩:ShC)]) af34 zbI I I (λ _ hw=>(zam zbI (hw.has (p:=0) I))) (by first|omega|(simp only [lC,lN];omega)) (by first|(unfold maxLen;omega)|(simp only [lC,lN,maxLen];omega)),?_⟩)))))))))
    intro z42
    intro b41
    refine gK [35,42] I (gQ (zbx I) (gQ (zab zkW I) (zaA 2 tf34 I I (vs:=[_]) I I I I I (zag (zae (T':=[]) trivial (zao 9 I (zao 5 I (zbT 2 (za2 (R':=Go.K.Rows (rowH 3) (S++[(⟨x7.1,m7.1,m7.2⟩:ShC)])) 0 I (λ B w hA=>zfr (f:=rowH 3) hA) (zao 6 I (zao 6 I (zao 2 I (zao 6 I (zao 6 I (zgU (y:=yP) (q:=⟨q.S++[x7.1],q.V⟩) (by rw [List.map_append,hS];rfl) (hV) ?_)))))))))))))))
    exact zik ⟨q.S++[x7.1],q.V⟩ () 0 (zcN I) I I (by rw [zb3,hx7,zak,hx9,zak];exact(if_neg h19).trans ((if_pos h22).trans (if_neg h27)))
theorem af35:AF Tryz.prog 35 116 4 64 [.string ⟨#[]⟩,.string ⟨#[]⟩,O 0,C none 0 0]:=⟨Tryz.underlying35,by kernel_rfl,rfl⟩
theorem zB2 (x0 x1:ByteArray) (w:World):(Instr.build 116 #[(0,.string x0),(1,.string x1)]).run Tryz.prog w=.ok (.agg #[.string x0,.string x1,O 0,C none 0 0]) w:=by kernel_rfl
theorem zo0 (x0:WlC) (w:World):(Instr.buildSlice 35 1 #[(0,.agg #[.string x0.s.name,.string x0.s.sheet,O x0.s.length,C x0.a x0.s.opens.length x0.cap])]).run Tryz.prog w=.ok (C (some ⟨w.heap.size,0,none⟩) 1 1) (w.alloc (.cells (([x0]:List (WlC)).flatMap zbS).toArray 116)):=by kernel_rfl
theorem zrR {q:Plan} (hq:OkQ q) (n:ByteArray):0≤(getS q.S n).height∧(getS q.S n).height≤3000:=by
 unfold getS
 split
 ·rename_i h
  have hl:zew q.S n<(q.S.length:Int):=Stn.findI_lt _ h
  have:=(zaZ (hq.sh _ (za0 (l:=q.S) (i:=(zew q.S n).toNat) (by omega)))).height
  omega
 ·exact⟨by decide,by decide⟩
theorem ztT (r:Nat) (ws:List ByteArray) (p:Nat) (q:Plan) (bp:Nat) (w:World) (B:Nat→Prop) (hB:yak B w) (hA:(SepR [Rdr 202 r ws,PlP p q]).A B w) (hq:OkQ q) (hb:yam w B bp p) (_hws:ws.length≤100000) :
  Calls Tryz.prog 123 #[Z r,Z bp] w (zi5 46 (zb1 q ws) (λ _x (_:Unit)=>.tuple #[]) (λ x _=>PlP p x) (plAt yP p) B w):=by
 refine zby hB hA (vs:=[_,_]) Tryz.func123 I I (bL I) (zbP (gS (gM I (zbZ (res:=zes ws) 0 zF3 I I I (λ w B hF=>zqa r ws w B (λ k hk=>(hF.own k hk).2) hF.A) (λ k hk7=>?_) (λ x7 m7 hx7=>?_)))))
 ·exact zbG 1 I zdy (by rw [zb1,hk7];first|done|rfl)
 refine gM I (zbZ (res:=zes x7.2) 0 zF3 I I I (λ w B hF=>zqa r x7.2 w B (λ k hk=>(hF.own k hk).2) hF.A) (λ k hk9=>?_) (λ x9 m9 hx9=>?_))
 ·exact zbG 1 I zdy (by rw [zb1,hx7,zak,hk9];first|done|rfl)
 refine gQ (zaI I (zB2 _ _)) (zaG I I (zaL zyz (zs:=[_,_,_,_]) I) λ b3=>(zaA 0 zyz I I (vs:=[_,_,_,_]) I I I I I (gN [0,1,3] I (gS (gM I (gQ (zab zAH I) (zaG I I (zaD I (zy9 (b3,2)) zbj I) λ b13=>(zao 1 I (zao 2 I (zbT 2 (zbZ (res:=zco 1 x9.2) 0 zDJ I I I (λ w B hF=>zfl r x9.2 b3 [.string x7.1,.string x9.1,O 0,C none 0 0] 116 [2] [(b3,2)] _ _ w B (λ k hk=>(hF.own k hk).2) hF.A (zdX zbj (hF.other 0 I)) I (by intro o ho;simp at ho;simp;omega) (by simp [zaP])) (λ k hk14=>?_) (λ x14 m14 hx14=>?_))))))))))))
 ·exact zbG 2 I zdy (by rw [zb1,hx7,zak,hx9,zak,hk14];first|done|rfl)
 refine zbP (za2 (R':=Box b3 [.string x7.1,.string x9.1,O ((x14.1).getD 0 0),C none 0 0] 116) 1 I (λ B w hA=>hA) (zaK 2 I (gN [0,1,3] I (gS (gM I (zbZ (res:=endE x14.2) 0 zF2 I I I (λ w B hF=>ztK r x14.2 w B (λ k hk=>(hF.own k hk).2) hF.A) (λ k hk16=>?_) (λ x16 m16 hx16=>?_)))))))
 ·exact zbG 2 I zdy (by rw [zb1,hx7,zak,hx9,zak,hx14,zak,hk16];first|done|rfl)
 refine gN [1,3] I (zao 2 I (zgq λ sa sc S wa wc V hS hV=>?_))
 have hlS:S.length=q.S.length:=by rw [←hS,lM]
 have hlV:V.length=q.V.length:=by rw [←hV,lM]
 have hq20:=hq.ls
 have hq50:=hq.lv
 refine zac (zCs [] (ch [(9,Nat)]) 1000 12 [0,1,3,0,8,31,63,127,127,0,767,2047] [] I (λ _=>mixed) (by kernel_rfl) (zjK _ ⟨inferInstance,trivial⟩) (pY (λ ρ=>zbW zAm I (λ _ hw=>zaQ (Rd.has hb hw) I)) (pY (λ ρ=>zbx I) (pY (λ ρ=>zat 0 tf37 I I (vs:=[_,_]) I I) (pY (λ ρ=>zab zBo I) (pY (λ ρ=>zah 6 tf9 I I I) (pY (λ ρ=>zaJ zDb I (λ w hw=>zeu _ _ S _ _ _ x9.1 w (zam zbI (hw.has (p:=1) I)) (by unfold zaP;omega))) (pY (λ ρ=>zaf I) (pY (λ ρ=>zaB I I) (pY (λ ρ=>zaB I I) (zFy (λ ρ=>zaL zyq (zs:=[_,_,_,_,_,_,_,_,_,_,_,_,_,_,_,_,_,_,_,_]) I) (λ ρ ρ' h=>⟨by rfl,by rfl⟩) (zIb (R:=λ ρ=>Box (ρ 9) [.string ⟨#[]⟩,O 0,O 0,O 0,O 0,C none 0 0,O 0,O 0,O 0,O 0,O 0,O 0,O 0,.int .u8 0,O 0,O 0,O 0,O 0,O 0,O 0] 118) (A:=λ ρ=>Box (ρ 9) (sV ((zav S x9.1).s) ((zav S x9.1).a) ((zav S x9.1).cap)) 118) 9 I I (λ _=>rfl) (λ ρ=>zex zyq I I (vs:=[_,_,_,_,_,_,_,_,_,_,_,_,_,_,_,_,_,_,_,_]) I I I I I) (λ ρ ρ' h=>by(first|rfl|(simp only [h 9 I];done)|(simp only [h 9 I];rfl))) (pY (λ ρ=>zad I) ?_)))))))))))))
 refine λ ρ=>zag (zf4 (X:=Nat) (ρ 9) (λ b4=>[(1,Z bp),(3,Z b3),(4,Z b4),(5,.bool (decide (0≤zaS S x9.1)))]) (λ b4=>[Box b4 (sV ((zav S x9.1).s) ((zav S x9.1).a) ((zav S x9.1).cap)) 118,Box p (zzz5 sa S sc wa V wc) 37,Row sa 20 sc 118 zbH S,Go.K.Rows (rowH 3) S,Row wa 4 wc 116 zbS V,Go.K.Rows (rowO 122) V,Rdr 202 r x16.2,Box b3 [.string x7.1,.string x9.1,O ((x14.1).getD 0 0),C none 0 0] 116]) ⟨I,I,I,I,trivial⟩ rfl ?_)
 rintro b4
 refine zac (zas (zac (gZ 8 (ph_y (zbW zAm I (λ _ hw=>zaQ (Rd.has hb hw) I)) (ph_y (zbx I) (ph_y (zat 1 tf37 I I (vs:=[_,_]) I I) (ph_y (zab zBn I) (ph_y (zah 7 tf9 I I I) (ph_y (zaJ zw0 I (λ w hw=>zkg _ _ _ _ _ V x7.1 w (zam zbo (hw.has (p:=4) I)) (by unfold zaP;omega))) (ph_y (zfx I I) (ph_y (zad I) (gN [1,3,4,5,26] I (zap I (λ hc26=>?_) (λ hc26=>?_))))))))))))))
 ·have h26:0≤zss q.V x7.1:=by have:=oT hc26;rwa [zkx,hV] at this
  refine zaa (zcg zwZ I (λ w hw=>zdk _ w) ?_)
  exact zbG 1 I (zeb (y:=yP)) (by rw [zb1,hx7,zak,hx9,zak,hx14,zak,hx16,zak];exact if_pos h26)
 ·have h26:¬ 0≤zss q.V x7.1:=by have:=oD hc26;rwa [zkx,hV] at this
  refine gS (gM I (gQ (zbR I) (gA I (gN [1,3,4,35] I (zap I (λ hc35=>?_) (λ hc35=>?_))))))
  ·have h35:¬ 0≤zew q.S x9.1:=by have h:=hc35;rw [zeL,hS] at h;simpa using h
   refine zaa (zcg zwZ I (λ w hw=>zdk _ w) ?_)
   exact zbG 1 I (zeb (y:=yP)) (by rw [zb1,hx7,zak,hx9,zak,hx14,zak,hx16,zak];exact(if_neg h26).trans (if_neg h35))
  ·have h35:0≤zew q.S x9.1:=by have h:=hc35;rw [zeL,hS] at h;simpa using h
   refine gS (gQ (zat 7 zyz I I (vs:=[_,_,_,_]) I I) (gQ (zat 0 zyq I I (vs:=[_,_,_,_,_,_,_,_,_,_,_,_,_,_,_,_,_,_,_,_]) I I) (gQ (zaJ zw1 I (λ w hw=>zmI none 0 (⟨x7.1,x9.1,(x14.1).getD 0 0,[]⟩:Wll) _ _ (zav S x9.1).s w ⟨λ _=>False,λ _ h=>h.elim,.inl I⟩ (Nat.le_refl _) (by simp [zaP]) (by intro o ho;cases ho) (by rw [zf2,hS];exact zrR hq _))) (gQ (zbR I) (gA I (gN [1,3,39] I (zap I (λ hc39=>?_) (λ hc39=>?_))))))))
   ·have h39:¬ zd1 (getS q.S x9.1).height ⟨x7.1,x9.1,(x14.1).getD 0 0,[]⟩=true:=by have h:=hc39;rw [zf2,hS] at h;simpa using h
    refine zaa (zcg zwZ I (λ w hw=>zdk _ w) ?_)
    exact zbG 1 I (zeb (y:=yP)) (by rw [zb1,hx7,zak,hx9,zak,hx14,zak,hx16,zak];exact(if_neg h26).trans ((if_pos h35).trans (if_neg h39)))
   ·have h39:zd1 (getS q.S x9.1).height ⟨x7.1,x9.1,(x14.1).getD 0 0,[]⟩=true:=by have h:=hc39;rw [zf2,hS] at h;simpa using h
    refine gS (gQ (zbW zAm I (λ _ hw=>zaQ (Rd.has hb hw) I)) (gQ (zbx I) (gQ (zab zna I) (gQ (zah 1 tf35 I I I) (gQ (zaV (Tryz.underlying35) I) (gQ (zbL I I) (gA I (gN [1,3,45] I (zap I (λ hc45=>?_) (λ hc45=>?_))))))))))
    ·have h45:q.V.length=50:=by have:=oT hc45;omega
     refine zaa (zcg zwZ I (λ w hw=>zdk _ w) ?_)
     exact zbG 1 I (zeb (y:=yP)) (by rw [zb1,hx7,zak,hx9,zak,hx14,zak,hx16,zak];exact(if_neg h26).trans ((if_pos h35).trans ((if_pos h39).trans (if_pos h45))))
    ·have h45:¬ q.V.length=50:=by have:=oD hc45;omega
     refine zaq (zjX (V:=λ z=>C z.1 ((V++[(⟨⟨x7.1,x9.1,((x14.1).getD 0 0),[]⟩,none,0⟩:WlC)])).length z.2) (R':=λ z:Option Addr×Nat=>Row z.1 4 z.2 116 zbS (V++[(⟨⟨x7.1,x9.1,((x14.1).getD 0 0),[]⟩,none,0⟩:WlC)])) (Bad:=λ _=>False) 7 [0] 4 60 (λ _=>mixed) I I (by kernel_rfl) I (λ _ hb=>hb.elim) I (zcf (zbW zAm I (λ _ hw=>zaQ (Rd.has hb hw) I)) (zcf (zbW zAm I (λ _ hw=>zaQ (Rd.has hb hw) I)) (zcf (zbx I) (zcf (zab zna I) (zcf (zah 1 tf35 I I I) (zcf (zat 7 zyz I I (vs:=[_,_,_,_]) I I) (zqp (zaD I (zo0 (⟨⟨x7.1,x9.1,((x14.1).getD 0 0),[]⟩,none,0⟩:WlC)) zbo I) (⟨λ b59=>zhN (m:=[(⟨⟨x7.1,x9.1,((x14.1).getD 0 0),[]⟩,none,0⟩:WlC)]) af35 zbo I I (λ _ hw=>(zam zbo (hw.has (p:=0) I))) (by first|omega|(simp only [lC,lN];omega)) (by first|(unfold maxLen;omega)|(simp only [lC,lN,maxLen];omega)),?_⟩)))))))))
     intro z60
     intro b59
     refine gK [53,60] I (gQ (zbx I) (gQ (zab zna I) (zaA 2 tf35 I I (vs:=[_]) I I I I I (zag (zae (T':=[]) trivial (zbB 122 zba 5 (zao 7 I (zbT 2 (za2 (R':=Go.K.Rows (rowO 122) (V++[(⟨⟨x7.1,x9.1,(x14.1).getD 0 0,[]⟩,none,0⟩:WlC)])) 0 I (λ B w hA=>zfr (f:=rowO 122) hA) (zao 6 I (zao 6 I (zao 6 I (zao 6 I (zgU (y:=yP) (q:=⟨q.S,q.V++[⟨x7.1,x9.1,(x14.1).getD 0 0,[]⟩]⟩) (hS) (by rw [List.map_append,hV];rfl) ?_))))))))))))))
     exact zik ⟨q.S,q.V++[⟨x7.1,x9.1,(x14.1).getD 0 0,[]⟩]⟩ () 0 (zcN I) I I (by rw [zb1,hx7,zak,hx9,zak,hx14,zak,hx16,zak];exact(if_neg h26).trans ((if_pos h35).trans ((if_pos h39).trans (if_neg h45))))
theorem zHV:SA Tryz.prog 231 9 5 1:=⟨Tryz.underlying231,by kernel_rfl⟩
theorem zFD:AF Tryz.prog 114 122 5 40 [.int .u8 0,O 0,O 0,O 0,O 0]:=⟨Tryz.underlying114,by kernel_rfl,rfl⟩
theorem zEB (x0:Int) (w:World):(Instr.build 122 #[(0,.int .u8 x0)]).run Tryz.prog w=.ok (.agg #[.int .u8 x0,O 0,O 0,O 0,O 0]) w:=by kernel_rfl
theorem zDy (x0_0 x0_1 x0_2 x0_3 x0_4:Int) (w:World):(Instr.buildSlice 114 1 #[(0,.agg #[.int .u8 x0_0,O x0_1,O x0_2,O x0_3,O x0_4])]).run Tryz.prog w=.ok (C (some ⟨w.heap.size,0,none⟩) 1 1) (w.alloc (.cells (([⟨x0_0,x0_1,x0_2,x0_3,x0_4⟩]:List (Opn)).flatMap zba).toArray 122)):=by kernel_rfl
theorem zFS (x0 x1 x2 x3:Nat×Nat) (w:World):(Instr.buildSlice 249 4 #[(0,.pointer (some ⟨x0.1,x0.2,none⟩)),(1,.pointer (some ⟨x1.1,x1.2,none⟩)),(2,.pointer (some ⟨x2.1,x2.2,none⟩)),(3,.pointer (some ⟨x3.1,x3.2,none⟩))]).run Tryz.prog w=.ok (C (some ⟨w.heap.size,0,none⟩) 4 4) (w.alloc (.cells (([x0,x1,x2,x3]:List (Nat×Nat)).flatMap zhZ).toArray 229)):=by kernel_rfl
theorem zqi {q:Plan} (hq:OkQ q) (n:ByteArray):0≤(getS q.S n).height∧(getS q.S n).height≤3000:=by
 unfold getS
 split
 ·rename_i h
  have hl:zew q.S n<(q.S.length:Int):=Stn.findI_lt _ h
  have:=(zaZ (hq.sh _ (za0 (l:=q.S) (i:=(zew q.S n).toNat) (by omega)))).height
  omega
 ·exact⟨by decide,by decide⟩
theorem zsY {q:Plan} {V:List WlC} (hV:V.map (·.s)=q.V) {i:Nat} (hi:i+1=V.length):(V.getD i default).s=q.V.getD (q.V.length - 1) default:=by
 rw [←hV,lM,show V.length - 1=i from by omega,zeq (λ z:WlC=>z.s) I]
theorem zmh {q:Plan} {V:List WlC} (hq:OkQ q) (hV:V.map (·.s)=q.V) {i:Nat} (hi:i+1=V.length):(V.getD i default).s.opens.length≤20∧∀ o∈(V.getD i default).s.opens,Knd o:=by
 refine hq.wv _ ?_
 rw [←hV]
 exact List.mem_map_of_mem (za0 (by omega))
theorem zrI {v:Wll} {o:Opn} (h:∀ z∈v.opens,Knd z) (ho:Knd o):∀ z∈(more v o).opens,Knd z:=by
 intro z hz
 rcases List.mem_append.1 hz with h'|h'
 ·exact h z h'
 ·rw [List.mem_singleton] at h';rw [h'];exact ho
theorem zrC {ws:List ByteArray} {x:Int×List ByteArray} (h:zfk opensW 1 ws=.ok x) (a b c d:Int):Knd ⟨x.1,a,b,c,d⟩:=by
 have hk:=znp h
 have:(opensW.length:Int)=5:=rfl
 exact⟨by dsimp only;omega,by dsimp only;omega⟩
theorem zxy {q:Plan} {V:List WlC} (hV:V.map (·.s)=q.V) {i:Nat} (hi:i+1=V.length) (o:Opn) (a:yO) (c:Nat):(V.set i ⟨more (V.getD i default).s o,a,c⟩).map (·.s)=q.V.set (q.V.length - 1) (more (q.V.getD (q.V.length - 1) default) o):=by
 rw [List.map_set,hV,zsY hV hi,show q.V.length - 1=i from by rw [←hV,lM];omega]
theorem zwj {α:Type} [Inhabited α] {V:List α} {i:Nat} (hi:i+1=V.length) (x:α):(V.set i x).getD i default=x:=by
 rw [gE,List.getElem?_set_self (by omega)];rfl
theorem zot {α:Type} [Inhabited α] {f:α→Res} {V:List α} {i:Nat} {B:Nat→Prop} {w:World} (h:i+1=V.length) (hA:(Go.K.Rows f V).A B w):(SepR [Go.K.Rows f (V.take i),f (V.getD i default)]).A B w:=by
 have h1:=zqE (f:=f) (by omega) hA
 rwa [show V.length - 1=i from by omega] at h1
theorem zqF {α:Type} [Inhabited α] {f:α→Res} {V:List α} {i:Nat} {x:α} {B:Nat→Prop} {w:World} (h:i+1=V.length) (hA:(SepR [Go.K.Rows f (V.take i),f x]).A B w):(Go.K.Rows f (V.set i x)).A B w:=by
 have h0:V.length - 1=i:=by omega
 have h1:=zsc (f:=f) (V:=V) (x:=x) (by omega) (by rw [h0];exact hA)
 rwa [h0] at h1
theorem ztU (r:Nat) (ws:List ByteArray) (p:Nat) (q:Plan) (bp:Nat) (w:World) (B:Nat→Prop) (hB:yak B w) (hA:(SepR [Rdr 202 r ws,PlP p q]).A B w) (hq:OkQ q) (hb:yam w B bp p) (_hws:ws.length≤100000) (hop:Rd (λ k=>k<w.heap.size∧¬ B k) w (zaW (some ⟨0,0,none⟩) 1 encS opensW)) :
  Calls Tryz.prog 126 #[Z r,Z bp] w (zi5 46 (zch q ws) (λ _x (_:Unit)=>.tuple #[]) (λ x _=>PlP p x) (plAt yP p) B w):=by
 refine zby hB hA (vs:=[_,_]) Tryz.func126 I I (bL I) (zbP (gS (gM I (gQ (zjB zHV I) (zbZ (res:=zfk opensW 1 ws) 0 zHb I I I (λ w B hF=>zsX r ws (some ⟨0,0,none⟩) 5 opensW 1 w B (λ k hk=>(hF.own k hk).2) hF.A (hF.rd hop) (by decide) (by decide) (by decide)) (λ k hk9=>?_) (λ x9 m9 hx9=>?_))))))
 ·exact zbG 1 I zdy (by rw [zch,hk9];first|done|rfl)
 refine gQ (zaI I (zEB _)) (zaG I I (zaL zy2 (zs:=[_,_,_,_,_]) I) λ b3=>(zaA 0 zy2 I I (vs:=[_,_,_,_,_]) I I I I I (gN [0,1,3] I (gS (gM I (gQ (zab zAb I) (gQ (zab zAc I) (gQ (zab zyW I) (gQ (zab zzO I) (zaG I I (zaD I (zFS (b3,1) (b3,2) (b3,3) (b3,4)) zbj I) λ b16=>(zao 1 I (zao 2 I (zbT 2 (zbZ (res:=zco 4 x9.2) 0 zDJ I I I (λ w B hF=>zfl r x9.2 b3 [.int .u8 x9.1,O 0,O 0,O 0,O 0] 122 [1,2,3,4] [(b3,1),(b3,2),(b3,3),(b3,4)] _ _ w B (λ k hk=>(hF.own k hk).2) hF.A (zdX zbj (hF.other 0 I)) I (by intro o ho;simp at ho;simp;omega) (by simp [zaP])) (λ k hk17=>?_) (λ x17 m17 hx17=>?_)))))))))))))))
 ·exact zbG 2 I zdy (by rw [zch,hx9,zak,hk17];first|done|rfl)
 refine zbP (za2 (R':=Box b3 [.int .u8 x9.1,O ((x17.1).getD 0 0),O (((x17.1.drop 1)).getD 0 0),O ((((x17.1.drop 1).drop 1)).getD 0 0),O (((((x17.1.drop 1).drop 1).drop 1)).getD 0 0)] 122) 1 I (λ B w hA=>hA) (zaK 2 I (gN [0,1,3] I (gS (gM I (zbZ (res:=endE x17.2) 0 zF2 I I I (λ w B hF=>ztK r x17.2 w B (λ k hk=>(hF.own k hk).2) hF.A) (λ k hk19=>?_) (λ x19 m19 hx19=>?_)))))))
 ·exact zbG 2 I zdy (by rw [zch,hx9,zak,hx17,zak,hk19];first|done|rfl)
 refine gN [1,3] I (zao 2 I (zgq λ sa sc S wa wc V hS hV=>?_))
 have hlS:S.length=q.S.length:=by rw [←hS,lM]
 have hlV:V.length=q.V.length:=by rw [←hV,lM]
 have hq20:=hq.ls
 have hq50:=hq.lv
 refine zac (gS (gQ (zbW zAm I (λ _ hw=>zaQ (Rd.has hb hw) I)) (gQ (zbx I) (gQ (zab zna I) (gQ (zah 0 tf35 I I I) (gQ (zaV (Tryz.underlying35) I) (gQ (zbL I I) (gN [1,3,25] I (zap I (λ hc25=>?_) (λ hc25=>?_))))))))))
 ·have h25:q.V.length=0:=by have:=oT hc25;omega
  refine zaa (zcg zwZ I (λ w hw=>zdk _ w) ?_)
  exact zbG 0 I (zeb (y:=yP)) (by rw [zch,hx9,zak,hx17,zak,hx19,zak];exact if_pos h25)
 ·have h25:¬ q.V.length=0:=by have:=oD hc25;omega
  refine zaq (zac (gZ 12 (ph_y (zbW zAm I (λ _ hw=>zaQ (Rd.has hb hw) I)) (ph_y (zbx I) (ph_y (zab zna I) (ph_y (zah 0 tf35 I I I) (ph_y (zbW zAm I (λ _ hw=>zaQ (Rd.has hb hw) I)) (ph_y (zbx I) (ph_y (zab zna I) (ph_y (zah 0 tf35 I I I) (ph_y (zaV (Tryz.underlying35) I) (ph_y (zfV I I) (ph_y (zaE se35 I I (λ _ hw=>(zam zbo (hw.has (p:=3) I)))) (ph_y (zad I) (gN [1,3,4] I ?_)))))))))))))))
  have hi0:((V.length:Int) - 1).toNat+1=V.length:=by omega
  refine zac (zCs [] (ch [(11,Nat)]) 1000 14 [0,1,3,0,8,24,56,127,255,511,511,0,3071,8191] [] I (λ _=>mixed) (by kernel_rfl) (zjK _ ⟨inferInstance,trivial⟩) (pY (λ ρ=>zbW zAm I (λ _ hw=>zaQ (Rd.has hb hw) I)) (pY (λ ρ=>zbx I) (pY (λ ρ=>zat 0 tf37 I I (vs:=[_,_]) I I) (pY (λ ρ=>zaf I) (pY (λ ρ=>zeP I (λ w hw=>zaO (i:=((V.length:Int) - 1)) (zam zbo (hw.has (p:=3) I)))) (pY (λ ρ=>zbh zBo I (λ w hw=>zaO (i:=((V.length:Int) - 1)) (zam zbo (hw.has (p:=3) I)))) (pY (λ ρ=>zbn tf9 I (λ _ hw=>(zam zbo (hw.has (p:=3) I))) (by omega) (by omega) I) (pY (λ ρ=>zaJ zDb I (λ w hw=>zeu _ _ S _ _ _ ((V.getD (((V.length:Int) - 1)).toNat default).s.sheet) w (zam zbI (hw.has (p:=1) I)) (by unfold zaP;omega))) (pY (λ ρ=>zaf I) (pY (λ ρ=>zaB I I) (pY (λ ρ=>zaB I I) (zFy (λ ρ=>zaL zyq (zs:=[_,_,_,_,_,_,_,_,_,_,_,_,_,_,_,_,_,_,_,_]) I) (λ ρ ρ' h=>⟨by rfl,by rfl⟩) ?_)))))))))))))
  refine zIb (R:=λ ρ=>Box (ρ 11) [.string ⟨#[]⟩,O 0,O 0,O 0,O 0,C none 0 0,O 0,O 0,O 0,O 0,O 0,O 0,O 0,.int .u8 0,O 0,O 0,O 0,O 0,O 0,O 0] 118) (A:=λ ρ=>Box (ρ 11) [.string (zav S ((V.getD (((V.length:Int) - 1)).toNat default).s.sheet)).s.name,O ((zav S ((V.getD (((V.length:Int) - 1)).toNat default).s.sheet)).s.base),O ((zav S ((V.getD (((V.length:Int) - 1)).toNat default).s.sheet)).s.batter),O ((zav S ((V.getD (((V.length:Int) - 1)).toNat default).s.sheet)).s.height),O ((zav S ((V.getD (((V.length:Int) - 1)).toNat default).s.sheet)).s.skin),.slice (zav S ((V.getD (((V.length:Int) - 1)).toNat default).s.sheet)).a (zav S ((V.getD (((V.length:Int) - 1)).toNat default).s.sheet)).s.heights.length (zav S ((V.getD (((V.length:Int) - 1)).toNat default).s.sheet)).cap,O ((zav S ((V.getD (((V.length:Int) - 1)).toNat default).s.sheet)).s.least),O ((zav S ((V.getD (((V.length:Int) - 1)).toNat default).s.sheet)).s.lap),O ((zav S ((V.getD (((V.length:Int) - 1)).toNat default).s.sheet)).s.run),O ((zav S ((V.getD (((V.length:Int) - 1)).toNat default).s.sheet)).s.every),O ((zav S ((V.getD (((V.length:Int) - 1)).toNat default).s.sheet)).s.at_),O ((zav S ((V.getD (((V.length:Int) - 1)).toNat default).s.sheet)).s.footing),O ((zav S ((V.getD (((V.length:Int) - 1)).toNat default).s.sheet)).s.spread),.int .u8 (zav S ((V.getD (((V.length:Int) - 1)).toNat default).s.sheet)).s.cope,O ((zav S ((V.getD (((V.length:Int) - 1)).toNat default).s.sheet)).s.tall),O ((zav S ((V.getD (((V.length:Int) - 1)).toNat default).s.sheet)).s.short),O ((zav S ((V.getD (((V.length:Int) - 1)).toNat default).s.sheet)).s.thick),O ((zav S ((V.getD (((V.length:Int) - 1)).toNat default).s.sheet)).s.low),O ((zav S ((V.getD (((V.length:Int) - 1)).toNat default).s.sheet)).s.high),O ((zav S ((V.getD (((V.length:Int) - 1)).toNat default).s.sheet)).s.rood)] 118) 11 I I (λ _=>rfl) (λ ρ=>zex zyq I I (vs:=[_,_,_,_,_,_,_,_,_,_,_,_,_,_,_,_,_,_,_,_]) I I I I I) (λ ρ ρ' h=>by(first|rfl|(simp only [h 11 I];done)|(simp only [h 11 I];rfl))) ?_
  refine pY (λ ρ=>zad I) ?_
  refine λ ρ=>zag (zf4 (X:=Nat) (ρ 11) (λ b5=>[(3,Z b3),(4,(epx wa (((V.length:Int) - 1).toNat*4))),(5,Z b5)]) (λ b5=>[Box b5 [.string (zav S ((V.getD (((V.length:Int) - 1)).toNat default).s.sheet)).s.name,O ((zav S ((V.getD (((V.length:Int) - 1)).toNat default).s.sheet)).s.base),O ((zav S ((V.getD (((V.length:Int) - 1)).toNat default).s.sheet)).s.batter),O ((zav S ((V.getD (((V.length:Int) - 1)).toNat default).s.sheet)).s.height),O ((zav S ((V.getD (((V.length:Int) - 1)).toNat default).s.sheet)).s.skin),.slice (zav S ((V.getD (((V.length:Int) - 1)).toNat default).s.sheet)).a (zav S ((V.getD (((V.length:Int) - 1)).toNat default).s.sheet)).s.heights.length (zav S ((V.getD (((V.length:Int) - 1)).toNat default).s.sheet)).cap,O ((zav S ((V.getD (((V.length:Int) - 1)).toNat default).s.sheet)).s.least),O ((zav S ((V.getD (((V.length:Int) - 1)).toNat default).s.sheet)).s.lap),O ((zav S ((V.getD (((V.length:Int) - 1)).toNat default).s.sheet)).s.run),O ((zav S ((V.getD (((V.length:Int) - 1)).toNat default).s.sheet)).s.every),O ((zav S ((V.getD (((V.length:Int) - 1)).toNat default).s.sheet)).s.at_),O ((zav S ((V.getD (((V.length:Int) - 1)).toNat default).s.sheet)).s.footing),O ((zav S ((V.getD (((V.length:Int) - 1)).toNat default).s.sheet)).s.spread),.int .u8 (zav S ((V.getD (((V.length:Int) - 1)).toNat default).s.sheet)).s.cope,O ((zav S ((V.getD (((V.length:Int) - 1)).toNat default).s.sheet)).s.tall),O ((zav S ((V.getD (((V.length:Int) - 1)).toNat default).s.sheet)).s.short),O ((zav S ((V.getD (((V.length:Int) - 1)).toNat default).s.sheet)).s.thick),O ((zav S ((V.getD (((V.length:Int) - 1)).toNat default).s.sheet)).s.low),O ((zav S ((V.getD (((V.length:Int) - 1)).toNat default).s.sheet)).s.high),O ((zav S ((V.getD (((V.length:Int) - 1)).toNat default).s.sheet)).s.rood)] 118,Box p (zzz5 sa S sc wa V wc) 37,Row sa 20 sc 118 zbH S,Go.K.Rows (rowH 3) S,Row wa 4 wc 116 zbS V,Go.K.Rows (rowO 122) V,Rdr 202 r x19.2,Box b3 [.int .u8 x9.1,O ((x17.1).getD 0 0),O (((x17.1.drop 1)).getD 0 0),O ((((x17.1.drop 1).drop 1)).getD 0 0),O (((((x17.1.drop 1).drop 1).drop 1)).getD 0 0)] 122]) ⟨I,I,I,trivial⟩ rfl ?_)
  rintro b5
  refine zao 5 I (za2 (R':=SepR [Go.K.Rows (rowO 122) (V.take ((V.length:Int) - 1).toNat),Row (V.getD ((V.length:Int) - 1).toNat default).a 5 (V.getD ((V.length:Int) - 1).toNat default).cap 122 zba (V.getD ((V.length:Int) - 1).toNat default).s.opens]) 0 I (λ B w hA=>zot (f:=rowO 122) hi0 hA) (zbP ?_))
  have hlo:=(zmh hq hV hi0).1
  refine zac (zjX (V:=λ z=>C z.1 (((V.getD ((V.length:Int) - 1).toNat default).s.opens++[(⟨x9.1,((x17.1).getD 0 0),(((x17.1.drop 1)).getD 0 0),((((x17.1.drop 1).drop 1)).getD 0 0),(((((x17.1.drop 1).drop 1).drop 1)).getD 0 0)⟩:Opn)])).length z.2) (R':=λ z:Option Addr×Nat=>Row z.1 5 z.2 122 zba ((V.getD ((V.length:Int) - 1).toNat default).s.opens++[(⟨x9.1,((x17.1).getD 0 0),(((x17.1.drop 1)).getD 0 0),((((x17.1.drop 1).drop 1)).getD 0 0),(((((x17.1.drop 1).drop 1).drop 1)).getD 0 0)⟩:Opn)])) (Bad:=λ _=>False) 7 [0] 1 56 (λ _=>mixed) I I (by kernel_rfl) I (λ _ hb=>hb.elim) I (zcf (zaf I) (zcf (zaf I) (zcf (zeP I (λ w hw=>zaO (i:=((V.length:Int) - 1)) (zam zbo (hw.has (p:=6) I)))) (zcf (zbh zyL I (λ w hw=>zaO (i:=((V.length:Int) - 1)) (zam zbo (hw.has (p:=6) I)))) (zcf (zbn zAi I (λ _ hw=>(zam zbo (hw.has (p:=6) I))) (by omega) (by omega) I) (zcf (zat 8 zy2 I I (vs:=[_,_,_,_,_]) I I) (zqp (zaD I (zDy _ _ _ _ _) zyn I) ?_))))))))
  refine⟨λ b55=>zhN (m:=[(⟨x9.1,((x17.1).getD 0 0),(((x17.1.drop 1)).getD 0 0),((((x17.1.drop 1).drop 1)).getD 0 0),(((((x17.1.drop 1).drop 1).drop 1)).getD 0 0)⟩:Opn)]) zFD zyn I I (λ _ hw=>(zam zyn (hw.has (p:=0) I))) (by first|omega|(simp only [lC,lN];omega)) (by first|(unfold maxLen;omega)|(simp only [lC,lN,maxLen];omega)),?_⟩
  intro z56
  intro b55
  refine gK [4,5,49,56] I (gQ (zeP I (λ w hw=>zaO (i:=((V.length:Int) - 1)) (zam zbo (hw.has (p:=7) I)))) (gQ (zbh zyL I (λ w hw=>zaO (i:=((V.length:Int) - 1)) (zam zbo (hw.has (p:=7) I)))) (zfG (x':=(⟨more (V.getD (((V.length:Int) - 1)).toNat default).s (⟨x9.1,(x17.1).getD 0 0,((x17.1).drop 1).getD 0 0,(((x17.1).drop 1).drop 1).getD 0 0,((((x17.1).drop 1).drop 1).drop 1).getD 0 0⟩:Opn),z56.1,z56.2⟩:WlC)) 7 zbo zAi I I (vs:=[_]) I I (by decide) I I (by omega) (by omega) (gN [4,5] I ?_))))
  have hY:((V.set ((V.length:Int) - 1).toNat (⟨more (V.getD ((V.length:Int) - 1).toNat default).s (⟨x9.1,(x17.1).getD 0 0,((x17.1).drop 1).getD 0 0,(((x17.1).drop 1).drop 1).getD 0 0,((((x17.1).drop 1).drop 1).drop 1).getD 0 0⟩:Opn),z56.1,z56.2⟩:WlC)).getD ((V.length:Int) - 1).toNat default)=⟨more (V.getD ((V.length:Int) - 1).toNat default).s (⟨x9.1,(x17.1).getD 0 0,((x17.1).drop 1).getD 0 0,(((x17.1).drop 1).drop 1).getD 0 0,((((x17.1).drop 1).drop 1).drop 1).getD 0 0⟩:Opn),z56.1,z56.2⟩:=zwj hi0 _
  have hlN:(V.set ((V.length:Int) - 1).toNat (⟨more (V.getD ((V.length:Int) - 1).toNat default).s (⟨x9.1,(x17.1).getD 0 0,((x17.1).drop 1).getD 0 0,(((x17.1).drop 1).drop 1).getD 0 0,((((x17.1).drop 1).drop 1).drop 1).getD 0 0⟩:Opn),z56.1,z56.2⟩:WlC)).length=V.length:=List.length_set
  refine zac (gZ 6 (ph_y (zaf I) (ph_y (zeP I (λ w hw=>zaO (i:=((V.length:Int) - 1)) (zam zbo (hw.has (p:=7) I)))) (ph_y (zbv (vs:=[_,_,_,_]) zyz I (λ _ hw=>(zam zbo (hw.has (p:=7) I))) (by omega) (by omega) I) (ph_y (zat 3 zyq I I (vs:=[_,_,_,_,_,_,_,_,_,_,_,_,_,_,_,_,_,_,_,_]) I I) (ph_y (zaJ zw1 I (λ w hw=>zmI _ _ ((V.set ((V.length:Int) - 1).toNat (⟨more (V.getD ((V.length:Int) - 1).toNat default).s (⟨x9.1,(x17.1).getD 0 0,((x17.1).drop 1).getD 0 0,(((x17.1).drop 1).drop 1).getD 0 0,((((x17.1).drop 1).drop 1).drop 1).getD 0 0⟩:Opn),z56.1,z56.2⟩:WlC)).getD ((V.length:Int) - 1).toNat default).s _ _ (zav S (V.getD ((V.length:Int) - 1).toNat default).s.sheet).s w (by rw [hY];exact(zam zyn (hw.has (p:=2) I))) (by rw [hY];exact zcM (hw.has (p:=2) I)) (by rw [hY];have:=(zmh hq hV hi0).1;unfold zaP more;simp only [lA,lC,lN];omega) (by rw [hY];exact zrI (zmh hq hV hi0).2 (zrC hx9 _ _ _ _)) (by rw [zf2,hS];exact zqi hq _))) (ph_y (zbR I) (gN [64] I (zao 2 I (zao 2 I (zbT 2 ?_)))))))))))
  refine za2 (R':=Go.K.Rows (rowO 122) (V.set ((V.length:Int) - 1).toNat (⟨more (V.getD ((V.length:Int) - 1).toNat default).s (⟨x9.1,(x17.1).getD 0 0,((x17.1).drop 1).getD 0 0,(((x17.1).drop 1).drop 1).getD 0 0,((((x17.1).drop 1).drop 1).drop 1).getD 0 0⟩:Opn),z56.1,z56.2⟩:WlC))) 0 I (λ B w hA=>zqF (f:=rowO 122) hi0 hA) (za2 (R':=Box p [C sa S.length sc,C wa (V.set ((V.length:Int) - 1).toNat (⟨more (V.getD ((V.length:Int) - 1).toNat default).s (⟨x9.1,(x17.1).getD 0 0,((x17.1).drop 1).getD 0 0,(((x17.1).drop 1).drop 1).getD 0 0,((((x17.1).drop 1).drop 1).drop 1).getD 0 0⟩:Opn),z56.1,z56.2⟩:WlC)).length wc] 37) 3 I (λ B w hA=>by rw [hlN];exact hA) (zao 6 I (zao 6 I (zao 6 I (zao 6 I (zgU (y:=yP) (q:=⟨q.S,q.V.set (q.V.length - 1) (more (q.V.getD (q.V.length - 1) default) (⟨x9.1,(x17.1).getD 0 0,((x17.1).drop 1).getD 0 0,(((x17.1).drop 1).drop 1).getD 0 0,((((x17.1).drop 1).drop 1).drop 1).getD 0 0⟩:Opn))⟩) (hS) (zxy hV hi0 _ _ _) ?_))))))
  rw [zf2,hS,hY,zsY hV hi0]
  refine zap I (λ hc64=>?_) (λ hc64=>?_)
  ·have h64:¬ zd1 (getS q.S (q.V.getD (q.V.length - 1) default).sheet).height (more (q.V.getD (q.V.length - 1) default) (⟨x9.1,(x17.1).getD 0 0,((x17.1).drop 1).getD 0 0,(((x17.1).drop 1).drop 1).getD 0 0,((((x17.1).drop 1).drop 1).drop 1).getD 0 0⟩:Opn))=true:=by simpa using hc64
   refine zaa (zcg zwZ I (λ w hw=>zdk _ w) ?_)
   exact zbG 0 I zdy (by rw [zch,hx9,zak,hx17,zak,hx19,zak];exact(if_neg h25).trans (if_neg h64))
  ·have h64:zd1 (getS q.S (q.V.getD (q.V.length - 1) default).sheet).height (more (q.V.getD (q.V.length - 1) default) (⟨x9.1,(x17.1).getD 0 0,((x17.1).drop 1).getD 0 0,(((x17.1).drop 1).drop 1).getD 0 0,((((x17.1).drop 1).drop 1).drop 1).getD 0 0⟩:Opn))=true:=by simpa using hc64
   refine zaq ?_
   exact zik ⟨q.S,q.V.set (q.V.length - 1) (more (q.V.getD (q.V.length - 1) default) (⟨x9.1,(x17.1).getD 0 0,((x17.1).drop 1).getD 0 0,(((x17.1).drop 1).drop 1).getD 0 0,((((x17.1).drop 1).drop 1).drop 1).getD 0 0⟩:Opn))⟩ () 0 (zcN I) I I (by rw [zch,hx9,zak,hx17,zak,hx19,zak];exact(if_neg h25).trans (if_pos h64))
theorem tf46:TF Tryz.prog 46 false 1 (O 0):=tK
theorem zEV:MT Tryz.prog 205 9 203 1 false (.nilFunc):=⟨Tryz.underlying205,Tryz.underlying9,⟨by kernel_rfl,by kernel_rfl⟩⟩
theorem zdn {c:Cx} (hP:c.P=Tryz.prog) {H:List Res} {b:Nat} {k0 k:Int} {w:World} (hw:Hp c.U c.w0 (Box b [O k0] 46 :: H) w) :
  CallsDIn Fence.wide 0 c.P 97 [Z b].toArray (.panicking (thrC (errT 46 k))) w (λ e u' w'=>(∃ v,e=.returned v)∧settle u' = .returning∧Hp c.U c.w0 (Box b [O k] 46 :: H) w'):=by
 rw [hP]
 refine CallsDIn.mono (zfR (c:=⟨none,Tryz.prog,11,c.U,c.w0⟩) (H':=Box b [O k] 46 :: H) (vs:=[_]) I Tryz.func97 I I (bL I) (bL I) (λ c₀ cs h=>.inl (zor c₀ cs h)) hw ?_) ?_
 ·refine zas (gS (gQ (zjA (by first|exact Tryz.underlying20|kernel_rfl) I (.inr ⟨_,_,rfl⟩)) (gN [0,4,6] I (zd8 I (gS (gQ (zlN if46 I) (gQ (zaB I I) (gQ (zaB I I) (gN [0,8,9] I (zdg I (gS (gA I (gN [0,2] I (zaa (gM I (zaA 0 tf46 I I (vs:=[_]) I I I I I (zag ?_)))))))))))))))))
  exact zvZ (zcN I)
 ·rintro e u w' ⟨h1,rfl,h3⟩
  exact⟨h1,zov,h3⟩
theorem zgX {c:Cx} (hP:c.P=Tryz.prog) {H:List Res} {b:Nat} {w:World} (hw:Hp c.U c.w0 H w) :
  CallsDIn Fence.wide 0 c.P 97 [Z b].toArray .returning w (λ e u' w'=>(∃ v,e=.returned v)∧settle u' = .returning∧Hp c.U c.w0 H w'):=by
 rw [hP]
 refine CallsDIn.mono (zfR (c:=⟨none,Tryz.prog,11,c.U,c.w0⟩) (H':=H) (vs:=[_]) I Tryz.func97 I I (bL I) (bL I) (λ c₀ cs h=>.inr ⟨zkk c₀ cs h,rfl,rfl⟩) hw ?_) ?_
 ·refine zas (gS (gQ (zjA (by first|exact Tryz.underlying20|kernel_rfl) I (.inl I)) (gN [0,4,6] I (zdg I (zaa (gA I (zag ?_)))))))
  exact zvZ (zcN I)
 ·rintro e u w' ⟨h1,rfl,h3⟩
  exact⟨h1,rfl,h3⟩
def zeR (b:Nat):List (ByteArray×Value):=[(⟨#[115,104,101,101,116]⟩,.func (.func 120) #[] #[Z b]),(⟨#[119,97,108,108]⟩,.func (.func 123) #[] #[Z b]),(⟨#[111,112,101,110]⟩,.func (.func 126) #[] #[Z b])]
abbrev zsz (z:Nat×Nat) (p:Nat):Res:=SepR [MapR z.1 (zeR z.2),Box z.2 [Z p] 198]
theorem ztV (p:Nat) (w:World)  :
  Calls Tryz.prog 99 #[Z p] w (zcU (λ z:Nat×Nat=>.map (some z.1)) (λ z=>zsz z p) w):=by
 refine zan (vs:=[_]) Tryz.func99 I I (bL I) (gS (zaG I I (za3 (vs:=[_]) I I) λ b1=>(gA I (gN [1,2] I (gS (zaG I I (zmM) λ b3=>(gQ (zbO («as»:=[]) (bs:=[_]) I I) (zig 0 zEV I I I I (by rfl) (gQ (zbO («as»:=[]) (bs:=[_]) I I) (zig 0 zEV I I I I (by show mget [_] _=none;rw [mget,if_neg (show ¬ ((⟨#[119,97,108,108]⟩:ByteArray) == ⟨#[115,104,101,101,116]⟩)=true by decide)];rfl) (gQ (zbO («as»:=[]) (bs:=[_]) I I) (zig 0 zEV I I I I (by show mget [_,_] _=none;rw [mget,if_neg (show ¬ ((⟨#[111,112,101,110]⟩:ByteArray) == ⟨#[115,104,101,101,116]⟩)=true by decide),mget,if_neg (show ¬ ((⟨#[111,112,101,110]⟩:ByteArray) == ⟨#[119,97,108,108]⟩)=true by decide)];rfl) (gM I (gA I (gN [2] I (zao 1 I (zao 1 I (zbT 2 (za2 (R':=zsz (b3,b1) p) 0 I (λ B w hA=>hA) (zaw ?_))))))))))))))))))))
 exact zbd (b3,b1) 0 (zaC I (zau I)) I I
end Go.Proofs.YteepmmghanbllaaGreatDoor
namespace Go.Pln
open Go Go.K Go.RowKit Go.Stn Go.Txt
theorem zkO (c:UInt8):∀ l:List UInt8,(cutL c l).length≤l.length+1
 | []=>by simp [cutL]
 | x :: r=>by
  have:=zkO c r
  rw [cutL]
  split
  ·simp;omega
  ·split
   ·simp
   ·rename_i e;rw [e] at this;simp at this ⊢;omega
theorem zjw (s:ByteArray) (c:UInt8):1≤(zcn s c).length∧(zcn s c).length≤s.size+1:=by
 have h1:=zkO c s.data.toList
 have h2:=zm4 c s.data.toList
 rw [←ziG,lM] at h1 h2
 have h3:s.data.toList.length=s.size:=by rw [Array.length_toList];rfl
 omega
theorem zns (s:ByteArray):mkB s.data.toList=s:=by
 cases s;simp [mkB]
theorem zcT (s:ByteArray) (c:UInt8):zcn s c=(cutL c s.data.toList).map mkB:=by
 rw [←ziG,List.map_map]
 conv=>lhs;rw [←List.map_id (zcn s c)]
 exact List.map_congr_left λ x _=>(zns x).symm
def zfN:List ByteArray→List ByteArray
 | []=>[]
 | [x]=>if x.size=0 then [] else [x]
 | x :: y :: r=>x :: zfN (y :: r)
def zcb (t:ByteArray):List ByteArray:=zfN (zcn t 10)
def cutA (t:ByteArray):ByteArray:=mkB (Lib.cut t.data.toList [10]).1
def cutB (t:ByteArray):ByteArray:=mkB (Lib.cut t.data.toList [10]).2.1
theorem znt (l:List UInt8):(mkB l).size=l.length:=by show l.toArray.size=l.length;simp
theorem zp4 {t:ByteArray} (h:t.size=0):zcb t=[]:=by
 have h1:t.data.toList=[]:=List.eq_nil_of_length_eq_zero (by rw [Array.length_toList];exact h)
 unfold zcb
 rw [zcT,h1]
 rfl
theorem zol {t:ByteArray} (h:t.size≠0):zcb t=cutA t :: zcb (cutB t):=by
 unfold zcb cutA cutB
 rw [zcT,zcT]
 rcases zm5 t.data.toList 10 with ⟨p,r,h1,h2,h3⟩ | ⟨h1,h2⟩
 ·rw [h3,h1,zhx h2]
  show zfN (mkB p :: (cutL 10 r).map mkB)=mkB p :: zfN ((cutL 10 r).map mkB)
  have:=zm4 10 r
  cases hc:cutL 10 r with
  | nil=>rw [hc] at this;simp at this
  | cons a b=>rfl
 ·rw [h2,zeD h1]
  show(if (mkB t.data.toList).size=0 then [] else [mkB t.data.toList])=mkB t.data.toList :: []
  rw [if_neg (by rw [zns];exact h)]
theorem zkN {t:ByteArray} (h:t.size≠0):(cutB t).size<t.size:=by
 have h3:t.data.toList.length=t.size:=by rw [Array.length_toList];rfl
 unfold cutB
 rw [znt]
 rcases zm5 t.data.toList 10 with ⟨p,r,h1,h2,h3⟩ | ⟨h1,h2⟩
 ·rw [h3]
  have:=congrArg List.length h1
  simp at this
  dsimp only
  omega
 ·rw [h2];dsimp only;simp;omega
theorem zgY {t u:ByteArray} {i:Nat} (h:zcb u=(zcb t).drop i) (hu:u.size≠0):zcb (cutB u)=(zcb t).drop (i+1)∧(zcb t)[i]?=some (cutA u):=by
 rw [zol hu] at h
 constructor
 ·rw [show(zcb t).drop (i+1)=((zcb t).drop i).drop 1 from by rw [List.drop_drop],←h];rfl
 ·have:=congrArg (λ l=>l[0]?) h
  simpa using this.symm
theorem zp3 {t u:ByteArray} {i:Nat} (h:zcb u=(zcb t).drop i) (hu:u.size=0) (hi:i≤(zcb t).length):i=(zcb t).length:=by
 rw [zp4 hu] at h
 have:=congrArg List.length h
 simp at this
 omega
theorem zlh:∀ {l:List ByteArray} {x:ByteArray},x∈zfN l→x∈l
 | [],_,h=>h
 | [x],y,h=>by
  rw [zfN] at h
  split at h
  ·cases h
  ·exact h
 | a :: b :: r,y,h=>by
  rw [zfN] at h
  rcases List.mem_cons.1 h with h'|h'
  ·exact List.mem_cons.2 (.inl h')
  ·exact mM _ (zlh h')
def idle (t:ByteArray):Bool:=t.size == 0||zee t 0 == 35
def zdo (q:Plan) (n:Int):List ByteArray→Except (Int×Int) Plan
 | []=>.ok q
 | t :: r=>if idle t=true then zdo q (n+1) r else match zcu q t with
  | .error k=>.error (n,k)
  | .ok q'=>zdo q' (n+1) r
def zgA (t:ByteArray):Plan×Int×Int:=
 if t.size > 40000 then(⟨[],[]⟩,0,5) else match zdo ⟨[],[]⟩ 1 (zcb t) with
 | .ok q=>(q,0,0)
 | .error x=>(⟨[],[]⟩,x.1,x.2)
end Go.Pln
namespace Go.Proofs.YteepmmghanbllaaGreatDoor
open Go.K Go.Stn Go.Pln Go.RowKit
theorem en97:En Tryz.prog 97:=eK Tryz.func97
theorem en98:En Tryz.prog 98:=eK Tryz.func98
theorem en99:En Tryz.prog 99:=eK Tryz.func99
theorem ztH:En Tryz.prog 120:=eK Tryz.func120
theorem zHA:En Tryz.prog 123:=eK Tryz.func123
theorem zxa:En Tryz.prog 126:=eK Tryz.func126
theorem zEC (x0a:yO) (x0n x0c:Nat) (w:World):(Instr.build 202 #[(0,C x0a x0n x0c)]).run Tryz.prog w=.ok (.agg #[C x0a x0n x0c]) w:=by kernel_rfl
theorem zgv {p:Nat} {q:Plan} {t:ByteArray} {P:Program} {n:Nat} {w w':World} {B:Nat→Prop} {H:List Res} {k:Int} {R:Res} (i:Nat) (hi:H[i]?=some R) (hR:∀ B w,R.A B w→(plAt yP p).A B w) (he:zcu q t=.error k) (hw:Hp (cxB P n w B).U (cxB P n w B).w0 H w') :
  zho (λ _:Unit=>O (zkJ (zcu q t))) (λ _=>plOr yP p (zcu q t)) (λ _=>True) B w (.returned (O k)) w':=by
 rw [he]
 obtain⟨B',h1,h2,_,h3⟩:=zet hw hi
 exact⟨(),B',rfl,trivial,h1,h2,hR _ _ h3⟩
theorem zmi {p:Nat} {q q':Plan} {t:ByteArray} {P:Program} {n:Nat} {w w':World} {B:Nat→Prop} {H:List Res} {i:Nat} (he:zcu q t=.ok q') (hw:Hp (cxB P n w B).U (cxB P n w B).w0 H w') (hi:H[i]?=some (PlE yP p q')) :
  zho (λ _:Unit=>O (zkJ (zcu q t))) (λ _=>plOr yP p (zcu q t)) (λ _=>True) B w (.returned (O 0)) w':=by
 rw [he]
 obtain⟨B',h1,h2,_,h3⟩:=zet hw hi
 exact⟨(),B',rfl,trivial,h1,h2,h3⟩
theorem zmd {b:Nat} {u:ByteArray} (h:(mget (zeR b) u).isSome=true) :
  ((u == ⟨#[115,104,101,101,116]⟩)=true∧mget (zeR b) u=some (.func (.func 120) #[] #[Z b]))∨(¬ (u == ⟨#[115,104,101,101,116]⟩)=true∧(u == ⟨#[119,97,108,108]⟩)=true∧mget (zeR b) u=some (.func (.func 123) #[] #[Z b])) ∨
  (¬ (u == ⟨#[115,104,101,101,116]⟩)=true∧¬ (u == ⟨#[119,97,108,108]⟩)=true∧(u == ⟨#[111,112,101,110]⟩)=true∧mget (zeR b) u=some (.func (.func 126) #[] #[Z b])):=by
 unfold zeR mget mget mget mget at *
 by_cases h1:(u == ⟨#[115,104,101,101,116]⟩)=true
 ·exact .inl ⟨h1,if_pos h1⟩
 ·by_cases h2:(u == ⟨#[119,97,108,108]⟩)=true
  ·exact .inr (.inl ⟨h1,h2,(if_neg h1).trans (if_pos h2)⟩)
  ·by_cases h3:(u == ⟨#[111,112,101,110]⟩)=true
   ·exact .inr (.inr ⟨h1,h2,h3,(if_neg h1).trans ((if_neg h2).trans (if_pos h3))⟩)
   ·rw [if_neg h1,if_neg h2,if_neg h3] at h;cases h
theorem zmc {b:Nat} {q:Plan} {u:ByteArray} {ws:List ByteArray} (h:(mget (zeR b) u).isSome=false):zff q u ws=.error 4:=by
 unfold zeR mget mget mget mget at h
 unfold zff
 by_cases h1:(u == ⟨#[115,104,101,101,116]⟩)=true
 ·rw [if_pos h1] at h;cases h
 ·by_cases h2:(u == ⟨#[119,97,108,108]⟩)=true
  ·rw [if_neg h1,if_pos h2] at h;cases h
  ·by_cases h3:(u == ⟨#[111,112,101,110]⟩)=true
   ·rw [if_neg h1,if_neg h2,if_pos h3] at h;cases h
   ·rw [if_neg h1,if_neg h2,if_neg h3]
theorem zv6 (p:Nat) (q:Plan) (t:ByteArray) (w:World) (B:Nat→Prop) (hB:yak B w) (hA:(PlP p q).A B w) (hq:OkQ q) (ht:t.size≤40000) (hmx:Rd (λ k=>k<w.heap.size∧¬ B k) w (IntV 2)) (hcp:yao w B) (hop:Rd (λ k=>k<w.heap.size∧¬ B k) w (zaW (some ⟨0,0,none⟩) 1 encS opensW)) :
  Calls Tryz.prog 70 #[Z p,.string t] w (zho (λ _:Unit=>O (zkJ (zcu q t))) (λ _=>plOr yP p (zcu q t)) (λ _=>True) B w):=by
 refine zby hB hA (vs:=[_,_]) Tryz.func70 I I (bL I) (gS (zaG I I (zaL tf46 (zs:=[_]) I) λ b4=>(gN [0,1,4] I (gS (gQ (zbO («as»:=[]) (bs:=[_]) I I) (zru (cap:=[_]) I I I (gN [0,1,4] I (gS (gM I (zaG I I (zbm en98 I (λ w hw=>zuJ t 32 w (by omega) (Rd.has hmx hw))) λ b10=>(gQ (zaI I (zEC _ _ _)) (zaG I I (za3 (vs:=[_]) I I) λ b12=>(gA I (gN [0,4,5] I (zao 1 I (za2 (R':=zaW (some ⟨b10,0,none⟩) 1 encS (zcn t 32)) 0 I (λ B w hA=>Row.elems ztJ hA) (zao 1 I (zeH (Nat.le_refl _) (gS (gM I (zaG I I (zbm en99 I (λ w hw=>ztV p w)) λ m15=>(gM I (zbZ (res:=zdp (zcn t 32)) 1 zwY I I I (λ w B hF=>zli b12 (zcn t 32) w B (λ k hk=>(hF.own k hk).2) hF.A) (λ k hk17=>?_) (λ x17 m17 hx17=>?_))))))))))))))))))))))))
 ·refine zao 2 I ?_
  exact zfg (H':=Box b4 [O k] 46 :: _) en97 (λ w hw=>zdn I hw) (zaC I (zcy (i:=0) tf46 I I I)) (λ w hw=>zgv 3 I zdy (by rw [zcu,hk17];rfl) hw)
 refine zbP (gQ (zmL zEV I I (λ _ hw=>hw.has (p:=0) I)) (gM I (gQ (zaB I I) (gQ (zaB I I) (gA I (gA I (gN [4,5,6,7] I ?_)))))))
 have hws17:x17.2.length≤100000:=by have:=(zjw t 32).2;have:=zka hx17;omega
 refine zac (gS (gM I (gQ (zbR I) (gN [4,5,6,22] I (zap I (λ hc22=>?_) (λ hc22=>?_))))))
 ·refine zaa (zcg zwZ I (λ w hw=>zdk _ w) (zao 3 I ?_))
  exact zfg (H':=Box b4 [O 4] 46 :: _) en97 (λ w hw=>zdn I hw) (zaC I (zcy (i:=0) tf46 I I I)) (λ w hw=>zgv 4 I zdy (by rw [zcu,hx17,zak];exact zmc (by simpa using hc22)) hw)
 ·have h22:(mget (zeR m15.2) x17.1).isSome=true:=by simpa using hc22
  rcases zmd h22 with ⟨hu,hm⟩ | ⟨hu0,hu,hm⟩ | ⟨hu0,hu1,hu,hm⟩
  ·refine zae (T':=[(4,_),(5,_),(6,.func (.func 120) #[] #[Z m15.2]),(22,_)]) ⟨I,I,(by show some ((mget (zeR m15.2) x17.1).getD _)=_;rw [hm];rfl),I,trivial⟩ (zaq (gS (gM I (gM I (zao 4 I (zao 3 I (zbT 2 (zie (res:=zb3 q x17.2) (fs:=[]) (cap:=[_]) 0 ztH I I I I (λ w B hF=>ztS b12 x17.2 p q m15.2 w B (λ k hk=>(hF.own k hk).2) hF.A hq (hF.other 1 I) hws17 (hF.rd hcp)) (λ k hk26=>?_) (λ x26 m26 hx26=>?_)))))))))
   ·refine zao 3 I ?_
    exact zfg (H':=Box b4 [O k] 46 :: _) en97 (λ w hw=>zdn I hw) (zaC I (zcy (i:=0) tf46 I I I)) (λ w hw=>zgv 1 I zmt (by rw [zcu,hx17,zak,zff,if_pos hu];exact hk26) hw)
   refine gN [4] I (gS (zaA 3 tf46 I I (vs:=[_]) I I I I I (gN [4] I (zaw ?_))))
   exact zgW en97 (λ w hw=>zgX I hw) (zaC I (zcy (i:=3) tf46 I I I)) (λ w hw=>zmi (by rw [zcu,hx17,zak,zff,if_pos hu];exact hx26) hw (i:=0) I)
  ·refine zae (T':=[(4,_),(5,_),(6,.func (.func 123) #[] #[Z m15.2]),(22,_)]) ⟨I,I,(by show some ((mget (zeR m15.2) x17.1).getD _)=_;rw [hm];rfl),I,trivial⟩ (zaq (gS (gM I (gM I (zao 4 I (zao 3 I (zbT 2 (zie (res:=zb1 q x17.2) (fs:=[]) (cap:=[_]) 0 zHA I I I I (λ w B hF=>ztT b12 x17.2 p q m15.2 w B (λ k hk=>(hF.own k hk).2) hF.A hq (hF.other 1 I) hws17) (λ k hk26=>?_) (λ x26 m26 hx26=>?_)))))))))
   ·refine zao 3 I ?_
    exact zfg (H':=Box b4 [O k] 46 :: _) en97 (λ w hw=>zdn I hw) (zaC I (zcy (i:=0) tf46 I I I)) (λ w hw=>zgv 1 I zmt (by rw [zcu,hx17,zak,zff,if_neg hu0,if_pos hu];exact hk26) hw)
   refine gN [4] I (gS (zaA 3 tf46 I I (vs:=[_]) I I I I I (gN [4] I (zaw ?_))))
   exact zgW en97 (λ w hw=>zgX I hw) (zaC I (zcy (i:=3) tf46 I I I)) (λ w hw=>zmi (by rw [zcu,hx17,zak,zff,if_neg hu0,if_pos hu];exact hx26) hw (i:=0) I)
  ·refine zae (T':=[(4,_),(5,_),(6,.func (.func 126) #[] #[Z m15.2]),(22,_)]) ⟨I,I,(by show some ((mget (zeR m15.2) x17.1).getD _)=_;rw [hm];rfl),I,trivial⟩ (zaq (gS (gM I (gM I (zao 4 I (zao 3 I (zbT 2 (zie (res:=zch q x17.2) (fs:=[]) (cap:=[_]) 0 zxa I I I I (λ w B hF=>ztU b12 x17.2 p q m15.2 w B (λ k hk=>(hF.own k hk).2) hF.A hq (hF.other 1 I) hws17 (hF.rd hop)) (λ k hk26=>?_) (λ x26 m26 hx26=>?_)))))))))
   ·refine zao 3 I ?_
    exact zfg (H':=Box b4 [O k] 46 :: _) en97 (λ w hw=>zdn I hw) (zaC I (zcy (i:=0) tf46 I I I)) (λ w hw=>zgv 1 I zmt (by rw [zcu,hx17,zak,zff,if_neg hu0,if_neg hu1,if_pos hu];exact hk26) hw)
   refine gN [4] I (gS (zaA 3 tf46 I I (vs:=[_]) I I I I I (gN [4] I (zaw ?_))))
   exact zgW en97 (λ w hw=>zgX I hw) (zaC I (zcy (i:=3) tf46 I I I)) (λ w hw=>zmi (by rw [zcu,hx17,zak,zff,if_neg hu0,if_neg hu1,if_pos hu];exact hx26) hw (i:=0) I)
theorem en96:En Tryz.prog 96:=eK Tryz.func96
def numV:Int→List ByteArray→List (List Value)
 | _,[]=>[]
 | n,t :: r=>[O n,.string t] :: numV (n+1) r
theorem zhz:∀ (n:Int) (l:List ByteArray),(numV n l).length=l.length
 | _,[]=>rfl
 | n,t :: r=>by rw [numV,lC,lC,zhz (n+1) r]
theorem zkc {u:ByteArray}:∀ {l:List ByteArray} {k:Int} {i:Nat},l[i]?=some u→(numV k l)[i]?=some [O (k+i),.string u]
 | [],_,_,h=>by simp at h
 | t :: r,k,0,h=>by
  simp at h
  rw [numV,h]
  simp
 | t :: r,k,i+1,h=>by
  rw [List.getElem?_cons_succ] at h
  rw [numV,List.getElem?_cons_succ,zkc h,show k+1+(i:Int)=k+((i+1:Nat):Int) from by omega]
theorem zuk {n:Int} {l:List ByteArray} {u:ByteArray} (h1:1≤n) (h:l[(n - 1).toNat]?=some u):(numV 1 l)[(n - 1).toNat]?=some [O n,.string u]:=by
 rw [zkc h,show 1+((n - 1).toNat:Int)=n from by omega]
theorem zkQ:∀ l:List ByteArray,(zfN l).length≤l.length
 | []=>Nat.le_refl _
 | [x]=>by rw [zfN];split <;> simp
 | x :: y :: r=>by have:=zkQ (y :: r);rw [zfN,lC,lC];omega
theorem zp5 (t:ByteArray):(zcb t).length≤t.size+1:=Nat.le_trans (zkQ _) (zjw t 10).2
theorem ze8 {u:ByteArray}:(u.toList == (⟨#[]⟩:ByteArray).toList)=true↔u.size=0:=by
 rw [Lib.toList_data,Lib.toList_data,beq_iff_eq]
 constructor
 ·intro h
  have:=congrArg List.length h
  rw [Array.length_toList] at this
  exact this
 ·intro h
  exact List.eq_nil_of_length_eq_zero (by rw [Array.length_toList];exact h)
theorem ztx (s:ByteArray) (w:World) (hs:s.size<4294967281) (hm:Has w (IntV 2)):Calls Tryz.prog 96 #[.string s,.string ⟨#[10]⟩] w (Pure (.tuple #[.string (cutA s),.string (cutB s),.bool (Lib.cut s.data.toList [10]).2.2]) w):=zww s _ w hs hm
theorem zrG (t:ByteArray) (b:Nat) (ht:t.size≤40000) :
  zu2 Tryz.prog 95 [Z b] (numV 1 (zcb t)) (Box b [.string t] 9) (IntV 2):=by
 intro X J Rl D y w B C x0 hB hC hA hO h0 hS hy
 have hnum:=zp5 t
 refine zby (B:=λ k=>B k∨C k) (λ k h=>h.elim (hB k) (λ h=>(hC k h).1)) (zsg hA hO (λ k h=>(hC k h).2)) (vs:=[_,_]) Tryz.func95 I I (bL I) ?_
 have ins0:=zpY Tryz.prog Tryz.f95.ntmps w (λ k=>B k∨C k)
 refine zbP (gS (gA I (gN [0,1,3] I (zas (zbf (X:=Int×ByteArray×X) (λ⟨n,u,x2⟩=>[(0,.func (.yield y) #[] #[]),(1,Z b),(3,O n)]) (λ⟨n,u,x2⟩=>[J x2,Box b [.string u] 9]) (λ⟨n,u,x2⟩=>(1≤n∧zcb u=(zcb t).drop (n - 1).toNat∧(n - 1).toNat≤(zcb t).length∧u.size≤t.size∧Rl (n - 1).toNat x2)) (λ⟨n,u,x2⟩=>u.size) (1,t,x0) ⟨I,I,I,trivial⟩ rfl ?_ ?_)))))
 ·exact⟨by omega,rfl,by simp,Nat.le_refl _,h0⟩
 ·rintro ⟨n,u,x2⟩ hI
  obtain⟨g0,g1,g2,g3,g4⟩:=hI
  refine zac (gS (gQ (zah 1 tf9 I I I) (gQ (ziV I I) (gN [0,1,3,8] I (zap I (λ hc8=>?_) (λ hc8=>?_))))))
  ·have hu:u.size≠0:=λ h=>by rw [ze8.2 h] at hc8;exact Bool.noConfusion hc8
   refine zaq (zac (zas (gS (gQ (zah 1 tf9 I I I) (gQ (zaJ en96 I (λ w hw=>ztx u w (by omega) (Rd.has hS hw))) (gM I (gQ (zaB I I) (gQ (zaB I I) (gQ (zaB I I) (gA I (gA I (gA I (gN [0,1,3,4,5] I (zac (gS (gM I (gM I (gM I (znl 0 ins0 I I I I (hy _ _ _ (zuk g0 (zgY g1 hu).2) g4) λ b20 x20 hp20=>(gQ (zbR I) (gN [0,1,3,5,21] I (zap I (λ hc21=>?_) (λ hc21=>?_)))))))))))))))))))))))
   ·refine zaw (zd9 x20 0 (zcN I) I I (.inr (by have:=hp20;rwa [show b20=false from by simpa using hc21,if_neg fT] at this)))
   ·refine zaq (zaa (gM I (zaA 1 tf9 I I (vs:=[_]) I I I I I (gN [0,1,3] I (zaa (gM I (gQ (zaY I I) (gA I (gN [0,1,3] I ?_)))))))))
    exact za1 (n+1,cutB u,x20) ⟨I,I,I,trivial⟩ rfl ⟨by omega,by rw [show(n+1 - 1).toNat=(n - 1).toNat+1 from by omega];exact(zgY g1 hu).1,by have:=(List.getElem?_eq_some_iff.1 (zgY g1 hu).2).1;omega,by have:=zkN hu;omega,by have:=hp20;rw [show b20=true from by simpa using hc21,if_pos I] at this;rwa [show(n+1 - 1).toNat=(n - 1).toNat+1 from by omega]⟩ (by have:=zkN hu;simp only [];omega)
  ·have hu:u.size=0:=ze8.1 (by simpa using hc8)
   refine za8 I (zd9 x2 0 (zcN I) I I (.inl (by rw [zhz,←zp3 g1 hu g2];exact g4)))
theorem zud (t:ByteArray) (w:World)  :
  Calls Tryz.prog 69 #[.string t] w (zcU (λ b:Nat=>.func (.func 95) #[] #[Z b]) (λ b=>Box b [.string t] 9) w):=by
 refine zan (vs:=[_]) Tryz.func69 I I (bL I) (gS (zaG I I (za3 (vs:=[_]) I I) λ b1=>(gA I (gN [1,2] I (gS (gQ (zbO («as»:=[]) (bs:=[_]) I I) (gA I (gN [2] I (zaw (zbd b1 0 (zaC I (zau I)) ?_ I))))))))))
 rfl
end Go.Proofs.YteepmmghanbllaaGreatDoor
namespace Go.Pln
open Go Go.K Go.RowKit Go.Stn Go.Txt
def NZ {α:Type} (r:Except Int α):Prop:=∀ k,r=.error k→k≠0
theorem zgf {α:Type} (x:α):NZ (.ok x:Except Int α):=λ _ h=>by cases h
theorem zcV {α:Type} {k:Int} (h:k≠0):NZ (.error k:Except Int α):=λ _ e=>by cases e;exact h
theorem zbE {α β:Type} {a:Except Int α} {f:α→Except Int β} (h1:NZ a) (h2:∀ x,NZ (f x)):NZ (a >>= f):=by
 cases a with
 | ok x=>rw [zak];exact h2 x
 | error k=>rw [zcc];exact zcV (h1 k I)
theorem zcO {α:Type} {p:Prop} [Decidable p] {a b:Except Int α} (h1:NZ a) (h2:NZ b):NZ (if p then a else b):=by
 split
 ·exact h1
 ·exact h2
theorem zin:∀ ws:List ByteArray,NZ (zdp ws)
 | []=>zcV (by decide)
 | _ :: _=>zgf _
theorem zqI (u:ByteArray) (ws:List ByteArray):NZ (sayE u ws):=zbE (zin ws) λ _=>zcO (zgf _) (zcV (by decide))
theorem zmn (ws:List ByteArray):NZ (zes ws):=zbE (zin ws) λ _=>zcO (zgf _) (zcV (by decide))
theorem zpm (ws:List ByteArray):NZ (endE ws):=zcO (zgf _) (zcV (by decide))
theorem zv8 (ws:List ByteArray):NZ (numE ws):=zbE (zin ws) λ _=>zcO (zgf _) (zcV (by decide))
theorem zis:∀ (n:Nat) (ws:List ByteArray),NZ (zco n ws)
 | 0,_=>zgf _
 | n+1,ws=>zbE (zv8 ws) λ x=>zbE (zis n x.2) λ _=>zgf _
theorem zp1 (l:List ByteArray) (f:Nat) (ws:List ByteArray):NZ (zfk l f ws):=zbE (zin ws) λ _=>zcO (zcV (by decide)) (zgf _)
theorem zfp (u:ByteArray) (n:Nat) (ws:List ByteArray):NZ (oneE u n ws):=zbE (zqI u ws) λ x=>zis n x.2
theorem zjm:∀ (ws:List ByteArray) (acc:List Int),NZ (zbF acc ws)
 | [],_=>zgf _
 | _ :: r,acc=>by
  rw [zbF]
  exact zcO (zgf _) (zcO (zjm r _) (zcV (by decide)))
theorem zsj (ws:List ByteArray):NZ (zci ws):=by
 unfold zci
 refine zbE (zmn _) λ _=>zbE (zfp _ _ _) λ _=>zbE (zfp _ _ _) λ _=>zbE (zfp _ _ _) λ _=>zbE (zfp _ _ _) λ _=>zbE (zqI _ _) λ _=>zbE (zjm _ _) λ _=>(zbE (zfp _ _ _) λ _=>zbE (zfp _ _ _) λ _=>zbE (zfp _ _ _) λ _=>zbE (zfp _ _ _) λ _=>zbE (zfp _ _ _) λ _=>zbE (zqI _ _) λ _=>zbE (zp1 _ _ _) λ _=>zbE (zis _ _) λ _=>?_)
 exact zbE (zfp _ _ _) λ _=>zbE (zfp _ _ _) λ _=>zcO (zcV (by decide)) (zgf _)
theorem zqL (q:Plan) (ws:List ByteArray):NZ (zb3 q ws):=
 zbE (zsj ws) λ _=>zbE (zpm _) λ _=>zcO (zcV (by decide)) (zcO (zcO (zcV (by decide)) (zgf _)) (zcV (by decide)))
theorem zst (q:Plan) (ws:List ByteArray):NZ (zb1 q ws):=
 zbE (zmn ws) λ _=>zbE (zmn _) λ _=>zbE (zis _ _) λ _=>zbE (zpm _) λ _=>zcO (zcV (by decide)) (zcO (zcO (zcO (zcV (by decide)) (zgf _)) (zcV (by decide))) (zcV (by decide)))
theorem zrW (q:Plan) (ws:List ByteArray):NZ (zch q ws):=
 zbE (zp1 _ _ ws) λ _=>zbE (zis _ _) λ _=>zbE (zpm _) λ _=>zcO (zcV (by decide)) (zcO (zgf _) (zcV (by decide)))
theorem zuc (q:Plan) (t:ByteArray):NZ (zcu q t):=by
 unfold zcu
 refine zbE (zin _) λ x=>?_
 unfold zff
 exact zcO (zqL _ _) (zcO (zst _ _) (zcO (zrW _ _) (zcV (by decide))))
theorem zrg {q:Plan} {t:ByteArray} (h:¬ zkJ (zcu q t)=0):zcu q t=.error (zkJ (zcu q t)):=by
 cases hl:zcu q t with
 | ok x=>rw [hl] at h;exact absurd I h
 | error k=>rfl
theorem ztu {q:Plan} {t:ByteArray} (h:zkJ (zcu q t)=0):∃ q',zcu q t=.ok q':=by
 cases hl:zcu q t with
 | ok x=>exact⟨x,rfl⟩
 | error k=>rw [hl] at h;exact absurd h (zuc q t k hl)
theorem zup:OkQ ⟨[],[]⟩:=⟨λ s h=>(by cases h),Nat.zero_le _,Nat.zero_le _,λ v h=>(by cases h)⟩
theorem zoq {q:Plan} {n:Int} {t:ByteArray} {r:List ByteArray} (h:idle t=true):zdo q n (t :: r)=zdo q (n+1) r:=by rw [zdo,if_pos h]
theorem zqr {q:Plan} {n:Int} {t:ByteArray} {r:List ByteArray} {k:Int} (h:idle t=false) (he:zcu q t=.error k):zdo q n (t :: r)=.error (n,k):=by
 rw [zdo,if_neg (by rw [h];exact fT),he]
theorem zhB {q q':Plan} {n:Int} {t:ByteArray} {r:List ByteArray} (h:idle t=false) (he:zcu q t=.ok q'):zdo q n (t :: r)=zdo q' (n+1) r:=by
 rw [zdo,if_neg (by rw [h];exact fT),he]
theorem zl1 {l:List ByteArray} {i:Nat} {u:ByteArray} (h:l[i]?=some u):l.drop i=u :: l.drop (i+1):=by
 obtain⟨h1,rfl⟩:=List.getElem?_eq_some_iff.1 h
 exact List.drop_eq_getElem_cons h1
def PlR (y:PTy) (z:(Option Addr×Nat×List ShC)×(Option Addr×Nat×List WlC)) (q:Plan):Res where
 A B w:=z.1.2.2.map (·.s)=q.S∧z.2.2.2.map (·.s)=q.V∧(SepR [Row z.1.1 20 z.1.2.1 y.s zbH z.1.2.2,Go.K.Rows (rowH y.i) z.1.2.2,Row z.2.1 4 z.2.2.1 y.w zbS z.2.2.2,Go.K.Rows (rowO y.o) z.2.2.2]).A B w
 loc B w w' h hA:=⟨hA.1,hA.2.1,(SepR [Row z.1.1 20 z.1.2.1 y.s zbH z.1.2.2,Go.K.Rows (rowH y.i) z.1.2.2,Row z.2.1 4 z.2.2.1 y.w zbS z.2.2.2,Go.K.Rows (rowO y.o) z.2.2.2]).loc B w w' h hA.2.2⟩
theorem zxt {y:PTy} {p:Nat} {B:Nat→Prop} {w:World} (hA:(Box p [.slice none 0 0,.slice none 0 0] y.p).A B w):(PlE y p ⟨[],[]⟩).A B w:=
 ⟨none,0,[],none,0,[],rfl,rfl,B,λ _=>False,λ _ h=>h,λ _ h=>h.elim,hA,λ _=>False,λ _=>False,λ _ h=>h,λ _ h=>h.elim,.inl ⟨rfl,rfl,rfl⟩,λ _=>False,λ _=>False,λ _ h=>h,λ _ h=>h.elim,trivial,
  λ _=>False,λ _=>False,λ _ h=>h,λ _ h=>h.elim,.inl ⟨rfl,rfl,rfl⟩,λ _=>False,λ _=>False,λ _ h=>h,λ _ h=>h.elim,trivial,trivial⟩
theorem zpO {c:Cx} {ds:List Deferred} {T:List (Nat×Value)} {H:List Res} {K:Act→World→Prop} (y:PTy) (h:GK c ds K T (PlR y ((none,0,[]),(none,0,[])) ⟨[],[]⟩ :: H)):GK c ds K T H:=λ a w ha hw=>
 h a w ha ⟨hw.base,λ _=>False,λ _ hk=>hk.elim,⟨rfl,rfl,λ _=>False,λ _=>False,λ _ h=>h,λ _ h=>h.elim,.inl ⟨rfl,rfl,rfl⟩,λ _=>False,λ _=>False,λ _ h=>h,λ _ h=>h.elim,trivial,
  λ _=>False,λ _=>False,λ _ h=>h,λ _ h=>h.elim,.inl ⟨rfl,rfl,rfl⟩,λ _=>False,λ _=>False,λ _ h=>h,λ _ h=>h.elim,trivial,trivial⟩,Holds.anti H (λ _ hk=>hk.elim id False.elim) hw.holds⟩
def stR (y:PTy) (p:Nat):Except (Int×Int) Plan→Res
 | .ok q=>PlE y p q
 | .error _=>Box p [.slice none 0 0,.slice none 0 0] y.p
def lnE:Except (Int×Int) Plan→Int
 | .ok _=>0
 | .error x=>x.1
def erE:Except (Int×Int) Plan→Int
 | .ok _=>0
 | .error x=>x.2
theorem zgi {c:UInt8}:∀ {l:List UInt8} {p:List UInt8},p∈cutL c l→p.length≤l.length
 | [],p,h=>by simp [cutL] at h;subst h;simp
 | x :: r,p,h=>by
  rw [cutL] at h
  split at h
  ·rcases List.mem_cons.1 h with rfl|h
   ·simp
   ·have:=zgi h;simp;omega
  ·split at h
   ·simp at h;subst h;simp
   ·rename_i q t e
    rcases List.mem_cons.1 h with rfl|h
    ·have:=zgi (c:=c) (l:=r) (p:=q) (by rw [e];simp);simp;omega
    ·have:=zgi (c:=c) (l:=r) (p:=p) (by rw [e];simp [h]);simp;omega
theorem zom {t u:ByteArray} {i:Nat} (h:(zcb t)[i]?=some u):u.size≤t.size:=by
 have h1:=zlh (List.mem_of_getElem? h)
 rw [zcT] at h1
 obtain⟨p,hp,rfl⟩:=List.mem_map.1 h1
 have:=zgi hp
 rw [znt]
 rwa [Array.length_toList] at this
theorem zv2 {u:ByteArray} (h:decide (zee u 0=35)=true):idle u=true:=by
 unfold idle
 rw [Bool.or_eq_true]
 exact .inr (by simpa using h)
theorem zt2 {u:ByteArray} (h1:¬ u.size=0) (h:decide (zee u 0=35)=false):idle u=false:=by
 unfold idle
 simp only [oF]
 exact⟨by simpa using h1,by simpa using h⟩
theorem zv1 {u:ByteArray} (h:u.size=0):idle u=true:=by
 unfold idle
 rw [h];rfl
theorem zjq {t:ByteArray} (h:t.size > 40000):zgA t=(⟨[],[]⟩,0,5):=if_pos h
theorem zkf {t:ByteArray} {q:Plan} (h:¬ t.size > 40000) (he:zdo ⟨[],[]⟩ 1 (zcb t)=.ok q):zgA t=(q,0,0):=by
 unfold zgA
 rw [if_neg h,he]
theorem zlq {t:ByteArray} {x:Int×Int} (h:¬ t.size > 40000) (he:zdo ⟨[],[]⟩ 1 (zcb t)=.error x):zgA t=(⟨[],[]⟩,x.1,x.2):=by
 unfold zgA
 rw [if_neg h,he]
end Go.Pln