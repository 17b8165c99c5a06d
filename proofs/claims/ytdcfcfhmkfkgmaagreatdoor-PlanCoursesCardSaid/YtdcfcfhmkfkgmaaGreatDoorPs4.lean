/- What the proof of the root text leans on, part 4: the layer, plain facts and walks. No statement of the seat is proved in this text. -/
import Derived.Laws.DeepStrings4
import Derived.Lib.AtoiAll
import Derived.Lib.IndexBytes
import Derived.Lib.IndexLaws
import Derived.Lib.ItoaNum
import Derived.Lib.SplitLaws
import Derived.Shelf.Strconv.AtoiAll
import Derived.Shelf.Strconv.Itoa3
import Derived.Shelf.Strings.Cut
import Derived.Shelf.Strings.Split
import Derived.Test.YtdcfcfhmkfkgmaaGreatDoorProg
import Derived.WideLaws
import Derived.Test.YtdcfcfhmkfkgmaaGreatDoorPs3
namespace Go.Txt
open Go
def cutL (b:UInt8):List UInt8→List (List UInt8)
 | []=>[[]]
 | x :: r=>if x=b then [] :: cutL b r else match cutL b r with
  | []=>[[x]]
  | h :: t=>(x :: h) :: t
theorem zeD {b:UInt8}:∀ {p:List UInt8},(∀ x∈p,x≠b)→cutL b p=[p]
 | [],_=>rfl
 | x :: r,h=>by
  rw [cutL,if_neg (h x (by simp)),zeD (p:=r) (fun y hy=>h y (by simp [hy]))]
theorem zhx {b:UInt8} {r:List UInt8}:∀ {p:List UInt8},(∀ x∈p,x≠b)→cutL b (p++b :: r)=p :: cutL b r
 | [],_=>by rw [List.nil_append,cutL,if_pos rfl]
 | x :: q,h=>by
  rw [List.cons_append,cutL,if_neg (h x (by simp)),zhx (p:=q) (fun y hy=>h y (by simp [hy]))]
theorem zm4 (b:UInt8) (l:List UInt8):0 < (cutL b l).length:=by
 induction l with
 | nil=>simp [cutL]
 | cons x r ih=>
  rw [cutL]
  split
  ·simp
  ·split <;> simp
theorem zm5 (l:List UInt8) (b:UInt8):(∃ p r,l=p++b :: r∧(∀ x∈p,x≠b)∧Lib.cut l [b]=(p,r,true))∨((∀ x∈l,x≠b)∧Lib.cut l [b]=(l,[],false)):=by
 have hge:=Lib.indexByte_ge l b
 by_cases h:Lib.indexByte l b = -1
 ·right
  refine⟨fun x hx e=>?_,?_⟩
  ·obtain⟨k,hk,rfl⟩:=List.getElem_of_mem hx
   exact Lib.indexByte_none h k (by rw [List.getElem?_eq_getElem hk,e])
  ·unfold Lib.cut
   rw [Lib.index_one,if_neg (by omega)]
 ·left
  obtain⟨o,ho⟩:∃ o:Nat,Lib.indexByte l b=o:=⟨(Lib.indexByte l b).toNat,by omega⟩
  obtain⟨h1,h2⟩:=Lib.indexByte_some ho
  have hlt:o < l.length:=(List.getElem?_eq_some_iff.1 h1).1
  refine⟨l.take o,l.drop (o+1),?_,fun x hx e=>?_,?_⟩
  ·have:l.drop o=b :: l.drop (o+1):=by
    rw [List.drop_eq_getElem_cons hlt]
    congr 1
    exact(List.getElem?_eq_some_iff.1 h1).2
   rw [←this,List.take_append_drop]
  ·obtain⟨k,hk,rfl⟩:=List.mem_take_iff_getElem.1 hx
   exact h2 k (by omega) (by rw [List.getElem?_eq_getElem (by omega),e])
  ·unfold Lib.cut
   rw [Lib.index_one,ho,if_pos (by omega)]
   simp
theorem split_spec (c:UInt8):∀ (k:Nat) (l:List UInt8),l.count c=k→Lib.splitK [c] 0 k l=cutL c l
 | 0,l,h=>by
  rw [Lib.splitK,zeD]
  intro x hx e
  subst e
  exact absurd (List.count_pos_iff.2 hx) (by omega)
 | k+1,l,h=>by
  rw [Lib.splitK,Lib.index_one]
  have hge:=Lib.indexByte_ge l c
  have hm:¬ Lib.indexByte l c = -1:=fun e=>by
   have h0:c∈l:=List.count_pos_iff.1 (by omega)
   obtain⟨j,hj,e2⟩:=List.getElem_of_mem h0
   exact Lib.indexByte_none e j (by rw [List.getElem?_eq_getElem hj,e2])
  rw [if_neg (fun e=>hm (beq_iff_eq.1 e))]
  obtain⟨o,ho⟩:∃ o:Nat,Lib.indexByte l c=o:=⟨(Lib.indexByte l c).toNat,by omega⟩
  obtain⟨h1,h2⟩:=Lib.indexByte_some ho
  have hlt:o < l.length:=(List.getElem?_eq_some_iff.1 h1).1
  have hl:l=l.take o++c :: l.drop (o+1):=by
   have:l.drop o=c :: l.drop (o+1):=by
    rw [List.drop_eq_getElem_cons hlt]
    congr 1
    exact(List.getElem?_eq_some_iff.1 h1).2
   rw [←this,List.take_append_drop]
  have hp:∀ x∈l.take o,x≠c:=fun x hx e=>by
   obtain⟨k,hk,rfl⟩:=List.mem_take_iff_getElem.1 hx
   exact h2 k (by omega) (by rw [List.getElem?_eq_getElem (by omega),e])
  have hc:(l.drop (o+1)).count c=k:=by
   have h3:=congrArg (List.count c) hl
   rw [h,List.count_append,List.count_cons_self,List.count_eq_zero_of_not_mem (fun hx=>hp c hx rfl)] at h3
   omega
  have ih:=split_spec c k (l.drop (o+1)) hc
  rw [ho,Int.toNat_natCast,Nat.add_zero,show o+[c].length=o+1 from rfl,ih]
  conv=>rhs; rw [hl]
  rw [zhx hp]
def ziZ (c:UInt8):Prop:=48≤c.toNat∧c.toNat≤57
instance (c:UInt8):Decidable (ziZ c):=inferInstanceAs (Decidable (_∧_))
def zfQ (acc:Nat) (l:List UInt8):Nat:=l.foldl (fun a c=>a*10+(c.toNat - 48)) acc
theorem zhX (a:Nat) (c:UInt8) (r:List UInt8):zfQ a (c :: r)=zfQ (a*10+(c.toNat - 48)) r:=by unfold zfQ; rw [List.foldl_cons]
theorem zjp:∀ (l:List UInt8) (acc:Nat),(∀ c∈l,ziZ c)→(acc+1)*10 ^ l.length≤10 ^ 18→Lib.parseUint10 acc l=.ok (zfQ acc l)
 | [],_,_,_=>rfl
 | c :: r,acc,hd,hb=>by
  have hc:=hd c (by simp)
  unfold ziZ at hc
  rw [List.length_cons,Nat.pow_succ,Nat.mul_comm (10 ^ r.length) 10,←Nat.mul_assoc] at hb
  have hp:1≤10 ^ r.length:=Nat.pos_of_ne_zero (by simp)
  have h1:(acc+1)*10≤10 ^ 18:=Nat.le_trans (Nat.le_mul_of_pos_right _ hp) hb
  have h18:(10:Nat) ^ 18=1000000000000000000:=rfl
  rw [Lib.parseUint10,if_pos hc,if_neg (by omega),if_neg (by omega),zhX]
  refine zjp r _ (fun x hx=>hd x (by simp [hx])) (Nat.le_trans (Nat.mul_le_mul_right _ ?_) hb)
  omega
end Go.Txt
namespace Go.K
open Go Go.RowKit Go.Shelf Go.Proofs
abbrev encS (s:ByteArray):List Value:=[.string s]
theorem ztJ:Enc 1 encS:=⟨fun _=>rfl,fun _=>rfl,by decide⟩
def IntV (b:Nat):Res where
 A B w:=(∀ k,B k↔k=b)∧∃ m,w.cell? ⟨b,0,none⟩=some (.int .i64 m)
 loc _ w w' h hA:=⟨hA.1,let ⟨m,hm⟩:=hA.2; ⟨m,by
  have:=h b ((hA.1 b).2 rfl)
  simp only [World.cell?] at hm ⊢
  rw [this]; exact hm⟩⟩
theorem zpo (w:World) (n:Nat):Ext w (w.drewN n):=⟨rfl,⟨rfl,Nat.le_add_right _ _⟩,rfl,Nat.le_refl _,fun _ _=>rfl⟩
section
variable {P:Program} {ρ:Ren}
abbrev mkB (l:List UInt8):ByteArray:=⟨l.toArray⟩
def cutV (s sep:ByteArray):Value:=.tuple #[.string (mkB (Lib.cut s.data.toList sep.data.toList).1),.string (mkB (Lib.cut s.data.toList sep.data.toList).2.1),.bool (Lib.cut s.data.toList sep.data.toList).2.2]
theorem zrk (L:Lays.n145 P ρ) (s sep:ByteArray) (w:World) (hs:s.size < 4294967281) (hm:Has w (IntV (ρ.g 1))):Calls P (ρ.f 145) #[.string s,.string sep] w (Pure (cutV s sep) w):=by
 obtain⟨_,_,_,m,hm⟩:=hm
 refine(Any.strings_Cut L s sep m w hs hm).mono ?_
 rintro e w' ⟨rfl,n,rfl⟩
 exact⟨rfl,zpo w n⟩
def zcn (s:ByteArray) (c:UInt8):List ByteArray:=Lib.splitB ⟨#[c]⟩ 0 (Lib.countB s ⟨#[c]⟩) s
theorem ziG (s:ByteArray) (c:UInt8):(zcn s c).map (·.data.toList)=Txt.cutL c s.data.toList:=by
 unfold zcn
 rw [Lib.splitB_data]
 exact Txt.split_spec c _ _ (by rw [←Lib.count_one])
theorem zmD (L:Lays.n146 P ρ) (hi9:(P.info? (ρ.t 9)).map (fun i=>(i.zero,i.size,i.bytes))=some (some (.string ByteArray.empty),1,16)) (s:ByteArray) (c:UInt8) (w:World) (hs:s.size < 4294967281) (hm:Has w (IntV (ρ.g 1))) :
  Calls P (ρ.f 146) #[.string s,.string ⟨#[c]⟩] w (zcU (fun b:Nat=>.slice (some ⟨b,0,none⟩) (zcn s c).length (zcn s c).length) (fun b=>Row (some ⟨b,0,none⟩) 1 (zcn s c).length (ρ.t 9) encS (zcn s c)) w):=by
 obtain⟨_,_,_,m,hm⟩:=hm
 have hlen:(zcn s c).length=Lib.countB s ⟨#[c]⟩+1:=Lib.splitB_all _ (show 1≤(⟨#[c]⟩:ByteArray).size from Nat.le_refl 1) 0 _ s rfl
 refine(Any.strings_Split L hi9 s ⟨#[c]⟩ m w hs hm (show 1≤(⟨#[c]⟩:ByteArray).size from Nat.le_refl 1)).mono ?_
 rintro e w' ⟨rfl,rfl⟩
 refine⟨w.heap.size,by rw [hlen],zcG _,(· = w.heap.size),fun k hk=>by subst hk; simp,.inr ⟨w.heap.size,0,(zcn s c).map Value.string,rfl,fun _=>Iff.rfl,World.alloc_heap_new w _,Nat.le_refl _,by simp,?_⟩⟩
 rw [List.drop_zero,Nat.mul_one,←List.length_map (f:=Value.string),List.take_length]
 induction zcn s c with
 | nil=>rfl
 | cons x r ih=>rw [List.map_cons,List.flatMap_cons,ih]; rfl
def zv3:Value→Bool
 | .nilIface=>true
 | _=>false
def zdO (s:ByteArray):Int:=match Lib.atoiAll s.data.toList with
 | .ok v=>v
 | .range=>Lib.atoiSat s.data.toList
 | _=>0
end
section
variable {c:Cx} {ds:List Deferred} {T:List (Nat×Value)} {H:List Res} {d:Option Nat} {ty:TypeId} {ps:String} {af:Array Edge} {g:Option (Nat×Bool)} {x y z:Operand}
theorem zjA {t t':TypeId} {v:Value} (ht:c.P.underlying t=some (.interface (c.P.methodsAt t))) (hx:evo T x=some v) (hv:v=.nilIface∨∃ u z,v=.iface u z) :
  Y c ds H T ⟨d,.binOp .eql t x (.const .nilIface) t',ty,ps,af,g⟩ (.bool (zv3 v)):=
 zcz fun a w ha _=>by
  have hxe:=ha.eval hx
  have hye:a.eval (.const .nilIface)=.nilIface:=rfl
  simp only [execOp,hxe,hye]
  rcases hv with rfl | ⟨u,z,rfl⟩
  ·have hg:(eqGuard .eql t x (.const .nilIface) .nilIface .nilIface).run c.P w=.ok () w:=by rw [eqGuard_nil_constR]; rfl
   refine zbu ?_
   rw [zal hg]
   exact run_eql_nil_nil w t ht
  ·have hg:(eqGuard .eql t x (.const .nilIface) (.iface u z) .nilIface).run c.P w=.ok () w:=rfl
   refine zbu ?_
   rw [zal hg]
   exact run_eql_held_nil w t u z ht
end
end Go.K
namespace Go.K
open Go Go.RowKit
abbrev zhZ (p:Nat×Nat):List Value:=[.pointer (some ⟨p.1,p.2,none⟩)]
theorem zbj:Enc 1 zhZ:=⟨fun _=>rfl,fun _=>rfl,by decide⟩
theorem zl2 {α:Type} {k cap:Nat} {enc:α→List Value} {a:Option Addr} {l:List α} {B:Nat→Prop} {w:World} {n:Nat} (h:(zaW a k enc l).A B w) (hc:l.length≤cap) (h1:n≤l.length):(zaW (subA a k n cap) k enc (l.drop n)).A B w:=by
 by_cases hd:l.drop n=[]
 ·exact .inl hd
 ·rcases h with rfl | ⟨b,off,rfl,hB,hx⟩
  ·simp at hd
  ·refine .inr ⟨b,off+n*k,?_,hB,fun i x hi=>?_⟩
   ·unfold subA
    rw [if_neg (fun e=>hd (by rw [List.drop_eq_nil_iff]; omega))]
    simp [zb2]
   ·rw [List.getElem?_drop] at hi
    have:=hx (n+i) x hi
    rwa [show off+n*k+i*k=off+(n+i)*k by rw [Nat.add_mul]; omega]
def Rdr (tb:TypeId) (r:Nat) (ws:List ByteArray):Res where
 A B w:=∃ a1 c1,ws.length≤c1∧(SepR [Box r [.slice a1 ws.length c1] tb,zaW a1 1 encS ws]).A B w
 loc B w w' h hA:=let ⟨a1,c1,h1,h2⟩:=hA; ⟨a1,c1,h1,(SepR [Box r [.slice a1 ws.length c1] tb,zaW a1 1 encS ws]).loc B w w' h h2⟩
section
variable {c:Cx} {ds:List Deferred} {T:List (Nat×Value)} {H:List Res} {K:Act→World→Prop} {tb:TypeId} {r:Nat} {ws:List ByteArray}
theorem zgV (h:∀ a1 c1,ws.length≤c1→GK c ds K T (Box r [.slice a1 ws.length c1] tb :: zaW a1 1 encS ws :: H)):GK c ds K T (Rdr tb r ws :: H):=by
 intro a w ha hw
 obtain⟨hb,B,hB,⟨a1,c1,h1,h2⟩,hr⟩:=hw
 exact h a1 c1 h1 a w ha (Hp.split (L:=[_,_]) ⟨hb,B,hB,h2,hr⟩)
theorem zeH {a1:Option Addr} {c1:Nat} (h1:ws.length≤c1) (h:GK c ds K T (Rdr tb r ws :: H)):GK c ds K T (Box r [.slice a1 ws.length c1] tb :: zaW a1 1 encS ws :: H):=by
 intro a w ha hw
 obtain⟨hb,B,hB,h2,hr⟩:=Hp.pack (L:=[_,_]) (H:=H) hw
 exact h a w ha ⟨hb,B,hB,⟨a1,c1,h1,h2⟩,hr⟩
theorem zoh {a1:Option Addr} {c1:Nat} (h1:ws.length≤c1) (h0:1≤ws.length) (h:GK c ds K T (Rdr tb r (ws.drop 1) :: H)):GK c ds K T (Box r [.slice (subA a1 1 1 c1) (ws.drop 1).length (c1 - 1)] tb :: zaW a1 1 encS ws :: H):=by
 intro a w ha hw
 refine zeH (a1:=subA a1 1 1 c1) (c1:=c1 - 1) (by rw [List.length_drop]; omega) h a w ha ?_
 have h2:=hw.swap
 obtain⟨hb,B,hB,hA,hr⟩:=h2
 exact Hp.swap ⟨hb,B,hB,zl2 hA h1 h0,hr⟩
end
theorem zak {α β:Type} (a:α) (f:α→Except Int β):(Except.ok a >>= f)=f a:=rfl
theorem zcc {α β:Type} (k:Int) (f:α→Except Int β):((Except.error k:Except Int α) >>= f)=.error k:=rfl
end Go.K
namespace Go.Pln
open Go Go.K Go.RowKit Go.Stn
def zdp:List ByteArray→Except Int (ByteArray×List ByteArray)
 | []=>.error 4
 | x :: r=>.ok (x,r)
def sayE (u:ByteArray) (ws:List ByteArray):Except Int (Unit×List ByteArray):=do
 let x ←zdp ws
 if (x.1.toList == u.toList)=true then .ok ((),x.2) else .error 4
def zes (ws:List ByteArray):Except Int (ByteArray×List ByteArray):=do
 let x ←zdp ws
 if zgx x.1=true then .ok (x.1,x.2) else .error 4
def endE (ws:List ByteArray):Except Int (Unit×List ByteArray):=if ws.length=0 then .ok ((),ws) else .error 4
def numE (ws:List ByteArray):Except Int (Int×List ByteArray):=do
 let x ←zdp ws
 if numW x.1=true then .ok (zdO x.1,x.2) else .error 4
def zco:Nat→List ByteArray→Except Int (List Int×List ByteArray)
 | 0,ws=>.ok ([],ws)
 | n+1,ws=>do
  let x ←numE ws
  let y ←zco n x.2
  .ok (x.1 :: y.1,y.2)
def zlz:List Value→List Nat→List Int→List Value
 | cs,[],_=>cs
 | cs,o :: os,l=>zlz (cs.set o (.int .i64 (l.getD 0 0))) os (l.drop 1)
def zfk (l:List ByteArray) (f:Nat) (ws:List ByteArray):Except Int (Int×List ByteArray):=do
 let x ←zdp ws
 if zbJ (fun y=>x.1.toList == y.toList) (l.drop f) < 0 then .error 4 else .ok (zbJ (fun y=>x.1.toList == y.toList) (l.drop f)+f,x.2)
def oneE (u:ByteArray) (n:Nat) (ws:List ByteArray):Except Int (List Int×List ByteArray):=do
 let x ←sayE u ws
 zco n x.2
def wLeast:ByteArray:=⟨#[108,101,97,115,116]⟩
def zbF (acc:List Int):List ByteArray→Except Int (List Int×List ByteArray)
 | []=>.ok (acc,[])
 | x :: r=>if (x.toList == wLeast.toList)=true then .ok (acc,x :: r) else if numW x=true then zbF (acc++[zdO x]) r else .error 4
def zeZ:List ByteArray:=[⟨#[110,111,110,101]⟩,⟨#[102,108,97,116]⟩,⟨#[117,112,114,105,103,104,116]⟩,⟨#[98,117,99,107]⟩]
def opensW:List ByteArray:=[⟨#[]⟩,⟨#[115,109,111,111,116]⟩,⟨#[108,117,110,107,121]⟩,⟨#[115,116,105,108,101]⟩,⟨#[103,97,116,101]⟩]
def zci (ws:List ByteArray):Except Int (Sht×List ByteArray):=do
 let x0 ←zes ws
 let x1 ←oneE ⟨#[98,97,115,101]⟩ 1 x0.2
 let x2 ←oneE ⟨#[98,97,116,116,101,114]⟩ 1 x1.2
 let x3 ←oneE ⟨#[104,101,105,103,104,116]⟩ 1 x2.2
 let x4 ←oneE ⟨#[115,107,105,110]⟩ 1 x3.2
 let x5 ←sayE ⟨#[104,101,105,103,104,116,115]⟩ x4.2
 let x6 ←zbF [] x5.2
 let x7 ←oneE ⟨#[108,101,97,115,116]⟩ 1 x6.2
 let x8 ←oneE ⟨#[108,97,112]⟩ 1 x7.2
 let x9 ←oneE ⟨#[114,117,110]⟩ 1 x8.2
 let x10 ←oneE ⟨#[116,104,114,111,117,103,104]⟩ 2 x9.2
 let x11 ←oneE ⟨#[102,111,111,116,105,110,103]⟩ 2 x10.2
 let x12 ←sayE ⟨#[99,111,112,101]⟩ x11.2
 let x13 ←zfk zeZ 0 x12.2
 let x14 ←zco 3 x13.2
 let x15 ←oneE ⟨#[102,114,105,99,116,105,111,110]⟩ 2 x14.2
 let x16 ←oneE ⟨#[114,111,111,100]⟩ 1 x15.2
 if x6.1.length=0 then .error 4 else
 .ok (⟨x0.1,x1.1.getD 0 0,x2.1.getD 0 0,x3.1.getD 0 0,x4.1.getD 0 0,x6.1,x7.1.getD 0 0,x8.1.getD 0 0,x9.1.getD 0 0,x10.1.getD 0 0,(x10.1.drop 1).getD 0 0,x11.1.getD 0 0,(x11.1.drop 1).getD 0 0,x13.1,
  x14.1.getD 0 0,(x14.1.drop 1).getD 0 0,((x14.1.drop 1).drop 1).getD 0 0,x15.1.getD 0 0,(x15.1.drop 1).getD 0 0,x16.1.getD 0 0⟩,x16.2)
structure Plan where
 S:List Sht
 V:List Wll
def zew (S:List Sht) (n:ByteArray):Int:=zbJ (fun z=>z.name.toList == n.toList) S
def zss (V:List Wll) (n:ByteArray):Int:=zbJ (fun z=>z.name.toList == n.toList) V
def getS (S:List Sht) (n:ByteArray):Sht:=if 0≤zew S n then S.getD (zew S n).toNat default else default
theorem zkU {α β:Type} (f:α→β) (p:β→Bool) (l:List α):zbJ p (l.map f)=zbJ (fun x=>p (f x)) l:=by
 unfold zbJ
 rw [List.any_map,List.findIdx_map]; rfl
theorem zeL (S:List ShC) (n:ByteArray):zaS S n=zew (S.map (·.s)) n:=(zkU (fun z:ShC=>z.s) (fun z=>z.name.toList == n.toList) S).symm
theorem zkx (V:List WlC) (n:ByteArray):zaM V n=zss (V.map (·.s)) n:=(zkU (fun z:WlC=>z.s) (fun z=>z.name.toList == n.toList) V).symm
theorem zeq {α β:Type} [Inhabited α] [Inhabited β] (f:α→β) (hf:f default=default) (l:List α) (i:Nat):(l.map f).getD i default=f (l.getD i default):=by
 rw [List.getD_eq_getElem?_getD,List.getD_eq_getElem?_getD,List.getElem?_map]
 cases l[i]? <;> simp [hf]
theorem zf2 (S:List ShC) (n:ByteArray):(zav S n).s=getS (S.map (·.s)) n:=by
 unfold zav getS
 rw [←zeL]
 split
 ·rw [zeq (fun z:ShC=>z.s) rfl]
 ·rfl
def zb3 (q:Plan) (ws:List ByteArray):Except Int Plan:=do
 let a ←zci ws
 let _ ←endE a.2
 if 0≤zew q.S a.1.name then .error 7 else if za4 a.1=true then(if q.S.length=20 then .error 5 else .ok ⟨q.S++[a.1],q.V⟩) else .error 2
def zb1 (q:Plan) (ws:List ByteArray):Except Int Plan:=do
 let a ←zes ws
 let b ←zes a.2
 let c ←zco 1 b.2
 let _ ←endE c.2
 if 0≤zss q.V a.1 then .error 7 else if 0≤zew q.S b.1 then
  (if zd1 (getS q.S b.1).height ⟨a.1,b.1,c.1.getD 0 0,[]⟩=true then(if q.V.length=50 then .error 5 else .ok ⟨q.S,q.V++[⟨a.1,b.1,c.1.getD 0 0,[]⟩]⟩) else .error 2) else .error 6
def more (v:Wll) (o:Opn):Wll:=⟨v.name,v.sheet,v.length,v.opens++[o]⟩
def zch (q:Plan) (ws:List ByteArray):Except Int Plan:=do
 let a ←zfk opensW 1 ws
 let b ←zco 4 a.2
 let _ ←endE b.2
 if q.V.length=0 then .error 4 else
  let o:Opn:=⟨a.1,b.1.getD 0 0,(b.1.drop 1).getD 0 0,((b.1.drop 1).drop 1).getD 0 0,(((b.1.drop 1).drop 1).drop 1).getD 0 0⟩
  let v:=q.V.getD (q.V.length - 1) default
  if zd1 (getS q.S v.sheet).height (more v o)=true then .ok ⟨q.S,q.V.set (q.V.length - 1) (more v o)⟩ else .error 2
def zff (q:Plan) (u:ByteArray) (ws:List ByteArray):Except Int Plan:=
 if (u == ⟨#[115,104,101,101,116]⟩)=true then zb3 q ws
 else if (u == ⟨#[119,97,108,108]⟩)=true then zb1 q ws
 else if (u == ⟨#[111,112,101,110]⟩)=true then zch q ws
 else .error 4
def zcu (q:Plan) (t:ByteArray):Except Int Plan:=do
 let x ←zdp (zcn t 32)
 zff q x.1 x.2
def zkJ {α:Type}:Except Int α→Int
 | .ok _=>0
 | .error k=>k
structure OkQ (q:Plan):Prop where
 sh:∀ s∈q.S,za4 s=true
 ls:q.S.length≤20
 lv:q.V.length≤50
 wv:∀ v∈q.V,v.opens.length≤20∧∀ o∈v.opens,Knd o
theorem znp {l:List ByteArray} {f:Nat} {ws:List ByteArray} {x:Int×List ByteArray} (h:zfk l f ws=.ok x):(f:Int)≤x.1∧x.1 < (l.length:Int):=by
 unfold zfk at h
 cases hx:zdp ws with
 | error k=>rw [hx,zcc] at h; cases h
 | ok y=>
  rw [hx,zak] at h
  split at h
  ·cases h
  ·rename_i h0
   cases h
   have:=findI_lt (fun z=>y.1.toList == z.toList) (l.drop f)
   rw [List.length_drop] at this
   dsimp only
   omega
theorem zmK {top:Int} {v:Wll} (h:zd1 top v=true):v.opens.length≤20:=(zgM (zqW h)).2
theorem zqj {q q':Plan} {ws:List ByteArray} (h:OkQ q) (he:zb3 q ws=.ok q'):OkQ q':=by
 unfold zb3 at he
 cases h1:zci ws with
 | error k=>rw [h1,zcc] at he; cases he
 | ok a=>
  rw [h1,zak] at he
  cases h2:endE a.2 with
  | error k=>rw [h2,zcc] at he; cases he
  | ok b=>
   rw [h2,zak] at he
   split at he
   ·cases he
   ·split at he
    ·rename_i hs
     split at he
     ·cases he
     ·rename_i hl
      cases he
      exact⟨fun s hs'=>by
       rcases List.mem_append.1 hs' with h' | h'
       ·exact h.sh s h'
       ·rw [List.mem_singleton] at h'; rw [h']; exact hs,by have:=h.ls; simp only [List.length_append,List.length_cons,List.length_nil]; omega,h.lv,h.wv⟩
    ·cases he
theorem zrU {q q':Plan} {ws:List ByteArray} (h:OkQ q) (he:zb1 q ws=.ok q'):OkQ q':=by
 unfold zb1 at he
 cases h1:zes ws with
 | error k=>rw [h1,zcc] at he; cases he
 | ok a=>
  rw [h1,zak] at he
  cases h2:zes a.2 with
  | error k=>rw [h2,zcc] at he; cases he
  | ok b=>
   rw [h2,zak] at he
   cases h3:zco 1 b.2 with
   | error k=>rw [h3,zcc] at he; cases he
   | ok c=>
    rw [h3,zak] at he
    cases h4:endE c.2 with
    | error k=>rw [h4,zcc] at he; cases he
    | ok d=>
     rw [h4,zak] at he
     split at he
     ·cases he
     ·split at he
      ·split at he
       ·split at he
        ·cases he
        ·rename_i hl
         cases he
         exact⟨h.sh,h.ls,by have:=h.lv; simp only [List.length_append,List.length_cons,List.length_nil]; omega,fun v hv=>by
          rcases List.mem_append.1 hv with h' | h'
          ·exact h.wv v h'
          ·rw [List.mem_singleton] at h'; rw [h']; exact⟨by simp,fun o ho=>by cases ho⟩⟩
       ·cases he
      ·cases he
theorem zrT {q q':Plan} {ws:List ByteArray} (h:OkQ q) (he:zch q ws=.ok q'):OkQ q':=by
 unfold zch at he
 cases h1:zfk opensW 1 ws with
 | error k=>rw [h1,zcc] at he; cases he
 | ok a=>
  have hk:=znp h1
  rw [h1,zak] at he
  cases h2:zco 4 a.2 with
  | error k=>rw [h2,zcc] at he; cases he
  | ok b=>
   rw [h2,zak] at he
   cases h3:endE b.2 with
   | error k=>rw [h3,zcc] at he; cases he
   | ok d=>
    rw [h3,zak] at he
    split at he
    ·cases he
    ·rename_i h0
     dsimp only at he
     split at he
     ·rename_i hw
      cases he
      refine⟨h.sh,h.ls,by rw [List.length_set]; exact h.lv,fun v hv=>?_⟩
      rcases List.mem_or_eq_of_mem_set hv with h' | h'
      ·exact h.wv v h'
      ·rw [h']
       refine⟨zmK hw,fun o ho=>?_⟩
       rcases List.mem_append.1 ho with h'' | h''
       ·exact(h.wv _ (za0 (by omega))).2 o h''
       ·rw [List.mem_singleton] at h''
        rw [h'']
        have:(opensW.length:Int)=5:=rfl
        exact⟨by dsimp only; omega,by dsimp only; omega⟩
     ·cases he
theorem zrS {q q':Plan} {t:ByteArray} (h:OkQ q) (he:zcu q t=.ok q'):OkQ q':=by
 unfold zcu at he
 cases h1:zdp (zcn t 32) with
 | error k=>rw [h1,zcc] at he; cases he
 | ok x=>
  rw [h1,zak] at he
  unfold zff at he
  split at he
  ·exact zqj h he
  ·split at he
   ·exact zrU h he
   ·split at he
    ·exact zrT h he
    ·cases he
theorem zuj {ws:List ByteArray} (h:¬ ws.length=0):zdp ws=.ok (ws.getD 0 default,ws.drop 1):=by
 cases ws with
 | nil=>exact absurd rfl h
 | cons x r=>rfl
theorem zrL {ws:List ByteArray} (h:ws.length=0):zdp ws=.error 4:=by
 cases ws with
 | nil=>rfl
 | cons x r=>simp at h
theorem zlk (ws:List ByteArray):zco 1 ws=(numE ws >>= fun x=>.ok ([x.1],x.2)):=by
 unfold zco
 cases numE ws <;> rfl
theorem zrP {s:ByteArray} (h:numW s=true):s.size≤6:=by
 unfold numW at h
 simp only [Bool.and_eq_true,decide_eq_true_eq] at h
 omega
theorem znx {ws:List ByteArray} {x:Int×List ByteArray} (h:numE ws=.ok x):x.2.length < ws.length:=by
 cases ws with
 | nil=>cases h
 | cons y r=>
  unfold numE at h
  rw [show zdp (y :: r)=.ok (y,r) from rfl,zak] at h
  split at h
  ·cases h; simp
  ·cases h
theorem zlj {ws:List ByteArray} {x:List Int×List ByteArray} (h:zco 1 ws=.ok x):x.2.length < ws.length:=by
 rw [zlk] at h
 cases h1:numE ws with
 | error k=>rw [h1] at h; cases h
 | ok y=>rw [h1,zak] at h; cases h; exact znx h1
theorem zka {ws:List ByteArray} {x:ByteArray×List ByteArray} (h:zdp ws=.ok x):x.2.length < ws.length:=by
 cases ws with
 | nil=>cases h
 | cons y r=>cases h; simp
theorem zmz {u:ByteArray} {ws:List ByteArray} {x:Unit×List ByteArray} (h:sayE u ws=.ok x):x.2.length < ws.length:=by
 unfold sayE at h
 cases h1:zdp ws with
 | error k=>rw [h1,zcc] at h; cases h
 | ok y=>
  rw [h1,zak] at h
  split at h
  ·cases h; exact zka h1
  ·cases h
theorem znu {ws:List ByteArray} {x:ByteArray×List ByteArray} (h:zes ws=.ok x):x.2.length < ws.length:=by
 unfold zes at h
 cases h1:zdp ws with
 | error k=>rw [h1,zcc] at h; cases h
 | ok y=>
  rw [h1,zak] at h
  split at h
  ·cases h; exact zka h1
  ·cases h
theorem znA:∀ (n:Nat) {ws:List ByteArray} {x:List Int×List ByteArray},zco n ws=.ok x→x.2.length≤ws.length
 | 0,ws,x,h=>by cases h; exact Nat.le_refl _
 | n+1,ws,x,h=>by
  rw [zco] at h
  cases h1:numE ws with
  | error k=>rw [h1,zcc] at h; cases h
  | ok y=>
   rw [h1,zak] at h
   cases h2:zco n y.2 with
   | error k=>rw [h2,zcc] at h; cases h
   | ok z=>
    rw [h2,zak] at h; cases h
    have:=znA n h2
    have:=znx h1
    dsimp only; omega
theorem zfo {u:ByteArray} {n:Nat} {ws:List ByteArray} {x:List Int×List ByteArray} (h:oneE u n ws=.ok x):x.2.length < ws.length:=by
 unfold oneE at h
 cases h1:sayE u ws with
 | error k=>rw [h1,zcc] at h; cases h
 | ok y=>
  rw [h1,zak] at h
  have:=znA n h
  have:=zmz h1
  omega
end Go.Pln
namespace Go.Pln
open Go Go.K Go.RowKit Go.Stn Go.Txt
theorem ziQ (s:ByteArray):(s.toList == (⟨#[]⟩:ByteArray).toList)=decide ((s.size:Int) < 1):=by
 rw [ByteArray.toList_eq,ByteArray.toList_eq,Bool.eq_iff_iff,beq_iff_eq,decide_eq_true_eq]
 have hz:s.size=s.data.toList.length:=rfl
 rw [hz]
 constructor
 ·intro h
  rw [h]; decide
 ·intro h
  have h0:s.data.toList.length=0:=by omega
  rw [List.length_eq_zero_iff.1 h0]
theorem zcZ {s:ByteArray} {b c:Bool} (h:(((!(s.toList == (⟨#[]⟩:ByteArray).toList))&&b)&&c)=true):1≤s.size:=by
 simp only [Bool.and_eq_true,Bool.not_eq_true',ziQ,decide_eq_false_iff_not] at h
 omega
def zmp (b:Int):Bool:=decide (b < 48)||decide (57 < b)
theorem zrA (s:ByteArray):∀ (m p:Nat),s.size - p=m→(0≤zcj oddN s p↔∃ j,p≤j∧j < s.size∧zmp (zee s (j:Nat))=true):=by
 intro m
 induction m using Nat.strongRecOn with
 | _ m ih=>
  intro p hm
  by_cases hp:p < s.size
  ·by_cases hlow:(s.get! p).toNat < 128
   ·have hd:=Go.Stn.decode_low hlow
    have hb:=zeV hp
    cases ho:zmp (zee s (p:Int)) with
    | true=>
     rw [zdW hp (by rw [hd]; rw [hb] at ho; exact ho)]
     exact⟨fun _=>⟨p,Nat.le_refl _,hp,ho⟩,fun _=>by omega⟩
    | false=>
     rw [zfj hp (by rw [hd]; rw [hb] at ho; exact ho),hd]
     rw [ih (s.size - (p+1)) (by omega) (p+1) rfl]
     constructor
     ·rintro ⟨j,h1,h2,h3⟩; exact⟨j,by omega,h2,h3⟩
     ·rintro ⟨j,h1,h2,h3⟩
      refine⟨j,?_,h2,h3⟩
      by_cases hj:j=p
      ·subst hj; rw [ho] at h3; cases h3
      ·omega
   ·have hd:=Go.Stn.decode_high hlow
    rw [zdW hp (by unfold oddN; simp; omega)]
    refine⟨fun _=>⟨p,Nat.le_refl _,hp,?_⟩,fun _=>by omega⟩
    rw [zeV hp]
    unfold zmp; simp; omega
  ·rw [zf5 hp]
   refine⟨fun h=>by omega,?_⟩
   rintro ⟨j,h1,h2,_⟩; omega
theorem zgR (s:ByteArray) (i:Nat) (h:i < s.size):zee s (i:Int)=((s.data.toList[i]'(by simpa using h)).toNat:Int):=by
 rw [zeV h]
 congr 2
 cases s with
 | mk d=>
  have hd:i < d.size:=h
  simp only [ByteArray.get!]
  rw [getElem!_pos d i hd,Array.getElem_toList]
theorem zvg {s:ByteArray} {c:UInt8} {r:List UInt8} (hl:s.data.toList=c :: r):zee s 0=(c.toNat:Int):=by
 have h0:0 < s.size:=by
  have hz:s.size=s.data.toList.length:=rfl
  rw [hz,hl]; simp
 have:=zgR s 0 h0
 rw [show((0:Nat):Int)=0 from rfl] at this
 rw [this]
 congr 2
 have h1:s.data.toList[0]?=some c:=by rw [hl]; rfl
 rw [List.getElem?_eq_getElem (by rw [hl]; simp)] at h1
 injection h1
def digW (l:List UInt8):Prop:=1≤l.length∧l.length≤6∧(∀ c∈l,ziZ c)∧(l=[48]∨∃ c r,l=c :: r∧c≠48)
theorem zph {c:UInt8}:zmp (c.toNat:Int)=false↔ziZ c:=by
 unfold zmp ziZ
 simp only [Bool.or_eq_false_iff,decide_eq_false_iff_not]
 omega
theorem zrO (s:ByteArray):numW s=true↔digW s.data.toList:=by
 have hz:s.size=s.data.toList.length:=rfl
 unfold numW digW
 rw [ziQ,ByteArray.toList_eq,ByteArray.toList_eq]
 simp only [Bool.and_eq_true,Bool.or_eq_true,Bool.not_eq_true',decide_eq_false_iff_not,decide_eq_true_eq,beq_iff_eq,zrA s s.size 0 (by omega)]
 have hall:(¬ ∃ j,0≤j∧j < s.size∧zmp (zee s (j:Nat))=true)↔∀ c∈s.data.toList,ziZ c:=by
  constructor
  ·intro h c hc
   obtain⟨j,hj,rfl⟩:=List.getElem_of_mem hc
   refine zph.1 ?_
   cases hb:zmp ((s.data.toList[j].toNat:Nat):Int) with
   | false=>rfl
   | true=>exact absurd ⟨j,Nat.zero_le _,by omega,by rw [zgR s j (by omega)]; exact hb⟩ h
  ·rintro h ⟨j,_,hj,hb⟩
   rw [zgR s j hj,zph.2 (h _ (List.getElem_mem _))] at hb
   cases hb
 rw [hall]
 constructor
 ·rintro ⟨⟨⟨h1,h2⟩,h3⟩,h4⟩
  refine⟨by omega,by omega,h3,?_⟩
  rcases h4 with h4 | h4
  ·right
   cases hl:s.data.toList with
   | nil=>rw [hl,List.length_nil] at hz; omega
   | cons c r=>
    refine⟨c,r,rfl,fun e=>h4 ?_⟩
    rw [zvg hl,e]; rfl
  ·left; exact h4
 ·rintro ⟨h1,h2,h3,h4⟩
  refine⟨⟨⟨by omega,by omega⟩,h3⟩,?_⟩
  rcases h4 with h4 | ⟨c,r,hl,hc⟩
  ·exact .inr h4
  ·left
   intro e
   rw [zvg hl] at e
   exact hc (UInt8.toNat_inj.1 (by have h48:(48:UInt8).toNat=48:=rfl; omega))
theorem zpf {l:List UInt8} (h:digW l):zfQ 0 l < 10 ^ 6:=by
 have key:∀ (l:List UInt8) (a:Nat),(∀ c∈l,ziZ c)→zfQ a l < (a+1)*10 ^ l.length:=by
  intro l
  induction l with
  | nil=>intro a _; simp [zfQ]
  | cons c r ih=>
   intro a hd
   have hc:=hd c (by simp)
   unfold ziZ at hc
   rw [zhX,List.length_cons,Nat.pow_succ,Nat.mul_comm (10 ^ r.length) 10,←Nat.mul_assoc]
   refine Nat.lt_of_lt_of_le (ih _ (fun x hx=>hd x (by simp [hx]))) (Nat.mul_le_mul_right _ (by omega))
 have h1:=key l 0 h.2.2.1
 rw [Nat.zero_add,Nat.one_mul] at h1
 exact Nat.lt_of_lt_of_le h1 (Nat.pow_le_pow_right (by decide) h.2.1)
theorem zq6 {l:List UInt8} (h:digW l):Lib.atoiAll l=.ok (zfQ 0 l:Int):=by
 have hs:=zpf h
 obtain⟨h1,h2,h3,h4⟩:=h
 have hb:(0+1)*10 ^ l.length≤10 ^ 18:=by
  rw [Nat.zero_add,Nat.one_mul]
  exact Nat.pow_le_pow_right (by decide) (by omega)
 have hp:=zjp l 0 h3 hb
 have hm:Lib.parseMag l=.ok (zfQ 0 l):=by
  unfold Lib.parseMag
  rw [if_neg (by intro e; rw [e] at h1; simp at h1)]; exact hp
 cases hl:l with
 | nil=>rw [hl] at h1; simp at h1
 | cons c r=>
  rw [hl] at hm h3 hs
  have hc:=h3 c (by simp)
  unfold ziZ at hc
  have h6:(10:Nat) ^ 6=1000000:=rfl
  unfold Lib.atoiAll
  simp only [if_neg (show ¬ (c.toNat=43∨c.toNat=45) by omega),hm]
  rw [if_neg (by omega),if_neg (by omega),if_neg (by omega)]
theorem zoV {s:ByteArray} (h:numW s=true):Lib.atoiAll s.data.toList=.ok (zdO s)∧zdO s=(zfQ 0 s.data.toList:Int):=by
 have:=zq6 ((zrO s).1 h)
 unfold zdO
 rw [this]
 exact⟨rfl,rfl⟩
def putE (os:List Nat) (cs:List Value) (ws:List ByteArray):Except Int (List Value×List ByteArray):=zco os.length ws >>= fun x=>.ok (zlz cs os x.1,x.2)
theorem zr5 (cs:List Value) (ws:List ByteArray):putE [] cs ws=.ok (cs,ws):=rfl
theorem ziy (o:Nat) (os:List Nat) (cs:List Value) (ws:List ByteArray):putE (o :: os) cs ws=(numE ws >>= fun x=>putE os (cs.set o (.int .i64 x.1)) x.2):=by
 unfold putE
 rw [List.length_cons,zco]
 cases h1:numE ws with
 | error k=>rfl
 | ok x=>
  rw [zak,zak]
  cases h2:zco os.length x.2 with
  | error k=>rfl
  | ok y=>rfl
theorem zwf {os:List Nat} {cs cs':List Value} {ws ws':List ByteArray} (h:.ok (cs',ws')=putE os cs ws):∃ l,zco os.length ws=.ok (l,ws')∧cs' = zlz cs os l:=by
 unfold putE at h
 cases h2:zco os.length ws with
 | error k=>rw [h2] at h; cases h
 | ok x=>
  rw [h2,zak] at h
  injection h with h3
  injection h3 with h4 h5
  exact⟨x.1,by rw [h5],h4⟩
theorem zqt {os:List Nat} {cs:List Value} {ws:List ByteArray} {k:Int} (h:.error k=putE os cs ws):zco os.length ws=.error k:=by
 unfold putE at h
 cases h2:zco os.length ws with
 | error k'=>rw [h2,zcc] at h; injection h with h3; rw [h3]
 | ok x=>rw [h2,zak] at h; cases h
theorem zkh {os:List Nat} {i:Int} (h0:0≤i) (h1:i < (os.length:Int)):os.drop i.toNat=os.getD i.toNat 0 :: os.drop (i+1).toNat:=by
 rw [List.drop_eq_getElem_cons (by omega),show(i+1).toNat=i.toNat+1 by omega]
 congr 1
 simp [show i.toNat < os.length by omega]
theorem ztP {b:Nat} {os:List Nat} {i:Int} (h0:0≤i) (h1:i < (os.length:Int)):(os.map (fun o=>(b,o))).getD i.toNat default=(b,os.getD i.toNat 0):=by
 have:i.toNat < os.length:=by omega
 simp [this]
theorem zgs {acc:List Int} {ws:List ByteArray} (h:¬ ws.length=0) (hl:¬ ((ws.getD 0 default).toList == wLeast.toList)=true):zbF acc ws=(zco 1 ws >>= fun x=>zbF (acc++[x.1.getD 0 0]) x.2):=by
 cases ws with
 | nil=>exact absurd rfl h
 | cons x r=>
  replace hl:¬ (x.toList == wLeast.toList)=true:=hl
  rw [zbF,if_neg hl,zlk]
  unfold numE
  rw [show zdp (x :: r)=.ok (x,r) from rfl,zak]
  by_cases hn:numW x=true
  ·rw [if_pos hn,if_pos hn]; rfl
  ·rw [if_neg hn,if_neg hn]; rfl
theorem zk4 {acc:List Int} {ws:List ByteArray} (h:ws.length=0∨((ws.getD 0 default).toList == wLeast.toList)=true):zbF acc ws=.ok (acc,ws):=by
 cases ws with
 | nil=>rfl
 | cons x r=>
  have h2:(x.toList == wLeast.toList)=true:=h.resolve_left (by simp)
  rw [zbF,if_pos h2]
theorem zwr {n:Int} (h:0≤n) (h2:n≤255):IntKind.u8.wrap n=n:=by
 unfold IntKind.wrap
 simp only [IntKind.signed,IntKind.bits,Bool.false_and]
 rw [if_neg (by simp)]
 omega
theorem zcA {α β:Type} {r:Except Int α} {f:α→Except Int β} {y:β} (h:(r >>= f)=.ok y):∃ x,r=.ok x∧f x=.ok y:=by
 cases r with
 | error k=>cases h
 | ok x=>exact⟨x,rfl,h⟩
theorem zhh:∀ (us:List ByteArray) (acc:List Int) {x:List Int×List ByteArray},zbF acc us=.ok x→x.1.length+x.2.length≤acc.length+us.length
 | [],acc,x,h=>by cases h; simp
 | u :: us,acc,x,h=>by
  rw [zbF] at h
  split at h
  ·cases h; exact Nat.le_refl _
  ·split at h
   ·have:=zhh us _ h
    simp only [List.length_append,List.length_cons,List.length_nil] at this ⊢
    omega
   ·cases h
theorem zkq {ws:List ByteArray} {x:Sht×List ByteArray} (h:zci ws=.ok x):x.1.heights.length≤ws.length:=by
 unfold zci at h
 obtain⟨x0,h0,h⟩:=zcA h
 obtain⟨x1,h1,h⟩:=zcA h
 obtain⟨x2,h2,h⟩:=zcA h
 obtain⟨x3,h3,h⟩:=zcA h
 obtain⟨x4,h4,h⟩:=zcA h
 obtain⟨x5,h5,h⟩:=zcA h
 obtain⟨x6,h6,h⟩:=zcA h
 obtain⟨x7,h7,h⟩:=zcA h
 obtain⟨x8,h8,h⟩:=zcA h
 obtain⟨x9,h9,h⟩:=zcA h
 obtain⟨x10,h10,h⟩:=zcA h
 obtain⟨x11,h11,h⟩:=zcA h
 obtain⟨x12,h12,h⟩:=zcA h
 obtain⟨x13,h13,h⟩:=zcA h
 obtain⟨x14,h14,h⟩:=zcA h
 obtain⟨x15,h15,h⟩:=zcA h
 obtain⟨x16,h16,h⟩:=zcA h
 split at h
 ·cases h
 ·cases h
  have a0:=znu h0; have a1:=zfo h1; have a2:=zfo h2; have a3:=zfo h3; have a4:=zfo h4; have a5:=zmz h5
  have a6:=zhh _ _ h6
  simp only [List.length_nil] at a6
  dsimp only
  omega
end Go.Pln
namespace Go.K
open Go Go.RowKit
section
variable {c:Cx} {ds:List Deferred} {p:Post} {T:List (Nat×Value)} {H:List Res} {ops:Array Oper} {rest:List Oper} {ty:TypeId} {ps:String} {af:Array Edge} {x y:Operand}
theorem zpS {t:TypeId} {gg:Bool} {b o:Nat} {z v:Value} {cs:List Value} {e:TypeId} (i:Nat) (ht:TF c.P t gg 1 z) (hx:evo T x=some (.pointer (some ⟨b,o,none⟩))) (hy:evo T y=some v)
  (hv:v.cells=#[v]) (h1:zgS v=true) (hi:H[i]?=some (Box b cs e)) (ho:o < cs.length)
  (kk:GK c ds (KL c ops p rest) T (H.set i (Box b (cs.set o v) e))):GK c ds (KL c ops p (⟨none,.store t x y,ty,ps,af,none⟩ :: rest)) T H:=
 zaA i ht hx hy (vs:=[v]) hv rfl (by simp [h1]) hi (Nat.ble_eq_true_of_le ho) kk
end
section
variable {c:Cx} {T:List (Nat×Value)} {H H':List Res} {R:Ending→World→Prop} {fn:Func}
theorem zgW {g:FuncId} {cap:List Value} {v:Value} (he:En c.P g)
  (hc:∀ w,Hp c.U c.w0 H w→CallsDIn Fence.wide 0 c.P g cap.toArray .returning w (fun e u' w'=>(∃ v,e=.returned v)∧settle u' = .returning∧Hp c.U c.w0 H' w'))
  (hv:RV c [] T H' fn v) (h:∀ w,Hp c.U c.w0 H' w→R (.returned v) w):GK c [{ target:=.fn (.func g) cap.toArray,args:=#[] }] (RetP c.P fn R) T H:=by
 intro a w ha hw
 show LeavesInM Fence.wide 0 c.P fn a.tmps R a.defers .returning w
 rw [ha.defers]
 refine zjn he (by simp) (CallsDIn.mono (hc w hw) ?_)
 rintro e u' w' ⟨hr,hs,hx⟩
 exact⟨hr,hs,v,hv { a with defers:=[] } w' ⟨ha.size,ha.val,rfl⟩ hx,h w' hx⟩
end
end Go.K
namespace Go.K
open Go Go.RowKit
def zu2 (P:Program) (f:FuncId) (cap:List Value) (xs:List (List Value)) (O S:Res):Prop:=
 ∀ {X:Type} (J:X→Res) (Rl:Nat→X→Prop) (D:X→Prop) (l:Nat) (w:World) (B C:Nat→Prop) (x0:X),(∀ k,B k→k < w.heap.size)→(∀ k,C k→k < w.heap.size∧¬ B k)→(J x0).A B w→O.A C w→Rl 0 x0→Rd (fun k=>k < w.heap.size∧¬ (B k∨C k)) w S →
  (∀ i x args,xs[i]?=some args→Rl i x→zoO P w (fun k=>B k∨C k) l args J x (fun b x'=>if b=true then Rl (i+1) x' else D x')) →
  Calls P f (Value.func (.yield l) #[] #[] :: cap).toArray w (zho (fun _=>.tuple #[]) J (fun x=>Rl xs.length x∨D x) (fun k=>B k∨C k) w)
theorem zsg {R S:Res} {B C:Nat→Prop} {w:World} (h1:R.A B w) (h2:S.A C w) (hd:∀ k,C k→¬ B k):(SepR [R,S]).A (fun k=>B k∨C k) w:=
 ⟨B,C,fun _ h=>.inl h,fun k h=>⟨.inr h,hd k h⟩,h1,C,fun _=>False,fun _ h=>h,fun _ h=>h.elim,h2,trivial⟩
theorem zj0 {c:Cx} {ds:List Deferred} {p:Post} {T:List (Nat×Value)} {H:List Res} {g:Operand} {ps:List Tmp} {assign body:Code} {f:FuncId} {cap:List Value} {xs:List (List Value)} {O S:Res} {X:Type}
  (Hf:X→List Res) (Rl:Nat→X→Prop) (Dr:X→Prop) (exs:List (Nat×(X→Prop))) (x0:X)
  (hr:c.r=none) (he:En c.P f) (hg:evo T g=some (.func (.func f) #[] cap.toArray)) (hH:O :: Hf x0=H) (h0:Rl 0 x0)
  (hseq:zu2 c.P f cap xs O S) (hSR:Rd c.U c.w0 S) (hps:∀ a∈xs,a.length=ps.length) (hpn':ps.all (fun t=>Nat.blt t c.n)=true)
  (hbody:∀ (R1 R2:Res) (l:Nat) (U':Nat→Prop) (w':World) (i:Nat) (x:X) (args:List Value),xs[i]?=some args→Rl i x →
   (∀ S,Rd c.U c.w0 S→Rd U' w' S)→Inside c.U c.w0 ⟨some l,c.P,c.n,U',w'⟩→(∀ T' H' K,GK ⟨some l,c.P,c.n,U',w'⟩ [] K T' (R2 :: H')→GK ⟨some l,c.P,c.n,U',w'⟩ [] (Beg c.P l K) T' (R1 :: H')) →
   GK ⟨some l,c.P,c.n,U',w'⟩ [] (KC ⟨some l,c.P,c.n,U',w'⟩ assign { nrm:=Beg c.P l (KC ⟨some l,c.P,c.n,U',w'⟩ body (zqC ⟨some l,c.P,c.n,U',w'⟩ R2 Hf (Rl (i+1)) Dr exs)),ret:=fun _ _=>False,ex:=[] }) (zipT ps args T) (R1 :: Hf x))
  (hnext:∀ D x,Rl xs.length x→GK c (mark D :: ds) p.nrm T (Dfr D :: Hf x))
  (hret:∀ D x,Dr x→GK c (mark D :: ds) p.ret T (Dfr D :: Hf x))
  (hex:∀ D x id Q,(id,Q)∈exs→Q x→∃ K,lke p.ex id=some K∧GK c (mark D :: ds) K T (Dfr D :: Hf x)) :
  GK c ds (KC c (.rangeFunc g ps.toArray assign body) p) T H:=by
 subst hH
 have hpn:∀ t∈ps,t < c.n:=fun t ht=>Nat.le_of_ble_eq_true (List.all_eq_true.1 hpn' t ht)
 intro a w ha hw
 show(Code.rangeFunc g ps.toArray assign body).wpIn (FW c.r) 0 c.P p.Q a w
 rw [hr]
 refine wpIn_rangeFunc ?_
 intro fn hfn
 let D:=w.heap.size
 let l:=w.heap.size+1
 let rec_:LoopState→Option Code→Res:=fun st pe=>SepR [Rec l st pe fn a.tmps ps.toArray assign body D,Dfr D]
 obtain⟨W1,hW1⟩:∃ W1,W1=(w.alloc (.deferred (some []))).alloc (.loop { state:=.ready,pending:=none,fn:=fn,tmps:=a.tmps,params:=ps.toArray,assign:=assign,body:=body,defers:=D }):=⟨_,rfl⟩
 have hdef:Hp c.U c.w0 (Dfr D :: O :: Hf x0) (w.alloc (.deferred (some []))):=
  hw.new (zcG _) (B:=fun k=>k=D) (fun k hk=>by subst hk; exact⟨Nat.le_refl _,by simp [D]⟩) ⟨fun _=>Iff.rfl,World.alloc_heap_new w _⟩
 have hrec:Hp c.U c.w0 (Rec l .ready none fn a.tmps ps.toArray assign body D :: Dfr D :: O :: Hf x0) W1:=by
  rw [hW1]
  refine hdef.new (zcG _) (B:=fun k=>k=l) (fun k hk=>by subst hk; exact⟨by simp [l],by simp [l]⟩) ⟨fun _=>Iff.rfl,?_⟩
  have:=World.alloc_heap_new (w.alloc (.deferred (some []))) (.loop { state:=.ready,pending:=none,fn:=fn,tmps:=a.tmps,params:=ps.toArray,assign:=assign,body:=body,defers:=D })
  rwa [World.size_alloc] at this
 have hst:Hp c.U c.w0 (O :: rec_ .ready none :: Hf x0) W1:=(Hp.pack (L:=[_,_]) hrec).swap
 obtain⟨C,hC,hAO,hrest⟩:=hst.holds
 let J:X×LoopState×Option Code→Res:=fun z=>SepR (rec_ z.2.1 z.2.2 :: Hf z.1)
 have hJ:∃ B,(∀ k,B k→¬ (c.U k∨C k)∧k < W1.heap.size)∧(J (x0,.ready,none)).A B W1:=zdi _ _ hrest
 obtain⟨B0,hB0,hA⟩:=hJ
 let B:Nat→Prop:=fun k=>B0 k∨C k
 have hB:∀ k,B k→¬ c.U k∧k < W1.heap.size:=fun k hk=>hk.elim (fun h=>⟨fun hu=>(hB0 k h).1 (.inl hu),(hB0 k h).2⟩) (hC k)
 have hSR':Rd (fun k=>k < W1.heap.size∧¬ (B0 k∨C k)) W1 S:=by
  obtain⟨E,hE,hSA⟩:=hSR
  have hbase:Base c.U c.w0 W1:=hst.base
  exact⟨E,fun k hk=>⟨Nat.lt_of_lt_of_le (hbase.lt k (hE k hk)) hbase.size,fun h=>h.elim (fun h=>(hB0 k h).1 (.inl (hE k hk))) (fun h=>(hC k h).1 (hE k hk))⟩,S.loc E c.w0 W1 (fun k hk=>hbase.same k (hE k hk)) hSA⟩
 have hcalls:=hseq J (fun i z=>z.2.1=.ready∧z.2.2=none∧Rl i z.1)
  (fun z=>z.2.1=.done∧((z.2.2=some .ret∧Dr z.1)∨∃ id Q,z.2.2=some (.exit id)∧(id,Q)∈exs∧Q z.1))
  l W1 B0 C (x0,.ready,none) (fun k hk=>(hB0 k hk).2) (fun k hk=>⟨(hC k hk).2,fun h=>(hB0 k h).1 (.inr hk)⟩) hA hAO ⟨rfl,rfl,h0⟩ hSR' ?rounds
 case rounds=>
  rintro i ⟨x,st,pe⟩ args hargs ⟨hst1,hst2,hR⟩
  simp only at hst1 hst2 hR
  subst hst1; subst hst2
  intro w' B' hm ho hlt hA'
  have hp1:Hp (fun k=>k < w'.heap.size∧¬ B' k) w' (rec_ .ready none :: Hf x) w':=
   ⟨⟨rfl,Tp.same _,rfl,Nat.le_refl _,fun _ h=>h.1,fun _ _=>rfl⟩,zcQ _ _ B' (fun k hk=>⟨fun h=>h.2 hk,hlt k hk⟩) hA'⟩
  have hl:=(zhi (st':=.ready) (pe':=none) hp1).1
  have hy:=run_yield (P:=c.P) (args:=args.toArray) hl (by simp [hps args (List.mem_of_getElem? hargs)])
  refine⟨_,_,_,_,hy,roundIn_of_wpIn trivial ?_⟩
  have hb:=hbody (rec_ .ready none) (rec_ .busy none) l (fun k=>k < w'.heap.size∧¬ B' k) w' i x args hargs hR ?rd ?ins ?beg
  case ins=>
   have hb':Base c.U c.w0 w':=hst.base.mod hm (fun k hk=>(hB k hk).1)
   refine⟨fun k hk=>⟨Nat.lt_of_lt_of_le (hb'.lt k hk) hb'.size,fun hbk=>?_⟩,hb'⟩
   rcases ho k hbk with hb2 | ⟨h1,_⟩
   ·exact(hB k hb2).1 hk
   ·have:=hst.base.lt k hk; have:=hst.base.size; omega
  case rd=>
   rintro S ⟨C,hC,hS⟩
   have hb':Base c.U c.w0 w':=hst.base.mod hm (fun k hk=>(hB k hk).1)
   refine⟨C,fun k hk=>⟨Nat.lt_of_lt_of_le (hb'.lt k (hC k hk)) hb'.size,fun hbk=>?_⟩,S.loc C c.w0 w' (fun k hk=>hb'.same k (hC k hk)) hS⟩
   rcases ho k hbk with hb2 | ⟨h1,_⟩
   ·exact(hB k hb2).1 (hC k hk)
   ·have:=hst.base.lt k (hC k hk); have:=hst.base.size; omega
  case beg=>
   intro T' H' K hK a1 w1 ha1 hw1
   obtain⟨hl1,hw2⟩:=zhi (st':=.busy) (pe':=none) hw1
   exact⟨_,run_beginRound hl1 rfl,hK a1 _ ha1 hw2⟩
  have hs:=zmy ps args T a.tmps hpn (Sat.mk ha.size ha.val rfl)
  have hwalk:=hb _ w' hs hp1
  have harr:((ps.toArray.zip args.toArray).foldl (fun tmps (t,a)=>tmps.setIfInBounds t a) a.tmps)=(ps.zip args).foldl (fun t (p,v)=>t.setIfInBounds p v) a.tmps:=by
   rw [List.zip_toArray,List.foldl_toArray]
  rw [harr]
  refine Go.wpIn_mono hwalk ?_
  intro e a1 w1 hq
  cases e with
  | normal=>
   obtain⟨w2,hbr,hwb⟩:=hq
   refine⟨w2,hbr,Go.wpIn_mono hwb ?_⟩
   intro e a2 w2 hq2
   have fin:∀ (x':X) (j:Option Code),Hp (fun k=>k < w'.heap.size∧¬ B' k) w' (rec_ .busy none :: Hf x') w2→∃ w4,(Instr.endRound l j).run c.P w2=.ok (.bool j.isNone) w4 ∧
     ∃ B'',Mod B' w' w4∧Own B' B'' w' w4∧(J (x',(if j.isNone then .ready else .done),j)).A B'' w4:=by
    intro x' j hw2
    obtain⟨hl2,hw4⟩:=zhi (st':=if j.isNone then .ready else .done) (pe':=j) hw2
    refine⟨_,run_endRound j hl2,?_⟩
    obtain⟨B'',hB'',hA''⟩:=zdi _ _ hw4.holds
    refine⟨B'',⟨hw4.base.os,hw4.base.tape,hw4.base.output,hw4.base.size,fun k hk hb=>hw4.base.same k ⟨hk,hb⟩⟩,fun k hk=>?_,hA''⟩
    by_cases hbk:B' k
    ·exact .inl hbk
    ·exact .inr ⟨Nat.le_of_not_lt fun hlt=>(hB'' k hk).1 ⟨hlt,hbk⟩,(hB'' k hk).2⟩
   cases e with
   | normal=>
    obtain⟨x',_,hw3,hN⟩:=hq2
    obtain⟨w4,hend,B'',hm4,ho4,hA4⟩:=fin x' none hw3
    exact⟨_,w4,hend,true,(x',.ready,none),B'',rfl,(if_pos rfl).mpr ⟨rfl,rfl,hN⟩,hm4,ho4,hA4⟩
   | ret=>
    obtain⟨x',_,hw3,hD⟩:=hq2
    obtain⟨w4,hend,B'',hm4,ho4,hA4⟩:=fin x' (some .ret) hw3
    exact⟨_,w4,hend,false,(x',.done,some .ret),B'',rfl,(if_neg Bool.false_ne_true).mpr ⟨rfl,.inl ⟨rfl,hD⟩⟩,hm4,ho4,hA4⟩
   | exit id=>
    change (match lke (exs.map fun e=>(e.1,Join _ [] (fun _=>[]) (fun x=>rec_ .busy none :: Hf x) e.2)) id with | some K=>K a2 w2 | none=>False) at hq2
    cases hk:lke (exs.map fun e=>(e.1,Join _ [] (fun _=>[]) (fun x=>rec_ .busy none :: Hf x) e.2)) id with
    | none=>rw [hk] at hq2; exact hq2.elim
    | some K=>
     rw [hk] at hq2
     obtain⟨Q,hmem,rfl⟩:=zmk (fun Q=>Join _ [] (fun _=>[]) (fun x=>rec_ .busy none :: Hf x) Q) exs id K hk
     obtain⟨x',_,hw3,hD⟩:=hq2
     obtain⟨w4,hend,B'',hm4,ho4,hA4⟩:=fin x' (some (.exit id)) hw3
     exact⟨_,w4,hend,false,(x',.done,some (.exit id)),B'',rfl,(if_neg Bool.false_ne_true).mpr ⟨rfl,.inr ⟨id,Q,rfl,hmem,hD⟩⟩,hm4,ho4,hA4⟩
   | goto t=>exact hq2.elim
   | panic ch=>exact hq2.elim
   | outgrown=>exact hq2.elim
  | ret=>exact hq.elim
  | exit id=>exact hq.elim
  | goto t=>exact hq.elim
  | panic ch=>exact hq.elim
  | outgrown=>exact hq.elim
 refine⟨l,[mark D],W1,{ target:=.fn (.func f) cap.toArray,args:=#[.func (.yield l) #[] #[]] },W1,f,#[.func (.yield l) #[] #[]]++cap.toArray,W1,?_,?_,fun _ _=>trivial,?_,fun h=>by simp [FW] at h,?_⟩
 ·rw [hW1]; exact run_enterLoop_outer _ _ _ _ _
 ·simp only [resolve,ha.eval hg,Deferred.ofValue]
  simp [pure,Act.eval]
 ·exact he _ W1
 ·refine zfz.2 ?_
  have e2:(#[Value.func (.yield l) #[] #[]]++cap.toArray:Array Value)=(Value.func (.yield l) #[] #[] :: cap).toArray:=by simp
  rw [e2]
  refine hcalls.mono ?_
  rintro e w3 ⟨⟨x',st,pe⟩,B',rfl,hQ,hm,ho,hA'⟩
  have hlt':∀ k,B' k→k < w3.heap.size:=fun k hk=>by
   rcases ho k hk with hb | ⟨_,h2⟩
   ·exact Nat.lt_of_lt_of_le (hB k hb).2 hm.size
   ·exact h2
  have hw3:Hp c.U c.w0 (rec_ st pe :: Hf x') w3:=⟨hst.base.mod hm (fun k hk=>(hB k hk).1),zcQ _ _ B' (fun k hk=>⟨fun hu=>by
   rcases ho k hk with hb | ⟨h1,_⟩
   ·exact(hB k hb).1 hu
   ·have:=hst.base.lt k hu; have:=hst.base.size; omega,hlt' k hk⟩) hA'⟩
  obtain⟨hl3,hw4⟩:=zhi (st':=.exhausted) (pe':=pe) hw3
  have hnb:st≠.busy:=by rcases hQ with ⟨h,_⟩ | ⟨h,_⟩ <;> (simp only at h; subst h; decide)
  refine⟨pe,_,run_endLoop hl3 hnb,?_⟩
  have hw5:Hp c.U c.w0 (Dfr D :: Hf x') _:=(Hp.split (L:=[_,_]) hw4).drop
  have ha5:Sat c.n T (mark D :: ds) { a with defers:=[mark D]++a.defers }:=⟨ha.size,ha.val,by simp [ha.defers]⟩
  rcases hQ with ⟨_,h2,h3⟩ | ⟨_,⟨h2,h3⟩ | ⟨id,Q,h2,h3,h4⟩⟩
  ·simp only at h2 h3; subst h2
   exact hnext D x' h3 _ _ ha5 hw5
  ·simp only at h2 h3; subst h2
   exact wpIn_ret (hret D x' h3 _ _ ha5 hw5)
  ·simp only at h2 h4; subst h2
   obtain⟨K,hk,hG⟩:=hex D x' id Q h3 h4
   exact wpIn_exit (by show(match lke p.ex id with | some K=>K _ _ | none=>False); rw [hk]; exact hG _ _ ha5 hw5)
end Go.K
namespace Go.K
open Go Go.RowKit
def zi5 {X M:Type} (te:TypeId) (res:Except Int X) (V:X→M→Value) (J:X→M→Res) (E:Res) (B:Nat→Prop) (w:World):Ending→World→Prop:=fun e w'=>
 match res with
 | .ok x=>∃ m B',e=.returned (V x m)∧Mod B w w'∧Own B B' w w'∧(J x m).A B' w'
 | .error k=>∃ B',e=.panicked (thrC (errT te k))∧Mod B w w'∧Own B B' w w'∧E.A B' w'
section
variable {c:Cx} {ds:List Deferred} {p:Post} {T:List (Nat×Value)} {H:List Res} {ops:Array Oper} {rest:List Oper} {d:Option Nat} {ty:TypeId} {ps:String} {af:Array Edge}
theorem zie {X M:Type} {te:TypeId} {res:Except Int X} {V:X→M→Value} {J:X→M→Res} {E R:Res} {t:Nat} {f:FuncId} (i:Nat) (he:En c.P f) {fs cap:List Value} (hf:evo T (.tmp t)=some (.func (.func f) fs.toArray cap.toArray)) {os:List Operand} {tys:Array TypeId} {vs:List Value} (hn:zhp d c.n=true) (ha:evs T os=some vs) (hi:H[i]?=some R)
  (hc:∀ w B,Foc c H i R B w→Calls c.P f (fs++vs++cap).toArray w (zi5 te res V J E B w))
  (kt:∀ k,res=.error k→GK c ds (fun a w=>p.pn a (thrC (errT te k)) w) T (H.set i E))
  (k:∀ x m,res=.ok x→GK c ds (KL c ops p rest) (putT d (V x m) T) (H.set i (J x m))) :
  GK c ds (KL c ops p (⟨d,.call ⟨.value (.tmp t),os.toArray,tys⟩,ty,ps,af,none⟩ :: rest)) T H:=by
 refine zk0 rfl rfl fun a w hs hw=>?_
 obtain⟨B,hF⟩:=hw.foc hi
 unfold YldT
 rw [zgE he hf ha hs w]
 have:=hc w B hF
 rw [show(fs++vs++cap).toArray=fs.toArray++vs.toArray++cap.toArray from by simp] at this
 refine this.mono ?_
 intro e w' he'
 cases hres:res with
 | ok x=>
  rw [hres] at he'
  obtain⟨m,B',rfl,hm,ho,hA⟩:=he'
  exact .inl ⟨V x m,rfl,k x m hres _ _ (hs.putT hn _) (hF.upd hi hm ho hA)⟩
 | error q=>
  rw [hres] at he'
  obtain⟨B',rfl,hm,ho,hA⟩:=he'
  exact .inr ⟨_,rfl,kt q hres a w' hs (hF.upd hi hm ho hA)⟩
end
section
variable {P:Program} {n:Nat} {w0:World} {B:Nat→Prop} {T:List (Nat×Value)} {H:List Res} {fn:Func} {X M:Type} {te:TypeId} {res:Except Int X} {V:X→M→Value} {J:X→M→Res} {E:Res}
theorem zik {v:Value} (x:X) (m:M) (i:Nat) (hv:RV (cxB P n w0 B) [] T H fn v) (hu:v=V x m) (hi:H[i]?=some (J x m)) (hq:res=.ok x) :
  GK (cxB P n w0 B) [] (RetP P fn (zi5 te res V J E B w0)) T H:=zfh hv fun w hw=>by
 obtain⟨B',h1,h2,_,h3⟩:=zet hw hi
 subst hq
 exact⟨m,B',by rw [hu],h1,h2,h3⟩
theorem zbG {k:Int} {R:Res} (i:Nat) (hi:H[i]?=some R) (hR:∀ B w,R.A B w→E.A B w) (hq:res=.error k):GK (cxB P n w0 B) [] (fun a w=>(poOf P fn (zi5 te res V J E B w0)).pn a (thrC (errT te k)) w) T H:=
 zij (c:=cxB P n w0 B) fun w hw=>by
  obtain⟨B',h1,h2,_,h3⟩:=zet hw hi
  subst hq
  exact⟨B',rfl,h1,h2,hR _ _ h3⟩
end
end Go.K
namespace Go.Pln
open Go Go.K Go.RowKit Go.Stn
structure PTy where
 p:TypeId
 s:TypeId
 w:TypeId
 i:TypeId
 o:TypeId
def plH (y:PTy) (p:Nat) (sa:Option Addr) (sc:Nat) (S:List ShC) (wa:Option Addr) (wc:Nat) (V:List WlC):List Res:=
 [Box p [.slice sa S.length sc,.slice wa V.length wc] y.p,Row sa 20 sc y.s zbH S,Go.K.Rows (rowH y.i) S,Row wa 4 wc y.w zbS V,Go.K.Rows (rowO y.o) V]
def PlE (y:PTy) (p:Nat) (q:Plan):Res where
 A B w:=∃ (sa:Option Addr) (sc:Nat) (S:List ShC) (wa:Option Addr) (wc:Nat) (V:List WlC),S.map (·.s)=q.S∧V.map (·.s)=q.V∧(SepR (plH y p sa sc S wa wc V)).A B w
 loc B w w' h hA:=let ⟨sa,sc,S,wa,wc,V,h1,h2,h3⟩:=hA; ⟨sa,sc,S,wa,wc,V,h1,h2,(SepR (plH y p sa sc S wa wc V)).loc B w w' h h3⟩
def plAt (y:PTy) (p:Nat):Res where
 A B w:=∃ B':Nat→Prop,(∀ k,B' k→B k)∧∃ (a:Option Addr) (n c:Nat) (b:Option Addr) (m d:Nat),(Box p [.slice a n c,.slice b m d] y.p).A B' w
 loc _B w w' h hA:=let ⟨B',h1,a,n,c,b,m,d,h2⟩:=hA; ⟨B',h1,a,n,c,b,m,d,(Box p [.slice a n c,.slice b m d] y.p).loc B' w w' (fun k hk=>h k (h1 k hk)) h2⟩
def plOr (y:PTy) (p:Nat):Except Int Plan→Res
 | .ok q=>PlE y p q
 | .error _=>plAt y p
theorem zdy {y:PTy} {p:Nat} {q:Plan} (B:Nat→Prop) (w:World) (hA:(PlE y p q).A B w):(plAt y p).A B w:=by
 obtain⟨sa,sc,S,wa,wc,V,_,_,C,E,h1,_,h3,_⟩:=hA
 exact⟨C,h1,sa,_,sc,wa,_,wc,h3⟩
theorem zeb {y:PTy} {p:Nat} {a b:Option Addr} {n c m d:Nat} (B:Nat→Prop) (w:World) (hA:(Box p [.slice a n c,.slice b m d] y.p).A B w):(plAt y p).A B w:=
 ⟨B,fun _ h=>h,a,n,c,b,m,d,hA⟩
theorem zmt {y:PTy} {p:Nat} (B:Nat→Prop) (w:World) (hA:(plAt y p).A B w):(plAt y p).A B w:=hA
section
variable {c:Cx} {ds:List Deferred} {T:List (Nat×Value)} {H:List Res} {K:Act→World→Prop} {y:PTy} {p:Nat} {q:Plan}
theorem zgq (h:∀ (sa:Option Addr) (sc:Nat) (S:List ShC) (wa:Option Addr) (wc:Nat) (V:List WlC),S.map (·.s)=q.S→V.map (·.s)=q.V→GK c ds K T (plH y p sa sc S wa wc V++H)):GK c ds K T (PlE y p q :: H):=by
 intro a w ha hw
 obtain⟨hb,B,hB,⟨sa,sc,S,wa,wc,V,h1,h2,h3⟩,hr⟩:=hw
 exact h sa sc S wa wc V h1 h2 a w ha (Hp.split ⟨hb,B,hB,h3,hr⟩)
theorem zpP (h:∀ (a:Option Addr) (n m:Nat) (b:Option Addr) (e d:Nat),GK c ds K T (Box p [.slice a n m,.slice b e d] y.p :: H)):GK c ds K T (plAt y p :: H):=by
 intro a w ha hw
 obtain⟨hb,B,hB,⟨B',h1,x,n,m,b,e,d,h2⟩,hr⟩:=hw
 exact h x n m b e d a w ha ⟨hb,B',fun k hk=>hB k (h1 k hk),h2,Holds.anti H (fun k hk=>hk.elim .inl (fun h=>.inr (h1 k h))) hr⟩
theorem zgU {sa:Option Addr} {sc:Nat} {S:List ShC} {wa:Option Addr} {wc:Nat} {V:List WlC} (h1:S.map (·.s)=q.S) (h2:V.map (·.s)=q.V) (h:GK c ds K T (PlE y p q :: H)):GK c ds K T (plH y p sa sc S wa wc V++H):=by
 intro a w ha hw
 obtain⟨hb,B,hB,h3,hr⟩:=Hp.pack (L:=plH y p sa sc S wa wc V) (H:=H) hw
 exact h a w ha ⟨hb,B,hB,⟨sa,sc,S,wa,wc,V,h1,h2,h3⟩,hr⟩
end
theorem zkD {w:World} {R:Res}:∀ (X:List Res) (B:Nat→Prop),All (X++[R]) B w→∃ C D:Nat→Prop,(∀ k,C k→B k)∧(∀ k,D k→B k∧¬ C k)∧All X C w∧R.A D w
 | [],B,⟨C,E,h1,h2,hA,_⟩=>⟨fun _=>False,C,fun _ h=>h.elim,fun k hk=>⟨h1 k hk,fun h=>h⟩,trivial,hA⟩
 | S :: X,B,⟨C,E,h1,h2,hA,hr⟩=>by
  obtain⟨C',D,g1,g2,g3,g4⟩:=zkD X E hr
  refine⟨fun k=>C k∨C' k,D,fun k hk=>hk.elim (h1 k) (fun h=>(h2 k (g1 k h)).1),fun k hk=>⟨(h2 k (g2 k hk).1).1,fun h=>h.elim (h2 k (g2 k hk).1).2 (g2 k hk).2⟩,⟨C,C',fun k hk=>.inl hk,fun k hk=>⟨.inr hk,(h2 k (g1 k hk)).2⟩,hA,g3⟩,g4⟩
theorem zsh {α:Type} [Inhabited α] {V:List α} {x:α} (h:0 < V.length):V.set (V.length - 1) x=V.take (V.length - 1)++[x]:=by
 rw [List.set_eq_take_append_cons_drop,if_pos (by omega),List.drop_of_length_le (by omega)]
theorem zqS {α:Type} [Inhabited α] {V:List α} (h:0 < V.length):V=V.take (V.length - 1)++[V.getD (V.length - 1) default]:=by
 have h1:V.drop (V.length - 1)=[V.getD (V.length - 1) default]:=by
  rw [List.drop_eq_getElem_cons (by omega),List.drop_of_length_le (by omega)]
  simp [show V.length - 1 < V.length by omega]
 conv=>lhs; rw [←List.take_append_drop (V.length - 1) V,h1]
theorem zqE {α:Type} [Inhabited α] {f:α→Res} {V:List α} {B:Nat→Prop} {w:World} (h:0 < V.length) (hA:(Go.K.Rows f V).A B w):(SepR [Go.K.Rows f (V.take (V.length - 1)),f (V.getD (V.length - 1) default)]).A B w:=by
 have h2:All (V.map f) B w:=hA
 rw [zqS h,List.map_append] at h2
 obtain⟨C,D,g1,g2,g3,g4⟩:=zkD _ _ h2
 exact⟨C,D,g1,g2,g3,D,fun _=>False,fun _ h=>h,fun _ h=>h.elim,g4,trivial⟩
theorem zsc {α:Type} [Inhabited α] {f:α→Res} {V:List α} {x:α} {B:Nat→Prop} {w:World} (h:0 < V.length) (hA:(SepR [Go.K.Rows f (V.take (V.length - 1)),f x]).A B w):(Go.K.Rows f (V.set (V.length - 1) x)).A B w:=by
 rw [zsh h]
 exact zfr hA
end Go.Pln
namespace Go.Pln
open Go Go.K Go.RowKit Go.Stn Go.Txt
theorem zkO (c:UInt8):∀ l:List UInt8,(cutL c l).length≤l.length+1
 | []=>by simp [cutL]
 | x :: r=>by
  have:=zkO c r
  rw [cutL]
  split
  ·simp; omega
  ·split
   ·simp
   ·rename_i e; rw [e] at this; simp at this ⊢; omega
theorem zjw (s:ByteArray) (c:UInt8):1≤(zcn s c).length∧(zcn s c).length≤s.size+1:=by
 have h1:=zkO c s.data.toList
 have h2:=zm4 c s.data.toList
 rw [←ziG,List.length_map] at h1 h2
 have h3:s.data.toList.length=s.size:=by rw [Array.length_toList]; rfl
 omega
theorem zns (s:ByteArray):mkB s.data.toList=s:=by
 cases s; simp [mkB]
theorem zcT (s:ByteArray) (c:UInt8):zcn s c=(cutL c s.data.toList).map mkB:=by
 rw [←ziG,List.map_map]
 conv=>lhs; rw [←List.map_id (zcn s c)]
 exact List.map_congr_left fun x _=>(zns x).symm
def zfN:List ByteArray→List ByteArray
 | []=>[]
 | [x]=>if x.size=0 then [] else [x]
 | x :: y :: r=>x :: zfN (y :: r)
def zcb (t:ByteArray):List ByteArray:=zfN (zcn t 10)
def cutA (t:ByteArray):ByteArray:=mkB (Lib.cut t.data.toList [10]).1
def cutB (t:ByteArray):ByteArray:=mkB (Lib.cut t.data.toList [10]).2.1
theorem znt (l:List UInt8):(mkB l).size=l.length:=by show l.toArray.size=l.length; simp
theorem zp4 {t:ByteArray} (h:t.size=0):zcb t=[]:=by
 have h1:t.data.toList=[]:=List.eq_nil_of_length_eq_zero (by rw [Array.length_toList]; exact h)
 unfold zcb
 rw [zcT,h1]
 rfl
theorem zol {t:ByteArray} (h:t.size≠0):zcb t=cutA t :: zcb (cutB t):=by
 unfold zcb cutA cutB
 rw [zcT,zcT]
 rcases zm5 t.data.toList 10 with ⟨p,r,h1,h2,h3⟩ | ⟨h1,h2⟩
 ·rw [h3,h1,zhx h2]
  show zfN (mkB p :: (cutL 10 r).map mkB)=mkB p :: zfN ((cutL 10 r).map mkB)
  have:=zm4 10 r
  cases hc:cutL 10 r with
  | nil=>rw [hc] at this; simp at this
  | cons a b=>rfl
 ·rw [h2,zeD h1]
  show(if (mkB t.data.toList).size=0 then [] else [mkB t.data.toList])=mkB t.data.toList :: []
  rw [if_neg (by rw [zns]; exact h)]
theorem zkN {t:ByteArray} (h:t.size≠0):(cutB t).size < t.size:=by
 have h3:t.data.toList.length=t.size:=by rw [Array.length_toList]; rfl
 unfold cutB
 rw [znt]
 rcases zm5 t.data.toList 10 with ⟨p,r,h1,h2,h3⟩ | ⟨h1,h2⟩
 ·rw [h3]
  have:=congrArg List.length h1
  simp at this
  dsimp only
  omega
 ·rw [h2]; dsimp only; simp; omega
theorem zgY {t u:ByteArray} {i:Nat} (h:zcb u=(zcb t).drop i) (hu:u.size≠0):zcb (cutB u)=(zcb t).drop (i+1)∧(zcb t)[i]?=some (cutA u):=by
 rw [zol hu] at h
 constructor
 ·rw [show(zcb t).drop (i+1)=((zcb t).drop i).drop 1 from by rw [List.drop_drop],←h]; rfl
 ·have:=congrArg (fun l=>l[0]?) h
  simpa using this.symm
theorem zp3 {t u:ByteArray} {i:Nat} (h:zcb u=(zcb t).drop i) (hu:u.size=0) (hi:i≤(zcb t).length):i=(zcb t).length:=by
 rw [zp4 hu] at h
 have:=congrArg List.length h
 simp at this
 omega
theorem zlh:∀ {l:List ByteArray} {x:ByteArray},x∈zfN l→x∈l
 | [],_,h=>h
 | [x],y,h=>by
  rw [zfN] at h
  split at h
  ·cases h
  ·exact h
 | a :: b :: r,y,h=>by
  rw [zfN] at h
  rcases List.mem_cons.1 h with h' | h'
  ·exact List.mem_cons.2 (.inl h')
  ·exact List.mem_cons_of_mem _ (zlh h')
def idle (t:ByteArray):Bool:=t.size == 0||zee t 0 == 35
def zdo (q:Plan) (n:Int):List ByteArray→Except (Int×Int) Plan
 | []=>.ok q
 | t :: r=>if idle t=true then zdo q (n+1) r else match zcu q t with
  | .error k=>.error (n,k)
  | .ok q'=>zdo q' (n+1) r
def zgA (t:ByteArray):Plan×Int×Int:=
 if t.size > 40000 then(⟨[],[]⟩,0,5) else match zdo ⟨[],[]⟩ 1 (zcb t) with
 | .ok q=>(q,0,0)
 | .error x=>(⟨[],[]⟩,x.1,x.2)
end Go.Pln
namespace Go.Pln
open Go Go.K Go.RowKit Go.Stn Go.Txt
def NZ {α:Type} (r:Except Int α):Prop:=∀ k,r=.error k→k≠0
theorem zgf {α:Type} (x:α):NZ (.ok x:Except Int α):=fun _ h=>by cases h
theorem zcV {α:Type} {k:Int} (h:k≠0):NZ (.error k:Except Int α):=fun _ e=>by cases e; exact h
theorem zbE {α β:Type} {a:Except Int α} {f:α→Except Int β} (h1:NZ a) (h2:∀ x,NZ (f x)):NZ (a >>= f):=by
 cases a with
 | ok x=>rw [zak]; exact h2 x
 | error k=>rw [zcc]; exact zcV (h1 k rfl)
theorem zcO {α:Type} {p:Prop} [Decidable p] {a b:Except Int α} (h1:NZ a) (h2:NZ b):NZ (if p then a else b):=by
 split
 ·exact h1
 ·exact h2
theorem zin:∀ ws:List ByteArray,NZ (zdp ws)
 | []=>zcV (by decide)
 | _ :: _=>zgf _
theorem zqI (u:ByteArray) (ws:List ByteArray):NZ (sayE u ws):=zbE (zin ws) fun _=>zcO (zgf _) (zcV (by decide))
theorem zmn (ws:List ByteArray):NZ (zes ws):=zbE (zin ws) fun _=>zcO (zgf _) (zcV (by decide))
theorem zpm (ws:List ByteArray):NZ (endE ws):=zcO (zgf _) (zcV (by decide))
theorem zv8 (ws:List ByteArray):NZ (numE ws):=zbE (zin ws) fun _=>zcO (zgf _) (zcV (by decide))
theorem zis:∀ (n:Nat) (ws:List ByteArray),NZ (zco n ws)
 | 0,_=>zgf _
 | n+1,ws=>zbE (zv8 ws) fun x=>zbE (zis n x.2) fun _=>zgf _
theorem zp1 (l:List ByteArray) (f:Nat) (ws:List ByteArray):NZ (zfk l f ws):=zbE (zin ws) fun _=>zcO (zcV (by decide)) (zgf _)
theorem zfp (u:ByteArray) (n:Nat) (ws:List ByteArray):NZ (oneE u n ws):=zbE (zqI u ws) fun x=>zis n x.2
theorem zjm:∀ (ws:List ByteArray) (acc:List Int),NZ (zbF acc ws)
 | [],_=>zgf _
 | _ :: r,acc=>by
  rw [zbF]
  exact zcO (zgf _) (zcO (zjm r _) (zcV (by decide)))
theorem zsj (ws:List ByteArray):NZ (zci ws):=by
 unfold zci
 refine zbE (zmn _) fun _=>zbE (zfp _ _ _) fun _=>zbE (zfp _ _ _) fun _=>zbE (zfp _ _ _) fun _=>zbE (zfp _ _ _) fun _=>zbE (zqI _ _) fun _=>zbE (zjm _ _) fun _=>?_
 refine zbE (zfp _ _ _) fun _=>zbE (zfp _ _ _) fun _=>zbE (zfp _ _ _) fun _=>zbE (zfp _ _ _) fun _=>zbE (zfp _ _ _) fun _=>zbE (zqI _ _) fun _=>zbE (zp1 _ _ _) fun _=>zbE (zis _ _) fun _=>?_
 exact zbE (zfp _ _ _) fun _=>zbE (zfp _ _ _) fun _=>zcO (zcV (by decide)) (zgf _)
theorem zqL (q:Plan) (ws:List ByteArray):NZ (zb3 q ws):=
 zbE (zsj ws) fun _=>zbE (zpm _) fun _=>zcO (zcV (by decide)) (zcO (zcO (zcV (by decide)) (zgf _)) (zcV (by decide)))
theorem zst (q:Plan) (ws:List ByteArray):NZ (zb1 q ws):=
 zbE (zmn ws) fun _=>zbE (zmn _) fun _=>zbE (zis _ _) fun _=>zbE (zpm _) fun _=>zcO (zcV (by decide)) (zcO (zcO (zcO (zcV (by decide)) (zgf _)) (zcV (by decide))) (zcV (by decide)))
theorem zrW (q:Plan) (ws:List ByteArray):NZ (zch q ws):=
 zbE (zp1 _ _ ws) fun _=>zbE (zis _ _) fun _=>zbE (zpm _) fun _=>zcO (zcV (by decide)) (zcO (zgf _) (zcV (by decide)))
theorem zuc (q:Plan) (t:ByteArray):NZ (zcu q t):=by
 unfold zcu
 refine zbE (zin _) fun x=>?_
 unfold zff
 exact zcO (zqL _ _) (zcO (zst _ _) (zcO (zrW _ _) (zcV (by decide))))
theorem zrg {q:Plan} {t:ByteArray} (h:¬ zkJ (zcu q t)=0):zcu q t=.error (zkJ (zcu q t)):=by
 cases hl:zcu q t with
 | ok x=>rw [hl] at h; exact absurd rfl h
 | error k=>rfl
theorem ztu {q:Plan} {t:ByteArray} (h:zkJ (zcu q t)=0):∃ q',zcu q t=.ok q':=by
 cases hl:zcu q t with
 | ok x=>exact⟨x,rfl⟩
 | error k=>rw [hl] at h; exact absurd h (zuc q t k hl)
theorem zup:OkQ ⟨[],[]⟩:=⟨fun s h=>(by cases h),Nat.zero_le _,Nat.zero_le _,fun v h=>(by cases h)⟩
theorem zoq {q:Plan} {n:Int} {t:ByteArray} {r:List ByteArray} (h:idle t=true):zdo q n (t :: r)=zdo q (n+1) r:=by rw [zdo,if_pos h]
theorem zqr {q:Plan} {n:Int} {t:ByteArray} {r:List ByteArray} {k:Int} (h:idle t=false) (he:zcu q t=.error k):zdo q n (t :: r)=.error (n,k):=by
 rw [zdo,if_neg (by rw [h]; exact Bool.false_ne_true),he]
theorem zhB {q q':Plan} {n:Int} {t:ByteArray} {r:List ByteArray} (h:idle t=false) (he:zcu q t=.ok q'):zdo q n (t :: r)=zdo q' (n+1) r:=by
 rw [zdo,if_neg (by rw [h]; exact Bool.false_ne_true),he]
theorem zl1 {l:List ByteArray} {i:Nat} {u:ByteArray} (h:l[i]?=some u):l.drop i=u :: l.drop (i+1):=by
 obtain⟨h1,rfl⟩:=List.getElem?_eq_some_iff.1 h
 exact List.drop_eq_getElem_cons h1
def PlR (y:PTy) (z:(Option Addr×Nat×List ShC)×(Option Addr×Nat×List WlC)) (q:Plan):Res where
 A B w:=z.1.2.2.map (·.s)=q.S∧z.2.2.2.map (·.s)=q.V∧(SepR [Row z.1.1 20 z.1.2.1 y.s zbH z.1.2.2,Go.K.Rows (rowH y.i) z.1.2.2,Row z.2.1 4 z.2.2.1 y.w zbS z.2.2.2,Go.K.Rows (rowO y.o) z.2.2.2]).A B w
 loc B w w' h hA:=⟨hA.1,hA.2.1,(SepR [Row z.1.1 20 z.1.2.1 y.s zbH z.1.2.2,Go.K.Rows (rowH y.i) z.1.2.2,Row z.2.1 4 z.2.2.1 y.w zbS z.2.2.2,Go.K.Rows (rowO y.o) z.2.2.2]).loc B w w' h hA.2.2⟩
theorem zxt {y:PTy} {p:Nat} {B:Nat→Prop} {w:World} (hA:(Box p [.slice none 0 0,.slice none 0 0] y.p).A B w):(PlE y p ⟨[],[]⟩).A B w:=
 ⟨none,0,[],none,0,[],rfl,rfl,B,fun _=>False,fun _ h=>h,fun _ h=>h.elim,hA,fun _=>False,fun _=>False,fun _ h=>h,fun _ h=>h.elim,.inl ⟨rfl,rfl,rfl⟩,fun _=>False,fun _=>False,fun _ h=>h,fun _ h=>h.elim,trivial,
  fun _=>False,fun _=>False,fun _ h=>h,fun _ h=>h.elim,.inl ⟨rfl,rfl,rfl⟩,fun _=>False,fun _=>False,fun _ h=>h,fun _ h=>h.elim,trivial,trivial⟩
theorem zpO {c:Cx} {ds:List Deferred} {T:List (Nat×Value)} {H:List Res} {K:Act→World→Prop} (y:PTy) (h:GK c ds K T (PlR y ((none,0,[]),(none,0,[])) ⟨[],[]⟩ :: H)):GK c ds K T H:=fun a w ha hw=>
 h a w ha ⟨hw.base,fun _=>False,fun _ hk=>hk.elim,⟨rfl,rfl,fun _=>False,fun _=>False,fun _ h=>h,fun _ h=>h.elim,.inl ⟨rfl,rfl,rfl⟩,fun _=>False,fun _=>False,fun _ h=>h,fun _ h=>h.elim,trivial,
  fun _=>False,fun _=>False,fun _ h=>h,fun _ h=>h.elim,.inl ⟨rfl,rfl,rfl⟩,fun _=>False,fun _=>False,fun _ h=>h,fun _ h=>h.elim,trivial,trivial⟩,Holds.anti H (fun _ hk=>hk.elim id False.elim) hw.holds⟩
def stR (y:PTy) (p:Nat):Except (Int×Int) Plan→Res
 | .ok q=>PlE y p q
 | .error _=>Box p [.slice none 0 0,.slice none 0 0] y.p
def lnE:Except (Int×Int) Plan→Int
 | .ok _=>0
 | .error x=>x.1
def erE:Except (Int×Int) Plan→Int
 | .ok _=>0
 | .error x=>x.2
theorem zgi {c:UInt8}:∀ {l:List UInt8} {p:List UInt8},p∈cutL c l→p.length≤l.length
 | [],p,h=>by simp [cutL] at h; subst h; simp
 | x :: r,p,h=>by
  rw [cutL] at h
  split at h
  ·rcases List.mem_cons.1 h with rfl | h
   ·simp
   ·have:=zgi h; simp; omega
  ·split at h
   ·simp at h; subst h; simp
   ·rename_i q t e
    rcases List.mem_cons.1 h with rfl | h
    ·have:=zgi (c:=c) (l:=r) (p:=q) (by rw [e]; simp); simp; omega
    ·have:=zgi (c:=c) (l:=r) (p:=p) (by rw [e]; simp [h]); simp; omega
theorem zom {t u:ByteArray} {i:Nat} (h:(zcb t)[i]?=some u):u.size≤t.size:=by
 have h1:=zlh (List.mem_of_getElem? h)
 rw [zcT] at h1
 obtain⟨p,hp,rfl⟩:=List.mem_map.1 h1
 have:=zgi hp
 rw [znt]
 rwa [Array.length_toList] at this
theorem zv2 {u:ByteArray} (h:decide (zee u 0=35)=true):idle u=true:=by
 unfold idle
 rw [Bool.or_eq_true]
 exact .inr (by simpa using h)
theorem zt2 {u:ByteArray} (h1:¬ u.size=0) (h:decide (zee u 0=35)=false):idle u=false:=by
 unfold idle
 simp only [Bool.or_eq_false_iff]
 exact⟨by simpa using h1,by simpa using h⟩
theorem zv1 {u:ByteArray} (h:u.size=0):idle u=true:=by
 unfold idle
 rw [h]; rfl
theorem zjq {t:ByteArray} (h:t.size > 40000):zgA t=(⟨[],[]⟩,0,5):=if_pos h
theorem zkf {t:ByteArray} {q:Plan} (h:¬ t.size > 40000) (he:zdo ⟨[],[]⟩ 1 (zcb t)=.ok q):zgA t=(q,0,0):=by
 unfold zgA
 rw [if_neg h,he]
theorem zlq {t:ByteArray} {x:Int×Int} (h:¬ t.size > 40000) (he:zdo ⟨[],[]⟩ 1 (zcb t)=.error x):zgA t=(⟨[],[]⟩,x.1,x.2):=by
 unfold zgA
 rw [if_neg h,he]
end Go.Pln
namespace Go.Proofs.YtdcfcfhmkfkgmaaGreatDoor
open Go Go.K Go.Stn Go.Pln Go.RowKit Go.Txt
theorem zkC {c:UInt8} {l:List UInt8} (h:l.all (fun x=>!(x == c))=true):∀ x∈l,x≠c:=fun x hx=>by
 have:=List.all_eq_true.1 h x hx
 simpa using this
theorem zbk {c:UInt8} {L:List UInt8} (k n:Nat) (h0:((L.drop k).take n).all (fun x=>!(x == c))=true) (h1:(L.drop k)[n]?=some c):cutL c (L.drop k)=(L.drop k).take n :: cutL c (L.drop (k+n+1)):=by
 obtain⟨h,h2⟩:=List.getElem?_eq_some_iff.1 h1
 have e:L.drop k=(L.drop k).take n++c :: L.drop (k+n+1):=by
  rw [←h2,show k+n+1=k+(n+1) from rfl,←List.drop_drop,←List.drop_eq_getElem_cons h,List.take_append_drop]
 conv=>lhs; rw [e]
 exact zhx (zkC h0)
theorem zui {W:List ByteArray} (h:0 < W.length):zdp W=.ok (W.getD 0 default,W.drop 1):=by
 cases W with
 | nil=>simp at h
 | cons x r=>rfl
theorem znw {W:List ByteArray} {k:Nat} (h:k < W.length):zdp (W.drop k)=.ok (W.getD k default,W.drop (k+1)):=by
 rw [List.drop_eq_getElem_cons h,List.getD_eq_getElem?_getD,List.getElem?_eq_getElem h]; rfl
theorem zuh {W:List ByteArray} {k:Nat} (h:k < W.length) (h1:zgx (W.getD k default)=true):zes (W.drop k)=.ok (W.getD k default,W.drop (k+1)):=by
 rw [zes,znw h,zak]; exact if_pos h1
theorem sayD {W:List ByteArray} {u:ByteArray} {k:Nat} (h:k < W.length) (h1:((W.getD k default).toList == u.toList)=true):sayE u (W.drop k)=.ok ((),W.drop (k+1)):=by
 rw [sayE,znw h,zak]; exact if_pos h1
theorem numD {W:List ByteArray} {k:Nat} {n:Int} (h:k < W.length) (h1:numW (W.getD k default)=true) (h2:zdO (W.getD k default)=n):numE (W.drop k)=.ok (n,W.drop (k+1)):=by
 rw [numE,znw h,zak,←h2]; exact if_pos h1
theorem zqd {W:List ByteArray} {k:Nat} {n:Int} (h:k < W.length) (h1:numW (W.getD k default)=true) (h2:zdO (W.getD k default)=n):zco 1 (W.drop k)=.ok ([n],W.drop (k+1)):=by
 rw [zco,numD h h1 h2]; rfl
theorem zqe {W:List ByteArray} {k m:Nat} {n:Int} {l:List Int} {r:List ByteArray} (h:k < W.length) (h1:numW (W.getD k default)=true) (h2:zdO (W.getD k default)=n) (h3:zco m (W.drop (k+1))=.ok (l,r)):zco (m+1) (W.drop k)=.ok (n :: l,r):=by
 rw [zco,numD h h1 h2,zak]
 show(zco m (W.drop (k+1)) >>= _)=_
 rw [h3]; rfl
theorem zs3 {W:List ByteArray} {k:Nat} {n n2:Int} (h:k+1 < W.length) (h1:numW (W.getD k default)=true) (h2:zdO (W.getD k default)=n) (h3:numW (W.getD (k+1) default)=true) (h4:zdO (W.getD (k+1) default)=n2):zco 2 (W.drop k)=.ok ([n,n2],W.drop (k+2)):=
 zqe (by omega) h1 h2 (zqd h h3 h4)
theorem zs4 {W:List ByteArray} {k:Nat} {n n2 n3:Int} (h:k+2 < W.length) (h1:numW (W.getD k default)=true) (h2:zdO (W.getD k default)=n) (h3:numW (W.getD (k+1) default)=true) (h4:zdO (W.getD (k+1) default)=n2) (h5:numW (W.getD (k+1+1) default)=true) (h6:zdO (W.getD (k+1+1) default)=n3):zco 3 (W.drop k)=.ok ([n,n2,n3],W.drop (k+3)):=
 zqe (by omega) h1 h2 (zs3 h h3 h4 h5 h6)
theorem zv9 {W:List ByteArray} {k:Nat} {n n2 n3 n4:Int} (h:k+3 < W.length) (h1:numW (W.getD k default)=true) (h2:zdO (W.getD k default)=n) (h3:numW (W.getD (k+1) default)=true) (h4:zdO (W.getD (k+1) default)=n2) (h5:numW (W.getD (k+1+1) default)=true) (h6:zdO (W.getD (k+1+1) default)=n3) (h7:numW (W.getD (k+1+1+1) default)=true) (h8:zdO (W.getD (k+1+1+1) default)=n4):zco 4 (W.drop k)=.ok ([n,n2,n3,n4],W.drop (k+4)):=
 zqe (by omega) h1 h2 (zs4 (by omega) h3 h4 h5 h6 h7 h8)
theorem zlm {W:List ByteArray} {u:ByteArray} {k:Nat} {n:Int} (h:k+1 < W.length) (h0:((W.getD k default).toList == u.toList)=true) (h1:numW (W.getD (k+1) default)=true) (h2:zdO (W.getD (k+1) default)=n):oneE u 1 (W.drop k)=.ok ([n],W.drop (k+2)):=by
 rw [oneE,sayD (by omega) h0,zak]; exact zqd h h1 h2
theorem zur {W:List ByteArray} {u:ByteArray} {k:Nat} {n n2:Int} (h:k+2 < W.length) (h0:((W.getD k default).toList == u.toList)=true) (h1:numW (W.getD (k+1) default)=true) (h2:zdO (W.getD (k+1) default)=n) (h3:numW (W.getD (k+1+1) default)=true) (h4:zdO (W.getD (k+1+1) default)=n2):oneE u 2 (W.drop k)=.ok ([n,n2],W.drop (k+3)):=by
 rw [oneE,sayD (by omega) h0,zak]; exact zs3 h h1 h2 h3 h4
theorem zpU {W:List ByteArray} {acc acc2:List Int} {k:Nat} (h:k < W.length) (h1:((W.getD k default).toList == wLeast.toList)=false) (h2:numW (W.getD k default)=true) (h3:acc++[zdO (W.getD k default)]=acc2):zbF acc (W.drop k)=zbF acc2 (W.drop (k+1)):=by
 rw [List.getD_eq_getElem?_getD,List.getElem?_eq_getElem h,Option.getD_some] at h1 h2 h3
 rw [List.drop_eq_getElem_cons h,zbF,if_neg (by rw [show(W[k].toList == wLeast.toList)=false from h1]; exact Bool.false_ne_true),if_pos h2,←h3]
theorem zt1 {W:List ByteArray} {acc:List Int} {k:Nat} (h:k < W.length) (h1:((W.getD k default).toList == wLeast.toList)=true):zbF acc (W.drop k)=.ok (acc,W.drop k):=by
 rw [List.getD_eq_getElem?_getD,List.getElem?_eq_getElem h,Option.getD_some] at h1
 rw [List.drop_eq_getElem_cons h,zbF,if_pos h1]
theorem zv4 {W l:List ByteArray} {f k:Nat} {n:Int} (h:k < W.length) (h1:¬ zbJ (fun y=>(W.getD k default).toList == y.toList) (l.drop f) < 0∧zbJ (fun y=>(W.getD k default).toList == y.toList) (l.drop f)+f=n):zfk l f (W.drop k)=.ok (n,W.drop (k+1)):=by
 rw [zfk,znw h,zak,←h1.2]; exact if_neg h1.1
noncomputable def dB:List UInt8:=daleT.data.toList
noncomputable def dQ0:List UInt8:=(dB.drop 0).take 170
set_option maxRecDepth 100000 in
theorem dct0:cutL 10 (dB.drop 0)=dQ0 :: cutL 10 (dB.drop 171):=zbk 0 170 (by decide +kernel) (by decide +kernel)
noncomputable def dQ1:List UInt8:=(dB.drop 171).take 20
set_option maxRecDepth 100000 in
theorem dct1:cutL 10 (dB.drop 171)=dQ1 :: cutL 10 (dB.drop 192):=zbk 171 20 (by decide +kernel) (by decide +kernel)
noncomputable def dQ2:List UInt8:=(dB.drop 192).take 25
set_option maxRecDepth 100000 in
theorem dct2:cutL 10 (dB.drop 192)=dQ2 :: cutL 10 (dB.drop 218):=zbk 192 25 (by decide +kernel) (by decide +kernel)
set_option maxRecDepth 100000 in
theorem dct3:cutL 10 (dB.drop 218)=[dB.drop 218]:=zeD (zkC (by decide +kernel))
set_option maxRecDepth 100000 in
theorem zob:zcb daleT=[mkB dQ0,mkB dQ1,mkB dQ2]:=by
 unfold zcb
 rw [zcT]
 show zfN ((cutL 10 (dB.drop 0)).map mkB)=_
 rw [dct0,dct1,dct2,dct3]
 show zfN [mkB dQ0,mkB dQ1,mkB dQ2,mkB (dB.drop 218)]=_
 rw [zfN,zfN,zfN,zfN,if_pos (by decide +kernel)]
set_option maxRecDepth 100000 in
theorem zwD:cutL 32 (dQ0.drop 0)=(dQ0.drop 0).take 5 :: cutL 32 (dQ0.drop 6):=zbk 0 5 (by decide +kernel) (by decide +kernel)
set_option maxRecDepth 100000 in
theorem zwE:cutL 32 (dQ0.drop 6)=(dQ0.drop 6).take 4 :: cutL 32 (dQ0.drop 11):=zbk 6 4 (by decide +kernel) (by decide +kernel)
set_option maxRecDepth 100000 in
theorem zwF:cutL 32 (dQ0.drop 11)=(dQ0.drop 11).take 4 :: cutL 32 (dQ0.drop 16):=zbk 11 4 (by decide +kernel) (by decide +kernel)
set_option maxRecDepth 100000 in
theorem zwG:cutL 32 (dQ0.drop 16)=(dQ0.drop 16).take 3 :: cutL 32 (dQ0.drop 20):=zbk 16 3 (by decide +kernel) (by decide +kernel)
set_option maxRecDepth 100000 in
theorem zwH:cutL 32 (dQ0.drop 20)=(dQ0.drop 20).take 6 :: cutL 32 (dQ0.drop 27):=zbk 20 6 (by decide +kernel) (by decide +kernel)
set_option maxRecDepth 100000 in
theorem zwI:cutL 32 (dQ0.drop 27)=(dQ0.drop 27).take 3 :: cutL 32 (dQ0.drop 31):=zbk 27 3 (by decide +kernel) (by decide +kernel)
set_option maxRecDepth 100000 in
theorem zwJ:cutL 32 (dQ0.drop 31)=(dQ0.drop 31).take 6 :: cutL 32 (dQ0.drop 38):=zbk 31 6 (by decide +kernel) (by decide +kernel)
set_option maxRecDepth 100000 in
theorem zwK:cutL 32 (dQ0.drop 38)=(dQ0.drop 38).take 4 :: cutL 32 (dQ0.drop 43):=zbk 38 4 (by decide +kernel) (by decide +kernel)
set_option maxRecDepth 100000 in
theorem zwL:cutL 32 (dQ0.drop 43)=(dQ0.drop 43).take 4 :: cutL 32 (dQ0.drop 48):=zbk 43 4 (by decide +kernel) (by decide +kernel)
set_option maxRecDepth 100000 in
theorem zwM:cutL 32 (dQ0.drop 48)=(dQ0.drop 48).take 3 :: cutL 32 (dQ0.drop 52):=zbk 48 3 (by decide +kernel) (by decide +kernel)
set_option maxRecDepth 100000 in
theorem zvr:cutL 32 (dQ0.drop 52)=(dQ0.drop 52).take 7 :: cutL 32 (dQ0.drop 60):=zbk 52 7 (by decide +kernel) (by decide +kernel)
set_option maxRecDepth 100000 in
theorem zvs:cutL 32 (dQ0.drop 60)=(dQ0.drop 60).take 3 :: cutL 32 (dQ0.drop 64):=zbk 60 3 (by decide +kernel) (by decide +kernel)
set_option maxRecDepth 100000 in
theorem zvt:cutL 32 (dQ0.drop 64)=(dQ0.drop 64).take 3 :: cutL 32 (dQ0.drop 68):=zbk 64 3 (by decide +kernel) (by decide +kernel)
set_option maxRecDepth 100000 in
theorem zvu:cutL 32 (dQ0.drop 68)=(dQ0.drop 68).take 5 :: cutL 32 (dQ0.drop 74):=zbk 68 5 (by decide +kernel) (by decide +kernel)
set_option maxRecDepth 100000 in
theorem zvv:cutL 32 (dQ0.drop 74)=(dQ0.drop 74).take 2 :: cutL 32 (dQ0.drop 77):=zbk 74 2 (by decide +kernel) (by decide +kernel)
set_option maxRecDepth 100000 in
theorem zvw:cutL 32 (dQ0.drop 77)=(dQ0.drop 77).take 3 :: cutL 32 (dQ0.drop 81):=zbk 77 3 (by decide +kernel) (by decide +kernel)
set_option maxRecDepth 100000 in
theorem zvx:cutL 32 (dQ0.drop 81)=(dQ0.drop 81).take 2 :: cutL 32 (dQ0.drop 84):=zbk 81 2 (by decide +kernel) (by decide +kernel)
set_option maxRecDepth 100000 in
theorem zvy:cutL 32 (dQ0.drop 84)=(dQ0.drop 84).take 3 :: cutL 32 (dQ0.drop 88):=zbk 84 3 (by decide +kernel) (by decide +kernel)
set_option maxRecDepth 100000 in
theorem zvz:cutL 32 (dQ0.drop 88)=(dQ0.drop 88).take 1 :: cutL 32 (dQ0.drop 90):=zbk 88 1 (by decide +kernel) (by decide +kernel)
set_option maxRecDepth 100000 in
theorem zvA:cutL 32 (dQ0.drop 90)=(dQ0.drop 90).take 7 :: cutL 32 (dQ0.drop 98):=zbk 90 7 (by decide +kernel) (by decide +kernel)
set_option maxRecDepth 100000 in
theorem zvB:cutL 32 (dQ0.drop 98)=(dQ0.drop 98).take 3 :: cutL 32 (dQ0.drop 102):=zbk 98 3 (by decide +kernel) (by decide +kernel)
set_option maxRecDepth 100000 in
theorem zvC:cutL 32 (dQ0.drop 102)=(dQ0.drop 102).take 3 :: cutL 32 (dQ0.drop 106):=zbk 102 3 (by decide +kernel) (by decide +kernel)
set_option maxRecDepth 100000 in
theorem zvD:cutL 32 (dQ0.drop 106)=(dQ0.drop 106).take 7 :: cutL 32 (dQ0.drop 114):=zbk 106 7 (by decide +kernel) (by decide +kernel)
set_option maxRecDepth 100000 in
theorem zvE:cutL 32 (dQ0.drop 114)=(dQ0.drop 114).take 3 :: cutL 32 (dQ0.drop 118):=zbk 114 3 (by decide +kernel) (by decide +kernel)
set_option maxRecDepth 100000 in
theorem zvF:cutL 32 (dQ0.drop 118)=(dQ0.drop 118).take 3 :: cutL 32 (dQ0.drop 122):=zbk 118 3 (by decide +kernel) (by decide +kernel)
set_option maxRecDepth 100000 in
theorem zvG:cutL 32 (dQ0.drop 122)=(dQ0.drop 122).take 4 :: cutL 32 (dQ0.drop 127):=zbk 122 4 (by decide +kernel) (by decide +kernel)
set_option maxRecDepth 100000 in
theorem zvH:cutL 32 (dQ0.drop 127)=(dQ0.drop 127).take 4 :: cutL 32 (dQ0.drop 132):=zbk 127 4 (by decide +kernel) (by decide +kernel)
set_option maxRecDepth 100000 in
theorem zvI:cutL 32 (dQ0.drop 132)=(dQ0.drop 132).take 3 :: cutL 32 (dQ0.drop 136):=zbk 132 3 (by decide +kernel) (by decide +kernel)
set_option maxRecDepth 100000 in
theorem zvJ:cutL 32 (dQ0.drop 136)=(dQ0.drop 136).take 3 :: cutL 32 (dQ0.drop 140):=zbk 136 3 (by decide +kernel) (by decide +kernel)
set_option maxRecDepth 100000 in
theorem zvK:cutL 32 (dQ0.drop 140)=(dQ0.drop 140).take 3 :: cutL 32 (dQ0.drop 144):=zbk 140 3 (by decide +kernel) (by decide +kernel)
set_option maxRecDepth 100000 in
theorem zvL:cutL 32 (dQ0.drop 144)=(dQ0.drop 144).take 8 :: cutL 32 (dQ0.drop 153):=zbk 144 8 (by decide +kernel) (by decide +kernel)
set_option maxRecDepth 100000 in
theorem zvM:cutL 32 (dQ0.drop 153)=(dQ0.drop 153).take 3 :: cutL 32 (dQ0.drop 157):=zbk 153 3 (by decide +kernel) (by decide +kernel)
set_option maxRecDepth 100000 in
theorem zvN:cutL 32 (dQ0.drop 157)=(dQ0.drop 157).take 3 :: cutL 32 (dQ0.drop 161):=zbk 157 3 (by decide +kernel) (by decide +kernel)
set_option maxRecDepth 100000 in
theorem zvO:cutL 32 (dQ0.drop 161)=(dQ0.drop 161).take 4 :: cutL 32 (dQ0.drop 166):=zbk 161 4 (by decide +kernel) (by decide +kernel)
set_option maxRecDepth 100000 in
theorem zvP:cutL 32 (dQ0.drop 166)=[dQ0.drop 166]:=zeD (zkC (by decide +kernel))
noncomputable def dW0:List ByteArray:=[mkB ((dQ0.drop 0).take 5),mkB ((dQ0.drop 6).take 4),mkB ((dQ0.drop 11).take 4),mkB ((dQ0.drop 16).take 3),mkB ((dQ0.drop 20).take 6),mkB ((dQ0.drop 27).take 3),mkB ((dQ0.drop 31).take 6),mkB ((dQ0.drop 38).take 4),mkB ((dQ0.drop 43).take 4),mkB ((dQ0.drop 48).take 3),mkB ((dQ0.drop 52).take 7),mkB ((dQ0.drop 60).take 3),mkB ((dQ0.drop 64).take 3),mkB ((dQ0.drop 68).take 5),mkB ((dQ0.drop 74).take 2),mkB ((dQ0.drop 77).take 3),mkB ((dQ0.drop 81).take 2),mkB ((dQ0.drop 84).take 3),mkB ((dQ0.drop 88).take 1),mkB ((dQ0.drop 90).take 7),mkB ((dQ0.drop 98).take 3),mkB ((dQ0.drop 102).take 3),mkB ((dQ0.drop 106).take 7),mkB ((dQ0.drop 114).take 3),mkB ((dQ0.drop 118).take 3),mkB ((dQ0.drop 122).take 4),mkB ((dQ0.drop 127).take 4),mkB ((dQ0.drop 132).take 3),mkB ((dQ0.drop 136).take 3),mkB ((dQ0.drop 140).take 3),mkB ((dQ0.drop 144).take 8),mkB ((dQ0.drop 153).take 3),mkB ((dQ0.drop 157).take 3),mkB ((dQ0.drop 161).take 4),mkB (dQ0.drop 166)]
set_option maxRecDepth 100000 in
theorem zvh:zcn (mkB dQ0) 32=dW0:=by
 rw [zcT]
 show(cutL 32 (dQ0.drop 0)).map mkB=_
 rw [zwD,zwE,zwF,zwG,zwH,zwI,zwJ,zwK,zwL,zwM,zvr,zvs,zvt,zvu,zvv,zvw,zvx,zvy,zvz,zvA,zvB,zvC,zvD,zvE,zvF,zvG,zvH,zvI,zvJ,zvK,zvL,zvM,zvN,zvO,zvP]
 rfl
set_option maxRecDepth 100000 in
theorem zxn:idle (mkB dQ0)=false:=by decide +kernel
set_option maxRecDepth 100000 in
theorem zwN:cutL 32 (dQ1.drop 0)=(dQ1.drop 0).take 4 :: cutL 32 (dQ1.drop 5):=zbk 0 4 (by decide +kernel) (by decide +kernel)
set_option maxRecDepth 100000 in
theorem zwO:cutL 32 (dQ1.drop 5)=(dQ1.drop 5).take 5 :: cutL 32 (dQ1.drop 11):=zbk 5 5 (by decide +kernel) (by decide +kernel)
set_option maxRecDepth 100000 in
theorem zwP:cutL 32 (dQ1.drop 11)=(dQ1.drop 11).take 4 :: cutL 32 (dQ1.drop 16):=zbk 11 4 (by decide +kernel) (by decide +kernel)
set_option maxRecDepth 100000 in
theorem zwQ:cutL 32 (dQ1.drop 16)=[dQ1.drop 16]:=zeD (zkC (by decide +kernel))
noncomputable def dW1:List ByteArray:=[mkB ((dQ1.drop 0).take 4),mkB ((dQ1.drop 5).take 5),mkB ((dQ1.drop 11).take 4),mkB (dQ1.drop 16)]
set_option maxRecDepth 100000 in
theorem zvi:zcn (mkB dQ1) 32=dW1:=by
 rw [zcT]
 show(cutL 32 (dQ1.drop 0)).map mkB=_
 rw [zwN,zwO,zwP,zwQ]
 rfl
set_option maxRecDepth 100000 in
theorem zxo:idle (mkB dQ1)=false:=by decide +kernel
set_option maxRecDepth 100000 in
theorem zwR:cutL 32 (dQ2.drop 0)=(dQ2.drop 0).take 4 :: cutL 32 (dQ2.drop 5):=zbk 0 4 (by decide +kernel) (by decide +kernel)
set_option maxRecDepth 100000 in
theorem zwS:cutL 32 (dQ2.drop 5)=(dQ2.drop 5).take 5 :: cutL 32 (dQ2.drop 11):=zbk 5 5 (by decide +kernel) (by decide +kernel)
set_option maxRecDepth 100000 in
theorem zwT:cutL 32 (dQ2.drop 11)=(dQ2.drop 11).take 4 :: cutL 32 (dQ2.drop 16):=zbk 11 4 (by decide +kernel) (by decide +kernel)
set_option maxRecDepth 100000 in
theorem zwU:cutL 32 (dQ2.drop 16)=(dQ2.drop 16).take 3 :: cutL 32 (dQ2.drop 20):=zbk 16 3 (by decide +kernel) (by decide +kernel)
set_option maxRecDepth 100000 in
theorem zwV:cutL 32 (dQ2.drop 20)=(dQ2.drop 20).take 1 :: cutL 32 (dQ2.drop 22):=zbk 20 1 (by decide +kernel) (by decide +kernel)
set_option maxRecDepth 100000 in
theorem zwW:cutL 32 (dQ2.drop 22)=[dQ2.drop 22]:=zeD (zkC (by decide +kernel))
noncomputable def dW2:List ByteArray:=[mkB ((dQ2.drop 0).take 4),mkB ((dQ2.drop 5).take 5),mkB ((dQ2.drop 11).take 4),mkB ((dQ2.drop 16).take 3),mkB ((dQ2.drop 20).take 1),mkB (dQ2.drop 22)]
set_option maxRecDepth 100000 in
theorem zvj:zcn (mkB dQ2) 32=dW2:=by
 rw [zcT]
 show(cutL 32 (dQ2.drop 0)).map mkB=_
 rw [zwR,zwS,zwT,zwU,zwV,zwW]
 rfl
set_option maxRecDepth 100000 in
theorem zxp:idle (mkB dQ2)=false:=by decide +kernel
set_option maxRecDepth 100000 in
theorem dn0:zes (dW0.drop 1)=.ok ((mkB ((dQ0.drop 6).take 4)),dW0.drop 2):=zuh (by decide) (by decide +kernel)
set_option maxRecDepth 100000 in
theorem zwz:oneE ⟨#[98,97,115,101]⟩ 1 (dW0.drop 2)=.ok ([700],dW0.drop 4):=zlm (by decide) (by decide +kernel) (by decide +kernel) (by decide +kernel)
set_option maxRecDepth 100000 in
theorem ztC:oneE ⟨#[98,97,116,116,101,114]⟩ 1 (dW0.drop 4)=.ok ([100],dW0.drop 6):=zlm (by decide) (by decide +kernel) (by decide +kernel) (by decide +kernel)
set_option maxRecDepth 100000 in
theorem ztD:oneE ⟨#[104,101,105,103,104,116]⟩ 1 (dW0.drop 6)=.ok ([1200],dW0.drop 8):=zlm (by decide) (by decide +kernel) (by decide +kernel) (by decide +kernel)
set_option maxRecDepth 100000 in
theorem zwX:oneE ⟨#[115,107,105,110]⟩ 1 (dW0.drop 8)=.ok ([250],dW0.drop 10):=zlm (by decide) (by decide +kernel) (by decide +kernel) (by decide +kernel)
set_option maxRecDepth 100000 in
theorem zrm:sayE ⟨#[104,101,105,103,104,116,115]⟩ (dW0.drop 10)=.ok ((),dW0.drop 11):=sayD (by decide) (by decide +kernel)
set_option maxRecDepth 100000 in
theorem dh0:zbF [] (dW0.drop 11)=zbF [200] (dW0.drop 12):=zpU (by decide) (by decide +kernel) (by decide +kernel) (by decide +kernel)
set_option maxRecDepth 100000 in
theorem dh1:zbF [200] (dW0.drop 12)=zbF [200,180] (dW0.drop 13):=zpU (by decide) (by decide +kernel) (by decide +kernel) (by decide +kernel)
set_option maxRecDepth 100000 in
theorem dhe:zbF [200,180] (dW0.drop 13)=.ok ([200,180],dW0.drop 13):=zt1 (by decide) (by decide +kernel)
set_option maxRecDepth 100000 in
theorem dhs:zbF [] (dW0.drop 11)=.ok ([200,180],dW0.drop 13):=by rw [dh0,dh1,dhe]
set_option maxRecDepth 100000 in
theorem zvm:oneE ⟨#[108,101,97,115,116]⟩ 1 (dW0.drop 13)=.ok ([60],dW0.drop 15):=zlm (by decide) (by decide +kernel) (by decide +kernel) (by decide +kernel)
set_option maxRecDepth 100000 in
theorem dlap:oneE ⟨#[108,97,112]⟩ 1 (dW0.drop 15)=.ok ([60],dW0.drop 17):=zlm (by decide) (by decide +kernel) (by decide +kernel) (by decide +kernel)
set_option maxRecDepth 100000 in
theorem drun:oneE ⟨#[114,117,110]⟩ 1 (dW0.drop 17)=.ok ([2],dW0.drop 19):=zlm (by decide) (by decide +kernel) (by decide +kernel) (by decide +kernel)
set_option maxRecDepth 100000 in
theorem zrn:oneE ⟨#[116,104,114,111,117,103,104]⟩ 2 (dW0.drop 19)=.ok ([900,500],dW0.drop 22):=zur (by decide) (by decide +kernel) (by decide +kernel) (by decide +kernel) (by decide +kernel) (by decide +kernel)
set_option maxRecDepth 100000 in
theorem zrl:oneE ⟨#[102,111,111,116,105,110,103]⟩ 2 (dW0.drop 22)=.ok ([200,100],dW0.drop 25):=zur (by decide) (by decide +kernel) (by decide +kernel) (by decide +kernel) (by decide +kernel) (by decide +kernel)
set_option maxRecDepth 100000 in
theorem zwA:sayE ⟨#[99,111,112,101]⟩ (dW0.drop 25)=.ok ((),dW0.drop 26):=sayD (by decide) (by decide +kernel)
set_option maxRecDepth 100000 in
theorem zwB:zfk zeZ 0 (dW0.drop 26)=.ok (3,dW0.drop 27):=zv4 (by decide) (by decide +kernel)
set_option maxRecDepth 100000 in
theorem dc3:zco 3 (dW0.drop 27)=.ok ([300,200,150],dW0.drop 30):=zs4 (by decide) (by decide +kernel) (by decide +kernel) (by decide +kernel) (by decide +kernel) (by decide +kernel) (by decide +kernel)
set_option maxRecDepth 100000 in
theorem zpg:oneE ⟨#[102,114,105,99,116,105,111,110]⟩ 2 (dW0.drop 30)=.ok ([500,700],dW0.drop 33):=zur (by decide) (by decide +kernel) (by decide +kernel) (by decide +kernel) (by decide +kernel) (by decide +kernel)
set_option maxRecDepth 100000 in
theorem zwC:oneE ⟨#[114,111,111,100]⟩ 1 (dW0.drop 33)=.ok ([6000],dW0.drop 35):=zlm (by decide) (by decide +kernel) (by decide +kernel) (by decide +kernel)
noncomputable def dSh:Sht:=⟨(mkB ((dQ0.drop 6).take 4)),700,100,1200,250,[200,180],60,60,2,900,500,200,100,3,300,200,150,500,700,6000⟩
set_option maxRecDepth 100000 in
theorem zvQ:zci (dW0.drop 1)=.ok (dSh,dW0.drop 35):=by
 unfold zci
 simp only [dn0,zwz,ztC,ztD,zwX,zrm,dhs,zvm,dlap,drun,zrn,zrl,zwA,zwB,dc3,zpg,zwC,zak]
 rfl
set_option maxRecDepth 100000 in
theorem zpj:za4 dSh=true:=by decide +kernel
set_option maxRecDepth 100000 in
theorem zvn:zcu ⟨[],[]⟩ ((mkB dQ0))=.ok ⟨[dSh],[]⟩:=by
 have h1:zff ⟨[],[]⟩ (mkB ((dQ0.drop 0).take 5)) (dW0.drop 1)=zb3 ⟨[],[]⟩ (dW0.drop 1):=if_pos (by decide +kernel)
 have h2:endE (dW0.drop 35)=.ok ((),dW0.drop 35):=if_pos (by decide)
 unfold zcu
 rw [zvh,zui (W:=dW0) (by decide),zak]
 show zff ⟨[],[]⟩ (mkB ((dQ0.drop 0).take 5)) (dW0.drop 1)=_
 rw [h1]
 unfold zb3
 simp only [zvQ,zak,h2]
 rw [if_neg (by decide),if_pos zpj]
 rfl
noncomputable def dWl0:Wll:=⟨(mkB ((dQ1.drop 5).take 5)),(mkB ((dQ1.drop 11).take 4)),3000,[]⟩
set_option maxRecDepth 100000 in
theorem zvo:zcu ⟨[dSh],[]⟩ ((mkB dQ1))=.ok ⟨[dSh],[dWl0]⟩:=by
 have h1:zff ⟨[dSh],[]⟩ (mkB ((dQ1.drop 0).take 4)) (dW1.drop 1)=zb1 ⟨[dSh],[]⟩ (dW1.drop 1):=(if_neg (by decide +kernel)).trans (if_pos (by decide +kernel))
 have h2:zes (dW1.drop 1)=.ok ((mkB ((dQ1.drop 5).take 5)),dW1.drop 2):=zuh (by decide) (by decide +kernel)
 have h3:zes (dW1.drop 2)=.ok ((mkB ((dQ1.drop 11).take 4)),dW1.drop 3):=zuh (by decide) (by decide +kernel)
 have h4:zco 1 (dW1.drop 3)=.ok ([3000],dW1.drop 4):=zqd (by decide) (by decide +kernel) (by decide +kernel)
 have h5:endE (dW1.drop 4)=.ok ((),dW1.drop 4):=if_pos (by decide)
 unfold zcu
 rw [zvi,zui (W:=dW1) (by decide),zak]
 show zff ⟨[dSh],[]⟩ (mkB ((dQ1.drop 0).take 4)) (dW1.drop 1)=_
 rw [h1]
 unfold zb1
 simp only [h2,h3,h4,h5,zak]
 rw [if_neg (by decide),if_pos (by decide +kernel),if_pos (by decide +kernel)]
 rfl
def dOp:Opn:=⟨1,1000,250,0,220⟩
noncomputable def dWl:Wll:=more dWl0 dOp
set_option maxRecDepth 100000 in
theorem zvp:zcu ⟨[dSh],[dWl0]⟩ ((mkB dQ2))=.ok ⟨[dSh],[dWl]⟩:=by
 have h1:zff ⟨[dSh],[dWl0]⟩ (mkB ((dQ2.drop 0).take 4)) (dW2.drop 1)=zch ⟨[dSh],[dWl0]⟩ (dW2.drop 1):=(if_neg (by decide +kernel)).trans ((if_neg (by decide +kernel)).trans (if_pos (by decide +kernel)))
 have h2:zfk opensW 1 (dW2.drop 1)=.ok (1,dW2.drop 2):=zv4 (by decide) (by decide +kernel)
 have h3:zco 4 (dW2.drop 2)=.ok ([1000,250,0,220],dW2.drop 6):=zv9 (by decide) (by decide +kernel) (by decide +kernel) (by decide +kernel) (by decide +kernel) (by decide +kernel) (by decide +kernel) (by decide +kernel) (by decide +kernel)
 have h5:endE (dW2.drop 6)=.ok ((),dW2.drop 6):=if_pos (by decide)
 have h6:zd1 (getS [dSh] dWl0.sheet).height (more dWl0 dOp)=true:=by decide +kernel
 unfold zcu
 rw [zvj,zui (W:=dW2) (by decide),zak]
 show zff ⟨[dSh],[dWl0]⟩ (mkB ((dQ2.drop 0).take 4)) (dW2.drop 1)=_
 rw [h1]
 unfold zch
 simp only [h2,h3,h5,zak]
 exact(if_neg (by decide)).trans (if_pos h6)
set_option maxRecDepth 100000 in
theorem zgT:zgA daleT=(⟨[dSh],[dWl]⟩,0,0):=by
 refine zkf (by have:=zpe; omega) ?_
 rw [zob,zhB zxn zvn,zhB zxo zvo,zhB zxp zvp]
 rfl
end Go.Proofs.YtdcfcfhmkfkgmaaGreatDoor
namespace Go.Pln
open Go Go.K Go.RowKit Go.Stn
def smS (S:List ShC) (i:Nat):Bool:=!(decide (20 < ((S.getD i default).s.heights.length:Int))||decide (40 < ((S.getD i default).s.name.size:Int)))
def smW (V:List WlC) (i:Nat):Bool:=!(decide (25 < ((V.getD i default).s.opens.length:Int)))
def zgI (S:List ShC) (V:List WlC):Bool:=allI S.length (smS S)&&(allI V.length (smW V)&&(decide ((S.length:Int)≤25)&&decide ((V.length:Int)≤60)))
section
variable {S:List ShC} {V:List WlC} {i:Int}
theorem zqO (h0:0≤i) (h:i < (S.length:Int)) (hn:smS S i.toNat=false):zgI S V=false:=by
 unfold zgI; rw [zc9 (i:=i.toNat) (by omega) hn,Bool.false_and]
theorem zqP (h0:0≤i) (h:i < (V.length:Int)) (hn:smW V i.toNat=false):zgI S V=false:=by
 unfold zgI; rw [zc9 (i:=i.toNat) (by omega) hn,Bool.false_and,Bool.and_false]
theorem zqN {k:Int} (h1:¬ i < (S.length:Int)) (h2:∀ j:Nat,(j:Int) < i→smS S j=true) (h3:¬ k < (V.length:Int)) (h4:∀ j:Nat,(j:Int) < k→smW V j=true) :
  zgI S V=(decide ((S.length:Int)≤25)&&decide ((V.length:Int)≤60)):=by
 unfold zgI
 rw [zdN (fun j hj=>h2 j (by omega)),zdN (fun j hj=>h4 j (by omega)),Bool.true_and,Bool.true_and]
structure zoN (S:List ShC) (V:List WlC):Prop where
 ls:S.length≤25
 lv:V.length≤60
 sh:∀ z∈S,z.s.heights.length≤20∧z.s.name.size≤40
 wl:∀ z∈V,z.s.opens.length≤25
theorem zmC (h:zgI S V=true):zoN S V:=by
 unfold zgI at h
 simp only [Bool.and_eq_true,decide_eq_true_eq] at h
 obtain⟨h1,h2,h3,h4⟩:=h
 refine⟨by omega,by omega,fun z hz=>?_,fun z hz=>?_⟩
 ·obtain⟨i,hi,rfl⟩:=List.getElem_of_mem hz
  have:=zdf.1 h1 i hi
  unfold smS at this
  rw [List.getD_eq_getElem?_getD,List.getElem?_eq_getElem hi] at this
  simp only [Option.getD_some,Bool.not_eq_true',Bool.or_eq_false_iff,decide_eq_false_iff_not] at this
  omega
 ·obtain⟨i,hi,rfl⟩:=List.getElem_of_mem hz
  have:=zdf.1 h2 i hi
  unfold smW at this
  rw [List.getD_eq_getElem?_getD,List.getElem?_eq_getElem hi] at this
  simp only [Option.getD_some,Bool.not_eq_true',decide_eq_false_iff_not] at this
  omega
end
end Go.Pln
namespace Go.Proofs.YtdcfcfhmkfkgmaaGreatDoor
open Go.K Go.Stn Go.Pln Go.RowKit
set_option maxRecDepth 100000 in
set_option maxHeartbeats 4000000 in
theorem zuI (a:Option Addr) (cap:Nat) (S:List ShC) (b:Option Addr) (bcap:Nat) (V:List WlC) (w:World) (hl:Has w (zaW a 20 zbH S)) (hs:zaP S.length) (hlw:Has w (zaW b 4 zbS V)) (hsw:V.length≤4398046511104) (_hfS:∀ z∈S,Fits z.s.name.size) :
  Calls Tryz.prog 12 #[.agg #[.slice a S.length cap,.slice b V.length bcap]] w (Pure (.bool (zgI S V)) w):=by
 refine zan (vs:=[_]) Tryz.func12 rfl rfl (Nat.le_of_ble_eq_true rfl) ?_
 refine zac ?_
 refine zaa ?_
 refine zaG rfl rfl (za3 (vs:=[_,_]) rfl rfl) fun b1=>?_
 refine gk_y rfl rfl (zad rfl) ?_
 refine zag (zae (T':=[(1,_),(2,_)]) ⟨rfl,rfl,trivial⟩ ?_)
 refine zac ?_
 refine zac ?_
 refine zaa ?_
 refine gk_y rfl rfl (zad rfl) ?_
 refine zag (zae (T':=[(1,_),(2,_),(3,_)]) ⟨rfl,rfl,rfl,trivial⟩ ?_)
 refine zas ?_
 refine zbf (X:=Int) (fun(i:Int)=>[(1,.pointer (some ⟨b1,0,none⟩)),(2,.bool false),(3,.int .i64 i)]) (fun(i:Int)=>[Box b1 [.slice a S.length cap,.slice b V.length bcap] 25]) (fun(i:Int)=>(0≤i∧i≤S.length∧∀ j:Nat,(j:Int) < i→smS S j=true)) (fun(i:Int)=>(S.length - i).toNat) 0 ⟨rfl,rfl,rfl,trivial⟩ rfl ?_ ?_
 ·exact⟨by omega,by omega,fun j hj=>by omega⟩
 ·rintro i hI
  obtain⟨g0,g1,g2⟩:=hI
  refine zac ?_
  refine zac ?_
  refine zaa ?_
  refine gk_y rfl rfl (zaf rfl) ?_
  refine gk_y rfl rfl (zab zd6 rfl) ?_
  refine gk_y rfl rfl (zah 0 tf22 rfl rfl rfl) ?_
  refine gk_y rfl rfl (zaV (Tryz.underlying22) rfl) ?_
  refine gk_y rfl rfl (zbw rfl rfl) ?_
  refine zag (zae (T':=[(1,_),(2,_),(3,_),(9,_)]) ⟨rfl,rfl,rfl,rfl,trivial⟩ ?_)
  refine zap rfl (fun hc9=>?_) (fun hc9=>?_)
  ·have hc9:=of_decide_eq_true hc9
   refine zaq ?_
   refine zac ?_
   refine zas ?_
   refine zac ?_
   refine zbb 18 (fun _=>mixed) (by kernel_rfl) ?_
   refine ph_y (zab zd6 rfl) ?_
   refine ph_y (zah 0 tf22 rfl rfl rfl) ?_
   refine ph_y (zaf rfl) ?_
   refine ph_y (zaE se22 rfl rfl (fun _ hw=>(Rd.has (Has.rd hl) hw)) (by omega) (by omega)) ?_
   refine ph_y (zbh zgl rfl (fun w hw=>zaO (i:=i) (Rd.has (Has.rd hl) hw) (by omega) (by omega))) ?_
   refine ph_y (zbn tf35 rfl (fun _ hw=>(Rd.has (Has.rd hl) hw)) (by omega) (by omega) rfl) ?_
   refine ph_y (zaV (Tryz.underlying35) rfl) ?_
   refine ph_y (zc6 rfl rfl) ?_
   refine ph_y (zaf rfl) ?_
   refine zaz rfl rfl (fun hgd=>by(try rw [hgd]); exact(zab zd6 rfl)) ?_
   refine zaz rfl rfl (fun hgd=>by(try rw [hgd]); exact(zah 0 tf22 rfl rfl rfl)) ?_
   refine zaz rfl rfl (fun hgd=>by(try rw [hgd]); exact(zaf rfl)) ?_
   refine zaz rfl rfl (fun hgd=>by(try rw [hgd]); exact(zaE se22 rfl rfl (fun _ hw=>(Rd.has (Has.rd hl) hw)) (by omega) (by omega))) ?_
   refine zaz rfl rfl (fun hgd=>by(try rw [hgd]); exact(zbh zkW rfl (fun w hw=>zaO (i:=i) (Rd.has (Has.rd hl) hw) (by omega) (by omega)))) ?_
   refine zaz rfl rfl (fun hgd=>by(try rw [hgd]); exact(zbn tf9 rfl (fun _ hw=>(Rd.has (Has.rd hl) hw)) (by omega) (by omega) rfl)) ?_
   refine zaz rfl rfl (fun hgd=>by(try rw [hgd]); exact(zeO (Tryz.underlying9) rfl)) ?_
   refine zaz rfl rfl (fun hgd=>by(try rw [hgd]); exact(zc6 rfl rfl)) ?_
   refine ph_y (zaR rfl rfl rfl) ?_
   refine zag (zae (T':=[(1,_),(2,_),(3,_),(29,_)]) ⟨rfl,rfl,rfl,rfl,trivial⟩ ?_)
   refine zap rfl (fun hc29=>?_) (fun hc29=>?_)
   ·have hno:smS S i.toNat=false:=by unfold smS; rw [hc29]; rfl
    refine zac ?_
    refine zaa ?_
    refine gk_y rfl rfl (zad rfl) ?_
    refine zag (zae (T':=[(1,_),(2,_),(3,_)]) ⟨rfl,rfl,rfl,trivial⟩ ?_)
    refine zaw ?_
    refine zay (zaC rfl (zau rfl)) ?_
    rw [zqO g0 hc9 hno]
   ·have hyes:smS S i.toNat=true:=by unfold smS; rw [hc29]; rfl
    refine zaq ?_
    refine zaa ?_
    refine gk_y rfl rfl (zaf rfl) ?_
    refine gk_y rfl rfl (zaY rfl rfl (by omega) (by omega)) ?_
    refine gk_y rfl rfl (zad rfl) ?_
    refine zag (zae (T':=[(1,_),(2,_),(3,_)]) ⟨rfl,rfl,rfl,trivial⟩ ?_)
    exact za1 (i+1) ⟨rfl,rfl,rfl,trivial⟩ rfl ⟨by omega,by omega,zdu g0 g2 hyes⟩ (by omega)
  ·have hc9:=of_decide_eq_false hc9
   refine za8 rfl ?_
   refine zac ?_
   refine zac ?_
   refine zaa ?_
   refine gk_y rfl rfl (zad rfl) ?_
   refine zag (zae (T':=[(1,_),(2,_),(4,_)]) ⟨rfl,rfl,rfl,trivial⟩ ?_)
   refine zas ?_
   refine zbf (X:=Int) (fun(i:Int)=>[(1,.pointer (some ⟨b1,0,none⟩)),(2,.bool false),(4,.int .i64 i)]) (fun(i:Int)=>[Box b1 [.slice a S.length cap,.slice b V.length bcap] 25]) (fun(i:Int)=>(0≤i∧i≤V.length∧∀ j:Nat,(j:Int) < i→smW V j=true)) (fun(i:Int)=>(V.length - i).toNat) 0 ⟨rfl,rfl,rfl,trivial⟩ rfl ?_ ?_
   ·exact⟨by omega,by omega,fun j hj=>by omega⟩
   ·rintro i hI
    have gi2:=g2; have hgi:=hc9
    rename_i ii
    obtain⟨k0,k1,k2⟩:=hI
    refine zac ?_
    refine zac ?_
    refine zaa ?_
    refine gk_y rfl rfl (zaf rfl) ?_
    refine gk_y rfl rfl (zab zdT rfl) ?_
    refine gk_y rfl rfl (zah 0 tf23 rfl rfl rfl) ?_
    refine gk_y rfl rfl (zaV (Tryz.underlying23) rfl) ?_
    refine gk_y rfl rfl (zbw rfl rfl) ?_
    refine zag (zae (T':=[(1,_),(2,_),(4,_),(34,_)]) ⟨rfl,rfl,rfl,rfl,trivial⟩ ?_)
    refine zap rfl (fun hc34=>?_) (fun hc34=>?_)
    ·have hc34:=of_decide_eq_true hc34
     refine zaq ?_
     refine zac ?_
     refine zas ?_
     refine zac ?_
     refine zaa ?_
     refine gk_y rfl rfl (zab zdT rfl) ?_
     refine gk_y rfl rfl (zah 0 tf23 rfl rfl rfl) ?_
     refine gk_y rfl rfl (zaf rfl) ?_
     refine gk_y rfl rfl (zaE se23 rfl rfl (fun _ hw=>(Rd.has (Has.rd hlw) hw)) (by omega) (by omega)) ?_
     refine gk_y rfl rfl (zbh zgn rfl (fun w hw=>zaO (i:=i) (Rd.has (Has.rd hlw) hw) (by omega) (by omega))) ?_
     refine gk_y rfl rfl (zbn tf63 rfl (fun _ hw=>(Rd.has (Has.rd hlw) hw)) (by omega) (by omega) rfl) ?_
     refine gk_y rfl rfl (zaV (Tryz.underlying63) rfl) ?_
     refine gk_y rfl rfl (zc6 rfl rfl) ?_
     refine zag (zae (T':=[(1,_),(2,_),(4,_),(44,_)]) ⟨rfl,rfl,rfl,rfl,trivial⟩ ?_)
     refine zap rfl (fun hc44=>?_) (fun hc44=>?_)
     ·have hno:smW V i.toNat=false:=by unfold smW; rw [hc44]; rfl
      refine zac ?_
      refine zaa ?_
      refine gk_y rfl rfl (zad rfl) ?_
      refine zag (zae (T':=[(1,_),(2,_),(4,_)]) ⟨rfl,rfl,rfl,trivial⟩ ?_)
      refine zaw ?_
      refine zay (zaC rfl (zau rfl)) ?_
      rw [zqP k0 hc34 hno]
     ·have hyes:smW V i.toNat=true:=by unfold smW; rw [hc44]; rfl
      refine zaq ?_
      refine zaa ?_
      refine gk_y rfl rfl (zaf rfl) ?_
      refine gk_y rfl rfl (zaY rfl rfl (by omega) (by omega)) ?_
      refine gk_y rfl rfl (zad rfl) ?_
      refine zag (zae (T':=[(1,_),(2,_),(4,_)]) ⟨rfl,rfl,rfl,trivial⟩ ?_)
      exact za1 (i+1) ⟨rfl,rfl,rfl,trivial⟩ rfl ⟨by omega,by omega,zdu k0 k2 hyes⟩ (by omega)
    ·have hc34:=of_decide_eq_false hc34
     refine za8 rfl ?_
     refine zac ?_
     refine zbb 11 (fun _=>mixed) (by kernel_rfl) ?_
     refine ph_y (zab zd6 rfl) ?_
     refine ph_y (zah 0 tf22 rfl rfl rfl) ?_
     refine ph_y (zaV (Tryz.underlying22) rfl) ?_
     refine ph_y (zeT rfl rfl) ?_
     refine ph_y (zaf rfl) ?_
     refine zaH rfl rfl (fun hgd=>by(try rw [hgd]); exact(zab zdT rfl)) ?_
     refine zaH rfl rfl (fun hgd=>by(try rw [hgd]); exact(zah 0 tf23 rfl rfl rfl)) ?_
     refine zaH rfl rfl (fun hgd=>by(try rw [hgd]); exact(zaV (Tryz.underlying23) rfl)) ?_
     refine zaH rfl rfl (fun hgd=>by(try rw [hgd]); exact(zeT rfl rfl)) ?_
     refine ph_y (zaX rfl rfl rfl) ?_
     refine ph_y (zad rfl) ?_
     refine zag (zae (T':=[(2,_)]) ⟨rfl,trivial⟩ ?_)
     refine zaw ?_
     refine zay (zaC rfl (zau rfl)) ?_
     rw [zqN hc9 g2 hc34 k2]
end Go.Proofs.YtdcfcfhmkfkgmaaGreatDoor
namespace Go.K
open Go Go.RowKit
section
variable {α:Type} {enc:α→List Value} {k:Nat} {c:Cx} {ds:List Deferred} {T:List (Nat×Value)} {H:List Res} {d:Option Nat} {x y:Operand} {ty:TypeId} {ps:String} {af:Array Edge} {g:Option (Nat×Bool)}
theorem zoJ {t e:TypeId} {by_:Nat} {zs:List Value} {a2:Option Addr} {c2:Nat} {m:List α} (hf:AF c.P t e k by_ zs) (he:Enc k enc)
  (hx:evo T x=some (.slice none 0 0)) (hy:evo T y=some (.slice a2 m.length c2)) (hm:∀ w,Hp c.U c.w0 H w→Has w (zaW a2 k enc m))
  (hb:m.length*by_≤140737488355328) (hlm:m.length≤maxLen) :
  YX c ds H T ⟨d,.call ⟨.builtin .append,#[x,y],#[t,t]⟩,ty,ps,af,g⟩ (fun z:Option Addr×Nat=>.slice z.1 m.length z.2) (fun z=>Row z.1 k z.2 e enc m):=by
 by_cases h0:m.length=0
 ·obtain rfl:=List.eq_nil_of_length_eq_zero h0
  refine⟨fun A w hs _=>?_⟩
  unfold Yld
  rw [zcp («as»:=[x,y]) (vs:=[.slice none 0 0,.slice a2 0 c2]) (by simp [evs,hx,hy]) hs w]
  simp only [builtin]
  rw [zbu (ziA hf (Nat.le_refl 0))]
  exact⟨(none,0),rfl,Ext.rfl,fun _=>False,fun _ h=>h.elim,.inl ⟨rfl,rfl,rfl⟩⟩
 ·exact zlO (a:=none) (cap:=0) (l:=[]) hf he hx hy (fun _ _=>⟨fun _=>False,fun _ h=>h.elim,.inl ⟨rfl,rfl,rfl⟩⟩) hm (by simpa using hb) (by simpa using hlm) (by simp; omega)
end
end Go.K
namespace Go.Proofs.YtdcfcfhmkfkgmaaGreatDoor
open Go.K Go.Stn Go.Pln Go.RowKit
theorem zmF:TF Tryz.prog 124 false 1 (.slice none 0 0):=⟨by kernel_rfl,by kernel_rfl⟩
theorem zf0:FO Tryz.prog 161 0 0:=⟨by kernel_rfl⟩
theorem zqJ:SE Tryz.prog 124 9 1:=⟨Tryz.underlying124,by kernel_rfl⟩
theorem if33:IF Tryz.prog 33:=⟨_,Tryz.underlying33,fun _ h=>by cases h⟩
theorem en90:En Tryz.prog 90:=za7 Tryz.func90 (by kernel_rfl) (by kernel_rfl)
theorem en91:En Tryz.prog 91:=za7 Tryz.func91 (by kernel_rfl) (by kernel_rfl)
set_option maxRecDepth 100000 in
set_option maxHeartbeats 1000000 in
theorem zdk (k:Int) (w:World)  :
  Calls Tryz.prog 91 #[.int .i64 k] w ((fun e w'=>e=.panicked (thrC (errT 33 k))∧Ext w w')):=by
 refine zan (vs:=[_]) Tryz.func91 rfl rfl (Nat.le_of_ble_eq_true rfl) ?_
 refine zaa ?_
 refine gk_y rfl rfl (zaf rfl) ?_
 refine gk_y rfl rfl (zuZ if33 rfl) ?_
 refine zpQ rfl ?_
 exact zij fun w hw=>⟨rfl,hw.base.ext0⟩
set_option maxRecDepth 100000 in
set_option maxHeartbeats 1000000 in
theorem zli (r:Nat) (ws:List ByteArray) (w:World) (B:Nat→Prop) (hB:∀ k,B k→k < w.heap.size) (hA:(Rdr 161 r ws).A B w)  :
  Calls Tryz.prog 90 #[.pointer (some ⟨r,0,none⟩)] w (zej 33 (zdp ws) (fun x (_:Unit)=>.string x.1) (fun x _=>Rdr 161 r x.2) B w):=by
 refine zby hB hA (vs:=[_]) Tryz.func90 rfl rfl (Nat.le_of_ble_eq_true rfl) ?_
 refine zgV fun a1 c1 hc1=>?_
 refine zac ?_
 refine zaa ?_
 refine gk_y rfl rfl (zad rfl) ?_
 refine zag (zae (T':=[(0,_),(2,_)]) ⟨rfl,rfl,trivial⟩ ?_)
 refine zac ?_
 refine zac ?_
 refine zaa ?_
 refine gk_y rfl rfl (zaf rfl) ?_
 refine gk_y rfl rfl (zbx rfl) ?_
 refine gk_y rfl rfl (zab zf0 rfl) ?_
 refine gk_y rfl rfl (zah 0 zmF rfl rfl rfl) ?_
 refine gk_y rfl rfl (zaV (Tryz.underlying124) rfl) ?_
 refine gk_y rfl rfl (zbL rfl rfl) ?_
 refine zag (zae (T':=[(0,_),(2,_),(9,_)]) ⟨rfl,rfl,rfl,trivial⟩ ?_)
 refine zap rfl (fun hc9=>?_) (fun hc9=>?_)
 ·have h0:ws.length=0:=by have:=of_decide_eq_true hc9; omega
  refine zaa ?_
  refine zcg en91 rfl (fun w hw=>zdk _ w) ?_
  exact za6 (zrL h0)
 ·have h0:¬ ws.length=0:=by have:=of_decide_eq_false hc9; omega
  refine zaq ?_
  refine zac ?_
  refine zaa ?_
  refine gk_y rfl rfl (zaf rfl) ?_
  refine gk_y rfl rfl (zbx rfl) ?_
  refine gk_y rfl rfl (zab zf0 rfl) ?_
  refine gk_y rfl rfl (zah 0 zmF rfl rfl rfl) ?_
  refine gk_y rfl rfl (zaE zqJ rfl rfl (fun _ hw=>(hw.has (p:=1) rfl)) (by omega) (by omega)) ?_
  refine gk_y rfl rfl (zcE tf9 rfl (fun _ hw=>(hw.has (p:=1) rfl)) (by omega) (by omega) rfl) ?_
  refine gk_y rfl rfl (zad rfl) ?_
  refine zag (zae (T':=[(0,_),(2,_),(3,_)]) ⟨rfl,rfl,rfl,trivial⟩ ?_)
  refine zac ?_
  refine zaa ?_
  refine gk_y rfl rfl (zaf rfl) ?_
  refine gk_y rfl rfl (zaf rfl) ?_
  refine gk_y rfl rfl (zbx rfl) ?_
  refine gk_y rfl rfl (zab zf0 rfl) ?_
  refine gk_y rfl rfl (zah 0 zmF rfl rfl rfl) ?_
  refine gk_y rfl rfl (zg9 zqJ rfl rfl (by omega) (by omega)) ?_
  refine gk_y rfl rfl (zbx rfl) ?_
  refine gk_y rfl rfl (zab zf0 rfl) ?_
  refine zaA 0 zmF rfl rfl (vs:=[_]) rfl rfl rfl rfl rfl ?_
  refine zag (zae (T':=[(2,_),(3,_)]) ⟨rfl,rfl,trivial⟩ ?_)
  refine zac ?_
  refine zaa ?_
  refine gk_y rfl rfl (zaf rfl) ?_
  refine gk_y rfl rfl (zad rfl) ?_
  refine zag (zae (T':=[(2,_)]) ⟨rfl,trivial⟩ ?_)
  refine zaw ?_
  refine zoh hc1 (by omega) ?_
  exact zdm (ws.getD 0 default,ws.drop 1) () 0 (zaC rfl (zau rfl)) rfl rfl (zuj h0)
set_option maxRecDepth 100000 in
set_option maxHeartbeats 1000000 in
theorem zuG (r:Nat) (ws:List ByteArray) (u:ByteArray) (w:World) (B:Nat→Prop) (hB:∀ k,B k→k < w.heap.size) (hA:(Rdr 161 r ws).A B w)  :
  Calls Tryz.prog 132 #[.pointer (some ⟨r,0,none⟩),.string u] w (zej 33 (sayE u ws) (fun _x (_:Unit)=>.tuple #[]) (fun x _=>Rdr 161 r x.2) B w):=by
 refine zby hB hA (vs:=[_,_]) Tryz.func132 rfl rfl (Nat.le_of_ble_eq_true rfl) ?_
 refine zac ?_
 refine zaa ?_
 refine gk_y rfl rfl (zaf rfl) ?_
 refine zbZ (res:=zdp ws) 0 en90 rfl rfl rfl (fun w B hF=>zli r ws w B (fun k hk=>(hF.own k hk).2) hF.A) (fun k hk5=>?_) (fun x5 m5 hx5=>?_)
 ·
  exact za6 (by rw [sayE,hk5]; rfl)
 refine gk_y rfl rfl (zaf rfl) ?_
 refine gk_y rfl rfl (ziV rfl rfl) ?_
 refine zag (zae (T':=[(7,_)]) ⟨rfl,trivial⟩ ?_)
 refine zap rfl (fun hc7=>?_) (fun hc7=>?_)
 ·have h7:¬ (x5.1.toList == u.toList)=true:=by simpa using hc7
  refine zaa ?_
  refine zcg en91 rfl (fun w hw=>zdk _ w) ?_
  exact za6 (by rw [sayE,hx5,zak,if_neg h7])
 ·have h7:(x5.1.toList == u.toList)=true:=by simpa using hc7
  refine zaq ?_
  exact zdm ((),x5.2) () 0 (zcN rfl) rfl rfl (by rw [sayE,hx5,zak,if_pos h7])
set_option maxRecDepth 100000 in
set_option maxHeartbeats 1000000 in
theorem zqa (r:Nat) (ws:List ByteArray) (w:World) (B:Nat→Prop) (hB:∀ k,B k→k < w.heap.size) (hA:(Rdr 161 r ws).A B w)  :
  Calls Tryz.prog 113 #[.pointer (some ⟨r,0,none⟩)] w (zej 33 (zes ws) (fun x (_:Unit)=>.string x.1) (fun x _=>Rdr 161 r x.2) B w):=by
 refine zby hB hA (vs:=[_]) Tryz.func113 rfl rfl (Nat.le_of_ble_eq_true rfl) ?_
 refine zac ?_
 refine zaa ?_
 refine gk_y rfl rfl (zad rfl) ?_
 refine zag (zae (T':=[(0,_),(2,_)]) ⟨rfl,rfl,trivial⟩ ?_)
 refine zac ?_
 refine zaa ?_
 refine gk_y rfl rfl (zaf rfl) ?_
 refine zbZ (res:=zdp ws) 0 en90 rfl rfl rfl (fun w B hF=>zli r ws w B (fun k hk=>(hF.own k hk).2) hF.A) (fun k hk5=>?_) (fun x5 m5 hx5=>?_)
 ·
  exact za6 (by rw [zes,hk5]; rfl)
 refine gk_y rfl rfl (zad rfl) ?_
 refine zag (zae (T':=[(2,_),(3,_)]) ⟨rfl,rfl,trivial⟩ ?_)
 refine zac ?_
 refine zac ?_
 refine zaa ?_
 refine gk_y rfl rfl (zaf rfl) ?_
 refine gk_y rfl rfl (zaJ en55 rfl (fun w hw=>zmo _ w)) ?_
 refine gk_y rfl rfl (zbR rfl) ?_
 refine zag (zae (T':=[(2,_),(3,_),(8,_)]) ⟨rfl,rfl,rfl,trivial⟩ ?_)
 refine zap rfl (fun hc8=>?_) (fun hc8=>?_)
 ·have h8:¬ zgx x5.1=true:=by simpa using hc8
  refine zaa ?_
  refine zcg en91 rfl (fun w hw=>zdk _ w) ?_
  exact za6 (by rw [zes,hx5,zak,if_neg h8])
 ·have h8:zgx x5.1=true:=by simpa using hc8
  refine zaq ?_
  refine zac ?_
  refine zaa ?_
  refine gk_y rfl rfl (zaf rfl) ?_
  refine gk_y rfl rfl (zad rfl) ?_
  refine zag (zae (T':=[(2,_)]) ⟨rfl,trivial⟩ ?_)
  refine zaw ?_
  exact zdm (x5.1,x5.2) () 0 (zaC rfl (zau rfl)) rfl rfl (by rw [zes,hx5,zak,if_pos h8])
set_option maxRecDepth 100000 in
set_option maxHeartbeats 1000000 in
theorem ztK (r:Nat) (ws:List ByteArray) (w:World) (B:Nat→Prop) (hB:∀ k,B k→k < w.heap.size) (hA:(Rdr 161 r ws).A B w)  :
  Calls Tryz.prog 111 #[.pointer (some ⟨r,0,none⟩)] w (zej 33 (endE ws) (fun _x (_:Unit)=>.tuple #[]) (fun x _=>Rdr 161 r x.2) B w):=by
 refine zby hB hA (vs:=[_]) Tryz.func111 rfl rfl (Nat.le_of_ble_eq_true rfl) ?_
 refine zgV fun a1 c1 hc1=>?_
 refine zac ?_
 refine zaa ?_
 refine gk_y rfl rfl (zaf rfl) ?_
 refine gk_y rfl rfl (zbx rfl) ?_
 refine gk_y rfl rfl (zab zf0 rfl) ?_
 refine gk_y rfl rfl (zah 0 zmF rfl rfl rfl) ?_
 refine gk_y rfl rfl (zaV (Tryz.underlying124) rfl) ?_
 refine gk_y rfl rfl (zc6 rfl rfl) ?_
 refine zag (zae (T':=[(7,_)]) ⟨rfl,trivial⟩ ?_)
 refine zap rfl (fun hc7=>?_) (fun hc7=>?_)
 ·have h7:¬ ws.length=0:=by have:=of_decide_eq_true hc7; omega
  refine zaa ?_
  refine zcg en91 rfl (fun w hw=>zdk _ w) ?_
  exact za6 (if_neg h7)
 ·have h7:ws.length=0:=by have:=of_decide_eq_false hc7; omega
  refine zaq ?_
  refine zeH hc1 ?_
  exact zdm ((),ws) () 0 (zcN rfl) rfl rfl (if_pos h7)
end Go.Proofs.YtdcfcfhmkfkgmaaGreatDoor
namespace Go.Proofs
open Go.Shelf
def Tryz.lays145_ren:Go.Shelf.Ren:=⟨fun | 145=>86 | 220=>107 | 219=>127 | 217=>144 | 225=>145 | 224=>146 | 267=>147 | 266=>164 | 314=>165 | n=>n,fun | 9=>9 | 4=>4 | 59=>155 | 3=>3 | 5=>5 | 46=>90 | 146=>235 | 51=>234 | n=>n,fun | 1=>2 | n=>n⟩
theorem Tryz.lays145:Go.Proofs.Lays.n145 Tryz.prog Tryz.lays145_ren:={
 mixed:=by kernel_rfl
 f145:=Tryz.func86.trans (congrArg some (by kernel_rfl))
 f217:=Tryz.func144.trans (congrArg some (by kernel_rfl))
 f219:=Tryz.func127.trans (congrArg some (by kernel_rfl))
 f220:=Tryz.func107.trans (congrArg some (by kernel_rfl))
 f224:=Tryz.func146.trans (congrArg some (by kernel_rfl))
 f225:=Tryz.func145.trans (congrArg some (by kernel_rfl))
 f266:=Tryz.func164.trans (congrArg some (by kernel_rfl))
 f267:=Tryz.func147.trans (congrArg some (by kernel_rfl))
 f314:=Tryz.func165.trans (congrArg some (by kernel_rfl))
 t3:=Tryz.underlying3
 a3:=Tryz.isAgg3
 z3:=Tryz.sizeOf3
 v3:=Tryz.zeroValue3
 t4:=Tryz.underlying4
 a4:=Tryz.isAgg4
 z4:=Tryz.sizeOf4
 v4:=Tryz.zeroValue4
 t5:=Tryz.underlying5
 a5:=Tryz.isAgg5
 z5:=Tryz.sizeOf5
 v5:=Tryz.zeroValue5
 t9:=Tryz.underlying9
 a9:=Tryz.isAgg9
 z9:=Tryz.sizeOf9
 v9:=Tryz.zeroValue9
 t46:=Tryz.underlying90
 a46:=Tryz.isAgg90
 z46:=Tryz.sizeOf90
 v46:=Tryz.zeroValue90
 t51:=Tryz.underlying234
 a51:=Tryz.isAgg234
 z51:=Tryz.sizeOf234
 v51:=Tryz.zeroValue234
 t59:=Tryz.underlying155
 a59:=Tryz.isAgg155
 z59:=Tryz.sizeOf155
 v59:=Tryz.zeroValue155
 t146:=Tryz.underlying235
 a146:=Tryz.isAgg235
 z146:=Tryz.sizeOf235
 v146:=Tryz.zeroValue235
 g1:=by kernel_rfl }
def Tryz.lays146_ren:Go.Shelf.Ren:=⟨fun | 146=>88 | 221=>108 | 268=>128 | 138=>129 | 143=>130 | 195=>148 | 197=>149 | 218=>150 | 219=>127 | 260=>166 | 217=>144 | 225=>145 | 224=>146 | 267=>147 | 266=>164 | 314=>165 | n=>n,fun | 9=>9 | 31=>124 | 3=>3 | 4=>4 | 0=>0 | 105=>220 | 21=>21 | 5=>5 | 46=>90 | 119=>249 | 139=>252 | 138=>251 | 146=>235 | 51=>234 | n=>n,fun | 1=>2 | 3=>4 | 4=>5 | n=>n⟩
theorem Tryz.lays146:Go.Proofs.Lays.n146 Tryz.prog Tryz.lays146_ren:={
 mixed:=by kernel_rfl
 f138:=Tryz.func129.trans (congrArg some (by kernel_rfl))
 f143:=Tryz.func130.trans (congrArg some (by kernel_rfl))
 f146:=Tryz.func88.trans (congrArg some (by kernel_rfl))
 f195:=Tryz.func148.trans (congrArg some (by kernel_rfl))
 f197:=Tryz.func149.trans (congrArg some (by kernel_rfl))
 f217:=Tryz.func144.trans (congrArg some (by kernel_rfl))
 f218:=Tryz.func150.trans (congrArg some (by kernel_rfl))
 f219:=Tryz.func127.trans (congrArg some (by kernel_rfl))
 f221:=Tryz.func108.trans (congrArg some (by kernel_rfl))
 f224:=Tryz.func146.trans (congrArg some (by kernel_rfl))
 f225:=Tryz.func145.trans (congrArg some (by kernel_rfl))
 f260:=Tryz.func166.trans (congrArg some (by kernel_rfl))
 f266:=Tryz.func164.trans (congrArg some (by kernel_rfl))
 f267:=Tryz.func147.trans (congrArg some (by kernel_rfl))
 f268:=Tryz.func128.trans (congrArg some (by kernel_rfl))
 f314:=Tryz.func165.trans (congrArg some (by kernel_rfl))
 t0:=Tryz.underlying0
 a0:=Tryz.isAgg0
 z0:=Tryz.sizeOf0
 v0:=Tryz.zeroValue0
 t3:=Tryz.underlying3
 a3:=Tryz.isAgg3
 z3:=Tryz.sizeOf3
 v3:=Tryz.zeroValue3
 t4:=Tryz.underlying4
 a4:=Tryz.isAgg4
 z4:=Tryz.sizeOf4
 v4:=Tryz.zeroValue4
 t5:=Tryz.underlying5
 a5:=Tryz.isAgg5
 z5:=Tryz.sizeOf5
 v5:=Tryz.zeroValue5
 t9:=Tryz.underlying9
 a9:=Tryz.isAgg9
 z9:=Tryz.sizeOf9
 v9:=Tryz.zeroValue9
 t21:=Tryz.underlying21
 a21:=Tryz.isAgg21
 z21:=Tryz.sizeOf21
 v21:=Tryz.zeroValue21
 t31:=Tryz.underlying124
 a31:=Tryz.isAgg124
 z31:=Tryz.sizeOf124
 v31:=Tryz.zeroValue124
 t46:=Tryz.underlying90
 a46:=Tryz.isAgg90
 z46:=Tryz.sizeOf90
 v46:=Tryz.zeroValue90
 t51:=Tryz.underlying234
 a51:=Tryz.isAgg234
 z51:=Tryz.sizeOf234
 v51:=Tryz.zeroValue234
 t105:=Tryz.underlying220
 a105:=Tryz.isAgg220
 z105:=Tryz.sizeOf220
 v105:=Tryz.zeroValue220
 t119:=Tryz.underlying249
 a119:=Tryz.isAgg249
 z119:=Tryz.sizeOf249
 t138:=Tryz.underlying251
 a138:=Tryz.isAgg251
 z138:=Tryz.sizeOf251
 v138:=Tryz.zeroValue251
 t139:=Tryz.underlying252
 a139:=Tryz.isAgg252
 z139:=Tryz.sizeOf252
 v139:=Tryz.zeroValue252
 t146:=Tryz.underlying235
 a146:=Tryz.isAgg235
 z146:=Tryz.sizeOf235
 v146:=Tryz.zeroValue235
 g1:=by kernel_rfl
 g3:=by kernel_rfl
 g4:=by kernel_rfl }
def Tryz.laysC172_ren:Go.Shelf.Ren:=⟨fun | 172=>134 | 244=>152 | 245=>153 | 247=>167 | 279=>168 | 280=>169 | 281=>170 | 282=>171 | 287=>180 | 316=>181 | 171=>102 | 205=>182 | 321=>194 | 322=>195 | 243=>122 | 246=>141 | 283=>158 | 284=>159 | 285=>160 | 286=>161 | 129=>176 | 317=>175 | 318=>177 | 319=>178 | 320=>179 | 337=>192 | 338=>193 | n=>n,fun | 9=>9 | 3=>3 | 75=>200 | 76=>201 | 4=>4 | 5=>5 | 167=>237 | 37=>195 | 0=>0 | 85=>238 | 2=>2 | 168=>240 | 53=>226 | 175=>253 | 46=>90 | 210=>257 | 127=>218 | 145=>270 | 143=>268 | 21=>21 | 171=>225 | 173=>229 | 212=>247 | 51=>234 | 20=>20 | 213=>248 | 232=>276 | 233=>277 | 80=>104 | n=>n,fun | 15=>6 | 16=>7 | 17=>3 | 18=>8 | 19=>9 | n=>n⟩
theorem Tryz.laysC172:Go.Proofs.LaysC.n172 Tryz.prog Tryz.laysC172_ren:={
 mixed:=by kernel_rfl
 f129:=Tryz.func176.trans (congrArg some (by kernel_rfl))
 f171:=Tryz.func102.trans (congrArg some (by kernel_rfl))
 f172:=Tryz.func134.trans (congrArg some (by kernel_rfl))
 f205:=Tryz.func182.trans (congrArg some (by kernel_rfl))
 f243:=Tryz.func122.trans (congrArg some (by kernel_rfl))
 f244:=Tryz.func152.trans (congrArg some (by kernel_rfl))
 f245:=Tryz.func153.trans (congrArg some (by kernel_rfl))
 f246:=Tryz.func141.trans (congrArg some (by kernel_rfl))
 f247:=Tryz.func167.trans (congrArg some (by kernel_rfl))
 f279:=Tryz.func168.trans (congrArg some (by kernel_rfl))
 f280:=Tryz.func169.trans (congrArg some (by kernel_rfl))
 f281:=Tryz.func170.trans (congrArg some (by kernel_rfl))
 f282:=Tryz.func171.trans (congrArg some (by kernel_rfl))
 f283:=Tryz.func158.trans (congrArg some (by kernel_rfl))
 f284:=Tryz.func159.trans (congrArg some (by kernel_rfl))
 f285:=Tryz.func160.trans (congrArg some (by kernel_rfl))
 f286:=Tryz.func161.trans (congrArg some (by kernel_rfl))
 f287:=Tryz.func180.trans (congrArg some (by kernel_rfl))
 f316:=Tryz.func181.trans (congrArg some (by kernel_rfl))
 f317:=Tryz.func175.trans (congrArg some (by kernel_rfl))
 f318:=Tryz.func177.trans (congrArg some (by kernel_rfl))
 f319:=Tryz.func178.trans (congrArg some (by kernel_rfl))
 f320:=Tryz.func179.trans (congrArg some (by kernel_rfl))
 f321:=Tryz.func194.trans (congrArg some (by kernel_rfl))
 f322:=Tryz.func195.trans (congrArg some (by kernel_rfl))
 f337:=Tryz.func192.trans (congrArg some (by kernel_rfl))
 f338:=Tryz.func193.trans (congrArg some (by kernel_rfl))
 t0:=Tryz.underlying0
 a0:=Tryz.isAgg0
 z0:=Tryz.sizeOf0
 v0:=Tryz.zeroValue0
 t2:=Tryz.underlying2
 a2:=Tryz.isAgg2
 z2:=Tryz.sizeOf2
 v2:=Tryz.zeroValue2
 t3:=Tryz.underlying3
 a3:=Tryz.isAgg3
 z3:=Tryz.sizeOf3
 v3:=Tryz.zeroValue3
 t4:=Tryz.underlying4
 a4:=Tryz.isAgg4
 z4:=Tryz.sizeOf4
 v4:=Tryz.zeroValue4
 t5:=Tryz.underlying5
 a5:=Tryz.isAgg5
 z5:=Tryz.sizeOf5
 v5:=Tryz.zeroValue5
 t9:=Tryz.underlying9
 a9:=Tryz.isAgg9
 z9:=Tryz.sizeOf9
 v9:=Tryz.zeroValue9
 t20:=Tryz.underlying20
 a20:=Tryz.isAgg20
 z20:=Tryz.sizeOf20
 v20:=Tryz.zeroValue20
 t21:=Tryz.underlying21
 a21:=Tryz.isAgg21
 z21:=Tryz.sizeOf21
 v21:=Tryz.zeroValue21
 t37:=Tryz.underlying195
 a37:=Tryz.isAgg195
 z37:=Tryz.sizeOf195
 v37:=Tryz.zeroValue195
 t46:=Tryz.underlying90
 a46:=Tryz.isAgg90
 z46:=Tryz.sizeOf90
 v46:=Tryz.zeroValue90
 t51:=Tryz.underlying234
 a51:=Tryz.isAgg234
 z51:=Tryz.sizeOf234
 v51:=Tryz.zeroValue234
 t53:=Tryz.underlying226
 a53:=Tryz.isAgg226
 z53:=Tryz.sizeOf226
 v53:=Tryz.zeroValue226
 t75:=Tryz.underlying200
 a75:=Tryz.isAgg200
 z75:=Tryz.sizeOf200
 v75:=Tryz.zeroValue200
 t76:=Tryz.underlying201
 a76:=Tryz.isAgg201
 z76:=Tryz.sizeOf201
 v76:=Tryz.zeroValue201
 t85:=Tryz.underlying238
 a85:=Tryz.isAgg238
 z85:=Tryz.sizeOf238
 v85:=Tryz.zeroValue238
 t127:=Tryz.underlying218
 a127:=Tryz.isAgg218
 z127:=Tryz.sizeOf218
 v127:=Tryz.zeroValue218
 t143:=Tryz.underlying268
 a143:=Tryz.isAgg268
 z143:=Tryz.sizeOf268
 v143:=Tryz.zeroValue268
 t145:=Tryz.underlying270
 a145:=Tryz.isAgg270
 z145:=Tryz.sizeOf270
 v145:=Tryz.zeroValue270
 t167:=Tryz.underlying237
 a167:=Tryz.isAgg237
 z167:=Tryz.sizeOf237
 v167:=Tryz.zeroValue237
 t168:=Tryz.underlying240
 a168:=Tryz.isAgg240
 z168:=Tryz.sizeOf240
 v168:=Tryz.zeroValue240
 t171:=Tryz.underlying225
 a171:=Tryz.isAgg225
 z171:=Tryz.sizeOf225
 v171:=Tryz.zeroValue225
 t173:=Tryz.underlying229
 a173:=Tryz.isAgg229
 z173:=Tryz.sizeOf229
 v173:=Tryz.zeroValue229
 t175:=Tryz.underlying253
 a175:=Tryz.isAgg253
 z175:=Tryz.sizeOf253
 v175:=Tryz.zeroValue253
 t210:=Tryz.underlying257
 a210:=Tryz.isAgg257
 z210:=Tryz.sizeOf257
 v210:=Tryz.zeroValue257
 t212:=Tryz.underlying247
 a212:=Tryz.isAgg247
 z212:=Tryz.sizeOf247
 v212:=Tryz.zeroValue247
 t213:=Tryz.underlying248
 a213:=Tryz.isAgg248
 z213:=Tryz.sizeOf248
 t232:=Tryz.underlying276
 a232:=Tryz.isAgg276
 z232:=Tryz.sizeOf276
 v232:=Tryz.zeroValue276
 t233:=Tryz.underlying277
 a233:=Tryz.isAgg277
 z233:=Tryz.sizeOf277
 v233:=Tryz.zeroValue277
 g15:=by kernel_rfl
 g16:=by kernel_rfl
 g17:=by kernel_rfl
 g18:=by kernel_rfl
 g19:=by kernel_rfl
 t80:=Tryz.underlying104
 a80:=Tryz.isAgg104
 z80:=Tryz.sizeOf104
 v80:=Tryz.zeroValue104
 i0:=by kernel_rfl
 i2:=by kernel_rfl
 i3:=by kernel_rfl
 i4:=by kernel_rfl
 i5:=by kernel_rfl
 i9:=by kernel_rfl
 i20:=by kernel_rfl
 i21:=by kernel_rfl
 i37:=by kernel_rfl
 i46:=by kernel_rfl
 i51:=by kernel_rfl
 i53:=by kernel_rfl
 i75:=by kernel_rfl
 i76:=by kernel_rfl
 i80:=by kernel_rfl
 i85:=by kernel_rfl
 i127:=by kernel_rfl
 i143:=by kernel_rfl
 i145:=by kernel_rfl
 i167:=by kernel_rfl
 i168:=by kernel_rfl
 i171:=by kernel_rfl
 i173:=by kernel_rfl
 i175:=by kernel_rfl
 i210:=by kernel_rfl
 i212:=by kernel_rfl
 i232:=by kernel_rfl
 i233:=by kernel_rfl
 m15:=by kernel_rfl
 m16:=by kernel_rfl
 m17:=by kernel_rfl
 m18:=by kernel_rfl
 m19:=by kernel_rfl
 c0:=by kernel_rfl
 c2:=by kernel_rfl
 c3:=by kernel_rfl
 c4:=by kernel_rfl
 c5:=by kernel_rfl
 c9:=by kernel_rfl
 c20:=by kernel_rfl
 c21:=by kernel_rfl
 c37:=by kernel_rfl
 c46:=by kernel_rfl
 c51:=by kernel_rfl
 c53:=by kernel_rfl
 c75:=by kernel_rfl
 c76:=by kernel_rfl
 c80:=by kernel_rfl
 c85:=by kernel_rfl
 c127:=by kernel_rfl
 c143:=by kernel_rfl
 c145:=by kernel_rfl
 c167:=by kernel_rfl
 c168:=by kernel_rfl
 c171:=by kernel_rfl
 c173:=by kernel_rfl
 c175:=by kernel_rfl
 c210:=by kernel_rfl
 c212:=by kernel_rfl
 c213:=by kernel_rfl
 c232:=by kernel_rfl
 c233:=by kernel_rfl }
end Go.Proofs
namespace Go.Proofs.YtdcfcfhmkfkgmaaGreatDoor
open Go.K Go.Stn Go.Pln Go.RowKit
theorem zxd:En Tryz.prog 135:=za7 Tryz.func135 (by kernel_rfl) (by kernel_rfl)
theorem zxi:En Tryz.prog 151:=za7 Tryz.func151 (by kernel_rfl) (by kernel_rfl)
theorem zww (s sep:ByteArray) (w:World) (hs:s.size < 4294967281) (hm:Has w (IntV 2)):Calls Tryz.prog 86 #[.string s,.string sep] w (Pure (cutV s sep) w):=zrk Tryz.lays145 s sep w hs hm
theorem zuJ (s:ByteArray) (c:UInt8) (w:World) (hs:s.size < 4294967281) (hm:Has w (IntV 2)):Calls Tryz.prog 88 #[.string s,.string ⟨#[c]⟩] w (zcU (fun b:Nat=>.slice (some ⟨b,0,none⟩) (zcn s c).length (zcn s c).length) (fun b=>Row (some ⟨b,0,none⟩) 1 (zcn s c).length 9 encS (zcn s c)) w):=zmD Tryz.lays146 (by kernel_rfl) s c w hs hm
theorem zu3 (s:ByteArray) (w:World) (h:numW s=true):Calls Tryz.prog 134 #[.string s] w (Pure (.tuple #[.int .i64 (zdO s),.nilIface]) w):=by
 have hs:=zrP h
 refine(Go.Proofs.Any.strconv_Atoi_ok Tryz.laysC172 s (by omega) (zdO s) (zoV h).1 w).mono ?_
 rintro e w' ⟨rfl,hw⟩
 refine⟨rfl,?_⟩
 rcases hw with rfl | ⟨t,rfl⟩
 ·exact Ext.rfl
 ·exact ziY _ _ _
set_option maxRecDepth 100000 in
set_option maxHeartbeats 1000000 in
theorem zoj (s:ByteArray) (w:World)  :
  Calls Tryz.prog 133 #[.string s] w (Pure (.bool (numW s)) w):=by
 refine zan (vs:=[_]) Tryz.func133 rfl rfl (Nat.le_of_ble_eq_true rfl) ?_
 refine zac ?_
 refine zaa ?_
 refine gk_y rfl rfl (zad rfl) ?_
 refine zag (zae (T':=[(0,_),(2,_)]) ⟨rfl,rfl,trivial⟩ ?_)
 refine zac ?_
 refine zaa ?_
 refine gk_y rfl rfl (zad rfl) ?_
 refine zag (zae (T':=[(0,_),(2,_),(3,_)]) ⟨rfl,rfl,rfl,trivial⟩ ?_)
 refine zac ?_
 refine zbb 23 (fun _=>mixed) (by kernel_rfl) ?_
 refine ph_y (zaf rfl) ?_
 refine ph_y (ziV rfl rfl) ?_
 refine ph_y (zaf rfl) ?_
 refine zaH rfl rfl (fun hgd=>by(try rw [hgd]); (try have hgd2:=zcZ hgd); exact(zaf rfl)) ?_
 refine zaH rfl rfl (fun hgd=>by(try rw [hgd]); (try have hgd2:=zcZ hgd); exact(zeO (Tryz.underlying9) rfl)) ?_
 refine zaH rfl rfl (fun hgd=>by(try rw [hgd]); (try have hgd2:=zcZ hgd); exact(zeT rfl rfl)) ?_
 refine ph_y (zaX rfl rfl rfl) ?_
 refine ph_y (zaf rfl) ?_
 refine zaH rfl rfl (fun hgd=>by(try rw [hgd]); (try have hgd2:=zcZ hgd); exact(zaf rfl)) ?_
 refine zaH rfl rfl (fun hgd=>by(try rw [hgd]); (try have hgd2:=zcZ hgd); exact(zaf rfl)) ?_
 refine zaH rfl rfl (fun hgd=>by(try rw [hgd]); (try have hgd2:=zcZ hgd); exact(zaJ (v:=.bool (decide (0≤zcj oddN s 0))) en83 rfl (fun w hw=>ziD s oddN _ [] w (fun _=>True) (fun _ _=>trivial) zxi (fun r w _=>zmg r w)))) ?_
 refine zaH rfl rfl (fun hgd=>by(try rw [hgd]); (try have hgd2:=zcZ hgd); exact(zbR rfl)) ?_
 refine ph_y (zaX rfl rfl rfl) ?_
 refine ph_y (zaf rfl) ?_
 refine zaH rfl rfl (fun hgd=>by(try rw [hgd]); (try have hgd2:=zcZ hgd); exact(zaf rfl)) ?_
 refine zaH rfl rfl (fun hgd=>by(try rw [hgd]); (try have hgd2:=zcZ hgd); exact(zdM (Tryz.underlying9) rfl rfl (by omega) (by omega))) ?_
 refine zaH rfl rfl (fun hgd=>by(try rw [hgd]); (try have hgd2:=zcZ hgd); exact(zcr rfl rfl)) ?_
 refine zaH rfl rfl (fun hgd=>by(try rw [hgd]); (try have hgd2:=zcZ hgd); exact(zaf rfl)) ?_
 refine zc0 rfl rfl (fun hgd=>by(try rw [hgd]); (try have hgd2:=zcZ hgd); exact(zaf rfl)) ?_
 refine zc0 rfl rfl (fun hgd=>by(try rw [hgd]); (try have hgd2:=zcZ hgd); exact(zge rfl rfl)) ?_
 refine zaH rfl rfl (fun hgd=>by(try rw [hgd]); (try have hgd2:=zcZ hgd); exact(zaR rfl rfl rfl)) ?_
 refine ph_y (zaX rfl rfl rfl) ?_
 refine ph_y (zad rfl) ?_
 refine zag (zae (T':=[(2,_)]) ⟨rfl,trivial⟩ ?_)
 refine zaw ?_
 refine zay (zaC rfl (zau rfl)) ?_
 rfl
set_option maxRecDepth 100000 in
set_option maxHeartbeats 1000000 in
theorem zt5 (a:Option Addr) (cap:Nat) (l:List ByteArray) (v:ByteArray) (w:World) (hl:Has w (zaW a 1 encS l)) (hs:zaP l.length) :
  Calls Tryz.prog 135 #[.slice a l.length cap,.string v] w (Pure (.int .i64 (zbJ (fun y=>v.toList == y.toList) l)) w):=by
 refine zan (vs:=[_,_]) Tryz.func135 rfl rfl (Nat.le_of_ble_eq_true rfl) ?_
 refine zac ?_
 refine zaa ?_
 refine gk_y rfl rfl (zad rfl) ?_
 refine zag (zae (T':=[(0,_),(1,_),(4,_)]) ⟨rfl,rfl,rfl,trivial⟩ ?_)
 refine zac ?_
 refine zac ?_
 refine zaa ?_
 refine gk_y rfl rfl (zaf rfl) ?_
 refine gk_y rfl rfl (zaV (Tryz.underlying124) rfl) ?_
 refine gk_y rfl rfl (zaf rfl) ?_
 refine zag (zae (T':=[(0,_),(1,_),(4,_),(7,_),(8,_)]) ⟨rfl,rfl,rfl,rfl,rfl,trivial⟩ ?_)
 refine zas ?_
 refine zbf (X:=Int) (fun(i:Int)=>[(0,.slice a l.length cap),(1,.string v),(4,.int .i64 0),(7,.int .i64 (l.length:Int)),(8,.int .i64 i)]) (fun(i:Int)=>[]) (fun(i:Int)=>(0≤i∧i≤l.length∧∀ j:Nat,(j:Int) < i→(v.toList == (l.getD j default).toList)=false)) (fun(i:Int)=>(l.length - i).toNat) 0 ⟨rfl,rfl,rfl,rfl,rfl,trivial⟩ rfl ?_ ?_
 ·exact⟨by omega,by omega,fun j hj=>by omega⟩
 ·rintro i hI
  obtain⟨g0,g1,g2⟩:=hI
  refine zac ?_
  refine zaa ?_
  refine gk_y rfl rfl (zbw rfl rfl) ?_
  refine zag (zae (T':=[(0,_),(1,_),(4,_),(7,_),(8,_),(9,_)]) ⟨rfl,rfl,rfl,rfl,rfl,rfl,trivial⟩ ?_)
  refine zac ?_
  refine zap rfl (fun hc9=>?_) (fun hc9=>?_)
  ·simp only [decide_eq_true_eq] at hc9
   refine zaq ?_
   refine zac ?_
   refine zas ?_
   refine zac ?_
   refine zaa ?_
   refine gk_y rfl rfl (zaf rfl) ?_
   refine gk_y rfl rfl (zad rfl) ?_
   refine zag (zae (T':=[(0,_),(1,_),(4,_),(5,_),(7,_),(8,_)]) ⟨rfl,rfl,rfl,rfl,rfl,rfl,trivial⟩ ?_)
   refine zac ?_
   refine zaa ?_
   refine gk_y rfl rfl (zaf rfl) ?_
   refine gk_y rfl rfl (zaf rfl) ?_
   refine gk_y rfl rfl (zaf rfl) ?_
   refine gk_y rfl rfl (zaE zqJ rfl rfl (fun _ hw=>(Rd.has (Has.rd hl) hw)) (by omega) (by omega)) ?_
   refine gk_y rfl rfl (zcE tf9 rfl (fun _ hw=>(Rd.has (Has.rd hl) hw)) (by omega) (by omega) rfl) ?_
   refine gk_y rfl rfl (zge rfl rfl) ?_
   refine zag (zae (T':=[(0,_),(1,_),(4,_),(5,_),(7,_),(8,_),(16,_)]) ⟨rfl,rfl,rfl,rfl,rfl,rfl,rfl,trivial⟩ ?_)
   refine zap rfl (fun hc16=>?_) (fun hc16=>?_)
   ·
    refine zac ?_
    refine zaa ?_
    refine gk_y rfl rfl (zaf rfl) ?_
    refine gk_y rfl rfl (zad rfl) ?_
    refine zag (zae (T':=[(0,_),(1,_),(4,_),(7,_),(8,_)]) ⟨rfl,rfl,rfl,rfl,rfl,trivial⟩ ?_)
    refine zaw ?_
    refine zay (zaC rfl (zau rfl)) ?_
    exact congrArg (fun x=>Value.int .i64 x) (zcs (p:=fun y:ByteArray=>v.toList == y.toList) g0 (by omega) g2 hc16).symm
   ·
    refine zaq ?_
    refine zaa ?_
    refine gk_y rfl rfl (zaY rfl rfl (by omega) (by omega)) ?_
    refine gk_y rfl rfl (zaf rfl) ?_
    refine zag (zae (T':=[(0,_),(1,_),(4,_),(7,_),(8,_)]) ⟨rfl,rfl,rfl,rfl,rfl,trivial⟩ ?_)
    exact za1 _ ⟨rfl,rfl,rfl,rfl,rfl,trivial⟩ rfl ⟨by omega,by omega,fun j hj=>if h:(j:Int) < i then g2 j h else(by rw [show j=i.toNat from by omega]; exact hc16)⟩ (by omega)
  ·simp only [decide_eq_false_iff_not] at hc9
   refine za8 rfl ?_
   refine zac ?_
   refine zaa ?_
   refine gk_y rfl rfl (zad rfl) ?_
   refine zag (zae (T':=[(4,_)]) ⟨rfl,trivial⟩ ?_)
   refine zaw ?_
   refine zay (zaC rfl (zau rfl)) ?_
   exact congrArg (fun x=>Value.int .i64 x) (zck (p:=fun y:ByteArray=>v.toList == y.toList) (fun j hj=>g2 j (by omega))).symm
set_option maxRecDepth 100000 in
set_option maxHeartbeats 1000000 in
theorem zsX (r:Nat) (ws:List ByteArray) (a:Option Addr) (cap:Nat) (l:List ByteArray) (f:Nat) (w:World) (B:Nat→Prop) (hB:∀ k,B k→k < w.heap.size) (hA:(Rdr 161 r ws).A B w) (hl:Rd (fun k=>k < w.heap.size∧¬ B k) w (zaW a 1 encS l)) (hs:l.length≤200) (hcap:l.length≤cap) (hf:f≤l.length) :
  Calls Tryz.prog 116 #[.pointer (some ⟨r,0,none⟩),.slice a l.length cap,.int .i64 (f:Int)] w (zej 33 (zfk l f ws) (fun x (_:Unit)=>.int .u8 x.1) (fun x _=>Rdr 161 r x.2) B w):=by
 refine zby hB hA (vs:=[_,_,_]) Tryz.func116 rfl rfl (Nat.le_of_ble_eq_true rfl) ?_
 refine zac ?_
 refine zaa ?_
 refine gk_y rfl rfl (zad rfl) ?_
 refine zag (zae (T':=[(0,_),(1,_),(2,_),(6,_)]) ⟨rfl,rfl,rfl,rfl,trivial⟩ ?_)
 refine zac ?_
 refine zjX (Z:={ z:(ByteArray×List ByteArray)×Unit // zdp ws=.ok z.1 }) (V:=fun z=>.string z.1.1.1) (R':=fun z=>Rdr 161 r z.1.1.2) (Bad:=fun ch=>∃ k,zdp ws=.error k∧ch=thrC (errT 33 k)) 4 [0,1,2] 0 12 (fun _=>mixed) rfl rfl (by kernel_rfl) rfl ?_ rfl ?_
 ·rintro _ ⟨k,hk12,rfl⟩
  exact za6 (by rw [zfk,hk12]; rfl)
 refine zcf (zaf rfl) ?_
 refine zcf (zaf rfl) ?_
 refine zcf (zg9 zqJ rfl rfl (by omega) (by omega)) ?_
 refine zcf (zaf rfl) ?_
 refine⟨(zrf (M:=Unit) (te:=33) (res:=zdp ws) (V:=fun x _=>.string x.1) (J:=fun x _=>Rdr 161 r x.2) en90 rfl (fun w B hB hA=>zli r ws w B hB hA)),?_⟩
 rintro ⟨⟨x12,m12⟩,hx12⟩
 replace hx12:zdp ws=.ok x12:=hx12
 refine zae (T':=[(2,_),(6,_),(10,_),(12,_)]) ⟨rfl,rfl,rfl,rfl,trivial⟩ ?_
 refine gk_y rfl rfl (zaJ zxd rfl (fun w hw=>zt5 _ _ _ x12.1 w (zoc (Rd.has hl hw) hcap (by omega)) (by rw [List.length_drop]; unfold zaP; omega))) ?_
 refine gk_y rfl rfl (zad rfl) ?_
 refine zag (zae (T':=[(2,_),(6,_),(7,_)]) ⟨rfl,rfl,rfl,trivial⟩ ?_)
 refine zac ?_
 refine zac ?_
 refine zaa ?_
 refine gk_y rfl rfl (zaf rfl) ?_
 refine gk_y rfl rfl (zbw rfl rfl) ?_
 refine zag (zae (T':=[(2,_),(6,_),(7,_),(15,_)]) ⟨rfl,rfl,rfl,rfl,trivial⟩ ?_)
 refine zap rfl (fun hc15=>?_) (fun hc15=>?_)
 ·have h15:=of_decide_eq_true hc15
  refine zaa ?_
  refine zcg en91 rfl (fun w hw=>zdk _ w) ?_
  exact za6 (by rw [zfk,hx12,zak]; exact if_pos h15)
 ·have h15:=of_decide_eq_false hc15
  have hlt:=findI_lt (fun y=>x12.1.toList == y.toList) (l.drop (f:Int).toNat)
  rw [List.length_drop] at hlt
  refine zaq ?_
  refine zac ?_
  refine zaa ?_
  refine gk_y rfl rfl (zaf rfl) ?_
  refine gk_y rfl rfl (zaf rfl) ?_
  refine gk_y rfl rfl (zaY rfl rfl (by omega) (by omega)) ?_
  refine gk_y rfl rfl (ziU (by kernel_rfl) (Tryz.underlying5) rfl) ?_
  refine gk_y rfl rfl (zad rfl) ?_
  refine zag (zae (T':=[(6,_)]) ⟨rfl,trivial⟩ ?_)
  refine zaw ?_
  exact zdm ((zbJ (fun y=>x12.1.toList == y.toList) (l.drop (f:Int).toNat))+f,x12.2) () 0 (zaC rfl (zau rfl)) (congrArg (fun x=>Value.int .u8 x) (zwr (n:=(zbJ (fun y=>x12.1.toList == y.toList) (l.drop (f:Int).toNat))+(f:Int)) (by omega) (by omega))) rfl (by rw [zfk,hx12,zak]; exact if_neg h15)
end Go.Proofs.YtdcfcfhmkfkgmaaGreatDoor
namespace Go.Proofs.YtdcfcfhmkfkgmaaGreatDoor
open Go.K Go.Stn Go.Pln Go.RowKit
theorem zi1:TF Tryz.prog 158 false 1 (.pointer none):=⟨by kernel_rfl,by kernel_rfl⟩
theorem zxE:TF Tryz.prog 186 false 1 (.pointer none):=⟨by kernel_rfl,by kernel_rfl⟩
theorem zxx:SE Tryz.prog 206 186 1:=⟨Tryz.underlying206,by kernel_rfl⟩
theorem zpl:En Tryz.prog 114:=za7 Tryz.func114 (by kernel_rfl) (by kernel_rfl)
theorem ztI:En Tryz.prog 132:=za7 Tryz.func132 (by kernel_rfl) (by kernel_rfl)
theorem zxb:En Tryz.prog 133:=za7 Tryz.func133 (by kernel_rfl) (by kernel_rfl)
theorem zxc:En Tryz.prog 134:=za7 Tryz.func134 (by kernel_rfl) (by kernel_rfl)
theorem zpK {l:List Nat} {i:Nat} (h:i < l.length):l.getD i 0∈l:=by simp [h]
set_option maxRecDepth 100000 in
set_option maxHeartbeats 1000000 in
theorem zfl (r:Nat) (ws:List ByteArray) (b:Nat) (cs:List Value) (t:TypeId) (os:List Nat) (ps:List (Nat×Nat)) (a:Option Addr) (cap:Nat) (w:World) (B:Nat→Prop) (hB:∀ k,B k→k < w.heap.size) (hA:(SepR [Rdr 161 r ws,Box b cs t]).A B w) (hl:Rd (fun k=>k < w.heap.size∧¬ B k) w (zaW a 1 zhZ ps)) (hps:ps=os.map (fun o=>(b,o))) (ho:∀ o∈os,o < cs.length) (hs:zaP ps.length) :
  Calls Tryz.prog 114 #[.pointer (some ⟨r,0,none⟩),.slice a ps.length cap] w (zej 33 (zco os.length ws) (fun _x (_:Unit)=>.tuple #[]) (fun x _=>SepR [Rdr 161 r x.2,Box b (zlz cs os x.1) t]) B w):=by
 have hlen:ps.length=os.length:=by rw [hps,List.length_map]
 refine zby hB hA (vs:=[_,_]) Tryz.func114 rfl rfl (Nat.le_of_ble_eq_true rfl) ?_
 refine zbP ?_
 refine zac ?_
 refine zaa ?_
 refine gk_y rfl rfl (zaf rfl) ?_
 refine gk_y rfl rfl (zaV (Tryz.underlying206) rfl) ?_
 refine gk_y rfl rfl (zaf rfl) ?_
 refine zag (zae (T':=[(0,_),(7,_),(8,_),(9,_)]) ⟨rfl,rfl,rfl,rfl,trivial⟩ ?_)
 refine zas ?_
 refine zbf (X:=Int×List ByteArray×List Value) (fun⟨i,us,ds⟩=>[(0,.pointer (some ⟨r,0,none⟩)),(7,.slice a ps.length cap),(8,.int .i64 (ps.length:Int)),(9,.int .i64 i)]) (fun⟨i,us,ds⟩=>[Rdr 161 r us,Box b ds t]) (fun⟨i,us,ds⟩=>(0≤i∧i≤ps.length∧ds.length=cs.length∧putE (os.drop i.toNat) ds us=putE os cs ws)) (fun⟨i,us,ds⟩=>(ps.length - i).toNat) (0,ws,cs) ⟨rfl,rfl,rfl,rfl,trivial⟩ rfl ?_ ?_
 ·exact⟨by omega,by omega,rfl,rfl⟩
 ·rintro ⟨i,us,ds⟩ hI
  obtain⟨g0,g1,g2,g3⟩:=hI
  refine zac ?_
  refine zaa ?_
  refine gk_y rfl rfl (zbw rfl rfl) ?_
  refine zag (zae (T':=[(0,_),(7,_),(8,_),(9,_),(10,_)]) ⟨rfl,rfl,rfl,rfl,rfl,trivial⟩ ?_)
  refine zac ?_
  refine zap rfl (fun hc10=>?_) (fun hc10=>?_)
  ·have hc10:=of_decide_eq_true hc10
   refine zaq ?_
   refine zac ?_
   refine zas ?_
   refine zac ?_
   refine zaa ?_
   refine gk_y rfl rfl (zaE zxx rfl rfl (fun _ hw=>(Rd.has hl hw)) (by omega) (by omega)) ?_
   refine gk_y rfl rfl (zcE zxE rfl (fun _ hw=>(Rd.has hl hw)) (by omega) (by omega) rfl) ?_
   refine gk_y rfl rfl (zad rfl) ?_
   refine zag (zae (T':=[(0,_),(5,_),(7,_),(8,_),(9,_)]) ⟨rfl,rfl,rfl,rfl,rfl,trivial⟩ ?_)
   have hg5:ps.getD i.toNat default=(b,os.getD i.toNat 0):=by rw [hps]; exact ztP g0 (by omega)
   refine zae (T':=[(0,_),(5,.pointer (some ⟨b,os.getD i.toNat 0,none⟩)),(7,_),(8,_),(9,_)]) ⟨rfl,(by show some (Value.pointer (some ⟨(ps.getD i.toNat default).1,(ps.getD i.toNat default).2,none⟩))=_; rw [hg5]),rfl,rfl,rfl,trivial⟩ ?_
   refine zac ?_
   refine zaa ?_
   refine gk_y rfl rfl (zaf rfl) ?_
   refine zbZ (res:=zdp us) 0 en90 rfl rfl rfl (fun w B hF=>zli r us w B (fun k hk=>(hF.own k hk).2) hF.A) (fun k hk14=>?_) (fun x14 m14 hx14=>?_)
   ·
    exact za6 (zqt (by rw [←g3,zkh g0 (by omega),ziy,numE,hk14]; rfl))
   refine gk_y rfl rfl (zad rfl) ?_
   refine zag (zae (T':=[(0,_),(5,_),(6,_),(7,_),(8,_),(9,_)]) ⟨rfl,rfl,rfl,rfl,rfl,rfl,trivial⟩ ?_)
   refine zac ?_
   refine zac ?_
   refine zaa ?_
   refine gk_y rfl rfl (zaf rfl) ?_
   refine gk_y rfl rfl (zaJ zxb rfl (fun w hw=>zoj _ w)) ?_
   refine gk_y rfl rfl (zbR rfl) ?_
   refine zag (zae (T':=[(0,_),(5,_),(6,_),(7,_),(8,_),(9,_),(17,_)]) ⟨rfl,rfl,rfl,rfl,rfl,rfl,rfl,trivial⟩ ?_)
   refine zap rfl (fun hc17=>?_) (fun hc17=>?_)
   ·have h17:¬ numW x14.1=true:=by simpa using hc17
    refine zaa ?_
    refine zcg en91 rfl (fun w hw=>zdk _ w) ?_
    exact za6 (zqt (by rw [←g3,zkh g0 (by omega),ziy,numE,hx14,zak,if_neg h17]; rfl))
   ·have h17:numW x14.1=true:=by simpa using hc17
    refine zaq ?_
    refine zaa ?_
    refine gk_y rfl rfl (zaf rfl) ?_
    refine gk_y rfl rfl (zaf rfl) ?_
    refine gk_y rfl rfl (zaJ zxc rfl (fun w hw=>zu3 _ w (by assumption))) ?_
    refine gk_y rfl rfl (zaf rfl) ?_
    refine gk_y rfl rfl (zaB rfl rfl) ?_
    refine gk_y rfl rfl (zaB rfl rfl) ?_
    refine gk_y rfl rfl (zbx rfl) ?_
    refine zpS 1 tf3 rfl rfl rfl rfl rfl (by rw [g2]; exact ho _ (zpK (by omega))) ?_
    refine zag (zae (T':=[(0,_),(7,_),(8,_),(9,_)]) ⟨rfl,rfl,rfl,rfl,trivial⟩ ?_)
    refine zaa ?_
    refine gk_y rfl rfl (zaY rfl rfl (by omega) (by omega)) ?_
    refine gk_y rfl rfl (zaf rfl) ?_
    refine zag (zae (T':=[(0,_),(7,_),(8,_),(9,_)]) ⟨rfl,rfl,rfl,rfl,trivial⟩ ?_)
    exact za1 (i+1,x14.2,_) ⟨rfl,rfl,rfl,rfl,trivial⟩ rfl ⟨by omega,by omega,by rw [List.length_set,g2],by rw [←g3,zkh g0 (by omega),ziy,numE,hx14,zak,if_pos h17]; rfl⟩ (by simp only []; omega)
  ·have hc10:=of_decide_eq_false hc10
   refine za8 rfl ?_
   obtain⟨l,hl1,hl2⟩:=zwf (os:=os) (cs:=cs) (ws:=ws) (cs':=ds) (ws':=us) (by rw [←g3,List.drop_of_length_le (by omega),zr5])
   refine zbT 2 ?_
   exact zdm (l,us) () 0 (zcN rfl) rfl (by rw [hl2]; rfl) hl1
set_option maxRecDepth 100000 in
set_option maxHeartbeats 1000000 in
theorem ziv (r:Nat) (ws:List ByteArray) (b:Nat) (cs:List Value) (t:TypeId) (os:List Nat) (ps:List (Nat×Nat)) (a:Option Addr) (cap:Nat) (u:ByteArray) (br:Nat) (w:World) (B:Nat→Prop) (hB:∀ k,B k→k < w.heap.size) (hA:(SepR [Rdr 161 r ws,Box b cs t]).A B w) (hl:Rd (fun k=>k < w.heap.size∧¬ B k) w (zaW a 1 zhZ ps)) (hps:ps=os.map (fun o=>(b,o))) (ho:∀ o∈os,o < cs.length) (hs:zaP ps.length) (hb:Rd (fun k=>k < w.heap.size∧¬ B k) w (Box br [.pointer (some ⟨r,0,none⟩)] 158)) :
  Calls Tryz.prog 131 #[.string u,.slice a ps.length cap,.pointer (some ⟨br,0,none⟩)] w (zej 33 (oneE u os.length ws) (fun _x (_:Unit)=>.tuple #[]) (fun x _=>SepR [Rdr 161 r x.2,Box b (zlz cs os x.1) t]) B w):=by
 refine zby hB hA (vs:=[_,_,_]) Tryz.func131 rfl rfl (Nat.le_of_ble_eq_true rfl) ?_
 refine zbP ?_
 refine zac ?_
 refine zaa ?_
 refine gk_y rfl rfl (zbW zi1 rfl (fun _ hw=>zaQ (Rd.has hb hw) rfl)) ?_
 refine gk_y rfl rfl (zaf rfl) ?_
 refine zbZ (res:=sayE u ws) 0 ztI rfl rfl rfl (fun w B hF=>zuG r ws u w B (fun k hk=>(hF.own k hk).2) hF.A) (fun k hk7=>?_) (fun x7 m7 hx7=>?_)
 ·
  exact za6 (by rw [oneE,hk7]; first | done | rfl)
 refine zag (zae (T':=[(1,_),(2,_)]) ⟨rfl,rfl,trivial⟩ ?_)
 refine zaa ?_
 refine gk_y rfl rfl (zbW zi1 rfl (fun _ hw=>zaQ (Rd.has hb hw) rfl)) ?_
 refine gk_y rfl rfl (zaf rfl) ?_
 refine zao 1 rfl ?_
 refine zao 1 rfl ?_
 refine zbT 2 ?_
 refine zbZ 0 zpl rfl rfl rfl (fun w B hF=>zfl r x7.2 b cs t os ps _ _ w B (fun k hk=>(hF.own k hk).2) hF.A (hF.rd hl) hps ho hs) (fun k hk10=>?_) (fun x10 m10 hx10=>?_)
 ·
  exact za6 (by rw [oneE,hx7,zak,hk10]; first | done | rfl)
 refine zag (zae (T':=[]) trivial ?_)
 exact zdm x10 () 0 (zcN rfl) rfl rfl (by rw [oneE,hx7,zak,hx10])
end Go.Proofs.YtdcfcfhmkfkgmaaGreatDoor
namespace Go.Proofs.YtdcfcfhmkfkgmaaGreatDoor
open Go.K Go.Stn Go.Pln Go.RowKit
theorem zxu:SA Tryz.prog 137 9 4 1:=⟨Tryz.underlying137,by kernel_rfl⟩
theorem af35:AF Tryz.prog 35 3 1 8 [.int IntKind.i64 0]:=⟨Tryz.underlying35,by kernel_rfl,rfl⟩
theorem ztG:En Tryz.prog 113:=za7 Tryz.func113 (by kernel_rfl) (by kernel_rfl)
theorem zvS:En Tryz.prog 116:=za7 Tryz.func116 (by kernel_rfl) (by kernel_rfl)
theorem zhY:En Tryz.prog 131:=za7 Tryz.func131 (by kernel_rfl) (by kernel_rfl)
theorem ztm (x0:ByteArray) (w:World):(Instr.build 41 #[(0,.string x0)]).run Tryz.prog w=.ok (.agg #[.string x0,.int IntKind.i64 0,.int IntKind.i64 0,.int IntKind.i64 0,.int IntKind.i64 0,.slice none 0 0,.int IntKind.i64 0,.int IntKind.i64 0,.int IntKind.i64 0,.int IntKind.i64 0,.int IntKind.i64 0,.int IntKind.i64 0,.int IntKind.i64 0,.int IntKind.u8 0,.int IntKind.i64 0,.int IntKind.i64 0,.int IntKind.i64 0,.int IntKind.i64 0,.int IntKind.i64 0,.int IntKind.i64 0]) w:=by kernel_rfl
theorem zo0 (x0_0:Int) (w:World):(Instr.buildSlice 35 1 #[(0,.int .i64 x0_0)]).run Tryz.prog w=.ok (.slice (some ⟨w.heap.size,0,none⟩) 1 1) (w.alloc (.cells (([x0_0]:List (Int)).flatMap Go.Stn.encI).toArray 3)):=by kernel_rfl
theorem zed (x0:Nat×Nat) (w:World):(Instr.buildSlice 206 1 #[(0,.pointer (some ⟨x0.1,x0.2,none⟩))]).run Tryz.prog w=.ok (.slice (some ⟨w.heap.size,0,none⟩) 1 1) (w.alloc (.cells (([x0]:List (Nat×Nat)).flatMap zhZ).toArray 186)):=by kernel_rfl
theorem zlT (x0:Nat×Nat) (x1:Nat×Nat) (w:World):(Instr.buildSlice 206 2 #[(0,.pointer (some ⟨x0.1,x0.2,none⟩)),(1,.pointer (some ⟨x1.1,x1.2,none⟩))]).run Tryz.prog w=.ok (.slice (some ⟨w.heap.size,0,none⟩) 2 2) (w.alloc (.cells (([x0,x1]:List (Nat×Nat)).flatMap zhZ).toArray 186)):=by kernel_rfl
theorem ztr (x0:Nat×Nat) (x1:Nat×Nat) (x2:Nat×Nat) (w:World):(Instr.buildSlice 206 3 #[(0,.pointer (some ⟨x0.1,x0.2,none⟩)),(1,.pointer (some ⟨x1.1,x1.2,none⟩)),(2,.pointer (some ⟨x2.1,x2.2,none⟩))]).run Tryz.prog w=.ok (.slice (some ⟨w.heap.size,0,none⟩) 3 3) (w.alloc (.cells (([x0,x1,x2]:List (Nat×Nat)).flatMap zhZ).toArray 186)):=by kernel_rfl
set_option maxRecDepth 100000 in
set_option maxHeartbeats 8000000 in
theorem zuH (r:Nat) (ws:List ByteArray) (w:World) (B:Nat→Prop) (hB:∀ k,B k→k < w.heap.size) (hA:(Rdr 161 r ws).A B w) (hws:ws.length≤100000) (hcp:Rd (fun k=>k < w.heap.size∧¬ B k) w (zaW (some ⟨0,0,none⟩) 1 encS zeZ)) :
  Calls Tryz.prog 110 #[.pointer (some ⟨r,0,none⟩)] w (zej 33 (zci ws) (fun x (m:Option Addr×Nat)=>.agg (zbH ⟨x.1,m.1,m.2⟩).toArray) (fun x m=>SepR [Rdr 161 r x.2,Row m.1 1 m.2 3 Go.Stn.encI x.1.heights]) B w):=by
 refine zby hB hA (vs:=[_]) Tryz.func110 rfl rfl (Nat.le_of_ble_eq_true rfl) ?_
 refine zac ?_
 refine zaa ?_
 refine zaG rfl rfl (za3 (vs:=[_]) rfl rfl) fun b1=>?_
 refine zaG rfl rfl (zaL tf41 (zs:=[_,_,_,_,_,_,_,_,_,_,_,_,_,_,_,_,_,_,_,_]) rfl) fun b2=>?_
 refine zag (zae (T':=[(1,_),(2,_)]) ⟨rfl,rfl,trivial⟩ ?_)
 refine zac ?_
 refine zaa ?_
 refine gk_y rfl rfl (zah 1 zi1 rfl rfl rfl) ?_
 refine zbZ (res:=zes ws) 2 ztG rfl rfl rfl (fun w B hF=>zqa r ws w B (fun k hk=>(hF.own k hk).2) hF.A) (fun k hk7=>?_) (fun x7 m7 hx7=>?_)
 ·
  exact za6 (by rw [zci,hk7]; first | done | rfl)
 refine gk_y rfl rfl (zaI rfl (ztm _)) ?_
 refine zaG rfl rfl (zaL tf41 (zs:=[_,_,_,_,_,_,_,_,_,_,_,_,_,_,_,_,_,_,_,_]) rfl) fun b3=>?_
 refine zbz 0 tf41 rfl rfl (vs:=[_,_,_,_,_,_,_,_,_,_,_,_,_,_,_,_,_,_,_,_]) rfl rfl rfl rfl rfl ?_
 refine zag (zae (T':=[(1,_),(2,_),(3,_)]) ⟨rfl,rfl,rfl,trivial⟩ ?_)
 refine zac ?_
 refine zaa ?_
 refine gk_y rfl rfl (zbO («as»:=[]) (bs:=[_]) rfl rfl) ?_
 refine gk_y rfl rfl (zad rfl) ?_
 refine zag (zae (T':=[(1,_),(2,_),(3,_),(4,_)]) ⟨rfl,rfl,rfl,rfl,trivial⟩ ?_)
 refine zac ?_
 refine zaa ?_
 refine gk_y rfl rfl (zaf rfl) ?_
 refine gk_y rfl rfl (zab znc rfl) ?_
 refine zaG rfl rfl (zaD rfl (zed (b3,1)) zbj rfl) fun b12=>?_
 refine zao 1 rfl ?_
 refine zao 4 rfl ?_
 refine zbT 2 ?_
 refine zcB (res:=oneE (⟨#[98,97,115,101]⟩:ByteArray) 1 x7.2) (fs:=[]) (cap:=[_]) 0 zhY rfl rfl rfl rfl (fun w B hF=>ziv r x7.2 b3 [.string x7.1,.int .i64 0,.int .i64 0,.int .i64 0,.int .i64 0,.slice none 0 0,.int .i64 0,.int .i64 0,.int .i64 0,.int .i64 0,.int .i64 0,.int .i64 0,.int .i64 0,.int .u8 0,.int .i64 0,.int .i64 0,.int .i64 0,.int .i64 0,.int .i64 0,.int .i64 0] 41 [1] [(b3,1)] _ _ (⟨#[98,97,115,101]⟩:ByteArray) b1 w B (fun k hk=>(hF.own k hk).2) hF.A (zdX zbj (hF.other 0 rfl)) rfl (by intro o ho; simp at ho; simp; omega) (by simp [zaP]) (hF.other 2 rfl)) (fun k hk13=>?_) (fun x13 m13 hx13=>?_)
 ·
  exact za6 (by rw [zci,hx7,zak,hk13]; first | done | rfl)
 refine zbP ?_
 refine za2 (R':=Box b3 [.string x7.1,.int .i64 ((x13.1).getD 0 0),.int .i64 0,.int .i64 0,.int .i64 0,.slice none 0 0,.int .i64 0,.int .i64 0,.int .i64 0,.int .i64 0,.int .i64 0,.int .i64 0,.int .i64 0,.int .u8 0,.int .i64 0,.int .i64 0,.int .i64 0,.int .i64 0,.int .i64 0,.int .i64 0] 41) 1 rfl (fun B w hA=>hA) ?_
 refine zaK 2 rfl ?_
 refine zag (zae (T':=[(1,_),(2,_),(3,_),(4,_)]) ⟨rfl,rfl,rfl,rfl,trivial⟩ ?_)
 refine zac ?_
 refine zaa ?_
 refine gk_y rfl rfl (zaf rfl) ?_
 refine gk_y rfl rfl (zab zpv rfl) ?_
 refine zaG rfl rfl (zaD rfl (zed (b3,2)) zbj rfl) fun b16=>?_
 refine zao 2 rfl ?_
 refine zao 2 rfl ?_
 refine zbT 2 ?_
 refine zcB (res:=oneE (⟨#[98,97,116,116,101,114]⟩:ByteArray) 1 x13.2) (fs:=[]) (cap:=[_]) 0 zhY rfl rfl rfl rfl (fun w B hF=>ziv r x13.2 b3 [.string x7.1,.int .i64 ((x13.1).getD 0 0),.int .i64 0,.int .i64 0,.int .i64 0,.slice none 0 0,.int .i64 0,.int .i64 0,.int .i64 0,.int .i64 0,.int .i64 0,.int .i64 0,.int .i64 0,.int .u8 0,.int .i64 0,.int .i64 0,.int .i64 0,.int .i64 0,.int .i64 0,.int .i64 0] 41 [2] [(b3,2)] _ _ (⟨#[98,97,116,116,101,114]⟩:ByteArray) b1 w B (fun k hk=>(hF.own k hk).2) hF.A (zdX zbj (hF.other 0 rfl)) rfl (by intro o ho; simp at ho; simp; omega) (by simp [zaP]) (hF.other 2 rfl)) (fun k hk17=>?_) (fun x17 m17 hx17=>?_)
 ·
  exact za6 (by rw [zci,hx7,zak,hx13,zak,hk17]; first | done | rfl)
 refine zbP ?_
 refine za2 (R':=Box b3 [.string x7.1,.int .i64 ((x13.1).getD 0 0),.int .i64 ((x17.1).getD 0 0),.int .i64 0,.int .i64 0,.slice none 0 0,.int .i64 0,.int .i64 0,.int .i64 0,.int .i64 0,.int .i64 0,.int .i64 0,.int .i64 0,.int .u8 0,.int .i64 0,.int .i64 0,.int .i64 0,.int .i64 0,.int .i64 0,.int .i64 0] 41) 1 rfl (fun B w hA=>hA) ?_
 refine zaK 2 rfl ?_
 refine zag (zae (T':=[(1,_),(2,_),(3,_),(4,_)]) ⟨rfl,rfl,rfl,rfl,trivial⟩ ?_)
 refine zac ?_
 refine zaa ?_
 refine gk_y rfl rfl (zaf rfl) ?_
 refine gk_y rfl rfl (zab zep rfl) ?_
 refine zaG rfl rfl (zaD rfl (zed (b3,3)) zbj rfl) fun b20=>?_
 refine zao 2 rfl ?_
 refine zao 2 rfl ?_
 refine zbT 2 ?_
 refine zcB (res:=oneE (⟨#[104,101,105,103,104,116]⟩:ByteArray) 1 x17.2) (fs:=[]) (cap:=[_]) 0 zhY rfl rfl rfl rfl (fun w B hF=>ziv r x17.2 b3 [.string x7.1,.int .i64 ((x13.1).getD 0 0),.int .i64 ((x17.1).getD 0 0),.int .i64 0,.int .i64 0,.slice none 0 0,.int .i64 0,.int .i64 0,.int .i64 0,.int .i64 0,.int .i64 0,.int .i64 0,.int .i64 0,.int .u8 0,.int .i64 0,.int .i64 0,.int .i64 0,.int .i64 0,.int .i64 0,.int .i64 0] 41 [3] [(b3,3)] _ _ (⟨#[104,101,105,103,104,116]⟩:ByteArray) b1 w B (fun k hk=>(hF.own k hk).2) hF.A (zdX zbj (hF.other 0 rfl)) rfl (by intro o ho; simp at ho; simp; omega) (by simp [zaP]) (hF.other 2 rfl)) (fun k hk21=>?_) (fun x21 m21 hx21=>?_)
 ·
  exact za6 (by rw [zci,hx7,zak,hx13,zak,hx17,zak,hk21]; first | done | rfl)
 refine zbP ?_
 refine za2 (R':=Box b3 [.string x7.1,.int .i64 ((x13.1).getD 0 0),.int .i64 ((x17.1).getD 0 0),.int .i64 ((x21.1).getD 0 0),.int .i64 0,.slice none 0 0,.int .i64 0,.int .i64 0,.int .i64 0,.int .i64 0,.int .i64 0,.int .i64 0,.int .i64 0,.int .u8 0,.int .i64 0,.int .i64 0,.int .i64 0,.int .i64 0,.int .i64 0,.int .i64 0] 41) 1 rfl (fun B w hA=>hA) ?_
 refine zaK 2 rfl ?_
 refine zag (zae (T':=[(1,_),(2,_),(3,_),(4,_)]) ⟨rfl,rfl,rfl,rfl,trivial⟩ ?_)
 refine zac ?_
 refine zaa ?_
 refine gk_y rfl rfl (zaf rfl) ?_
 refine gk_y rfl rfl (zab znd rfl) ?_
 refine zaG rfl rfl (zaD rfl (zed (b3,4)) zbj rfl) fun b24=>?_
 refine zao 2 rfl ?_
 refine zao 2 rfl ?_
 refine zbT 2 ?_
 refine zcB (res:=oneE (⟨#[115,107,105,110]⟩:ByteArray) 1 x21.2) (fs:=[]) (cap:=[_]) 0 zhY rfl rfl rfl rfl (fun w B hF=>ziv r x21.2 b3 [.string x7.1,.int .i64 ((x13.1).getD 0 0),.int .i64 ((x17.1).getD 0 0),.int .i64 ((x21.1).getD 0 0),.int .i64 0,.slice none 0 0,.int .i64 0,.int .i64 0,.int .i64 0,.int .i64 0,.int .i64 0,.int .i64 0,.int .i64 0,.int .u8 0,.int .i64 0,.int .i64 0,.int .i64 0,.int .i64 0,.int .i64 0,.int .i64 0] 41 [4] [(b3,4)] _ _ (⟨#[115,107,105,110]⟩:ByteArray) b1 w B (fun k hk=>(hF.own k hk).2) hF.A (zdX zbj (hF.other 0 rfl)) rfl (by intro o ho; simp at ho; simp; omega) (by simp [zaP]) (hF.other 2 rfl)) (fun k hk25=>?_) (fun x25 m25 hx25=>?_)
 ·
  exact za6 (by rw [zci,hx7,zak,hx13,zak,hx17,zak,hx21,zak,hk25]; first | done | rfl)
 refine zbP ?_
 refine za2 (R':=Box b3 [.string x7.1,.int .i64 ((x13.1).getD 0 0),.int .i64 ((x17.1).getD 0 0),.int .i64 ((x21.1).getD 0 0),.int .i64 ((x25.1).getD 0 0),.slice none 0 0,.int .i64 0,.int .i64 0,.int .i64 0,.int .i64 0,.int .i64 0,.int .i64 0,.int .i64 0,.int .u8 0,.int .i64 0,.int .i64 0,.int .i64 0,.int .i64 0,.int .i64 0,.int .i64 0] 41) 1 rfl (fun B w hA=>hA) ?_
 refine zaK 2 rfl ?_
 refine zag (zae (T':=[(1,_),(2,_),(3,_),(4,_)]) ⟨rfl,rfl,rfl,rfl,trivial⟩ ?_)
 refine zac ?_
 refine zaa ?_
 refine gk_y rfl rfl (zah 3 zi1 rfl rfl rfl) ?_
 refine zbZ (res:=sayE (⟨#[104,101,105,103,104,116,115]⟩:ByteArray) x25.2) 0 ztI rfl rfl rfl (fun w B hF=>zuG r x25.2 (⟨#[104,101,105,103,104,116,115]⟩:ByteArray) w B (fun k hk=>(hF.own k hk).2) hF.A) (fun k hk27=>?_) (fun x27 m27 hx27=>?_)
 ·
  exact za6 (by rw [zci,hx7,zak,hx13,zak,hx17,zak,hx21,zak,hx25,zak,hk27]; first | done | rfl)
 refine zag (zae (T':=[(1,_),(2,_),(3,_),(4,_)]) ⟨rfl,rfl,rfl,rfl,trivial⟩ ?_)
 have hlen27:x27.2.length≤ws.length:=by have:=znu hx7; have:=zfo hx13; have:=zfo hx17; have:=zfo hx21; have:=zfo hx25; have:=zmz hx27; omega
 refine zao 3 rfl ?_
 refine zao 3 rfl ?_
 refine zao 3 rfl ?_
 refine zao 3 rfl ?_
 refine zac ?_
 refine zas ?_
 refine zbB 3 Go.Stn.encI 1 ?_
 refine zbf (X:=List Int×List ByteArray×Option Addr×Nat) (fun⟨acc,us,ha,hc⟩=>[(1,.pointer (some ⟨b1,0,none⟩)),(2,.pointer (some ⟨b2,0,none⟩)),(3,.pointer (some ⟨b3,0,none⟩)),(4,.func (.func 131) #[] #[.pointer (some ⟨b1,0,none⟩)])]) (fun⟨acc,us,ha,hc⟩=>[Row ha 1 hc 3 Go.Stn.encI acc,Rdr 161 r us,Box b3 [.string x7.1,.int .i64 ((x13.1).getD 0 0),.int .i64 ((x17.1).getD 0 0),.int .i64 ((x21.1).getD 0 0),.int .i64 ((x25.1).getD 0 0),.slice ha acc.length hc,.int .i64 0,.int .i64 0,.int .i64 0,.int .i64 0,.int .i64 0,.int .i64 0,.int .i64 0,.int .u8 0,.int .i64 0,.int .i64 0,.int .i64 0,.int .i64 0,.int .i64 0,.int .i64 0] 41,Box b2 [.string ⟨#[]⟩,.int .i64 0,.int .i64 0,.int .i64 0,.int .i64 0,.slice none 0 0,.int .i64 0,.int .i64 0,.int .i64 0,.int .i64 0,.int .i64 0,.int .i64 0,.int .i64 0,.int .u8 0,.int .i64 0,.int .i64 0,.int .i64 0,.int .i64 0,.int .i64 0,.int .i64 0] 41,Box b1 [.pointer (some ⟨r,0,none⟩)] 158]) (fun⟨acc,us,ha,hc⟩=>(zbF acc us=zbF [] x27.2∧acc.length+us.length≤x27.2.length)) (fun⟨acc,us,ha,hc⟩=>us.length) ([],x27.2,none,0) ⟨rfl,rfl,rfl,rfl,trivial⟩ rfl ?_ ?_
 ·exact⟨rfl,by simp⟩
 ·rintro ⟨acc,us,ha,hc⟩ hI
  obtain⟨hI,hal⟩:=hI
  refine zao 1 rfl ?_
  refine zgV fun a1h c1h hc1h=>?_
  refine zac ?_
  refine zac ?_
  refine zbb 15 (fun _=>mixed) (by kernel_rfl) ?_
  refine ph_y (zah 5 zi1 rfl rfl rfl) ?_
  refine ph_y (zbx rfl) ?_
  refine ph_y (zab zf0 rfl) ?_
  refine ph_y (zah 0 zmF rfl rfl rfl) ?_
  refine ph_y (zaV (Tryz.underlying124) rfl) ?_
  refine ph_y (zc6 rfl rfl) ?_
  refine ph_y (zaf rfl) ?_
  refine zaH rfl rfl (fun hgd=>by(try rw [hgd]); (try have hgd2:=of_decide_eq_true hgd); exact(zah 5 zi1 rfl rfl rfl)) ?_
  refine zaH rfl rfl (fun hgd=>by(try rw [hgd]); (try have hgd2:=of_decide_eq_true hgd); exact(zbx rfl)) ?_
  refine zaH rfl rfl (fun hgd=>by(try rw [hgd]); (try have hgd2:=of_decide_eq_true hgd); exact(zab zf0 rfl)) ?_
  refine zaH rfl rfl (fun hgd=>by(try rw [hgd]); (try have hgd2:=of_decide_eq_true hgd); exact(zah 0 zmF rfl rfl rfl)) ?_
  refine zaH rfl rfl (fun hgd=>by(try rw [hgd]); (try have hgd2:=of_decide_eq_true hgd); exact(zaE zqJ rfl rfl (fun _ hw=>(hw.has (p:=1) rfl)) (by omega) (by omega))) ?_
  refine zaH rfl rfl (fun hgd=>by(try rw [hgd]); (try have hgd2:=of_decide_eq_true hgd); exact(zcE tf9 rfl (fun _ hw=>(hw.has (p:=1) rfl)) (by omega) (by omega) rfl)) ?_
  refine zaH rfl rfl (fun hgd=>by(try rw [hgd]); (try have hgd2:=of_decide_eq_true hgd); exact(ziV rfl rfl)) ?_
  refine ph_y (zaX rfl rfl rfl) ?_
  refine zag (zae (T':=[(1,_),(2,_),(3,_),(4,_),(42,_)]) ⟨rfl,rfl,rfl,rfl,rfl,trivial⟩ ?_)
  refine zao 1 rfl ?_
  refine zao 1 rfl ?_
  refine zeH hc1h ?_
  refine zao 4 rfl ?_
  refine zap rfl (fun hc42=>?_) (fun hc42=>?_)
  ·simp only [Bool.and_eq_true,decide_eq_true_eq] at hc42
   have h0:¬ us.length=0:=by have:=hc42.1; omega
   have hl0:¬ ((us.getD 0 default).toList == wLeast.toList)=true:=by have:=hc42.2; rw [Bool.not_eq_true'] at this; rw [show((us.getD 0 default).toList == wLeast.toList)=false from this]; exact Bool.false_ne_true
   refine zaq ?_
   refine zas ?_
   refine zac ?_
   refine zaa ?_
   refine zaG rfl rfl (zaL tf3 (zs:=[_]) rfl) fun b5=>?_
   refine zag (zae (T':=[(1,_),(2,_),(3,_),(4,_),(5,_)]) ⟨rfl,rfl,rfl,rfl,rfl,trivial⟩ ?_)
   refine zac ?_
   refine zaa ?_
   refine gk_y rfl rfl (zah 1 zi1 rfl rfl rfl) ?_
   refine zaG rfl rfl (zaD rfl (zed (b5,0)) zbj rfl) fun b44=>?_
   refine zao 1 rfl ?_
   refine zao 3 rfl ?_
   refine zbT 2 ?_
   refine zbZ (res:=zco 1 us) 0 zpl rfl rfl rfl (fun w B hF=>zfl r us b5 [.int .i64 0] 3 [0] [(b5,0)] _ _ w B (fun k hk=>(hF.own k hk).2) hF.A (zdX zbj (hF.other 0 rfl)) rfl (by intro o ho; simp at ho; simp; omega) (by simp [zaP])) (fun k hk45=>?_) (fun x45 m45 hx45=>?_)
   ·
    have hh6:zbF [] x27.2=.error k:=by rw [←hI,zgs h0 hl0,hk45]; rfl
    exact za6 (by rw [zci,hx7,zak,hx13,zak,hx17,zak,hx21,zak,hx25,zak,hx27,zak,hh6]; first | done | rfl)
   refine zbP ?_
   refine za2 (R':=Box b5 [.int .i64 ((x45.1).getD 0 0)] 3) 1 rfl (fun B w hA=>hA) ?_
   refine zaK 2 rfl ?_
   refine zag (zae (T':=[(1,_),(2,_),(3,_),(4,_),(5,_)]) ⟨rfl,rfl,rfl,rfl,rfl,trivial⟩ ?_)
   refine zaa ?_
   refine gk_y rfl rfl (zab zia rfl) ?_
   refine gk_y rfl rfl (zah 4 tf35 rfl rfl rfl) ?_
   refine gk_y rfl rfl (zah 1 tf3 rfl rfl rfl) ?_
   refine zaG rfl rfl (zaD rfl (zo0 _) Go.Stn.encI_ok rfl) fun b49=>?_
   refine zb4 (m:=[((x45.1).getD 0 0)]) 4 af35 Go.Stn.encI_ok rfl rfl rfl rfl (fun _ hw=>(zam Go.Stn.encI_ok (hw.has (p:=0) rfl))) (by first | omega | (simp only [List.length_cons,List.length_nil]; omega)) (by first | (unfold maxLen; omega) | (simp only [List.length_cons,List.length_nil,maxLen]; omega)) fun a50 c50=>?_
   refine gk_y rfl rfl (zab zia rfl) ?_
   refine zaA 5 tf35 rfl rfl (vs:=[_]) rfl rfl rfl rfl rfl ?_
   refine zag (zae (T':=[(1,_),(2,_),(3,_),(4,_)]) ⟨rfl,rfl,rfl,rfl,trivial⟩ ?_)
   refine zaK 0 rfl ?_
   refine zaK 1 rfl ?_
   refine zao 1 rfl ?_
   refine zao 4 rfl ?_
   refine zao 4 rfl ?_
   refine zao 3 rfl ?_
   refine zao 4 rfl ?_
   exact za1 (acc++[(x45.1).getD 0 0],x45.2,a50,c50) ⟨rfl,rfl,rfl,rfl,trivial⟩ rfl ⟨by rw [←hI,zgs h0 hl0,hx45]; rfl,by have:=zlj hx45; simp only [List.length_append,List.length_cons,List.length_nil]; omega⟩ (by have:=zlj hx45; simp only []; omega)
  ·simp only [Bool.and_eq_false_iff,decide_eq_false_iff_not] at hc42
   have hh6:zbF [] x27.2=.ok (acc,us):=by rw [←hI]; exact zk4 (by rcases hc42 with h | h; exact .inl (by omega); exact .inr (zll h))
   refine za8 rfl ?_
   refine zac ?_
   refine zaa ?_
   refine gk_y rfl rfl (zaf rfl) ?_
   refine gk_y rfl rfl (zab zpw rfl) ?_
   refine zaG rfl rfl (zaD rfl (zed (b3,6)) zbj rfl) fun b54=>?_
   refine zao 4 rfl ?_
   refine zao 3 rfl ?_
   refine zbT 2 ?_
   refine zcB (res:=oneE (⟨#[108,101,97,115,116]⟩:ByteArray) 1 us) (fs:=[]) (cap:=[_]) 0 zhY rfl rfl rfl rfl (fun w B hF=>ziv r us b3 [.string x7.1,.int .i64 ((x13.1).getD 0 0),.int .i64 ((x17.1).getD 0 0),.int .i64 ((x21.1).getD 0 0),.int .i64 ((x25.1).getD 0 0),.slice ha acc.length hc,.int .i64 0,.int .i64 0,.int .i64 0,.int .i64 0,.int .i64 0,.int .i64 0,.int .i64 0,.int .u8 0,.int .i64 0,.int .i64 0,.int .i64 0,.int .i64 0,.int .i64 0,.int .i64 0] 41 [6] [(b3,6)] _ _ (⟨#[108,101,97,115,116]⟩:ByteArray) b1 w B (fun k hk=>(hF.own k hk).2) hF.A (zdX zbj (hF.other 0 rfl)) rfl (by intro o ho; simp at ho; simp; omega) (by simp [zaP]) (hF.other 1 rfl)) (fun k hk55=>?_) (fun x55 m55 hx55=>?_)
   ·
    exact za6 (by rw [zci,hx7,zak,hx13,zak,hx17,zak,hx21,zak,hx25,zak,hx27,zak,hh6,zak,hk55]; first | done | rfl)
   refine zbP ?_
   refine za2 (R':=Box b3 [.string x7.1,.int .i64 ((x13.1).getD 0 0),.int .i64 ((x17.1).getD 0 0),.int .i64 ((x21.1).getD 0 0),.int .i64 ((x25.1).getD 0 0),.slice ha acc.length hc,.int .i64 ((x55.1).getD 0 0),.int .i64 0,.int .i64 0,.int .i64 0,.int .i64 0,.int .i64 0,.int .i64 0,.int .u8 0,.int .i64 0,.int .i64 0,.int .i64 0,.int .i64 0,.int .i64 0,.int .i64 0] 41) 1 rfl (fun B w hA=>hA) ?_
   refine zaK 2 rfl ?_
   refine zag (zae (T':=[(1,_),(2,_),(3,_),(4,_)]) ⟨rfl,rfl,rfl,rfl,trivial⟩ ?_)
   refine zac ?_
   refine zaa ?_
   refine gk_y rfl rfl (zaf rfl) ?_
   refine gk_y rfl rfl (zab zsK rfl) ?_
   refine zaG rfl rfl (zaD rfl (zed (b3,7)) zbj rfl) fun b58=>?_
   refine zao 2 rfl ?_
   refine zao 2 rfl ?_
   refine zbT 2 ?_
   refine zcB (res:=oneE (⟨#[108,97,112]⟩:ByteArray) 1 x55.2) (fs:=[]) (cap:=[_]) 0 zhY rfl rfl rfl rfl (fun w B hF=>ziv r x55.2 b3 [.string x7.1,.int .i64 ((x13.1).getD 0 0),.int .i64 ((x17.1).getD 0 0),.int .i64 ((x21.1).getD 0 0),.int .i64 ((x25.1).getD 0 0),.slice ha acc.length hc,.int .i64 ((x55.1).getD 0 0),.int .i64 0,.int .i64 0,.int .i64 0,.int .i64 0,.int .i64 0,.int .i64 0,.int .u8 0,.int .i64 0,.int .i64 0,.int .i64 0,.int .i64 0,.int .i64 0,.int .i64 0] 41 [7] [(b3,7)] _ _ (⟨#[108,97,112]⟩:ByteArray) b1 w B (fun k hk=>(hF.own k hk).2) hF.A (zdX zbj (hF.other 0 rfl)) rfl (by intro o ho; simp at ho; simp; omega) (by simp [zaP]) (hF.other 1 rfl)) (fun k hk59=>?_) (fun x59 m59 hx59=>?_)
   ·
    exact za6 (by rw [zci,hx7,zak,hx13,zak,hx17,zak,hx21,zak,hx25,zak,hx27,zak,hh6,zak,hx55,zak,hk59]; first | done | rfl)
   refine zbP ?_
   refine za2 (R':=Box b3 [.string x7.1,.int .i64 ((x13.1).getD 0 0),.int .i64 ((x17.1).getD 0 0),.int .i64 ((x21.1).getD 0 0),.int .i64 ((x25.1).getD 0 0),.slice ha acc.length hc,.int .i64 ((x55.1).getD 0 0),.int .i64 ((x59.1).getD 0 0),.int .i64 0,.int .i64 0,.int .i64 0,.int .i64 0,.int .i64 0,.int .u8 0,.int .i64 0,.int .i64 0,.int .i64 0,.int .i64 0,.int .i64 0,.int .i64 0] 41) 1 rfl (fun B w hA=>hA) ?_
   refine zaK 2 rfl ?_
   refine zag (zae (T':=[(1,_),(2,_),(3,_),(4,_)]) ⟨rfl,rfl,rfl,rfl,trivial⟩ ?_)
   refine zac ?_
   refine zaa ?_
   refine gk_y rfl rfl (zaf rfl) ?_
   refine gk_y rfl rfl (zab zsL rfl) ?_
   refine zaG rfl rfl (zaD rfl (zed (b3,8)) zbj rfl) fun b62=>?_
   refine zao 2 rfl ?_
   refine zao 2 rfl ?_
   refine zbT 2 ?_
   refine zcB (res:=oneE (⟨#[114,117,110]⟩:ByteArray) 1 x59.2) (fs:=[]) (cap:=[_]) 0 zhY rfl rfl rfl rfl (fun w B hF=>ziv r x59.2 b3 [.string x7.1,.int .i64 ((x13.1).getD 0 0),.int .i64 ((x17.1).getD 0 0),.int .i64 ((x21.1).getD 0 0),.int .i64 ((x25.1).getD 0 0),.slice ha acc.length hc,.int .i64 ((x55.1).getD 0 0),.int .i64 ((x59.1).getD 0 0),.int .i64 0,.int .i64 0,.int .i64 0,.int .i64 0,.int .i64 0,.int .u8 0,.int .i64 0,.int .i64 0,.int .i64 0,.int .i64 0,.int .i64 0,.int .i64 0] 41 [8] [(b3,8)] _ _ (⟨#[114,117,110]⟩:ByteArray) b1 w B (fun k hk=>(hF.own k hk).2) hF.A (zdX zbj (hF.other 0 rfl)) rfl (by intro o ho; simp at ho; simp; omega) (by simp [zaP]) (hF.other 1 rfl)) (fun k hk63=>?_) (fun x63 m63 hx63=>?_)
   ·
    exact za6 (by rw [zci,hx7,zak,hx13,zak,hx17,zak,hx21,zak,hx25,zak,hx27,zak,hh6,zak,hx55,zak,hx59,zak,hk63]; first | done | rfl)
   refine zbP ?_
   refine za2 (R':=Box b3 [.string x7.1,.int .i64 ((x13.1).getD 0 0),.int .i64 ((x17.1).getD 0 0),.int .i64 ((x21.1).getD 0 0),.int .i64 ((x25.1).getD 0 0),.slice ha acc.length hc,.int .i64 ((x55.1).getD 0 0),.int .i64 ((x59.1).getD 0 0),.int .i64 ((x63.1).getD 0 0),.int .i64 0,.int .i64 0,.int .i64 0,.int .i64 0,.int .u8 0,.int .i64 0,.int .i64 0,.int .i64 0,.int .i64 0,.int .i64 0,.int .i64 0] 41) 1 rfl (fun B w hA=>hA) ?_
   refine zaK 2 rfl ?_
   refine zag (zae (T':=[(1,_),(2,_),(3,_),(4,_)]) ⟨rfl,rfl,rfl,rfl,trivial⟩ ?_)
   refine zac ?_
   refine zaa ?_
   refine gk_y rfl rfl (zaf rfl) ?_
   refine gk_y rfl rfl (zab zhc rfl) ?_
   refine gk_y rfl rfl (zab zh9 rfl) ?_
   refine zaG rfl rfl (zaD rfl (zlT (b3,9) (b3,10)) zbj rfl) fun b67=>?_
   refine zao 2 rfl ?_
   refine zao 2 rfl ?_
   refine zbT 2 ?_
   refine zcB (res:=oneE (⟨#[116,104,114,111,117,103,104]⟩:ByteArray) 2 x63.2) (fs:=[]) (cap:=[_]) 0 zhY rfl rfl rfl rfl (fun w B hF=>ziv r x63.2 b3 [.string x7.1,.int .i64 ((x13.1).getD 0 0),.int .i64 ((x17.1).getD 0 0),.int .i64 ((x21.1).getD 0 0),.int .i64 ((x25.1).getD 0 0),.slice ha acc.length hc,.int .i64 ((x55.1).getD 0 0),.int .i64 ((x59.1).getD 0 0),.int .i64 ((x63.1).getD 0 0),.int .i64 0,.int .i64 0,.int .i64 0,.int .i64 0,.int .u8 0,.int .i64 0,.int .i64 0,.int .i64 0,.int .i64 0,.int .i64 0,.int .i64 0] 41 [9,10] [(b3,9),(b3,10)] _ _ (⟨#[116,104,114,111,117,103,104]⟩:ByteArray) b1 w B (fun k hk=>(hF.own k hk).2) hF.A (zdX zbj (hF.other 0 rfl)) rfl (by intro o ho; simp at ho; simp; omega) (by simp [zaP]) (hF.other 1 rfl)) (fun k hk68=>?_) (fun x68 m68 hx68=>?_)
   ·
    exact za6 (by rw [zci,hx7,zak,hx13,zak,hx17,zak,hx21,zak,hx25,zak,hx27,zak,hh6,zak,hx55,zak,hx59,zak,hx63,zak,hk68]; first | done | rfl)
   refine zbP ?_
   refine za2 (R':=Box b3 [.string x7.1,.int .i64 ((x13.1).getD 0 0),.int .i64 ((x17.1).getD 0 0),.int .i64 ((x21.1).getD 0 0),.int .i64 ((x25.1).getD 0 0),.slice ha acc.length hc,.int .i64 ((x55.1).getD 0 0),.int .i64 ((x59.1).getD 0 0),.int .i64 ((x63.1).getD 0 0),.int .i64 ((x68.1).getD 0 0),.int .i64 (((x68.1.drop 1)).getD 0 0),.int .i64 0,.int .i64 0,.int .u8 0,.int .i64 0,.int .i64 0,.int .i64 0,.int .i64 0,.int .i64 0,.int .i64 0] 41) 1 rfl (fun B w hA=>hA) ?_
   refine zaK 2 rfl ?_
   refine zag (zae (T':=[(1,_),(2,_),(3,_),(4,_)]) ⟨rfl,rfl,rfl,rfl,trivial⟩ ?_)
   refine zac ?_
   refine zaa ?_
   refine gk_y rfl rfl (zaf rfl) ?_
   refine gk_y rfl rfl (zab zl8 rfl) ?_
   refine gk_y rfl rfl (zab zl9 rfl) ?_
   refine zaG rfl rfl (zaD rfl (zlT (b3,11) (b3,12)) zbj rfl) fun b72=>?_
   refine zao 2 rfl ?_
   refine zao 2 rfl ?_
   refine zbT 2 ?_
   refine zcB (res:=oneE (⟨#[102,111,111,116,105,110,103]⟩:ByteArray) 2 x68.2) (fs:=[]) (cap:=[_]) 0 zhY rfl rfl rfl rfl (fun w B hF=>ziv r x68.2 b3 [.string x7.1,.int .i64 ((x13.1).getD 0 0),.int .i64 ((x17.1).getD 0 0),.int .i64 ((x21.1).getD 0 0),.int .i64 ((x25.1).getD 0 0),.slice ha acc.length hc,.int .i64 ((x55.1).getD 0 0),.int .i64 ((x59.1).getD 0 0),.int .i64 ((x63.1).getD 0 0),.int .i64 ((x68.1).getD 0 0),.int .i64 (((x68.1.drop 1)).getD 0 0),.int .i64 0,.int .i64 0,.int .u8 0,.int .i64 0,.int .i64 0,.int .i64 0,.int .i64 0,.int .i64 0,.int .i64 0] 41 [11,12] [(b3,11),(b3,12)] _ _ (⟨#[102,111,111,116,105,110,103]⟩:ByteArray) b1 w B (fun k hk=>(hF.own k hk).2) hF.A (zdX zbj (hF.other 0 rfl)) rfl (by intro o ho; simp at ho; simp; omega) (by simp [zaP]) (hF.other 1 rfl)) (fun k hk73=>?_) (fun x73 m73 hx73=>?_)
   ·
    exact za6 (by rw [zci,hx7,zak,hx13,zak,hx17,zak,hx21,zak,hx25,zak,hx27,zak,hh6,zak,hx55,zak,hx59,zak,hx63,zak,hx68,zak,hk73]; first | done | rfl)
   refine zbP ?_
   refine za2 (R':=Box b3 [.string x7.1,.int .i64 ((x13.1).getD 0 0),.int .i64 ((x17.1).getD 0 0),.int .i64 ((x21.1).getD 0 0),.int .i64 ((x25.1).getD 0 0),.slice ha acc.length hc,.int .i64 ((x55.1).getD 0 0),.int .i64 ((x59.1).getD 0 0),.int .i64 ((x63.1).getD 0 0),.int .i64 ((x68.1).getD 0 0),.int .i64 (((x68.1.drop 1)).getD 0 0),.int .i64 ((x73.1).getD 0 0),.int .i64 (((x73.1.drop 1)).getD 0 0),.int .u8 0,.int .i64 0,.int .i64 0,.int .i64 0,.int .i64 0,.int .i64 0,.int .i64 0] 41) 1 rfl (fun B w hA=>hA) ?_
   refine zaK 2 rfl ?_
   refine zag (zae (T':=[(1,_),(2,_),(3,_),(4,_)]) ⟨rfl,rfl,rfl,rfl,trivial⟩ ?_)
   refine zac ?_
   refine zaa ?_
   refine gk_y rfl rfl (zah 2 zi1 rfl rfl rfl) ?_
   refine zbZ (res:=sayE (⟨#[99,111,112,101]⟩:ByteArray) x73.2) 0 ztI rfl rfl rfl (fun w B hF=>zuG r x73.2 (⟨#[99,111,112,101]⟩:ByteArray) w B (fun k hk=>(hF.own k hk).2) hF.A) (fun k hk75=>?_) (fun x75 m75 hx75=>?_)
   ·
    exact za6 (by rw [zci,hx7,zak,hx13,zak,hx17,zak,hx21,zak,hx25,zak,hx27,zak,hh6,zak,hx55,zak,hx59,zak,hx63,zak,hx68,zak,hx73,zak,hk75]; first | done | rfl)
   refine zag (zae (T':=[(1,_),(2,_),(3,_),(4,_)]) ⟨rfl,rfl,rfl,rfl,trivial⟩ ?_)
   refine zac ?_
   refine zbb 2 (fun _=>mixed) (by kernel_rfl) ?_
   refine ph_y (zah 2 zi1 rfl rfl rfl) ?_
   refine ph_y (zjB zxu rfl) ?_
   refine zae (T':=[(1,_),(2,_),(3,_),(4,_),(76,_),(77,_)]) ⟨rfl,rfl,rfl,rfl,rfl,rfl,trivial⟩ ?_
   refine zbZ (res:=zfk zeZ 0 x75.2) 0 zvS rfl rfl rfl (fun w B hF=>zsX r x75.2 (some ⟨0,0,none⟩) 4 zeZ 0 w B (fun k hk=>(hF.own k hk).2) hF.A (hF.rd hcp) (by decide) (by decide) (by decide)) (fun k hk78=>?_) (fun x78 m78 hx78=>?_)
   ·
    exact za6 (by rw [zci,hx7,zak,hx13,zak,hx17,zak,hx21,zak,hx25,zak,hx27,zak,hh6,zak,hx55,zak,hx59,zak,hx63,zak,hx68,zak,hx73,zak,hx75,zak,hk78]; first | done | rfl)
   refine gk_y rfl rfl (zab zjW rfl) ?_
   refine zaA 1 tf5 rfl rfl (vs:=[_]) rfl rfl rfl rfl rfl ?_
   refine zag (zae (T':=[(1,_),(2,_),(3,_),(4,_)]) ⟨rfl,rfl,rfl,rfl,trivial⟩ ?_)
   refine zac ?_
   refine zaa ?_
   refine gk_y rfl rfl (zah 2 zi1 rfl rfl rfl) ?_
   refine gk_y rfl rfl (zab zfc rfl) ?_
   refine gk_y rfl rfl (zab zf1 rfl) ?_
   refine gk_y rfl rfl (zab zfd rfl) ?_
   refine zaG rfl rfl (zaD rfl (ztr (b3,14) (b3,15) (b3,16)) zbj rfl) fun b84=>?_
   refine zao 2 rfl ?_
   refine zao 2 rfl ?_
   refine zbT 2 ?_
   refine zbZ (res:=zco 3 x78.2) 0 zpl rfl rfl rfl (fun w B hF=>zfl r x78.2 b3 [.string x7.1,.int .i64 ((x13.1).getD 0 0),.int .i64 ((x17.1).getD 0 0),.int .i64 ((x21.1).getD 0 0),.int .i64 ((x25.1).getD 0 0),.slice ha acc.length hc,.int .i64 ((x55.1).getD 0 0),.int .i64 ((x59.1).getD 0 0),.int .i64 ((x63.1).getD 0 0),.int .i64 ((x68.1).getD 0 0),.int .i64 (((x68.1.drop 1)).getD 0 0),.int .i64 ((x73.1).getD 0 0),.int .i64 (((x73.1.drop 1)).getD 0 0),.int .u8 x78.1,.int .i64 0,.int .i64 0,.int .i64 0,.int .i64 0,.int .i64 0,.int .i64 0] 41 [14,15,16] [(b3,14),(b3,15),(b3,16)] _ _ w B (fun k hk=>(hF.own k hk).2) hF.A (zdX zbj (hF.other 0 rfl)) rfl (by intro o ho; simp at ho; simp; omega) (by simp [zaP])) (fun k hk85=>?_) (fun x85 m85 hx85=>?_)
   ·
    exact za6 (by rw [zci,hx7,zak,hx13,zak,hx17,zak,hx21,zak,hx25,zak,hx27,zak,hh6,zak,hx55,zak,hx59,zak,hx63,zak,hx68,zak,hx73,zak,hx75,zak,hx78,zak,hk85]; first | done | rfl)
   refine zbP ?_
   refine za2 (R':=Box b3 [.string x7.1,.int .i64 ((x13.1).getD 0 0),.int .i64 ((x17.1).getD 0 0),.int .i64 ((x21.1).getD 0 0),.int .i64 ((x25.1).getD 0 0),.slice ha acc.length hc,.int .i64 ((x55.1).getD 0 0),.int .i64 ((x59.1).getD 0 0),.int .i64 ((x63.1).getD 0 0),.int .i64 ((x68.1).getD 0 0),.int .i64 (((x68.1.drop 1)).getD 0 0),.int .i64 ((x73.1).getD 0 0),.int .i64 (((x73.1.drop 1)).getD 0 0),.int .u8 x78.1,.int .i64 ((x85.1).getD 0 0),.int .i64 (((x85.1.drop 1)).getD 0 0),.int .i64 ((((x85.1.drop 1).drop 1)).getD 0 0),.int .i64 0,.int .i64 0,.int .i64 0] 41) 1 rfl (fun B w hA=>hA) ?_
   refine zaK 2 rfl ?_
   refine zag (zae (T':=[(2,_),(3,_),(4,_)]) ⟨rfl,rfl,rfl,trivial⟩ ?_)
   refine zac ?_
   refine zaa ?_
   refine gk_y rfl rfl (zaf rfl) ?_
   refine gk_y rfl rfl (zab zpu rfl) ?_
   refine gk_y rfl rfl (zab zma rfl) ?_
   refine zaG rfl rfl (zaD rfl (zlT (b3,17) (b3,18)) zbj rfl) fun b89=>?_
   refine zao 2 rfl ?_
   refine zao 2 rfl ?_
   refine zbT 2 ?_
   refine zcB (res:=oneE (⟨#[102,114,105,99,116,105,111,110]⟩:ByteArray) 2 x85.2) (fs:=[]) (cap:=[_]) 0 zhY rfl rfl rfl rfl (fun w B hF=>ziv r x85.2 b3 [.string x7.1,.int .i64 ((x13.1).getD 0 0),.int .i64 ((x17.1).getD 0 0),.int .i64 ((x21.1).getD 0 0),.int .i64 ((x25.1).getD 0 0),.slice ha acc.length hc,.int .i64 ((x55.1).getD 0 0),.int .i64 ((x59.1).getD 0 0),.int .i64 ((x63.1).getD 0 0),.int .i64 ((x68.1).getD 0 0),.int .i64 (((x68.1.drop 1)).getD 0 0),.int .i64 ((x73.1).getD 0 0),.int .i64 (((x73.1.drop 1)).getD 0 0),.int .u8 x78.1,.int .i64 ((x85.1).getD 0 0),.int .i64 (((x85.1.drop 1)).getD 0 0),.int .i64 ((((x85.1.drop 1).drop 1)).getD 0 0),.int .i64 0,.int .i64 0,.int .i64 0] 41 [17,18] [(b3,17),(b3,18)] _ _ (⟨#[102,114,105,99,116,105,111,110]⟩:ByteArray) b1 w B (fun k hk=>(hF.own k hk).2) hF.A (zdX zbj (hF.other 0 rfl)) rfl (by intro o ho; simp at ho; simp; omega) (by simp [zaP]) (hF.other 1 rfl)) (fun k hk90=>?_) (fun x90 m90 hx90=>?_)
   ·
    exact za6 (by rw [zci,hx7,zak,hx13,zak,hx17,zak,hx21,zak,hx25,zak,hx27,zak,hh6,zak,hx55,zak,hx59,zak,hx63,zak,hx68,zak,hx73,zak,hx75,zak,hx78,zak,hx85,zak,hk90]; first | done | rfl)
   refine zbP ?_
   refine za2 (R':=Box b3 [.string x7.1,.int .i64 ((x13.1).getD 0 0),.int .i64 ((x17.1).getD 0 0),.int .i64 ((x21.1).getD 0 0),.int .i64 ((x25.1).getD 0 0),.slice ha acc.length hc,.int .i64 ((x55.1).getD 0 0),.int .i64 ((x59.1).getD 0 0),.int .i64 ((x63.1).getD 0 0),.int .i64 ((x68.1).getD 0 0),.int .i64 (((x68.1.drop 1)).getD 0 0),.int .i64 ((x73.1).getD 0 0),.int .i64 (((x73.1.drop 1)).getD 0 0),.int .u8 x78.1,.int .i64 ((x85.1).getD 0 0),.int .i64 (((x85.1.drop 1)).getD 0 0),.int .i64 ((((x85.1.drop 1).drop 1)).getD 0 0),.int .i64 ((x90.1).getD 0 0),.int .i64 (((x90.1.drop 1)).getD 0 0),.int .i64 0] 41) 1 rfl (fun B w hA=>hA) ?_
   refine zaK 2 rfl ?_
   refine zag (zae (T':=[(2,_),(3,_),(4,_)]) ⟨rfl,rfl,rfl,trivial⟩ ?_)
   refine zac ?_
   refine zaa ?_
   refine gk_y rfl rfl (zaf rfl) ?_
   refine gk_y rfl rfl (zab zmb rfl) ?_
   refine zaG rfl rfl (zaD rfl (zed (b3,19)) zbj rfl) fun b93=>?_
   refine zao 2 rfl ?_
   refine zao 2 rfl ?_
   refine zbT 2 ?_
   refine zcB (res:=oneE (⟨#[114,111,111,100]⟩:ByteArray) 1 x90.2) (fs:=[]) (cap:=[_]) 0 zhY rfl rfl rfl rfl (fun w B hF=>ziv r x90.2 b3 [.string x7.1,.int .i64 ((x13.1).getD 0 0),.int .i64 ((x17.1).getD 0 0),.int .i64 ((x21.1).getD 0 0),.int .i64 ((x25.1).getD 0 0),.slice ha acc.length hc,.int .i64 ((x55.1).getD 0 0),.int .i64 ((x59.1).getD 0 0),.int .i64 ((x63.1).getD 0 0),.int .i64 ((x68.1).getD 0 0),.int .i64 (((x68.1.drop 1)).getD 0 0),.int .i64 ((x73.1).getD 0 0),.int .i64 (((x73.1.drop 1)).getD 0 0),.int .u8 x78.1,.int .i64 ((x85.1).getD 0 0),.int .i64 (((x85.1.drop 1)).getD 0 0),.int .i64 ((((x85.1.drop 1).drop 1)).getD 0 0),.int .i64 ((x90.1).getD 0 0),.int .i64 (((x90.1.drop 1)).getD 0 0),.int .i64 0] 41 [19] [(b3,19)] _ _ (⟨#[114,111,111,100]⟩:ByteArray) b1 w B (fun k hk=>(hF.own k hk).2) hF.A (zdX zbj (hF.other 0 rfl)) rfl (by intro o ho; simp at ho; simp; omega) (by simp [zaP]) (hF.other 1 rfl)) (fun k hk94=>?_) (fun x94 m94 hx94=>?_)
   ·
    exact za6 (by rw [zci,hx7,zak,hx13,zak,hx17,zak,hx21,zak,hx25,zak,hx27,zak,hh6,zak,hx55,zak,hx59,zak,hx63,zak,hx68,zak,hx73,zak,hx75,zak,hx78,zak,hx85,zak,hx90,zak,hk94]; first | done | rfl)
   refine zbP ?_
   refine za2 (R':=Box b3 [.string x7.1,.int .i64 ((x13.1).getD 0 0),.int .i64 ((x17.1).getD 0 0),.int .i64 ((x21.1).getD 0 0),.int .i64 ((x25.1).getD 0 0),.slice ha acc.length hc,.int .i64 ((x55.1).getD 0 0),.int .i64 ((x59.1).getD 0 0),.int .i64 ((x63.1).getD 0 0),.int .i64 ((x68.1).getD 0 0),.int .i64 (((x68.1.drop 1)).getD 0 0),.int .i64 ((x73.1).getD 0 0),.int .i64 (((x73.1.drop 1)).getD 0 0),.int .u8 x78.1,.int .i64 ((x85.1).getD 0 0),.int .i64 (((x85.1.drop 1)).getD 0 0),.int .i64 ((((x85.1.drop 1).drop 1)).getD 0 0),.int .i64 ((x90.1).getD 0 0),.int .i64 (((x90.1.drop 1)).getD 0 0),.int .i64 ((x94.1).getD 0 0)] 41) 1 rfl (fun B w hA=>hA) ?_
   refine zaK 2 rfl ?_
   refine zag (zae (T':=[(2,_),(3,_)]) ⟨rfl,rfl,trivial⟩ ?_)
   refine zac ?_
   refine zac ?_
   refine zaa ?_
   refine gk_y rfl rfl (zab zia rfl) ?_
   refine gk_y rfl rfl (zah 1 tf35 rfl rfl rfl) ?_
   refine gk_y rfl rfl (zaV (Tryz.underlying35) rfl) ?_
   refine gk_y rfl rfl (zbL rfl rfl) ?_
   refine zag (zae (T':=[(2,_),(3,_),(98,_)]) ⟨rfl,rfl,rfl,trivial⟩ ?_)
   refine zap rfl (fun hc98=>?_) (fun hc98=>?_)
   ·have h98:acc.length=0:=by have:=of_decide_eq_true hc98; omega
    refine zaa ?_
    refine zcg en91 rfl (fun w hw=>zdk _ w) ?_
    exact za6 (by rw [zci,hx7,zak,hx13,zak,hx17,zak,hx21,zak,hx25,zak,hx27,zak,hh6,zak,hx55,zak,hx59,zak,hx63,zak,hx68,zak,hx73,zak,hx75,zak,hx78,zak,hx85,zak,hx90,zak,hx94,zak]; exact if_pos h98)
   ·have h98:¬ acc.length=0:=by have:=of_decide_eq_false hc98; omega
    refine zaq ?_
    refine zac ?_
    refine zaa ?_
    refine gk_y rfl rfl (zat 1 tf41 rfl rfl (vs:=[_,_,_,_,_,_,_,_,_,_,_,_,_,_,_,_,_,_,_,_]) rfl rfl) ?_
    refine zbz 4 tf41 rfl rfl (vs:=[_,_,_,_,_,_,_,_,_,_,_,_,_,_,_,_,_,_,_,_]) rfl rfl rfl rfl rfl ?_
    refine zag (zae (T':=[(2,_)]) ⟨rfl,trivial⟩ ?_)
    refine zao 3 rfl ?_
    refine zao 1 rfl ?_
    refine zbT 2 ?_
    refine zaw ?_
    exact zdm (⟨x7.1,x13.1.getD 0 0,x17.1.getD 0 0,x21.1.getD 0 0,x25.1.getD 0 0,acc,x55.1.getD 0 0,x59.1.getD 0 0,x63.1.getD 0 0,x68.1.getD 0 0,(x68.1.drop 1).getD 0 0,x73.1.getD 0 0,(x73.1.drop 1).getD 0 0,x78.1,x85.1.getD 0 0,(x85.1.drop 1).getD 0 0,((x85.1.drop 1).drop 1).getD 0 0,x90.1.getD 0 0,(x90.1.drop 1).getD 0 0,x94.1.getD 0 0⟩,x94.2) (ha,hc) 0 (zaC rfl (zbU (i:=3) (vs:=[.string x7.1,.int .i64 ((x13.1).getD 0 0),.int .i64 ((x17.1).getD 0 0),.int .i64 ((x21.1).getD 0 0),.int .i64 ((x25.1).getD 0 0),.slice ha acc.length hc,.int .i64 ((x55.1).getD 0 0),.int .i64 ((x59.1).getD 0 0),.int .i64 ((x63.1).getD 0 0),.int .i64 ((x68.1).getD 0 0),.int .i64 (((x68.1.drop 1)).getD 0 0),.int .i64 ((x73.1).getD 0 0),.int .i64 (((x73.1.drop 1)).getD 0 0),.int .u8 x78.1,.int .i64 ((x85.1).getD 0 0),.int .i64 (((x85.1.drop 1)).getD 0 0),.int .i64 ((((x85.1.drop 1).drop 1)).getD 0 0),.int .i64 ((x90.1).getD 0 0),.int .i64 (((x90.1.drop 1)).getD 0 0),.int .i64 ((x94.1).getD 0 0)]) tf41 rfl rfl rfl rfl)) rfl rfl (by rw [zci,hx7,zak,hx13,zak,hx17,zak,hx21,zak,hx25,zak,hx27,zak,hh6,zak,hx55,zak,hx59,zak,hx63,zak,hx68,zak,hx73,zak,hx75,zak,hx78,zak,hx85,zak,hx90,zak,hx94,zak]; exact if_neg h98)
end Go.Proofs.YtdcfcfhmkfkgmaaGreatDoor
namespace Go.Proofs.YtdcfcfhmkfkgmaaGreatDoor
open Go.K Go.Stn Go.Pln Go.RowKit
theorem tf31:TF Tryz.prog 31 true 2 (.agg #[.slice none 0 0,.slice none 0 0]):=⟨by kernel_rfl,by kernel_rfl⟩
theorem zg6:TF Tryz.prog 157 false 1 (.pointer none):=⟨by kernel_rfl,by kernel_rfl⟩
theorem af28:AF Tryz.prog 28 41 20 184 [.string ⟨#[]⟩,.int IntKind.i64 0,.int IntKind.i64 0,.int IntKind.i64 0,.int IntKind.i64 0,.slice none 0 0,.int IntKind.i64 0,.int IntKind.i64 0,.int IntKind.i64 0,.int IntKind.i64 0,.int IntKind.i64 0,.int IntKind.i64 0,.int IntKind.i64 0,.int IntKind.u8 0,.int IntKind.i64 0,.int IntKind.i64 0,.int IntKind.i64 0,.int IntKind.i64 0,.int IntKind.i64 0,.int IntKind.i64 0]:=⟨Tryz.underlying28,by kernel_rfl,rfl⟩
theorem en46:En Tryz.prog 46:=za7 Tryz.func46 (by kernel_rfl) (by kernel_rfl)
theorem zw3:En Tryz.prog 110:=za7 Tryz.func110 (by kernel_rfl) (by kernel_rfl)
theorem ztF:En Tryz.prog 111:=za7 Tryz.func111 (by kernel_rfl) (by kernel_rfl)
theorem zsC (x0:ShC) (w:World):(Instr.buildSlice 28 1 #[(0,.agg #[.string x0.s.name,.int .i64 x0.s.base,.int .i64 x0.s.batter,.int .i64 x0.s.height,.int .i64 x0.s.skin,.slice x0.a x0.s.heights.length x0.cap,.int .i64 x0.s.least,.int .i64 x0.s.lap,.int .i64 x0.s.run,.int .i64 x0.s.every,.int .i64 x0.s.at_,.int .i64 x0.s.footing,.int .i64 x0.s.spread,.int .u8 x0.s.cope,.int .i64 x0.s.tall,.int .i64 x0.s.short,.int .i64 x0.s.thick,.int .i64 x0.s.low,.int .i64 x0.s.high,.int .i64 x0.s.rood])]).run Tryz.prog w=.ok (.slice (some ⟨w.heap.size,0,none⟩) 1 1) (w.alloc (.cells (([x0]:List (ShC)).flatMap zbH).toArray 41)):=by kernel_rfl
abbrev yP:PTy:=⟨31,41,94,3,98⟩
abbrev PlP (p:Nat) (q:Plan):Res:=PlE yP p q
set_option maxRecDepth 100000 in
set_option maxHeartbeats 8000000 in
theorem ztS (r:Nat) (ws:List ByteArray) (p:Nat) (q:Plan) (bp:Nat) (w:World) (B:Nat→Prop) (hB:∀ k,B k→k < w.heap.size) (hA:(SepR [Rdr 161 r ws,PlP p q]).A B w) (hq:OkQ q) (hb:Rd (fun k=>k < w.heap.size∧¬ B k) w (Box bp [.pointer (some ⟨p,0,none⟩)] 157)) (hws:ws.length≤100000) (hcp:Rd (fun k=>k < w.heap.size∧¬ B k) w (zaW (some ⟨0,0,none⟩) 1 encS zeZ)) :
  Calls Tryz.prog 109 #[.pointer (some ⟨r,0,none⟩),.pointer (some ⟨bp,0,none⟩)] w (zi5 33 (zb3 q ws) (fun _x (_:Unit)=>.tuple #[]) (fun x _=>PlP p x) (plAt yP p) B w):=by
 refine zby hB hA (vs:=[_,_]) Tryz.func109 rfl rfl (Nat.le_of_ble_eq_true rfl) ?_
 refine zbP ?_
 refine zac ?_
 refine zaa ?_
 refine gk_y rfl rfl (zaf rfl) ?_
 refine zbZ (res:=zci ws) 0 zw3 rfl rfl rfl (fun w B hF=>zuH r ws w B (fun k hk=>(hF.own k hk).2) hF.A hws (hF.rd hcp)) (fun k hk7=>?_) (fun x7 m7 hx7=>?_)
 ·
  exact zbG 1 rfl zdy (by rw [zb3,hk7]; first | done | rfl)
 refine zbP ?_
 refine zaG rfl rfl (zaL tf41 (zs:=[_,_,_,_,_,_,_,_,_,_,_,_,_,_,_,_,_,_,_,_]) rfl) fun b3=>?_
 refine zbz 0 tf41 rfl rfl (vs:=[_,_,_,_,_,_,_,_,_,_,_,_,_,_,_,_,_,_,_,_]) rfl rfl rfl rfl rfl ?_
 refine zag (zae (T':=[(0,_),(1,_),(3,_)]) ⟨rfl,rfl,rfl,trivial⟩ ?_)
 refine zac ?_
 refine zaa ?_
 refine gk_y rfl rfl (zaf rfl) ?_
 refine zbZ (res:=endE x7.2) 1 ztF rfl rfl rfl (fun w B hF=>ztK r x7.2 w B (fun k hk=>(hF.own k hk).2) hF.A) (fun k hk9=>?_) (fun x9 m9 hx9=>?_)
 ·
  exact zbG 3 rfl zdy (by rw [zb3,hx7,zak,hk9]; first | done | rfl)
 refine zag (zae (T':=[(1,_),(3,_)]) ⟨rfl,rfl,trivial⟩ ?_)
 refine zao 3 rfl ?_
 refine zgq fun sa sc S wa wc V hS hV=>?_
 have hlS:S.length=q.S.length:=by rw [←hS,List.length_map]
 have hlV:V.length=q.V.length:=by rw [←hV,List.length_map]
 have hq20:=hq.ls
 have hq50:=hq.lv
 refine zac ?_
 refine zf3 (ch [(9,Nat)]) 12 [0,1,3,0,8,31,63,127,127,0,767,2047] (fun _=>mixed) (by kernel_rfl) (zjK _ ⟨inferInstance,trivial⟩) ?_
 refine zbD (fun ρ=>zbW zg6 rfl (fun _ hw=>zaQ (Rd.has hb hw) rfl)) (fun ρ ρ' h=>by rfl) ?_
 refine zbD (fun ρ=>zbx rfl) (fun ρ ρ' h=>by rfl) ?_
 refine zbD (fun ρ=>zat 0 tf31 rfl rfl (vs:=[_,_]) rfl rfl) (fun ρ ρ' h=>by rfl) ?_
 refine zbD (fun ρ=>zab znb rfl) (fun ρ ρ' h=>by rfl) ?_
 refine zbD (fun ρ=>zah 5 tf9 rfl rfl rfl) (fun ρ ρ' h=>by rfl) ?_
 refine zbD (fun ρ=>zaJ en46 rfl (fun w hw=>zeu _ _ S _ _ _ x7.1.name w (zam zbI (hw.has (p:=1) rfl)) (by unfold zaP; omega))) (fun ρ ρ' h=>by rfl) ?_
 refine zbD (fun ρ=>zaf rfl) (fun ρ ρ' h=>by rfl) ?_
 refine zbD (fun ρ=>zaB rfl rfl) (fun ρ ρ' h=>by rfl) ?_
 refine zbD (fun ρ=>zaB rfl rfl) (fun ρ ρ' h=>by rfl) ?_
 refine zgB (fun ρ=>zaL tf41 (zs:=[_,_,_,_,_,_,_,_,_,_,_,_,_,_,_,_,_,_,_,_]) rfl) (fun ρ ρ' h=>⟨by rfl,by rfl⟩) ?_
 refine zlr (R:=fun ρ=>Box (ρ 9) [.string ⟨#[]⟩,.int .i64 0,.int .i64 0,.int .i64 0,.int .i64 0,.slice none 0 0,.int .i64 0,.int .i64 0,.int .i64 0,.int .i64 0,.int .i64 0,.int .i64 0,.int .i64 0,.int .u8 0,.int .i64 0,.int .i64 0,.int .i64 0,.int .i64 0,.int .i64 0,.int .i64 0] 41) (A:=fun ρ=>Box (ρ 9) [.string (zav S x7.1.name).s.name,.int .i64 ((zav S x7.1.name).s.base),.int .i64 ((zav S x7.1.name).s.batter),.int .i64 ((zav S x7.1.name).s.height),.int .i64 ((zav S x7.1.name).s.skin),.slice (zav S x7.1.name).a (zav S x7.1.name).s.heights.length (zav S x7.1.name).cap,.int .i64 ((zav S x7.1.name).s.least),.int .i64 ((zav S x7.1.name).s.lap),.int .i64 ((zav S x7.1.name).s.run),.int .i64 ((zav S x7.1.name).s.every),.int .i64 ((zav S x7.1.name).s.at_),.int .i64 ((zav S x7.1.name).s.footing),.int .i64 ((zav S x7.1.name).s.spread),.int .u8 (zav S x7.1.name).s.cope,.int .i64 ((zav S x7.1.name).s.tall),.int .i64 ((zav S x7.1.name).s.short),.int .i64 ((zav S x7.1.name).s.thick),.int .i64 ((zav S x7.1.name).s.low),.int .i64 ((zav S x7.1.name).s.high),.int .i64 ((zav S x7.1.name).s.rood)] 41) 9 rfl rfl (fun _=>rfl) (fun ρ=>zex tf41 rfl rfl (vs:=[_,_,_,_,_,_,_,_,_,_,_,_,_,_,_,_,_,_,_,_]) rfl rfl rfl rfl rfl) (fun ρ ρ' h=>by(first | rfl | simp only [h 9 rfl])) ?_
 refine zbD (fun ρ=>zad rfl) (fun ρ ρ' h=>by rfl) ?_
 refine fun ρ=>zag (zf4 (X:=Nat) (ρ 9) (fun b4=>[(1,.pointer (some ⟨bp,0,none⟩)),(3,.pointer (some ⟨b3,0,none⟩)),(5,.bool (decide (0≤zaS S x7.1.name)))]) (fun b4=>[Box b4 [.string (zav S x7.1.name).s.name,.int .i64 ((zav S x7.1.name).s.base),.int .i64 ((zav S x7.1.name).s.batter),.int .i64 ((zav S x7.1.name).s.height),.int .i64 ((zav S x7.1.name).s.skin),.slice (zav S x7.1.name).a (zav S x7.1.name).s.heights.length (zav S x7.1.name).cap,.int .i64 ((zav S x7.1.name).s.least),.int .i64 ((zav S x7.1.name).s.lap),.int .i64 ((zav S x7.1.name).s.run),.int .i64 ((zav S x7.1.name).s.every),.int .i64 ((zav S x7.1.name).s.at_),.int .i64 ((zav S x7.1.name).s.footing),.int .i64 ((zav S x7.1.name).s.spread),.int .u8 (zav S x7.1.name).s.cope,.int .i64 ((zav S x7.1.name).s.tall),.int .i64 ((zav S x7.1.name).s.short),.int .i64 ((zav S x7.1.name).s.thick),.int .i64 ((zav S x7.1.name).s.low),.int .i64 ((zav S x7.1.name).s.high),.int .i64 ((zav S x7.1.name).s.rood)] 41,Box p [.slice sa S.length sc,.slice wa V.length wc] 31,Row sa 20 sc 41 zbH S,Go.K.Rows (rowH 3) S,Row wa 4 wc 94 zbS V,Go.K.Rows (rowO 98) V,Box b3 [.string x7.1.name,.int .i64 x7.1.base,.int .i64 x7.1.batter,.int .i64 x7.1.height,.int .i64 x7.1.skin,.slice m7.1 x7.1.heights.length m7.2,.int .i64 x7.1.least,.int .i64 x7.1.lap,.int .i64 x7.1.run,.int .i64 x7.1.every,.int .i64 x7.1.at_,.int .i64 x7.1.footing,.int .i64 x7.1.spread,.int .u8 x7.1.cope,.int .i64 x7.1.tall,.int .i64 x7.1.short,.int .i64 x7.1.thick,.int .i64 x7.1.low,.int .i64 x7.1.high,.int .i64 x7.1.rood] 41,Rdr 161 r x9.2,Row m7.1 1 m7.2 3 Go.Stn.encI x7.1.heights]) ⟨rfl,rfl,rfl,trivial⟩ rfl ?_)
 rintro b4
 refine zac ?_
 refine zas ?_
 refine zac ?_
 refine zaa ?_
 refine gk_y rfl rfl (zaf rfl) ?_
 refine gk_y rfl rfl (zad rfl) ?_
 refine zag (zae (T':=[(1,_),(3,_),(19,_)]) ⟨rfl,rfl,rfl,trivial⟩ ?_)
 refine zap rfl (fun hc19=>?_) (fun hc19=>?_)
 ·have h19:0≤zew q.S x7.1.name:=by have:=of_decide_eq_true hc19; rwa [zeL,hS] at this
  refine zaa ?_
  refine zcg en91 rfl (fun w hw=>zdk _ w) ?_
  exact zbG 1 rfl (zeb (y:=yP)) (by rw [zb3,hx7,zak,hx9,zak]; exact if_pos h19)
 ·have h19:¬ 0≤zew q.S x7.1.name:=by have:=of_decide_eq_false hc19; rwa [zeL,hS] at this
  refine zac ?_
  refine zaa ?_
  refine gk_y rfl rfl (zat 6 tf41 rfl rfl (vs:=[_,_,_,_,_,_,_,_,_,_,_,_,_,_,_,_,_,_,_,_]) rfl rfl) ?_
  refine gk_y rfl rfl (zaJ en20 rfl (fun w hw=>zd4 _ _ x7.1 w (zam Go.Stn.encI_ok (hw.has (p:=8) rfl)) (by have:=zkq hx7; unfold zaP; omega))) ?_
  refine gk_y rfl rfl (zcr rfl rfl) ?_
  refine gk_y rfl rfl (zad rfl) ?_
  refine zag (zae (T':=[(1,_),(3,_),(22,_)]) ⟨rfl,rfl,rfl,trivial⟩ ?_)
  refine zap rfl (fun hc22=>?_) (fun hc22=>?_)
  ·have h22:¬ za4 x7.1=true:=fun h=>by simp [zda.2 h] at hc22
   refine zaa ?_
   refine zcg en91 rfl (fun w hw=>zdk _ w) ?_
   exact zbG 1 rfl (zeb (y:=yP)) (by rw [zb3,hx7,zak,hx9,zak]; exact(if_neg h19).trans (if_neg h22))
  ·have h22:za4 x7.1=true:=zda.1 (by simpa using hc22)
   refine zac ?_
   refine zaa ?_
   refine gk_y rfl rfl (zbW zg6 rfl (fun _ hw=>zaQ (Rd.has hb hw) rfl)) ?_
   refine gk_y rfl rfl (zbx rfl) ?_
   refine gk_y rfl rfl (zab zeo rfl) ?_
   refine gk_y rfl rfl (zah 1 tf28 rfl rfl rfl) ?_
   refine gk_y rfl rfl (zaV (Tryz.underlying28) rfl) ?_
   refine gk_y rfl rfl (zbL rfl rfl) ?_
   refine gk_y rfl rfl (zad rfl) ?_
   refine zag (zae (T':=[(1,_),(3,_),(27,_)]) ⟨rfl,rfl,rfl,trivial⟩ ?_)
   refine zap rfl (fun hc27=>?_) (fun hc27=>?_)
   ·have h27:q.S.length=20:=by have:=of_decide_eq_true hc27; omega
    refine zaa ?_
    refine zcg en91 rfl (fun w hw=>zdk _ w) ?_
    exact zbG 1 rfl (zeb (y:=yP)) (by rw [zb3,hx7,zak,hx9,zak]; exact(if_neg h19).trans ((if_pos h22).trans (if_pos h27)))
   ·have h27:¬ q.S.length=20:=by have:=of_decide_eq_false hc27; omega
    refine zaq ?_
    refine zjX (V:=fun z=>.slice z.1 ((S++[(⟨x7.1,m7.1,m7.2⟩:ShC)])).length z.2) (R':=fun z:Option Addr×Nat=>Row z.1 20 z.2 41 zbH (S++[(⟨x7.1,m7.1,m7.2⟩:ShC)])) (Bad:=fun _=>False) 7 [0] 2 42 (fun _=>mixed) rfl rfl (by kernel_rfl) rfl (fun _ hb=>hb.elim) rfl ?_
    refine zcf (zbW zg6 rfl (fun _ hw=>zaQ (Rd.has hb hw) rfl)) ?_
    refine zcf (zbW zg6 rfl (fun _ hw=>zaQ (Rd.has hb hw) rfl)) ?_
    refine zcf (zbx rfl) ?_
    refine zcf (zab zeo rfl) ?_
    refine zcf (zah 1 tf28 rfl rfl rfl) ?_
    refine zcf (zat 6 tf41 rfl rfl (vs:=[_,_,_,_,_,_,_,_,_,_,_,_,_,_,_,_,_,_,_,_]) rfl rfl) ?_
    refine zqp (zaD rfl (zsC (⟨x7.1,m7.1,m7.2⟩:ShC)) zbI rfl) ?_
    refine⟨fun b41=>zhN (m:=[(⟨x7.1,m7.1,m7.2⟩:ShC)]) af28 zbI rfl rfl (fun _ hw=>(zam zbI (hw.has (p:=0) rfl))) (by first | omega | (simp only [List.length_cons,List.length_nil]; omega)) (by first | (unfold maxLen; omega) | (simp only [List.length_cons,List.length_nil,maxLen]; omega)),?_⟩
    intro z42
    intro b41
    refine zae (T':=[(35,_),(42,_)]) ⟨rfl,rfl,trivial⟩ ?_
    refine gk_y rfl rfl (zbx rfl) ?_
    refine gk_y rfl rfl (zab zeo rfl) ?_
    refine zaA 2 tf28 rfl rfl (vs:=[_]) rfl rfl rfl rfl rfl ?_
    refine zag (zae (T':=[]) trivial ?_)
    refine zao 9 rfl ?_
    refine zao 5 rfl ?_
    refine zbT 2 ?_
    refine za2 (R':=Go.K.Rows (rowH 3) (S++[(⟨x7.1,m7.1,m7.2⟩:ShC)])) 0 rfl (fun B w hA=>zfr (f:=rowH 3) hA) ?_
    refine zao 6 rfl ?_
    refine zao 6 rfl ?_
    refine zao 2 rfl ?_
    refine zao 6 rfl ?_
    refine zao 6 rfl ?_
    refine zgU (y:=yP) (q:=⟨q.S++[x7.1],q.V⟩) (by rw [List.map_append,hS]; rfl) (hV) ?_
    exact zik ⟨q.S++[x7.1],q.V⟩ () 0 (zcN rfl) rfl rfl (by rw [zb3,hx7,zak,hx9,zak]; exact(if_neg h19).trans ((if_pos h22).trans (if_neg h27)))
end Go.Proofs.YtdcfcfhmkfkgmaaGreatDoor
namespace Go.Stn
open Go Go.K Go.RowKit
structure OnH (x a b:Pt) (D t:Int):Prop where
 pos:0 < D
 t0:0≤t
 t1:t < D
 ex:D*(x.x - a.x)=t*(b.x - a.x)
 ez:D*(x.z - a.z)=t*(b.z - a.z)
theorem OnH.lin {x a b:Pt} {D t:Int} (h:OnH x a b D t) (u v:Pt):D*zbs u v x=(D - t)*zbs u v a+t*zbs u v b:=by
 have e1:=h.ex
 have e2:=h.ez
 unfold zbs
 have f1:D*(x.x - u.x)=t*(b.x - a.x)+D*(a.x - u.x):=by rw [←e1]; grind
 have f2:D*(x.z - u.z)=t*(b.z - a.z)+D*(a.z - u.z):=by rw [←e2]; grind
 calc D*((v.x - u.x)*(x.z - u.z) - (v.z - u.z)*(x.x - u.x))=(v.x - u.x)*(D*(x.z - u.z)) - (v.z - u.z)*(D*(x.x - u.x)):=by grind
  _=_:=by rw [f1,f2]; grind
theorem OnH.start {x a b:Pt} {D:Int} (h:OnH x a b D 0):x=a:=by
 have e1:=h.ex
 have e2:=h.ez
 have hp:=h.pos
 rw [Int.zero_mul,Int.mul_eq_zero] at e1 e2
 cases x; cases a
 simp only [Pt.mk.injEq]
 dsimp only at *
 omega
theorem OnH.at {a b:Pt} (D:Int) (h:0 < D):OnH a a b D 0:=⟨h,Int.le_refl _,h,by simp,by simp⟩
theorem zg5 (u v:Pt):zbs u u v=0:=by unfold zbs; grind
theorem zdc (u v:Pt):zbs u v v=0:=by unfold zbs; grind
theorem zdd (u v:Pt):zbs u v u=0:=by unfold zbs; grind
theorem zqM (u v w:Pt):zbs u v w = -zbs u w v:=by unfold zbs; grind
theorem ziF (u v w:Pt):zbs u v w=zbs w u v:=by unfold zbs; grind
theorem zuA (o e u v w:Pt):zbs o e v*zbs o u w=zbs o e u*zbs o v w+zbs o e w*zbs o u v:=by unfold zbs; grind
theorem zlZ (l:List Pt) (i:Nat):cor l (i % l.length)=cor l i:=by unfold cor; rw [Nat.mod_mod]
theorem ze1 {l:List Pt} {i j:Nat} (h:i % l.length=j % l.length):cor l i=cor l j:=by unfold cor; rw [h]
theorem zeB (l:List Pt) (i k:Nat):cor l (i % l.length+k)=cor l (i+k):=by unfold cor; rw [Nat.mod_add_mod]
theorem Cvx.edge {l:List Pt} (h:Cvx l) (i k:Nat) (h2:2≤k) (hk:k < l.length):0 < zbs (cor l i) (cor l (i+1)) (cor l (i+k)):=by
 have:=h (i % l.length) k (Nat.mod_lt _ (by omega)) h2 hk
 rwa [zlZ,zeB,zeB] at this
theorem Cvx.tri {l:List Pt} (h:Cvx l) (a i:Nat) (hi:0 < i):∀ j,i < j→j < l.length→0 < zbs (cor l a) (cor l (a+i)) (cor l (a+j)):=by
 intro j
 induction j with
 | zero=>intro hj; omega
 | succ j ih=>
  intro hj hn
  have hnext:∀ i,0 < i→i+1 < l.length→0 < zbs (cor l a) (cor l (a+i)) (cor l (a+(i+1))):=fun i h0 h1=>by
   have:=h.edge (a+i) (l.length - i) (by omega) (by omega)
   rw [show a+i+(l.length - i)=a+l.length from by omega,ze0,Nat.add_assoc] at this
   rw [zhD]
   exact this
  by_cases hij:i=j
  ·subst hij; exact hnext i hi hn
  ·have h1:=ih (by omega) (by omega)
   have h2:=hnext j (by omega) hn
   have e0:0≤zbs (cor l a) (cor l (a+1)) (cor l (a+i)):=by
    by_cases h1:i=1
    ·subst h1; rw [zdc]; omega
    ·exact Int.le_of_lt (h.edge a i (by omega) (by omega))
   have e1:=h.edge a j (by omega) (by omega)
   have e2:=h.edge a (j+1) (by omega) (by omega)
   have hp:=zuA (cor l a) (cor l (a+1)) (cor l (a+i)) (cor l (a+j)) (cor l (a+(j+1)))
   have p1:0≤zbs (cor l a) (cor l (a+1)) (cor l (a+i))*zbs (cor l a) (cor l (a+j)) (cor l (a+(j+1))):=Int.mul_nonneg e0 (Int.le_of_lt h2)
   have p2:0 < zbs (cor l a) (cor l (a+1)) (cor l (a+(j+1)))*zbs (cor l a) (cor l (a+i)) (cor l (a+j)):=Int.mul_pos e2 h1
   have p3:0 < zbs (cor l a) (cor l (a+1)) (cor l (a+j))*zbs (cor l a) (cor l (a+i)) (cor l (a+(j+1))):=by omega
   exact Int.pos_of_mul_pos_right p3 e1
theorem Cvx.tri3 {l:List Pt} (h:Cvx l) {i j k:Nat} (hij:i < j) (hjk:j < k) (hk:k < i+l.length):0 < zbs (cor l i) (cor l j) (cor l k):=by
 have:=h.tri i (j - i) (by omega) (k - i) (by omega) (by omega)
 rwa [show i+(j - i)=j from by omega,show i+(k - i)=k from by omega] at this
theorem Cvx.tri0 {l:List Pt} (h:Cvx l) {i j k:Nat} (hij:i≤j) (hjk:j≤k) (hk:k≤i+l.length):0≤zbs (cor l i) (cor l j) (cor l k):=by
 by_cases h1:i=j
 ·subst h1; rw [zg5]; omega
 ·by_cases h2:j=k
  ·subst h2; rw [zdc]; omega
  ·by_cases h3:k=i+l.length
   ·subst h3; rw [ze0,zdd]; omega
   ·exact Int.le_of_lt (h.tri3 (by omega) (by omega) (by omega))
theorem nn2 {a b c d:Int} (h1:0≤a) (h2:0≤b) (h3:0≤c) (h4:0≤d):0≤a*b+c*d:=Int.add_nonneg (Int.mul_nonneg h1 h2) (Int.mul_nonneg h3 h4)
theorem np2 {a b c d:Int} (h1:0≤a) (h2:b≤0) (h3:0≤c) (h4:d≤0):a*b+c*d≤0:=by
 have:=Int.mul_nonpos_of_nonneg_of_nonpos h1 h2
 have:=Int.mul_nonpos_of_nonneg_of_nonpos h3 h4
 omega
theorem zr4 {a b c d:Int} (h1:0 < a) (h2:0 < b) (h3:0≤c) (h4:0≤d):0 < a*b+c*d:=by
 have:=Int.mul_pos h1 h2
 have:=Int.mul_nonneg h3 h4
 omega
theorem zwe {a b c d:Int} (h1:0≤a) (h2:0≤b) (h3:0 < c) (h4:0 < d):0 < a*b+c*d:=by
 have:=Int.mul_nonneg h1 h2
 have:=Int.mul_pos h3 h4
 omega
theorem ziq {a b:Int} (h1:0 < a) (h2:a*b≤0):b≤0:=Classical.byContradiction fun h=>by
 have:=Int.mul_pos h1 (show 0 < b by omega)
 omega
theorem zio {a b:Int} (h1:0 < a) (h2:0≤a*b):0≤b:=Classical.byContradiction fun h=>by
 have:=Int.mul_pos h1 (show 0 < -b by omega)
 rw [Int.mul_neg] at this
 omega
theorem znI {a b:Int} (h1:0 < a) (h2:0 < a*b):0 < b:=Int.pos_of_mul_pos_right h2 h1
section
variable {l:List Pt} {p q:Pt} {a m:Nat} {D s E t:Int}
theorem zmB (hp:OnH p (cor l a) (cor l (a+1)) D s) (x y:Pt):D*zbs p x y=(D - s)*zbs (cor l a) x y+s*zbs (cor l (a+1)) x y:=by
 have:=hp.lin x y
 rw [ziF x y p,ziF x y (cor l a),ziF x y (cor l (a+1))] at this
 exact this
theorem zkr {b:Nat} (hq:OnH q (cor l b) (cor l (b+1)) E t) (x y:Pt):E*zbs x q y=(E - t)*zbs x (cor l b) y+t*zbs x (cor l (b+1)) y:=by
 have:=hq.lin y x
 rw [zhD y x q,zhD y x (cor l b),zhD y x (cor l (b+1))] at this
 exact this
theorem zth (h:Cvx l) (hp:OnH p (cor l a) (cor l (a+1)) D s) (hq:OnH q (cor l (a+m)) (cor l (a+m+1)) E t) (hm:1≤m) {k:Nat} (h1:m < k) (h2:k < l.length):0 < zbs p q (cor l (a+k)):=by
 refine znI hp.pos ?_
 rw [zmB hp]
 have f1:0 < zbs (cor l a) q (cor l (a+k)):=by
  refine znI hq.pos ?_
  rw [zkr hq]
  exact zr4 (by have:=hq.t1; omega) (h.tri3 (by omega) (by omega) (by omega)) hq.t0 (h.tri0 (by omega) (by omega) (by omega))
 have f2:0≤zbs (cor l (a+1)) q (cor l (a+k)):=by
  refine zio hq.pos ?_
  rw [zkr hq]
  exact nn2 (by have:=hq.t1; omega) (h.tri0 (by omega) (by omega) (by omega)) hq.t0 (h.tri0 (by omega) (by omega) (by omega))
 exact zr4 (by have:=hp.t1; omega) f1 hp.t0 f2
theorem ztf (h:Cvx l) (hp:OnH p (cor l a) (cor l (a+1)) D s) (hq:OnH q (cor l (a+m)) (cor l (a+m+1)) E t) (hm:1≤m) (hn:m < l.length) (h3:3≤l.length) (hs:0 < s) (ht:m=1→0 < t):0 < zbs p q (cor l (a+l.length)):=by
 refine znI hp.pos ?_
 rw [zmB hp]
 have f1:0≤zbs (cor l a) q (cor l (a+l.length)):=by rw [ze0,zdd]; omega
 have f2:0 < zbs (cor l (a+1)) q (cor l (a+l.length)):=by
  refine znI hq.pos ?_
  rw [zkr hq]
  by_cases h1:m=1
  ·exact zwe (by have:=hq.t1; omega) (h.tri0 (by omega) (by omega) (by omega)) (ht h1) (h.tri3 (by omega) (by omega) (by omega))
  ·exact zr4 (by have:=hq.t1; omega) (h.tri3 (by omega) (by omega) (by omega)) hq.t0 (h.tri0 (by omega) (by omega) (by omega))
 exact zwe (by have:=hp.t1; omega) f1 hs f2
theorem ztg (h:Cvx l) (hp:OnH p (cor l a) (cor l (a+1)) D s) (hq:OnH q (cor l (a+m)) (cor l (a+m+1)) E t) (hn:m < l.length) {k:Nat} (h1:1≤k) (h2:k≤m):zbs p q (cor l (a+k))≤0:=by
 refine ziq hp.pos ?_
 rw [zmB hp]
 have hs:∀ i j:Nat,i≤a+k→a+k≤j→j≤i+l.length→zbs (cor l i) (cor l j) (cor l (a+k))≤0:=fun i j c1 c2 c3=>by
  rw [zqM]
  have:=h.tri0 (i:=i) (j:=a+k) (k:=j) c1 c2 c3
  omega
 have f:∀ i:Nat,i=a∨i=a+1→zbs (cor l i) q (cor l (a+k))≤0:=fun i hi=>by
  refine ziq hq.pos ?_
  rw [zkr hq]
  exact np2 (by have:=hq.t1; omega) (hs _ _ (by omega) (by omega) (by omega)) hq.t0 (hs _ _ (by omega) (by omega) (by omega))
 exact np2 (by have:=hp.t1; omega) (f a (.inl rfl)) hp.t0 (f (a+1) (.inr rfl))
theorem zpk (h:Cvx l) (h3:3≤l.length) {i:Nat} {k:Nat} (hk:k < l.length) (hq:OnH q (cor l (i+k)) (cor l (i+k+1)) E t) (h0:zbs (cor l i) (cor l (i+1)) q=0):k=0∨(k=1∧t=0):=by
 have hl:=hq.lin (cor l i) (cor l (i+1))
 rw [h0,Int.mul_zero] at hl
 have a1:=hq.t0
 have a2:=hq.t1
 by_cases c0:k=0
 ·exact .inl c0
 ·by_cases c1:k=1
  ·subst c1
   refine .inr ⟨rfl,?_⟩
   rw [zdc,Int.mul_zero,Int.zero_add] at hl
   have:=h.tri3 (i:=i) (j:=i+1) (k:=i+1+1) (by omega) (by omega) (by omega)
   rcases Int.mul_eq_zero.1 hl.symm with h5 | h5
   ·exact h5
   ·omega
  ·exfalso
   have:=h.tri3 (i:=i) (j:=i+1) (k:=i+k) (by omega) (by omega) (by omega)
   have g2:=h.tri0 (i:=i) (j:=i+1) (k:=i+k+1) (by omega) (by omega) (by omega)
   have:=zr4 (a:=E - t) (c:=t) (by omega) this a1 g2
   omega
end
end Go.Stn
namespace Go.Stn
open Go Go.K Go.RowKit
theorem zen {l:List Pt} {i:Nat} (h:i < l.length):(zdj l)[i]?=some (cor l i,cor l (i+1)):=by
 unfold zdj
 rw [List.getElem?_map,List.getElem?_range h]
 simp only [Option.map_some]
 rw [zgC h,zoU (i:=(i:Int)+1) (n:=i+1+l.length) (by omega),ze0]
theorem zwk (a:Int):0≤a*a:=by
 rcases Int.le_total 0 a with h | h
 ·exact Int.mul_nonneg h h
 ·have:=Int.mul_nonneg (show 0≤-a by omega) (show 0≤-a by omega)
  rw [Int.neg_mul_neg] at this
  exact this
theorem zxA {a b:Int} (h:a*a < b*b) (hb:0≤b):a < b:=Classical.byContradiction fun hn=>by
 have:b*b≤a*a:=Int.mul_le_mul (by omega) (by omega) hb (by omega)
 omega
theorem zmm {a b:Int} (h:0 < a) (hz:a*b=0):b=0:=by
 rcases Int.mul_eq_zero.1 hz with h1 | h1
 ·omega
 ·exact h1
theorem zlg {a b c:Int} (h:0 < a) (hz:a*b≤a*c):b≤c:=Int.le_of_mul_le_mul_left hz h
theorem zs5 (a b x:Pt):dotZ (subZ b a) (subZ b a)*(x.x - a.x)=dotZ (subZ x a) (subZ b a)*(b.x - a.x) - (b.z - a.z)*zbs a b x ∧
  dotZ (subZ b a) (subZ b a)*(x.z - a.z)=dotZ (subZ x a) (subZ b a)*(b.z - a.z)+(b.x - a.x)*zbs a b x:=by
 unfold dotZ subZ zbs
 dsimp only
 constructor <;> grind
theorem zrD (a b x:Pt):dotZ (subZ x a) (subZ b a)*dotZ (subZ x a) (subZ b a)=dotZ (subZ x a) (subZ x a)*dotZ (subZ b a) (subZ b a) - zbs a b x*zbs a b x:=by
 unfold dotZ subZ zbs
 dsimp only
 grind
theorem zpi {a b:Pt} (h:a≠b):0 < dotZ (subZ b a) (subZ b a):=by
 unfold dotZ subZ
 dsimp only
 have h1:=zwk (b.x - a.x)
 have h2:=zwk (b.z - a.z)
 rcases Int.lt_or_eq_of_le (Int.add_nonneg h1 h2) with h3 | h3
 ·exact h3
 ·exfalso
  have e1:(b.x - a.x)*(b.x - a.x)=0:=by omega
  have e2:(b.z - a.z)*(b.z - a.z)=0:=by omega
  have e1:b.x - a.x=0:=by rcases Int.mul_eq_zero.1 e1 with h | h <;> exact h
  have e2:b.z - a.z=0:=by rcases Int.mul_eq_zero.1 e2 with h | h <;> exact h
  apply h
  cases a; cases b
  simp only [Pt.mk.injEq]
  dsimp only at *
  omega
def OnS (x a b:Pt):Prop:=∃ D t,OnH x a b D t
theorem zs6 {a b x:Pt} (h0:zbs a b x=0) (h1:0≤dotZ (subZ x a) (subZ b a)) (h2:dotZ (subZ x a) (subZ b a) < dotZ (subZ b a) (subZ b a)):OnS x a b:=by
 obtain⟨e1,e2⟩:=zs5 a b x
 rw [h0] at e1 e2
 exact⟨_,_,by omega,h1,h2,by rw [e1]; omega,by rw [e2]; omega⟩
theorem zuq {a b x:Pt} {D t:Int} (h:OnH x a b D t):D*dotZ (subZ x a) (subZ b a)=t*dotZ (subZ b a) (subZ b a)∧D*(D*dotZ (subZ x a) (subZ x a))=t*t*dotZ (subZ b a) (subZ b a):=by
 have e1:=h.ex
 have e2:=h.ez
 unfold dotZ subZ
 dsimp only
 generalize x.x - a.x=u at *
 generalize x.z - a.z=v at *
 generalize b.x - a.x=d at *
 generalize b.z - a.z=f at *
 constructor
 ·calc D*(u*d+v*f)=(D*u)*d+(D*v)*f:=by grind
   _=_:=by rw [e1,e2]; grind
 ·calc D*(D*(u*u+v*v))=(D*u)*(D*u)+(D*v)*(D*v):=by grind
   _=_:=by rw [e1,e2]; grind
theorem zgz {a b x:Pt} {D t:Int} (h:OnH x a b D t):zbs a b x=0:=by
 have:=h.lin a b
 rw [zdd,zdc,Int.mul_zero,Int.mul_zero,Int.add_zero] at this
 exact zmm h.pos this
theorem zmq {a b x:Pt} (ha:farB a=false) (hb:farB b=false) (hx:farB x=false) (hab:a≠b):onE x (a,b)=true↔OnS x a b:=by
 have i1:inR 2000 a:=by have:=zeQ ha; unfold inR; omega
 have i2:inR 2000 b:=by have:=zeQ hb; unfold inR; omega
 have i3:inR 2000 x:=by have:=zeQ hx; unfold inR; omega
 have hd:=zpi hab
 unfold onE
 dsimp only
 rw [zks (by omega) i2 i1,zks (by omega) i3 i1]
 have j1:=zkt i2 i1
 have j2:=zkt i3 i1
 rw [zkM (by omega) (by omega) j1 j2,zl0 (by omega) (by omega) j2 j1,zl0 (by omega) (by omega) j2 j2,zl0 (by omega) (by omega) j1 j1]
 have hc:zja (subZ b a) (subZ x a)=zbs a b x:=by
  unfold zja subZ zbs
  dsimp only
 rw [hc]
 simp only [Bool.and_eq_true,decide_eq_true_eq]
 constructor
 ·rintro ⟨⟨h0,h1⟩,h2⟩
  refine zs6 h0 h1 (zxA ?_ (by omega))
  have hl:=zrD a b x
  rw [h0] at hl
  have:=Int.mul_lt_mul_of_pos_right h2 hd
  omega
 ·rintro ⟨D,t,h⟩
  obtain⟨e1,e2⟩:=zuq h
  refine⟨⟨zgz h,?_⟩,?_⟩
  ·refine zio h.pos ?_
   rw [e1]
   exact Int.mul_nonneg h.t0 (by omega)
  ·have hp:=h.pos
   refine Classical.byContradiction fun hn=>?_
   have a1:D*D*dotZ (subZ b a) (subZ b a)≤D*(D*dotZ (subZ x a) (subZ x a)):=by
    rw [Int.mul_assoc]
    exact Int.mul_le_mul_of_nonneg_left (Int.mul_le_mul_of_nonneg_left (by omega) (by omega)) (by omega)
   rw [e2] at a1
   have a2:t*t < D*D:=by
    have:=Int.mul_le_mul (show t≤D - 1 by have:=h.t1; omega) (show t≤D - 1 by have:=h.t1; omega) h.t0 (by omega)
    have h3:(D - 1)*(D - 1)=D*D - D - D+1:=by grind
    omega
   have:=Int.mul_lt_mul_of_pos_right a2 hd
   omega
theorem zmX {u d:Int} (h1:min 0 d≤u) (h2:u≤max 0 d):0≤u*d∧u*d≤d*d:=by
 rcases Int.le_total 0 d with h | h
 ·exact⟨Int.mul_nonneg (by omega) h,Int.mul_le_mul_of_nonneg_right (by omega) h⟩
 ·have a:=Int.mul_nonneg (show 0≤-u by omega) (show 0≤-d by omega)
  have b:=Int.mul_le_mul_of_nonneg_right (show -u≤-d by omega) (show 0≤-d by omega)
  rw [Int.neg_mul_neg] at a b
  rw [Int.neg_mul_neg] at b
  exact⟨a,b⟩
theorem zmY {D t u d:Int} (hD:0 < D) (h0:0≤t) (h1:t≤D) (h:D*u=t*d):min 0 d≤u∧u≤max 0 d:=by
 rcases Int.le_total 0 d with hd | hd
 ·have a:0≤u:=zio hD (by rw [h]; exact Int.mul_nonneg h0 hd)
  have b:u≤d:=zlg hD (by rw [h]; exact Int.mul_le_mul_of_nonneg_right h1 hd)
  omega
 ·have a:u≤0:=ziq hD (by rw [h]; exact Int.mul_nonpos_of_nonneg_of_nonpos h0 hd)
  have b:d≤u:=zlg hD (by rw [h]; exact Int.mul_le_mul_of_nonpos_right h1 hd)
  omega
theorem zga {a b x:Pt} (ha:farB a=false) (hb:farB b=false) (hx:farB x=false) (hab:a≠b):ronB a b x=true↔OnS x a b∨x=b:=by
 have i1:inR 2000 a:=by have:=zeQ ha; unfold inR; omega
 have i2:inR 2000 b:=by have:=zeQ hb; unfold inR; omega
 have i3:inR 2000 x:=by have:=zeQ hx; unfold inR; omega
 have hd:=zpi hab
 unfold ronB
 rw [znS (by omega) i1 i2 i3]
 simp only [Bool.and_eq_true,decide_eq_true_eq]
 constructor
 ·rintro ⟨⟨h0,h1,h2⟩,h3,h4⟩
  obtain⟨c1,c2⟩:=zmX (u:=x.x - a.x) (d:=b.x - a.x) (by omega) (by omega)
  obtain⟨c3,c4⟩:=zmX (u:=x.z - a.z) (d:=b.z - a.z) (by omega) (by omega)
  have d1:0≤dotZ (subZ x a) (subZ b a):=by
   unfold dotZ subZ; dsimp only; omega
  have d2:dotZ (subZ x a) (subZ b a)≤dotZ (subZ b a) (subZ b a):=by
   unfold dotZ subZ; dsimp only; omega
  rcases Int.lt_or_eq_of_le d2 with d3 | d3
  ·exact .inl (zs6 h0 d1 d3)
  ·refine .inr ?_
   obtain⟨e1,e2⟩:=zs5 a b x
   rw [h0,d3,Int.mul_zero] at e1 e2
   have f1:=Int.eq_of_mul_eq_mul_left (by omega) (show dotZ (subZ b a) (subZ b a)*(x.x - a.x)=dotZ (subZ b a) (subZ b a)*(b.x - a.x) by omega)
   have f2:=Int.eq_of_mul_eq_mul_left (by omega) (show dotZ (subZ b a) (subZ b a)*(x.z - a.z)=dotZ (subZ b a) (subZ b a)*(b.z - a.z) by omega)
   cases x; cases b
   simp only [Pt.mk.injEq]
   dsimp only at *
   omega
 ·rintro (⟨D,t,h⟩ | rfl)
  ·obtain⟨c1,c2⟩:=zmY h.pos h.t0 (by have:=h.t1; omega) h.ex
   obtain⟨c3,c4⟩:=zmY h.pos h.t0 (by have:=h.t1; omega) h.ez
   exact⟨⟨zgz h,by omega,by omega⟩,by omega,by omega⟩
  ·rw [zdc]
   omega
structure Good (l:List Pt):Prop where
 near:Near l
 cvx:Cvx l
 len:3≤l.length
section
variable {l:List Pt} (g:Good l)
include g
theorem Good.far (i:Nat):farB (cor l i)=false:=g.near _ (ztw (by have:=g.len; omega) i)
theorem Good.ne (i:Nat):cor l i≠cor l (i+1):=fun h=>by
 have:=g.cvx.edge i 2 (by omega) (by have:=g.len; omega)
 rw [h,zg5] at this
 omega
abbrev BP (l:List Pt) (x:Pt) (i:Nat):Prop:=OnS x (cor l i) (cor l (i+1))
omit g in
theorem BP.congr {x:Pt} {i j:Nat} (h:BP l x i) (hij:i % l.length=j % l.length):BP l x j:=by
 have e1:cor l i=cor l j:=ze1 hij
 have e2:cor l (i+1)=cor l (j+1):=ze1 (by rw [←Nat.mod_add_mod,hij,Nat.mod_add_mod])
 unfold BP at *
 rw [←e1,←e2]
 exact h
theorem Good.zero {x:Pt} {i k:Nat} (hk:k < l.length) (h:BP l x (i+k)) (h0:zbs (cor l i) (cor l (i+1)) x=0):k=0∨(k=1∧x=cor l (i+1)):=by
 obtain⟨D,t,h⟩:=h
 rcases zpk g.cvx g.len hk h h0 with h1 | ⟨h1,h2⟩
 ·exact .inl h1
 ·subst h1; subst h2; exact .inr ⟨rfl,h.start⟩
omit g in
theorem zit {n i j:Nat} (hi:i < n) (_:j < n):j % n=(i+(if i≤j then j - i else j+n - i)) % n:=by
 split
 ·rw [show i+(j - i)=j from by omega]
 ·rw [show i+(j+n - i)=j+n from by omega,Nat.add_mod_right]
theorem Good.uniq {x:Pt} {i j:Nat} (hi:i < l.length) (hj:j < l.length) (h1:BP l x i) (h2:BP l x j):i=j:=by
 have s1:zbs (cor l i) (cor l (i+1)) x=0:=by obtain⟨D,t,h⟩:=h1; exact zgz h
 have s2:zbs (cor l j) (cor l (j+1)) x=0:=by obtain⟨D,t,h⟩:=h2; exact zgz h
 have a:=g.zero (by split <;> omega) (h2.congr (zit hi hj)) s1
 have b:=g.zero (by split <;> omega) (h1.congr (zit hj hi)) s2
 have:=g.len
 rcases a with a | ⟨a,_⟩ <;> rcases b with b | ⟨b,_⟩ <;> (split at a <;> split at b <;> omega)
theorem Good.edge {x:Pt} (h:0≤zdw l x):∃ i:Nat,zdw l x=(i:Int)∧i < l.length∧BP l x i∧farB x=false:=by
 have hf:farB x=false:=by
  cases hf:farB x with
  | false=>rfl
  | true=>rw [zdw,if_pos hf] at h; omega
 have hl:=(ztE (l:=l) (x:=x)).1
 rw [zdw,if_neg (by rw [hf]; exact Bool.false_ne_true)] at h hl ⊢
 unfold zbJ at h hl ⊢
 split at h
 ·rename_i ha
  rw [if_pos ha] at hl
  rw [if_pos ha]
  refine⟨_,rfl,by omega,?_,hf⟩
  have hlt:(zdj l).findIdx (onE x) < (zdj l).length:=List.findIdx_lt_length_of_exists (by simpa using ha)
  have hp:onE x (zdj l)[(zdj l).findIdx (onE x)]=true:=List.findIdx_getElem
  have hg:=zen (l:=l) (i:=(zdj l).findIdx (onE x)) (by omega)
  have he:(zdj l)[(zdj l).findIdx (onE x)]=(cor l ((zdj l).findIdx (onE x)),cor l ((zdj l).findIdx (onE x)+1)):=(List.getElem?_eq_some_iff.1 hg).2
  rw [he] at hp
  exact(zmq (g.far _) (g.far _) hf (g.ne _)).1 hp
 ·omega
theorem Good.edge_at {x:Pt} {i:Nat} (hf:farB x=false) (hi:i < l.length) (h:BP l x i):zdw l x=(i:Int):=by
 rw [zdw,if_neg (by rw [hf]; exact Bool.false_ne_true)]
 refine zro (zen hi) (fun j y hj hy=>?_) ((zmq (g.far _) (g.far _) hf (g.ne _)).2 h)
 rw [zen (by omega)] at hy
 cases hy
 cases ho:onE x (cor l j,cor l (j+1)) with
 | false=>rfl
 | true=>
  have:=g.uniq hi (by omega) h ((zmq (g.far _) (g.far _) hf (g.ne _)).1 ho)
  omega
omit g in
theorem ze2 {i:Nat} (hi:i < l.length):ptAt l (i:Int)=cor l i∧zj9 l (i:Int)=cor l (i+1):=⟨zgC hi,zqc i⟩
theorem Good.border {x:Pt}:znJ l x=decide (0≤zdw l x):=by
 rw [Bool.eq_iff_iff,decide_eq_true_eq]
 constructor
 ·intro h
  unfold znJ zqu at h
  rw [Bool.and_eq_true,Bool.not_eq_true',Bool.not_eq_true'] at h
  obtain⟨hf,ha⟩:=h
  have hex:∃ i,i < l.length∧ronB (ptAt l (i:Nat)) (zj9 l (i:Nat)) x=true:=Classical.byContradiction fun hn=>by
   rw [zdN (fun i hi=>?_)] at ha
   ·cases ha
   ·cases hr:ronB (ptAt l (i:Nat)) (zj9 l (i:Nat)) x with
    | false=>rfl
    | true=>exact absurd ⟨i,hi,hr⟩ hn
  obtain⟨i,hi,hr⟩:=hex
  rw [(ze2 hi).1,(ze2 hi).2,zga (g.far _) (g.far _) hf (g.ne _)] at hr
  rcases hr with hr | hr
  ·rw [g.edge_at hf hi hr]; omega
  ·have hlt:(i+1) % l.length < l.length:=Nat.mod_lt _ (by omega)
   have:BP l x (i+1):=⟨1,0,by rw [hr]; exact OnH.at 1 (by omega)⟩
   rw [g.edge_at hf hlt (this.congr (Nat.mod_mod _ _).symm)]; omega
 ·intro h
  obtain⟨i,_,hi,hb,hf⟩:=g.edge h
  refine zqv (i:=(i:Int)) hf (by omega) (by omega) ?_
  rw [(ze2 hi).1,(ze2 hi).2,zga (g.far _) (g.far _) hf (g.ne _)]
  exact .inl hb
theorem Good.line {x:Pt} {a i:Nat} (hf:farB x=false) (ha:a < l.length) (hb:BP l x a) (hi:i < l.length):zbs (cor l i) (cor l (i+1)) x=0↔ronB (cor l i) (cor l (i+1)) x=true:=by
 rw [zga (g.far _) (g.far _) hf (g.ne _)]
 constructor
 ·intro h0
  rcases g.zero (by split <;> omega) (hb.congr (zit hi ha)) h0 with h1 | ⟨_,h2⟩
  ·have:a=i:=by split at h1 <;> omega
   subst this; exact .inl hb
  ·exact .inr h2
 ·rintro (⟨D,t,h⟩ | rfl)
  ·exact zgz h
  ·rw [zdc]
theorem Good.apart {p q:Pt} (hp:0≤zdw l p) (hq:0≤zdw l q):zhI l p q=zmx l p q:=by
 obtain⟨a,_,ha,hbp,hfp⟩:=g.edge hp
 obtain⟨b,_,hb,hbq,hfq⟩:=g.edge hq
 have i1:inR 2000 p:=by have:=zeQ hfp; unfold inR; omega
 have i2:inR 2000 q:=by have:=zeQ hfq; unfold inR; omega
 have ic:∀ i,inR 2000 (cor l i):=fun i=>by have:=zeQ (g.far i); unfold inR; omega
 have key:∀ i,i < l.length→zto p q (cor l i,cor l (i+1))=zuC l p q (i:Nat):=fun i hi=>by
  unfold zto zuC
  rw [(ze2 hi).1,(ze2 hi).2,Bool.eq_iff_iff]
  simp only [Bool.and_eq_true,decide_eq_true_eq]
  rw [znY (by omega) (ic _) (ic _) i1,znY (by omega) (ic _) (ic _) i2,g.line hfp ha hbp hi,g.line hfq hb hbq hi]
 unfold zhI zmx
 rw [Bool.eq_iff_iff,Bool.not_eq_true',zdf,List.any_eq_false]
 constructor
 ·intro h i hi
  have:=h _ (List.mem_of_getElem? (zen hi))
  rw [key i hi] at this
  simpa using this
 ·intro h e he
  obtain⟨j,hj,rfl⟩:=List.getElem_of_mem he
  rw [zjd] at hj
  have hg:=(List.getElem?_eq_some_iff.1 (zen hj)).2
  rw [hg,key j hj]
  simpa using h j hj
end
end Go.Stn
namespace Go.Stn
open Go Go.K Go.RowKit
section
variable {l:List Pt} (g:Good l)
include g
structure Cut (l:List Pt) (p q:Pt) (a m:Nat) (D s E t:Int):Prop where
 fp:farB p=false
 fq:farB q=false
 ha:a < l.length
 hp:OnH p (cor l a) (cor l (a+1)) D s
 hq:OnH q (cor l (a+m)) (cor l (a+m+1)) E t
 m1:1≤m
 mn:m < l.length
 hs:m+1=l.length→0 < s
 ht:m=1→0 < t
 ep:zdw l p=(a:Int)
 eq:zdw l q=(((a+m) % l.length:Nat):Int)
theorem Good.cut {p q:Pt} (hp:0≤zdw l p) (hq:0≤zdw l q) (hap:zhI l p q=true):∃ a m D s E t,Cut l p q a m D s E t:=by
 have hr:=hap
 rw [g.apart hp hq] at hr
 obtain⟨a,ea,ha,hbp,hfp⟩:=g.edge hp
 obtain⟨b,eb,hb,hbq,hfq⟩:=g.edge hq
 have hbq':=hbq.congr (zit ha hb)
 have hm:(if a≤b then b - a else b+l.length - a) < l.length:=by split <;> omega
 have hmod:=zit ha hb
 generalize hmm:(if a≤b then b - a else b+l.length - a)=m at *
 have no:∀ i,i < l.length→¬ (ronB (cor l i) (cor l (i+1)) p=true∧ronB (cor l i) (cor l (i+1)) q=true):=fun i hi hh=>by
  unfold zmx at hr
  have:=zdf.1 hr i hi
  unfold zuC at this
  rw [(ze2 hi).1,(ze2 hi).2,hh.1,hh.2] at this
  cases this
 have r1:ronB (cor l a) (cor l (a+1)) p=true:=(zga (g.far _) (g.far _) hfp (g.ne _)).2 (.inl hbp)
 have r2:ronB (cor l b) (cor l (b+1)) q=true:=(zga (g.far _) (g.far _) hfq (g.ne _)).2 (.inl hbq)
 obtain⟨D,s,kp⟩:=hbp
 obtain⟨E,t,kq⟩:=hbq'
 have hm0:m≠0:=fun h0=>by
  have:a=b:=by split at hmm <;> omega
  subst this
  exact no a ha ⟨r1,r2⟩
 refine⟨a,m,D,s,E,t,hfp,hfq,ha,kp,kq,by omega,hm,fun hlast=>?_,fun h1=>?_,ea,?_⟩
 ·have h0:=kp.t0
  rcases Int.lt_or_eq_of_le h0 with h | h
  ·exact h
  ·exfalso
   subst h
   have hpa:=kp.start
   have hba:cor l (b+1)=cor l a:=by
    apply ze1
    rw [←Nat.mod_add_mod,hmod,Nat.mod_add_mod,show a+m+1=a+l.length from by omega,Nat.add_mod_right]
   exact no b hb ⟨(zga (g.far _) (g.far _) hfp (g.ne _)).2 (.inr (by rw [hba]; exact hpa)),r2⟩
 ·have h0:=kq.t0
  rcases Int.lt_or_eq_of_le h0 with h | h
  ·exact h
  ·exfalso
   subst h; subst h1
   exact no a ha ⟨r1,(zga (g.far _) (g.far _) hfq (g.ne _)).2 (.inr kq.start)⟩
 ·rw [eb,←hmod,Nat.mod_eq_of_lt hb]
variable {p q:Pt} {a m:Nat} {D s E t:Int} (c:Cut l p q a m D s E t)
include c
theorem Good.left (k:Nat) (h1:m < k) (h2:k < l.length∨(k=l.length∧0 < s)):0 < zbs p q (cor l (a+k)):=by
 rcases h2 with h2 | ⟨rfl,h2⟩
 ·exact zth g.cvx c.hp c.hq c.m1 h1 h2
 ·exact ztf g.cvx c.hp c.hq c.m1 c.mn g.len h2 c.ht
theorem Good.notleft (k:Nat) (h1:1≤k) (h2:k≤m):zbs p q (cor l (a+k))≤0:=ztg g.cvx c.hp c.hq c.mn h1 h2
omit g in
theorem Cut.first (h:s=0):cor l (a+l.length)=p:=by
 have:=c.hp
 rw [h] at this
 rw [ze0]
 exact this.start.symm
theorem Good.side (i:Nat):zg4 p q (cor l i)=zbs p q (cor l i):=by
 have i1:inR 2000 p:=by have:=zeQ c.fp; unfold inR; omega
 have i2:inR 2000 q:=by have:=zeQ c.fq; unfold inR; omega
 have ic:inR 2000 (cor l i):=by have:=zeQ (g.far i); unfold inR; omega
 exact znS (by omega) i1 i2 ic
def arcL (l:List Pt) (p q:Pt) (a m:Nat):List Pt:=((List.range (l.length - m)).map fun j=>cor l (a+m+1+j)).filter fun c=>decide (0 < zg4 p q c)
theorem Good.rn:∀ (k j:Nat),j+k+m=l.length→znL l p k (((a+m) % l.length:Nat)+1+(j:Int))=(((List.range k).map fun i=>cor l (a+m+1+j+i)).filter fun c=>decide (0 < zg4 p q c))++[p]
 | 0,j,_=>rfl
 | k+1,j,hk=>by
  have hat:atL l (((a+m) % l.length:Nat)+1+(j:Int))=cor l (a+m+1+j):=by
   rw [zoU (n:=(a+m) % l.length+(1+j)+l.length) (by omega),ze0,zeB]
   congr 1
   omega
  have hcor:cor l (a+m+1+j)=cor l (a+(m+1+j)):=by congr 1; omega
  have hrec:=Good.rn k (j+1) (by omega)
  rw [show(((a+m) % l.length:Nat):Int)+1+((j+1:Nat):Int)=(((a+m) % l.length:Nat):Int)+1+(j:Int)+1 from by omega] at hrec
  have hmap:(List.range (k+1)).map (fun i=>cor l (a+m+1+j+i))=cor l (a+m+1+j) :: (List.range k).map (fun i=>cor l (a+m+1+(j+1)+i)):=by
   rw [List.range_succ_eq_map,List.map_cons,List.map_map]
   congr 1
   apply List.map_congr_left
   intro i _
   show cor l (a+m+1+j+(i+1))=_
   congr 1
   omega
  unfold znL
  rw [hat,hmap]
  by_cases hlast:m+1+j=l.length∧s=0
  ·have hk0:k=0:=by omega
   subst hk0
   have he:cor l (a+m+1+j)=p:=by rw [hcor,hlast.1]; exact c.first hlast.2
   rw [he,if_pos (zpn.2 rfl)]
   have hz:¬ 0 < zg4 p q p:=by
    have:=g.side c (a+l.length)
    rw [c.first hlast.2,zdd] at this
    omega
   simp [hz]
  ·have hpos:0 < zg4 p q (cor l (a+m+1+j)):=by
    rw [g.side c,hcor]
    refine g.left c _ (by omega) ?_
    by_cases h:m+1+j=l.length
    ·refine .inr ⟨h,?_⟩
     have:=c.hp.t0
     have:s≠0:=fun h0=>hlast ⟨h,h0⟩
     omega
    ·exact .inl (by omega)
   have hne:¬ eqB (cor l (a+m+1+j)) p=true:=fun he=>by
    have:=zpn.1 he
    rw [g.side c,this,zdd] at hpos
    omega
   rw [if_neg hne,hrec]
   simp [hpos]
omit g in
theorem Cut.rt:zqA l q p=l.length - m:=by
 have:=c.ha
 have:=c.mn
 have:=c.m1
 have hlt:=Nat.mod_lt (a+m) (show l.length > 0 by omega)
 unfold zqA
 rw [c.ep,c.eq]
 rcases Nat.lt_or_ge (a+m) l.length with h | h
 ·rw [Nat.mod_eq_of_lt h,if_neg (by omega)]; omega
 ·rw [Nat.mod_eq_sub_mod h,Nat.mod_eq_of_lt (by omega),if_pos (by omega)]; omega
theorem Good.rl:zqz l q p=q :: (arcL l p q a m++[p]):=by
 unfold zqz arcL
 rw [c.rt,c.eq]
 have:=g.rn c (l.length - m) 0 (by have:=c.mn; omega)
 rw [show(((a+m) % l.length:Nat):Int)+1+((0:Nat):Int)=(((a+m) % l.length:Nat):Int)+1 from by omega] at this
 rw [this]
omit g in
theorem Cut.mod (i:Nat):i % l.length=(a+(m+1+(i+(l.length - (a+m+1) % l.length)) % l.length)) % l.length:=by
 have hn:0 < l.length:=by have:=c.mn; omega
 have:=Nat.mod_lt (a+m+1) hn
 rw [show a+(m+1+(i+(l.length - (a+m+1) % l.length)) % l.length)=(a+m+1)+(i+(l.length - (a+m+1) % l.length)) % l.length from by omega,Nat.add_mod_mod,←Nat.mod_add_mod,
  show(a+m+1) % l.length+(i+(l.length - (a+m+1) % l.length))=i+l.length from by omega,Nat.add_mod_right]
theorem Good.fr:zpJ l p q l.length=(((a+m+1) % l.length:Nat):Int):=by
 have hn:0 < l.length:=by have:=c.mn; omega
 have m1:=c.m1
 have mn:=c.mn
 have hlt:=Nat.mod_lt (a+m+1) hn
 have test:∀ i:Nat,i < l.length→(zt9 l p q (i:Int)=true↔i=(a+m+1) % l.length):=fun i hi=>by
  have e1:ptAt l (i:Int)=cor l i:=zgC hi
  have e2:((i:Int)+(l.length:Int) - 1).tmod (l.length:Int)=(((i+l.length - 1) % l.length:Nat):Int):=by
   rw [show(i:Int)+(l.length:Int) - 1=((i+l.length - 1:Nat):Int) from by omega]; rfl
  have e3:ptAt l (((i+l.length - 1) % l.length:Nat):Int)=cor l (i+l.length - 1):=by
   rw [zgC (Nat.mod_lt _ hn),zlZ]
  unfold zt9
  rw [e1,e2,e3,g.side c,g.side c,Bool.and_eq_true,decide_eq_true_eq,decide_eq_true_eq]
  have hmod:=c.mod i
  have hr:=Nat.mod_lt (i+(l.length - (a+m+1) % l.length)) hn
  have hzero:(i+(l.length - (a+m+1) % l.length)) % l.length=0↔i=(a+m+1) % l.length:=by
   rcases Nat.lt_or_ge i ((a+m+1) % l.length) with h | h
   ·rw [Nat.mod_eq_of_lt (by omega)]; omega
   ·rw [Nat.mod_eq_sub_mod (by omega),Nat.mod_eq_of_lt (by omega)]; omega
  rw [←hzero]
  generalize (i+(l.length - (a+m+1) % l.length)) % l.length=r at *
  have c1:cor l i=cor l (a+(m+1+r)):=ze1 hmod
  have c2:cor l (i+l.length - 1)=cor l (a+(m+r)):=by
   apply ze1
   have e:(i+l.length - 1+1) % l.length=(a+(m+r)+1) % l.length:=by
    rw [show i+l.length - 1+1=i+l.length from by omega,Nat.add_mod_right,hmod]; congr 1; omega
   have e':=congrArg (fun x=>(x+(l.length - 1)) % l.length) e
   simp only [Nat.mod_add_mod] at e'
   rw [show i+l.length - 1+1+(l.length - 1)=i+l.length - 1+l.length from by omega,Nat.add_mod_right,show a+(m+r)+1+(l.length - 1)=a+(m+r)+l.length from by omega,Nat.add_mod_right] at e'
   exact e'
  rw [c1,c2]
  constructor
  ·rintro ⟨h1,h2⟩
   refine Classical.byContradiction fun hr0=>?_
   by_cases hb:m+1+r≤l.length
   ·have:=g.left c (m+r) (by omega) (.inl (by omega))
    omega
   ·have:=g.notleft c (m+1+r - l.length) (by omega) (by omega)
    rw [show a+(m+1+r)=a+(m+1+r - l.length)+l.length from by omega,ze0] at h1
    omega
  ·intro h0
   subst h0
   refine⟨g.left c _ (by omega) ?_,g.notleft c _ (by omega) (by omega)⟩
   by_cases h:m+1=l.length
   ·exact .inr ⟨h,c.hs h⟩
   ·exact .inl (by omega)
 have key:∀ n,n≤l.length→(a+m+1) % l.length < n→zpJ l p q n=(((a+m+1) % l.length:Nat):Int):=by
  intro n
  induction n with
  | zero=>intro _ h; omega
  | succ n ih=>
   intro h1 h2
   unfold zpJ
   by_cases h:n=(a+m+1) % l.length
   ·rw [if_pos ((test n (by omega)).2 h),h]
   ·rw [if_neg (fun hc=>h ((test n (by omega)).1 hc))]
    exact ih (by omega) (by omega)
 exact key _ (Nat.le_refl _) hlt
theorem Good.ll:zua l p q=p :: q :: arcL l p q a m:=by
 have m1:=c.m1
 have mn:=c.mn
 unfold zua zv5 arcL
 rw [g.fr c]
 congr 2
 have hpt:∀ j:Nat,zub l (((a+m+1) % l.length:Nat):Int) (j:Int)=cor l (a+m+1+j):=fun j=>by
  unfold zub
  rw [show((((a+m+1) % l.length:Nat):Int)+(j:Int)).tmod (l.length:Int)=((((a+m+1) % l.length+j) % l.length:Nat):Int) from rfl,zgC (Nat.mod_lt _ (by omega)),zlZ,zeB]
 rw [List.map_congr_left (g:=fun j=>cor l (a+m+1+j)) (fun j _=>hpt j)]
 have hsplit:List.range l.length=List.range (l.length - m)++(List.range m).map (fun j=>l.length - m+j):=by
  rw [←List.range_add]; congr 1; omega
 rw [hsplit,List.map_append,List.filter_append,List.map_map]
 have hnil:(((List.range m).map ((fun j=>cor l (a+m+1+j)) ∘ fun j=>l.length - m+j)).filter fun c=>decide (0 < zg4 p q c))=[]:=by
  rw [List.filter_eq_nil_iff]
  intro x hx
  obtain⟨j,hj,rfl⟩:=List.mem_map.1 hx
  rw [List.mem_range] at hj
  have:=g.notleft c (j+1) (by omega) (by omega)
  show ¬ decide (0 < zg4 p q (cor l (a+m+1+(l.length - m+j))))=true
  rw [g.side c,show a+m+1+(l.length - m+j)=a+(j+1)+l.length from by omega,ze0,decide_eq_true_eq]
  omega
 rw [hnil,List.append_nil]
theorem Good.nodup:(p :: q :: arcL l p q a m).Nodup:=by
 have mn:=c.mn
 have hside:∀ x∈arcL l p q a m,0 < zbs p q x:=fun x hx=>by
  obtain⟨h1,h2⟩:=List.mem_filter.1 hx
  obtain⟨j,_,rfl⟩:=List.mem_map.1 h1
  rw [decide_eq_true_eq,g.side c] at h2
  exact h2
 have hpq:p≠q:=fun h=>by
  have:=g.left c (m+1) (by omega) (by
   by_cases h:m+1=l.length
   ·exact .inr ⟨h,c.hs h⟩
   ·exact .inl (by omega))
  rw [h,zg5] at this
  omega
 have cne:∀ i j,i < j→j < i+l.length→cor l i≠cor l j:=fun i j h1 h2 he=>by
  have n3:=g.len
  by_cases h:j=i+1
  ·subst h; exact g.ne i he
  ·have:=g.cvx.tri3 (i:=i) (j:=i+1) (k:=j) (by omega) (by omega) h2
   rw [he,zdd] at this
   omega
 rw [List.nodup_cons,List.nodup_cons]
 refine⟨fun h=>?_,fun h=>?_,?_⟩
 ·rcases List.mem_cons.1 h with h | h
  ·exact hpq h
  ·have:=hside _ h
   rw [zdd] at this
   omega
 ·have:=hside _ h
  rw [zdc] at this
  omega
 ·unfold arcL
  refine List.Pairwise.filter _ ?_
  rw [List.pairwise_map]
  refine List.Pairwise.imp_of_mem ?_ (List.pairwise_lt_range)
  intro i j hi hj hij
  rw [List.mem_range] at hi hj
  exact cne _ _ (by omega) (by omega)
end
theorem Good.parts {l:List Pt} (g:Good l) {p q:Pt} (hp:0≤zdw l p) (hq:0≤zdw l q) (hap:zhI l p q=true) :
  ∃ X,zua l p q=p :: q :: X∧zqz l q p=(q :: X)++[p]∧(p :: q :: X).Nodup:=by
 obtain⟨a,m,D,s,E,t,c⟩:=g.cut hp hq hap
 exact⟨_,g.ll c,g.rl c,g.nodup c⟩
end Go.Stn
namespace Go.Stn
open Go Go.K Go.RowKit
theorem zlY {l:List Pt} (h:0 < l.length) (f:Pt→Pt) (i:Nat):cor (l.map f) i=f (cor l i):=by
 have hi:i % l.length < l.length:=Nat.mod_lt _ h
 unfold cor
 rw [List.length_map]
 simp [hi]
theorem Cvx.sub {l:List Pt} (h:Cvx l) (h0:0 < l.length) (o:Pt):Cvx (l.map fun p=>subZ p o):=by
 intro i k hi h2 hk
 rw [List.length_map] at hi hk
 rw [zlY h0,zlY h0,zlY h0]
 have:=h i k hi h2 hk
 unfold zbs subZ at *
 dsimp only
 grind
end Go.Stn
namespace Go.Stn
open Go Go.K Go.RowKit
structure EdgeF (f:Pt→Pt→Int):Prop where
 anti:∀ u v,f u v = -f v u
 sub:∀ u v x,zbs u v x=0→f u v=f u x+f x v
theorem EdgeF.same {f:Pt→Pt→Int} (h:EdgeF f) (u:Pt):f u u=0:=by have:=h.anti u u; omega
end Go.Stn
namespace Go.Stn
open Go Go.K Go.RowKit
def upB (p:Pt):Bool:=decide (0 < p.z)
def lowL (l:List Pt):List Pt:=l.filter fun p=>!upB p
end Go.Stn
namespace Go.Stn
open Go Go.K Go.RowKit
theorem zoe {α:Type} [Inhabited α] {p:α→Bool} {l:List α} (h:zbJ p l≠-1):0≤zbJ p l∧zbJ p l < (l.length:Int)∧p (l.getD (zbJ p l).toNat default)=true∧∀ j:Nat,(j:Int) < zbJ p l→p (l.getD j default)=false:=by
 unfold zbJ at *
 by_cases ha:l.any p=true
 ·rw [if_pos ha] at *
  have hlt:l.findIdx p < l.length:=List.findIdx_lt_length_of_exists (by simpa using ha)
  have h1:=List.findIdx_getElem (w:=hlt)
  refine⟨by omega,by omega,?_,fun j hj=>?_⟩
  ·rw [show((l.findIdx p:Nat):Int).toNat=l.findIdx p from by omega]
   simpa [hlt] using h1
  ·have hj':j < l.findIdx p:=by omega
   have h2:=List.not_of_lt_findIdx hj'
   have:j < l.length:=by omega
   simpa [this] using h2
 ·rw [if_neg ha] at h
  exact absurd rfl h
theorem zod {α:Type} {p:α→Bool} {l:List α} (h:zbJ p l = -1):∀ x∈l,p x=false:=fun x hx=>by
 unfold zbJ at h
 cases hp:p x with
 | false=>rfl
 | true=>
  rw [if_pos (List.any_eq_true.2 ⟨x,hx,hp⟩)] at h
  omega
structure DelI (l m:List Pt) (i j:Int):Prop where
 i0:0≤i
 ij:i < j
 jl:j≤(l.length:Int)
 len:m.length=l.length
 front:m.take i.toNat=lowL (l.take j.toNat)
 back:m.drop j.toNat=l.drop j.toNat
theorem DelI.get {l m:List Pt} {i j:Int} (h:DelI l m i j):m.getD j.toNat default=l.getD j.toNat default:=by
 have hb:=congrArg (fun x:List Pt=>x[0]?) h.back
 simp only [List.getElem?_drop,Nat.add_zero] at hb
 simp only [List.getD_eq_getElem?_getD,hb]
theorem DelI.keep {l m:List Pt} {i j:Int} (h:DelI l m i j) (hj:j < (l.length:Int)) (hu:upB (m.getD j.toNat default)=false):DelI l (m.set i.toNat (m.getD j.toNat default)) (i+1) (j+1):=by
 have hi0:=h.i0; have hij:=h.ij; have hl:=h.len
 have hg:=h.get
 refine⟨by omega,by omega,by omega,by rw [List.length_set]; exact hl,?_,?_⟩
 ·rw [ziI (l:=l) (by omega) (by omega),ziI (l:=m.set _ _) hi0 (by rw [List.length_set]; omega)]
  unfold lowL
  rw [List.filter_append,List.filter_cons,if_pos (by rw [←hg,hu]; rfl),List.filter_nil]
  have h2:=h.front
  unfold lowL at h2
  rw [←h2,List.take_set_of_le (Nat.le_refl _),hg]
  congr 1
  rw [List.getD_eq_getElem?_getD,List.getElem?_set_self (by omega)]
  rfl
 ·rw [List.drop_set_of_lt (by omega),show(j+1).toNat=j.toNat+1 from by omega,←List.drop_drop,h.back,List.drop_drop]
theorem DelI.skip {l m:List Pt} {i j:Int} (h:DelI l m i j) (hj:j < (l.length:Int)) (hu:upB (m.getD j.toNat default)=true):DelI l m i (j+1):=by
 have hi0:=h.i0; have hij:=h.ij; have hl:=h.len
 have hg:=h.get
 refine⟨by omega,by omega,by omega,hl,?_,?_⟩
 ·rw [ziI (l:=l) (by omega) (by omega)]
  unfold lowL
  rw [List.filter_append,List.filter_cons,if_neg (by rw [←hg,hu]; decide),List.filter_nil,List.append_nil]
  exact h.front
 ·rw [show(j+1).toNat=j.toNat+1 from by omega,←List.drop_drop,h.back,List.drop_drop]
theorem DelI.done {l m:List Pt} {i j:Int} (h:DelI l m i j) (hj:¬ j < (l.length:Int)):m.take i.toNat=lowL l∧i.toNat=(lowL l).length∧m.length=l.length:=by
 have hi0:=h.i0; have hij:=h.ij; have hl:=h.len; have hjl:=h.jl
 have hf:=h.front
 rw [zsm (l:=l) (by omega)] at hf
 have:=congrArg List.length hf
 rw [List.length_take] at this
 exact⟨hf,by omega,hl⟩
end Go.Stn