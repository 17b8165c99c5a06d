/- What the proof of the root text leans on, part 3: the layer, plain facts and walks. No statement of the seat is proved in this text. -/
import Derived.Laws.DeepStrings4
import Derived.Lib.AtoiAll
import Derived.Lib.IndexBytes
import Derived.Lib.IndexLaws
import Derived.Lib.ItoaLen
import Derived.Lib.ItoaNum
import Derived.Lib.Join
import Derived.Lib.SplitLaws
import Derived.Shelf.SlSortCmp.NoneTotal
import Derived.Shelf.Small.Strs
import Derived.Shelf.Strconv.AtoiAll
import Derived.Shelf.Strconv.Itoa3
import Derived.Shelf.Strings.Cut
import Derived.Shelf.Strings.Split
import Derived.Test.YtdcfcfhmkfkgmaaGreatDoorProg
import Derived.WideLaws
import Derived.Test.YtdcfcfhmkfkgmaaGreatDoorPk2
namespace Go.Pln
open Go Go.K Go.RowKit Go.Stn
theorem zgw (a:ByteArray):(a.toList == a.toList)=true:=beq_self_eq_true _
theorem zqK {S:List ShC} {i:Int} (_h0:0≤i) (_h1:i < (S.length:Int)) :
  (decide (0≤zaS (S.take i.toNat) (S.getD i.toNat default).s.name)||!decide (zcX (S.getD i.toNat default).s=0)) = !shAt S i.toNat:=by
 unfold shAt zaS
 rw [ze9]
 have:decide (zcX (S.getD i.toNat default).s=0)=za4 (S.getD i.toNat default).s:=by
  unfold zcX
  cases za4 (S.getD i.toNat default).s <;> rfl
 rw [this]
 cases (S.take i.toNat).any _ <;> cases za4 (S.getD i.toNat default).s <;> rfl
theorem znR {S:List ShC} {i:Int} (h0:0≤i) (h1:i < (S.length:Int)) :
  (!za4 (S.getD i.toNat default).s||!decide (zaS S (S.getD i.toNat default).s.name=i)) = !shAt S i.toNat:=by
 unfold shAt
 have:=zh2 (p:=fun z:ShC=>z.s.name.toList == (S.getD i.toNat default).s.name.toList) h0 h1 (zgw _)
 rw [show zaS S (S.getD i.toNat default).s.name=zbJ (fun z:ShC=>z.s.name.toList == (S.getD i.toNat default).s.name.toList) S from rfl,this]
 cases (S.take i.toNat).any _ <;> cases za4 (S.getD i.toNat default).s <;> rfl
theorem zqY {S:List ShC} {V:List WlC} {i:Int} (h0:0≤i) (h1:i < (V.length:Int)) :
  ((!decide (0≤zaS S (V.getD i.toNat default).s.sheet)||decide (zaM V (V.getD i.toNat default).s.name < i))||!zd1 (zav S (V.getD i.toNat default).s.sheet).s.height (V.getD i.toNat default).s) = !wlAt S V i.toNat:=by
 unfold wlAt
 have h2:=zh2 (p:=fun z:WlC=>z.s.name.toList == (V.getD i.toNat default).s.name.toList) h0 h1 (zgw _)
 have h3:=ztM (p:=fun z:WlC=>z.s.name.toList == (V.getD i.toNat default).s.name.toList) h0 h1 (zgw _)
 rw [show zaM V (V.getD i.toNat default).s.name=zbJ (fun z:WlC=>z.s.name.toList == (V.getD i.toNat default).s.name.toList) V from rfl,h3,h2]
 cases decide (0≤zaS S (V.getD i.toNat default).s.sheet) <;> cases (V.take i.toNat).any _ <;> cases zd1 _ _ <;> rfl
theorem zn4 {S:List ShC} {V:List WlC} {i:Int} (h0:0≤i) (h1:i < (V.length:Int)) :
  ((decide (zaS S (V.getD i.toNat default).s.sheet < 0)||!zd1 (S.getD (zaS S (V.getD i.toNat default).s.sheet).toNat default).s.height (V.getD i.toNat default).s)||!decide (zaM V (V.getD i.toNat default).s.name=i)) = !wlAt S V i.toNat:=by
 unfold wlAt
 have h2:=zh2 (p:=fun z:WlC=>z.s.name.toList == (V.getD i.toNat default).s.name.toList) h0 h1 (zgw _)
 rw [show zaM V (V.getD i.toNat default).s.name=zbJ (fun z:WlC=>z.s.name.toList == (V.getD i.toNat default).s.name.toList) V from rfl,h2]
 by_cases hk:0≤zaS S (V.getD i.toNat default).s.sheet
 ·rw [show zav S (V.getD i.toNat default).s.sheet=S.getD (zaS S (V.getD i.toNat default).s.sheet).toNat default from if_pos hk,decide_eq_true hk,decide_eq_false (show ¬ zaS S (V.getD i.toNat default).s.sheet < 0 by omega)]
  cases (V.take i.toNat).any _ <;> cases zd1 _ _ <;> rfl
 ·rw [decide_eq_false hk,decide_eq_true (show zaS S (V.getD i.toNat default).s.sheet < 0 by omega)]; simp
theorem zox {S:List ShC} {i:Nat} (h:shAt S i=true):za4 (S.getD i default).s=true:=by
 unfold shAt at h
 rw [Bool.and_eq_true] at h
 exact h.2
theorem zg3 {S:List ShC} (h:∀ j:Nat,(j:Int) < (S.length:Int)→shAt S j=true):∀ z∈S,za4 z.s=true:=fun z hz=>by
 obtain⟨j,hj,rfl⟩:=List.getElem_of_mem hz
 have:=zox (h j (by omega))
 simpa [hj] using this
theorem zog {S:List ShC} {n:ByteArray} (h:∀ z∈S,za4 z.s=true):0≤(zav S n).s.height∧(zav S n).s.height≤3000:=
 zrs (P:=fun z=>0≤z.s.height∧z.s.height≤3000) (fun z hz=>by have:=(zaZ (h z hz)).height; omega) (by decide)
theorem zqs {S:List ShC} {V:List WlC} (h:(decide (20 < (S.length:Int))||decide (50 < (V.length:Int)))=true):zc4 S V=false:=by unfold zc4; rw [h]; rfl
theorem znF {S:List ShC} {V:List WlC} {i:Int} (h0:0≤i) (h1:i < (S.length:Int)) (h:shAt S i.toNat=false):zc4 S V=false:=by
 unfold zc4; rw [zc9 (i:=i.toNat) (by omega) h]; simp
theorem znG {S:List ShC} {V:List WlC} {i:Int} (h0:0≤i) (h1:i < (V.length:Int)) (h:wlAt S V i.toNat=false):zc4 S V=false:=by
 unfold zc4; rw [zc9 (i:=i.toNat) (by omega) h,Bool.and_false]
theorem znH {S:List ShC} {V:List WlC} {i k:Int} (hi:¬ i < (S.length:Int)) (hk:¬ k < (V.length:Int)) (h1:∀ j:Nat,(j:Int) < i→shAt S j=true) (h2:∀ j:Nat,(j:Int) < k→wlAt S V j=true) :
  zc4 S V=(decide ((S.length:Int)≤20)&&decide ((V.length:Int)≤50)):=by
 unfold zc4
 rw [zdN (fun j hj=>h1 j (by omega)),zdN (fun j hj=>h2 j (by omega)),Bool.and_true,Bool.and_true,Bool.not_or]
 congr 1 <;> (rw [Bool.eq_iff_iff,Bool.not_eq_true',decide_eq_false_iff_not,decide_eq_true_eq]; omega)
theorem zix {S:List ShC} {V:List WlC} (h:zc4 S V=true):S.length≤20∧V.length≤50∧(∀ j,j < S.length→shAt S j=true)∧(∀ j,j < V.length→wlAt S V j=true):=by
 unfold zc4 at h
 simp only [Bool.and_eq_true,Bool.not_eq_true',Bool.or_eq_false_iff,decide_eq_false_iff_not] at h
 exact⟨by omega,by omega,zdf.1 h.1.2,zdf.1 h.2⟩
theorem zls {S:List ShC} {V:List WlC} (h:zc4 S V=true):∀ z∈S,za4 z.s=true:=zg3 fun j hj=>(zix h).2.2.1 j (by omega)
theorem zoG {S:List ShC} {V:List WlC} {i:Nat} (h:wlAt S V i=true):0≤zaS S (V.getD i default).s.sheet∧zd1 (zav S (V.getD i default).s.sheet).s.height (V.getD i default).s=true:=by
 unfold wlAt at h
 simp only [Bool.and_eq_true,decide_eq_true_eq] at h
 exact⟨h.1.1,h.2⟩
theorem zf8 {S:List ShC} {V:List WlC} (h:zc4 S V=true):∀ z∈V,0≤zaS S z.s.sheet∧zd1 (zav S z.s.sheet).s.height z.s=true:=fun z hz=>by
 obtain⟨j,hj,rfl⟩:=List.getElem_of_mem hz
 have:=zoG ((zix h).2.2.2 j hj)
 simpa [hj] using this
theorem znZ {w:Wll} {b:Bool} (h:(!zdY w.name||!inB w.length 1 100000||decide (20 < (w.opens.length:Int)))=b):zfP w = !b:=by rw [zuO,h]
def rf1 (len top:Int) (o:Opn):Bool:=!inB o.kind 1 4||!inB o.at_ 0 len||!inB o.width 1 len||decide (len < o.at_+o.width)||!inB o.frm 0 top||!inB o.high 1 top||decide (top < o.frm+o.high)
def rf2 (top:Int) (o:Opn):Bool:=(decide (3≤o.kind)&&!decide (o.frm+o.high=top))||(decide (o.kind=4)&&!decide (o.frm=0))
theorem zuD {len top:Int} {o:Opn} (hl:1≤len∧len≤100000):zfY len top o = !(rf1 len top o||rf2 top o):=by
 rw [ztN (zbp.2 hl)]; rfl
theorem zqw {len top:Int} {o:Opn} (h:rf1 len top o=false):(1≤o.kind∧o.kind≤4)∧(0≤o.at_∧o.at_≤len)∧(1≤o.width∧o.width≤len)∧o.at_+o.width≤len∧(0≤o.frm∧o.frm≤top)∧(1≤o.high∧o.high≤top)∧o.frm+o.high≤top:=by
 unfold rf1 at h
 simp only [Bool.or_eq_false_iff,Bool.not_eq_false',zbp,decide_eq_false_iff_not] at h
 omega
theorem zjo {top:Int} {w:Wll} {i:Nat} (h:zfY w.length top (w.opens.getD i default)=false):zcI top w i=false:=by unfold zcI; rw [h]; rfl
theorem zon {top:Int} {w:Wll} {i k:Int} (h0:0≤k) (hk:k < i) (h1:i < (w.opens.length:Int)) (h:zea (w.opens.getD i.toNat default) (w.opens.getD k.toNat default)=true):zcI top w i.toNat=false:=by
 unfold zcI
 have:(w.opens.take i.toNat).any (fun q=>zea (w.opens.getD i.toNat default) q)=true:=List.any_eq_true.2 ⟨w.opens.getD k.toNat default,by
  rw [List.getD_eq_getElem?_getD (l:=w.opens) (i:=k.toNat),List.getElem?_eq_getElem (by omega)]
  exact List.mem_take_iff_getElem.2 ⟨k.toNat,by omega,rfl⟩,h⟩
 rw [this]; simp
theorem zoo {top:Int} {w:Wll} {i k:Int} (h1:i < (w.opens.length:Int)) (hf:zfY w.length top (w.opens.getD i.toNat default)=true) (hk:¬ k < i) (h:∀ j:Nat,(j:Int) < k→zea (w.opens.getD i.toNat default) (w.opens.getD j default)=false):zcI top w i.toNat=true:=by
 unfold zcI
 rw [hf,Bool.true_and,Bool.not_eq_true',List.any_eq_false]
 intro q hq
 obtain⟨j,hj,rfl⟩:=List.mem_take_iff_getElem.1 hq
 have:=h j (by omega)
 rw [List.getD_eq_getElem?_getD (l:=w.opens) (i:=j),List.getElem?_eq_getElem (by omega)] at this
 simpa using this
end Go.Pln
namespace Go.K
open Go Go.RowKit
theorem Ext.grown {w w':World} (h:Ext w w'):∃ q os',w' = Go.Sort.grow (w.drewN q) os':=by
 refine⟨w'.drawn - w.drawn,w'.heap.extract w.heap.size w'.heap.size,?_⟩
 obtain⟨heap,tape,drawn,os,output⟩:=w
 obtain⟨heap',tape',drawn',os',output'⟩:=w'
 have h1:os' = os:=h.os
 have h2:tape' = tape:=h.tape.eq
 have h3:output' = output:=h.output
 have h4:drawn≤drawn':=h.tape.le
 have h5:heap.size≤heap'.size:=h.size
 have h6:∀ k,k < heap.size→heap'[k]?=heap[k]?:=h.block
 subst h1 h2 h3
 show(⟨heap',tape',drawn',os',output'⟩:World)=⟨heap++heap'.extract heap.size heap'.size,tape',drawn+(drawn' - drawn),os',output'⟩
 congr 1
 ·apply Array.ext_getElem?
  intro k
  rw [Array.getElem?_append]
  split
  ·rename_i hk; exact h6 k hk
  ·rename_i hk
   rw [Array.getElem?_extract]
   by_cases hk2:k < heap'.size
   ·rw [if_pos (by omega)]; congr 1; omega
   ·rw [if_neg (by omega),Array.getElem?_eq_none (by omega)]
 ·omega
section
variable {α:Type} [Inhabited α] {k:Nat} {enc:α→List Value}
theorem zjg (he:Enc k enc) (hk:0 < k) (l:List α) (t:Nat) (ht:t < l.length*k):(l.flatMap enc)[t]?=some ((Go.Sort.flatK enc k l.toArray)[t]!):=by
 have hi:t / k < l.length:=Nat.div_lt_of_lt_mul (by rwa [Nat.mul_comm])
 have h:=zeG he l (t / k) l[t / k] (List.getElem?_eq_getElem hi)
 have hm:t % k < k:=Nat.mod_lt _ hk
 have e1:t=t / k*k+t % k:=by rw [Nat.mul_comm]; exact(Nat.div_add_mod t k).symm
 have h2:=congrArg (fun z=>z[t % k]?) h
 simp only [List.getElem?_take,if_pos hm,List.getElem?_drop,←e1] at h2
 rw [h2,Go.Sort.get_flatK _ _ _ _ (by simpa using ht)]
 have e2:l.toArray[t / k]! = l[t / k]:=by simp [hi]
 have hl:t % k < (enc l[t / k]).length:=by rw [he.len]; exact hm
 rw [e2,List.getElem?_eq_getElem hl,List.getElem!_eq_getElem?_getD,List.getElem?_eq_getElem hl]; rfl
theorem zpW (he:Enc k enc) (hk:0 < k) {w:World} {b off:Nat} {cs:List Value} {e:TypeId} {l:List α} (hb:w.heap[b]?=some (.cells cs.toArray e (0,0))) (h3:(cs.drop off).take (l.length*k)=l.flatMap enc) :
  Go.Sort.HoldsK enc k w b off l.toArray:=by
 intro j hj
 rw [Go.Sort.size_flatK] at hj
 have hj':j < l.length*k:=by simpa using hj
 refine⟨?_,?_⟩
 ·rw [zgD hb]
  have h:=zjg he hk l j hj'
  rw [←h3,List.getElem?_take,if_pos hj',List.getElem?_drop] at h
  exact h
 ·unfold World.frozen?
  rw [hb]
  simp
theorem zjs (he:Enc k enc) (hk:0 < k) {w:World} {B:Nat→Prop} {a:Option Addr} {b off cap n:Nat} {cs:List Value} {e:TypeId} {l m:List α} {os:Array Obj} (hml:m.length=l.length) (hBl:∀ i,B i→i < w.heap.size) (ha:a=some ⟨b,off,none⟩) (hB:∀ j,B j↔j=b)
  (hb:w.heap[b]?=some (.cells cs.toArray e (0,0))) (h1:l.length≤cap) (h2:off+cap*k≤cs.length) :
  Mod B w (Go.Proofs.sortWorldK enc k w b off n m.toArray os)∧(Row a k cap e enc m).A B (Go.Proofs.sortWorldK enc k w b off n m.toArray os):=by
 have hbl:b < w.heap.size:=hBl b ((hB b).2 rfl)
 have hh:∀ i,i < w.heap.size→(Go.Proofs.sortWorldK enc k w b off n m.toArray os).heap[i]?=if i=b then some (.cells (Go.Sort.putCells id off (Go.Sort.flatK enc k m.toArray) cs.toArray) e (0,0)) else w.heap[i]?:=fun i hi=>by
  show(w.heap.modify b (Go.Sort.onCells (Go.Sort.putCells id off (Go.Sort.flatK enc k m.toArray)))++os)[i]?=_
  rw [Array.getElem?_append,if_pos (by simpa using hi),Array.getElem?_modify]
  by_cases hib:i=b
  ·rw [if_pos hib.symm,if_pos hib,hib,hb]; rfl
  ·rw [if_neg (fun h=>hib h.symm),if_neg hib]
 refine⟨⟨rfl,⟨rfl,Nat.le_add_right _ _⟩,rfl,?_,fun i hi hnb=>?_⟩,?_⟩
 ·show w.heap.size≤(w.heap.modify b _++os).size
  simp
 ·rw [hh i hi,if_neg (fun h=>hnb ((hB i).2 h))]
 ·refine .inr ⟨b,off,(Go.Sort.putCells id off (Go.Sort.flatK enc k m.toArray) cs.toArray).toList,ha,hB,by rw [hh b hbl,if_pos rfl,Array.toArray_toList],by omega,?_,?_⟩
  ·unfold Go.Sort.putCells
   simpa using h2
  ·have hle:m.length*k≤cap*k:=Nat.mul_le_mul_right _ (by omega)
   apply List.ext_getElem?
   intro t
   by_cases ht:t < m.length*k
   ·rw [List.getElem?_take,if_pos ht,List.getElem?_drop,zjg he hk m t ht]
    unfold Go.Sort.putCells
    rw [Array.getElem?_toList,Array.getElem?_mapIdx,Array.getElem?_eq_getElem (by simp; omega),Option.map_some,if_pos ⟨by omega,by rw [Go.Sort.size_flatK]; simp; omega⟩,show off+t - off=t from by omega]; rfl
   ·rw [List.getElem?_eq_none (by simp; omega),List.getElem?_eq_none (by rw [zcd he]; omega)]
end
end Go.K
namespace Go.K
open Go Go.RowKit
def VarR (b:Nat) (cs:Array Value):Res where
 A B w:=(∀ k,B k↔k=b)∧∃ t fz,w.heap[b]?=some (.cells cs t fz)
 loc _ _ _ h hA:=⟨hA.1,let ⟨t,fz,hb⟩:=hA.2; ⟨t,fz,(h b ((hA.1 b).2 rfl)).trans hb⟩⟩
theorem zEc {P:Program} {w:World} {b:Nat} {cs:Array Value} {n:String} (hn:P.globalNamed n=some b) (h:Has w (VarR b cs)):w.var? P n=some cs:=by
 obtain⟨B,_,_,t,fz,hb⟩:=h
 unfold World.var?
 rw [hn]
 simp [hb]
theorem zD4 {P:Program} {w:World} {b:Nat} {cs:Array Value} {n:String} (hn:P.globalNamed n=some b) (h:w.var? P n=some cs):Has w (VarR b cs):=by
 unfold World.var? at h
 rw [hn] at h
 simp only [Option.bind_some] at h
 split at h
 ·rename_i cs' t fz hb
  cases h
  have hlt:b < w.heap.size:=by
   rcases Nat.lt_or_ge b w.heap.size with h' | h'
   ·exact h'
   ·simp [Array.getElem?_eq_none h'] at hb
  exact⟨(· = b),fun k hk=>by rw [hk]; exact hlt,fun _=>Iff.rfl,t,fz,hb⟩
 ·cases h
theorem zDE {w:World} {k:Nat} {os:Array Obj}:Ext w (Go.Sort.grow (w.drewN k) os):=by
 refine⟨rfl,⟨rfl,Nat.le_add_right _ _⟩,rfl,?_,fun i hi=>?_⟩
 ·show w.heap.size≤(w.heap++os).size
  simp
 ·show(w.heap++os)[i]?=_
  rw [Array.getElem?_append,if_pos hi]
abbrev zB1:Array Value:=(Lib.pow10Tab.map fun z=>Value.int .u64 z).toArray
def zBN (n:Int):ByteArray:=⟨(Lib.itoa n).toArray⟩
open Go.Proofs in
theorem zDp {P:Program} {ρ:Go.Shelf.Ren} (L:LaysM.n171 P ρ) {b:Nat} (hn:P.globalNamed "internal/strconv.uint64pow10" = some b) (n:Int) (w:World) (h0:-9223372036854775808≤n) (h1:n≤9223372036854775807) (hv:Has w (VarR b zB1)) :
  Calls P (ρ.f 171) #[.int .i64 n] w (Pure (.string (zBN n)) w):=by
 refine(Any.strconv_Itoa L n h0 h1 w (zEc hn hv)).mono ?_
 rintro e w' ⟨rfl,k,os,rfl⟩
 exact⟨rfl,zDE⟩
end Go.K
namespace Go.K
open Go Go.RowKit
theorem zxF (cs:List Value) (q k:Nat):cs=cs.take q++(cs.drop q).take k++cs.drop (q+k):=by
 rw [List.append_assoc,←List.drop_drop,List.take_append_drop,List.take_append_drop]
theorem zql {A old C vs:List Value} {f:Nat} (hf:f+vs.length≤old.length):over (A++old++C) (A.length+f) vs=over (A++old++C) A.length (old.take f++vs++old.drop (f+vs.length)):=by
 rw [zg1 _ _ _ (by simp only [List.length_append]; omega),zg1 _ _ _ (by simp only [List.length_append,List.length_take,List.length_drop]; omega)]
 have e1:(A++old++C).take (A.length+f)=A++old.take f:=by
  rw [List.append_assoc,List.take_append,List.take_of_length_le (by omega),Nat.add_sub_cancel_left,List.take_append,show f - old.length=0 from by omega,List.take_zero,List.append_nil]
 have e2:(A++old++C).drop (A.length+f+vs.length)=old.drop (f+vs.length)++C:=by
  rw [List.append_assoc,List.drop_append,List.drop_of_length_le (by omega),List.nil_append,show A.length+f+vs.length - A.length=f+vs.length from by omega,List.drop_append,show f+vs.length - old.length=0 from by omega,List.drop_zero]
 have e3:(A++old++C).take A.length=A:=by rw [List.append_assoc,List.take_left]
 have e4:(A++old++C).drop (A.length+(old.take f++vs++old.drop (f+vs.length)).length)=C:=by
  rw [show(old.take f++vs++old.drop (f+vs.length)).length=old.length from by simp only [List.length_append,List.length_take,List.length_drop]; omega,←List.length_append,List.drop_left]
 rw [e1,e2,e3,e4]
 simp only [List.append_assoc]
section
variable {α:Type} [Inhabited α] {k:Nat} {enc:α→List Value} {c:Cx} {ds:List Deferred} {T:List (Nat×Value)} {H:List Res} {p:Post} {ops:Array Oper} {rest:List Oper} {x y:Operand} {v:Value} {ty:TypeId} {ps:String} {af:Array Edge}
theorem zfG {t e:TypeId} {gg:Bool} {zz:Value} {a:Option Addr} {cap kv f:Nat} {l:List α} {ix:Int} {vs:List Value} {x':α} (i:Nat) (he:Enc k enc) (ht:TF c.P t gg kv zz) (hx:evo T x=some (epx a (ix.toNat*k+f))) (hy:evo T y=some v)
  (hv:v.cells=vs.toArray) (hvl:vs.length=kv) (hfk:f+kv≤k) (hxx:enc x' = (enc (l.getD ix.toNat default)).take f++vs++(enc (l.getD ix.toNat default)).drop (f+vs.length)) (hi:H[i]?=some (Row a k cap e enc l)) (h0:0≤ix) (h1:ix < (l.length:Int))
  (kk:GK c ds (KL c ops p rest) T (H.set i (Row a k cap e enc (l.set ix.toNat x')))):GK c ds (KL c ops p (⟨none,.store t x y,ty,ps,af,none⟩ :: rest)) T H:=by
 refine zjZ rfl (fun A w ha hw=>?_) kk
 obtain⟨B,hF⟩:=hw.foc hi
 have hlt:ix.toNat < l.length:=by omega
 rcases hF.A with ⟨_,_,rfl⟩ | ⟨b,off,cs,hab,hB,hbk,g1,g2,g3⟩
 ·simp at hlt
 subst hab
 have hone:vs.all zgS=true:=by
  have:=he.one x'
  rw [hxx,List.all_append,List.all_append,Bool.and_eq_true,Bool.and_eq_true] at this
  exact this.1.2
 have hkk:(ix.toNat+1)*k≤cap*k:=Nat.mul_le_mul_right _ (by omega)
 rw [Nat.add_mul,Nat.one_mul] at hkk
 obtain⟨w',hr,hm,hb'⟩:=zb7 (P:=c.P) (o:=off+(ix.toNat*k+f)) vs cs 0 w hbk (by omega) hone
 have hrun:(execOp A.eval ⟨none,.store t x y,ty,ps,af,none⟩).run c.P w=.ok .skip w':=by
  simp only [execOp,ha.eval hx,ha.eval hy,epx,Option.map_some,zb2]
  have h3:(Instr.storeAt t (.pointer (some ⟨b,off+(ix.toNat*k+f),none⟩)) v).run c.P w=.ok () w':=by
   unfold Instr.storeAt
   rw [zal (v:=⟨b,off+(ix.toNat*k+f),none⟩) (w':=w) rfl]
   unfold storeVar
   rw [zal ht.size]
   have:v.cells.size=kv:=by rw [hv]; simpa using hvl
   simp only [this,ne_eq,not_true_eq_false,if_false]
   rw [hv]
   exact hr
  rw [zal h3]
  rfl
 unfold Yld
 rw [hrun]
 have hold:l[ix.toNat]?=some (l.getD ix.toNat default):=zeF h0 h1
 have hcell:(cs.drop (off+ix.toNat*k)).take k=enc (l.getD ix.toNat default):=by
  have h:=zeG he l ix.toNat _ hold
  have hik:(ix.toNat+1)*k≤l.length*k:=Nat.mul_le_mul_right _ hlt
  rw [Nat.add_mul,Nat.one_mul] at hik
  rw [←g3,List.drop_take,List.take_take,Nat.min_eq_left (by omega),List.drop_drop] at h
  exact h
 have hol:(enc (l.getD ix.toNat default)).length=k:=he.len _
 have hcs:cs=cs.take (off+ix.toNat*k)++enc (l.getD ix.toNat default)++cs.drop (off+ix.toNat*k+k):=by
  rw [←hcell]; exact zxF cs _ _
 have hpl:(cs.take (off+ix.toNat*k)).length=off+ix.toNat*k:=by rw [List.length_take]; omega
 have hov:over cs (off+(ix.toNat*k+f)) vs=over cs (off+ix.toNat*k) (enc x'):=by
  have h:=zql (A:=cs.take (off+ix.toNat*k)) (old:=enc (l.getD ix.toNat default)) (C:=cs.drop (off+ix.toNat*k+k)) (vs:=vs) (f:=f) (by rw [hol]; omega)
  rw [←hcs,hpl,←hxx] at h
  rw [←Nat.add_assoc]
  exact h
 rw [Nat.add_zero,hov] at hb'
 have hxl:(enc x').length=k:=he.len x'
 refine hF.upd hi ⟨hm.os,hm.tape,hm.output,hm.size,fun j hj hbj=>hm.same j hj (fun h=>hbj ((hB j).2 h))⟩ (fun j hj=>.inl hj) (.inr ⟨b,off,over cs (off+ix.toNat*k) (enc x'),rfl,hB,hb',by simpa using g1,by rw [zcL]; exact g2,?_⟩)
 rw [List.length_set,zg1 (enc x') cs _ (by omega),hxl]
 have hll:l.length*k≤cap*k:=Nat.mul_le_mul_right _ g1
 have hik:ix.toNat*k+k≤l.length*k:=by
  have:(ix.toNat+1)*k≤l.length*k:=Nat.mul_le_mul_right _ hlt
  rwa [Nat.add_mul,Nat.one_mul] at this
 have e1:(cs.take (off+ix.toNat*k)).drop off=(l.take ix.toNat).flatMap enc:=by
  rw [List.drop_take,Nat.add_sub_cancel_left,←zh6 he (by omega),←g3,List.take_take,Nat.min_eq_left (by omega)]
 have hAl:((l.take ix.toNat).flatMap enc).length=ix.toNat*k:=by rw [zcd he,List.length_take,Nat.min_eq_left (by omega)]
 have e2:(cs.take (off+ix.toNat*k)++enc x' ++ cs.drop (off+ix.toNat*k+k)).drop off=(l.take ix.toNat).flatMap enc++(enc x' ++ cs.drop (off+ix.toNat*k+k)):=by
  rw [List.append_assoc,List.drop_append_of_le_length (by rw [List.length_take]; omega),e1]
 rw [e2,List.take_append,hAl,List.take_of_length_le (l:=(l.take ix.toNat).flatMap enc) (by rw [hAl]; omega),List.take_append,hxl,List.take_of_length_le (l:=enc x') (by rw [hxl]; omega)]
 have e3:(cs.drop (off+ix.toNat*k+k)).take (l.length*k - ix.toNat*k - k)=(l.drop (ix.toNat+1)).flatMap enc:=by
  rw [←zh5 he (by omega),←g3,List.drop_take,List.drop_drop,Nat.add_mul,Nat.one_mul]
  congr 1
  ·omega
  ·rw [Nat.add_assoc]
 rw [e3,List.set_eq_take_append_cons_drop,if_pos hlt,List.flatMap_append,List.flatMap_cons]
end
end Go.K
namespace Go.K
open Go Go.RowKit Go.Shelf Go.Proofs
theorem ziY (w:World) (e:TypeId) (s:ByteArray):Ext w (Lib.bytesWorld w e s):=by
 have h1:Ext w (w.drew.alloc (.cells (Lib.bytesCells w e s) e)):=⟨rfl,⟨rfl,Nat.le_succ _⟩,rfl,by simp,fun j hj=>heap_alloc_old w.drew _ hj⟩
 have hw:Lib.bytesWorld w e s={ (w.drew.alloc (.cells (Lib.bytesCells w e s) e)) with heap:=(Lib.bytesWorld w e s).heap }:=by
  unfold Lib.bytesWorld World.freeze
  rfl
 rw [hw]
 refine⟨rfl,⟨rfl,Nat.le_succ _⟩,rfl,?_,fun k hk=>?_⟩
 ·show w.heap.size≤(Lib.bytesWorld w e s).heap.size
  unfold Lib.bytesWorld World.freeze
  simp
 ·show(Lib.bytesWorld w e s).heap[k]?=_
  unfold Lib.bytesWorld World.freeze
  refine Array.getElem?_modify.trans ?_
  rw [if_neg (by show ¬ w.heap.size=k; omega)]
  exact h1.block k hk
end Go.K
namespace Go.Txt
open Go
def cutL (b:UInt8):List UInt8→List (List UInt8)
 | []=>[[]]
 | x :: r=>if x=b then [] :: cutL b r else match cutL b r with
  | []=>[[x]]
  | h :: t=>(x :: h) :: t
theorem zeD {b:UInt8}:∀ {p:List UInt8},(∀ x∈p,x≠b)→cutL b p=[p]
 | [],_=>rfl
 | x :: r,h=>by
  rw [cutL,if_neg (h x (by simp)),zeD (p:=r) (fun y hy=>h y (by simp [hy]))]
theorem zhx {b:UInt8} {r:List UInt8}:∀ {p:List UInt8},(∀ x∈p,x≠b)→cutL b (p++b :: r)=p :: cutL b r
 | [],_=>by rw [List.nil_append,cutL,if_pos rfl]
 | x :: q,h=>by
  rw [List.cons_append,cutL,if_neg (h x (by simp)),zhx (p:=q) (fun y hy=>h y (by simp [hy]))]
theorem zm4 (b:UInt8) (l:List UInt8):0 < (cutL b l).length:=by
 induction l with
 | nil=>simp [cutL]
 | cons x r ih=>
  rw [cutL]
  split
  ·simp
  ·split <;> simp
theorem zm5 (l:List UInt8) (b:UInt8):(∃ p r,l=p++b :: r∧(∀ x∈p,x≠b)∧Lib.cut l [b]=(p,r,true))∨((∀ x∈l,x≠b)∧Lib.cut l [b]=(l,[],false)):=by
 have hge:=Lib.indexByte_ge l b
 by_cases h:Lib.indexByte l b = -1
 ·right
  refine⟨fun x hx e=>?_,?_⟩
  ·obtain⟨k,hk,rfl⟩:=List.getElem_of_mem hx
   exact Lib.indexByte_none h k (by rw [List.getElem?_eq_getElem hk,e])
  ·unfold Lib.cut
   rw [Lib.index_one,if_neg (by omega)]
 ·left
  obtain⟨o,ho⟩:∃ o:Nat,Lib.indexByte l b=o:=⟨(Lib.indexByte l b).toNat,by omega⟩
  obtain⟨h1,h2⟩:=Lib.indexByte_some ho
  have hlt:o < l.length:=(List.getElem?_eq_some_iff.1 h1).1
  refine⟨l.take o,l.drop (o+1),?_,fun x hx e=>?_,?_⟩
  ·have:l.drop o=b :: l.drop (o+1):=by
    rw [List.drop_eq_getElem_cons hlt]
    congr 1
    exact(List.getElem?_eq_some_iff.1 h1).2
   rw [←this,List.take_append_drop]
  ·obtain⟨k,hk,rfl⟩:=List.mem_take_iff_getElem.1 hx
   exact h2 k (by omega) (by rw [List.getElem?_eq_getElem (by omega),e])
  ·unfold Lib.cut
   rw [Lib.index_one,ho,if_pos (by omega)]
   simp
theorem split_spec (c:UInt8):∀ (k:Nat) (l:List UInt8),l.count c=k→Lib.splitK [c] 0 k l=cutL c l
 | 0,l,h=>by
  rw [Lib.splitK,zeD]
  intro x hx e
  subst e
  exact absurd (List.count_pos_iff.2 hx) (by omega)
 | k+1,l,h=>by
  rw [Lib.splitK,Lib.index_one]
  have hge:=Lib.indexByte_ge l c
  have hm:¬ Lib.indexByte l c = -1:=fun e=>by
   have h0:c∈l:=List.count_pos_iff.1 (by omega)
   obtain⟨j,hj,e2⟩:=List.getElem_of_mem h0
   exact Lib.indexByte_none e j (by rw [List.getElem?_eq_getElem hj,e2])
  rw [if_neg (fun e=>hm (beq_iff_eq.1 e))]
  obtain⟨o,ho⟩:∃ o:Nat,Lib.indexByte l c=o:=⟨(Lib.indexByte l c).toNat,by omega⟩
  obtain⟨h1,h2⟩:=Lib.indexByte_some ho
  have hlt:o < l.length:=(List.getElem?_eq_some_iff.1 h1).1
  have hl:l=l.take o++c :: l.drop (o+1):=by
   have:l.drop o=c :: l.drop (o+1):=by
    rw [List.drop_eq_getElem_cons hlt]
    congr 1
    exact(List.getElem?_eq_some_iff.1 h1).2
   rw [←this,List.take_append_drop]
  have hp:∀ x∈l.take o,x≠c:=fun x hx e=>by
   obtain⟨k,hk,rfl⟩:=List.mem_take_iff_getElem.1 hx
   exact h2 k (by omega) (by rw [List.getElem?_eq_getElem (by omega),e])
  have hc:(l.drop (o+1)).count c=k:=by
   have h3:=congrArg (List.count c) hl
   rw [h,List.count_append,List.count_cons_self,List.count_eq_zero_of_not_mem (fun hx=>hp c hx rfl)] at h3
   omega
  have ih:=split_spec c k (l.drop (o+1)) hc
  rw [ho,Int.toNat_natCast,Nat.add_zero,show o+[c].length=o+1 from rfl,ih]
  conv=>rhs; rw [hl]
  rw [zhx hp]
def ziZ (c:UInt8):Prop:=48≤c.toNat∧c.toNat≤57
instance (c:UInt8):Decidable (ziZ c):=inferInstanceAs (Decidable (_∧_))
def zfQ (acc:Nat) (l:List UInt8):Nat:=l.foldl (fun a c=>a*10+(c.toNat - 48)) acc
theorem zhX (a:Nat) (c:UInt8) (r:List UInt8):zfQ a (c :: r)=zfQ (a*10+(c.toNat - 48)) r:=by unfold zfQ; rw [List.foldl_cons]
theorem zCp (a:Nat) (c:UInt8):zfQ a [c]=a*10+(c.toNat - 48):=by rw [zhX]; rfl
theorem zC6 (l:List UInt8) (a:Nat) (m:List UInt8):zfQ a (l++m)=zfQ (zfQ a l) m:=by unfold zfQ; rw [List.foldl_append]
theorem zDl {u:Nat} (h:u < 10):(UInt8.ofNat (48+u)).toNat=48+u:=by
 rw [UInt8.toNat_ofNat']; omega
theorem zDD (u:Nat):(∀ c∈Lib.decDigits u,ziZ c)∧zfQ 0 (Lib.decDigits u)=u∧(∃ c r,Lib.decDigits u=c :: r∧(c=48→u=0))∧(u=0→Lib.decDigits u=[48]):=by
 induction u using Nat.strongRecOn with
 | _ u ih=>
  rw [Lib.decDigits]
  split
  ·rename_i h
   have hd:=zDl h
   refine⟨fun c hc=>?_,?_,⟨_,_,rfl,fun e=>?_⟩,fun e=>by subst e; rfl⟩
   ·rw [List.mem_singleton] at hc
    subst hc
    unfold ziZ; omega
   ·rw [zCp]; omega
   ·have:=congrArg UInt8.toNat e
    rw [hd] at this
    have h48:(48:UInt8).toNat=48:=rfl
    omega
  ·rename_i h
   obtain⟨h1,h2,⟨c,r,h3,h4⟩,_⟩:=ih (u / 10) (by omega)
   have hd:=zDl (u:=u % 10) (by omega)
   refine⟨fun x hx=>?_,?_,⟨c,r++[UInt8.ofNat (48+u % 10)],by rw [h3]; rfl,fun e=>?_⟩,fun e=>by omega⟩
   ·rcases List.mem_append.1 hx with hx | hx
    ·exact h1 x hx
    ·rw [List.mem_singleton] at hx
     subst hx
     unfold ziZ; omega
   ·rw [zC6,h2]
    rw [zCp]; omega
   ·have:=h4 e
    omega
theorem zjp:∀ (l:List UInt8) (acc:Nat),(∀ c∈l,ziZ c)→(acc+1)*10 ^ l.length≤10 ^ 18→Lib.parseUint10 acc l=.ok (zfQ acc l)
 | [],_,_,_=>rfl
 | c :: r,acc,hd,hb=>by
  have hc:=hd c (by simp)
  unfold ziZ at hc
  rw [List.length_cons,Nat.pow_succ,Nat.mul_comm (10 ^ r.length) 10,←Nat.mul_assoc] at hb
  have hp:1≤10 ^ r.length:=Nat.pos_of_ne_zero (by simp)
  have h1:(acc+1)*10≤10 ^ 18:=Nat.le_trans (Nat.le_mul_of_pos_right _ hp) hb
  have h18:(10:Nat) ^ 18=1000000000000000000:=rfl
  rw [Lib.parseUint10,if_pos hc,if_neg (by omega),if_neg (by omega),zhX]
  refine zjp r _ (fun x hx=>hd x (by simp [hx])) (Nat.le_trans (Nat.mul_le_mul_right _ ?_) hb)
  omega
end Go.Txt
namespace Go.K
open Go Go.RowKit Go.Shelf Go.Proofs
abbrev encS (s:ByteArray):List Value:=[.string s]
theorem ztJ:Enc 1 encS:=⟨fun _=>rfl,fun _=>rfl,by decide⟩
def IntV (b:Nat):Res where
 A B w:=(∀ k,B k↔k=b)∧∃ m,w.cell? ⟨b,0,none⟩=some (.int .i64 m)
 loc _ w w' h hA:=⟨hA.1,let ⟨m,hm⟩:=hA.2; ⟨m,by
  have:=h b ((hA.1 b).2 rfl)
  simp only [World.cell?] at hm ⊢
  rw [this]; exact hm⟩⟩
theorem zpo (w:World) (n:Nat):Ext w (w.drewN n):=⟨rfl,⟨rfl,Nat.le_add_right _ _⟩,rfl,Nat.le_refl _,fun _ _=>rfl⟩
section
variable {P:Program} {ρ:Ren}
abbrev mkB (l:List UInt8):ByteArray:=⟨l.toArray⟩
def cutV (s sep:ByteArray):Value:=.tuple #[.string (mkB (Lib.cut s.data.toList sep.data.toList).1),.string (mkB (Lib.cut s.data.toList sep.data.toList).2.1),.bool (Lib.cut s.data.toList sep.data.toList).2.2]
theorem zrk (L:Lays.n145 P ρ) (s sep:ByteArray) (w:World) (hs:s.size < 4294967281) (hm:Has w (IntV (ρ.g 1))):Calls P (ρ.f 145) #[.string s,.string sep] w (Pure (cutV s sep) w):=by
 obtain⟨_,_,_,m,hm⟩:=hm
 refine(Any.strings_Cut L s sep m w hs hm).mono ?_
 rintro e w' ⟨rfl,n,rfl⟩
 exact⟨rfl,zpo w n⟩
def zcn (s:ByteArray) (c:UInt8):List ByteArray:=Lib.splitB ⟨#[c]⟩ 0 (Lib.countB s ⟨#[c]⟩) s
theorem ziG (s:ByteArray) (c:UInt8):(zcn s c).map (·.data.toList)=Txt.cutL c s.data.toList:=by
 unfold zcn
 rw [Lib.splitB_data]
 exact Txt.split_spec c _ _ (by rw [←Lib.count_one])
theorem zmD (L:Lays.n146 P ρ) (hi9:(P.info? (ρ.t 9)).map (fun i=>(i.zero,i.size,i.bytes))=some (some (.string ByteArray.empty),1,16)) (s:ByteArray) (c:UInt8) (w:World) (hs:s.size < 4294967281) (hm:Has w (IntV (ρ.g 1))) :
  Calls P (ρ.f 146) #[.string s,.string ⟨#[c]⟩] w (zcU (fun b:Nat=>.slice (some ⟨b,0,none⟩) (zcn s c).length (zcn s c).length) (fun b=>Row (some ⟨b,0,none⟩) 1 (zcn s c).length (ρ.t 9) encS (zcn s c)) w):=by
 obtain⟨_,_,_,m,hm⟩:=hm
 have hlen:(zcn s c).length=Lib.countB s ⟨#[c]⟩+1:=Lib.splitB_all _ (show 1≤(⟨#[c]⟩:ByteArray).size from Nat.le_refl 1) 0 _ s rfl
 refine(Any.strings_Split L hi9 s ⟨#[c]⟩ m w hs hm (show 1≤(⟨#[c]⟩:ByteArray).size from Nat.le_refl 1)).mono ?_
 rintro e w' ⟨rfl,rfl⟩
 refine⟨w.heap.size,by rw [hlen],zcG _,(· = w.heap.size),fun k hk=>by subst hk; simp,.inr ⟨w.heap.size,0,(zcn s c).map Value.string,rfl,fun _=>Iff.rfl,World.alloc_heap_new w _,Nat.le_refl _,by simp,?_⟩⟩
 rw [List.drop_zero,Nat.mul_one,←List.length_map (f:=Value.string),List.take_length]
 induction zcn s c with
 | nil=>rfl
 | cons x r ih=>rw [List.map_cons,List.flatMap_cons,ih]; rfl
def zv3:Value→Bool
 | .nilIface=>true
 | _=>false
def zdO (s:ByteArray):Int:=match Lib.atoiAll s.data.toList with
 | .ok v=>v
 | .range=>Lib.atoiSat s.data.toList
 | _=>0
end
section
variable {c:Cx} {ds:List Deferred} {T:List (Nat×Value)} {H:List Res} {d:Option Nat} {ty:TypeId} {ps:String} {af:Array Edge} {g:Option (Nat×Bool)} {x y z:Operand}
theorem zjA {t t':TypeId} {v:Value} (ht:c.P.underlying t=some (.interface (c.P.methodsAt t))) (hx:evo T x=some v) (hv:v=.nilIface∨∃ u z,v=.iface u z) :
  Y c ds H T ⟨d,.binOp .eql t x (.const .nilIface) t',ty,ps,af,g⟩ (.bool (zv3 v)):=
 zcz fun a w ha _=>by
  have hxe:=ha.eval hx
  have hye:a.eval (.const .nilIface)=.nilIface:=rfl
  simp only [execOp,hxe,hye]
  rcases hv with rfl | ⟨u,z,rfl⟩
  ·have hg:(eqGuard .eql t x (.const .nilIface) .nilIface .nilIface).run c.P w=.ok () w:=by rw [eqGuard_nil_constR]; rfl
   refine zbu ?_
   rw [zal hg]
   exact run_eql_nil_nil w t ht
  ·have hg:(eqGuard .eql t x (.const .nilIface) (.iface u z) .nilIface).run c.P w=.ok () w:=rfl
   refine zbu ?_
   rw [zal hg]
   exact run_eql_held_nil w t u z ht
end
end Go.K
namespace Go.K
open Go Go.RowKit
abbrev zhZ (p:Nat×Nat):List Value:=[.pointer (some ⟨p.1,p.2,none⟩)]
theorem zbj:Enc 1 zhZ:=⟨fun _=>rfl,fun _=>rfl,by decide⟩
theorem zl2 {α:Type} {k cap:Nat} {enc:α→List Value} {a:Option Addr} {l:List α} {B:Nat→Prop} {w:World} {n:Nat} (h:(zaW a k enc l).A B w) (hc:l.length≤cap) (h1:n≤l.length):(zaW (subA a k n cap) k enc (l.drop n)).A B w:=by
 by_cases hd:l.drop n=[]
 ·exact .inl hd
 ·rcases h with rfl | ⟨b,off,rfl,hB,hx⟩
  ·simp at hd
  ·refine .inr ⟨b,off+n*k,?_,hB,fun i x hi=>?_⟩
   ·unfold subA
    rw [if_neg (fun e=>hd (by rw [List.drop_eq_nil_iff]; omega))]
    simp [zb2]
   ·rw [List.getElem?_drop] at hi
    have:=hx (n+i) x hi
    rwa [show off+n*k+i*k=off+(n+i)*k by rw [Nat.add_mul]; omega]
def Rdr (tb:TypeId) (r:Nat) (ws:List ByteArray):Res where
 A B w:=∃ a1 c1,ws.length≤c1∧(SepR [Box r [.slice a1 ws.length c1] tb,zaW a1 1 encS ws]).A B w
 loc B w w' h hA:=let ⟨a1,c1,h1,h2⟩:=hA; ⟨a1,c1,h1,(SepR [Box r [.slice a1 ws.length c1] tb,zaW a1 1 encS ws]).loc B w w' h h2⟩
section
variable {c:Cx} {ds:List Deferred} {T:List (Nat×Value)} {H:List Res} {K:Act→World→Prop} {tb:TypeId} {r:Nat} {ws:List ByteArray}
theorem zgV (h:∀ a1 c1,ws.length≤c1→GK c ds K T (Box r [.slice a1 ws.length c1] tb :: zaW a1 1 encS ws :: H)):GK c ds K T (Rdr tb r ws :: H):=by
 intro a w ha hw
 obtain⟨hb,B,hB,⟨a1,c1,h1,h2⟩,hr⟩:=hw
 exact h a1 c1 h1 a w ha (Hp.split (L:=[_,_]) ⟨hb,B,hB,h2,hr⟩)
theorem zeH {a1:Option Addr} {c1:Nat} (h1:ws.length≤c1) (h:GK c ds K T (Rdr tb r ws :: H)):GK c ds K T (Box r [.slice a1 ws.length c1] tb :: zaW a1 1 encS ws :: H):=by
 intro a w ha hw
 obtain⟨hb,B,hB,h2,hr⟩:=Hp.pack (L:=[_,_]) (H:=H) hw
 exact h a w ha ⟨hb,B,hB,⟨a1,c1,h1,h2⟩,hr⟩
theorem zoh {a1:Option Addr} {c1:Nat} (h1:ws.length≤c1) (h0:1≤ws.length) (h:GK c ds K T (Rdr tb r (ws.drop 1) :: H)):GK c ds K T (Box r [.slice (subA a1 1 1 c1) (ws.drop 1).length (c1 - 1)] tb :: zaW a1 1 encS ws :: H):=by
 intro a w ha hw
 refine zeH (a1:=subA a1 1 1 c1) (c1:=c1 - 1) (by rw [List.length_drop]; omega) h a w ha ?_
 have h2:=hw.swap
 obtain⟨hb,B,hB,hA,hr⟩:=h2
 exact Hp.swap ⟨hb,B,hB,zl2 hA h1 h0,hr⟩
end
theorem zak {α β:Type} (a:α) (f:α→Except Int β):(Except.ok a >>= f)=f a:=rfl
theorem zcc {α β:Type} (k:Int) (f:α→Except Int β):((Except.error k:Except Int α) >>= f)=.error k:=rfl
end Go.K
namespace Go.Pln
open Go Go.K Go.RowKit Go.Stn
def zdp:List ByteArray→Except Int (ByteArray×List ByteArray)
 | []=>.error 4
 | x :: r=>.ok (x,r)
def sayE (u:ByteArray) (ws:List ByteArray):Except Int (Unit×List ByteArray):=do
 let x ←zdp ws
 if (x.1.toList == u.toList)=true then .ok ((),x.2) else .error 4
def zes (ws:List ByteArray):Except Int (ByteArray×List ByteArray):=do
 let x ←zdp ws
 if zgx x.1=true then .ok (x.1,x.2) else .error 4
def endE (ws:List ByteArray):Except Int (Unit×List ByteArray):=if ws.length=0 then .ok ((),ws) else .error 4
def numE (ws:List ByteArray):Except Int (Int×List ByteArray):=do
 let x ←zdp ws
 if numW x.1=true then .ok (zdO x.1,x.2) else .error 4
def zco:Nat→List ByteArray→Except Int (List Int×List ByteArray)
 | 0,ws=>.ok ([],ws)
 | n+1,ws=>do
  let x ←numE ws
  let y ←zco n x.2
  .ok (x.1 :: y.1,y.2)
def zlz:List Value→List Nat→List Int→List Value
 | cs,[],_=>cs
 | cs,o :: os,l=>zlz (cs.set o (.int .i64 (l.getD 0 0))) os (l.drop 1)
def zfk (l:List ByteArray) (f:Nat) (ws:List ByteArray):Except Int (Int×List ByteArray):=do
 let x ←zdp ws
 if zbJ (fun y=>x.1.toList == y.toList) (l.drop f) < 0 then .error 4 else .ok (zbJ (fun y=>x.1.toList == y.toList) (l.drop f)+f,x.2)
def oneE (u:ByteArray) (n:Nat) (ws:List ByteArray):Except Int (List Int×List ByteArray):=do
 let x ←sayE u ws
 zco n x.2
def wLeast:ByteArray:=⟨#[108,101,97,115,116]⟩
def zbF (acc:List Int):List ByteArray→Except Int (List Int×List ByteArray)
 | []=>.ok (acc,[])
 | x :: r=>if (x.toList == wLeast.toList)=true then .ok (acc,x :: r) else if numW x=true then zbF (acc++[zdO x]) r else .error 4
def copesW:List ByteArray:=[⟨#[110,111,110,101]⟩,⟨#[102,108,97,116]⟩,⟨#[117,112,114,105,103,104,116]⟩,⟨#[98,117,99,107]⟩]
def opensW:List ByteArray:=[⟨#[]⟩,⟨#[115,109,111,111,116]⟩,⟨#[108,117,110,107,121]⟩,⟨#[115,116,105,108,101]⟩,⟨#[103,97,116,101]⟩]
def zci (ws:List ByteArray):Except Int (Sht×List ByteArray):=do
 let x0 ←zes ws
 let x1 ←oneE ⟨#[98,97,115,101]⟩ 1 x0.2
 let x2 ←oneE ⟨#[98,97,116,116,101,114]⟩ 1 x1.2
 let x3 ←oneE ⟨#[104,101,105,103,104,116]⟩ 1 x2.2
 let x4 ←oneE ⟨#[115,107,105,110]⟩ 1 x3.2
 let x5 ←sayE ⟨#[104,101,105,103,104,116,115]⟩ x4.2
 let x6 ←zbF [] x5.2
 let x7 ←oneE ⟨#[108,101,97,115,116]⟩ 1 x6.2
 let x8 ←oneE ⟨#[108,97,112]⟩ 1 x7.2
 let x9 ←oneE ⟨#[114,117,110]⟩ 1 x8.2
 let x10 ←oneE ⟨#[116,104,114,111,117,103,104]⟩ 2 x9.2
 let x11 ←oneE ⟨#[102,111,111,116,105,110,103]⟩ 2 x10.2
 let x12 ←sayE ⟨#[99,111,112,101]⟩ x11.2
 let x13 ←zfk copesW 0 x12.2
 let x14 ←zco 3 x13.2
 let x15 ←oneE ⟨#[102,114,105,99,116,105,111,110]⟩ 2 x14.2
 let x16 ←oneE ⟨#[114,111,111,100]⟩ 1 x15.2
 if x6.1.length=0 then .error 4 else
 .ok (⟨x0.1,x1.1.getD 0 0,x2.1.getD 0 0,x3.1.getD 0 0,x4.1.getD 0 0,x6.1,x7.1.getD 0 0,x8.1.getD 0 0,x9.1.getD 0 0,x10.1.getD 0 0,(x10.1.drop 1).getD 0 0,x11.1.getD 0 0,(x11.1.drop 1).getD 0 0,x13.1,
  x14.1.getD 0 0,(x14.1.drop 1).getD 0 0,((x14.1.drop 1).drop 1).getD 0 0,x15.1.getD 0 0,(x15.1.drop 1).getD 0 0,x16.1.getD 0 0⟩,x16.2)
structure Plan where
 S:List Sht
 V:List Wll
def zew (S:List Sht) (n:ByteArray):Int:=zbJ (fun z=>z.name.toList == n.toList) S
def zss (V:List Wll) (n:ByteArray):Int:=zbJ (fun z=>z.name.toList == n.toList) V
def getS (S:List Sht) (n:ByteArray):Sht:=if 0≤zew S n then S.getD (zew S n).toNat default else default
theorem zkU {α β:Type} (f:α→β) (p:β→Bool) (l:List α):zbJ p (l.map f)=zbJ (fun x=>p (f x)) l:=by
 unfold zbJ
 rw [List.any_map,List.findIdx_map]; rfl
theorem zeL (S:List ShC) (n:ByteArray):zaS S n=zew (S.map (·.s)) n:=(zkU (fun z:ShC=>z.s) (fun z=>z.name.toList == n.toList) S).symm
theorem zkx (V:List WlC) (n:ByteArray):zaM V n=zss (V.map (·.s)) n:=(zkU (fun z:WlC=>z.s) (fun z=>z.name.toList == n.toList) V).symm
theorem zeq {α β:Type} [Inhabited α] [Inhabited β] (f:α→β) (hf:f default=default) (l:List α) (i:Nat):(l.map f).getD i default=f (l.getD i default):=by
 rw [List.getD_eq_getElem?_getD,List.getD_eq_getElem?_getD,List.getElem?_map]
 cases l[i]? <;> simp [hf]
theorem zf2 (S:List ShC) (n:ByteArray):(zav S n).s=getS (S.map (·.s)) n:=by
 unfold zav getS
 rw [←zeL]
 split
 ·rw [zeq (fun z:ShC=>z.s) rfl]
 ·rfl
def zb3 (q:Plan) (ws:List ByteArray):Except Int Plan:=do
 let a ←zci ws
 let _ ←endE a.2
 if 0≤zew q.S a.1.name then .error 7 else if za4 a.1=true then(if q.S.length=20 then .error 5 else .ok ⟨q.S++[a.1],q.V⟩) else .error 2
def zb1 (q:Plan) (ws:List ByteArray):Except Int Plan:=do
 let a ←zes ws
 let b ←zes a.2
 let c ←zco 1 b.2
 let _ ←endE c.2
 if 0≤zss q.V a.1 then .error 7 else if 0≤zew q.S b.1 then
  (if zd1 (getS q.S b.1).height ⟨a.1,b.1,c.1.getD 0 0,[]⟩=true then(if q.V.length=50 then .error 5 else .ok ⟨q.S,q.V++[⟨a.1,b.1,c.1.getD 0 0,[]⟩]⟩) else .error 2) else .error 6
def more (v:Wll) (o:Opn):Wll:=⟨v.name,v.sheet,v.length,v.opens++[o]⟩
def zch (q:Plan) (ws:List ByteArray):Except Int Plan:=do
 let a ←zfk opensW 1 ws
 let b ←zco 4 a.2
 let _ ←endE b.2
 if q.V.length=0 then .error 4 else
  let o:Opn:=⟨a.1,b.1.getD 0 0,(b.1.drop 1).getD 0 0,((b.1.drop 1).drop 1).getD 0 0,(((b.1.drop 1).drop 1).drop 1).getD 0 0⟩
  let v:=q.V.getD (q.V.length - 1) default
  if zd1 (getS q.S v.sheet).height (more v o)=true then .ok ⟨q.S,q.V.set (q.V.length - 1) (more v o)⟩ else .error 2
def zff (q:Plan) (u:ByteArray) (ws:List ByteArray):Except Int Plan:=
 if (u == ⟨#[115,104,101,101,116]⟩)=true then zb3 q ws
 else if (u == ⟨#[119,97,108,108]⟩)=true then zb1 q ws
 else if (u == ⟨#[111,112,101,110]⟩)=true then zch q ws
 else .error 4
def zcu (q:Plan) (t:ByteArray):Except Int Plan:=do
 let x ←zdp (zcn t 32)
 zff q x.1 x.2
def zkJ {α:Type}:Except Int α→Int
 | .ok _=>0
 | .error k=>k
structure OkQ (q:Plan):Prop where
 sh:∀ s∈q.S,za4 s=true
 ls:q.S.length≤20
 lv:q.V.length≤50
 wv:∀ v∈q.V,v.opens.length≤20∧∀ o∈v.opens,Knd o
theorem znp {l:List ByteArray} {f:Nat} {ws:List ByteArray} {x:Int×List ByteArray} (h:zfk l f ws=.ok x):(f:Int)≤x.1∧x.1 < (l.length:Int):=by
 unfold zfk at h
 cases hx:zdp ws with
 | error k=>rw [hx,zcc] at h; cases h
 | ok y=>
  rw [hx,zak] at h
  split at h
  ·cases h
  ·rename_i h0
   cases h
   have:=findI_lt (fun z=>y.1.toList == z.toList) (l.drop f)
   rw [List.length_drop] at this
   dsimp only
   omega
theorem zmK {top:Int} {v:Wll} (h:zd1 top v=true):v.opens.length≤20:=(zgM (zqW h)).2
theorem zqj {q q':Plan} {ws:List ByteArray} (h:OkQ q) (he:zb3 q ws=.ok q'):OkQ q':=by
 unfold zb3 at he
 cases h1:zci ws with
 | error k=>rw [h1,zcc] at he; cases he
 | ok a=>
  rw [h1,zak] at he
  cases h2:endE a.2 with
  | error k=>rw [h2,zcc] at he; cases he
  | ok b=>
   rw [h2,zak] at he
   split at he
   ·cases he
   ·split at he
    ·rename_i hs
     split at he
     ·cases he
     ·rename_i hl
      cases he
      exact⟨fun s hs'=>by
       rcases List.mem_append.1 hs' with h' | h'
       ·exact h.sh s h'
       ·rw [List.mem_singleton] at h'; rw [h']; exact hs,by have:=h.ls; simp only [List.length_append,List.length_cons,List.length_nil]; omega,h.lv,h.wv⟩
    ·cases he
theorem zrU {q q':Plan} {ws:List ByteArray} (h:OkQ q) (he:zb1 q ws=.ok q'):OkQ q':=by
 unfold zb1 at he
 cases h1:zes ws with
 | error k=>rw [h1,zcc] at he; cases he
 | ok a=>
  rw [h1,zak] at he
  cases h2:zes a.2 with
  | error k=>rw [h2,zcc] at he; cases he
  | ok b=>
   rw [h2,zak] at he
   cases h3:zco 1 b.2 with
   | error k=>rw [h3,zcc] at he; cases he
   | ok c=>
    rw [h3,zak] at he
    cases h4:endE c.2 with
    | error k=>rw [h4,zcc] at he; cases he
    | ok d=>
     rw [h4,zak] at he
     split at he
     ·cases he
     ·split at he
      ·split at he
       ·split at he
        ·cases he
        ·rename_i hl
         cases he
         exact⟨h.sh,h.ls,by have:=h.lv; simp only [List.length_append,List.length_cons,List.length_nil]; omega,fun v hv=>by
          rcases List.mem_append.1 hv with h' | h'
          ·exact h.wv v h'
          ·rw [List.mem_singleton] at h'; rw [h']; exact⟨by simp,fun o ho=>by cases ho⟩⟩
       ·cases he
      ·cases he
theorem zrT {q q':Plan} {ws:List ByteArray} (h:OkQ q) (he:zch q ws=.ok q'):OkQ q':=by
 unfold zch at he
 cases h1:zfk opensW 1 ws with
 | error k=>rw [h1,zcc] at he; cases he
 | ok a=>
  have hk:=znp h1
  rw [h1,zak] at he
  cases h2:zco 4 a.2 with
  | error k=>rw [h2,zcc] at he; cases he
  | ok b=>
   rw [h2,zak] at he
   cases h3:endE b.2 with
   | error k=>rw [h3,zcc] at he; cases he
   | ok d=>
    rw [h3,zak] at he
    split at he
    ·cases he
    ·rename_i h0
     dsimp only at he
     split at he
     ·rename_i hw
      cases he
      refine⟨h.sh,h.ls,by rw [List.length_set]; exact h.lv,fun v hv=>?_⟩
      rcases List.mem_or_eq_of_mem_set hv with h' | h'
      ·exact h.wv v h'
      ·rw [h']
       refine⟨zmK hw,fun o ho=>?_⟩
       rcases List.mem_append.1 ho with h'' | h''
       ·exact(h.wv _ (za0 (by omega))).2 o h''
       ·rw [List.mem_singleton] at h''
        rw [h'']
        have:(opensW.length:Int)=5:=rfl
        exact⟨by dsimp only; omega,by dsimp only; omega⟩
     ·cases he
theorem zrS {q q':Plan} {t:ByteArray} (h:OkQ q) (he:zcu q t=.ok q'):OkQ q':=by
 unfold zcu at he
 cases h1:zdp (zcn t 32) with
 | error k=>rw [h1,zcc] at he; cases he
 | ok x=>
  rw [h1,zak] at he
  unfold zff at he
  split at he
  ·exact zqj h he
  ·split at he
   ·exact zrU h he
   ·split at he
    ·exact zrT h he
    ·cases he
theorem zuj {ws:List ByteArray} (h:¬ ws.length=0):zdp ws=.ok (ws.getD 0 default,ws.drop 1):=by
 cases ws with
 | nil=>exact absurd rfl h
 | cons x r=>rfl
theorem zrL {ws:List ByteArray} (h:ws.length=0):zdp ws=.error 4:=by
 cases ws with
 | nil=>rfl
 | cons x r=>simp at h
theorem zlk (ws:List ByteArray):zco 1 ws=(numE ws >>= fun x=>.ok ([x.1],x.2)):=by
 unfold zco
 cases numE ws <;> rfl
theorem zrP {s:ByteArray} (h:numW s=true):s.size≤6:=by
 unfold numW at h
 simp only [Bool.and_eq_true,decide_eq_true_eq] at h
 omega
theorem znx {ws:List ByteArray} {x:Int×List ByteArray} (h:numE ws=.ok x):x.2.length < ws.length:=by
 cases ws with
 | nil=>cases h
 | cons y r=>
  unfold numE at h
  rw [show zdp (y :: r)=.ok (y,r) from rfl,zak] at h
  split at h
  ·cases h; simp
  ·cases h
theorem zlj {ws:List ByteArray} {x:List Int×List ByteArray} (h:zco 1 ws=.ok x):x.2.length < ws.length:=by
 rw [zlk] at h
 cases h1:numE ws with
 | error k=>rw [h1] at h; cases h
 | ok y=>rw [h1,zak] at h; cases h; exact znx h1
theorem zka {ws:List ByteArray} {x:ByteArray×List ByteArray} (h:zdp ws=.ok x):x.2.length < ws.length:=by
 cases ws with
 | nil=>cases h
 | cons y r=>cases h; simp
theorem zmz {u:ByteArray} {ws:List ByteArray} {x:Unit×List ByteArray} (h:sayE u ws=.ok x):x.2.length < ws.length:=by
 unfold sayE at h
 cases h1:zdp ws with
 | error k=>rw [h1,zcc] at h; cases h
 | ok y=>
  rw [h1,zak] at h
  split at h
  ·cases h; exact zka h1
  ·cases h
theorem znu {ws:List ByteArray} {x:ByteArray×List ByteArray} (h:zes ws=.ok x):x.2.length < ws.length:=by
 unfold zes at h
 cases h1:zdp ws with
 | error k=>rw [h1,zcc] at h; cases h
 | ok y=>
  rw [h1,zak] at h
  split at h
  ·cases h; exact zka h1
  ·cases h
theorem znA:∀ (n:Nat) {ws:List ByteArray} {x:List Int×List ByteArray},zco n ws=.ok x→x.2.length≤ws.length
 | 0,ws,x,h=>by cases h; exact Nat.le_refl _
 | n+1,ws,x,h=>by
  rw [zco] at h
  cases h1:numE ws with
  | error k=>rw [h1,zcc] at h; cases h
  | ok y=>
   rw [h1,zak] at h
   cases h2:zco n y.2 with
   | error k=>rw [h2,zcc] at h; cases h
   | ok z=>
    rw [h2,zak] at h; cases h
    have:=znA n h2
    have:=znx h1
    dsimp only; omega
theorem zfo {u:ByteArray} {n:Nat} {ws:List ByteArray} {x:List Int×List ByteArray} (h:oneE u n ws=.ok x):x.2.length < ws.length:=by
 unfold oneE at h
 cases h1:sayE u ws with
 | error k=>rw [h1,zcc] at h; cases h
 | ok y=>
  rw [h1,zak] at h
  have:=znA n h
  have:=zmz h1
  omega
end Go.Pln
namespace Go.Pln
open Go Go.K Go.RowKit Go.Stn Go.Txt
theorem ziQ (s:ByteArray):(s.toList == (⟨#[]⟩:ByteArray).toList)=decide ((s.size:Int) < 1):=by
 rw [ByteArray.toList_eq,ByteArray.toList_eq,Bool.eq_iff_iff,beq_iff_eq,decide_eq_true_eq]
 have hz:s.size=s.data.toList.length:=rfl
 rw [hz]
 constructor
 ·intro h
  rw [h]; decide
 ·intro h
  have h0:s.data.toList.length=0:=by omega
  rw [List.length_eq_zero_iff.1 h0]
theorem zcZ {s:ByteArray} {b c:Bool} (h:(((!(s.toList == (⟨#[]⟩:ByteArray).toList))&&b)&&c)=true):1≤s.size:=by
 simp only [Bool.and_eq_true,Bool.not_eq_true',ziQ,decide_eq_false_iff_not] at h
 omega
def zmp (b:Int):Bool:=decide (b < 48)||decide (57 < b)
theorem zrA (s:ByteArray):∀ (m p:Nat),s.size - p=m→(0≤zcj oddN s p↔∃ j,p≤j∧j < s.size∧zmp (zee s (j:Nat))=true):=by
 intro m
 induction m using Nat.strongRecOn with
 | _ m ih=>
  intro p hm
  by_cases hp:p < s.size
  ·by_cases hlow:(s.get! p).toNat < 128
   ·have hd:=Go.Stn.decode_low hlow
    have hb:=zeV hp
    cases ho:zmp (zee s (p:Int)) with
    | true=>
     rw [zdW hp (by rw [hd]; rw [hb] at ho; exact ho)]
     exact⟨fun _=>⟨p,Nat.le_refl _,hp,ho⟩,fun _=>by omega⟩
    | false=>
     rw [zfj hp (by rw [hd]; rw [hb] at ho; exact ho),hd]
     rw [ih (s.size - (p+1)) (by omega) (p+1) rfl]
     constructor
     ·rintro ⟨j,h1,h2,h3⟩; exact⟨j,by omega,h2,h3⟩
     ·rintro ⟨j,h1,h2,h3⟩
      refine⟨j,?_,h2,h3⟩
      by_cases hj:j=p
      ·subst hj; rw [ho] at h3; cases h3
      ·omega
   ·have hd:=Go.Stn.decode_high hlow
    rw [zdW hp (by unfold oddN; simp; omega)]
    refine⟨fun _=>⟨p,Nat.le_refl _,hp,?_⟩,fun _=>by omega⟩
    rw [zeV hp]
    unfold zmp; simp; omega
  ·rw [zf5 hp]
   refine⟨fun h=>by omega,?_⟩
   rintro ⟨j,h1,h2,_⟩; omega
theorem zgR (s:ByteArray) (i:Nat) (h:i < s.size):zee s (i:Int)=((s.data.toList[i]'(by simpa using h)).toNat:Int):=by
 rw [zeV h]
 congr 2
 cases s with
 | mk d=>
  have hd:i < d.size:=h
  simp only [ByteArray.get!]
  rw [getElem!_pos d i hd,Array.getElem_toList]
theorem zvg {s:ByteArray} {c:UInt8} {r:List UInt8} (hl:s.data.toList=c :: r):zee s 0=(c.toNat:Int):=by
 have h0:0 < s.size:=by
  have hz:s.size=s.data.toList.length:=rfl
  rw [hz,hl]; simp
 have:=zgR s 0 h0
 rw [show((0:Nat):Int)=0 from rfl] at this
 rw [this]
 congr 2
 have h1:s.data.toList[0]?=some c:=by rw [hl]; rfl
 rw [List.getElem?_eq_getElem (by rw [hl]; simp)] at h1
 injection h1
def digW (l:List UInt8):Prop:=1≤l.length∧l.length≤6∧(∀ c∈l,ziZ c)∧(l=[48]∨∃ c r,l=c :: r∧c≠48)
theorem zph {c:UInt8}:zmp (c.toNat:Int)=false↔ziZ c:=by
 unfold zmp ziZ
 simp only [Bool.or_eq_false_iff,decide_eq_false_iff_not]
 omega
theorem zrO (s:ByteArray):numW s=true↔digW s.data.toList:=by
 have hz:s.size=s.data.toList.length:=rfl
 unfold numW digW
 rw [ziQ,ByteArray.toList_eq,ByteArray.toList_eq]
 simp only [Bool.and_eq_true,Bool.or_eq_true,Bool.not_eq_true',decide_eq_false_iff_not,decide_eq_true_eq,beq_iff_eq,zrA s s.size 0 (by omega)]
 have hall:(¬ ∃ j,0≤j∧j < s.size∧zmp (zee s (j:Nat))=true)↔∀ c∈s.data.toList,ziZ c:=by
  constructor
  ·intro h c hc
   obtain⟨j,hj,rfl⟩:=List.getElem_of_mem hc
   refine zph.1 ?_
   cases hb:zmp ((s.data.toList[j].toNat:Nat):Int) with
   | false=>rfl
   | true=>exact absurd ⟨j,Nat.zero_le _,by omega,by rw [zgR s j (by omega)]; exact hb⟩ h
  ·rintro h ⟨j,_,hj,hb⟩
   rw [zgR s j hj,zph.2 (h _ (List.getElem_mem _))] at hb
   cases hb
 rw [hall]
 constructor
 ·rintro ⟨⟨⟨h1,h2⟩,h3⟩,h4⟩
  refine⟨by omega,by omega,h3,?_⟩
  rcases h4 with h4 | h4
  ·right
   cases hl:s.data.toList with
   | nil=>rw [hl,List.length_nil] at hz; omega
   | cons c r=>
    refine⟨c,r,rfl,fun e=>h4 ?_⟩
    rw [zvg hl,e]; rfl
  ·left; exact h4
 ·rintro ⟨h1,h2,h3,h4⟩
  refine⟨⟨⟨by omega,by omega⟩,h3⟩,?_⟩
  rcases h4 with h4 | ⟨c,r,hl,hc⟩
  ·exact .inr h4
  ·left
   intro e
   rw [zvg hl] at e
   exact hc (UInt8.toNat_inj.1 (by have h48:(48:UInt8).toNat=48:=rfl; omega))
theorem zpf {l:List UInt8} (h:digW l):zfQ 0 l < 10 ^ 6:=by
 have key:∀ (l:List UInt8) (a:Nat),(∀ c∈l,ziZ c)→zfQ a l < (a+1)*10 ^ l.length:=by
  intro l
  induction l with
  | nil=>intro a _; simp [zfQ]
  | cons c r ih=>
   intro a hd
   have hc:=hd c (by simp)
   unfold ziZ at hc
   rw [zhX,List.length_cons,Nat.pow_succ,Nat.mul_comm (10 ^ r.length) 10,←Nat.mul_assoc]
   refine Nat.lt_of_lt_of_le (ih _ (fun x hx=>hd x (by simp [hx]))) (Nat.mul_le_mul_right _ (by omega))
 have h1:=key l 0 h.2.2.1
 rw [Nat.zero_add,Nat.one_mul] at h1
 exact Nat.lt_of_lt_of_le h1 (Nat.pow_le_pow_right (by decide) h.2.1)
theorem zq6 {l:List UInt8} (h:digW l):Lib.atoiAll l=.ok (zfQ 0 l:Int):=by
 have hs:=zpf h
 obtain⟨h1,h2,h3,h4⟩:=h
 have hb:(0+1)*10 ^ l.length≤10 ^ 18:=by
  rw [Nat.zero_add,Nat.one_mul]
  exact Nat.pow_le_pow_right (by decide) (by omega)
 have hp:=zjp l 0 h3 hb
 have hm:Lib.parseMag l=.ok (zfQ 0 l):=by
  unfold Lib.parseMag
  rw [if_neg (by intro e; rw [e] at h1; simp at h1)]; exact hp
 cases hl:l with
 | nil=>rw [hl] at h1; simp at h1
 | cons c r=>
  rw [hl] at hm h3 hs
  have hc:=h3 c (by simp)
  unfold ziZ at hc
  have h6:(10:Nat) ^ 6=1000000:=rfl
  unfold Lib.atoiAll
  simp only [if_neg (show ¬ (c.toNat=43∨c.toNat=45) by omega),hm]
  rw [if_neg (by omega),if_neg (by omega),if_neg (by omega)]
theorem zoV {s:ByteArray} (h:numW s=true):Lib.atoiAll s.data.toList=.ok (zdO s)∧zdO s=(zfQ 0 s.data.toList:Int):=by
 have:=zq6 ((zrO s).1 h)
 unfold zdO
 rw [this]
 exact⟨rfl,rfl⟩
def putE (os:List Nat) (cs:List Value) (ws:List ByteArray):Except Int (List Value×List ByteArray):=zco os.length ws >>= fun x=>.ok (zlz cs os x.1,x.2)
theorem zr5 (cs:List Value) (ws:List ByteArray):putE [] cs ws=.ok (cs,ws):=rfl
theorem ziy (o:Nat) (os:List Nat) (cs:List Value) (ws:List ByteArray):putE (o :: os) cs ws=(numE ws >>= fun x=>putE os (cs.set o (.int .i64 x.1)) x.2):=by
 unfold putE
 rw [List.length_cons,zco]
 cases h1:numE ws with
 | error k=>rfl
 | ok x=>
  rw [zak,zak]
  cases h2:zco os.length x.2 with
  | error k=>rfl
  | ok y=>rfl
theorem zwf {os:List Nat} {cs cs':List Value} {ws ws':List ByteArray} (h:.ok (cs',ws')=putE os cs ws):∃ l,zco os.length ws=.ok (l,ws')∧cs' = zlz cs os l:=by
 unfold putE at h
 cases h2:zco os.length ws with
 | error k=>rw [h2] at h; cases h
 | ok x=>
  rw [h2,zak] at h
  injection h with h3
  injection h3 with h4 h5
  exact⟨x.1,by rw [h5],h4⟩
theorem zqt {os:List Nat} {cs:List Value} {ws:List ByteArray} {k:Int} (h:.error k=putE os cs ws):zco os.length ws=.error k:=by
 unfold putE at h
 cases h2:zco os.length ws with
 | error k'=>rw [h2,zcc] at h; injection h with h3; rw [h3]
 | ok x=>rw [h2,zak] at h; cases h
theorem zkh {os:List Nat} {i:Int} (h0:0≤i) (h1:i < (os.length:Int)):os.drop i.toNat=os.getD i.toNat 0 :: os.drop (i+1).toNat:=by
 rw [List.drop_eq_getElem_cons (by omega),show(i+1).toNat=i.toNat+1 by omega]
 congr 1
 simp [show i.toNat < os.length by omega]
theorem ztP {b:Nat} {os:List Nat} {i:Int} (h0:0≤i) (h1:i < (os.length:Int)):(os.map (fun o=>(b,o))).getD i.toNat default=(b,os.getD i.toNat 0):=by
 have:i.toNat < os.length:=by omega
 simp [this]
theorem zgs {acc:List Int} {ws:List ByteArray} (h:¬ ws.length=0) (hl:¬ ((ws.getD 0 default).toList == wLeast.toList)=true):zbF acc ws=(zco 1 ws >>= fun x=>zbF (acc++[x.1.getD 0 0]) x.2):=by
 cases ws with
 | nil=>exact absurd rfl h
 | cons x r=>
  replace hl:¬ (x.toList == wLeast.toList)=true:=hl
  rw [zbF,if_neg hl,zlk]
  unfold numE
  rw [show zdp (x :: r)=.ok (x,r) from rfl,zak]
  by_cases hn:numW x=true
  ·rw [if_pos hn,if_pos hn]; rfl
  ·rw [if_neg hn,if_neg hn]; rfl
theorem zk4 {acc:List Int} {ws:List ByteArray} (h:ws.length=0∨((ws.getD 0 default).toList == wLeast.toList)=true):zbF acc ws=.ok (acc,ws):=by
 cases ws with
 | nil=>rfl
 | cons x r=>
  have h2:(x.toList == wLeast.toList)=true:=h.resolve_left (by simp)
  rw [zbF,if_pos h2]
theorem zwr {n:Int} (h:0≤n) (h2:n≤255):IntKind.u8.wrap n=n:=by
 unfold IntKind.wrap
 simp only [IntKind.signed,IntKind.bits,Bool.false_and]
 rw [if_neg (by simp)]
 omega
theorem zcA {α β:Type} {r:Except Int α} {f:α→Except Int β} {y:β} (h:(r >>= f)=.ok y):∃ x,r=.ok x∧f x=.ok y:=by
 cases r with
 | error k=>cases h
 | ok x=>exact⟨x,rfl,h⟩
theorem zhh:∀ (us:List ByteArray) (acc:List Int) {x:List Int×List ByteArray},zbF acc us=.ok x→x.1.length+x.2.length≤acc.length+us.length
 | [],acc,x,h=>by cases h; simp
 | u :: us,acc,x,h=>by
  rw [zbF] at h
  split at h
  ·cases h; exact Nat.le_refl _
  ·split at h
   ·have:=zhh us _ h
    simp only [List.length_append,List.length_cons,List.length_nil] at this ⊢
    omega
   ·cases h
theorem zkq {ws:List ByteArray} {x:Sht×List ByteArray} (h:zci ws=.ok x):x.1.heights.length≤ws.length:=by
 unfold zci at h
 obtain⟨x0,h0,h⟩:=zcA h
 obtain⟨x1,h1,h⟩:=zcA h
 obtain⟨x2,h2,h⟩:=zcA h
 obtain⟨x3,h3,h⟩:=zcA h
 obtain⟨x4,h4,h⟩:=zcA h
 obtain⟨x5,h5,h⟩:=zcA h
 obtain⟨x6,h6,h⟩:=zcA h
 obtain⟨x7,h7,h⟩:=zcA h
 obtain⟨x8,h8,h⟩:=zcA h
 obtain⟨x9,h9,h⟩:=zcA h
 obtain⟨x10,h10,h⟩:=zcA h
 obtain⟨x11,h11,h⟩:=zcA h
 obtain⟨x12,h12,h⟩:=zcA h
 obtain⟨x13,h13,h⟩:=zcA h
 obtain⟨x14,h14,h⟩:=zcA h
 obtain⟨x15,h15,h⟩:=zcA h
 obtain⟨x16,h16,h⟩:=zcA h
 split at h
 ·cases h
 ·cases h
  have a0:=znu h0; have a1:=zfo h1; have a2:=zfo h2; have a3:=zfo h3; have a4:=zfo h4; have a5:=zmz h5
  have a6:=zhh _ _ h6
  simp only [List.length_nil] at a6
  dsimp only
  omega
end Go.Pln
namespace Go.K
open Go Go.RowKit
section
variable {c:Cx} {ds:List Deferred} {p:Post} {T:List (Nat×Value)} {H:List Res} {ops:Array Oper} {rest:List Oper} {ty:TypeId} {ps:String} {af:Array Edge} {x y:Operand}
theorem zpS {t:TypeId} {gg:Bool} {b o:Nat} {z v:Value} {cs:List Value} {e:TypeId} (i:Nat) (ht:TF c.P t gg 1 z) (hx:evo T x=some (.pointer (some ⟨b,o,none⟩))) (hy:evo T y=some v)
  (hv:v.cells=#[v]) (h1:zgS v=true) (hi:H[i]?=some (Box b cs e)) (ho:o < cs.length)
  (kk:GK c ds (KL c ops p rest) T (H.set i (Box b (cs.set o v) e))):GK c ds (KL c ops p (⟨none,.store t x y,ty,ps,af,none⟩ :: rest)) T H:=
 zaA i ht hx hy (vs:=[v]) hv rfl (by simp [h1]) hi (Nat.ble_eq_true_of_le ho) kk
end
section
variable {c:Cx} {T:List (Nat×Value)} {H H':List Res} {R:Ending→World→Prop} {fn:Func}
theorem zgW {g:FuncId} {cap:List Value} {v:Value} (he:En c.P g)
  (hc:∀ w,Hp c.U c.w0 H w→CallsDIn Fence.wide 0 c.P g cap.toArray .returning w (fun e u' w'=>(∃ v,e=.returned v)∧settle u' = .returning∧Hp c.U c.w0 H' w'))
  (hv:RV c [] T H' fn v) (h:∀ w,Hp c.U c.w0 H' w→R (.returned v) w):GK c [{ target:=.fn (.func g) cap.toArray,args:=#[] }] (RetP c.P fn R) T H:=by
 intro a w ha hw
 show LeavesInM Fence.wide 0 c.P fn a.tmps R a.defers .returning w
 rw [ha.defers]
 refine zjn he (by simp) (CallsDIn.mono (hc w hw) ?_)
 rintro e u' w' ⟨hr,hs,hx⟩
 exact⟨hr,hs,v,hv { a with defers:=[] } w' ⟨ha.size,ha.val,rfl⟩ hx,h w' hx⟩
end
end Go.K
namespace Go.K
open Go Go.RowKit
def zu2 (P:Program) (f:FuncId) (cap:List Value) (xs:List (List Value)) (O S:Res):Prop:=
 ∀ {X:Type} (J:X→Res) (Rl:Nat→X→Prop) (D:X→Prop) (l:Nat) (w:World) (B C:Nat→Prop) (x0:X),(∀ k,B k→k < w.heap.size)→(∀ k,C k→k < w.heap.size∧¬ B k)→(J x0).A B w→O.A C w→Rl 0 x0→Rd (fun k=>k < w.heap.size∧¬ (B k∨C k)) w S →
  (∀ i x args,xs[i]?=some args→Rl i x→zoO P w (fun k=>B k∨C k) l args J x (fun b x'=>if b=true then Rl (i+1) x' else D x')) →
  Calls P f (Value.func (.yield l) #[] #[] :: cap).toArray w (zho (fun _=>.tuple #[]) J (fun x=>Rl xs.length x∨D x) (fun k=>B k∨C k) w)
theorem zsg {R S:Res} {B C:Nat→Prop} {w:World} (h1:R.A B w) (h2:S.A C w) (hd:∀ k,C k→¬ B k):(SepR [R,S]).A (fun k=>B k∨C k) w:=
 ⟨B,C,fun _ h=>.inl h,fun k h=>⟨.inr h,hd k h⟩,h1,C,fun _=>False,fun _ h=>h,fun _ h=>h.elim,h2,trivial⟩
theorem zj0 {c:Cx} {ds:List Deferred} {p:Post} {T:List (Nat×Value)} {H:List Res} {g:Operand} {ps:List Tmp} {assign body:Code} {f:FuncId} {cap:List Value} {xs:List (List Value)} {O S:Res} {X:Type}
  (Hf:X→List Res) (Rl:Nat→X→Prop) (Dr:X→Prop) (exs:List (Nat×(X→Prop))) (x0:X)
  (hr:c.r=none) (he:En c.P f) (hg:evo T g=some (.func (.func f) #[] cap.toArray)) (hH:O :: Hf x0=H) (h0:Rl 0 x0)
  (hseq:zu2 c.P f cap xs O S) (hSR:Rd c.U c.w0 S) (hps:∀ a∈xs,a.length=ps.length) (hpn':ps.all (fun t=>Nat.blt t c.n)=true)
  (hbody:∀ (R1 R2:Res) (l:Nat) (U':Nat→Prop) (w':World) (i:Nat) (x:X) (args:List Value),xs[i]?=some args→Rl i x →
   (∀ S,Rd c.U c.w0 S→Rd U' w' S)→Inside c.U c.w0 ⟨some l,c.P,c.n,U',w'⟩→(∀ T' H' K,GK ⟨some l,c.P,c.n,U',w'⟩ [] K T' (R2 :: H')→GK ⟨some l,c.P,c.n,U',w'⟩ [] (Beg c.P l K) T' (R1 :: H')) →
   GK ⟨some l,c.P,c.n,U',w'⟩ [] (KC ⟨some l,c.P,c.n,U',w'⟩ assign { nrm:=Beg c.P l (KC ⟨some l,c.P,c.n,U',w'⟩ body (zqC ⟨some l,c.P,c.n,U',w'⟩ R2 Hf (Rl (i+1)) Dr exs)),ret:=fun _ _=>False,ex:=[] }) (zipT ps args T) (R1 :: Hf x))
  (hnext:∀ D x,Rl xs.length x→GK c (mark D :: ds) p.nrm T (Dfr D :: Hf x))
  (hret:∀ D x,Dr x→GK c (mark D :: ds) p.ret T (Dfr D :: Hf x))
  (hex:∀ D x id Q,(id,Q)∈exs→Q x→∃ K,lke p.ex id=some K∧GK c (mark D :: ds) K T (Dfr D :: Hf x)) :
  GK c ds (KC c (.rangeFunc g ps.toArray assign body) p) T H:=by
 subst hH
 have hpn:∀ t∈ps,t < c.n:=fun t ht=>Nat.le_of_ble_eq_true (List.all_eq_true.1 hpn' t ht)
 intro a w ha hw
 show(Code.rangeFunc g ps.toArray assign body).wpIn (FW c.r) 0 c.P p.Q a w
 rw [hr]
 refine wpIn_rangeFunc ?_
 intro fn hfn
 let D:=w.heap.size
 let l:=w.heap.size+1
 let rec_:LoopState→Option Code→Res:=fun st pe=>SepR [Rec l st pe fn a.tmps ps.toArray assign body D,Dfr D]
 obtain⟨W1,hW1⟩:∃ W1,W1=(w.alloc (.deferred (some []))).alloc (.loop { state:=.ready,pending:=none,fn:=fn,tmps:=a.tmps,params:=ps.toArray,assign:=assign,body:=body,defers:=D }):=⟨_,rfl⟩
 have hdef:Hp c.U c.w0 (Dfr D :: O :: Hf x0) (w.alloc (.deferred (some []))):=
  hw.new (zcG _) (B:=fun k=>k=D) (fun k hk=>by subst hk; exact⟨Nat.le_refl _,by simp [D]⟩) ⟨fun _=>Iff.rfl,World.alloc_heap_new w _⟩
 have hrec:Hp c.U c.w0 (Rec l .ready none fn a.tmps ps.toArray assign body D :: Dfr D :: O :: Hf x0) W1:=by
  rw [hW1]
  refine hdef.new (zcG _) (B:=fun k=>k=l) (fun k hk=>by subst hk; exact⟨by simp [l],by simp [l]⟩) ⟨fun _=>Iff.rfl,?_⟩
  have:=World.alloc_heap_new (w.alloc (.deferred (some []))) (.loop { state:=.ready,pending:=none,fn:=fn,tmps:=a.tmps,params:=ps.toArray,assign:=assign,body:=body,defers:=D })
  rwa [World.size_alloc] at this
 have hst:Hp c.U c.w0 (O :: rec_ .ready none :: Hf x0) W1:=(Hp.pack (L:=[_,_]) hrec).swap
 obtain⟨C,hC,hAO,hrest⟩:=hst.holds
 let J:X×LoopState×Option Code→Res:=fun z=>SepR (rec_ z.2.1 z.2.2 :: Hf z.1)
 have hJ:∃ B,(∀ k,B k→¬ (c.U k∨C k)∧k < W1.heap.size)∧(J (x0,.ready,none)).A B W1:=zdi _ _ hrest
 obtain⟨B0,hB0,hA⟩:=hJ
 let B:Nat→Prop:=fun k=>B0 k∨C k
 have hB:∀ k,B k→¬ c.U k∧k < W1.heap.size:=fun k hk=>hk.elim (fun h=>⟨fun hu=>(hB0 k h).1 (.inl hu),(hB0 k h).2⟩) (hC k)
 have hSR':Rd (fun k=>k < W1.heap.size∧¬ (B0 k∨C k)) W1 S:=by
  obtain⟨E,hE,hSA⟩:=hSR
  have hbase:Base c.U c.w0 W1:=hst.base
  exact⟨E,fun k hk=>⟨Nat.lt_of_lt_of_le (hbase.lt k (hE k hk)) hbase.size,fun h=>h.elim (fun h=>(hB0 k h).1 (.inl (hE k hk))) (fun h=>(hC k h).1 (hE k hk))⟩,S.loc E c.w0 W1 (fun k hk=>hbase.same k (hE k hk)) hSA⟩
 have hcalls:=hseq J (fun i z=>z.2.1=.ready∧z.2.2=none∧Rl i z.1)
  (fun z=>z.2.1=.done∧((z.2.2=some .ret∧Dr z.1)∨∃ id Q,z.2.2=some (.exit id)∧(id,Q)∈exs∧Q z.1))
  l W1 B0 C (x0,.ready,none) (fun k hk=>(hB0 k hk).2) (fun k hk=>⟨(hC k hk).2,fun h=>(hB0 k h).1 (.inr hk)⟩) hA hAO ⟨rfl,rfl,h0⟩ hSR' ?rounds
 case rounds=>
  rintro i ⟨x,st,pe⟩ args hargs ⟨hst1,hst2,hR⟩
  simp only at hst1 hst2 hR
  subst hst1; subst hst2
  intro w' B' hm ho hlt hA'
  have hp1:Hp (fun k=>k < w'.heap.size∧¬ B' k) w' (rec_ .ready none :: Hf x) w':=
   ⟨⟨rfl,Tp.same _,rfl,Nat.le_refl _,fun _ h=>h.1,fun _ _=>rfl⟩,zcQ _ _ B' (fun k hk=>⟨fun h=>h.2 hk,hlt k hk⟩) hA'⟩
  have hl:=(zhi (st':=.ready) (pe':=none) hp1).1
  have hy:=run_yield (P:=c.P) (args:=args.toArray) hl (by simp [hps args (List.mem_of_getElem? hargs)])
  refine⟨_,_,_,_,hy,roundIn_of_wpIn trivial ?_⟩
  have hb:=hbody (rec_ .ready none) (rec_ .busy none) l (fun k=>k < w'.heap.size∧¬ B' k) w' i x args hargs hR ?rd ?ins ?beg
  case ins=>
   have hb':Base c.U c.w0 w':=hst.base.mod hm (fun k hk=>(hB k hk).1)
   refine⟨fun k hk=>⟨Nat.lt_of_lt_of_le (hb'.lt k hk) hb'.size,fun hbk=>?_⟩,hb'⟩
   rcases ho k hbk with hb2 | ⟨h1,_⟩
   ·exact(hB k hb2).1 hk
   ·have:=hst.base.lt k hk; have:=hst.base.size; omega
  case rd=>
   rintro S ⟨C,hC,hS⟩
   have hb':Base c.U c.w0 w':=hst.base.mod hm (fun k hk=>(hB k hk).1)
   refine⟨C,fun k hk=>⟨Nat.lt_of_lt_of_le (hb'.lt k (hC k hk)) hb'.size,fun hbk=>?_⟩,S.loc C c.w0 w' (fun k hk=>hb'.same k (hC k hk)) hS⟩
   rcases ho k hbk with hb2 | ⟨h1,_⟩
   ·exact(hB k hb2).1 (hC k hk)
   ·have:=hst.base.lt k (hC k hk); have:=hst.base.size; omega
  case beg=>
   intro T' H' K hK a1 w1 ha1 hw1
   obtain⟨hl1,hw2⟩:=zhi (st':=.busy) (pe':=none) hw1
   exact⟨_,run_beginRound hl1 rfl,hK a1 _ ha1 hw2⟩
  have hs:=zmy ps args T a.tmps hpn (Sat.mk ha.size ha.val rfl)
  have hwalk:=hb _ w' hs hp1
  have harr:((ps.toArray.zip args.toArray).foldl (fun tmps (t,a)=>tmps.setIfInBounds t a) a.tmps)=(ps.zip args).foldl (fun t (p,v)=>t.setIfInBounds p v) a.tmps:=by
   rw [List.zip_toArray,List.foldl_toArray]
  rw [harr]
  refine Go.wpIn_mono hwalk ?_
  intro e a1 w1 hq
  cases e with
  | normal=>
   obtain⟨w2,hbr,hwb⟩:=hq
   refine⟨w2,hbr,Go.wpIn_mono hwb ?_⟩
   intro e a2 w2 hq2
   have fin:∀ (x':X) (j:Option Code),Hp (fun k=>k < w'.heap.size∧¬ B' k) w' (rec_ .busy none :: Hf x') w2→∃ w4,(Instr.endRound l j).run c.P w2=.ok (.bool j.isNone) w4 ∧
     ∃ B'',Mod B' w' w4∧Own B' B'' w' w4∧(J (x',(if j.isNone then .ready else .done),j)).A B'' w4:=by
    intro x' j hw2
    obtain⟨hl2,hw4⟩:=zhi (st':=if j.isNone then .ready else .done) (pe':=j) hw2
    refine⟨_,run_endRound j hl2,?_⟩
    obtain⟨B'',hB'',hA''⟩:=zdi _ _ hw4.holds
    refine⟨B'',⟨hw4.base.os,hw4.base.tape,hw4.base.output,hw4.base.size,fun k hk hb=>hw4.base.same k ⟨hk,hb⟩⟩,fun k hk=>?_,hA''⟩
    by_cases hbk:B' k
    ·exact .inl hbk
    ·exact .inr ⟨Nat.le_of_not_lt fun hlt=>(hB'' k hk).1 ⟨hlt,hbk⟩,(hB'' k hk).2⟩
   cases e with
   | normal=>
    obtain⟨x',_,hw3,hN⟩:=hq2
    obtain⟨w4,hend,B'',hm4,ho4,hA4⟩:=fin x' none hw3
    exact⟨_,w4,hend,true,(x',.ready,none),B'',rfl,(if_pos rfl).mpr ⟨rfl,rfl,hN⟩,hm4,ho4,hA4⟩
   | ret=>
    obtain⟨x',_,hw3,hD⟩:=hq2
    obtain⟨w4,hend,B'',hm4,ho4,hA4⟩:=fin x' (some .ret) hw3
    exact⟨_,w4,hend,false,(x',.done,some .ret),B'',rfl,(if_neg Bool.false_ne_true).mpr ⟨rfl,.inl ⟨rfl,hD⟩⟩,hm4,ho4,hA4⟩
   | exit id=>
    change (match lke (exs.map fun e=>(e.1,Join _ [] (fun _=>[]) (fun x=>rec_ .busy none :: Hf x) e.2)) id with | some K=>K a2 w2 | none=>False) at hq2
    cases hk:lke (exs.map fun e=>(e.1,Join _ [] (fun _=>[]) (fun x=>rec_ .busy none :: Hf x) e.2)) id with
    | none=>rw [hk] at hq2; exact hq2.elim
    | some K=>
     rw [hk] at hq2
     obtain⟨Q,hmem,rfl⟩:=zmk (fun Q=>Join _ [] (fun _=>[]) (fun x=>rec_ .busy none :: Hf x) Q) exs id K hk
     obtain⟨x',_,hw3,hD⟩:=hq2
     obtain⟨w4,hend,B'',hm4,ho4,hA4⟩:=fin x' (some (.exit id)) hw3
     exact⟨_,w4,hend,false,(x',.done,some (.exit id)),B'',rfl,(if_neg Bool.false_ne_true).mpr ⟨rfl,.inr ⟨id,Q,rfl,hmem,hD⟩⟩,hm4,ho4,hA4⟩
   | goto t=>exact hq2.elim
   | panic ch=>exact hq2.elim
   | outgrown=>exact hq2.elim
  | ret=>exact hq.elim
  | exit id=>exact hq.elim
  | goto t=>exact hq.elim
  | panic ch=>exact hq.elim
  | outgrown=>exact hq.elim
 refine⟨l,[mark D],W1,{ target:=.fn (.func f) cap.toArray,args:=#[.func (.yield l) #[] #[]] },W1,f,#[.func (.yield l) #[] #[]]++cap.toArray,W1,?_,?_,fun _ _=>trivial,?_,fun h=>by simp [FW] at h,?_⟩
 ·rw [hW1]; exact run_enterLoop_outer _ _ _ _ _
 ·simp only [resolve,ha.eval hg,Deferred.ofValue]
  simp [pure,Act.eval]
 ·exact he _ W1
 ·refine zfz.2 ?_
  have e2:(#[Value.func (.yield l) #[] #[]]++cap.toArray:Array Value)=(Value.func (.yield l) #[] #[] :: cap).toArray:=by simp
  rw [e2]
  refine hcalls.mono ?_
  rintro e w3 ⟨⟨x',st,pe⟩,B',rfl,hQ,hm,ho,hA'⟩
  have hlt':∀ k,B' k→k < w3.heap.size:=fun k hk=>by
   rcases ho k hk with hb | ⟨_,h2⟩
   ·exact Nat.lt_of_lt_of_le (hB k hb).2 hm.size
   ·exact h2
  have hw3:Hp c.U c.w0 (rec_ st pe :: Hf x') w3:=⟨hst.base.mod hm (fun k hk=>(hB k hk).1),zcQ _ _ B' (fun k hk=>⟨fun hu=>by
   rcases ho k hk with hb | ⟨h1,_⟩
   ·exact(hB k hb).1 hu
   ·have:=hst.base.lt k hu; have:=hst.base.size; omega,hlt' k hk⟩) hA'⟩
  obtain⟨hl3,hw4⟩:=zhi (st':=.exhausted) (pe':=pe) hw3
  have hnb:st≠.busy:=by rcases hQ with ⟨h,_⟩ | ⟨h,_⟩ <;> (simp only at h; subst h; decide)
  refine⟨pe,_,run_endLoop hl3 hnb,?_⟩
  have hw5:Hp c.U c.w0 (Dfr D :: Hf x') _:=(Hp.split (L:=[_,_]) hw4).drop
  have ha5:Sat c.n T (mark D :: ds) { a with defers:=[mark D]++a.defers }:=⟨ha.size,ha.val,by simp [ha.defers]⟩
  rcases hQ with ⟨_,h2,h3⟩ | ⟨_,⟨h2,h3⟩ | ⟨id,Q,h2,h3,h4⟩⟩
  ·simp only at h2 h3; subst h2
   exact hnext D x' h3 _ _ ha5 hw5
  ·simp only at h2 h3; subst h2
   exact wpIn_ret (hret D x' h3 _ _ ha5 hw5)
  ·simp only at h2 h4; subst h2
   obtain⟨K,hk,hG⟩:=hex D x' id Q h3 h4
   exact wpIn_exit (by show(match lke p.ex id with | some K=>K _ _ | none=>False); rw [hk]; exact hG _ _ ha5 hw5)
end Go.K
namespace Go.K
open Go Go.RowKit
def zi5 {X M:Type} (te:TypeId) (res:Except Int X) (V:X→M→Value) (J:X→M→Res) (E:Res) (B:Nat→Prop) (w:World):Ending→World→Prop:=fun e w'=>
 match res with
 | .ok x=>∃ m B',e=.returned (V x m)∧Mod B w w'∧Own B B' w w'∧(J x m).A B' w'
 | .error k=>∃ B',e=.panicked (thrC (errT te k))∧Mod B w w'∧Own B B' w w'∧E.A B' w'
section
variable {c:Cx} {ds:List Deferred} {p:Post} {T:List (Nat×Value)} {H:List Res} {ops:Array Oper} {rest:List Oper} {d:Option Nat} {ty:TypeId} {ps:String} {af:Array Edge}
theorem zie {X M:Type} {te:TypeId} {res:Except Int X} {V:X→M→Value} {J:X→M→Res} {E R:Res} {t:Nat} {f:FuncId} (i:Nat) (he:En c.P f) {fs cap:List Value} (hf:evo T (.tmp t)=some (.func (.func f) fs.toArray cap.toArray)) {os:List Operand} {tys:Array TypeId} {vs:List Value} (hn:zhp d c.n=true) (ha:evs T os=some vs) (hi:H[i]?=some R)
  (hc:∀ w B,Foc c H i R B w→Calls c.P f (fs++vs++cap).toArray w (zi5 te res V J E B w))
  (kt:∀ k,res=.error k→GK c ds (fun a w=>p.pn a (thrC (errT te k)) w) T (H.set i E))
  (k:∀ x m,res=.ok x→GK c ds (KL c ops p rest) (putT d (V x m) T) (H.set i (J x m))) :
  GK c ds (KL c ops p (⟨d,.call ⟨.value (.tmp t),os.toArray,tys⟩,ty,ps,af,none⟩ :: rest)) T H:=by
 refine zk0 rfl rfl fun a w hs hw=>?_
 obtain⟨B,hF⟩:=hw.foc hi
 unfold YldT
 rw [zgE he hf ha hs w]
 have:=hc w B hF
 rw [show(fs++vs++cap).toArray=fs.toArray++vs.toArray++cap.toArray from by simp] at this
 refine this.mono ?_
 intro e w' he'
 cases hres:res with
 | ok x=>
  rw [hres] at he'
  obtain⟨m,B',rfl,hm,ho,hA⟩:=he'
  exact .inl ⟨V x m,rfl,k x m hres _ _ (hs.putT hn _) (hF.upd hi hm ho hA)⟩
 | error q=>
  rw [hres] at he'
  obtain⟨B',rfl,hm,ho,hA⟩:=he'
  exact .inr ⟨_,rfl,kt q hres a w' hs (hF.upd hi hm ho hA)⟩
end
section
variable {P:Program} {n:Nat} {w0:World} {B:Nat→Prop} {T:List (Nat×Value)} {H:List Res} {fn:Func} {X M:Type} {te:TypeId} {res:Except Int X} {V:X→M→Value} {J:X→M→Res} {E:Res}
theorem zik {v:Value} (x:X) (m:M) (i:Nat) (hv:RV (cxB P n w0 B) [] T H fn v) (hu:v=V x m) (hi:H[i]?=some (J x m)) (hq:res=.ok x) :
  GK (cxB P n w0 B) [] (RetP P fn (zi5 te res V J E B w0)) T H:=zfh hv fun w hw=>by
 obtain⟨B',h1,h2,_,h3⟩:=zet hw hi
 subst hq
 exact⟨m,B',by rw [hu],h1,h2,h3⟩
theorem zbG {k:Int} {R:Res} (i:Nat) (hi:H[i]?=some R) (hR:∀ B w,R.A B w→E.A B w) (hq:res=.error k):GK (cxB P n w0 B) [] (fun a w=>(poOf P fn (zi5 te res V J E B w0)).pn a (thrC (errT te k)) w) T H:=
 zij (c:=cxB P n w0 B) fun w hw=>by
  obtain⟨B',h1,h2,_,h3⟩:=zet hw hi
  subst hq
  exact⟨B',rfl,h1,h2,hR _ _ h3⟩
end
end Go.K
namespace Go.Pln
open Go Go.K Go.RowKit Go.Stn
structure PTy where
 p:TypeId
 s:TypeId
 w:TypeId
 i:TypeId
 o:TypeId
def plH (y:PTy) (p:Nat) (sa:Option Addr) (sc:Nat) (S:List ShC) (wa:Option Addr) (wc:Nat) (V:List WlC):List Res:=
 [Box p [.slice sa S.length sc,.slice wa V.length wc] y.p,Row sa 20 sc y.s zbH S,Go.K.Rows (rowH y.i) S,Row wa 4 wc y.w zbS V,Go.K.Rows (rowO y.o) V]
def PlE (y:PTy) (p:Nat) (q:Plan):Res where
 A B w:=∃ (sa:Option Addr) (sc:Nat) (S:List ShC) (wa:Option Addr) (wc:Nat) (V:List WlC),S.map (·.s)=q.S∧V.map (·.s)=q.V∧(SepR (plH y p sa sc S wa wc V)).A B w
 loc B w w' h hA:=let ⟨sa,sc,S,wa,wc,V,h1,h2,h3⟩:=hA; ⟨sa,sc,S,wa,wc,V,h1,h2,(SepR (plH y p sa sc S wa wc V)).loc B w w' h h3⟩
def plAt (y:PTy) (p:Nat):Res where
 A B w:=∃ B':Nat→Prop,(∀ k,B' k→B k)∧∃ (a:Option Addr) (n c:Nat) (b:Option Addr) (m d:Nat),(Box p [.slice a n c,.slice b m d] y.p).A B' w
 loc _B w w' h hA:=let ⟨B',h1,a,n,c,b,m,d,h2⟩:=hA; ⟨B',h1,a,n,c,b,m,d,(Box p [.slice a n c,.slice b m d] y.p).loc B' w w' (fun k hk=>h k (h1 k hk)) h2⟩
def plOr (y:PTy) (p:Nat):Except Int Plan→Res
 | .ok q=>PlE y p q
 | .error _=>plAt y p
theorem zdy {y:PTy} {p:Nat} {q:Plan} (B:Nat→Prop) (w:World) (hA:(PlE y p q).A B w):(plAt y p).A B w:=by
 obtain⟨sa,sc,S,wa,wc,V,_,_,C,E,h1,_,h3,_⟩:=hA
 exact⟨C,h1,sa,_,sc,wa,_,wc,h3⟩
theorem zeb {y:PTy} {p:Nat} {a b:Option Addr} {n c m d:Nat} (B:Nat→Prop) (w:World) (hA:(Box p [.slice a n c,.slice b m d] y.p).A B w):(plAt y p).A B w:=
 ⟨B,fun _ h=>h,a,n,c,b,m,d,hA⟩
theorem zmt {y:PTy} {p:Nat} (B:Nat→Prop) (w:World) (hA:(plAt y p).A B w):(plAt y p).A B w:=hA
section
variable {c:Cx} {ds:List Deferred} {T:List (Nat×Value)} {H:List Res} {K:Act→World→Prop} {y:PTy} {p:Nat} {q:Plan}
theorem zgq (h:∀ (sa:Option Addr) (sc:Nat) (S:List ShC) (wa:Option Addr) (wc:Nat) (V:List WlC),S.map (·.s)=q.S→V.map (·.s)=q.V→GK c ds K T (plH y p sa sc S wa wc V++H)):GK c ds K T (PlE y p q :: H):=by
 intro a w ha hw
 obtain⟨hb,B,hB,⟨sa,sc,S,wa,wc,V,h1,h2,h3⟩,hr⟩:=hw
 exact h sa sc S wa wc V h1 h2 a w ha (Hp.split ⟨hb,B,hB,h3,hr⟩)
theorem zpP (h:∀ (a:Option Addr) (n m:Nat) (b:Option Addr) (e d:Nat),GK c ds K T (Box p [.slice a n m,.slice b e d] y.p :: H)):GK c ds K T (plAt y p :: H):=by
 intro a w ha hw
 obtain⟨hb,B,hB,⟨B',h1,x,n,m,b,e,d,h2⟩,hr⟩:=hw
 exact h x n m b e d a w ha ⟨hb,B',fun k hk=>hB k (h1 k hk),h2,Holds.anti H (fun k hk=>hk.elim .inl (fun h=>.inr (h1 k h))) hr⟩
theorem zgU {sa:Option Addr} {sc:Nat} {S:List ShC} {wa:Option Addr} {wc:Nat} {V:List WlC} (h1:S.map (·.s)=q.S) (h2:V.map (·.s)=q.V) (h:GK c ds K T (PlE y p q :: H)):GK c ds K T (plH y p sa sc S wa wc V++H):=by
 intro a w ha hw
 obtain⟨hb,B,hB,h3,hr⟩:=Hp.pack (L:=plH y p sa sc S wa wc V) (H:=H) hw
 exact h a w ha ⟨hb,B,hB,⟨sa,sc,S,wa,wc,V,h1,h2,h3⟩,hr⟩
end
theorem zkD {w:World} {R:Res}:∀ (X:List Res) (B:Nat→Prop),All (X++[R]) B w→∃ C D:Nat→Prop,(∀ k,C k→B k)∧(∀ k,D k→B k∧¬ C k)∧All X C w∧R.A D w
 | [],B,⟨C,E,h1,h2,hA,_⟩=>⟨fun _=>False,C,fun _ h=>h.elim,fun k hk=>⟨h1 k hk,fun h=>h⟩,trivial,hA⟩
 | S :: X,B,⟨C,E,h1,h2,hA,hr⟩=>by
  obtain⟨C',D,g1,g2,g3,g4⟩:=zkD X E hr
  refine⟨fun k=>C k∨C' k,D,fun k hk=>hk.elim (h1 k) (fun h=>(h2 k (g1 k h)).1),fun k hk=>⟨(h2 k (g2 k hk).1).1,fun h=>h.elim (h2 k (g2 k hk).1).2 (g2 k hk).2⟩,⟨C,C',fun k hk=>.inl hk,fun k hk=>⟨.inr hk,(h2 k (g1 k hk)).2⟩,hA,g3⟩,g4⟩
theorem zsh {α:Type} [Inhabited α] {V:List α} {x:α} (h:0 < V.length):V.set (V.length - 1) x=V.take (V.length - 1)++[x]:=by
 rw [List.set_eq_take_append_cons_drop,if_pos (by omega),List.drop_of_length_le (by omega)]
theorem zqS {α:Type} [Inhabited α] {V:List α} (h:0 < V.length):V=V.take (V.length - 1)++[V.getD (V.length - 1) default]:=by
 have h1:V.drop (V.length - 1)=[V.getD (V.length - 1) default]:=by
  rw [List.drop_eq_getElem_cons (by omega),List.drop_of_length_le (by omega)]
  simp [show V.length - 1 < V.length by omega]
 conv=>lhs; rw [←List.take_append_drop (V.length - 1) V,h1]
theorem zqE {α:Type} [Inhabited α] {f:α→Res} {V:List α} {B:Nat→Prop} {w:World} (h:0 < V.length) (hA:(Go.K.Rows f V).A B w):(SepR [Go.K.Rows f (V.take (V.length - 1)),f (V.getD (V.length - 1) default)]).A B w:=by
 have h2:All (V.map f) B w:=hA
 rw [zqS h,List.map_append] at h2
 obtain⟨C,D,g1,g2,g3,g4⟩:=zkD _ _ h2
 exact⟨C,D,g1,g2,g3,D,fun _=>False,fun _ h=>h,fun _ h=>h.elim,g4,trivial⟩
theorem zsc {α:Type} [Inhabited α] {f:α→Res} {V:List α} {x:α} {B:Nat→Prop} {w:World} (h:0 < V.length) (hA:(SepR [Go.K.Rows f (V.take (V.length - 1)),f x]).A B w):(Go.K.Rows f (V.set (V.length - 1) x)).A B w:=by
 rw [zsh h]
 exact zfr hA
end Go.Pln
namespace Go.Pln
open Go Go.K Go.RowKit Go.Stn Go.Txt
theorem zkO (c:UInt8):∀ l:List UInt8,(cutL c l).length≤l.length+1
 | []=>by simp [cutL]
 | x :: r=>by
  have:=zkO c r
  rw [cutL]
  split
  ·simp; omega
  ·split
   ·simp
   ·rename_i e; rw [e] at this; simp at this ⊢; omega
theorem zjw (s:ByteArray) (c:UInt8):1≤(zcn s c).length∧(zcn s c).length≤s.size+1:=by
 have h1:=zkO c s.data.toList
 have h2:=zm4 c s.data.toList
 rw [←ziG,List.length_map] at h1 h2
 have h3:s.data.toList.length=s.size:=by rw [Array.length_toList]; rfl
 omega
theorem zns (s:ByteArray):mkB s.data.toList=s:=by
 cases s; simp [mkB]
theorem zcT (s:ByteArray) (c:UInt8):zcn s c=(cutL c s.data.toList).map mkB:=by
 rw [←ziG,List.map_map]
 conv=>lhs; rw [←List.map_id (zcn s c)]
 exact List.map_congr_left fun x _=>(zns x).symm
def zfN:List ByteArray→List ByteArray
 | []=>[]
 | [x]=>if x.size=0 then [] else [x]
 | x :: y :: r=>x :: zfN (y :: r)
def zcb (t:ByteArray):List ByteArray:=zfN (zcn t 10)
def cutA (t:ByteArray):ByteArray:=mkB (Lib.cut t.data.toList [10]).1
def cutB (t:ByteArray):ByteArray:=mkB (Lib.cut t.data.toList [10]).2.1
theorem znt (l:List UInt8):(mkB l).size=l.length:=by show l.toArray.size=l.length; simp
theorem zp4 {t:ByteArray} (h:t.size=0):zcb t=[]:=by
 have h1:t.data.toList=[]:=List.eq_nil_of_length_eq_zero (by rw [Array.length_toList]; exact h)
 unfold zcb
 rw [zcT,h1]
 rfl
theorem zol {t:ByteArray} (h:t.size≠0):zcb t=cutA t :: zcb (cutB t):=by
 unfold zcb cutA cutB
 rw [zcT,zcT]
 rcases zm5 t.data.toList 10 with ⟨p,r,h1,h2,h3⟩ | ⟨h1,h2⟩
 ·rw [h3,h1,zhx h2]
  show zfN (mkB p :: (cutL 10 r).map mkB)=mkB p :: zfN ((cutL 10 r).map mkB)
  have:=zm4 10 r
  cases hc:cutL 10 r with
  | nil=>rw [hc] at this; simp at this
  | cons a b=>rfl
 ·rw [h2,zeD h1]
  show(if (mkB t.data.toList).size=0 then [] else [mkB t.data.toList])=mkB t.data.toList :: []
  rw [if_neg (by rw [zns]; exact h)]
theorem zkN {t:ByteArray} (h:t.size≠0):(cutB t).size < t.size:=by
 have h3:t.data.toList.length=t.size:=by rw [Array.length_toList]; rfl
 unfold cutB
 rw [znt]
 rcases zm5 t.data.toList 10 with ⟨p,r,h1,h2,h3⟩ | ⟨h1,h2⟩
 ·rw [h3]
  have:=congrArg List.length h1
  simp at this
  dsimp only
  omega
 ·rw [h2]; dsimp only; simp; omega
theorem zgY {t u:ByteArray} {i:Nat} (h:zcb u=(zcb t).drop i) (hu:u.size≠0):zcb (cutB u)=(zcb t).drop (i+1)∧(zcb t)[i]?=some (cutA u):=by
 rw [zol hu] at h
 constructor
 ·rw [show(zcb t).drop (i+1)=((zcb t).drop i).drop 1 from by rw [List.drop_drop],←h]; rfl
 ·have:=congrArg (fun l=>l[0]?) h
  simpa using this.symm
theorem zp3 {t u:ByteArray} {i:Nat} (h:zcb u=(zcb t).drop i) (hu:u.size=0) (hi:i≤(zcb t).length):i=(zcb t).length:=by
 rw [zp4 hu] at h
 have:=congrArg List.length h
 simp at this
 omega
theorem zlh:∀ {l:List ByteArray} {x:ByteArray},x∈zfN l→x∈l
 | [],_,h=>h
 | [x],y,h=>by
  rw [zfN] at h
  split at h
  ·cases h
  ·exact h
 | a :: b :: r,y,h=>by
  rw [zfN] at h
  rcases List.mem_cons.1 h with h' | h'
  ·exact List.mem_cons.2 (.inl h')
  ·exact List.mem_cons_of_mem _ (zlh h')
def idle (t:ByteArray):Bool:=t.size == 0||zee t 0 == 35
def zdo (q:Plan) (n:Int):List ByteArray→Except (Int×Int) Plan
 | []=>.ok q
 | t :: r=>if idle t=true then zdo q (n+1) r else match zcu q t with
  | .error k=>.error (n,k)
  | .ok q'=>zdo q' (n+1) r
def zgA (t:ByteArray):Plan×Int×Int:=
 if t.size > 40000 then(⟨[],[]⟩,0,5) else match zdo ⟨[],[]⟩ 1 (zcb t) with
 | .ok q=>(q,0,0)
 | .error x=>(⟨[],[]⟩,x.1,x.2)
end Go.Pln
namespace Go.Pln
open Go Go.K Go.RowKit Go.Stn Go.Txt
def NZ {α:Type} (r:Except Int α):Prop:=∀ k,r=.error k→k≠0
theorem zgf {α:Type} (x:α):NZ (.ok x:Except Int α):=fun _ h=>by cases h
theorem zcV {α:Type} {k:Int} (h:k≠0):NZ (.error k:Except Int α):=fun _ e=>by cases e; exact h
theorem zbE {α β:Type} {a:Except Int α} {f:α→Except Int β} (h1:NZ a) (h2:∀ x,NZ (f x)):NZ (a >>= f):=by
 cases a with
 | ok x=>rw [zak]; exact h2 x
 | error k=>rw [zcc]; exact zcV (h1 k rfl)
theorem zcO {α:Type} {p:Prop} [Decidable p] {a b:Except Int α} (h1:NZ a) (h2:NZ b):NZ (if p then a else b):=by
 split
 ·exact h1
 ·exact h2
theorem zin:∀ ws:List ByteArray,NZ (zdp ws)
 | []=>zcV (by decide)
 | _ :: _=>zgf _
theorem zqI (u:ByteArray) (ws:List ByteArray):NZ (sayE u ws):=zbE (zin ws) fun _=>zcO (zgf _) (zcV (by decide))
theorem zmn (ws:List ByteArray):NZ (zes ws):=zbE (zin ws) fun _=>zcO (zgf _) (zcV (by decide))
theorem zpm (ws:List ByteArray):NZ (endE ws):=zcO (zgf _) (zcV (by decide))
theorem zv8 (ws:List ByteArray):NZ (numE ws):=zbE (zin ws) fun _=>zcO (zgf _) (zcV (by decide))
theorem zis:∀ (n:Nat) (ws:List ByteArray),NZ (zco n ws)
 | 0,_=>zgf _
 | n+1,ws=>zbE (zv8 ws) fun x=>zbE (zis n x.2) fun _=>zgf _
theorem zp1 (l:List ByteArray) (f:Nat) (ws:List ByteArray):NZ (zfk l f ws):=zbE (zin ws) fun _=>zcO (zcV (by decide)) (zgf _)
theorem zfp (u:ByteArray) (n:Nat) (ws:List ByteArray):NZ (oneE u n ws):=zbE (zqI u ws) fun x=>zis n x.2
theorem zjm:∀ (ws:List ByteArray) (acc:List Int),NZ (zbF acc ws)
 | [],_=>zgf _
 | _ :: r,acc=>by
  rw [zbF]
  exact zcO (zgf _) (zcO (zjm r _) (zcV (by decide)))
theorem zsj (ws:List ByteArray):NZ (zci ws):=by
 unfold zci
 refine zbE (zmn _) fun _=>zbE (zfp _ _ _) fun _=>zbE (zfp _ _ _) fun _=>zbE (zfp _ _ _) fun _=>zbE (zfp _ _ _) fun _=>zbE (zqI _ _) fun _=>zbE (zjm _ _) fun _=>?_
 refine zbE (zfp _ _ _) fun _=>zbE (zfp _ _ _) fun _=>zbE (zfp _ _ _) fun _=>zbE (zfp _ _ _) fun _=>zbE (zfp _ _ _) fun _=>zbE (zqI _ _) fun _=>zbE (zp1 _ _ _) fun _=>zbE (zis _ _) fun _=>?_
 exact zbE (zfp _ _ _) fun _=>zbE (zfp _ _ _) fun _=>zcO (zcV (by decide)) (zgf _)
theorem zqL (q:Plan) (ws:List ByteArray):NZ (zb3 q ws):=
 zbE (zsj ws) fun _=>zbE (zpm _) fun _=>zcO (zcV (by decide)) (zcO (zcO (zcV (by decide)) (zgf _)) (zcV (by decide)))
theorem zst (q:Plan) (ws:List ByteArray):NZ (zb1 q ws):=
 zbE (zmn ws) fun _=>zbE (zmn _) fun _=>zbE (zis _ _) fun _=>zbE (zpm _) fun _=>zcO (zcV (by decide)) (zcO (zcO (zcO (zcV (by decide)) (zgf _)) (zcV (by decide))) (zcV (by decide)))
theorem zrW (q:Plan) (ws:List ByteArray):NZ (zch q ws):=
 zbE (zp1 _ _ ws) fun _=>zbE (zis _ _) fun _=>zbE (zpm _) fun _=>zcO (zcV (by decide)) (zcO (zgf _) (zcV (by decide)))
theorem zuc (q:Plan) (t:ByteArray):NZ (zcu q t):=by
 unfold zcu
 refine zbE (zin _) fun x=>?_
 unfold zff
 exact zcO (zqL _ _) (zcO (zst _ _) (zcO (zrW _ _) (zcV (by decide))))
theorem zrg {q:Plan} {t:ByteArray} (h:¬ zkJ (zcu q t)=0):zcu q t=.error (zkJ (zcu q t)):=by
 cases hl:zcu q t with
 | ok x=>rw [hl] at h; exact absurd rfl h
 | error k=>rfl
theorem ztu {q:Plan} {t:ByteArray} (h:zkJ (zcu q t)=0):∃ q',zcu q t=.ok q':=by
 cases hl:zcu q t with
 | ok x=>exact⟨x,rfl⟩
 | error k=>rw [hl] at h; exact absurd h (zuc q t k hl)
theorem zup:OkQ ⟨[],[]⟩:=⟨fun s h=>(by cases h),Nat.zero_le _,Nat.zero_le _,fun v h=>(by cases h)⟩
theorem zoq {q:Plan} {n:Int} {t:ByteArray} {r:List ByteArray} (h:idle t=true):zdo q n (t :: r)=zdo q (n+1) r:=by rw [zdo,if_pos h]
theorem zqr {q:Plan} {n:Int} {t:ByteArray} {r:List ByteArray} {k:Int} (h:idle t=false) (he:zcu q t=.error k):zdo q n (t :: r)=.error (n,k):=by
 rw [zdo,if_neg (by rw [h]; exact Bool.false_ne_true),he]
theorem zhB {q q':Plan} {n:Int} {t:ByteArray} {r:List ByteArray} (h:idle t=false) (he:zcu q t=.ok q'):zdo q n (t :: r)=zdo q' (n+1) r:=by
 rw [zdo,if_neg (by rw [h]; exact Bool.false_ne_true),he]
theorem zl1 {l:List ByteArray} {i:Nat} {u:ByteArray} (h:l[i]?=some u):l.drop i=u :: l.drop (i+1):=by
 obtain⟨h1,rfl⟩:=List.getElem?_eq_some_iff.1 h
 exact List.drop_eq_getElem_cons h1
def PlR (y:PTy) (z:(Option Addr×Nat×List ShC)×(Option Addr×Nat×List WlC)) (q:Plan):Res where
 A B w:=z.1.2.2.map (·.s)=q.S∧z.2.2.2.map (·.s)=q.V∧(SepR [Row z.1.1 20 z.1.2.1 y.s zbH z.1.2.2,Go.K.Rows (rowH y.i) z.1.2.2,Row z.2.1 4 z.2.2.1 y.w zbS z.2.2.2,Go.K.Rows (rowO y.o) z.2.2.2]).A B w
 loc B w w' h hA:=⟨hA.1,hA.2.1,(SepR [Row z.1.1 20 z.1.2.1 y.s zbH z.1.2.2,Go.K.Rows (rowH y.i) z.1.2.2,Row z.2.1 4 z.2.2.1 y.w zbS z.2.2.2,Go.K.Rows (rowO y.o) z.2.2.2]).loc B w w' h hA.2.2⟩
theorem zxt {y:PTy} {p:Nat} {B:Nat→Prop} {w:World} (hA:(Box p [.slice none 0 0,.slice none 0 0] y.p).A B w):(PlE y p ⟨[],[]⟩).A B w:=
 ⟨none,0,[],none,0,[],rfl,rfl,B,fun _=>False,fun _ h=>h,fun _ h=>h.elim,hA,fun _=>False,fun _=>False,fun _ h=>h,fun _ h=>h.elim,.inl ⟨rfl,rfl,rfl⟩,fun _=>False,fun _=>False,fun _ h=>h,fun _ h=>h.elim,trivial,
  fun _=>False,fun _=>False,fun _ h=>h,fun _ h=>h.elim,.inl ⟨rfl,rfl,rfl⟩,fun _=>False,fun _=>False,fun _ h=>h,fun _ h=>h.elim,trivial,trivial⟩
theorem zpO {c:Cx} {ds:List Deferred} {T:List (Nat×Value)} {H:List Res} {K:Act→World→Prop} (y:PTy) (h:GK c ds K T (PlR y ((none,0,[]),(none,0,[])) ⟨[],[]⟩ :: H)):GK c ds K T H:=fun a w ha hw=>
 h a w ha ⟨hw.base,fun _=>False,fun _ hk=>hk.elim,⟨rfl,rfl,fun _=>False,fun _=>False,fun _ h=>h,fun _ h=>h.elim,.inl ⟨rfl,rfl,rfl⟩,fun _=>False,fun _=>False,fun _ h=>h,fun _ h=>h.elim,trivial,
  fun _=>False,fun _=>False,fun _ h=>h,fun _ h=>h.elim,.inl ⟨rfl,rfl,rfl⟩,fun _=>False,fun _=>False,fun _ h=>h,fun _ h=>h.elim,trivial,trivial⟩,Holds.anti H (fun _ hk=>hk.elim id False.elim) hw.holds⟩
def stR (y:PTy) (p:Nat):Except (Int×Int) Plan→Res
 | .ok q=>PlE y p q
 | .error _=>Box p [.slice none 0 0,.slice none 0 0] y.p
def lnE:Except (Int×Int) Plan→Int
 | .ok _=>0
 | .error x=>x.1
def erE:Except (Int×Int) Plan→Int
 | .ok _=>0
 | .error x=>x.2
theorem zgi {c:UInt8}:∀ {l:List UInt8} {p:List UInt8},p∈cutL c l→p.length≤l.length
 | [],p,h=>by simp [cutL] at h; subst h; simp
 | x :: r,p,h=>by
  rw [cutL] at h
  split at h
  ·rcases List.mem_cons.1 h with rfl | h
   ·simp
   ·have:=zgi h; simp; omega
  ·split at h
   ·simp at h; subst h; simp
   ·rename_i q t e
    rcases List.mem_cons.1 h with rfl | h
    ·have:=zgi (c:=c) (l:=r) (p:=q) (by rw [e]; simp); simp; omega
    ·have:=zgi (c:=c) (l:=r) (p:=p) (by rw [e]; simp [h]); simp; omega
theorem zom {t u:ByteArray} {i:Nat} (h:(zcb t)[i]?=some u):u.size≤t.size:=by
 have h1:=zlh (List.mem_of_getElem? h)
 rw [zcT] at h1
 obtain⟨p,hp,rfl⟩:=List.mem_map.1 h1
 have:=zgi hp
 rw [znt]
 rwa [Array.length_toList] at this
theorem zv2 {u:ByteArray} (h:decide (zee u 0=35)=true):idle u=true:=by
 unfold idle
 rw [Bool.or_eq_true]
 exact .inr (by simpa using h)
theorem zt2 {u:ByteArray} (h1:¬ u.size=0) (h:decide (zee u 0=35)=false):idle u=false:=by
 unfold idle
 simp only [Bool.or_eq_false_iff]
 exact⟨by simpa using h1,by simpa using h⟩
theorem zv1 {u:ByteArray} (h:u.size=0):idle u=true:=by
 unfold idle
 rw [h]; rfl
theorem zjq {t:ByteArray} (h:t.size > 40000):zgA t=(⟨[],[]⟩,0,5):=if_pos h
theorem zkf {t:ByteArray} {q:Plan} (h:¬ t.size > 40000) (he:zdo ⟨[],[]⟩ 1 (zcb t)=.ok q):zgA t=(q,0,0):=by
 unfold zgA
 rw [if_neg h,he]
theorem zlq {t:ByteArray} {x:Int×Int} (h:¬ t.size > 40000) (he:zdo ⟨[],[]⟩ 1 (zcb t)=.error x):zgA t=(⟨[],[]⟩,x.1,x.2):=by
 unfold zgA
 rw [if_neg h,he]
end Go.Pln
namespace Go.Pln
open Go Go.K Go.RowKit Go.Stn Go.Txt
theorem zzk (s:ByteArray):s.data.toList.length=s.size:=by rw [Array.length_toList]; rfl
theorem zy9 (s:ByteArray) (i:Int):zee s i=((s.data.toList[i.toNat]?.getD 0).toNat:Int):=by
 unfold zee
 by_cases h:i.toNat < s.size
 ·rw [getElem?_pos s i.toNat h]
  have h2:i.toNat < s.data.toList.length:=by rw [zzk]; exact h
  rw [List.getElem?_eq_getElem h2]
  rfl
 ·rw [getElem?_neg s i.toNat h,List.getElem?_eq_none (by rw [zzk]; omega)]
def zyZ (s:ByteArray):Int:=if s.data.toList.all (fun c=>decide (ziZ c))=true∧s.size≤6 then(zfQ 0 s.data.toList:Int) else 0
theorem zzo {s:ByteArray} (h:numW s=true):zyZ s=zdO s:=by
 have hd:=(zrO s).1 h
 unfold zyZ
 rw [if_pos ⟨by rw [List.all_eq_true]; exact fun c hc=>decide_eq_true (hd.2.2.1 c hc),by have:=hd.2.1; rw [zzk] at this; exact this⟩,(zoV h).2]
end Go.Pln
namespace Go.Pln
open Go Go.K Go.RowKit Go.Stn Go.Txt
theorem zAf {x:ByteArray} (h:(x.toList == wLeast.toList)=true):numW x=false:=by
 have:x=wLeast:=by
  rw [Lib.toList_data,Lib.toList_data,beq_iff_eq] at h
  rw [←zns x,←zns wLeast,h]
 rw [this]; decide +kernel
end Go.Pln
namespace Go.Pln
open Go Go.K Go.RowKit Go.Stn Go.Txt
theorem beqL (a b:ByteArray):(a.toList == b.toList)=(a == b):=by
 rw [Lib.toList_data,Lib.toList_data,Bool.eq_iff_iff,beq_iff_eq]
 obtain⟨a⟩:=a; obtain⟨b⟩:=b
 show a.toList=b.toList↔(a == b)=true
 rw [beq_iff_eq]
 exact Array.toList_inj
theorem beqB (a b:ByteArray):(a.toList == b.toList)=true↔a=b:=by
 rw [Lib.toList_data,Lib.toList_data,beq_iff_eq]
 exact⟨fun h=>by rw [←zns a,←zns b,h],fun h=>by rw [h]⟩
theorem zy5 {q:Plan} {t:ByteArray}:zcu q t=zff q ((zcn t 32).getD 0 default) ((zcn t 32).drop 1):=by
 unfold zcu
 rw [zuj (by have:=(zjw t 32).1; omega),zak]
theorem zAb {q:Plan} {u:ByteArray} {ws:List ByteArray} (h:(u.toList == (⟨#[115,104,101,101,116]⟩:ByteArray).toList)=true):zff q u ws=zb3 q ws:=by
 rw [beqL] at h; unfold zff; exact if_pos h
theorem zAp {q:Plan} {u:ByteArray} {ws:List ByteArray} (h0:(u.toList == (⟨#[115,104,101,101,116]⟩:ByteArray).toList)=false) (h:(u.toList == (⟨#[119,97,108,108]⟩:ByteArray).toList)=true):zff q u ws=zb1 q ws:=by
 rw [beqL] at h0 h; unfold zff; rw [if_neg (by rw [h0]; exact Bool.false_ne_true)]; exact if_pos h
theorem zAo {q:Plan} {u:ByteArray} {ws:List ByteArray} (h0:(u.toList == (⟨#[115,104,101,101,116]⟩:ByteArray).toList)=false) (h1:(u.toList == (⟨#[119,97,108,108]⟩:ByteArray).toList)=false) (h:(u.toList == (⟨#[111,112,101,110]⟩:ByteArray).toList)=true):zff q u ws=zch q ws:=by
 rw [beqL] at h0 h1 h; unfold zff; rw [if_neg (by rw [h0]; exact Bool.false_ne_true),if_neg (by rw [h1]; exact Bool.false_ne_true)]; exact if_pos h
theorem zzQ {q:Plan} {ws:List ByteArray} (h4:ws.length=4) (h1:zgx (ws.getD 1 default)=true) (h2:zgx (ws.getD 2 default)=true) (h3:numW (ws.getD 3 default)=true) :
  zb1 q (ws.drop 1)=if 0≤zss q.V (ws.getD 1 default) then .error 7 else if 0≤zew q.S (ws.getD 2 default) then
  (if zd1 (getS q.S (ws.getD 2 default)).height ⟨ws.getD 1 default,ws.getD 2 default,zyZ (ws.getD 3 default),[]⟩=true then(if q.V.length=50 then .error 5 else .ok ⟨q.S,q.V++[⟨ws.getD 1 default,ws.getD 2 default,zyZ (ws.getD 3 default),[]⟩]⟩) else .error 2) else .error 6:=by
 match ws,h4,h1,h2,h3 with
 | [_,a,b,c],_,h1,h2,h3=>
  have h1:zgx a=true:=h1
  have h2:zgx b=true:=h2
  have h3:numW c=true:=h3
  show zb1 q [a,b,c]=(if 0≤zss q.V a then .error 7 else if 0≤zew q.S b then(if zd1 (getS q.S b).height ⟨a,b,zyZ c,[]⟩=true then(if q.V.length=50 then .error 5 else .ok ⟨q.S,q.V++[⟨a,b,zyZ c,[]⟩]⟩) else .error 2) else .error 6)
  rw [zzo h3]
  unfold zb1 zes
  rw [show zdp [a,b,c]=.ok (a,[b,c]) from rfl,zak,if_pos h1,zak,show zdp [b,c]=.ok (b,[c]) from rfl,zak,if_pos h2,zak,zlk]
  unfold numE
  rw [show zdp [c]=.ok (c,[]) from rfl,zak,if_pos h3]
  rfl
def zAg (ws:List ByteArray):Except Int (Int×List Int):=do
 let a ←zfk opensW 1 ws
 let b ←zco 4 a.2
 let _ ←endE b.2
 .ok (a.1,b.1)
theorem zAw (q:Plan) (ws:List ByteArray):zch q ws=(zAg ws >>= fun x=>if q.V.length=0 then .error 4 else
  if zd1 (getS q.S (q.V.getD (q.V.length - 1) default).sheet).height (more (q.V.getD (q.V.length - 1) default) ⟨x.1,x.2.getD 0 0,(x.2.drop 1).getD 0 0,((x.2.drop 1).drop 1).getD 0 0,(((x.2.drop 1).drop 1).drop 1).getD 0 0⟩)=true then
   .ok ⟨q.S,q.V.set (q.V.length - 1) (more (q.V.getD (q.V.length - 1) default) ⟨x.1,x.2.getD 0 0,(x.2.drop 1).getD 0 0,((x.2.drop 1).drop 1).getD 0 0,(((x.2.drop 1).drop 1).drop 1).getD 0 0⟩)⟩ else .error 2):=by
 unfold zch zAg
 cases zfk opensW 1 ws with
 | error k=>rfl
 | ok a=>
  rw [zak,zak]
  cases zco 4 a.2 with
  | error k=>rfl
  | ok b=>
   rw [zak,zak]
   cases endE b.2 <;> rfl
theorem zAd {n:ByteArray} (h:zgx n=true):n.size≤16:=by
 unfold zgx at h
 simp only [Bool.and_eq_true,decide_eq_true_eq] at h
 omega
theorem zEk {α:Type} (p:α→Bool) (l:List α):0≤zbJ p l↔l.any p=true:=by
 unfold zbJ
 by_cases h:l.any p=true
 ·rw [if_pos h]; exact⟨fun _=>h,fun _=>by omega⟩
 ·rw [if_neg h]; exact⟨fun h'=>by omega,fun h'=>absurd h' h⟩
theorem zy0 (_q:Plan):∀ (l:List ByteArray) (n:Int) (q:Plan),zdo q n (zfN l)=zdo q n l
 | [],_,_=>rfl
 | [x],n,q=>by
  rw [zfN]
  split
  ·rename_i h
   rw [zdo,zdo,if_pos (zv1 h),zdo]
  ·rfl
 | x :: y :: r,n,q=>by
  rw [zfN,zdo,zdo]
  split
  ·exact zy0 q _ _ _
  ·split
   ·rfl
   ·exact zy0 q _ _ _
end Go.Pln
namespace Go.Stn
open Go Go.K Go.RowKit
structure OnH (x a b:Pt) (D t:Int):Prop where
 pos:0 < D
 t0:0≤t
 t1:t < D
 ex:D*(x.x - a.x)=t*(b.x - a.x)
 ez:D*(x.z - a.z)=t*(b.z - a.z)
theorem OnH.lin {x a b:Pt} {D t:Int} (h:OnH x a b D t) (u v:Pt):D*zbs u v x=(D - t)*zbs u v a+t*zbs u v b:=by
 have e1:=h.ex
 have e2:=h.ez
 unfold zbs
 have f1:D*(x.x - u.x)=t*(b.x - a.x)+D*(a.x - u.x):=by rw [←e1]; grind
 have f2:D*(x.z - u.z)=t*(b.z - a.z)+D*(a.z - u.z):=by rw [←e2]; grind
 calc D*((v.x - u.x)*(x.z - u.z) - (v.z - u.z)*(x.x - u.x))=(v.x - u.x)*(D*(x.z - u.z)) - (v.z - u.z)*(D*(x.x - u.x)):=by grind
  _=_:=by rw [f1,f2]; grind
theorem OnH.start {x a b:Pt} {D:Int} (h:OnH x a b D 0):x=a:=by
 have e1:=h.ex
 have e2:=h.ez
 have hp:=h.pos
 rw [Int.zero_mul,Int.mul_eq_zero] at e1 e2
 cases x; cases a
 simp only [Pt.mk.injEq]
 dsimp only at *
 omega
theorem OnH.at {a b:Pt} (D:Int) (h:0 < D):OnH a a b D 0:=⟨h,Int.le_refl _,h,by simp,by simp⟩
theorem zg5 (u v:Pt):zbs u u v=0:=by unfold zbs; grind
theorem zdc (u v:Pt):zbs u v v=0:=by unfold zbs; grind
theorem zdd (u v:Pt):zbs u v u=0:=by unfold zbs; grind
theorem zqM (u v w:Pt):zbs u v w = -zbs u w v:=by unfold zbs; grind
theorem ziF (u v w:Pt):zbs u v w=zbs w u v:=by unfold zbs; grind
theorem zuA (o e u v w:Pt):zbs o e v*zbs o u w=zbs o e u*zbs o v w+zbs o e w*zbs o u v:=by unfold zbs; grind
theorem zlZ (l:List Pt) (i:Nat):cor l (i % l.length)=cor l i:=by unfold cor; rw [Nat.mod_mod]
theorem ze1 {l:List Pt} {i j:Nat} (h:i % l.length=j % l.length):cor l i=cor l j:=by unfold cor; rw [h]
theorem zeB (l:List Pt) (i k:Nat):cor l (i % l.length+k)=cor l (i+k):=by unfold cor; rw [Nat.mod_add_mod]
theorem Cvx.edge {l:List Pt} (h:Cvx l) (i k:Nat) (h2:2≤k) (hk:k < l.length):0 < zbs (cor l i) (cor l (i+1)) (cor l (i+k)):=by
 have:=h (i % l.length) k (Nat.mod_lt _ (by omega)) h2 hk
 rwa [zlZ,zeB,zeB] at this
theorem Cvx.tri {l:List Pt} (h:Cvx l) (a i:Nat) (hi:0 < i):∀ j,i < j→j < l.length→0 < zbs (cor l a) (cor l (a+i)) (cor l (a+j)):=by
 intro j
 induction j with
 | zero=>intro hj; omega
 | succ j ih=>
  intro hj hn
  have hnext:∀ i,0 < i→i+1 < l.length→0 < zbs (cor l a) (cor l (a+i)) (cor l (a+(i+1))):=fun i h0 h1=>by
   have:=h.edge (a+i) (l.length - i) (by omega) (by omega)
   rw [show a+i+(l.length - i)=a+l.length from by omega,ze0,Nat.add_assoc] at this
   rw [zhD]
   exact this
  by_cases hij:i=j
  ·subst hij; exact hnext i hi hn
  ·have h1:=ih (by omega) (by omega)
   have h2:=hnext j (by omega) hn
   have e0:0≤zbs (cor l a) (cor l (a+1)) (cor l (a+i)):=by
    by_cases h1:i=1
    ·subst h1; rw [zdc]; omega
    ·exact Int.le_of_lt (h.edge a i (by omega) (by omega))
   have e1:=h.edge a j (by omega) (by omega)
   have e2:=h.edge a (j+1) (by omega) (by omega)
   have hp:=zuA (cor l a) (cor l (a+1)) (cor l (a+i)) (cor l (a+j)) (cor l (a+(j+1)))
   have p1:0≤zbs (cor l a) (cor l (a+1)) (cor l (a+i))*zbs (cor l a) (cor l (a+j)) (cor l (a+(j+1))):=Int.mul_nonneg e0 (Int.le_of_lt h2)
   have p2:0 < zbs (cor l a) (cor l (a+1)) (cor l (a+(j+1)))*zbs (cor l a) (cor l (a+i)) (cor l (a+j)):=Int.mul_pos e2 h1
   have p3:0 < zbs (cor l a) (cor l (a+1)) (cor l (a+j))*zbs (cor l a) (cor l (a+i)) (cor l (a+(j+1))):=by omega
   exact Int.pos_of_mul_pos_right p3 e1
theorem Cvx.tri3 {l:List Pt} (h:Cvx l) {i j k:Nat} (hij:i < j) (hjk:j < k) (hk:k < i+l.length):0 < zbs (cor l i) (cor l j) (cor l k):=by
 have:=h.tri i (j - i) (by omega) (k - i) (by omega) (by omega)
 rwa [show i+(j - i)=j from by omega,show i+(k - i)=k from by omega] at this
theorem Cvx.tri0 {l:List Pt} (h:Cvx l) {i j k:Nat} (hij:i≤j) (hjk:j≤k) (hk:k≤i+l.length):0≤zbs (cor l i) (cor l j) (cor l k):=by
 by_cases h1:i=j
 ·subst h1; rw [zg5]; omega
 ·by_cases h2:j=k
  ·subst h2; rw [zdc]; omega
  ·by_cases h3:k=i+l.length
   ·subst h3; rw [ze0,zdd]; omega
   ·exact Int.le_of_lt (h.tri3 (by omega) (by omega) (by omega))
theorem nn2 {a b c d:Int} (h1:0≤a) (h2:0≤b) (h3:0≤c) (h4:0≤d):0≤a*b+c*d:=Int.add_nonneg (Int.mul_nonneg h1 h2) (Int.mul_nonneg h3 h4)
theorem np2 {a b c d:Int} (h1:0≤a) (h2:b≤0) (h3:0≤c) (h4:d≤0):a*b+c*d≤0:=by
 have:=Int.mul_nonpos_of_nonneg_of_nonpos h1 h2
 have:=Int.mul_nonpos_of_nonneg_of_nonpos h3 h4
 omega
theorem zr4 {a b c d:Int} (h1:0 < a) (h2:0 < b) (h3:0≤c) (h4:0≤d):0 < a*b+c*d:=by
 have:=Int.mul_pos h1 h2
 have:=Int.mul_nonneg h3 h4
 omega
theorem zwe {a b c d:Int} (h1:0≤a) (h2:0≤b) (h3:0 < c) (h4:0 < d):0 < a*b+c*d:=by
 have:=Int.mul_nonneg h1 h2
 have:=Int.mul_pos h3 h4
 omega
theorem ziq {a b:Int} (h1:0 < a) (h2:a*b≤0):b≤0:=Classical.byContradiction fun h=>by
 have:=Int.mul_pos h1 (show 0 < b by omega)
 omega
theorem zio {a b:Int} (h1:0 < a) (h2:0≤a*b):0≤b:=Classical.byContradiction fun h=>by
 have:=Int.mul_pos h1 (show 0 < -b by omega)
 rw [Int.mul_neg] at this
 omega
theorem znI {a b:Int} (h1:0 < a) (h2:0 < a*b):0 < b:=Int.pos_of_mul_pos_right h2 h1
section
variable {l:List Pt} {p q:Pt} {a m:Nat} {D s E t:Int}
theorem zmB (hp:OnH p (cor l a) (cor l (a+1)) D s) (x y:Pt):D*zbs p x y=(D - s)*zbs (cor l a) x y+s*zbs (cor l (a+1)) x y:=by
 have:=hp.lin x y
 rw [ziF x y p,ziF x y (cor l a),ziF x y (cor l (a+1))] at this
 exact this
theorem zkr {b:Nat} (hq:OnH q (cor l b) (cor l (b+1)) E t) (x y:Pt):E*zbs x q y=(E - t)*zbs x (cor l b) y+t*zbs x (cor l (b+1)) y:=by
 have:=hq.lin y x
 rw [zhD y x q,zhD y x (cor l b),zhD y x (cor l (b+1))] at this
 exact this
theorem zth (h:Cvx l) (hp:OnH p (cor l a) (cor l (a+1)) D s) (hq:OnH q (cor l (a+m)) (cor l (a+m+1)) E t) (hm:1≤m) {k:Nat} (h1:m < k) (h2:k < l.length):0 < zbs p q (cor l (a+k)):=by
 refine znI hp.pos ?_
 rw [zmB hp]
 have f1:0 < zbs (cor l a) q (cor l (a+k)):=by
  refine znI hq.pos ?_
  rw [zkr hq]
  exact zr4 (by have:=hq.t1; omega) (h.tri3 (by omega) (by omega) (by omega)) hq.t0 (h.tri0 (by omega) (by omega) (by omega))
 have f2:0≤zbs (cor l (a+1)) q (cor l (a+k)):=by
  refine zio hq.pos ?_
  rw [zkr hq]
  exact nn2 (by have:=hq.t1; omega) (h.tri0 (by omega) (by omega) (by omega)) hq.t0 (h.tri0 (by omega) (by omega) (by omega))
 exact zr4 (by have:=hp.t1; omega) f1 hp.t0 f2
theorem ztf (h:Cvx l) (hp:OnH p (cor l a) (cor l (a+1)) D s) (hq:OnH q (cor l (a+m)) (cor l (a+m+1)) E t) (hm:1≤m) (hn:m < l.length) (h3:3≤l.length) (hs:0 < s) (ht:m=1→0 < t):0 < zbs p q (cor l (a+l.length)):=by
 refine znI hp.pos ?_
 rw [zmB hp]
 have f1:0≤zbs (cor l a) q (cor l (a+l.length)):=by rw [ze0,zdd]; omega
 have f2:0 < zbs (cor l (a+1)) q (cor l (a+l.length)):=by
  refine znI hq.pos ?_
  rw [zkr hq]
  by_cases h1:m=1
  ·exact zwe (by have:=hq.t1; omega) (h.tri0 (by omega) (by omega) (by omega)) (ht h1) (h.tri3 (by omega) (by omega) (by omega))
  ·exact zr4 (by have:=hq.t1; omega) (h.tri3 (by omega) (by omega) (by omega)) hq.t0 (h.tri0 (by omega) (by omega) (by omega))
 exact zwe (by have:=hp.t1; omega) f1 hs f2
theorem ztg (h:Cvx l) (hp:OnH p (cor l a) (cor l (a+1)) D s) (hq:OnH q (cor l (a+m)) (cor l (a+m+1)) E t) (hn:m < l.length) {k:Nat} (h1:1≤k) (h2:k≤m):zbs p q (cor l (a+k))≤0:=by
 refine ziq hp.pos ?_
 rw [zmB hp]
 have hs:∀ i j:Nat,i≤a+k→a+k≤j→j≤i+l.length→zbs (cor l i) (cor l j) (cor l (a+k))≤0:=fun i j c1 c2 c3=>by
  rw [zqM]
  have:=h.tri0 (i:=i) (j:=a+k) (k:=j) c1 c2 c3
  omega
 have f:∀ i:Nat,i=a∨i=a+1→zbs (cor l i) q (cor l (a+k))≤0:=fun i hi=>by
  refine ziq hq.pos ?_
  rw [zkr hq]
  exact np2 (by have:=hq.t1; omega) (hs _ _ (by omega) (by omega) (by omega)) hq.t0 (hs _ _ (by omega) (by omega) (by omega))
 exact np2 (by have:=hp.t1; omega) (f a (.inl rfl)) hp.t0 (f (a+1) (.inr rfl))
theorem zpk (h:Cvx l) (h3:3≤l.length) {i:Nat} {k:Nat} (hk:k < l.length) (hq:OnH q (cor l (i+k)) (cor l (i+k+1)) E t) (h0:zbs (cor l i) (cor l (i+1)) q=0):k=0∨(k=1∧t=0):=by
 have hl:=hq.lin (cor l i) (cor l (i+1))
 rw [h0,Int.mul_zero] at hl
 have a1:=hq.t0
 have a2:=hq.t1
 by_cases c0:k=0
 ·exact .inl c0
 ·by_cases c1:k=1
  ·subst c1
   refine .inr ⟨rfl,?_⟩
   rw [zdc,Int.mul_zero,Int.zero_add] at hl
   have:=h.tri3 (i:=i) (j:=i+1) (k:=i+1+1) (by omega) (by omega) (by omega)
   rcases Int.mul_eq_zero.1 hl.symm with h5 | h5
   ·exact h5
   ·omega
  ·exfalso
   have:=h.tri3 (i:=i) (j:=i+1) (k:=i+k) (by omega) (by omega) (by omega)
   have g2:=h.tri0 (i:=i) (j:=i+1) (k:=i+k+1) (by omega) (by omega) (by omega)
   have:=zr4 (a:=E - t) (c:=t) (by omega) this a1 g2
   omega
end
end Go.Stn
namespace Go.Stn
open Go Go.K Go.RowKit
theorem zen {l:List Pt} {i:Nat} (h:i < l.length):(zdj l)[i]?=some (cor l i,cor l (i+1)):=by
 unfold zdj
 rw [List.getElem?_map,List.getElem?_range h]
 simp only [Option.map_some]
 rw [zgC h,zoU (i:=(i:Int)+1) (n:=i+1+l.length) (by omega),ze0]
theorem zwk (a:Int):0≤a*a:=by
 rcases Int.le_total 0 a with h | h
 ·exact Int.mul_nonneg h h
 ·have:=Int.mul_nonneg (show 0≤-a by omega) (show 0≤-a by omega)
  rw [Int.neg_mul_neg] at this
  exact this
theorem zxA {a b:Int} (h:a*a < b*b) (hb:0≤b):a < b:=Classical.byContradiction fun hn=>by
 have:b*b≤a*a:=Int.mul_le_mul (by omega) (by omega) hb (by omega)
 omega
theorem zmm {a b:Int} (h:0 < a) (hz:a*b=0):b=0:=by
 rcases Int.mul_eq_zero.1 hz with h1 | h1
 ·omega
 ·exact h1
theorem zlg {a b c:Int} (h:0 < a) (hz:a*b≤a*c):b≤c:=Int.le_of_mul_le_mul_left hz h
theorem zs5 (a b x:Pt):dotZ (subZ b a) (subZ b a)*(x.x - a.x)=dotZ (subZ x a) (subZ b a)*(b.x - a.x) - (b.z - a.z)*zbs a b x ∧
  dotZ (subZ b a) (subZ b a)*(x.z - a.z)=dotZ (subZ x a) (subZ b a)*(b.z - a.z)+(b.x - a.x)*zbs a b x:=by
 unfold dotZ subZ zbs
 dsimp only
 constructor <;> grind
theorem zrD (a b x:Pt):dotZ (subZ x a) (subZ b a)*dotZ (subZ x a) (subZ b a)=dotZ (subZ x a) (subZ x a)*dotZ (subZ b a) (subZ b a) - zbs a b x*zbs a b x:=by
 unfold dotZ subZ zbs
 dsimp only
 grind
theorem zpi {a b:Pt} (h:a≠b):0 < dotZ (subZ b a) (subZ b a):=by
 unfold dotZ subZ
 dsimp only
 have h1:=zwk (b.x - a.x)
 have h2:=zwk (b.z - a.z)
 rcases Int.lt_or_eq_of_le (Int.add_nonneg h1 h2) with h3 | h3
 ·exact h3
 ·exfalso
  have e1:(b.x - a.x)*(b.x - a.x)=0:=by omega
  have e2:(b.z - a.z)*(b.z - a.z)=0:=by omega
  have e1:b.x - a.x=0:=by rcases Int.mul_eq_zero.1 e1 with h | h <;> exact h
  have e2:b.z - a.z=0:=by rcases Int.mul_eq_zero.1 e2 with h | h <;> exact h
  apply h
  cases a; cases b
  simp only [Pt.mk.injEq]
  dsimp only at *
  omega
def OnS (x a b:Pt):Prop:=∃ D t,OnH x a b D t
theorem zs6 {a b x:Pt} (h0:zbs a b x=0) (h1:0≤dotZ (subZ x a) (subZ b a)) (h2:dotZ (subZ x a) (subZ b a) < dotZ (subZ b a) (subZ b a)):OnS x a b:=by
 obtain⟨e1,e2⟩:=zs5 a b x
 rw [h0] at e1 e2
 exact⟨_,_,by omega,h1,h2,by rw [e1]; omega,by rw [e2]; omega⟩
theorem zuq {a b x:Pt} {D t:Int} (h:OnH x a b D t):D*dotZ (subZ x a) (subZ b a)=t*dotZ (subZ b a) (subZ b a)∧D*(D*dotZ (subZ x a) (subZ x a))=t*t*dotZ (subZ b a) (subZ b a):=by
 have e1:=h.ex
 have e2:=h.ez
 unfold dotZ subZ
 dsimp only
 generalize x.x - a.x=u at *
 generalize x.z - a.z=v at *
 generalize b.x - a.x=d at *
 generalize b.z - a.z=f at *
 constructor
 ·calc D*(u*d+v*f)=(D*u)*d+(D*v)*f:=by grind
   _=_:=by rw [e1,e2]; grind
 ·calc D*(D*(u*u+v*v))=(D*u)*(D*u)+(D*v)*(D*v):=by grind
   _=_:=by rw [e1,e2]; grind
theorem zgz {a b x:Pt} {D t:Int} (h:OnH x a b D t):zbs a b x=0:=by
 have:=h.lin a b
 rw [zdd,zdc,Int.mul_zero,Int.mul_zero,Int.add_zero] at this
 exact zmm h.pos this
theorem zmq {a b x:Pt} (ha:farB a=false) (hb:farB b=false) (hx:farB x=false) (hab:a≠b):onE x (a,b)=true↔OnS x a b:=by
 have i1:inR 2000 a:=by have:=zeQ ha; unfold inR; omega
 have i2:inR 2000 b:=by have:=zeQ hb; unfold inR; omega
 have i3:inR 2000 x:=by have:=zeQ hx; unfold inR; omega
 have hd:=zpi hab
 unfold onE
 dsimp only
 rw [zks (by omega) i2 i1,zks (by omega) i3 i1]
 have j1:=zkt i2 i1
 have j2:=zkt i3 i1
 rw [zkM (by omega) (by omega) j1 j2,zl0 (by omega) (by omega) j2 j1,zl0 (by omega) (by omega) j2 j2,zl0 (by omega) (by omega) j1 j1]
 have hc:zja (subZ b a) (subZ x a)=zbs a b x:=by
  unfold zja subZ zbs
  dsimp only
 rw [hc]
 simp only [Bool.and_eq_true,decide_eq_true_eq]
 constructor
 ·rintro ⟨⟨h0,h1⟩,h2⟩
  refine zs6 h0 h1 (zxA ?_ (by omega))
  have hl:=zrD a b x
  rw [h0] at hl
  have:=Int.mul_lt_mul_of_pos_right h2 hd
  omega
 ·rintro ⟨D,t,h⟩
  obtain⟨e1,e2⟩:=zuq h
  refine⟨⟨zgz h,?_⟩,?_⟩
  ·refine zio h.pos ?_
   rw [e1]
   exact Int.mul_nonneg h.t0 (by omega)
  ·have hp:=h.pos
   refine Classical.byContradiction fun hn=>?_
   have a1:D*D*dotZ (subZ b a) (subZ b a)≤D*(D*dotZ (subZ x a) (subZ x a)):=by
    rw [Int.mul_assoc]
    exact Int.mul_le_mul_of_nonneg_left (Int.mul_le_mul_of_nonneg_left (by omega) (by omega)) (by omega)
   rw [e2] at a1
   have a2:t*t < D*D:=by
    have:=Int.mul_le_mul (show t≤D - 1 by have:=h.t1; omega) (show t≤D - 1 by have:=h.t1; omega) h.t0 (by omega)
    have h3:(D - 1)*(D - 1)=D*D - D - D+1:=by grind
    omega
   have:=Int.mul_lt_mul_of_pos_right a2 hd
   omega
theorem zmX {u d:Int} (h1:min 0 d≤u) (h2:u≤max 0 d):0≤u*d∧u*d≤d*d:=by
 rcases Int.le_total 0 d with h | h
 ·exact⟨Int.mul_nonneg (by omega) h,Int.mul_le_mul_of_nonneg_right (by omega) h⟩
 ·have a:=Int.mul_nonneg (show 0≤-u by omega) (show 0≤-d by omega)
  have b:=Int.mul_le_mul_of_nonneg_right (show -u≤-d by omega) (show 0≤-d by omega)
  rw [Int.neg_mul_neg] at a b
  rw [Int.neg_mul_neg] at b
  exact⟨a,b⟩
theorem zmY {D t u d:Int} (hD:0 < D) (h0:0≤t) (h1:t≤D) (h:D*u=t*d):min 0 d≤u∧u≤max 0 d:=by
 rcases Int.le_total 0 d with hd | hd
 ·have a:0≤u:=zio hD (by rw [h]; exact Int.mul_nonneg h0 hd)
  have b:u≤d:=zlg hD (by rw [h]; exact Int.mul_le_mul_of_nonneg_right h1 hd)
  omega
 ·have a:u≤0:=ziq hD (by rw [h]; exact Int.mul_nonpos_of_nonneg_of_nonpos h0 hd)
  have b:d≤u:=zlg hD (by rw [h]; exact Int.mul_le_mul_of_nonpos_right h1 hd)
  omega
theorem zga {a b x:Pt} (ha:farB a=false) (hb:farB b=false) (hx:farB x=false) (hab:a≠b):ronB a b x=true↔OnS x a b∨x=b:=by
 have i1:inR 2000 a:=by have:=zeQ ha; unfold inR; omega
 have i2:inR 2000 b:=by have:=zeQ hb; unfold inR; omega
 have i3:inR 2000 x:=by have:=zeQ hx; unfold inR; omega
 have hd:=zpi hab
 unfold ronB
 rw [znS (by omega) i1 i2 i3]
 simp only [Bool.and_eq_true,decide_eq_true_eq]
 constructor
 ·rintro ⟨⟨h0,h1,h2⟩,h3,h4⟩
  obtain⟨c1,c2⟩:=zmX (u:=x.x - a.x) (d:=b.x - a.x) (by omega) (by omega)
  obtain⟨c3,c4⟩:=zmX (u:=x.z - a.z) (d:=b.z - a.z) (by omega) (by omega)
  have d1:0≤dotZ (subZ x a) (subZ b a):=by
   unfold dotZ subZ; dsimp only; omega
  have d2:dotZ (subZ x a) (subZ b a)≤dotZ (subZ b a) (subZ b a):=by
   unfold dotZ subZ; dsimp only; omega
  rcases Int.lt_or_eq_of_le d2 with d3 | d3
  ·exact .inl (zs6 h0 d1 d3)
  ·refine .inr ?_
   obtain⟨e1,e2⟩:=zs5 a b x
   rw [h0,d3,Int.mul_zero] at e1 e2
   have f1:=Int.eq_of_mul_eq_mul_left (by omega) (show dotZ (subZ b a) (subZ b a)*(x.x - a.x)=dotZ (subZ b a) (subZ b a)*(b.x - a.x) by omega)
   have f2:=Int.eq_of_mul_eq_mul_left (by omega) (show dotZ (subZ b a) (subZ b a)*(x.z - a.z)=dotZ (subZ b a) (subZ b a)*(b.z - a.z) by omega)
   cases x; cases b
   simp only [Pt.mk.injEq]
   dsimp only at *
   omega
 ·rintro (⟨D,t,h⟩ | rfl)
  ·obtain⟨c1,c2⟩:=zmY h.pos h.t0 (by have:=h.t1; omega) h.ex
   obtain⟨c3,c4⟩:=zmY h.pos h.t0 (by have:=h.t1; omega) h.ez
   exact⟨⟨zgz h,by omega,by omega⟩,by omega,by omega⟩
  ·rw [zdc]
   omega
structure Good (l:List Pt):Prop where
 near:Near l
 cvx:Cvx l
 len:3≤l.length
section
variable {l:List Pt} (g:Good l)
include g
theorem Good.far (i:Nat):farB (cor l i)=false:=g.near _ (ztw (by have:=g.len; omega) i)
theorem Good.ne (i:Nat):cor l i≠cor l (i+1):=fun h=>by
 have:=g.cvx.edge i 2 (by omega) (by have:=g.len; omega)
 rw [h,zg5] at this
 omega
abbrev BP (l:List Pt) (x:Pt) (i:Nat):Prop:=OnS x (cor l i) (cor l (i+1))
omit g in
theorem BP.congr {x:Pt} {i j:Nat} (h:BP l x i) (hij:i % l.length=j % l.length):BP l x j:=by
 have e1:cor l i=cor l j:=ze1 hij
 have e2:cor l (i+1)=cor l (j+1):=ze1 (by rw [←Nat.mod_add_mod,hij,Nat.mod_add_mod])
 unfold BP at *
 rw [←e1,←e2]
 exact h
theorem Good.zero {x:Pt} {i k:Nat} (hk:k < l.length) (h:BP l x (i+k)) (h0:zbs (cor l i) (cor l (i+1)) x=0):k=0∨(k=1∧x=cor l (i+1)):=by
 obtain⟨D,t,h⟩:=h
 rcases zpk g.cvx g.len hk h h0 with h1 | ⟨h1,h2⟩
 ·exact .inl h1
 ·subst h1; subst h2; exact .inr ⟨rfl,h.start⟩
omit g in
theorem zit {n i j:Nat} (hi:i < n) (_:j < n):j % n=(i+(if i≤j then j - i else j+n - i)) % n:=by
 split
 ·rw [show i+(j - i)=j from by omega]
 ·rw [show i+(j+n - i)=j+n from by omega,Nat.add_mod_right]
theorem Good.uniq {x:Pt} {i j:Nat} (hi:i < l.length) (hj:j < l.length) (h1:BP l x i) (h2:BP l x j):i=j:=by
 have s1:zbs (cor l i) (cor l (i+1)) x=0:=by obtain⟨D,t,h⟩:=h1; exact zgz h
 have s2:zbs (cor l j) (cor l (j+1)) x=0:=by obtain⟨D,t,h⟩:=h2; exact zgz h
 have a:=g.zero (by split <;> omega) (h2.congr (zit hi hj)) s1
 have b:=g.zero (by split <;> omega) (h1.congr (zit hj hi)) s2
 have:=g.len
 rcases a with a | ⟨a,_⟩ <;> rcases b with b | ⟨b,_⟩ <;> (split at a <;> split at b <;> omega)
theorem Good.edge {x:Pt} (h:0≤zdw l x):∃ i:Nat,zdw l x=(i:Int)∧i < l.length∧BP l x i∧farB x=false:=by
 have hf:farB x=false:=by
  cases hf:farB x with
  | false=>rfl
  | true=>rw [zdw,if_pos hf] at h; omega
 have hl:=(ztE (l:=l) (x:=x)).1
 rw [zdw,if_neg (by rw [hf]; exact Bool.false_ne_true)] at h hl ⊢
 unfold zbJ at h hl ⊢
 split at h
 ·rename_i ha
  rw [if_pos ha] at hl
  rw [if_pos ha]
  refine⟨_,rfl,by omega,?_,hf⟩
  have hlt:(zdj l).findIdx (onE x) < (zdj l).length:=List.findIdx_lt_length_of_exists (by simpa using ha)
  have hp:onE x (zdj l)[(zdj l).findIdx (onE x)]=true:=List.findIdx_getElem
  have hg:=zen (l:=l) (i:=(zdj l).findIdx (onE x)) (by omega)
  have he:(zdj l)[(zdj l).findIdx (onE x)]=(cor l ((zdj l).findIdx (onE x)),cor l ((zdj l).findIdx (onE x)+1)):=(List.getElem?_eq_some_iff.1 hg).2
  rw [he] at hp
  exact(zmq (g.far _) (g.far _) hf (g.ne _)).1 hp
 ·omega
theorem Good.edge_at {x:Pt} {i:Nat} (hf:farB x=false) (hi:i < l.length) (h:BP l x i):zdw l x=(i:Int):=by
 rw [zdw,if_neg (by rw [hf]; exact Bool.false_ne_true)]
 refine zro (zen hi) (fun j y hj hy=>?_) ((zmq (g.far _) (g.far _) hf (g.ne _)).2 h)
 rw [zen (by omega)] at hy
 cases hy
 cases ho:onE x (cor l j,cor l (j+1)) with
 | false=>rfl
 | true=>
  have:=g.uniq hi (by omega) h ((zmq (g.far _) (g.far _) hf (g.ne _)).1 ho)
  omega
omit g in
theorem ze2 {i:Nat} (hi:i < l.length):ptAt l (i:Int)=cor l i∧zj9 l (i:Int)=cor l (i+1):=⟨zgC hi,zqc i⟩
theorem Good.border {x:Pt}:znJ l x=decide (0≤zdw l x):=by
 rw [Bool.eq_iff_iff,decide_eq_true_eq]
 constructor
 ·intro h
  unfold znJ zqu at h
  rw [Bool.and_eq_true,Bool.not_eq_true',Bool.not_eq_true'] at h
  obtain⟨hf,ha⟩:=h
  have hex:∃ i,i < l.length∧ronB (ptAt l (i:Nat)) (zj9 l (i:Nat)) x=true:=Classical.byContradiction fun hn=>by
   rw [zdN (fun i hi=>?_)] at ha
   ·cases ha
   ·cases hr:ronB (ptAt l (i:Nat)) (zj9 l (i:Nat)) x with
    | false=>rfl
    | true=>exact absurd ⟨i,hi,hr⟩ hn
  obtain⟨i,hi,hr⟩:=hex
  rw [(ze2 hi).1,(ze2 hi).2,zga (g.far _) (g.far _) hf (g.ne _)] at hr
  rcases hr with hr | hr
  ·rw [g.edge_at hf hi hr]; omega
  ·have hlt:(i+1) % l.length < l.length:=Nat.mod_lt _ (by omega)
   have:BP l x (i+1):=⟨1,0,by rw [hr]; exact OnH.at 1 (by omega)⟩
   rw [g.edge_at hf hlt (this.congr (Nat.mod_mod _ _).symm)]; omega
 ·intro h
  obtain⟨i,_,hi,hb,hf⟩:=g.edge h
  refine zqv (i:=(i:Int)) hf (by omega) (by omega) ?_
  rw [(ze2 hi).1,(ze2 hi).2,zga (g.far _) (g.far _) hf (g.ne _)]
  exact .inl hb
theorem Good.line {x:Pt} {a i:Nat} (hf:farB x=false) (ha:a < l.length) (hb:BP l x a) (hi:i < l.length):zbs (cor l i) (cor l (i+1)) x=0↔ronB (cor l i) (cor l (i+1)) x=true:=by
 rw [zga (g.far _) (g.far _) hf (g.ne _)]
 constructor
 ·intro h0
  rcases g.zero (by split <;> omega) (hb.congr (zit hi ha)) h0 with h1 | ⟨_,h2⟩
  ·have:a=i:=by split at h1 <;> omega
   subst this; exact .inl hb
  ·exact .inr h2
 ·rintro (⟨D,t,h⟩ | rfl)
  ·exact zgz h
  ·rw [zdc]
theorem Good.apart {p q:Pt} (hp:0≤zdw l p) (hq:0≤zdw l q):zhI l p q=zmx l p q:=by
 obtain⟨a,_,ha,hbp,hfp⟩:=g.edge hp
 obtain⟨b,_,hb,hbq,hfq⟩:=g.edge hq
 have i1:inR 2000 p:=by have:=zeQ hfp; unfold inR; omega
 have i2:inR 2000 q:=by have:=zeQ hfq; unfold inR; omega
 have ic:∀ i,inR 2000 (cor l i):=fun i=>by have:=zeQ (g.far i); unfold inR; omega
 have key:∀ i,i < l.length→zto p q (cor l i,cor l (i+1))=zuC l p q (i:Nat):=fun i hi=>by
  unfold zto zuC
  rw [(ze2 hi).1,(ze2 hi).2,Bool.eq_iff_iff]
  simp only [Bool.and_eq_true,decide_eq_true_eq]
  rw [znY (by omega) (ic _) (ic _) i1,znY (by omega) (ic _) (ic _) i2,g.line hfp ha hbp hi,g.line hfq hb hbq hi]
 unfold zhI zmx
 rw [Bool.eq_iff_iff,Bool.not_eq_true',zdf,List.any_eq_false]
 constructor
 ·intro h i hi
  have:=h _ (List.mem_of_getElem? (zen hi))
  rw [key i hi] at this
  simpa using this
 ·intro h e he
  obtain⟨j,hj,rfl⟩:=List.getElem_of_mem he
  rw [zjd] at hj
  have hg:=(List.getElem?_eq_some_iff.1 (zen hj)).2
  rw [hg,key j hj]
  simpa using h j hj
end
end Go.Stn
namespace Go.Stn
open Go Go.K Go.RowKit
section
variable {l:List Pt} (g:Good l)
include g
structure Cut (l:List Pt) (p q:Pt) (a m:Nat) (D s E t:Int):Prop where
 fp:farB p=false
 fq:farB q=false
 ha:a < l.length
 hp:OnH p (cor l a) (cor l (a+1)) D s
 hq:OnH q (cor l (a+m)) (cor l (a+m+1)) E t
 m1:1≤m
 mn:m < l.length
 hs:m+1=l.length→0 < s
 ht:m=1→0 < t
 ep:zdw l p=(a:Int)
 eq:zdw l q=(((a+m) % l.length:Nat):Int)
theorem Good.cut {p q:Pt} (hp:0≤zdw l p) (hq:0≤zdw l q) (hap:zhI l p q=true):∃ a m D s E t,Cut l p q a m D s E t:=by
 have hr:=hap
 rw [g.apart hp hq] at hr
 obtain⟨a,ea,ha,hbp,hfp⟩:=g.edge hp
 obtain⟨b,eb,hb,hbq,hfq⟩:=g.edge hq
 have hbq':=hbq.congr (zit ha hb)
 have hm:(if a≤b then b - a else b+l.length - a) < l.length:=by split <;> omega
 have hmod:=zit ha hb
 generalize hmm:(if a≤b then b - a else b+l.length - a)=m at *
 have no:∀ i,i < l.length→¬ (ronB (cor l i) (cor l (i+1)) p=true∧ronB (cor l i) (cor l (i+1)) q=true):=fun i hi hh=>by
  unfold zmx at hr
  have:=zdf.1 hr i hi
  unfold zuC at this
  rw [(ze2 hi).1,(ze2 hi).2,hh.1,hh.2] at this
  cases this
 have r1:ronB (cor l a) (cor l (a+1)) p=true:=(zga (g.far _) (g.far _) hfp (g.ne _)).2 (.inl hbp)
 have r2:ronB (cor l b) (cor l (b+1)) q=true:=(zga (g.far _) (g.far _) hfq (g.ne _)).2 (.inl hbq)
 obtain⟨D,s,kp⟩:=hbp
 obtain⟨E,t,kq⟩:=hbq'
 have hm0:m≠0:=fun h0=>by
  have:a=b:=by split at hmm <;> omega
  subst this
  exact no a ha ⟨r1,r2⟩
 refine⟨a,m,D,s,E,t,hfp,hfq,ha,kp,kq,by omega,hm,fun hlast=>?_,fun h1=>?_,ea,?_⟩
 ·have h0:=kp.t0
  rcases Int.lt_or_eq_of_le h0 with h | h
  ·exact h
  ·exfalso
   subst h
   have hpa:=kp.start
   have hba:cor l (b+1)=cor l a:=by
    apply ze1
    rw [←Nat.mod_add_mod,hmod,Nat.mod_add_mod,show a+m+1=a+l.length from by omega,Nat.add_mod_right]
   exact no b hb ⟨(zga (g.far _) (g.far _) hfp (g.ne _)).2 (.inr (by rw [hba]; exact hpa)),r2⟩
 ·have h0:=kq.t0
  rcases Int.lt_or_eq_of_le h0 with h | h
  ·exact h
  ·exfalso
   subst h; subst h1
   exact no a ha ⟨r1,(zga (g.far _) (g.far _) hfq (g.ne _)).2 (.inr kq.start)⟩
 ·rw [eb,←hmod,Nat.mod_eq_of_lt hb]
variable {p q:Pt} {a m:Nat} {D s E t:Int} (c:Cut l p q a m D s E t)
include c
theorem Good.left (k:Nat) (h1:m < k) (h2:k < l.length∨(k=l.length∧0 < s)):0 < zbs p q (cor l (a+k)):=by
 rcases h2 with h2 | ⟨rfl,h2⟩
 ·exact zth g.cvx c.hp c.hq c.m1 h1 h2
 ·exact ztf g.cvx c.hp c.hq c.m1 c.mn g.len h2 c.ht
theorem Good.notleft (k:Nat) (h1:1≤k) (h2:k≤m):zbs p q (cor l (a+k))≤0:=ztg g.cvx c.hp c.hq c.mn h1 h2
omit g in
theorem Cut.first (h:s=0):cor l (a+l.length)=p:=by
 have:=c.hp
 rw [h] at this
 rw [ze0]
 exact this.start.symm
theorem Good.side (i:Nat):zg4 p q (cor l i)=zbs p q (cor l i):=by
 have i1:inR 2000 p:=by have:=zeQ c.fp; unfold inR; omega
 have i2:inR 2000 q:=by have:=zeQ c.fq; unfold inR; omega
 have ic:inR 2000 (cor l i):=by have:=zeQ (g.far i); unfold inR; omega
 exact znS (by omega) i1 i2 ic
def arcL (l:List Pt) (p q:Pt) (a m:Nat):List Pt:=((List.range (l.length - m)).map fun j=>cor l (a+m+1+j)).filter fun c=>decide (0 < zg4 p q c)
theorem Good.rn:∀ (k j:Nat),j+k+m=l.length→znL l p k (((a+m) % l.length:Nat)+1+(j:Int))=(((List.range k).map fun i=>cor l (a+m+1+j+i)).filter fun c=>decide (0 < zg4 p q c))++[p]
 | 0,j,_=>rfl
 | k+1,j,hk=>by
  have hat:atL l (((a+m) % l.length:Nat)+1+(j:Int))=cor l (a+m+1+j):=by
   rw [zoU (n:=(a+m) % l.length+(1+j)+l.length) (by omega),ze0,zeB]
   congr 1
   omega
  have hcor:cor l (a+m+1+j)=cor l (a+(m+1+j)):=by congr 1; omega
  have hrec:=Good.rn k (j+1) (by omega)
  rw [show(((a+m) % l.length:Nat):Int)+1+((j+1:Nat):Int)=(((a+m) % l.length:Nat):Int)+1+(j:Int)+1 from by omega] at hrec
  have hmap:(List.range (k+1)).map (fun i=>cor l (a+m+1+j+i))=cor l (a+m+1+j) :: (List.range k).map (fun i=>cor l (a+m+1+(j+1)+i)):=by
   rw [List.range_succ_eq_map,List.map_cons,List.map_map]
   congr 1
   apply List.map_congr_left
   intro i _
   show cor l (a+m+1+j+(i+1))=_
   congr 1
   omega
  unfold znL
  rw [hat,hmap]
  by_cases hlast:m+1+j=l.length∧s=0
  ·have hk0:k=0:=by omega
   subst hk0
   have he:cor l (a+m+1+j)=p:=by rw [hcor,hlast.1]; exact c.first hlast.2
   rw [he,if_pos (zpn.2 rfl)]
   have hz:¬ 0 < zg4 p q p:=by
    have:=g.side c (a+l.length)
    rw [c.first hlast.2,zdd] at this
    omega
   simp [hz]
  ·have hpos:0 < zg4 p q (cor l (a+m+1+j)):=by
    rw [g.side c,hcor]
    refine g.left c _ (by omega) ?_
    by_cases h:m+1+j=l.length
    ·refine .inr ⟨h,?_⟩
     have:=c.hp.t0
     have:s≠0:=fun h0=>hlast ⟨h,h0⟩
     omega
    ·exact .inl (by omega)
   have hne:¬ eqB (cor l (a+m+1+j)) p=true:=fun he=>by
    have:=zpn.1 he
    rw [g.side c,this,zdd] at hpos
    omega
   rw [if_neg hne,hrec]
   simp [hpos]
omit g in
theorem Cut.rt:zqA l q p=l.length - m:=by
 have:=c.ha
 have:=c.mn
 have:=c.m1
 have hlt:=Nat.mod_lt (a+m) (show l.length > 0 by omega)
 unfold zqA
 rw [c.ep,c.eq]
 rcases Nat.lt_or_ge (a+m) l.length with h | h
 ·rw [Nat.mod_eq_of_lt h,if_neg (by omega)]; omega
 ·rw [Nat.mod_eq_sub_mod h,Nat.mod_eq_of_lt (by omega),if_pos (by omega)]; omega
theorem Good.rl:zqz l q p=q :: (arcL l p q a m++[p]):=by
 unfold zqz arcL
 rw [c.rt,c.eq]
 have:=g.rn c (l.length - m) 0 (by have:=c.mn; omega)
 rw [show(((a+m) % l.length:Nat):Int)+1+((0:Nat):Int)=(((a+m) % l.length:Nat):Int)+1 from by omega] at this
 rw [this]
omit g in
theorem Cut.mod (i:Nat):i % l.length=(a+(m+1+(i+(l.length - (a+m+1) % l.length)) % l.length)) % l.length:=by
 have hn:0 < l.length:=by have:=c.mn; omega
 have:=Nat.mod_lt (a+m+1) hn
 rw [show a+(m+1+(i+(l.length - (a+m+1) % l.length)) % l.length)=(a+m+1)+(i+(l.length - (a+m+1) % l.length)) % l.length from by omega,Nat.add_mod_mod,←Nat.mod_add_mod,
  show(a+m+1) % l.length+(i+(l.length - (a+m+1) % l.length))=i+l.length from by omega,Nat.add_mod_right]
theorem Good.fr:zpJ l p q l.length=(((a+m+1) % l.length:Nat):Int):=by
 have hn:0 < l.length:=by have:=c.mn; omega
 have m1:=c.m1
 have mn:=c.mn
 have hlt:=Nat.mod_lt (a+m+1) hn
 have test:∀ i:Nat,i < l.length→(zt9 l p q (i:Int)=true↔i=(a+m+1) % l.length):=fun i hi=>by
  have e1:ptAt l (i:Int)=cor l i:=zgC hi
  have e2:((i:Int)+(l.length:Int) - 1).tmod (l.length:Int)=(((i+l.length - 1) % l.length:Nat):Int):=by
   rw [show(i:Int)+(l.length:Int) - 1=((i+l.length - 1:Nat):Int) from by omega]; rfl
  have e3:ptAt l (((i+l.length - 1) % l.length:Nat):Int)=cor l (i+l.length - 1):=by
   rw [zgC (Nat.mod_lt _ hn),zlZ]
  unfold zt9
  rw [e1,e2,e3,g.side c,g.side c,Bool.and_eq_true,decide_eq_true_eq,decide_eq_true_eq]
  have hmod:=c.mod i
  have hr:=Nat.mod_lt (i+(l.length - (a+m+1) % l.length)) hn
  have hzero:(i+(l.length - (a+m+1) % l.length)) % l.length=0↔i=(a+m+1) % l.length:=by
   rcases Nat.lt_or_ge i ((a+m+1) % l.length) with h | h
   ·rw [Nat.mod_eq_of_lt (by omega)]; omega
   ·rw [Nat.mod_eq_sub_mod (by omega),Nat.mod_eq_of_lt (by omega)]; omega
  rw [←hzero]
  generalize (i+(l.length - (a+m+1) % l.length)) % l.length=r at *
  have c1:cor l i=cor l (a+(m+1+r)):=ze1 hmod
  have c2:cor l (i+l.length - 1)=cor l (a+(m+r)):=by
   apply ze1
   have e:(i+l.length - 1+1) % l.length=(a+(m+r)+1) % l.length:=by
    rw [show i+l.length - 1+1=i+l.length from by omega,Nat.add_mod_right,hmod]; congr 1; omega
   have e':=congrArg (fun x=>(x+(l.length - 1)) % l.length) e
   simp only [Nat.mod_add_mod] at e'
   rw [show i+l.length - 1+1+(l.length - 1)=i+l.length - 1+l.length from by omega,Nat.add_mod_right,show a+(m+r)+1+(l.length - 1)=a+(m+r)+l.length from by omega,Nat.add_mod_right] at e'
   exact e'
  rw [c1,c2]
  constructor
  ·rintro ⟨h1,h2⟩
   refine Classical.byContradiction fun hr0=>?_
   by_cases hb:m+1+r≤l.length
   ·have:=g.left c (m+r) (by omega) (.inl (by omega))
    omega
   ·have:=g.notleft c (m+1+r - l.length) (by omega) (by omega)
    rw [show a+(m+1+r)=a+(m+1+r - l.length)+l.length from by omega,ze0] at h1
    omega
  ·intro h0
   subst h0
   refine⟨g.left c _ (by omega) ?_,g.notleft c _ (by omega) (by omega)⟩
   by_cases h:m+1=l.length
   ·exact .inr ⟨h,c.hs h⟩
   ·exact .inl (by omega)
 have key:∀ n,n≤l.length→(a+m+1) % l.length < n→zpJ l p q n=(((a+m+1) % l.length:Nat):Int):=by
  intro n
  induction n with
  | zero=>intro _ h; omega
  | succ n ih=>
   intro h1 h2
   unfold zpJ
   by_cases h:n=(a+m+1) % l.length
   ·rw [if_pos ((test n (by omega)).2 h),h]
   ·rw [if_neg (fun hc=>h ((test n (by omega)).1 hc))]
    exact ih (by omega) (by omega)
 exact key _ (Nat.le_refl _) hlt
theorem Good.ll:zua l p q=p :: q :: arcL l p q a m:=by
 have m1:=c.m1
 have mn:=c.mn
 unfold zua zv5 arcL
 rw [g.fr c]
 congr 2
 have hpt:∀ j:Nat,zub l (((a+m+1) % l.length:Nat):Int) (j:Int)=cor l (a+m+1+j):=fun j=>by
  unfold zub
  rw [show((((a+m+1) % l.length:Nat):Int)+(j:Int)).tmod (l.length:Int)=((((a+m+1) % l.length+j) % l.length:Nat):Int) from rfl,zgC (Nat.mod_lt _ (by omega)),zlZ,zeB]
 rw [List.map_congr_left (g:=fun j=>cor l (a+m+1+j)) (fun j _=>hpt j)]
 have hsplit:List.range l.length=List.range (l.length - m)++(List.range m).map (fun j=>l.length - m+j):=by
  rw [←List.range_add]; congr 1; omega
 rw [hsplit,List.map_append,List.filter_append,List.map_map]
 have hnil:(((List.range m).map ((fun j=>cor l (a+m+1+j)) ∘ fun j=>l.length - m+j)).filter fun c=>decide (0 < zg4 p q c))=[]:=by
  rw [List.filter_eq_nil_iff]
  intro x hx
  obtain⟨j,hj,rfl⟩:=List.mem_map.1 hx
  rw [List.mem_range] at hj
  have:=g.notleft c (j+1) (by omega) (by omega)
  show ¬ decide (0 < zg4 p q (cor l (a+m+1+(l.length - m+j))))=true
  rw [g.side c,show a+m+1+(l.length - m+j)=a+(j+1)+l.length from by omega,ze0,decide_eq_true_eq]
  omega
 rw [hnil,List.append_nil]
theorem Good.nodup:(p :: q :: arcL l p q a m).Nodup:=by
 have mn:=c.mn
 have hside:∀ x∈arcL l p q a m,0 < zbs p q x:=fun x hx=>by
  obtain⟨h1,h2⟩:=List.mem_filter.1 hx
  obtain⟨j,_,rfl⟩:=List.mem_map.1 h1
  rw [decide_eq_true_eq,g.side c] at h2
  exact h2
 have hpq:p≠q:=fun h=>by
  have:=g.left c (m+1) (by omega) (by
   by_cases h:m+1=l.length
   ·exact .inr ⟨h,c.hs h⟩
   ·exact .inl (by omega))
  rw [h,zg5] at this
  omega
 have cne:∀ i j,i < j→j < i+l.length→cor l i≠cor l j:=fun i j h1 h2 he=>by
  have n3:=g.len
  by_cases h:j=i+1
  ·subst h; exact g.ne i he
  ·have:=g.cvx.tri3 (i:=i) (j:=i+1) (k:=j) (by omega) (by omega) h2
   rw [he,zdd] at this
   omega
 rw [List.nodup_cons,List.nodup_cons]
 refine⟨fun h=>?_,fun h=>?_,?_⟩
 ·rcases List.mem_cons.1 h with h | h
  ·exact hpq h
  ·have:=hside _ h
   rw [zdd] at this
   omega
 ·have:=hside _ h
  rw [zdc] at this
  omega
 ·unfold arcL
  refine List.Pairwise.filter _ ?_
  rw [List.pairwise_map]
  refine List.Pairwise.imp_of_mem ?_ (List.pairwise_lt_range)
  intro i j hi hj hij
  rw [List.mem_range] at hi hj
  exact cne _ _ (by omega) (by omega)
end
theorem Good.parts {l:List Pt} (g:Good l) {p q:Pt} (hp:0≤zdw l p) (hq:0≤zdw l q) (hap:zhI l p q=true) :
  ∃ X,zua l p q=p :: q :: X∧zqz l q p=(q :: X)++[p]∧(p :: q :: X).Nodup:=by
 obtain⟨a,m,D,s,E,t,c⟩:=g.cut hp hq hap
 exact⟨_,g.ll c,g.rl c,g.nodup c⟩
theorem zCX {s:Stn} (h:zmZ s=0):Good s.shape:=by
 have hp:=zkG h
 have hl:=zhM h
 unfold zmu at hp
 rw [Bool.and_eq_true,Bool.not_eq_true',Bool.or_eq_false_iff,Bool.not_eq_false'] at hp
 exact⟨zC4 h,(zC5 hp.1.1 hl.1 hl.2).1 hp.1.2,hl.1⟩
end Go.Stn
namespace Go.Stn
open Go Go.K Go.RowKit
theorem zlY {l:List Pt} (h:0 < l.length) (f:Pt→Pt) (i:Nat):cor (l.map f) i=f (cor l i):=by
 have hi:i % l.length < l.length:=Nat.mod_lt _ h
 unfold cor
 rw [List.length_map]
 simp [hi]
theorem Cvx.sub {l:List Pt} (h:Cvx l) (h0:0 < l.length) (o:Pt):Cvx (l.map fun p=>subZ p o):=by
 intro i k hi h2 hk
 rw [List.length_map] at hi hk
 rw [zlY h0,zlY h0,zlY h0]
 have:=h i k hi h2 hk
 unfold zbs subZ at *
 dsimp only
 grind
end Go.Stn
namespace Go.Stn
open Go Go.K Go.RowKit
section
variable {l:List Pt} (g:Good l)
include g
abbrev sd (l:List Pt) (k:Nat) (X:Pt):Int:=zbs (cor l k) (cor l (k+1)) X
end
end Go.Stn
namespace Go.Stn
open Go Go.K Go.RowKit
structure EdgeF (f:Pt→Pt→Int):Prop where
 anti:∀ u v,f u v = -f v u
 sub:∀ u v x,zbs u v x=0→f u v=f u x+f x v
theorem EdgeF.same {f:Pt→Pt→Int} (h:EdgeF f) (u:Pt):f u u=0:=by have:=h.anti u u; omega
end Go.Stn
namespace Go.Stn
open Go Go.K Go.RowKit
def upB (p:Pt):Bool:=decide (0 < p.z)
def lowL (l:List Pt):List Pt:=l.filter fun p=>!upB p
end Go.Stn
namespace Go.Stn
open Go Go.K Go.RowKit Go.Proofs
abbrev bs (l:List UInt8):ByteArray:=⟨l.toArray⟩
theorem zBL (l:List UInt8):(bs l).size=l.length:=by show l.toArray.size=_; simp
theorem zDi (l:List UInt8) (b:ByteArray):bs l++b=bs (l++b.data.toList):=by
 apply Go.WideShapes.bytes_inj
 simp
theorem zET (a b:ByteArray):(a++b).data.toList=a.data.toList++b.data.toList:=by simp
theorem zBW (n:Int):(zBN n).data.toList=Lib.itoa n:=by unfold zBN; simp
theorem zCr (n:Int):(zBN n).size=(Lib.itoa n).length:=zBL _
abbrev zBP (n:Int):List UInt8:=32 :: Lib.itoa n
def zE1 (s:Stn):List Int:=[s.depth,s.density,s.grain.x,s.grain.z]++s.shape.flatMap fun p=>[p.x,p.z]
def zEY (l:List Int):List UInt8:=l.flatMap zBP
end Go.Stn
namespace Go.Stn
open Go Go.K Go.RowKit Go.Proofs Go.Txt
theorem zEW {a b:List ByteArray} (h:a.map (·.data.toList)=b.map (·.data.toList)):a=b:=by
 induction a generalizing b with
 | nil=>cases b with
  | nil=>rfl
  | cons y ys=>simp at h
 | cons x xs ih=>cases b with
  | nil=>simp at h
  | cons y ys=>
   simp only [List.map_cons,List.cons.injEq] at h
   rw [Go.WideShapes.bytes_inj h.1,ih h.2]
theorem zns (s:ByteArray):mkB s.data.toList=s:=Go.WideShapes.bytes_inj (by simp)
end Go.Stn
namespace Go.Stn
open Go Go.K Go.RowKit Go.Proofs Go.Txt
theorem zgR (s:ByteArray) (i:Int):zee s i=((s.data.toList[i.toNat]?.getD 0).toNat:Int):=by
 unfold zee
 by_cases h:i.toNat < s.size
 ·rw [getElem?_pos s i.toNat h]
  have h2:i.toNat < s.data.toList.length:=by simpa using h
  rw [List.getElem?_eq_getElem h2]; rfl
 ·rw [getElem?_neg s i.toNat h,List.getElem?_eq_none (by simpa using Nat.le_of_not_lt h)]
theorem zEF (s:ByteArray):s.size=s.data.toList.length:=by rw [Array.length_toList]; rfl
end Go.Stn
namespace Go.Stn
open Go Go.K Go.RowKit Go.Proofs Go.Txt
theorem zDk:∀ (k u:Nat),u < 10 ^ (k+1)→(Lib.decDigits u).length≤k+1
 | 0,u,h=>by rw [Lib.decDigits,dif_pos (by simpa using h)]; simp
 | k+1,u,h=>by
  rw [Lib.decDigits]
  split
  ·simp
  ·have:=zDk k (u / 10) (by rw [Nat.pow_succ] at h; omega)
   simp; omega
theorem zEv (n:Int):∀ c∈Lib.itoa n,c≠32∧c≠10:=fun c hc=>by
 have key:∀ u,c∈Lib.decDigits u→c≠32∧c≠10:=fun u hu=>by
  have:=(zDD u).1 c hu
  unfold ziZ at this
  exact⟨fun e=>by subst e; have e32:(32:UInt8).toNat=32:=rfl; omega,fun e=>by subst e; have e10:(10:UInt8).toNat=10:=rfl; omega⟩
 unfold Lib.itoa at hc
 split at hc
 ·rcases List.mem_cons.1 hc with rfl | hc
  ·decide
  ·exact key _ hc
 ·exact key _ hc
theorem zEK {s:Stn} (h:zmZ s=0):(∀ c∈s.name.data.toList,c≠32∧c≠10)∧¬ s.name.data.toList=[]:=by
 have h3:=zoa h
 unfold badB at h3
 simp only [Bool.or_eq_false_iff,Bool.not_eq_false'] at h3
 have h4:zdY s.name=true:=by rw [←znv]; exact h3.1.1.1.1
 unfold zdY at h4
 simp only [Bool.and_eq_true,decide_eq_true_eq] at h4
 refine⟨fun c hc=>?_,fun e=>?_⟩
 ·obtain⟨k,hk,rfl⟩:=List.getElem_of_mem hc
  have:=zdf.1 h4.1 k (by rw [zEF]; exact hk)
  rw [zgR,Int.toNat_natCast,List.getElem?_eq_getElem hk] at this
  refine⟨fun e=>?_,fun e=>?_⟩
  ·rw [e] at this; exact absurd this (by decide)
  ·rw [e] at this; exact absurd this (by decide)
 ·have:=zEF s.name
  rw [e,List.length_nil] at this
  omega
def zEZ (s:Stn):List UInt8:=s.name.data.toList++zEY (zE1 s)
theorem zEp {s:Stn} (h:zmZ s=0):∀ c∈zEZ s,c≠10:=fun c hc=>by
 rcases List.mem_append.1 hc with hc | hc
 ·exact((zEK h).1 c hc).2
 ·obtain⟨n,_,hc⟩:=List.mem_flatMap.1 hc
  rcases List.mem_cons.1 hc with rfl | hc
  ·decide
  ·exact(zEv n c hc).2
end Go.Stn
namespace Go.Pln
open Go Go.K Go.RowKit Go.Stn Go.Txt
def zB0 (ws:List ByteArray):List UInt8:=ws.flatMap fun u=>32 :: u.data.toList
def zCV (k:Int):ByteArray:=copesW.getD k.toNat default
def opnW (k:Int):ByteArray:=opensW.getD k.toNat default
def zCM (s:Sht):List ByteArray:=[(⟨#[108,101,97,115,116]⟩:ByteArray),zBN s.least,(⟨#[108,97,112]⟩:ByteArray),zBN s.lap,(⟨#[114,117,110]⟩:ByteArray),zBN s.run,(⟨#[116,104,114,111,117,103,104]⟩:ByteArray),zBN s.every,zBN s.at_,(⟨#[102,111,111,116,105,110,103]⟩:ByteArray),zBN s.footing,zBN s.spread,(⟨#[99,111,112,101]⟩:ByteArray),zCV s.cope,zBN s.tall,zBN s.short,zBN s.thick,
 (⟨#[102,114,105,99,116,105,111,110]⟩:ByteArray),zBN s.low,zBN s.high,(⟨#[114,111,111,100]⟩:ByteArray),zBN s.rood]
def zB3 (s:Sht):List ByteArray:=s.name :: (⟨#[98,97,115,101]⟩:ByteArray) :: zBN s.base :: (⟨#[98,97,116,116,101,114]⟩:ByteArray) :: zBN s.batter :: (⟨#[104,101,105,103,104,116]⟩:ByteArray) :: zBN s.height :: (⟨#[115,107,105,110]⟩:ByteArray) :: zBN s.skin :: (⟨#[104,101,105,103,104,116,115]⟩:ByteArray) :: (s.heights.map zBN++zCM s)
def zCv (v:Wll):List ByteArray:=[v.name,v.sheet,zBN v.length]
def zCt (o:Opn):List ByteArray:=[opnW o.kind,zBN o.at_,zBN o.width,zBN o.frm,zBN o.high]
def zC0 (s:Sht):List UInt8:=([115,104,101,101,116]:List UInt8)++zB0 (zB3 s)
def zBX (v:Wll):List UInt8:=([119,97,108,108]:List UInt8)++zB0 (zCv v)
def zDr (o:Opn):List UInt8:=([111,112,101,110]:List UInt8)++zB0 (zCt o)
def zBU (s:Sht):List UInt8:=zC0 s++[10]
def zBR (o:Opn):List UInt8:=zDr o++[10]
def zCi (v:Wll):List UInt8:=zBX v++[10]++v.opens.flatMap zBR
def zDQ (q:Plan):List UInt8:=q.S.flatMap zBU++q.V.flatMap zCi
def zEt (v:Wll):List (List UInt8):=zBX v :: v.opens.map zDr
def zED (q:Plan):List (List UInt8):=q.S.map zC0++q.V.flatMap zEt
theorem zEE (q:Plan):zDQ q=(zED q).flatMap fun l=>l++[10]:=by
 unfold zDQ zED
 rw [List.flatMap_append,List.flatMap_map,List.flatMap_assoc]
 congr 1
 congr 1; funext v
 unfold zCi zEt
 rw [List.flatMap_cons,List.flatMap_map]; rfl
def Nm (n:Int):Prop:=0≤n∧n≤100000
theorem zC1 {n:Int} (h:0≤n):Lib.itoa n=Lib.decDigits n.toNat:=by
 unfold Lib.itoa
 rw [if_neg (by omega)]
theorem zDJ {n:Int} (h:Nm n):numW (zBN n)=true∧zdO (zBN n)=n:=by
 obtain⟨h1,h2,⟨c,r,h3,h4⟩,h5⟩:=zDD n.toNat
 have hl:=zDk 5 n.toNat (by have:=h.2; have e:(10:Nat) ^ (5+1)=1000000:=rfl; omega)
 have hw:numW (zBN n)=true:=by
  rw [zrO,zBW,zC1 h.1]
  refine⟨by rw [h3]; simp,hl,h1,?_⟩
  by_cases hc:c=48
  ·exact .inl (h5 (h4 hc))
  ·exact .inr ⟨c,r,h3,hc⟩
 refine⟨hw,?_⟩
 rw [(zoV hw).2,zBW,zC1 h.1,h2]
 have:=h.1; omega
theorem zER {n:Int} (h:Nm n) (r:List ByteArray):numE (zBN n :: r)=.ok (n,r):=by
 unfold numE
 rw [show zdp (zBN n :: r)=.ok (zBN n,r) from rfl,zak,if_pos (zDJ h).1,(zDJ h).2]
theorem zEl:∀ {l:List Int} (r:List ByteArray),(∀ n∈l,Nm n)→zco l.length (l.map zBN++r)=.ok (l,r)
 | [],r,_=>rfl
 | n :: l,r,h=>by
  rw [List.length_cons,zco,List.map_cons,List.cons_append,zER (h n (by simp)),zak,zEl r (fun m hm=>h m (by simp [hm])),zak]
theorem zEq (u:ByteArray) (r:List ByteArray):sayE u (u :: r)=.ok ((),r):=by
 unfold sayE
 rw [show zdp (u :: r)=.ok (u,r) from rfl,zak,if_pos (by simp)]
theorem one1 {u:ByteArray} {n:Int} (h:Nm n) (r:List ByteArray):oneE u 1 (u :: zBN n :: r)=.ok ([n],r):=by
 unfold oneE
 rw [zEq,zak]
 exact zEl (l:=[n]) r (by simpa using h)
theorem one2 {u:ByteArray} {a b:Int} (ha:Nm a) (hb:Nm b) (r:List ByteArray):oneE u 2 (u :: zBN a :: zBN b :: r)=.ok ([a,b],r):=by
 unfold oneE
 rw [zEq,zak]
 exact zEl (l:=[a,b]) r (by simpa using ⟨ha,hb⟩)
theorem zEo:∀ {l:List Int} (acc:List Int) (r:List ByteArray),(∀ n∈l,Nm n)→zbF acc (l.map zBN++wLeast :: r)=.ok (acc++l,wLeast :: r)
 | [],acc,r,_=>by
  rw [List.map_nil,List.nil_append,zbF,if_pos (by simp),List.append_nil]
 | n :: l,acc,r,h=>by
  have hn:=zDJ (h n (by simp))
  rw [List.map_cons,List.cons_append,zbF,if_neg (fun e=>by rw [zAf e] at hn; exact Bool.noConfusion hn.1),if_pos hn.1,hn.2,zEo _ r (fun m hm=>h m (by simp [hm])),List.append_assoc]; rfl
theorem zEN {k:Int} (h:0≤k∧k≤3) (r:List ByteArray):zfk copesW 0 (zCV k :: r)=.ok (k,r):=by
 unfold zfk
 rw [show zdp (zCV k :: r)=.ok (zCV k,r) from rfl,zak]
 have:zbJ (fun y=>(zCV k).toList == y.toList) (copesW.drop 0)=k:=by
  obtain rfl | rfl | rfl | rfl:k=0∨k=1∨k=2∨k=3:=by omega
  all_goals decide +kernel
 simp only [this]
 rw [if_neg (by omega)]
 show Except.ok (k+((0:Nat):Int),r)=_
 rw [show k+((0:Nat):Int)=k from by omega]
theorem zEV {k:Int} (h:1≤k∧k≤4) (r:List ByteArray):zfk opensW 1 (opnW k :: r)=.ok (k,r):=by
 unfold zfk
 rw [show zdp (opnW k :: r)=.ok (opnW k,r) from rfl,zak]
 have:zbJ (fun y=>(opnW k).toList == y.toList) (opensW.drop 1)=k - 1:=by
  obtain rfl | rfl | rfl | rfl:k=1∨k=2∨k=3∨k=4:=by omega
  all_goals decide +kernel
 simp only [this]
 rw [if_neg (by omega)]
 show Except.ok (k - 1+((1:Nat):Int),r)=_
 rw [show k - 1+((1:Nat):Int)=k from by omega]
structure Full (s:Sht):Prop where
 name:zgx s.name=true
 base:Nm s.base
 batter:Nm s.batter
 height:Nm s.height
 skin:Nm s.skin
 each:∀ n∈s.heights,Nm n
 some_:s.heights.length≠0
 least:Nm s.least
 lap:Nm s.lap
 run:Nm s.run
 every:Nm s.every
 at_:Nm s.at_
 footing:Nm s.footing
 spread:Nm s.spread
 cope:0≤s.cope∧s.cope≤3
 tall:Nm s.tall
 short:Nm s.short
 thick:Nm s.thick
 low:Nm s.low
 high:Nm s.high
 rood:Nm s.rood
theorem zDm {s:Sht} (h:za4 s=true):Full s:=by
 have hN:=zaZ h
 unfold za4 badP at h
 simp only [Bool.and_eq_true,Bool.not_eq_true',Bool.or_eq_false_iff,Bool.not_eq_false'] at h
 obtain⟨⟨⟨⟨⟨h1,h2⟩,h3⟩,h4⟩,h5⟩,_⟩:=h
 rw [ziP] at h2
 rw [zir] at h3
 unfold zgJ inB at h2
 unfold zgy inB at h3
 simp only [Bool.and_eq_true,Bool.or_eq_true,decide_eq_true_eq] at h2 h3
 have hc:(0≤s.cope∧s.cope≤3)∧Nm s.tall∧Nm s.short∧Nm s.thick:=by
  unfold zgh at h5
  unfold Nm
  split at h5
  ·simp only [Bool.and_eq_true,decide_eq_true_eq] at h5; omega
  ·split at h5
   ·simp only [zcC,zdI,Bool.and_true,inB,Bool.and_eq_true,decide_eq_true_eq] at h5; omega
   ·split at h5
    ·simp only [zcC,zdI,Bool.and_true,inB,Bool.and_eq_true,decide_eq_true_eq] at h5; omega
    ·cases h5
 have hl:=hN.len
 refine⟨h1,?_,?_,?_,?_,fun n hn=>by have:=hN.each n hn; unfold Nm; omega,by omega,?_,?_,?_,?_,?_,?_,?_,hc.1,hc.2.1,hc.2.2.1,hc.2.2.2,?_,?_,?_⟩ <;> unfold Nm <;> omega
theorem zEQ {n:ByteArray} (h:zgx n=true) (r:List ByteArray):zes (n :: r)=.ok (n,r):=by
 unfold zes
 rw [show zdp (n :: r)=.ok (n,r) from rfl,zak,if_pos h]
theorem zE0 {a b c:Int} (ha:Nm a) (hb:Nm b) (hc:Nm c) (r:List ByteArray):zco 3 (zBN a :: zBN b :: zBN c :: r)=.ok ([a,b,c],r):=zEl (l:=[a,b,c]) r (by simpa using ⟨ha,hb,hc⟩)
theorem zEM {s:Sht} (h:Full s):zci (zB3 s)=.ok (s,[]):=by
 unfold zci zB3 zCM
 rw [zEQ h.name,zak,one1 h.base,zak,one1 h.batter,zak,one1 h.height,zak,one1 h.skin,zak,zEq,zak]
 rw [show(⟨#[108,101,97,115,116]⟩:ByteArray)=wLeast from rfl,zEo [] _ h.each,zak]
 rw [one1 h.least,zak,one1 h.lap,zak,one1 h.run,zak,one2 h.every h.at_,zak,one2 h.footing h.spread,zak,zEq,zak,zEN h.cope,zak,zE0 h.tall h.short h.thick,zak,one2 h.low h.high,zak,one1 h.rood,zak]
 rw [if_neg (by rw [List.nil_append]; exact h.some_)]
 rfl
theorem zEm {n:ByteArray} (h:zgx n=true):∀ c∈n.data.toList,c≠32∧c≠10:=by
 have h4:zdY n=true:=by rw [←znv]; exact h
 unfold zdY at h4
 simp only [Bool.and_eq_true,decide_eq_true_eq] at h4
 intro c hc
 obtain⟨k,hk,rfl⟩:=List.getElem_of_mem hc
 have:=zdf.1 h4.1 k (by rw [←zzk]; exact hk)
 rw [zy9,Int.toNat_natCast,List.getElem?_eq_getElem hk] at this
 refine⟨fun e=>?_,fun e=>?_⟩
 ·rw [e] at this; exact absurd this (by decide +kernel)
 ·rw [e] at this; exact absurd this (by decide +kernel)
abbrev Cln (u:ByteArray):Prop:=∀ c∈u.data.toList,c≠32∧c≠10
theorem zEy (n:Int):Cln (zBN n):=fun c hc=>by rw [zBW] at hc; exact zEv n c hc
theorem zEI:∀ (ws:List ByteArray) (p:List UInt8),(∀ c∈p,c≠32)→(∀ u∈ws,Cln u)→cutL 32 (p++zB0 ws)=p :: ws.map (·.data.toList)
 | [],p,h,_=>by rw [show zB0 []=[] from rfl,List.append_nil,zeD h]; rfl
 | u :: r,p,h,h2=>by
  rw [show zB0 (u :: r)=32 :: (u.data.toList++zB0 r) from rfl,zhx h,zEI r _ (fun c hc=>(h2 u (by simp) c hc).1) (fun v hv=>h2 v (by simp [hv]))]; rfl
theorem zEn {ws:List ByteArray} {p:List UInt8} (h:∀ c∈p,c≠32) (h2:∀ u∈ws,Cln u):zcn (mkB (p++zB0 ws)) 32=mkB p :: ws:=by
 refine zEW ?_
 rw [ziG]
 show cutL 32 (p++zB0 ws)=_
 rw [zEI ws p h h2]; rfl
theorem zEp {ws:List ByteArray} {p:List UInt8} (h:∀ c∈p,c≠10) (h2:∀ u∈ws,Cln u):∀ c∈p++zB0 ws,c≠10:=fun c hc=>by
 rcases List.mem_append.1 hc with hc | hc
 ·exact h c hc
 ·obtain⟨u,hu,hc⟩:=List.mem_flatMap.1 hc
  rcases List.mem_cons.1 hc with rfl | hc
  ·decide
  ·exact(h2 u hu c hc).2
theorem zES (k:Int):Cln (zCV k):=by
 unfold zCV
 match k.toNat with
 | 0=>decide +kernel
 | 1=>decide +kernel
 | 2=>decide +kernel
 | 3=>decide +kernel
 | n+4=>exact fun c hc=>by cases hc
theorem zEX (k:Int):Cln (opnW k):=by
 unfold opnW
 match k.toNat with
 | 0=>decide +kernel
 | 1=>decide +kernel
 | 2=>decide +kernel
 | 3=>decide +kernel
 | 4=>decide +kernel
 | n+5=>exact fun c hc=>by cases hc
theorem zEB {s:Sht} (h:zgx s.name=true):∀ u∈zB3 s,Cln u:=by
 have hi:=zEy
 have hc:=zES s.cope
 unfold zB3 zCM
 intro u hu
 simp only [List.mem_cons,List.mem_append,List.mem_map,List.not_mem_nil,or_false] at hu
 rcases hu with rfl | rfl | rfl | rfl | rfl | rfl | rfl | rfl | rfl | rfl | ⟨n,_,rfl⟩ | rfl | rfl | rfl | rfl | rfl | rfl | rfl | rfl | rfl | rfl | rfl | rfl | rfl | rfl | rfl | rfl | rfl | rfl | rfl | rfl | rfl | rfl
 all_goals first | exact zEm h | exact hi _ | exact hc | decide +kernel
theorem zEH {v:Wll} (h:zgx v.name=true) (h2:zgx v.sheet=true):∀ u∈zCv v,Cln u:=by
 unfold zCv
 intro u hu
 simp only [List.mem_cons,List.not_mem_nil,or_false] at hu
 rcases hu with rfl | rfl | rfl
 ·exact zEm h
 ·exact zEm h2
 ·exact zEy _
theorem zEG (o:Opn):∀ u∈zCt o,Cln u:=by
 unfold zCt
 intro u hu
 simp only [List.mem_cons,List.not_mem_nil,or_false] at hu
 rcases hu with rfl | rfl | rfl | rfl | rfl
 ·exact zEX _
 all_goals exact zEy _
theorem zEu {S:List Sht} {V:List Wll} {s:Sht} (h:za4 s=true) (hj:¬ 0≤zew S s.name) (hl:S.length < 20):zcu ⟨S,V⟩ (mkB (zC0 s))=.ok ⟨S++[s],V⟩:=by
 have hf:=zDm h
 rw [zy5]
 unfold zC0
 rw [zEn (by decide +kernel) (zEB hf.name)]
 rw [show(mkB ([115,104,101,101,116]:List UInt8) :: zB3 s).getD 0 default=mkB ([115,104,101,101,116]:List UInt8) from rfl]
 rw [zAb (by decide +kernel)]
 unfold zb3
 rw [show(mkB ([115,104,101,101,116]:List UInt8) :: zB3 s).drop 1=zB3 s from rfl,zEM hf,zak,show endE []=.ok ((),[]) from rfl,zak]
 rw [if_neg hj,if_pos h,if_neg (by show ¬ S.length=20; omega)]
theorem zEA {S:List Sht} {V:List Wll} {v:Wll} (h1:zgx v.name=true) (h2:zgx v.sheet=true) (h3:Nm v.length) (hj:¬ 0≤zss V v.name) (hs:0≤zew S v.sheet) (hw:zd1 (getS S v.sheet).height ⟨v.name,v.sheet,v.length,[]⟩=true) (hl:V.length < 50) :
  zcu ⟨S,V⟩ (mkB (zBX v))=.ok ⟨S,V++[⟨v.name,v.sheet,v.length,[]⟩]⟩:=by
 rw [zy5]
 unfold zBX
 rw [zEn (by decide +kernel) (zEH h1 h2)]
 rw [show(mkB ([119,97,108,108]:List UInt8) :: zCv v).getD 0 default=mkB ([119,97,108,108]:List UInt8) from rfl]
 rw [zAp (by decide +kernel) (by decide +kernel)]
 have hn:=zDJ h3
 rw [zzQ (ws:=mkB ([119,97,108,108]:List UInt8) :: zCv v) rfl h1 h2 hn.1,zzo (show numW ((mkB ([119,97,108,108]:List UInt8) :: zCv v).getD 3 default)=true from hn.1),show zdO ((mkB ([119,97,108,108]:List UInt8) :: zCv v).getD 3 default)=v.length from hn.2]
 refine(if_neg hj).trans ((if_pos hs).trans ((if_pos hw).trans (if_neg ?_)))
 show ¬ V.length=50
 omega
theorem zEz {S:List Sht} {V:List Wll} {v:Wll} {o:Opn} (hk:1≤o.kind∧o.kind≤4) (h1:Nm o.at_) (h2:Nm o.width) (h3:Nm o.frm) (h4:Nm o.high) (hw:zd1 (getS S v.sheet).height (more v o)=true) :
  zcu ⟨S,V++[v]⟩ (mkB (zDr o))=.ok ⟨S,V++[more v o]⟩:=by
 rw [zy5]
 unfold zDr
 rw [zEn (by decide +kernel) (zEG o)]
 rw [show(mkB ([111,112,101,110]:List UInt8) :: zCt o).getD 0 default=mkB ([111,112,101,110]:List UInt8) from rfl]
 rw [zAo (by decide +kernel) (by decide +kernel) (by decide +kernel)]
 rw [zAw]
 unfold zAg
 rw [show(mkB ([111,112,101,110]:List UInt8) :: zCt o).drop 1=opnW o.kind :: ([o.at_,o.width,o.frm,o.high].map zBN++[]) from rfl,zEV hk,zak]
 rw [show zco 4 _=_ from zEl (l:=[o.at_,o.width,o.frm,o.high]) [] (by simpa using ⟨h1,h2,h3,h4⟩),zak,show endE []=.ok ((),[]) from rfl,zak,zak]
 have hlen:(V++[v]).length=V.length+1:=by simp
 have hget:(V++[v]).getD ((V++[v]).length - 1) default=v:=by rw [hlen,List.getD_eq_getElem?_getD]; simp
 have hset:(V++[v]).set ((V++[v]).length - 1) (more v o)=V++[more v o]:=by rw [hlen]; simp
 rw [if_neg (by rw [hlen]; omega)]
 simp only [hget]
 have e:∀ x:Wll,x=more v o→zd1 (getS S v.sheet).height x=true→(if zd1 (getS S v.sheet).height x=true then Except.ok (⟨S,(V++[v]).set ((V++[v]).length - 1) x⟩:Plan) else Except.error 2)=(.ok ⟨S,V++[more v o]⟩:Except Int Plan):=fun x hx h=>by
  rw [if_pos h,hx,hset]
 exact e _ rfl hw
theorem zEr {c:UInt8} {r:List UInt8} (h:c≠35):idle (mkB (c :: r))=false:=by
 refine zt2 (by rw [znt]; simp) ?_
 rw [zy9]
 show decide ((c.toNat:Int)=35)=false
 rw [decide_eq_false_iff_not]
 intro e
 exact h (UInt8.toNat_inj.1 (by show c.toNat=35; omega))
theorem zEJ (s:Sht):idle (mkB (zC0 s))=false:=zEr (c:=115) (by decide)
theorem zEP (v:Wll):idle (mkB (zBX v))=false:=zEr (c:=119) (by decide)
theorem zEO (o:Opn):idle (mkB (zDr o))=false:=zEr (c:=111) (by decide)
theorem zEC:∀ (l:List (List UInt8)),(∀ x∈l,∀ c∈x,c≠10)→cutL 10 (l.flatMap fun x=>x++[10])=l++[[]]
 | [],_=>rfl
 | x :: r,h=>by
  rw [show(x :: r).flatMap (fun y=>y++[10])=x++10 :: (r.flatMap fun y=>y++[10]) from by rw [List.flatMap_cons]; simp,zhx (h x (by simp)),zEC r (fun y hy=>h y (by simp [hy]))]; rfl
theorem zEs (V:List Wll) (rest:List ByteArray):∀ (r acc:List Sht) (n:Int),(acc++r).length≤20→(∀ s∈r,za4 s=true)→(∀ a s b,acc++r=a++s :: b→¬ 0≤zew a s.name) →
  zdo ⟨acc,V⟩ n (r.map (fun s=>mkB (zC0 s))++rest)=zdo ⟨acc++r,V⟩ (n+r.length) rest
 | [],acc,n,_,_,_=>by simp
 | s :: r,acc,n,hl,hs,hd=>by
  rw [List.map_cons,List.cons_append,zhB (zEJ s) (zEu (hs s (by simp)) (hd acc s r rfl) (by simp at hl; omega))]
  rw [zEs V rest r (acc++[s]) (n+1) (by rw [List.append_assoc]; exact hl) (fun x hx=>hs x (by simp [hx])) (fun a x b e=>hd a x b (by rw [←e]; simp))]
  rw [List.append_assoc,List.length_cons,show n+1+(r.length:Int)=n+((r.length+1:Nat):Int) from by omega]; rfl
theorem zEw (S:List Sht) (V:List Wll) (nm sh:ByteArray) (L:Int) (rest:List ByteArray):∀ (r acc:List Opn) (n:Int),(∀ o∈r,zn8 L (getS S sh).height o)→(getS S sh).height≤3000→(∀ a b,acc++r=a++b→zd1 (getS S sh).height ⟨nm,sh,L,a⟩=true) →
  zdo ⟨S,V++[⟨nm,sh,L,acc⟩]⟩ n (r.map (fun o=>mkB (zDr o))++rest)=zdo ⟨S,V++[⟨nm,sh,L,acc++r⟩]⟩ (n+r.length) rest
 | [],acc,n,_,_,_=>by simp
 | o :: r,acc,n,hf,hh,hw=>by
  have hF:=hf o (by simp)
  have e1:=hF.k; have e2:=hF.w; have e3:=hF.a; have e4:=hF.h; have e5:=hF.f; have e6:=hF.l
  rw [List.map_cons,List.cons_append,zhB (zEO o) (zEz (v:=⟨nm,sh,L,acc⟩) e1 (by unfold Nm; omega) (by unfold Nm; omega) (by unfold Nm; omega) (by unfold Nm; omega) (hw (acc++[o]) r (by simp)))]
  rw [show more (⟨nm,sh,L,acc⟩:Wll) o=⟨nm,sh,L,acc++[o]⟩ from rfl]
  rw [zEw S V nm sh L rest r (acc++[o]) (n+1) (fun x hx=>hf x (by simp [hx])) hh (fun a b e=>hw a b (by rw [←e]; simp))]
  rw [List.append_assoc,List.length_cons,show n+1+(r.length:Int)=n+((r.length+1:Nat):Int) from by omega]; rfl
structure zEd (S:List Sht) (v:Wll):Prop where
 name:zgx v.name=true
 sheet:zgx v.sheet=true
 len:Nm v.length
 is:0≤zew S v.sheet
 top:(getS S v.sheet).height≤3000
 fits:∀ o∈v.opens,zn8 v.length (getS S v.sheet).height o
 pre:∀ a b,v.opens=a++b→zd1 (getS S v.sheet).height ⟨v.name,v.sheet,v.length,a⟩=true
theorem zEx (S:List Sht) (rest:List ByteArray):∀ (r acc:List Wll) (n:Int),(acc++r).length≤50→(∀ v∈r,zEd S v)→(∀ a v b,acc++r=a++v :: b→¬ 0≤zss a v.name) →
  ∃ m,zdo ⟨S,acc⟩ n ((r.flatMap zEt).map mkB++rest)=zdo ⟨S,acc++r⟩ m rest
 | [],acc,n,_,_,_=>⟨n,by simp⟩
 | v :: r,acc,n,hl,hs,hd=>by
  have hv:=hs v (by simp)
  have e1:((v :: r).flatMap zEt).map mkB++rest=mkB (zBX v) :: (v.opens.map (fun o=>mkB (zDr o))++((r.flatMap zEt).map mkB++rest)):=by
   rw [List.flatMap_cons,List.map_append]
   unfold zEt
   rw [List.map_cons,List.map_map]
   simp [Function.comp_def]
  rw [e1,zhB (zEP v) (zEA hv.name hv.sheet hv.len (hd acc v r rfl) hv.is (hv.pre [] v.opens rfl) (by simp at hl; omega))]
  rw [zEw S acc v.name v.sheet v.length _ v.opens [] _ hv.fits hv.top (fun a b e=>hv.pre a b (by simpa using e))]
  obtain⟨m,hm⟩:=zEx S rest r (acc++[v]) (n+1+v.opens.length) (by rw [List.append_assoc]; exact hl) (fun x hx=>hs x (by simp [hx])) (fun a x b e=>hd a x b (by rw [←e]; simp))
  refine⟨m,?_⟩
  rw [List.append_assoc] at hm
  rw [List.nil_append]
  exact hm
structure Back (q:Plan):Prop where
 ls:q.S.length≤20
 lv:q.V.length≤50
 sh:∀ s∈q.S,za4 s=true
 sd:∀ a s b,q.S=a++s :: b→¬ 0≤zew a s.name
 wv:∀ v∈q.V,zEd q.S v
 wd:∀ a v b,q.V=a++v :: b→¬ 0≤zss a v.name
def headT:ByteArray:=⟨#[35,32,97,32,112,108,97,110,10,10]⟩
theorem zEU (r:List UInt8):cutL 10 (headT.data.toList++r)=[35,32,97,32,112,108,97,110] :: [] :: cutL 10 r:=by
 rw [show headT.data.toList++r=[35,32,97,32,112,108,97,110]++10 :: ([]++10 :: r) from rfl,zhx (by decide +kernel),zhx (by decide +kernel)]
theorem zEL {q:Plan} (h:Back q) (hz:(zDQ q).length≤30000):zgA (headT++bs (zDQ q))=(q,0,0):=by
 have hd:(headT++bs (zDQ q)).data.toList=headT.data.toList++zDQ q:=by rw [zET]
 have hsz:(headT++bs (zDQ q)).size=10+(zDQ q).length:=by
  rw [←zzk,hd,List.length_append]; rfl
 refine zkf (by rw [hsz]; omega) ?_
 unfold zcb
 rw [zy0 ⟨[],[]⟩,zcT,hd,zEU]
 have hten:∀ x∈zED q,∀ c∈x,c≠10:=by
  intro x hx
  unfold zED at hx
  rcases List.mem_append.1 hx with hx | hx
  ·obtain⟨s,hs,rfl⟩:=List.mem_map.1 hx
   exact zEp (by decide +kernel) (zEB (zDm (h.sh s hs)).name)
  ·obtain⟨v,hv,hx⟩:=List.mem_flatMap.1 hx
   have hw:=h.wv v hv
   unfold zEt at hx
   rcases List.mem_cons.1 hx with rfl | hx
   ·exact zEp (by decide +kernel) (zEH hw.name hw.sheet)
   ·obtain⟨o,_,rfl⟩:=List.mem_map.1 hx
    exact zEp (by decide +kernel) (zEG o)
 rw [zEE,zEC _ hten,List.map_cons,List.map_cons,List.map_append,zoq (by decide +kernel),zoq (by decide +kernel)]
 unfold zED
 rw [List.map_append,List.append_assoc,List.map_map]
 rw [show(mkB ∘ zC0)=fun s=>mkB (zC0 s) from rfl,zEs [] _ q.S [] _ (by simpa using h.ls) h.sh (fun a s b e=>h.sd a s b (by simpa using e))]
 rw [List.nil_append]
 obtain⟨m,hm⟩:=zEx q.S ([[]].map mkB) q.V [] (1+1+1+(q.S.length:Int)) (by simpa using h.lv) h.wv (fun a v b e=>h.wd a v b (by simpa using e))
 rw [List.nil_append] at hm
 rw [hm]
 show zdo q m [mkB []]=_
 rw [zoq (by decide +kernel)]; rfl
end Go.Pln
namespace Go.Pln
open Go Go.K Go.RowKit Go.Stn Go.Txt
theorem zDx {top:Int} {n sh:ByteArray} {l:Int} {a b:List Opn} (h:zd1 top ⟨n,sh,l,a++b⟩=true):zd1 top ⟨n,sh,l,a⟩=true:=by
 unfold zd1 at *
 simp only [Bool.and_eq_true] at *
 obtain⟨⟨⟨h1,h2⟩,h3⟩,h4⟩:=h
 refine⟨⟨⟨h1,h2⟩,?_⟩,?_⟩
 ·rw [zbp] at *
  simp only [List.length_append] at h3
  omega
 ·rw [zdf] at *
  intro i hi
  have:=h4 i (by simp only [List.length_append]; omega)
  unfold zcI at *
  dsimp only at *
  rw [List.take_append_of_le_length (by omega),List.getD_eq_getElem?_getD,List.getElem?_append_left (by omega),←List.getD_eq_getElem?_getD] at this
  exact this
theorem zDn {S:List Sht} {n:ByteArray} (h:∀ s∈S,za4 s=true):(getS S n).height≤3000:=by
 unfold getS
 split
 ·rename_i h0
  have hl:zew S n < (S.length:Int):=Stn.findI_lt _ h0
  have:=(zaZ (h _ (za0 (l:=S) (i:=(zew S n).toNat) (by omega)))).height
  omega
 ·exact(by decide)
theorem zDX {S:List Sht} {n:ByteArray} (h:0≤zew S n):∃ s∈S,s.name=n:=by
 unfold zew at h
 rw [zEk,List.any_eq_true] at h
 obtain⟨s,hs,he⟩:=h
 refine⟨s,hs,?_⟩
 exact(beqB _ _).1 he
theorem zDe {S:List ShC} {i:Nat} (h:shAt S i=true):¬ 0≤zew ((S.map (·.s)).take i) (S.getD i default).s.name:=by
 unfold shAt at h
 simp only [Bool.and_eq_true,Bool.not_eq_true'] at h
 unfold zew
 rw [zEk,←List.map_take,List.any_map]
 intro e
 have h1:=h.1
 rw [show((fun z:Sht=>z.name.toList == (S.getD i default).s.name.toList) ∘ fun z:ShC=>z.s)=fun z=>z.s.name.toList == (S.getD i default).s.name.toList from rfl] at e
 rw [e] at h1; cases h1
theorem zDh {S:List ShC} {V:List WlC} {i:Nat} (h:wlAt S V i=true):¬ 0≤zss ((V.map (·.s)).take i) (V.getD i default).s.name:=by
 unfold wlAt at h
 simp only [Bool.and_eq_true,Bool.not_eq_true'] at h
 unfold zss
 rw [zEk,←List.map_take,List.any_map]
 intro e
 have h1:=h.1.2
 rw [show((fun z:Wll=>z.name.toList == (V.getD i default).s.name.toList) ∘ fun z:WlC=>z.s)=fun z=>z.s.name.toList == (V.getD i default).s.name.toList from rfl] at e
 rw [e] at h1; cases h1
theorem zDj {α:Type} [Inhabited α] {l a b:List α} {x:α} (h:l=a++x :: b):l.take a.length=a∧l.getD a.length default=x∧a.length < l.length:=by
 subst h
 refine⟨by simp,?_,by simp⟩
 rw [List.getD_eq_getElem?_getD]; simp
theorem zDS {S:List ShC} {V:List WlC} (h:zc4 S V=true):Back ⟨S.map (·.s),V.map (·.s)⟩:=by
 unfold zc4 at h
 simp only [Bool.and_eq_true,Bool.not_eq_true',Bool.or_eq_false_iff,decide_eq_false_iff_not,zdf] at h
 obtain⟨⟨⟨h1,h2⟩,h3⟩,h4⟩:=h
 have hS:=zg3 (S:=S) (fun j hj=>h3 j (by omega))
 have hsh:∀ s∈S.map (·.s),za4 s=true:=fun s hs=>by
  obtain⟨z,hz,rfl⟩:=List.mem_map.1 hs
  exact hS z hz
 refine⟨by rw [List.length_map]; omega,by rw [List.length_map]; omega,hsh,fun a s b e=>?_,fun v hv=>?_,fun a v b e=>?_⟩
 ·obtain⟨e1,e2,e3⟩:=zDj e
  rw [List.length_map] at e3
  have:=zDe (h3 a.length e3)
  rw [e1] at this
  rw [zeq (fun z:ShC=>z.s) rfl] at e2
  rwa [e2] at this
 ·obtain⟨z,hz,rfl⟩:=List.mem_map.1 hv
  obtain⟨i,hi,rfl⟩:=List.getElem_of_mem hz
  have hw:=h4 i hi
  unfold wlAt at hw
  simp only [Bool.and_eq_true,decide_eq_true_eq] at hw
  have hg:V.getD i default=V[i]:=by rw [List.getD_eq_getElem?_getD,List.getElem?_eq_getElem hi]; rfl
  rw [hg,zeL,zf2] at hw
  obtain⟨⟨w1,_⟩,w2⟩:=hw
  have hl:=zgM (zqW w2)
  have hn:zgx V[i].s.name=true:=by
   have:=zqW w2
   unfold zfP at this
   simp only [Bool.and_eq_true] at this
   rw [znv]; exact this.1.1
  refine⟨hn,?_,by unfold Nm; omega,w1,zDn hsh,fun o ho=>?_,fun a b e=>?_⟩
  ·obtain⟨s,hs,e⟩:=zDX w1
   rw [←e]
   exact(zDm (hsh s hs)).name
  ·obtain⟨k,hk,rfl⟩:=List.getElem_of_mem ho
   have h5:=w2
   unfold zd1 at h5
   simp only [Bool.and_eq_true,zdf] at h5
   have:=zf7 (h5.2 k hk)
   rwa [List.getD_eq_getElem?_getD,List.getElem?_eq_getElem hk] at this
  ·refine zDx (b:=b) ?_
   rw [←e]
   exact w2
 ·obtain⟨e1,e2,e3⟩:=zDj e
  rw [List.length_map] at e3
  have:=zDh (h4 a.length e3)
  rw [e1] at this
  rw [zeq (fun z:WlC=>z.s) rfl] at e2
  rwa [e2] at this
end Go.Pln
namespace Go.Pln
open Go Go.K Go.RowKit Go.Stn Go.Txt
def zCC (l:List ByteArray):ByteArray:=bs (Lib.join (l.map (·.data.toList)) [32])
theorem zCI {l:List ByteArray} (h:(l.length:Int)=0):zCC l=⟨#[]⟩:=by
 have:l=[]:=List.eq_nil_of_length_eq_zero (by omega)
 rw [this]; rfl
theorem zDq {l:List ByteArray} (h:(l.length:Int)=1):zCC l=l.getD 0 default:=by
 obtain⟨x,rfl⟩:=List.length_eq_one_iff.1 (show l.length=1 by omega)
 unfold zCC
 rw [List.map_cons,List.map_nil,Lib.join_one]
 exact Lib.mk_data x
def jnL (l:List ByteArray) (k:Nat):List UInt8:=(l.getD 0 default).data.toList++zB0 ((l.drop 1).take k)
theorem zB6 (r:List ByteArray):Lib.joinTail [32] (r.map (·.data.toList))=zB0 r:=by
 unfold Lib.joinTail zB0
 rw [List.map_map,List.flatMap_def]; rfl
theorem zCs {l:List ByteArray} {k:Int} (h:0 < l.length) (hk:((l.drop 1).length:Int)≤k):zCC l=bs (jnL l k.toNat):=by
 cases l with
 | nil=>simp at h
 | cons x r=>
  have hr:(x :: r).drop 1=r:=rfl
  rw [hr] at hk
  unfold zCC jnL
  rw [List.map_cons,Lib.join_cons,zB6,hr,List.take_of_length_le (by omega)]; rfl
theorem zDH (l:List ByteArray):jnL l 0=(l.getD 0 default).data.toList:=by
 unfold jnL
 rw [List.take_zero]
 exact List.append_nil _
theorem zDw (a b:List ByteArray):zB0 (a++b)=zB0 a++zB0 b:=by unfold zB0; rw [List.flatMap_append]
theorem zDG {l:List ByteArray} {k:Int} (h0:0≤k) (h:k < ((l.drop 1).length:Int)):jnL l (k+1).toNat=(jnL l k.toNat++[32])++((l.drop 1).getD k.toNat default).data.toList:=by
 unfold jnL
 rw [ziI h0 h,zDw]
 simp [zB0]
theorem zB4 {n:Nat}:∀ {ws:List ByteArray},(∀ u∈ws,u.size≤n)→(zB0 ws).length≤(n+1)*ws.length
 | [],_=>by simp [zB0]
 | u :: r,h=>by
  have h1:=zB4 (n:=n) (ws:=r) (fun v hv=>h v (by simp [hv]))
  have h2:=h u (by simp)
  rw [show zB0 (u :: r)=32 :: (u.data.toList++zB0 r) from rfl,List.length_cons,List.length_append,zzk,List.length_cons,Nat.mul_succ]
  omega
theorem zCY {l:List ByteArray} {n:Nat} (hn:∀ x∈l,x.size≤n) (h:0 < l.length) (k:Nat):(jnL l k).length≤n+(n+1)*l.length:=by
 unfold jnL
 have h1:=hn _ (za0 (l:=l) (i:=0) (by omega))
 have h2:=zB4 (n:=n) (ws:=(l.drop 1).take k) (fun u hu=>hn u (List.mem_of_mem_drop (List.mem_of_mem_take hu)))
 have h3:((l.drop 1).take k).length≤l.length:=by rw [List.length_take,List.length_drop]; omega
 rw [List.length_append,zzk]
 have:=Nat.mul_le_mul_left (n+1) h3
 omega
theorem zC9 {l:List ByteArray} {n:Nat} (hn:∀ x∈l,x.size≤n):(zCC l).size≤n+(n+1)*l.length:=by
 by_cases h:0 < l.length
 ·rw [zCs (k:=((l.drop 1).length:Int)) h (Int.le_refl _),zBL]
  exact zCY hn h _
 ·rw [zCI (by omega)]; exact Nat.zero_le _
def zDa (ws:List ByteArray):ByteArray:=zCC ws++⟨#[10]⟩
theorem zCe (u:ByteArray) (r:List ByteArray):zDa (u :: r)=bs (u.data.toList++zB0 r++[10]):=by
 unfold zDa zCC
 rw [List.map_cons,Lib.join_cons,zB6,zDi]
theorem zD2 {n:Int} (h1:1≤n) (h2:n≤100000):1 < (9223372036854775807:Int).tdiv n∧(9223372036854775807:Int).tdiv n≤9223372036854775807:=by
 rw [Int.tdiv_eq_ediv_of_nonneg (by decide)]
 have:=Int.le_ediv_of_mul_le (a:=2) (b:=9223372036854775807) (c:=n) (by omega) (by omega)
 have:=Int.ediv_le_self n (show(0:Int)≤9223372036854775807 by decide)
 omega
theorem zBY {n:Int} (h:Nm n):(zBN n).size≤6:=by
 have:=(zrP (zDJ h).1); omega
theorem zBQ {n:ByteArray} (h:zgx n=true):n.size≤16:=zAd h
theorem zCz (k:Int):(zCV k).size≤16:=by
 unfold zCV
 match k.toNat with
 | 0=>decide
 | 1=>decide
 | 2=>decide
 | 3=>decide
 | n+4=>exact Nat.zero_le _
theorem zDs (k:Int):(opnW k).size≤16:=by
 unfold opnW
 match k.toNat with
 | 0=>decide
 | 1=>decide
 | 2=>decide
 | 3=>decide
 | 4=>decide
 | n+5=>exact Nat.zero_le _
theorem zCo {s:Sht} (h:Full s):∀ u∈zB3 s,u.size≤16:=by
 have hi:∀ {n:Int},Nm n→(zBN n).size≤16:=fun h=>by have:=zBY h; omega
 unfold zB3 zCM
 intro u hu
 simp only [List.mem_cons,List.mem_append,List.mem_map,List.not_mem_nil,or_false] at hu
 rcases hu with rfl | rfl | rfl | rfl | rfl | rfl | rfl | rfl | rfl | rfl | ⟨n,hn,rfl⟩ | rfl | rfl | rfl | rfl | rfl | rfl | rfl | rfl | rfl | rfl | rfl | rfl | rfl | rfl | rfl | rfl | rfl | rfl | rfl | rfl | rfl | rfl
 ·exact zBQ h.name
 ·decide
 ·exact hi h.base
 ·decide
 ·exact hi h.batter
 ·decide
 ·exact hi h.height
 ·decide
 ·exact hi h.skin
 ·decide
 ·exact hi (h.each n hn)
 ·decide
 ·exact hi h.least
 ·decide
 ·exact hi h.lap
 ·decide
 ·exact hi h.run
 ·decide
 ·exact hi h.every
 ·exact hi h.at_
 ·decide
 ·exact hi h.footing
 ·exact hi h.spread
 ·decide
 ·exact zCz _
 ·exact hi h.tall
 ·exact hi h.short
 ·exact hi h.thick
 ·decide
 ·exact hi h.low
 ·exact hi h.high
 ·decide
 ·exact hi h.rood
theorem zCu {s:Sht} (h:Full s) (hl:s.heights.length≤12):(zBU s).length≤800:=by
 unfold zBU zC0
 have h1:=zB4 (zCo h)
 have h2:(zB3 s).length=32+s.heights.length:=by unfold zB3 zCM; simp; omega
 rw [h2] at h1
 simp only [List.length_append,List.length_cons,List.length_nil]
 omega
theorem zCn {v:Wll} (h1:zgx v.name=true) (h2:zgx v.sheet=true) (h3:Nm v.length):(zBX v++[10]).length≤100:=by
 unfold zBX
 have h4:=zB4 (n:=16) (ws:=zCv v) (fun u hu=>by
  unfold zCv at hu
  simp only [List.mem_cons,List.not_mem_nil,or_false] at hu
  rcases hu with rfl | rfl | rfl
  ·exact zBQ h1
  ·exact zBQ h2
  ·have:=zBY h3; omega)
 have h5:(zCv v).length=3:=rfl
 rw [h5] at h4
 simp only [List.length_append,List.length_cons,List.length_nil]
 omega
theorem zCk {o:Opn} (h1:Nm o.at_) (h2:Nm o.width) (h3:Nm o.frm) (h4:Nm o.high):(zBR o).length≤100:=by
 unfold zBR zDr
 have h5:=zB4 (n:=16) (ws:=zCt o) (fun u hu=>by
  unfold zCt at hu
  simp only [List.mem_cons,List.not_mem_nil,or_false] at hu
  rcases hu with rfl | rfl | rfl | rfl | rfl
  ·exact zDs _
  ·have:=zBY h1; omega
  ·have:=zBY h2; omega
  ·have:=zBY h3; omega
  ·have:=zBY h4; omega)
 have h6:(zCt o).length=5:=rfl
 rw [h6] at h5
 simp only [List.length_append,List.length_cons,List.length_nil]
 omega
theorem zCd {α:Type} {f:α→List UInt8} {n:Nat}:∀ {l:List α},(∀ x∈l,(f x).length≤n)→(l.flatMap f).length≤n*l.length
 | [],_=>by simp
 | x :: r,h=>by
  have h1:=zCd (f:=f) (n:=n) (l:=r) (fun y hy=>h y (by simp [hy]))
  have h2:=h x (by simp)
  rw [List.flatMap_cons,List.length_append,List.length_cons,Nat.mul_succ]
  omega
theorem zh6 {α:Type} [Inhabited α] {f:α→List UInt8} {l:List α} {i:Int} (h0:0≤i) (h:i < (l.length:Int)):(l.take (i+1).toNat).flatMap f=(l.take i.toNat).flatMap f++f (l.getD i.toNat default):=by
 rw [ziI h0 h,List.flatMap_append]; simp
end Go.Pln
namespace Go.Proofs.YtdcfcfhmkfkgmaaGreatDoor
open Go.K Go.Stn Go.Pln Go.RowKit
theorem tf3:TF Tryz.prog 3 false 1 (.int IntKind.i64 0):=⟨by kernel_rfl,by kernel_rfl⟩
theorem tf5:TF Tryz.prog 5 false 1 (.int IntKind.u8 0):=⟨by kernel_rfl,by kernel_rfl⟩
theorem zxC:TF Tryz.prog 117 true 3 (.agg #[.int IntKind.i64 0,.int IntKind.i64 0,.int IntKind.i64 0]):=⟨by kernel_rfl,by kernel_rfl⟩
theorem zna:FO Tryz.prog 37 1 1:=⟨by kernel_rfl⟩
theorem zps:FO Tryz.prog 37 2 2:=⟨by kernel_rfl⟩
theorem znc:FO Tryz.prog 41 1 1:=⟨by kernel_rfl⟩
theorem zpv:FO Tryz.prog 41 2 2:=⟨by kernel_rfl⟩
theorem zjW:FO Tryz.prog 41 13 13:=⟨by kernel_rfl⟩
theorem zfc:FO Tryz.prog 41 14 14:=⟨by kernel_rfl⟩
theorem zf1:FO Tryz.prog 41 15 15:=⟨by kernel_rfl⟩
theorem zfd:FO Tryz.prog 41 16 16:=⟨by kernel_rfl⟩
theorem zpq:FO Tryz.prog 117 0 0:=⟨by kernel_rfl⟩
theorem ztQ:FO Tryz.prog 117 1 1:=⟨by kernel_rfl⟩
theorem ztR:FO Tryz.prog 117 2 2:=⟨by kernel_rfl⟩
theorem se35:SE Tryz.prog 35 3 1:=⟨Tryz.underlying35,by kernel_rfl⟩
theorem zxw:SE Tryz.prog 148 117 3:=⟨Tryz.underlying148,by kernel_rfl⟩
theorem en53:En Tryz.prog 53:=za7 Tryz.func53 (by kernel_rfl) (by kernel_rfl)
theorem en80:En Tryz.prog 80:=za7 Tryz.func80 (by kernel_rfl) (by kernel_rfl)
theorem en81:En Tryz.prog 81:=za7 Tryz.func81 (by kernel_rfl) (by kernel_rfl)
theorem en82:En Tryz.prog 82:=za7 Tryz.func82 (by kernel_rfl) (by kernel_rfl)
theorem en83:En Tryz.prog 83:=za7 Tryz.func83 (by kernel_rfl) (by kernel_rfl)
theorem en84:En Tryz.prog 84:=za7 Tryz.func84 (by kernel_rfl) (by kernel_rfl)
theorem zw0:En Tryz.prog 105:=za7 Tryz.func105 (by kernel_rfl) (by kernel_rfl)
theorem zw1:En Tryz.prog 106:=za7 Tryz.func106 (by kernel_rfl) (by kernel_rfl)
theorem zxa:En Tryz.prog 126:=za7 Tryz.func126 (by kernel_rfl) (by kernel_rfl)
theorem zvU:En Tryz.prog 157:=za7 Tryz.func157 (by kernel_rfl) (by kernel_rfl)
theorem zaF (x0:Int) (x1:Int) (x2:Int) (w:World):(Instr.build 117 #[(0,.int .i64 x0),(1,.int .i64 x1),(2,.int .i64 x2)]).run Tryz.prog w=.ok (.agg #[.int .i64 x0,.int .i64 x1,.int .i64 x2]) w:=by kernel_rfl
theorem ztp (x0_0:Int) (x0_1:Int) (x0_2:Int) (w:World):(Instr.buildSlice 148 1 #[(0,.agg #[.int .i64 x0_0,.int .i64 x0_1,.int .i64 x0_2])]).run Tryz.prog w=.ok (.slice (some ⟨w.heap.size,0,none⟩) 1 1) (w.alloc (.cells (([⟨x0_0,x0_1,x0_2⟩]:List (Lim)).flatMap zgk).toArray 117)):=by kernel_rfl
theorem zjJ (x0_0:Int) (x0_1:Int) (x0_2:Int) (x1_0:Int) (x1_1:Int) (x1_2:Int) (x2_0:Int) (x2_1:Int) (x2_2:Int) (w:World):(Instr.buildSlice 148 3 #[(0,.agg #[.int .i64 x0_0,.int .i64 x0_1,.int .i64 x0_2]),(1,.agg #[.int .i64 x1_0,.int .i64 x1_1,.int .i64 x1_2]),(2,.agg #[.int .i64 x2_0,.int .i64 x2_1,.int .i64 x2_2])]).run Tryz.prog w=.ok (.slice (some ⟨w.heap.size,0,none⟩) 3 3) (w.alloc (.cells (([⟨x0_0,x0_1,x0_2⟩,⟨x1_0,x1_1,x1_2⟩,⟨x2_0,x2_1,x2_2⟩]:List (Lim)).flatMap zgk).toArray 117)):=by kernel_rfl
theorem mixed:Tryz.prog.follows .mixedOrders=true:=by kernel_rfl
set_option maxRecDepth 100000 in
set_option maxHeartbeats 1000000 in
theorem zv7 (n:Int) (w:World)  :
  Calls Tryz.prog 157 #[.int .i64 n] w (Pure (.bool false) w):=by
 refine zan (vs:=[_]) Tryz.func157 rfl rfl (Nat.le_of_ble_eq_true rfl) ?_
 refine zac (zaa (gA ?_))
 refine zag (zae (T':=[(0,_),(2,_)]) ⟨rfl,rfl,trivial⟩ ?_)
 refine zac (zaa (gM ?_))
 refine gM ?_
 refine gQ (zcr rfl rfl) ?_
 refine gA ?_
 refine zag (zae (T':=[(2,_)]) ⟨rfl,trivial⟩ ?_)
 refine zaw (zay (zaC rfl (zau rfl)) ?_)
 simp
set_option maxRecDepth 100000 in
set_option maxHeartbeats 1000000 in
theorem zo7 (x y:Int) (w:World)  :
  Calls Tryz.prog 139 #[.int .i64 x,.int .i64 y] w (Pure (.int .i64 (cmpI x y)) w):=by
 refine zan (vs:=[_,_]) Tryz.func139 rfl rfl (Nat.le_of_ble_eq_true rfl) ?_
 refine zac (zaa (gA ?_))
 refine zag (zae (T':=[(0,_),(1,_),(4,_)]) ⟨rfl,rfl,rfl,trivial⟩ ?_)
 refine zac (zaa (gM ?_))
 refine gQ (zaJ zvU rfl (fun w hw=>zv7 _ w)) ?_
 refine gA ?_
 refine zag (zae (T':=[(0,_),(1,_),(4,_),(5,_)]) ⟨rfl,rfl,rfl,rfl,trivial⟩ ?_)
 refine zac (zaa (gM ?_))
 refine gQ (zaJ zvU rfl (fun w hw=>zv7 _ w)) ?_
 refine gA ?_
 refine zag (zae (T':=[(0,_),(1,_),(4,_),(5,_),(6,_)]) ⟨rfl,rfl,rfl,rfl,rfl,trivial⟩ ?_)
 refine zac (zac (zaa (gM ?_)))
 refine zag (zae (T':=[(0,_),(1,_),(4,_),(6,_),(11,_)]) ⟨rfl,rfl,rfl,rfl,rfl,trivial⟩ ?_)
 refine zd8 rfl ?_
 refine zaq (zac (zac (zaa (gM ?_))))
 refine zag (zae (T':=[(0,_),(1,_),(4,_),(13,_)]) ⟨rfl,rfl,rfl,rfl,trivial⟩ ?_)
 refine zd8 rfl ?_
 refine zaq (zac (zac (zaa (gM ?_))))
 refine gM ?_
 refine gQ (zbw rfl rfl) ?_
 refine zag (zae (T':=[(0,_),(1,_),(4,_),(16,_)]) ⟨rfl,rfl,rfl,rfl,trivial⟩ ?_)
 refine zap rfl (fun hc16=>?_) (fun hc16=>?_)
 ·simp only [decide_eq_true_eq] at hc16
  refine zac (zaa (gA ?_))
  refine zag (zae (T':=[(0,_),(1,_),(4,_)]) ⟨rfl,rfl,rfl,trivial⟩ ?_)
  refine zaw (zay (zaC rfl (zau rfl)) ?_)
  simp only [cmpI]; rw [if_pos (by omega)]
 ·simp only [decide_eq_false_iff_not] at hc16
  refine zaq (zac (zac (zaa (gM ?_))))
  refine gM ?_
  refine gQ (zc6 rfl rfl) ?_
  refine zag (zae (T':=[(4,_),(19,_)]) ⟨rfl,rfl,trivial⟩ ?_)
  refine zap rfl (fun hc19=>?_) (fun hc19=>?_)
  ·simp only [decide_eq_true_eq] at hc19
   refine zac (zaa (gA ?_))
   refine zag (zae (T':=[(4,_)]) ⟨rfl,trivial⟩ ?_)
   refine zaw (zay (zaC rfl (zau rfl)) ?_)
   simp only [cmpI]; rw [if_neg (by omega),if_pos (by omega)]
  ·simp only [decide_eq_false_iff_not] at hc19
   refine zaq (zac (zaa (gA ?_)))
   refine zag (zae (T':=[(4,_)]) ⟨rfl,trivial⟩ ?_)
   refine zaw (zay (zaC rfl (zau rfl)) ?_)
   simp only [cmpI]; rw [if_neg (by omega),if_neg (by omega)]
set_option maxRecDepth 100000 in
set_option maxHeartbeats 1000000 in
theorem zlE (s:ByteArray) (f:Int→Bool) (gg:FuncId) (gcap:List Value) (w:World)  (M:World→Prop) (hM:∀ w',Ext w w'→M w') (hen:En Tryz.prog gg) (hg:∀ r w',M w'→Calls Tryz.prog gg ([Value.int .i32 r]++gcap).toArray w' (Pure (.bool (f r)) w')) :
  Calls Tryz.prog 126 #[.string s,.func (.func gg) #[] gcap.toArray,.bool true] w (Pure (.int .i64 (zcj f s 0)) w):=by
 refine zan (vs:=[_,_,_]) Tryz.func126 rfl rfl (Nat.le_of_ble_eq_true rfl) ?_
 refine zac (zaa (gA ?_))
 refine zag (zae (T':=[(0,_),(1,_),(2,_),(6,_)]) ⟨rfl,rfl,rfl,rfl,trivial⟩ ?_)
 refine zac (zac (zaa (gM ?_)))
 refine zaG rfl rfl (zmN (Tryz.underlying9) rfl) fun b10=>?_
 refine zag (zae (T':=[(1,_),(2,_),(6,_),(10,_)]) ⟨rfl,rfl,rfl,rfl,trivial⟩ ?_)
 refine zas ?_
 refine zbf (X:=Nat) (fun(p:Nat)=>[(1,.func (.func gg) #[] gcap.toArray),(2,.bool true),(6,.int .i64 0),(10,.pointer (some ⟨b10,0,none⟩))]) (fun(p:Nat)=>[Iter b10 s p]) (fun(p:Nat)=>(zcj f s p=zcj f s 0)) (fun(p:Nat)=>s.size - p) 0 ⟨rfl,rfl,rfl,rfl,trivial⟩ rfl ?_ ?_
 ·exact rfl
 ·rintro p hI
  refine zac (zaa (zoi 0 rfl rfl rfl (fun hnx=>?_) (fun hnx=>?_)))
  ·
   refine gQ (zaB rfl rfl) ?_
   refine zag (zae (T':=[(1,_),(2,_),(6,_),(10,_),(11,_),(12,_)]) ⟨rfl,rfl,rfl,rfl,rfl,rfl,trivial⟩ ?_)
   refine zac (zdg rfl ?_)
   refine zaq (zas ?_)
   refine zac (zaa (gk_y rfl rfl (zaB rfl rfl) ?_))
   refine gQ (zaB rfl rfl) ?_
   refine gA ?_
   refine gA ?_
   refine zag (zae (T':=[(1,_),(2,_),(6,_),(7,_),(8,_),(10,_)]) ⟨rfl,rfl,rfl,rfl,rfl,rfl,trivial⟩ ?_)
   refine zac (zaa (gM ?_))
   refine gM ?_
   refine gQ (zde (fs:=[]) (cap:=gcap) hen rfl rfl (fun w hw=>hg _ w (hM _ hw.base.ext0))) ?_
   refine gM ?_
   refine gQ (zsx (Tryz.underlying4) rfl rfl) ?_
   refine zag (zae (T':=[(1,_),(2,_),(6,_),(7,_),(10,_),(19,_)]) ⟨rfl,rfl,rfl,rfl,rfl,rfl,trivial⟩ ?_)
   refine zap rfl (fun hc19=>?_) (fun hc19=>?_)
   ·
    refine zac (zaa (gM ?_))
    refine gA ?_
    refine zag (zae (T':=[(1,_),(2,_),(6,_),(10,_)]) ⟨rfl,rfl,rfl,rfl,trivial⟩ ?_)
    refine zaw (zay (zaC rfl (zau rfl)) ?_)
    exact congrArg _ ((zdW hnx (by simpa using hc19)).symm.trans hI)
   ·
    refine zaq ?_
    exact za1 _ ⟨rfl,rfl,rfl,rfl,trivial⟩ rfl ((zfj hnx (by simpa using hc19)).symm.trans hI) (by have:=zjc s p; omega)
  ·
   refine gQ (zaB rfl rfl) ?_
   refine zag (zae (T':=[(1,_),(2,_),(6,_),(10,_),(11,_),(12,_)]) ⟨rfl,rfl,rfl,rfl,rfl,rfl,trivial⟩ ?_)
   refine zac (zd8 rfl ?_)
   refine za8 rfl ?_
   refine zac (zaa (gA ?_))
   refine zag (zae (T':=[(6,_)]) ⟨rfl,trivial⟩ ?_)
   refine zaw (zay (zaC rfl (zau rfl)) ?_)
   exact congrArg _ ((zf5 hnx).symm.trans hI)
set_option maxRecDepth 100000 in
set_option maxHeartbeats 1000000 in
theorem zly (s:ByteArray) (f:Int→Bool) (gg:FuncId) (gcap:List Value) (w:World)  (M:World→Prop) (hM:∀ w',Ext w w'→M w') (hen:En Tryz.prog gg) (hg:∀ r w',M w'→Calls Tryz.prog gg ([Value.int .i32 r]++gcap).toArray w' (Pure (.bool (f r)) w')) :
  Calls Tryz.prog 106 #[.string s,.func (.func gg) #[] gcap.toArray] w (Pure (.int .i64 (zcj f s 0)) w):=by
 refine zan (vs:=[_,_]) Tryz.func106 rfl rfl (Nat.le_of_ble_eq_true rfl) ?_
 refine zac (zaa (gA ?_))
 refine zag (zae (T':=[(0,_),(1,_),(4,_)]) ⟨rfl,rfl,rfl,trivial⟩ ?_)
 refine zac (zaa (gM ?_))
 refine gM ?_
 refine gQ (zaJ zxa rfl (fun w hw=>zlE s f _ _ w M (fun w' h=>hM w' (hw.base.ext0.trans h)) hen hg)) ?_
 refine gA ?_
 refine zag (zae (T':=[(4,_)]) ⟨rfl,trivial⟩ ?_)
 refine zaw (zay (zaC rfl (zau rfl)) ?_)
 rfl
set_option maxRecDepth 100000 in
set_option maxHeartbeats 1000000 in
theorem ziD (s:ByteArray) (f:Int→Bool) (gg:FuncId) (gcap:List Value) (w:World)  (M:World→Prop) (hM:∀ w',Ext w w'→M w') (hen:En Tryz.prog gg) (hg:∀ r w',M w'→Calls Tryz.prog gg ([Value.int .i32 r]++gcap).toArray w' (Pure (.bool (f r)) w')) :
  Calls Tryz.prog 83 #[.string s,.func (.func gg) #[] gcap.toArray] w (Pure (.bool (decide (0≤zcj f s 0))) w):=by
 refine zan (vs:=[_,_]) Tryz.func83 rfl rfl (Nat.le_of_ble_eq_true rfl) ?_
 refine zac (zaa (gA ?_))
 refine zag (zae (T':=[(0,_),(1,_),(4,_)]) ⟨rfl,rfl,rfl,trivial⟩ ?_)
 refine zac (zaa (gM ?_))
 refine gM ?_
 refine gQ (zaJ zw1 rfl (fun w hw=>zly s f _ _ w M (fun w' h=>hM w' (hw.base.ext0.trans h)) hen hg)) ?_
 refine gQ (zfx rfl rfl) ?_
 refine gA ?_
 refine zag (zae (T':=[(4,_)]) ⟨rfl,trivial⟩ ?_)
 refine zaw (zay (zaC rfl (zau rfl)) ?_)
 rfl
set_option maxRecDepth 100000 in
set_option maxHeartbeats 1000000 in
theorem zrK (r:Int) (w:World)  :
  Calls Tryz.prog 82 #[.int .i32 r] w (Pure (.bool (oddR r)) w):=by
 refine zan (vs:=[_]) Tryz.func82 rfl rfl (Nat.le_of_ble_eq_true rfl) ?_
 refine zac (zaa (gA ?_))
 refine zag (zae (T':=[(0,_),(2,_)]) ⟨rfl,rfl,trivial⟩ ?_)
 refine zac (zbb 17 (fun _=>mixed) (by kernel_rfl) ?_)
 refine ph_y (zaf rfl) ?_
 refine ph_y (zfx rfl rfl) ?_
 refine ph_y (zaf rfl) ?_
 refine zaH rfl rfl (fun hgd=>by(try rw [hgd]); exact(zaf rfl)) ?_
 refine zaH rfl rfl (fun hgd=>by(try rw [hgd]); exact(zeT rfl rfl)) ?_
 refine ph_y (zaX rfl rfl rfl) ?_
 refine ph_y (zbR rfl) ?_
 refine ph_y (zaf rfl) ?_
 refine zaH rfl rfl (fun hgd=>by(try rw [hgd]); exact(zaf rfl)) ?_
 refine zaH rfl rfl (fun hgd=>by(try rw [hgd]); exact(zfx rfl rfl)) ?_
 refine zaH rfl rfl (fun hgd=>by(try rw [hgd]); exact(zaf rfl)) ?_
 refine zdr rfl rfl (fun hgd=>by(try rw [hgd]); exact(zaf rfl)) ?_
 refine zdr rfl rfl (fun hgd=>by(try rw [hgd]); exact(zeT rfl rfl)) ?_
 refine zaH rfl rfl (fun hgd=>by(try rw [hgd]); exact(zaX rfl rfl rfl)) ?_
 refine zaH rfl rfl (fun hgd=>by(try rw [hgd]); exact(zbR rfl)) ?_
 refine ph_y (zaX rfl rfl rfl) ?_
 refine ph_y (zad rfl) ?_
 refine zag (zae (T':=[(2,_)]) ⟨rfl,trivial⟩ ?_)
 refine zaw (zay (zaC rfl (zau rfl)) ?_)
 rfl
def zs2 (s:ByteArray):Bool:=((!(s.toList == (⟨#[]⟩:ByteArray).toList))&&(decide ((s.size:Int)≤16)))&&(!(decide (0≤zcj oddR s 0)))
theorem zoA (s:ByteArray):(s.toList == (⟨#[]⟩:ByteArray).toList)=decide ((s.size:Int) < 1):=by
 rw [ByteArray.toList_eq,ByteArray.toList_eq,Bool.eq_iff_iff,beq_iff_eq,decide_eq_true_eq]
 have hz:s.size=s.data.toList.length:=rfl
 rw [hz]
 constructor
 ·intro h
  rw [h]; decide
 ·intro h
  have h0:s.data.toList.length=0:=by omega
  rw [List.length_eq_zero_iff.1 h0]
theorem zqb (s:ByteArray):zs2 s=zgx s:=by
 unfold zs2 zgx
 rw [zoA,Bool.eq_iff_iff]
 simp only [Bool.and_eq_true,Bool.not_eq_true',decide_eq_false_iff_not,decide_eq_true_eq]
 omega
set_option maxRecDepth 100000 in
set_option maxHeartbeats 1000000 in
theorem zmo (s:ByteArray) (w:World)  :
  Calls Tryz.prog 55 #[.string s] w (Pure (.bool (zgx s)) w):=by
 refine zan (vs:=[_]) Tryz.func55 rfl rfl (Nat.le_of_ble_eq_true rfl) ?_
 refine zac (zaa (gA ?_))
 refine zag (zae (T':=[(0,_),(2,_)]) ⟨rfl,rfl,trivial⟩ ?_)
 refine zac (zaa (gA ?_))
 refine zag (zae (T':=[(0,_),(2,_),(3,_)]) ⟨rfl,rfl,rfl,trivial⟩ ?_)
 refine zac (zbb 14 (fun _=>mixed) (by kernel_rfl) ?_)
 refine ph_y (zaf rfl) ?_
 refine ph_y (ziV rfl rfl) ?_
 refine ph_y (zaf rfl) ?_
 refine zaH rfl rfl (fun hgd=>by(try rw [hgd]); exact(zaf rfl)) ?_
 refine zaH rfl rfl (fun hgd=>by(try rw [hgd]); exact(zeO (Tryz.underlying9) rfl)) ?_
 refine zaH rfl rfl (fun hgd=>by(try rw [hgd]); exact(zeT rfl rfl)) ?_
 refine ph_y (zaX rfl rfl rfl) ?_
 refine ph_y (zaf rfl) ?_
 refine zaH rfl rfl (fun hgd=>by(try rw [hgd]); exact(zaf rfl)) ?_
 refine zaH rfl rfl (fun hgd=>by(try rw [hgd]); exact(zaf rfl)) ?_
 refine zaH rfl rfl (fun hgd=>by(try rw [hgd]); exact(zaJ (v:=.bool (decide (0≤zcj oddR s 0))) en83 rfl (fun w hw=>ziD s oddR _ [] w (fun _=>True) (fun _ _=>trivial) en82 (fun r w _=>zrK r w)))) ?_
 refine zaH rfl rfl (fun hgd=>by(try rw [hgd]); exact(zbR rfl)) ?_
 refine ph_y (zaX rfl rfl rfl) ?_
 refine ph_y (zad rfl) ?_
 refine zag (zae (T':=[(2,_)]) ⟨rfl,trivial⟩ ?_)
 refine zaw (zay (zaC rfl (zau rfl)) ?_)
 exact congrArg _ (zqb s)
set_option maxRecDepth 100000 in
set_option maxHeartbeats 1000000 in
theorem znM (s:ByteArray) (w:World) (hs:Fits s.size) :
  Calls Tryz.prog 51 #[.string s] w (Pure (.bool (zdY s)) w):=by
 refine zan (vs:=[_]) Tryz.func51 rfl rfl (Nat.le_of_ble_eq_true rfl) ?_
 refine zac (zaa (gA ?_))
 refine zag (zae (T':=[(0,_),(2,_)]) ⟨rfl,rfl,trivial⟩ ?_)
 refine zac (zac (zaa (gA ?_)))
 refine zag (zae (T':=[(0,_),(2,_),(3,_)]) ⟨rfl,rfl,rfl,trivial⟩ ?_)
 refine zas ?_
 refine zbf (X:=Int) (fun(i:Int)=>[(0,.string s),(2,.bool false),(3,.int .i64 i)]) (fun(i:Int)=>[]) (fun(i:Int)=>(0≤i∧i≤s.size∧∀ j:Nat,(j:Int) < i→oddB (zee s j)=false)) (fun(i:Int)=>(s.size - i).toNat) 0 ⟨rfl,rfl,rfl,trivial⟩ rfl ?_ ?_
 ·exact⟨by omega,by omega,fun j hj=>by omega⟩
 ·rintro i hI
  obtain⟨g0,g1,g2⟩:=hI
  refine zac (zac (zaa (gM ?_)))
  refine gM ?_
  refine gQ (zeO (Tryz.underlying9) rfl) ?_
  refine gQ (zbw rfl rfl) ?_
  refine zag (zae (T':=[(0,_),(2,_),(3,_),(7,_)]) ⟨rfl,rfl,rfl,rfl,trivial⟩ ?_)
  refine zap rfl (fun hc7=>?_) (fun hc7=>?_)
  ·simp only [decide_eq_true_eq] at hc7
   refine zaq (zac (zas ?_))
   refine zac (zbb 22 (fun _=>mixed) (by kernel_rfl) ?_)
   refine ph_y (zaf rfl) ?_
   refine ph_y (zaf rfl) ?_
   refine ph_y (zdM (Tryz.underlying9) rfl rfl (by omega) (by omega)) ?_
   refine ph_y (zbw rfl rfl) ?_
   refine ph_y (zaf rfl) ?_
   refine zaz rfl rfl (fun hgd=>by(try rw [hgd]); exact(zaf rfl)) ?_
   refine zaz rfl rfl (fun hgd=>by(try rw [hgd]); exact(zaf rfl)) ?_
   refine zaz rfl rfl (fun hgd=>by(try rw [hgd]); exact(zdM (Tryz.underlying9) rfl rfl (by omega) (by omega))) ?_
   refine zaz rfl rfl (fun hgd=>by(try rw [hgd]); exact(zc6 rfl rfl)) ?_
   refine ph_y (zaR rfl rfl rfl) ?_
   refine ph_y (zaf rfl) ?_
   refine zaH rfl rfl (fun hgd=>by(try rw [hgd]); exact(zaf rfl)) ?_
   refine zaH rfl rfl (fun hgd=>by(try rw [hgd]); exact(zaf rfl)) ?_
   refine zaH rfl rfl (fun hgd=>by(try rw [hgd]); exact(zdM (Tryz.underlying9) rfl rfl (by omega) (by omega))) ?_
   refine zaH rfl rfl (fun hgd=>by(try rw [hgd]); exact(zbw rfl rfl)) ?_
   refine zaH rfl rfl (fun hgd=>by(try rw [hgd]); exact(zaf rfl)) ?_
   refine zc0 rfl rfl (fun hgd=>by(try rw [hgd]); exact(zaf rfl)) ?_
   refine zc0 rfl rfl (fun hgd=>by(try rw [hgd]); exact(zaf rfl)) ?_
   refine zc0 rfl rfl (fun hgd=>by(try rw [hgd]); exact(zdM (Tryz.underlying9) rfl rfl (by omega) (by omega))) ?_
   refine zc0 rfl rfl (fun hgd=>by(try rw [hgd]); exact(zc6 rfl rfl)) ?_
   refine zaH rfl rfl (fun hgd=>by(try rw [hgd]); exact(zaR rfl rfl rfl)) ?_
   refine ph_y (zaX rfl rfl rfl) ?_
   refine zag (zae (T':=[(0,_),(2,_),(3,_),(31,_)]) ⟨rfl,rfl,rfl,rfl,trivial⟩ ?_)
   refine zap rfl (fun hc31=>?_) (fun hc31=>?_)
   ·
    refine zac (zaa (gA ?_))
    refine zag (zae (T':=[(0,_),(2,_),(3,_)]) ⟨rfl,rfl,rfl,trivial⟩ ?_)
    refine zaw (zay (zaC rfl (zau rfl)) ?_)
    exact congrArg _ (zqB g0 (by omega) hc31).symm
   ·
    refine zaq (zaa (gM ?_))
    refine gQ (zaY rfl rfl (by omega) (by omega)) ?_
    refine gA ?_
    refine zag (zae (T':=[(0,_),(2,_),(3,_)]) ⟨rfl,rfl,rfl,trivial⟩ ?_)
    exact za1 _ ⟨rfl,rfl,rfl,trivial⟩ rfl ⟨by omega,by omega,fun j hj=>if h:(j:Int) < i then g2 j h else(by rw [show(j:Int)=i from by omega]; exact hc31)⟩ (by omega)
  ·simp only [decide_eq_false_iff_not] at hc7
   refine za8 rfl ?_
   refine zac (zbb 9 (fun _=>mixed) (by kernel_rfl) ?_)
   refine ph_y (zaf rfl) ?_
   refine ph_y (zeO (Tryz.underlying9) rfl) ?_
   refine ph_y (zfx rfl rfl) ?_
   refine ph_y (zaf rfl) ?_
   refine zaH rfl rfl (fun hgd=>by(try rw [hgd]); exact(zaf rfl)) ?_
   refine zaH rfl rfl (fun hgd=>by(try rw [hgd]); exact(zeO (Tryz.underlying9) rfl)) ?_
   refine zaH rfl rfl (fun hgd=>by(try rw [hgd]); exact(zeT rfl rfl)) ?_
   refine ph_y (zaX rfl rfl rfl) ?_
   refine ph_y (zad rfl) ?_
   refine zag (zae (T':=[(2,_)]) ⟨rfl,trivial⟩ ?_)
   refine zaw (zay (zaC rfl (zau rfl)) ?_)
   exact congrArg _ (zos g2 (by omega)).symm
set_option maxRecDepth 100000 in
set_option maxHeartbeats 1000000 in
theorem in_c (n lo hi:Int) (w:World)  :
  Calls Tryz.prog 52 #[.int .i64 n,.int .i64 lo,.int .i64 hi] w (Pure (.bool (inB n lo hi)) w):=by
 refine zan (vs:=[_,_,_]) Tryz.func52 rfl rfl (Nat.le_of_ble_eq_true rfl) ?_
 refine zac (zaa (gA ?_))
 refine zag (zae (T':=[(0,_),(1,_),(2,_),(6,_)]) ⟨rfl,rfl,rfl,rfl,trivial⟩ ?_)
 refine zac (zbb 9 (fun _=>mixed) (by kernel_rfl) ?_)
 refine ph_y (zaf rfl) ?_
 refine ph_y (zaf rfl) ?_
 refine ph_y (zfx rfl rfl) ?_
 refine ph_y (zaf rfl) ?_
 refine zaH rfl rfl (fun hgd=>by(try rw [hgd]); exact(zaf rfl)) ?_
 refine zaH rfl rfl (fun hgd=>by(try rw [hgd]); exact(zaf rfl)) ?_
 refine zaH rfl rfl (fun hgd=>by(try rw [hgd]); exact(zeT rfl rfl)) ?_
 refine ph_y (zaX rfl rfl rfl) ?_
 refine ph_y (zad rfl) ?_
 refine zag (zae (T':=[(6,_)]) ⟨rfl,trivial⟩ ?_)
 refine zaw (zay (zaC rfl (zau rfl)) ?_)
 rfl
set_option maxRecDepth 100000 in
set_option maxHeartbeats 1000000 in
theorem zlc (a:Option Addr) (cap:Nat) (l:List Lim) (f:Lim→Bool) (gg:FuncId) (gfs gcap:List Value) (w:World) (hl:Has w (zaW a 3 zgk l)) (hs:Small l.length) (M:World→Prop) (hM:∀ w',Ext w w'→M w') (hen:En Tryz.prog gg) (hg:∀ (z:Lim) w',M w'→Calls Tryz.prog gg (gfs++[Value.agg #[.int .i64 z.n,.int .i64 z.lo,.int .i64 z.hi]]++gcap).toArray w' (Pure (.bool (f z)) w')) :
  Calls Tryz.prog 105 #[.slice a l.length cap,.func (.func gg) gfs.toArray gcap.toArray] w (Pure (.int .i64 (zbJ f l)) w):=by
 refine zan (vs:=[_,_]) Tryz.func105 rfl rfl (Nat.le_of_ble_eq_true rfl) ?_
 refine zac (zaa (gA ?_))
 refine zag (zae (T':=[(0,_),(1,_),(4,_)]) ⟨rfl,rfl,rfl,trivial⟩ ?_)
 refine zac (zac (zaa (gM ?_)))
 refine gQ (zaV (Tryz.underlying148) rfl) ?_
 refine gM ?_
 refine zag (zae (T':=[(0,_),(1,_),(4,_),(7,_),(8,_)]) ⟨rfl,rfl,rfl,rfl,rfl,trivial⟩ ?_)
 refine zas ?_
 refine zbf (X:=Int) (fun(i:Int)=>[(0,.slice a l.length cap),(1,.func (.func gg) gfs.toArray gcap.toArray),(4,.int .i64 0),(7,.int .i64 (l.length:Int)),(8,.int .i64 i)]) (fun(i:Int)=>[]) (fun(i:Int)=>(0≤i∧i≤l.length∧∀ j:Nat,(j:Int) < i→f (l.getD j default)=false)) (fun(i:Int)=>(l.length - i).toNat) 0 ⟨rfl,rfl,rfl,rfl,rfl,trivial⟩ rfl ?_ ?_
 ·exact⟨by omega,by omega,fun j hj=>by omega⟩
 ·rintro i hI
  obtain⟨g0,g1,g2⟩:=hI
  refine zac (zaa (gk_y rfl rfl (zbw rfl rfl) ?_))
  refine zag (zae (T':=[(0,_),(1,_),(4,_),(7,_),(8,_),(9,_)]) ⟨rfl,rfl,rfl,rfl,rfl,rfl,trivial⟩ ?_)
  refine zac (zap rfl (fun hc9=>?_) (fun hc9=>?_))
  ·simp only [decide_eq_true_eq] at hc9
   refine zaq (zac (zas ?_))
   refine zac (zaa (gM ?_))
   refine gA ?_
   refine zag (zae (T':=[(0,_),(1,_),(4,_),(5,_),(7,_),(8,_)]) ⟨rfl,rfl,rfl,rfl,rfl,rfl,trivial⟩ ?_)
   refine zac (zaa (gM ?_))
   refine gM ?_
   refine gM ?_
   refine gQ (zaE zxw rfl rfl (fun _ hw=>(Rd.has (Has.rd hl) hw)) (by omega) (by omega)) ?_
   refine gQ (zbv (vs:=[_,_,_]) zxC rfl (fun _ hw=>(Rd.has (Has.rd hl) hw)) (by omega) (by omega) rfl) ?_
   refine gQ (zde (fs:=gfs) (cap:=gcap) hen rfl rfl (fun w hw=>hg (l.getD (i).toNat default) w (hM _ hw.base.ext0))) ?_
   refine zag (zae (T':=[(0,_),(1,_),(4,_),(5,_),(7,_),(8,_),(16,_)]) ⟨rfl,rfl,rfl,rfl,rfl,rfl,rfl,trivial⟩ ?_)
   refine zap rfl (fun hc16=>?_) (fun hc16=>?_)
   ·
    refine zac (zaa (gM ?_))
    refine gA ?_
    refine zag (zae (T':=[(0,_),(1,_),(4,_),(7,_),(8,_)]) ⟨rfl,rfl,rfl,rfl,rfl,trivial⟩ ?_)
    refine zaw (zay (zaC rfl (zau rfl)) ?_)
    exact congrArg _ (zcs g0 (by omega) g2 hc16).symm
   ·
    refine zaq (zaa (gk_y rfl rfl (zaY rfl rfl (by omega) (by omega)) ?_))
    refine gM ?_
    refine zag (zae (T':=[(0,_),(1,_),(4,_),(7,_),(8,_)]) ⟨rfl,rfl,rfl,rfl,rfl,trivial⟩ ?_)
    exact za1 _ ⟨rfl,rfl,rfl,rfl,rfl,trivial⟩ rfl ⟨by omega,by omega,fun j hj=>if h:(j:Int) < i then g2 j h else(by rw [show j=i.toNat from by omega]; exact hc16)⟩ (by omega)
  ·simp only [decide_eq_false_iff_not] at hc9
   refine za8 rfl ?_
   refine zac (zaa (gA ?_))
   refine zag (zae (T':=[(4,_)]) ⟨rfl,trivial⟩ ?_)
   refine zaw (zay (zaC rfl (zau rfl)) ?_)
   exact congrArg _ (zck (fun j hj=>g2 j (by omega))).symm
set_option maxRecDepth 100000 in
set_option maxHeartbeats 1000000 in
theorem zhQ (a:Option Addr) (cap:Nat) (l:List Lim) (f:Lim→Bool) (gg:FuncId) (gfs gcap:List Value) (w:World) (hl:Has w (zaW a 3 zgk l)) (hs:Small l.length) (M:World→Prop) (hM:∀ w',Ext w w'→M w') (hen:En Tryz.prog gg) (hg:∀ (z:Lim) w',M w'→Calls Tryz.prog gg (gfs++[Value.agg #[.int .i64 z.n,.int .i64 z.lo,.int .i64 z.hi]]++gcap).toArray w' (Pure (.bool (f z)) w')) :
  Calls Tryz.prog 80 #[.slice a l.length cap,.func (.func gg) gfs.toArray gcap.toArray] w (Pure (.bool (l.any f)) w):=by
 refine zan (vs:=[_,_]) Tryz.func80 rfl rfl (Nat.le_of_ble_eq_true rfl) ?_
 refine zac (zaa (gA ?_))
 refine zag (zae (T':=[(0,_),(1,_),(4,_)]) ⟨rfl,rfl,rfl,trivial⟩ ?_)
 refine zac (zaa (gM ?_))
 refine gM ?_
 refine gQ (zaJ zw0 rfl (fun w hw=>zlc _ _ l f _ _ _ w (Rd.has (Has.rd hl) hw) (by assumption) M (fun w' h=>hM w' (hw.base.ext0.trans h)) hen hg)) ?_
 refine gQ (zfx rfl rfl) ?_
 refine gA ?_
 refine zag (zae (T':=[(4,_)]) ⟨rfl,trivial⟩ ?_)
 refine zaw (zay (zaC rfl (zau rfl)) ?_)
 rw [ze9]
set_option maxRecDepth 100000 in
set_option maxHeartbeats 1000000 in
theorem zt7 (x:Lim) (w:World)  :
  Calls Tryz.prog 81 #[.agg #[.int .i64 x.n,.int .i64 x.lo,.int .i64 x.hi]] w (Pure (.bool (outB x)) w):=by
 refine zan (vs:=[_]) Tryz.func81 rfl rfl (Nat.le_of_ble_eq_true rfl) ?_
 refine zac (zaa (zaG rfl rfl (za3 (vs:=[_,_,_]) rfl rfl) fun b1=>?_))
 refine gA ?_
 refine zag (zae (T':=[(1,_),(2,_)]) ⟨rfl,rfl,trivial⟩ ?_)
 refine zac (zbb 13 (fun _=>mixed) (by kernel_rfl) ?_)
 refine ph_y (zab zpq rfl) ?_
 refine ph_y (zah 0 tf3 rfl rfl rfl) ?_
 refine ph_y (zab ztQ rfl) ?_
 refine ph_y (zah 0 tf3 rfl rfl rfl) ?_
 refine ph_y (zbw rfl rfl) ?_
 refine ph_y (zaf rfl) ?_
 refine zaz rfl rfl (fun hgd=>by(try rw [hgd]); exact(zab zpq rfl)) ?_
 refine zaz rfl rfl (fun hgd=>by(try rw [hgd]); exact(zah 0 tf3 rfl rfl rfl)) ?_
 refine zaz rfl rfl (fun hgd=>by(try rw [hgd]); exact(zab ztR rfl)) ?_
 refine zaz rfl rfl (fun hgd=>by(try rw [hgd]); exact(zah 0 tf3 rfl rfl rfl)) ?_
 refine zaz rfl rfl (fun hgd=>by(try rw [hgd]); exact(zc6 rfl rfl)) ?_
 refine ph_y (zaR rfl rfl rfl) ?_
 refine ph_y (zad rfl) ?_
 refine zag (zae (T':=[(2,_)]) ⟨rfl,trivial⟩ ?_)
 refine zaw (zay (zaC rfl (zau rfl)) ?_)
 rfl
set_option maxRecDepth 100000 in
set_option maxHeartbeats 1000000 in
theorem zfT (a:Option Addr) (cap:Nat) (l:List Lim) (w:World) (hl:Has w (zaW a 3 zgk l)) (hs:Small l.length) :
  Calls Tryz.prog 53 #[.slice a l.length cap] w (Pure (.bool (zhr l)) w):=by
 refine zan (vs:=[_]) Tryz.func53 rfl rfl (Nat.le_of_ble_eq_true rfl) ?_
 refine zac (zaa (gA ?_))
 refine zag (zae (T':=[(0,_),(2,_)]) ⟨rfl,rfl,trivial⟩ ?_)
 refine zac (zaa (gM ?_))
 refine gQ (zaJ en80 rfl (fun w hw=>zhQ _ _ l outB _ [] [] w (Rd.has (Has.rd hl) hw) (by assumption) (fun _=>True) (fun _ _=>trivial) en81 (fun z w _=>zt7 z w))) ?_
 refine gQ (zbR rfl) ?_
 refine gA ?_
 refine zag (zae (T':=[(2,_)]) ⟨rfl,trivial⟩ ?_)
 refine zaw (zay (zaC rfl (zau rfl)) ?_)
 rfl
set_option maxRecDepth 100000 in
set_option maxHeartbeats 1000000 in
theorem zlb (a:Option Addr) (cap:Nat) (l:List Int) (f:Int→Bool) (gg:FuncId) (gfs gcap:List Value) (w:World) (hl:Has w (zaW a 1 Go.Stn.encI l)) (hs:Small l.length) (M:World→Prop) (hM:∀ w',Ext w w'→M w') (hen:En Tryz.prog gg) (hg:∀ (z:Int) w',M w'→Calls Tryz.prog gg (gfs++[Value.int .i64 z]++gcap).toArray w' (Pure (.bool (f z)) w')) :
  Calls Tryz.prog 84 #[.slice a l.length cap,.func (.func gg) gfs.toArray gcap.toArray] w (Pure (.int .i64 (zbJ f l)) w):=by
 refine zan (vs:=[_,_]) Tryz.func84 rfl rfl (Nat.le_of_ble_eq_true rfl) ?_
 refine zac (zaa (gA ?_))
 refine zag (zae (T':=[(0,_),(1,_),(4,_)]) ⟨rfl,rfl,rfl,trivial⟩ ?_)
 refine zac (zac (zaa (gM ?_)))
 refine gQ (zaV (Tryz.underlying35) rfl) ?_
 refine gM ?_
 refine zag (zae (T':=[(0,_),(1,_),(4,_),(7,_),(8,_)]) ⟨rfl,rfl,rfl,rfl,rfl,trivial⟩ ?_)
 refine zas ?_
 refine zbf (X:=Int) (fun(i:Int)=>[(0,.slice a l.length cap),(1,.func (.func gg) gfs.toArray gcap.toArray),(4,.int .i64 0),(7,.int .i64 (l.length:Int)),(8,.int .i64 i)]) (fun(i:Int)=>[]) (fun(i:Int)=>(0≤i∧i≤l.length∧∀ j:Nat,(j:Int) < i→f (l.getD j default)=false)) (fun(i:Int)=>(l.length - i).toNat) 0 ⟨rfl,rfl,rfl,rfl,rfl,trivial⟩ rfl ?_ ?_
 ·exact⟨by omega,by omega,fun j hj=>by omega⟩
 ·rintro i hI
  obtain⟨g0,g1,g2⟩:=hI
  refine zac (zaa (gk_y rfl rfl (zbw rfl rfl) ?_))
  refine zag (zae (T':=[(0,_),(1,_),(4,_),(7,_),(8,_),(9,_)]) ⟨rfl,rfl,rfl,rfl,rfl,rfl,trivial⟩ ?_)
  refine zac (zap rfl (fun hc9=>?_) (fun hc9=>?_))
  ·simp only [decide_eq_true_eq] at hc9
   refine zaq (zac (zas ?_))
   refine zac (zaa (gM ?_))
   refine gA ?_
   refine zag (zae (T':=[(0,_),(1,_),(4,_),(5,_),(7,_),(8,_)]) ⟨rfl,rfl,rfl,rfl,rfl,rfl,trivial⟩ ?_)
   refine zac (zaa (gM ?_))
   refine gM ?_
   refine gM ?_
   refine gQ (zaE se35 rfl rfl (fun _ hw=>(Rd.has (Has.rd hl) hw)) (by omega) (by omega)) ?_
   refine gQ (zcE tf3 rfl (fun _ hw=>(Rd.has (Has.rd hl) hw)) (by omega) (by omega) rfl) ?_
   refine gQ (zde (fs:=gfs) (cap:=gcap) hen rfl rfl (fun w hw=>hg (l.getD (i).toNat default) w (hM _ hw.base.ext0))) ?_
   refine zag (zae (T':=[(0,_),(1,_),(4,_),(5,_),(7,_),(8,_),(16,_)]) ⟨rfl,rfl,rfl,rfl,rfl,rfl,rfl,trivial⟩ ?_)
   refine zap rfl (fun hc16=>?_) (fun hc16=>?_)
   ·
    refine zac (zaa (gM ?_))
    refine gA ?_
    refine zag (zae (T':=[(0,_),(1,_),(4,_),(7,_),(8,_)]) ⟨rfl,rfl,rfl,rfl,rfl,trivial⟩ ?_)
    refine zaw (zay (zaC rfl (zau rfl)) ?_)
    exact congrArg _ (zcs g0 (by omega) g2 hc16).symm
   ·
    refine zaq (zaa (gk_y rfl rfl (zaY rfl rfl (by omega) (by omega)) ?_))
    refine gM ?_
    refine zag (zae (T':=[(0,_),(1,_),(4,_),(7,_),(8,_)]) ⟨rfl,rfl,rfl,rfl,rfl,trivial⟩ ?_)
    exact za1 _ ⟨rfl,rfl,rfl,rfl,rfl,trivial⟩ rfl ⟨by omega,by omega,fun j hj=>if h:(j:Int) < i then g2 j h else(by rw [show j=i.toNat from by omega]; exact hc16)⟩ (by omega)
  ·simp only [decide_eq_false_iff_not] at hc9
   refine za8 rfl ?_
   refine zac (zaa (gA ?_))
   refine zag (zae (T':=[(4,_)]) ⟨rfl,trivial⟩ ?_)
   refine zaw (zay (zaC rfl (zau rfl)) ?_)
   exact congrArg _ (zck (fun j hj=>g2 j (by omega))).symm
set_option maxRecDepth 100000 in
set_option maxHeartbeats 1000000 in
theorem zhP (a:Option Addr) (cap:Nat) (l:List Int) (f:Int→Bool) (gg:FuncId) (gfs gcap:List Value) (w:World) (hl:Has w (zaW a 1 Go.Stn.encI l)) (hs:Small l.length) (M:World→Prop) (hM:∀ w',Ext w w'→M w') (hen:En Tryz.prog gg) (hg:∀ (z:Int) w',M w'→Calls Tryz.prog gg (gfs++[Value.int .i64 z]++gcap).toArray w' (Pure (.bool (f z)) w')) :
  Calls Tryz.prog 56 #[.slice a l.length cap,.func (.func gg) gfs.toArray gcap.toArray] w (Pure (.bool (l.any f)) w):=by
 refine zan (vs:=[_,_]) Tryz.func56 rfl rfl (Nat.le_of_ble_eq_true rfl) ?_
 refine zac (zaa (gA ?_))
 refine zag (zae (T':=[(0,_),(1,_),(4,_)]) ⟨rfl,rfl,rfl,trivial⟩ ?_)
 refine zac (zaa (gM ?_))
 refine gM ?_
 refine gQ (zaJ en84 rfl (fun w hw=>zlb _ _ l f _ _ _ w (Rd.has (Has.rd hl) hw) (by assumption) M (fun w' h=>hM w' (hw.base.ext0.trans h)) hen hg)) ?_
 refine gQ (zfx rfl rfl) ?_
 refine gA ?_
 refine zag (zae (T':=[(4,_)]) ⟨rfl,trivial⟩ ?_)
 refine zaw (zay (zaC rfl (zau rfl)) ?_)
 rw [ze9]
set_option maxRecDepth 100000 in
set_option maxHeartbeats 1000000 in
theorem zjL (h:Int) (w:World)  :
  Calls Tryz.prog 54 #[.int .i64 h] w (Pure (.bool (zgP h)) w):=by
 refine zan (vs:=[_]) Tryz.func54 rfl rfl (Nat.le_of_ble_eq_true rfl) ?_
 refine zac (zaa (gA ?_))
 refine zag (zae (T':=[(0,_),(2,_)]) ⟨rfl,rfl,trivial⟩ ?_)
 refine zac (zaa (gM ?_))
 refine gQ (zaI rfl (zaF _ _ _)) ?_
 refine zaG rfl rfl (zaD rfl (ztp _ _ _) zbM rfl) fun b5=>?_
 refine gQ (zaJ en53 rfl (fun w hw=>zfT _ _ ([(⟨h,1,1000⟩:Lim)]) w (zam zbM (hw.has (p:=0) rfl)) (by simp [Small]))) ?_
 refine gQ (zbR rfl) ?_
 refine gA ?_
 refine zag (zae (T':=[(2,_)]) ⟨rfl,trivial⟩ ?_)
 refine zaw (zay (zaC rfl (zau rfl)) ?_)
 rfl
set_option maxRecDepth 100000 in
set_option maxHeartbeats 1000000 in
theorem zmg (r:Int) (w:World)  :
  Calls Tryz.prog 151 #[.int .i32 r] w (Pure (.bool (oddN r)) w):=by
 refine zan (vs:=[_]) Tryz.func151 rfl rfl (Nat.le_of_ble_eq_true rfl) ?_
 refine zac (zaa (gA ?_))
 refine zag (zae (T':=[(0,_),(2,_)]) ⟨rfl,rfl,trivial⟩ ?_)
 refine zac (zbb 7 (fun _=>mixed) (by kernel_rfl) ?_)
 refine ph_y (zaf rfl) ?_
 refine ph_y (zbw rfl rfl) ?_
 refine ph_y (zaf rfl) ?_
 refine zaz rfl rfl (fun hgd=>by(try rw [hgd]); exact(zaf rfl)) ?_
 refine zaz rfl rfl (fun hgd=>by(try rw [hgd]); exact(zc6 rfl rfl)) ?_
 refine ph_y (zaR rfl rfl rfl) ?_
 refine ph_y (zad rfl) ?_
 refine zag (zae (T':=[(2,_)]) ⟨rfl,trivial⟩ ?_)
 refine zaw (zay (zaC rfl (zau rfl)) ?_)
 rfl
set_option maxRecDepth 100000 in
set_option maxHeartbeats 1000000 in
theorem zkA (a:Option Addr) (cap:Nat) (s:Sht) (z:Int) (w:World)  :
  Calls Tryz.prog 50 #[.agg #[.string s.name,.int .i64 s.base,.int .i64 s.batter,.int .i64 s.height,.int .i64 s.skin,.slice a s.heights.length cap,.int .i64 s.least,.int .i64 s.lap,.int .i64 s.run,.int .i64 s.every,.int .i64 s.at_,.int .i64 s.footing,.int .i64 s.spread,.int .u8 s.cope,.int .i64 s.tall,.int .i64 s.short,.int .i64 s.thick,.int .i64 s.low,.int .i64 s.high,.int .i64 s.rood],.int .i64 z] w (Pure (.int .i64 (zfv s z)) w):=by
 refine zan (vs:=[_,_]) Tryz.func50 rfl rfl (Nat.le_of_ble_eq_true rfl) ?_
 refine zac (zaa (zaG rfl rfl (za3 (vs:=[_,_,_,_,_,_,_,_,_,_,_,_,_,_,_,_,_,_,_,_]) rfl rfl) fun b2=>?_))
 refine gA ?_
 refine zag (zae (T':=[(1,_),(2,_),(4,_)]) ⟨rfl,rfl,rfl,trivial⟩ ?_)
 refine zac (zaa (gk_y rfl rfl (zab znc rfl) ?_))
 refine gQ (zah 0 tf3 rfl rfl rfl) ?_
 refine gQ (zab zpv rfl) ?_
 refine gQ (zah 0 tf3 rfl rfl rfl) ?_
 refine gM ?_
 refine gQ (zdv rfl rfl) ?_
 refine gQ (zoI rfl rfl (by omega)) ?_
 refine gQ (zdv rfl rfl) ?_
 refine gQ (ziW rfl rfl) ?_
 refine gA ?_
 refine zag (zae (T':=[(4,_)]) ⟨rfl,trivial⟩ ?_)
 refine zaw (zay (zaC rfl (zau rfl)) ?_)
 rfl
set_option maxRecDepth 100000 in
set_option maxHeartbeats 1000000 in
theorem zkn (a:Option Addr) (cap:Nat) (s:Sht) (z:Int) (w:World)  :
  Calls Tryz.prog 22 #[.agg #[.string s.name,.int .i64 s.base,.int .i64 s.batter,.int .i64 s.height,.int .i64 s.skin,.slice a s.heights.length cap,.int .i64 s.least,.int .i64 s.lap,.int .i64 s.run,.int .i64 s.every,.int .i64 s.at_,.int .i64 s.footing,.int .i64 s.spread,.int .u8 s.cope,.int .i64 s.tall,.int .i64 s.short,.int .i64 s.thick,.int .i64 s.low,.int .i64 s.high,.int .i64 s.rood],.int .i64 z] w (Pure (.int .i64 (zfv s z)) w):=by
 refine zan (vs:=[_,_]) Tryz.func22 rfl rfl (Nat.le_of_ble_eq_true rfl) ?_
 refine zac (zaa (zaG rfl rfl (za3 (vs:=[_,_,_,_,_,_,_,_,_,_,_,_,_,_,_,_,_,_,_,_]) rfl rfl) fun b2=>?_))
 refine gA ?_
 refine zag (zae (T':=[(1,_),(2,_),(4,_)]) ⟨rfl,rfl,rfl,trivial⟩ ?_)
 refine zac (zaa (gk_y rfl rfl (zab zna rfl) ?_))
 refine gQ (zah 0 tf3 rfl rfl rfl) ?_
 refine gQ (zab zps rfl) ?_
 refine gQ (zah 0 tf3 rfl rfl rfl) ?_
 refine gM ?_
 refine gQ (zdv rfl rfl) ?_
 refine gQ (zoI rfl rfl (by omega)) ?_
 refine gQ (zdv rfl rfl) ?_
 refine gQ (ziW rfl rfl) ?_
 refine gA ?_
 refine zag (zae (T':=[(4,_)]) ⟨rfl,trivial⟩ ?_)
 refine zaw (zay (zaC rfl (zau rfl)) ?_)
 rfl
set_option maxRecDepth 100000 in
set_option maxHeartbeats 1000000 in
theorem ztv (a:Option Addr) (cap:Nat) (s:Sht) (w:World)  :
  Calls Tryz.prog 57 #[.agg #[.string s.name,.int .i64 s.base,.int .i64 s.batter,.int .i64 s.height,.int .i64 s.skin,.slice a s.heights.length cap,.int .i64 s.least,.int .i64 s.lap,.int .i64 s.run,.int .i64 s.every,.int .i64 s.at_,.int .i64 s.footing,.int .i64 s.spread,.int .u8 s.cope,.int .i64 s.tall,.int .i64 s.short,.int .i64 s.thick,.int .i64 s.low,.int .i64 s.high,.int .i64 s.rood]] w (Pure (.bool (zgh s)) w):=by
 refine zan (vs:=[_]) Tryz.func57 rfl rfl (Nat.le_of_ble_eq_true rfl) ?_
 refine zac (zaa (zaG rfl rfl (za3 (vs:=[_,_,_,_,_,_,_,_,_,_,_,_,_,_,_,_,_,_,_,_]) rfl rfl) fun b1=>?_))
 refine gA ?_
 refine zag (zae (T':=[(1,_),(2,_)]) ⟨rfl,rfl,trivial⟩ ?_)
 refine zac (zac (zaa (gk_y rfl rfl (zab zjW rfl) ?_)))
 refine gQ (zah 0 tf5 rfl rfl rfl) ?_
 refine zag (zae (T':=[(1,_),(2,_),(4,_)]) ⟨rfl,rfl,rfl,trivial⟩ ?_)
 refine zas ?_
 refine zac (zaa (gk_y rfl rfl (zbL rfl rfl) ?_))
 refine gA ?_
 refine zag (zae (T':=[(1,_),(2,_),(4,_),(5,_)]) ⟨rfl,rfl,rfl,rfl,trivial⟩ ?_)
 refine zap rfl (fun hc5=>?_) (fun hc5=>?_)
 ·have h0:s.cope=0:=by simpa using hc5
  refine zac (zbb 14 (fun _=>mixed) (by kernel_rfl) ?_)
  refine ph_y (zab zfc rfl) ?_
  refine ph_y (zah 0 tf3 rfl rfl rfl) ?_
  refine ph_y (zbL rfl rfl) ?_
  refine ph_y (zaf rfl) ?_
  refine zaH rfl rfl (fun hgd=>by(try rw [hgd]); exact(zab zf1 rfl)) ?_
  refine zaH rfl rfl (fun hgd=>by(try rw [hgd]); exact(zah 0 tf3 rfl rfl rfl)) ?_
  refine zaH rfl rfl (fun hgd=>by(try rw [hgd]); exact(zbL rfl rfl)) ?_
  refine ph_y (zaX rfl rfl rfl) ?_
  refine ph_y (zaf rfl) ?_
  refine zaH rfl rfl (fun hgd=>by(try rw [hgd]); exact(zab zfd rfl)) ?_
  refine zaH rfl rfl (fun hgd=>by(try rw [hgd]); exact(zah 0 tf3 rfl rfl rfl)) ?_
  refine zaH rfl rfl (fun hgd=>by(try rw [hgd]); exact(zbL rfl rfl)) ?_
  refine ph_y (zaX rfl rfl rfl) ?_
  refine ph_y (zad rfl) ?_
  refine zag (zae (T':=[(2,_)]) ⟨rfl,trivial⟩ ?_)
  refine zaw (zay (zaC rfl (zau rfl)) ?_)
  rw [zgh,if_pos h0]
 ·have h0:¬ s.cope=0:=by simpa using hc5
  refine zac (zac (zaa (gk_y rfl rfl (zbL rfl rfl) ?_)))
  refine gA ?_
  refine zag (zae (T':=[(1,_),(2,_),(4,_),(20,_)]) ⟨rfl,rfl,rfl,rfl,trivial⟩ ?_)
  refine zap rfl (fun hc20=>?_) (fun hc20=>?_)
  ·
   refine zaq (zap rfl (fun hc20=>?_) (fun hc20=>?_))
   ·
    refine zac (zaa (gk_y rfl rfl (zab zfc rfl) ?_))
    refine gQ (zah 0 tf3 rfl rfl rfl) ?_
    refine gQ (zaI rfl (zaF _ _ _)) ?_
    refine gQ (zab zf1 rfl) ?_
    refine gQ (zah 0 tf3 rfl rfl rfl) ?_
    refine gQ (zaI rfl (zaF _ _ _)) ?_
    refine gQ (zab zfd rfl) ?_
    refine gQ (zah 0 tf3 rfl rfl rfl) ?_
    refine gQ (zaI rfl (zaF _ _ _)) ?_
    refine zaG rfl rfl (zaD rfl (zjJ _ _ _ _ _ _ _ _ _) zbM rfl) fun b32=>?_
    refine gQ (zaJ en53 rfl (fun w hw=>zfT _ _ ([(⟨s.tall,1,1000⟩:Lim),(⟨s.short,0,0⟩:Lim),(⟨s.thick,1,1000⟩:Lim)]) w (zam zbM (hw.has (p:=0) rfl)) (by simp [Small]))) ?_
    refine gA ?_
    refine zag (zae (T':=[(2,_)]) ⟨rfl,trivial⟩ ?_)
    refine zaw (zay (zaC rfl (zau rfl)) ?_)
    simp_all [zgh]
   ·
    refine zac (zaa (gk_y rfl rfl (zbL rfl rfl) ?_))
    refine gA ?_
    refine zag (zae (T':=[(1,_),(2,_),(34,_)]) ⟨rfl,rfl,rfl,trivial⟩ ?_)
    refine zap rfl (fun hc34=>?_) (fun hc34=>?_)
    ·have h3:s.cope=3:=by simpa using hc34
     refine zac (zaa (gk_y rfl rfl (zab zfc rfl) ?_))
     refine gQ (zah 0 tf3 rfl rfl rfl) ?_
     refine gQ (zaI rfl (zaF _ _ _)) ?_
     refine gQ (zab zf1 rfl) ?_
     refine gQ (zah 0 tf3 rfl rfl rfl) ?_
     refine gQ (zaI rfl (zaF _ _ _)) ?_
     refine gQ (zab zfd rfl) ?_
     refine gQ (zah 0 tf3 rfl rfl rfl) ?_
     refine gQ (zaI rfl (zaF _ _ _)) ?_
     refine zaG rfl rfl (zaD rfl (zjJ _ _ _ _ _ _ _ _ _) zbM rfl) fun b45=>?_
     refine gQ (zaJ en53 rfl (fun w hw=>zfT _ _ ([(⟨s.tall,1,1000⟩:Lim),(⟨s.short,1,1000⟩:Lim),(⟨s.thick,1,1000⟩:Lim)]) w (zam zbM (hw.has (p:=0) rfl)) (by simp [Small]))) ?_
     refine gA ?_
     refine zag (zae (T':=[(2,_)]) ⟨rfl,trivial⟩ ?_)
     refine zaw (zay (zaC rfl (zau rfl)) ?_)
     simp_all []
    ·have h3:¬ s.cope=3:=by simpa using hc34
     refine zaq (zac (zaa (gA ?_)))
     refine zag (zae (T':=[(2,_)]) ⟨rfl,trivial⟩ ?_)
     refine zaw (zay (zaC rfl (zau rfl)) ?_)
     simp_all []
  ·
   refine zaa (gk_y rfl rfl (zbL rfl rfl) ?_)
   refine gA ?_
   refine zag (zae (T':=[(1,_),(2,_),(4,_),(20,_)]) ⟨rfl,rfl,rfl,rfl,trivial⟩ ?_)
   refine zap rfl (fun hc20=>?_) (fun hc20=>?_)
   ·
    refine zac (zaa (gk_y rfl rfl (zab zfc rfl) ?_))
    refine gQ (zah 0 tf3 rfl rfl rfl) ?_
    refine gQ (zaI rfl (zaF _ _ _)) ?_
    refine gQ (zab zf1 rfl) ?_
    refine gQ (zah 0 tf3 rfl rfl rfl) ?_
    refine gQ (zaI rfl (zaF _ _ _)) ?_
    refine gQ (zab zfd rfl) ?_
    refine gQ (zah 0 tf3 rfl rfl rfl) ?_
    refine gQ (zaI rfl (zaF _ _ _)) ?_
    refine zaG rfl rfl (zaD rfl (zjJ _ _ _ _ _ _ _ _ _) zbM rfl) fun b32=>?_
    refine gQ (zaJ en53 rfl (fun w hw=>zfT _ _ ([(⟨s.tall,1,1000⟩:Lim),(⟨s.short,0,0⟩:Lim),(⟨s.thick,1,1000⟩:Lim)]) w (zam zbM (hw.has (p:=0) rfl)) (by simp [Small]))) ?_
    refine gA ?_
    refine zag (zae (T':=[(2,_)]) ⟨rfl,trivial⟩ ?_)
    refine zaw (zay (zaC rfl (zau rfl)) ?_)
    simp_all [zgh]
   ·
    refine zac (zaa (gk_y rfl rfl (zbL rfl rfl) ?_))
    refine gA ?_
    refine zag (zae (T':=[(1,_),(2,_),(34,_)]) ⟨rfl,rfl,rfl,trivial⟩ ?_)
    refine zap rfl (fun hc34=>?_) (fun hc34=>?_)
    ·have h3:s.cope=3:=by simpa using hc34
     refine zac (zaa (gk_y rfl rfl (zab zfc rfl) ?_))
     refine gQ (zah 0 tf3 rfl rfl rfl) ?_
     refine gQ (zaI rfl (zaF _ _ _)) ?_
     refine gQ (zab zf1 rfl) ?_
     refine gQ (zah 0 tf3 rfl rfl rfl) ?_
     refine gQ (zaI rfl (zaF _ _ _)) ?_
     refine gQ (zab zfd rfl) ?_
     refine gQ (zah 0 tf3 rfl rfl rfl) ?_
     refine gQ (zaI rfl (zaF _ _ _)) ?_
     refine zaG rfl rfl (zaD rfl (zjJ _ _ _ _ _ _ _ _ _) zbM rfl) fun b45=>?_
     refine gQ (zaJ en53 rfl (fun w hw=>zfT _ _ ([(⟨s.tall,1,1000⟩:Lim),(⟨s.short,1,1000⟩:Lim),(⟨s.thick,1,1000⟩:Lim)]) w (zam zbM (hw.has (p:=0) rfl)) (by simp [Small]))) ?_
     refine gA ?_
     refine zag (zae (T':=[(2,_)]) ⟨rfl,trivial⟩ ?_)
     refine zaw (zay (zaC rfl (zau rfl)) ?_)
     simp_all [zgh]
    ·have h3:¬ s.cope=3:=by simpa using hc34
     refine zaq (zac (zaa (gA ?_)))
     refine zag (zae (T':=[(2,_)]) ⟨rfl,trivial⟩ ?_)
     refine zaw (zay (zaC rfl (zau rfl)) ?_)
     simp_all [zgh]
end Go.Proofs.YtdcfcfhmkfkgmaaGreatDoor