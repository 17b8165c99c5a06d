/- What the proof of the root text leans on, part 3: the layer, plain facts and walks. No statement of the seat is proved in this text. -/
import Derived.Shelf.SlSortCmp.NoneTotal
import Derived.Test.YtdcfcfhmkfkgmaaGreatDoorPc2
namespace Go.Pln
open Go Go.K Go.RowKit Go.Stn
theorem of_nf {b:Bool} (h:(!b)=false):b=true:=by simpa using h
theorem of_nt {b:Bool} (h:(!b)=true):b=false:=by simpa using h
def sheetP (s:Sht):Bool:=!badP s&&(decide (1≤widthI s s.height)&&decide ((coursesL s).length≤100))
def checkP (s:Sht):Int:=if sheetP s=true then 0 else 2
theorem sheetP_nums {s:Sht} (h:sheetP s=true):Nums s:=by
 unfold sheetP at h
 simp only [Bool.and_eq_true,Bool.not_eq_true'] at h
 exact nums_ok h.1
theorem sheetP_courses {s:Sht} (h:sheetP s=true):(coursesL s).length≤100:=by
 unfold sheetP at h
 simp only [Bool.and_eq_true,decide_eq_true_eq] at h
 exact h.2.2
theorem sheetP_width {s:Sht} (h:sheetP s=true):1≤widthI s s.height:=by
 unfold sheetP at h
 simp only [Bool.and_eq_true,decide_eq_true_eq] at h
 exact h.2.1
theorem check_bad {s:Sht} (h:badP s=true):checkP s=2:=by
 unfold checkP sheetP
 rw [h]; rfl
theorem check_wid {s:Sht} (h:badP s=false) (hw:widthW s s.height < 1):checkP s=2:=by
 have hn:=nums_ok h
 rw [width_eq hn.batter hn.base (by have:=hn.height; omega) (by have:=hn.height; omega)] at hw
 unfold checkP sheetP
 rw [h,decide_eq_false (show ¬ 1≤widthI s s.height by omega)]; rfl
theorem check_len {s:Sht} (h:badP s=false) (hw:¬ widthW s s.height < 1):checkP s=if 100 < (coursesL s).length then 2 else 0:=by
 have hn:=nums_ok h
 rw [width_eq hn.batter hn.base (by have:=hn.height; omega) (by have:=hn.height; omega)] at hw
 unfold checkP sheetP
 rw [h,decide_eq_true (show 1≤widthI s s.height by omega)]
 by_cases hl:(coursesL s).length≤100
 ·rw [decide_eq_true hl,if_neg (show ¬ 100 < (coursesL s).length by omega)]; rfl
 ·rw [decide_eq_false hl,if_pos (show 100 < (coursesL s).length by omega)]; rfl
theorem through_a {s:Sht} (h9:decide (s.every=0)=true) (h14:decide (s.at_=0)=true):true=throughP s:=by unfold throughP; rw [h9,h14]; rfl
theorem through_b {s:Sht} (h14:decide (s.at_=0)=false):keptB [⟨s.every,1,100000⟩,⟨s.at_,0,3000⟩]=throughP s:=by unfold throughP; rw [h14,Bool.and_false]; rfl
theorem through_c {s:Sht} (h9:decide (s.every=0)=false):keptB [⟨s.every,1,100000⟩,⟨s.at_,0,3000⟩]=throughP s:=by unfold throughP; rw [h9]; rfl
theorem badP_no {s:Sht} (h1:(!namedB s.name)=false) (h2:(!throughP s)=false) (h3:(!numbersP s)=false) (h4:s.heights.any wrongP=false) (h5:(!copedP s)=false):badP s=false:=by
 unfold badP; rw [h1,h2,h3,h4,h5]; rfl
theorem badP_1 {s:Sht} (h:(!namedB s.name)=true):badP s=true:=by unfold badP; rw [h]; rfl
theorem badP_2 {s:Sht} (h:(!throughP s)=true):badP s=true:=by unfold badP; rw [h]; simp
theorem badP_3 {s:Sht} (h:(!numbersP s)=true):badP s=true:=by unfold badP; rw [h]; simp
theorem badP_4 {s:Sht} (h:s.heights.any wrongP=true):badP s=true:=by unfold badP; rw [h]; simp
theorem badP_5 {s:Sht} (h:(!copedP s)=true):badP s=true:=by unfold badP; rw [h]; simp
theorem each_of {s:Sht} (h:Nums s) (i:Nat):1≤heightAt s i∧heightAt s i≤1000:=by
 refine⟨heightAt_in (by have:=h.len; omega) (fun x hx=>(h.each x hx).1) i,?_⟩
 unfold heightAt
 have:min i (s.heights.length - 1) < s.heights.length:=by have:=h.len; omega
 rw [List.getD_eq_getElem?_getD,List.getElem?_eq_getElem this]
 exact(h.each _ (List.getElem_mem this)).2
theorem zAt_nonneg {s:Sht} (h:Nums s) (n:Nat):0≤zAt s n:=by
 have:=zAt_ge (fun i=>(each_of h i).1) n
 omega
theorem minat {s:Sht} (h:1≤s.heights.length) (n:Nat):s.heights.getD (min (n:Int) ((s.heights.length:Int) - 1)).toNat default=heightAt s n:=by
 unfold heightAt
 rw [show(min (n:Int) ((s.heights.length:Int) - 1)).toNat=min n (s.heights.length - 1) by omega]
theorem under_yes {s:Sht} {n:Nat} (h:zAt s n+heightAt s n≤s.height):under s n=true:=decide_eq_true h
theorem under_no {s:Sht} {n:Nat} (h:¬ zAt s n+heightAt s n≤s.height):under s n=false:=decide_eq_false h
theorem under_succ {s:Sht} {n:Nat} (hu:∀ j,j < n→under s j=true) (h:under s n=true):∀ j,j < n+1→under s j=true:=fun j hj=>by
 rcases Nat.lt_or_eq_of_le (Nat.le_of_lt_succ hj) with g | rfl
 ·exact hu j g
 ·exact h
theorem cnt_at {s:Sht} {n:Nat} (hn:Nums s) (hu:∀ j,j < n→under s j=true) (hb:¬ zAt s n+heightAt s n≤s.height):cnt s=n:=cnt_of (fun i=>(each_of hn i).1) (under_no hb) hu
theorem last_getD {s:Sht} {L:List Crs} {n:Nat} (hL:L=crsN s n) (h:1≤L.length):((L.length:Int) - 1).toNat=n - 1:=by
 rw [hL,crsN_len] at h ⊢
 omega
theorem crs_len_le {s:Sht} (hn:Nums s) {n:Nat} (hu:∀ j,j < n→under s j=true):n≤3000:=by
 have:=round_le (fun i=>(each_of hn i).1) (by have:=hn.height; omega) hu
 have:=hn.height
 omega
theorem below_nat {f:Nat→Bool} {i:Int} (h0:0≤i) (h:∀ j:Nat,(j:Int) < i→f j=false) (hi:f i.toNat=false):∀ j:Nat,(j:Int) < i+1→f j=false:=fun j hj=>by
 rcases Int.lt_or_eq_of_le (show(j:Int)≤i by omega) with g | g
 ·exact h j g
 ·rw [show j=i.toNat from by omega]; exact hi
theorem getD_memS {α:Type} [Inhabited α] {l:List α} {i:Nat} (h:i < l.length):l.getD i default∈l:=by simp [h]
def v1 (s:Sht):Bool:=!rnamedB s.name||!inB s.base 1 3000||!inB s.batter 0 500||!inB s.height 1 3000||!inB s.skin 1 1500||!inB (s.heights.length:Int) 1 12
def v2 (s:Sht):Bool:=!inB s.least 1 1000||!inB s.lap 0 500||!inB s.run 1 20||!inB s.footing 0 1000||!inB s.spread 0 1000
def v3 (s:Sht):Bool:=!(decide (s.every=0)&&decide (s.at_=0))&&!(inB s.every 1 100000&&inB s.at_ 0 3000)
def v4 (s:Sht):Bool:=!inB s.high 0 2000||!inB s.low 0 s.high||!inB s.rood 1 100000||decide (3 < s.cope)
def v5 (s:Sht):Bool:=decide (s.cope=0)&&(!decide (s.tall=0)||!decide (s.short=0)||!decide (s.thick=0))
def v6 (s:Sht):Bool:=!decide (s.cope=0)&&(!inB s.tall 1 1000||!inB s.thick 1 1000)
def v7 (s:Sht):Bool:=decide (s.cope=3)&&!inB s.short 1 1000||!decide (s.cope=3)&&!decide (s.short=0)
def v0 (s:Sht):Bool:=!s.heights.all (fun h=>inB h 1 1000)
theorem coped_ref (s:Sht):copedB s = !(decide (3 < s.cope)||v5 s||v6 s||v7 s):=by
 unfold copedB v5 v6 v7
 by_cases h0:s.cope=0
 ·rw [if_pos h0,decide_eq_true h0,decide_eq_false (show ¬ 3 < s.cope by omega),decide_eq_false (show ¬ s.cope=3 by omega)]
  cases decide (s.tall=0) <;> cases decide (s.short=0) <;> cases decide (s.thick=0) <;> rfl
 ·rw [if_neg h0,decide_eq_false h0]
  by_cases h3:s.cope=3
  ·rw [if_pos h3,decide_eq_true h3,decide_eq_false (show ¬ 3 < s.cope by omega),decide_eq_true (show s.cope≤3 by omega)]
   cases inB s.tall 1 1000 <;> cases inB s.short 1 1000 <;> cases inB s.thick 1 1000 <;> rfl
  ·rw [if_neg h3,decide_eq_false h3]
   by_cases h4:3 < s.cope
   ·rw [decide_eq_true h4,decide_eq_false (show ¬ s.cope≤3 by omega)]; simp
   ·rw [decide_eq_false h4,decide_eq_true (show s.cope≤3 by omega)]
    cases inB s.tall 1 1000 <;> cases decide (s.short=0) <;> cases inB s.thick 1 1000 <;> rfl
theorem through_ref (s:Sht):throughB s = !v3 s:=by
 unfold throughB v3
 cases (decide (s.every=0)&&decide (s.at_=0)) <;> cases (inB s.every 1 100000&&inB s.at_ 0 3000) <;> rfl
theorem badP_ref {s:Sht} (hco:0≤s.cope):badP s=(v1 s||v0 s||v2 s||v3 s||v4 s||v5 s||v6 s||v7 s):=by
 unfold badP
 rw [through_iff,numbers_iff,wrongs_iff,coped_iff hco,named_eq,coped_ref,through_ref]
 unfold v1 v2 v4 v0 numbersB
 rw [Bool.eq_iff_iff]
 simp only [Bool.or_eq_true,Bool.not_eq_true',Bool.and_eq_false_iff,Bool.not_eq_false']
 grind
theorem sheetP_bad {s:Sht} (h:badP s=true):sheetP s=false:=by unfold sheetP; rw [h]; rfl
theorem v0_true {s:Sht} {i:Int} (h0:0≤i) (h1:i < (s.heights.length:Int)) (h:(!inB (s.heights.getD i.toNat default) 1 1000)=true):v0 s=true:=by
 unfold v0
 cases hb:s.heights.all (fun h=>inB h 1 1000) with
 | false=>rfl
 | true=>
  rw [List.all_eq_true] at hb
  rw [hb _ (getD_memS (by omega))] at h
  exact h
theorem v0_false {s:Sht} {i:Int} (h1:¬ i < (s.heights.length:Int)) (h:∀ j:Nat,(j:Int) < i→(!inB (s.heights.getD j default) 1 1000)=false):v0 s=false:=by
 unfold v0
 rw [Bool.not_eq_false',List.all_eq_true]
 intro x hx
 obtain⟨j,hj,rfl⟩:=List.getElem_of_mem hx
 have:=h j (by omega)
 simpa [hj] using this
theorem badP_all {s:Sht} (hco:0≤s.cope) (h1:v1 s=false) (h0:v0 s=false) (h2:v2 s=false) (h3:v3 s=false) (h4:v4 s=false) (h5:v5 s=false) (h6:v6 s=false) (h7:v7 s=false):badP s=false:=by
 rw [badP_ref hco,h1,h0,h2,h3,h4,h5,h6,h7]; rfl
theorem sheet_end {s:Sht} (h:badP s=false):sheetP s=(decide (1≤widthW s s.height)&&decide (((coursesL s).length:Int)≤100)):=by
 have hn:=nums_ok h
 rw [width_eq hn.batter hn.base (by have:=hn.height; omega) (by have:=hn.height; omega)]
 unfold sheetP
 rw [h,Bool.eq_iff_iff]
 simp only [Bool.not_false,Bool.true_and,Bool.and_eq_true,decide_eq_true_eq]
 omega
end Go.Pln
namespace Go.K
open Go Go.RowKit
theorem Ext.grown {w w':World} (h:Ext w w'):∃ q os',w' = Go.Sort.grow (w.drewN q) os':=by
 refine⟨w'.drawn - w.drawn,w'.heap.extract w.heap.size w'.heap.size,?_⟩
 obtain⟨heap,tape,drawn,os,output⟩:=w
 obtain⟨heap',tape',drawn',os',output'⟩:=w'
 have h1:os' = os:=h.os
 have h2:tape' = tape:=h.tape.eq
 have h3:output' = output:=h.output
 have h4:drawn≤drawn':=h.tape.le
 have h5:heap.size≤heap'.size:=h.size
 have h6:∀ k,k < heap.size→heap'[k]?=heap[k]?:=h.block
 subst h1 h2 h3
 show(⟨heap',tape',drawn',os',output'⟩:World)=⟨heap++heap'.extract heap.size heap'.size,tape',drawn+(drawn' - drawn),os',output'⟩
 congr 1
 ·apply Array.ext_getElem?
  intro k
  rw [Array.getElem?_append]
  split
  ·rename_i hk; exact h6 k hk
  ·rename_i hk
   rw [Array.getElem?_extract]
   by_cases hk2:k < heap'.size
   ·rw [if_pos (by omega)]; congr 1; omega
   ·rw [if_neg (by omega),Array.getElem?_eq_none (by omega)]
 ·omega
section
variable {α:Type} [Inhabited α] {k:Nat} {enc:α→List Value}
theorem flatK_list (he:Enc k enc) (hk:0 < k) (l:List α) (t:Nat) (ht:t < l.length*k):(l.flatMap enc)[t]?=some ((Go.Sort.flatK enc k l.toArray)[t]!):=by
 have hi:t / k < l.length:=Nat.div_lt_of_lt_mul (by rwa [Nat.mul_comm])
 have h:=flat_get he l (t / k) l[t / k] (List.getElem?_eq_getElem hi)
 have hm:t % k < k:=Nat.mod_lt _ hk
 have e1:t=t / k*k+t % k:=by rw [Nat.mul_comm]; exact(Nat.div_add_mod t k).symm
 have h2:=congrArg (fun z=>z[t % k]?) h
 simp only [List.getElem?_take,if_pos hm,List.getElem?_drop,←e1] at h2
 rw [h2,Go.Sort.get_flatK _ _ _ _ (by simpa using ht)]
 have e2:l.toArray[t / k]! = l[t / k]:=by simp [hi]
 have hl:t % k < (enc l[t / k]).length:=by rw [he.len]; exact hm
 rw [e2,List.getElem?_eq_getElem hl,List.getElem!_eq_getElem?_getD,List.getElem?_eq_getElem hl]; rfl
theorem holds_row (he:Enc k enc) (hk:0 < k) {w:World} {b off:Nat} {cs:List Value} {e:TypeId} {l:List α} (hb:w.heap[b]?=some (.cells cs.toArray e (0,0))) (h3:(cs.drop off).take (l.length*k)=l.flatMap enc) :
  Go.Sort.HoldsK enc k w b off l.toArray:=by
 intro j hj
 rw [Go.Sort.size_flatK] at hj
 have hj':j < l.length*k:=by simpa using hj
 refine⟨?_,?_⟩
 ·rw [row_cells hb]
  have h:=flatK_list he hk l j hj'
  rw [←h3,List.getElem?_take,if_pos hj',List.getElem?_drop] at h
  exact h
 ·unfold World.frozen?
  rw [hb]
  simp
theorem row_sorted (he:Enc k enc) (hk:0 < k) {w:World} {B:Nat→Prop} {a:Option Addr} {b off cap n:Nat} {cs:List Value} {e:TypeId} {l m:List α} {os:Array Obj} (hml:m.length=l.length) (hBl:∀ i,B i→i < w.heap.size) (ha:a=some ⟨b,off,none⟩) (hB:∀ j,B j↔j=b)
  (hb:w.heap[b]?=some (.cells cs.toArray e (0,0))) (h1:l.length≤cap) (h2:off+cap*k≤cs.length) :
  Mod B w (Go.Proofs.sortWorldK enc k w b off n m.toArray os)∧(Row a k cap e enc m).A B (Go.Proofs.sortWorldK enc k w b off n m.toArray os):=by
 have hbl:b < w.heap.size:=hBl b ((hB b).2 rfl)
 have hh:∀ i,i < w.heap.size→(Go.Proofs.sortWorldK enc k w b off n m.toArray os).heap[i]?=if i=b then some (.cells (Go.Sort.putCells id off (Go.Sort.flatK enc k m.toArray) cs.toArray) e (0,0)) else w.heap[i]?:=fun i hi=>by
  show(w.heap.modify b (Go.Sort.onCells (Go.Sort.putCells id off (Go.Sort.flatK enc k m.toArray)))++os)[i]?=_
  rw [Array.getElem?_append,if_pos (by simpa using hi),Array.getElem?_modify]
  by_cases hib:i=b
  ·rw [if_pos hib.symm,if_pos hib,hib,hb]; rfl
  ·rw [if_neg (fun h=>hib h.symm),if_neg hib]
 refine⟨⟨rfl,⟨rfl,Nat.le_add_right _ _⟩,rfl,?_,fun i hi hnb=>?_⟩,?_⟩
 ·show w.heap.size≤(w.heap.modify b _++os).size
  simp
 ·rw [hh i hi,if_neg (fun h=>hnb ((hB i).2 h))]
 ·refine .inr ⟨b,off,(Go.Sort.putCells id off (Go.Sort.flatK enc k m.toArray) cs.toArray).toList,ha,hB,by rw [hh b hbl,if_pos rfl,Array.toArray_toList],by omega,?_,?_⟩
  ·unfold Go.Sort.putCells
   simpa using h2
  ·have hle:m.length*k≤cap*k:=Nat.mul_le_mul_right _ (by omega)
   apply List.ext_getElem?
   intro t
   by_cases ht:t < m.length*k
   ·rw [List.getElem?_take,if_pos ht,List.getElem?_drop,flatK_list he hk m t ht]
    unfold Go.Sort.putCells
    rw [Array.getElem?_toList,Array.getElem?_mapIdx,Array.getElem?_eq_getElem (by simp; omega),Option.map_some,if_pos ⟨by omega,by rw [Go.Sort.size_flatK]; simp; omega⟩,show off+t - off=t from by omega]; rfl
   ·rw [List.getElem?_eq_none (by simp; omega),List.getElem?_eq_none (by rw [flat_len he]; omega)]
end
end Go.K
namespace Go.K
open Go Go.RowKit
theorem three (cs:List Value) (q k:Nat):cs=cs.take q++(cs.drop q).take k++cs.drop (q+k):=by
 rw [List.append_assoc,←List.drop_drop,List.take_append_drop,List.take_append_drop]
theorem over_part {A old C vs:List Value} {f:Nat} (hf:f+vs.length≤old.length):over (A++old++C) (A.length+f) vs=over (A++old++C) A.length (old.take f++vs++old.drop (f+vs.length)):=by
 rw [over_eq _ _ _ (by simp only [List.length_append]; omega),over_eq _ _ _ (by simp only [List.length_append,List.length_take,List.length_drop]; omega)]
 have e1:(A++old++C).take (A.length+f)=A++old.take f:=by
  rw [List.append_assoc,List.take_append,List.take_of_length_le (by omega),Nat.add_sub_cancel_left,List.take_append,show f - old.length=0 from by omega,List.take_zero,List.append_nil]
 have e2:(A++old++C).drop (A.length+f+vs.length)=old.drop (f+vs.length)++C:=by
  rw [List.append_assoc,List.drop_append,List.drop_of_length_le (by omega),List.nil_append,show A.length+f+vs.length - A.length=f+vs.length from by omega,List.drop_append,show f+vs.length - old.length=0 from by omega,List.drop_zero]
 have e3:(A++old++C).take A.length=A:=by rw [List.append_assoc,List.take_left]
 have e4:(A++old++C).drop (A.length+(old.take f++vs++old.drop (f+vs.length)).length)=C:=by
  rw [show(old.take f++vs++old.drop (f+vs.length)).length=old.length from by simp only [List.length_append,List.length_take,List.length_drop]; omega,←List.length_append,List.drop_left]
 rw [e1,e2,e3,e4]
 simp only [List.append_assoc]
section
variable {α:Type} [Inhabited α] {k:Nat} {enc:α→List Value} {c:Cx} {ds:List Deferred} {T:List (Nat×Value)} {H:List Res} {p:Post} {ops:Array Oper} {rest:List Oper} {x y:Operand} {v:Value} {ty:TypeId} {ps:String} {af:Array Edge}
theorem gk_storeEF {t e:TypeId} {gg:Bool} {zz:Value} {a:Option Addr} {cap kv f:Nat} {l:List α} {ix:Int} {vs:List Value} {x':α} (i:Nat) (he:Enc k enc) (ht:TF c.P t gg kv zz) (hx:evo T x=some (epx a (ix.toNat*k+f))) (hy:evo T y=some v)
  (hv:v.cells=vs.toArray) (hvl:vs.length=kv) (hfk:f+kv≤k) (hxx:enc x' = (enc (l.getD ix.toNat default)).take f++vs++(enc (l.getD ix.toNat default)).drop (f+vs.length)) (hi:H[i]?=some (Row a k cap e enc l)) (h0:0≤ix) (h1:ix < (l.length:Int))
  (kk:GK c ds (KL c ops p rest) T (H.set i (Row a k cap e enc (l.set ix.toNat x')))):GK c ds (KL c ops p (⟨none,.store t x y,ty,ps,af,none⟩ :: rest)) T H:=by
 refine gk_heap rfl (fun A w ha hw=>?_) kk
 obtain⟨B,hF⟩:=hw.foc hi
 have hlt:ix.toNat < l.length:=by omega
 rcases hF.A with ⟨_,_,rfl⟩ | ⟨b,off,cs,hab,hB,hbk,g1,g2,g3⟩
 ·simp at hlt
 subst hab
 have hone:vs.all cell1=true:=by
  have:=he.one x'
  rw [hxx,List.all_append,List.all_append,Bool.and_eq_true,Bool.and_eq_true] at this
  exact this.1.2
 have hkk:(ix.toNat+1)*k≤cap*k:=Nat.mul_le_mul_right _ (by omega)
 rw [Nat.add_mul,Nat.one_mul] at hkk
 obtain⟨w',hr,hm,hb'⟩:=run_storeCells (P:=c.P) (o:=off+(ix.toNat*k+f)) vs cs 0 w hbk (by omega) hone
 have hrun:(execOp A.eval ⟨none,.store t x y,ty,ps,af,none⟩).run c.P w=.ok .skip w':=by
  simp only [execOp,ha.eval hx,ha.eval hy,epx,Option.map_some,addr_add]
  have h3:(Instr.storeAt t (.pointer (some ⟨b,off+(ix.toNat*k+f),none⟩)) v).run c.P w=.ok () w':=by
   unfold Instr.storeAt
   rw [run_bind_ok (v:=⟨b,off+(ix.toNat*k+f),none⟩) (w':=w) rfl]
   unfold storeVar
   rw [run_bind_ok ht.size]
   have:v.cells.size=kv:=by rw [hv]; simpa using hvl
   simp only [this,ne_eq,not_true_eq_false,if_false]
   rw [hv]
   exact hr
  rw [run_bind_ok h3]
  rfl
 unfold Yld
 rw [hrun]
 have hold:l[ix.toNat]?=some (l.getD ix.toNat default):=elems_index h0 h1
 have hcell:(cs.drop (off+ix.toNat*k)).take k=enc (l.getD ix.toNat default):=by
  have h:=flat_get he l ix.toNat _ hold
  have hik:(ix.toNat+1)*k≤l.length*k:=Nat.mul_le_mul_right _ hlt
  rw [Nat.add_mul,Nat.one_mul] at hik
  rw [←g3,List.drop_take,List.take_take,Nat.min_eq_left (by omega),List.drop_drop] at h
  exact h
 have hol:(enc (l.getD ix.toNat default)).length=k:=he.len _
 have hcs:cs=cs.take (off+ix.toNat*k)++enc (l.getD ix.toNat default)++cs.drop (off+ix.toNat*k+k):=by
  rw [←hcell]; exact three cs _ _
 have hpl:(cs.take (off+ix.toNat*k)).length=off+ix.toNat*k:=by rw [List.length_take]; omega
 have hov:over cs (off+(ix.toNat*k+f)) vs=over cs (off+ix.toNat*k) (enc x'):=by
  have h:=over_part (A:=cs.take (off+ix.toNat*k)) (old:=enc (l.getD ix.toNat default)) (C:=cs.drop (off+ix.toNat*k+k)) (vs:=vs) (f:=f) (by rw [hol]; omega)
  rw [←hcs,hpl,←hxx] at h
  rw [←Nat.add_assoc]
  exact h
 rw [Nat.add_zero,hov] at hb'
 have hxl:(enc x').length=k:=he.len x'
 refine hF.upd hi ⟨hm.os,hm.tape,hm.output,hm.size,fun j hj hbj=>hm.same j hj (fun h=>hbj ((hB j).2 h))⟩ (fun j hj=>.inl hj) (.inr ⟨b,off,over cs (off+ix.toNat*k) (enc x'),rfl,hB,hb',by simpa using g1,by rw [over_length]; exact g2,?_⟩)
 rw [List.length_set,over_eq (enc x') cs _ (by omega),hxl]
 have hll:l.length*k≤cap*k:=Nat.mul_le_mul_right _ g1
 have hik:ix.toNat*k+k≤l.length*k:=by
  have:(ix.toNat+1)*k≤l.length*k:=Nat.mul_le_mul_right _ hlt
  rwa [Nat.add_mul,Nat.one_mul] at this
 have e1:(cs.take (off+ix.toNat*k)).drop off=(l.take ix.toNat).flatMap enc:=by
  rw [List.drop_take,Nat.add_sub_cancel_left,←flat_take he (by omega),←g3,List.take_take,Nat.min_eq_left (by omega)]
 have hAl:((l.take ix.toNat).flatMap enc).length=ix.toNat*k:=by rw [flat_len he,List.length_take,Nat.min_eq_left (by omega)]
 have e2:(cs.take (off+ix.toNat*k)++enc x' ++ cs.drop (off+ix.toNat*k+k)).drop off=(l.take ix.toNat).flatMap enc++(enc x' ++ cs.drop (off+ix.toNat*k+k)):=by
  rw [List.append_assoc,List.drop_append_of_le_length (by rw [List.length_take]; omega),e1]
 rw [e2,List.take_append,hAl,List.take_of_length_le (l:=(l.take ix.toNat).flatMap enc) (by rw [hAl]; omega),List.take_append,hxl,List.take_of_length_le (l:=enc x') (by rw [hxl]; omega)]
 have e3:(cs.drop (off+ix.toNat*k+k)).take (l.length*k - ix.toNat*k - k)=(l.drop (ix.toNat+1)).flatMap enc:=by
  rw [←flat_drop he (by omega),←g3,List.drop_take,List.drop_drop,Nat.add_mul,Nat.one_mul]
  congr 1
  ·omega
  ·rw [Nat.add_assoc]
 rw [e3,List.set_eq_take_append_cons_drop,if_pos hlt,List.flatMap_append,List.flatMap_cons]
end
end Go.K
namespace Go.Proofs.YtdcfcfhmkfkgmaaGreatDoor
open Go.K Go.Stn Go.Pln Go.RowKit
theorem tf9:TF Tryz.prog 9 false 1 (.string ⟨#[]⟩):=⟨by kernel_rfl,by kernel_rfl⟩
theorem tf35:TF Tryz.prog 35 false 1 (.slice none 0 0):=⟨by kernel_rfl,by kernel_rfl⟩
theorem tf37:TF Tryz.prog 37 true 20 (.agg #[.string ⟨#[]⟩,.int IntKind.i64 0,.int IntKind.i64 0,.int IntKind.i64 0,.int IntKind.i64 0,.slice none 0 0,.int IntKind.i64 0,.int IntKind.i64 0,.int IntKind.i64 0,.int IntKind.i64 0,.int IntKind.i64 0,.int IntKind.i64 0,.int IntKind.i64 0,.int IntKind.u8 0,.int IntKind.i64 0,.int IntKind.i64 0,.int IntKind.i64 0,.int IntKind.i64 0,.int IntKind.i64 0,.int IntKind.i64 0]):=⟨by kernel_rfl,by kernel_rfl⟩
theorem tf41:TF Tryz.prog 41 true 20 (.agg #[.string ⟨#[]⟩,.int IntKind.i64 0,.int IntKind.i64 0,.int IntKind.i64 0,.int IntKind.i64 0,.slice none 0 0,.int IntKind.i64 0,.int IntKind.i64 0,.int IntKind.i64 0,.int IntKind.i64 0,.int IntKind.i64 0,.int IntKind.i64 0,.int IntKind.i64 0,.int IntKind.u8 0,.int IntKind.i64 0,.int IntKind.i64 0,.int IntKind.i64 0,.int IntKind.i64 0,.int IntKind.i64 0,.int IntKind.i64 0]):=⟨by kernel_rfl,by kernel_rfl⟩
theorem fo37_0:FO Tryz.prog 37 0 0:=⟨by kernel_rfl⟩
theorem fo37_3:FO Tryz.prog 37 3 3:=⟨by kernel_rfl⟩
theorem fo37_4:FO Tryz.prog 37 4 4:=⟨by kernel_rfl⟩
theorem fo37_5:FO Tryz.prog 37 5 5:=⟨by kernel_rfl⟩
theorem fo37_6:FO Tryz.prog 37 6 6:=⟨by kernel_rfl⟩
theorem fo37_7:FO Tryz.prog 37 7 7:=⟨by kernel_rfl⟩
theorem fo37_8:FO Tryz.prog 37 8 8:=⟨by kernel_rfl⟩
theorem fo37_9:FO Tryz.prog 37 9 9:=⟨by kernel_rfl⟩
theorem fo37_10:FO Tryz.prog 37 10 10:=⟨by kernel_rfl⟩
theorem fo37_11:FO Tryz.prog 37 11 11:=⟨by kernel_rfl⟩
theorem fo37_12:FO Tryz.prog 37 12 12:=⟨by kernel_rfl⟩
theorem fo37_13:FO Tryz.prog 37 13 13:=⟨by kernel_rfl⟩
theorem fo37_14:FO Tryz.prog 37 14 14:=⟨by kernel_rfl⟩
theorem fo37_15:FO Tryz.prog 37 15 15:=⟨by kernel_rfl⟩
theorem fo37_16:FO Tryz.prog 37 16 16:=⟨by kernel_rfl⟩
theorem fo37_17:FO Tryz.prog 37 17 17:=⟨by kernel_rfl⟩
theorem fo37_18:FO Tryz.prog 37 18 18:=⟨by kernel_rfl⟩
theorem fo37_19:FO Tryz.prog 37 19 19:=⟨by kernel_rfl⟩
theorem fo41_0:FO Tryz.prog 41 0 0:=⟨by kernel_rfl⟩
theorem fo41_3:FO Tryz.prog 41 3 3:=⟨by kernel_rfl⟩
theorem fo41_4:FO Tryz.prog 41 4 4:=⟨by kernel_rfl⟩
theorem fo41_5:FO Tryz.prog 41 5 5:=⟨by kernel_rfl⟩
theorem fo41_6:FO Tryz.prog 41 6 6:=⟨by kernel_rfl⟩
theorem fo41_7:FO Tryz.prog 41 7 7:=⟨by kernel_rfl⟩
theorem fo41_8:FO Tryz.prog 41 8 8:=⟨by kernel_rfl⟩
theorem fo41_9:FO Tryz.prog 41 9 9:=⟨by kernel_rfl⟩
theorem fo41_10:FO Tryz.prog 41 10 10:=⟨by kernel_rfl⟩
theorem fo41_11:FO Tryz.prog 41 11 11:=⟨by kernel_rfl⟩
theorem fo41_12:FO Tryz.prog 41 12 12:=⟨by kernel_rfl⟩
theorem fo41_17:FO Tryz.prog 41 17 17:=⟨by kernel_rfl⟩
theorem fo41_18:FO Tryz.prog 41 18 18:=⟨by kernel_rfl⟩
theorem fo41_19:FO Tryz.prog 41 19 19:=⟨by kernel_rfl⟩
theorem fo49_1:FO Tryz.prog 49 1 1:=⟨by kernel_rfl⟩
theorem fo50_1:FO Tryz.prog 50 1 1:=⟨by kernel_rfl⟩
theorem se38:SE Tryz.prog 38 49 2:=⟨Tryz.underlying38,by kernel_rfl⟩
theorem se46:SE Tryz.prog 46 50 2:=⟨Tryz.underlying46,by kernel_rfl⟩
theorem af38:AF Tryz.prog 38 49 2 16 [.int IntKind.i64 0,.int IntKind.i64 0]:=⟨Tryz.underlying38,by kernel_rfl,rfl⟩
theorem af46:AF Tryz.prog 46 50 2 16 [.int IntKind.i64 0,.int IntKind.i64 0]:=⟨Tryz.underlying46,by kernel_rfl,rfl⟩
theorem en20:En Tryz.prog 20:=en_of Tryz.func20 (by kernel_rfl) (by kernel_rfl)
theorem en21:En Tryz.prog 21:=en_of Tryz.func21 (by kernel_rfl) (by kernel_rfl)
theorem en22:En Tryz.prog 22:=en_of Tryz.func22 (by kernel_rfl) (by kernel_rfl)
theorem en49:En Tryz.prog 49:=en_of Tryz.func49 (by kernel_rfl) (by kernel_rfl)
theorem en50:En Tryz.prog 50:=en_of Tryz.func50 (by kernel_rfl) (by kernel_rfl)
theorem en51:En Tryz.prog 51:=en_of Tryz.func51 (by kernel_rfl) (by kernel_rfl)
theorem en52:En Tryz.prog 52:=en_of Tryz.func52 (by kernel_rfl) (by kernel_rfl)
theorem en54:En Tryz.prog 54:=en_of Tryz.func54 (by kernel_rfl) (by kernel_rfl)
theorem en55:En Tryz.prog 55:=en_of Tryz.func55 (by kernel_rfl) (by kernel_rfl)
theorem en56:En Tryz.prog 56:=en_of Tryz.func56 (by kernel_rfl) (by kernel_rfl)
theorem en57:En Tryz.prog 57:=en_of Tryz.func57 (by kernel_rfl) (by kernel_rfl)
theorem bd49_0i_1i (x0:Int) (x1:Int) (w:World):(Instr.build 49 #[(0,.int .i64 x0),(1,.int .i64 x1)]).run Tryz.prog w=.ok (.agg #[.int .i64 x0,.int .i64 x1]) w:=by kernel_rfl
theorem bd50_0i_1i (x0:Int) (x1:Int) (w:World):(Instr.build 50 #[(0,.int .i64 x0),(1,.int .i64 x1)]).run Tryz.prog w=.ok (.agg #[.int .i64 x0,.int .i64 x1]) w:=by kernel_rfl
theorem bs38_1 (x0_0:Int) (x0_1:Int) (w:World):(Instr.buildSlice 38 1 #[(0,.agg #[.int .i64 x0_0,.int .i64 x0_1])]).run Tryz.prog w=.ok (.slice (some ⟨w.heap.size,0,none⟩) 1 1) (w.alloc (.cells (([⟨x0_0,x0_1⟩]:List (Crs)).flatMap encCrs).toArray 49)):=by kernel_rfl
theorem bs46_1 (x0_0:Int) (x0_1:Int) (w:World):(Instr.buildSlice 46 1 #[(0,.agg #[.int .i64 x0_0,.int .i64 x0_1])]).run Tryz.prog w=.ok (.slice (some ⟨w.heap.size,0,none⟩) 1 1) (w.alloc (.cells (([⟨x0_0,x0_1⟩]:List (Crs)).flatMap encCrs).toArray 50)):=by kernel_rfl
theorem bs148_2 (x0_0:Int) (x0_1:Int) (x0_2:Int) (x1_0:Int) (x1_1:Int) (x1_2:Int) (w:World):(Instr.buildSlice 148 2 #[(0,.agg #[.int .i64 x0_0,.int .i64 x0_1,.int .i64 x0_2]),(1,.agg #[.int .i64 x1_0,.int .i64 x1_1,.int .i64 x1_2])]).run Tryz.prog w=.ok (.slice (some ⟨w.heap.size,0,none⟩) 2 2) (w.alloc (.cells (([⟨x0_0,x0_1,x0_2⟩,⟨x1_0,x1_1,x1_2⟩]:List (Lim)).flatMap encLim).toArray 117)):=by kernel_rfl
theorem bs148_13 (x0_0:Int) (x0_1:Int) (x0_2:Int) (x1_0:Int) (x1_1:Int) (x1_2:Int) (x2_0:Int) (x2_1:Int) (x2_2:Int) (x3_0:Int) (x3_1:Int) (x3_2:Int) (x4_0:Int) (x4_1:Int) (x4_2:Int) (x5_0:Int) (x5_1:Int) (x5_2:Int) (x6_0:Int) (x6_1:Int) (x6_2:Int) (x7_0:Int) (x7_1:Int) (x7_2:Int) (x8_0:Int) (x8_1:Int) (x8_2:Int) (x9_0:Int) (x9_1:Int) (x9_2:Int) (x10_0:Int) (x10_1:Int) (x10_2:Int) (x11_0:Int) (x11_1:Int) (x11_2:Int) (x12_0:Int) (x12_1:Int) (x12_2:Int) (w:World):(Instr.buildSlice 148 13 #[(0,.agg #[.int .i64 x0_0,.int .i64 x0_1,.int .i64 x0_2]),(1,.agg #[.int .i64 x1_0,.int .i64 x1_1,.int .i64 x1_2]),(2,.agg #[.int .i64 x2_0,.int .i64 x2_1,.int .i64 x2_2]),(3,.agg #[.int .i64 x3_0,.int .i64 x3_1,.int .i64 x3_2]),(4,.agg #[.int .i64 x4_0,.int .i64 x4_1,.int .i64 x4_2]),(5,.agg #[.int .i64 x5_0,.int .i64 x5_1,.int .i64 x5_2]),(6,.agg #[.int .i64 x6_0,.int .i64 x6_1,.int .i64 x6_2]),(7,.agg #[.int .i64 x7_0,.int .i64 x7_1,.int .i64 x7_2]),(8,.agg #[.int .i64 x8_0,.int .i64 x8_1,.int .i64 x8_2]),(9,.agg #[.int .i64 x9_0,.int .i64 x9_1,.int .i64 x9_2]),(10,.agg #[.int .i64 x10_0,.int .i64 x10_1,.int .i64 x10_2]),(11,.agg #[.int .i64 x11_0,.int .i64 x11_1,.int .i64 x11_2]),(12,.agg #[.int .i64 x12_0,.int .i64 x12_1,.int .i64 x12_2])]).run Tryz.prog w=.ok (.slice (some ⟨w.heap.size,0,none⟩) 13 13) (w.alloc (.cells (([⟨x0_0,x0_1,x0_2⟩,⟨x1_0,x1_1,x1_2⟩,⟨x2_0,x2_1,x2_2⟩,⟨x3_0,x3_1,x3_2⟩,⟨x4_0,x4_1,x4_2⟩,⟨x5_0,x5_1,x5_2⟩,⟨x6_0,x6_1,x6_2⟩,⟨x7_0,x7_1,x7_2⟩,⟨x8_0,x8_1,x8_2⟩,⟨x9_0,x9_1,x9_2⟩,⟨x10_0,x10_1,x10_2⟩,⟨x11_0,x11_1,x11_2⟩,⟨x12_0,x12_1,x12_2⟩]:List (Lim)).flatMap encLim).toArray 117)):=by kernel_rfl
set_option maxRecDepth 100000 in
set_option maxHeartbeats 2000000 in
theorem courses_c (a:Option Addr) (cap:Nat) (s:Sht) (w:World) (hl:Has w (Ints a s.heights)) (hn:Nums s) :
  Calls Tryz.prog 49 #[.agg #[.string s.name,.int .i64 s.base,.int .i64 s.batter,.int .i64 s.height,.int .i64 s.skin,.slice a s.heights.length cap,.int .i64 s.least,.int .i64 s.lap,.int .i64 s.run,.int .i64 s.every,.int .i64 s.at_,.int .i64 s.footing,.int .i64 s.spread,.int .u8 s.cope,.int .i64 s.tall,.int .i64 s.short,.int .i64 s.thick,.int .i64 s.low,.int .i64 s.high,.int .i64 s.rood]] w (Gives (fun z:Option Addr×Nat=>.slice z.1 (coursesL s).length z.2) (fun z=>Row z.1 2 z.2 49 encCrs (coursesL s)) w):=by
 refine calls_of_gk (vs:=[_]) Tryz.func49 rfl rfl (Nat.le_of_ble_eq_true rfl) ?_
 refine gk_seq ?_
 refine gk_region ?_
 refine gk_yx rfl rfl (yx_box (vs:=[_,_,_,_,_,_,_,_,_,_,_,_,_,_,_,_,_,_,_,_]) rfl rfl) fun b1=>?_
 refine gk_y rfl rfl (y_assign rfl) ?_
 refine gk_nil (gk_sub (T':=[(1,_),(2,_)]) ⟨rfl,rfl,trivial⟩ ?_)
 refine gk_seq ?_
 refine gk_region ?_
 refine gk_y rfl rfl (y_assign rfl) ?_
 refine gk_nil (gk_sub (T':=[(1,_),(2,_),(3,_)]) ⟨rfl,rfl,rfl,trivial⟩ ?_)
 refine gk_seq ?_
 refine gk_region ?_
 refine gk_y rfl rfl (y_assign rfl) ?_
 refine gk_nil (gk_sub (T':=[(1,_),(2,_),(3,_),(4,_)]) ⟨rfl,rfl,rfl,rfl,trivial⟩ ?_)
 refine gk_seq ?_
 refine gk_seq ?_
 refine gk_region ?_
 refine gk_y rfl rfl (y_assign rfl) ?_
 refine gk_nil (gk_sub (T':=[(1,_),(2,_),(3,_),(4,_),(5,_)]) ⟨rfl,rfl,rfl,rfl,rfl,trivial⟩ ?_)
 refine gk_block ?_
 refine gk_newNil 49 encCrs 2 ?_
 refine gk_loop (X:=Nat×Int×Option Addr×Nat×List Crs) (fun⟨n,z,b,bc,L⟩=>[(1,.pointer (some ⟨b1,0,none⟩)),(2,.slice none 0 0),(3,.slice b L.length bc),(4,.int .i64 z),(5,.int .i64 (n:Int))]) (fun⟨n,z,b,bc,L⟩=>[Row b 2 bc 49 encCrs L,Box b1 [.string s.name,.int .i64 s.base,.int .i64 s.batter,.int .i64 s.height,.int .i64 s.skin,.slice a s.heights.length cap,.int .i64 s.least,.int .i64 s.lap,.int .i64 s.run,.int .i64 s.every,.int .i64 s.at_,.int .i64 s.footing,.int .i64 s.spread,.int .u8 s.cope,.int .i64 s.tall,.int .i64 s.short,.int .i64 s.thick,.int .i64 s.low,.int .i64 s.high,.int .i64 s.rood] 41]) (fun⟨n,z,b,bc,L⟩=>(L=crsN s n∧z=zAt s n∧∀ j,j < n→under s j=true)) (fun⟨n,z,b,bc,L⟩=>3001 - n) (0,0,none,0,[]) ⟨rfl,rfl,rfl,rfl,rfl,trivial⟩ rfl ?_ ?_
 ·exact⟨rfl,rfl,fun j hj=>by omega⟩
 ·rintro ⟨n,z,b,bc,L⟩ hI
  obtain⟨gL,gz,gu⟩:=hI
  have hnl:=hn.len
  have hnh:=hn.height
  have he:=each_of hn n
  have hz0:=zAt_nonneg hn n
  have hz1:=zAt_le (by omega) gu
  have hn3:=crs_len_le hn gu
  have hll:L.length=n:=by rw [gL,crsN_len]
  refine gk_seq ?_
  refine gk_block ?_
  refine gk_seq ?_
  refine gk_region ?_
  refine gk_y rfl rfl (y_fieldAddr fo41_5 rfl) ?_
  refine gk_y rfl rfl (y_loadB1 1 tf35 rfl rfl rfl) ?_
  refine gk_y rfl rfl (y_move rfl) ?_
  refine gk_y rfl rfl (y_fieldAddr fo41_5 rfl) ?_
  refine gk_y rfl rfl (y_loadB1 1 tf35 rfl rfl rfl) ?_
  refine gk_y rfl rfl (y_lenS (Tryz.underlying35) rfl) ?_
  refine gk_y rfl rfl (y_subI rfl rfl (by omega) (by omega)) ?_
  refine gk_y rfl rfl (y_min rfl rfl) ?_
  refine gk_y rfl rfl (y_indexE se35 rfl rfl (fun _ hw=>(Rd.has (Has.rd hl) hw)) (by omega) (by omega)) ?_
  refine gk_y rfl rfl (y_loadE1 tf3 rfl (fun _ hw=>(Rd.has (Has.rd hl) hw)) (by omega) (by omega) rfl) ?_
  refine gk_y rfl rfl (y_assign rfl) ?_
  refine gk_nil (gk_sub (T':=[(1,_),(2,_),(3,_),(4,_),(5,_),(6,_)]) ⟨rfl,rfl,rfl,rfl,rfl,rfl,trivial⟩ ?_)
  refine gk_sub (T':=[(1,_),(2,_),(3,_),(4,_),(5,_),(6,.int .i64 (heightAt s n))]) ⟨rfl,rfl,rfl,rfl,rfl,(by rw [←minat hnl.1 n]; rfl),trivial⟩ ?_
  refine gk_seq ?_
  refine gk_seq ?_
  refine gk_region ?_
  refine gk_y rfl rfl (y_move rfl) ?_
  refine gk_y rfl rfl (y_move rfl) ?_
  refine gk_y rfl rfl (y_addI rfl rfl (by omega) (by omega)) ?_
  refine gk_y rfl rfl (y_fieldAddr fo41_3 rfl) ?_
  refine gk_y rfl rfl (y_loadB1 1 tf3 rfl rfl rfl) ?_
  refine gk_y rfl rfl (y_gtr rfl rfl) ?_
  refine gk_nil (gk_sub (T':=[(1,_),(2,_),(3,_),(4,_),(5,_),(6,_),(25,_)]) ⟨rfl,rfl,rfl,rfl,rfl,rfl,rfl,trivial⟩ ?_)
  refine gk_cond rfl (fun hc25=>?_) (fun hc25=>?_)
  ·have hc25:=of_decide_eq_true hc25
   have hcn:=cnt_at hn gu (by rw [←gz]; omega)
   refine gk_exit rfl ?_
   refine gk_seq ?_
   refine gk_seq ?_
   refine gk_region ?_
   refine gk_y rfl rfl (y_fieldAddr fo41_3 rfl) ?_
   refine gk_y rfl rfl (y_loadB1 1 tf3 rfl rfl rfl) ?_
   refine gk_y rfl rfl (y_move rfl) ?_
   refine gk_y rfl rfl (y_subI rfl rfl (by omega) (by omega)) ?_
   refine gk_y rfl rfl (y_assign rfl) ?_
   refine gk_nil (gk_sub (T':=[(1,_),(2,_),(3,_),(4,_),(7,_)]) ⟨rfl,rfl,rfl,rfl,rfl,trivial⟩ ?_)
   refine gk_block ?_
   refine gk_seq ?_
   refine gk_region ?_
   refine gk_y rfl rfl (y_move rfl) ?_
   refine gk_y rfl rfl (y_eql rfl rfl) ?_
   refine gk_y rfl rfl (y_assign rfl) ?_
   refine gk_nil (gk_sub (T':=[(1,_),(2,_),(3,_),(4,_),(7,_),(49,_)]) ⟨rfl,rfl,rfl,rfl,rfl,rfl,trivial⟩ ?_)
   refine gk_cond rfl (fun hc49=>?_) (fun hc49=>?_)
   ·have h0:s.height - zAt s n=0:=by rw [←gz]; exact of_decide_eq_true hc49
    have hcs:coursesL s=L:=(courses_zero hcn h0).trans gL.symm
    refine gk_skip ?_
    refine gk_seq ?_
    refine gk_region ?_
    refine gk_y rfl rfl (y_move rfl) ?_
    refine gk_y rfl rfl (y_assign rfl) ?_
    refine gk_nil (gk_sub (T':=[(2,_)]) ⟨rfl,trivial⟩ ?_)
    refine gk_ret ?_
    refine gk_gives (b,bc) 0 (rv_one rfl (r1_tmp rfl)) ?_ (by rw [hcs]; rfl)
    first | (rw [hcs]; done) | (rw [hcs,List.length_set])
   ·have h0:¬ s.height - zAt s n=0:=by rw [←gz]; exact of_decide_eq_false hc49
    refine gk_seq ?_
    refine gk_any 10 (fun _=>mixed) (by kernel_rfl) ?_
    refine ph_y (y_move rfl) ?_
    refine ph_y (y_fieldAddr fo41_6 rfl) ?_
    refine ph_y (y_loadB1 1 tf3 rfl rfl rfl) ?_
    refine ph_y (y_geq rfl rfl) ?_
    refine ph_y (y_move rfl) ?_
    refine ph_gF rfl rfl (fun hgd=>by(try rw [hgd]); exact(y_move rfl)) ?_
    refine ph_gF rfl rfl (fun hgd=>by(try rw [hgd]); exact(y_lenS (Tryz.underlying38) rfl)) ?_
    refine ph_gF rfl rfl (fun hgd=>by(try rw [hgd]); exact(y_eql rfl rfl)) ?_
    refine ph_y (y_pickOr rfl rfl rfl) ?_
    refine ph_y (y_assign rfl) ?_
    refine gk_nil (gk_sub (T':=[(1,_),(2,_),(3,_),(4,_),(52,_)]) ⟨rfl,rfl,rfl,rfl,rfl,trivial⟩ ?_)
    refine gk_cond rfl (fun hc52=>?_) (fun hc52=>?_)
    ·have hcs:coursesL s=L++[⟨z,s.height⟩]:=by rw [courses_rest hcn h0 (by simp only [Bool.or_eq_true,decide_eq_true_eq] at hc52; rw [←gz]; omega),gL,gz]
     refine gk_region ?_
     refine gk_y rfl rfl (y_move rfl) ?_
     refine gk_y rfl rfl (y_move rfl) ?_
     refine gk_y rfl rfl (y_fieldAddr fo41_3 rfl) ?_
     refine gk_y rfl rfl (y_loadB1 1 tf3 rfl rfl rfl) ?_
     refine gk_y rfl rfl (y_buildL rfl (bd49_0i_1i _ _)) ?_
     refine gk_yx rfl rfl (yx_buildSlice rfl (bs38_1 _ _) encCrs_ok rfl) fun b67=>?_
     refine gk_append (m:=[(⟨z,s.height⟩:Crs)]) 1 af38 encCrs_ok rfl rfl rfl rfl (fun _ hw=>(has_row encCrs_ok (hw.has (p:=0) rfl))) (by first | omega | (simp only [List.length_cons,List.length_nil]; omega)) (by first | (unfold maxLen; omega) | (simp only [List.length_cons,List.length_nil,maxLen]; omega)) fun a68 c68=>?_
     refine gk_y rfl rfl (y_assign rfl) ?_
     refine gk_nil (gk_sub (T':=[(2,_),(3,_)]) ⟨rfl,rfl,trivial⟩ ?_)
     refine gk_seq ?_
     refine gk_region ?_
     refine gk_y rfl rfl (y_move rfl) ?_
     refine gk_y rfl rfl (y_assign rfl) ?_
     refine gk_nil (gk_sub (T':=[(2,_)]) ⟨rfl,trivial⟩ ?_)
     refine gk_ret ?_
     refine gk_gives (a68,c68) 1 (rv_one rfl (r1_tmp rfl)) ?_ (by rw [hcs]; rfl)
     first | (rw [hcs]; done) | (rw [hcs,List.length_set])
    ·simp only [Bool.or_eq_false_iff,decide_eq_false_iff_not] at hc52
     have hcs:coursesL s=L.set ((L.length:Int) - 1).toNat ({ L.getD ((L.length:Int) - 1).toNat default with to:=s.height }):=by rw [courses_last hcn h0 (by rw [←gz]; omega),last_getD gL (by omega),gL]
     refine gk_region ?_
     refine gk_y rfl rfl (y_move rfl) ?_
     refine gk_y rfl rfl (y_move rfl) ?_
     refine gk_y rfl rfl (y_lenS (Tryz.underlying38) rfl) ?_
     refine gk_y rfl rfl (y_subI rfl rfl (by omega) (by omega)) ?_
     refine gk_y rfl rfl (y_fieldAddr fo41_3 rfl) ?_
     refine gk_y rfl rfl (y_loadB1 1 tf3 rfl rfl rfl) ?_
     refine gk_y rfl rfl (y_indexE se38 rfl rfl (fun _ hw=>(has_row encCrs_ok (hw.has (p:=0) rfl))) (by omega) (by omega)) ?_
     refine gk_y rfl rfl (y_fieldE fo49_1 rfl (fun w hw=>elems_addr (i:=((L.length:Int) - 1)) (has_row encCrs_ok (hw.has (p:=0) rfl)) (by omega) (by omega))) ?_
     refine gk_storeEF (x':=({ (L.getD (((L.length:Int) - 1)).toNat default) with to:=s.height }:Crs)) 0 encCrs_ok tf3 rfl rfl (vs:=[_]) rfl rfl (by decide) rfl rfl (by omega) (by omega) ?_
     refine gk_nil (gk_sub (T':=[(2,_),(3,_)]) ⟨rfl,rfl,trivial⟩ ?_)
     refine gk_seq ?_
     refine gk_region ?_
     refine gk_y rfl rfl (y_move rfl) ?_
     refine gk_y rfl rfl (y_assign rfl) ?_
     refine gk_nil (gk_sub (T':=[(2,_)]) ⟨rfl,trivial⟩ ?_)
     refine gk_ret ?_
     refine gk_gives (b,bc) 0 (rv_one rfl (r1_tmp rfl)) ?_ (by rw [hcs]; rfl)
     first | (rw [hcs]; done) | (rw [hcs,List.length_set])
  ·have hc25:=of_decide_eq_false hc25
   refine gk_skip ?_
   refine gk_seq ?_
   refine gk_region ?_
   refine gk_y rfl rfl (y_move rfl) ?_
   refine gk_y rfl rfl (y_move rfl) ?_
   refine gk_y rfl rfl (y_move rfl) ?_
   refine gk_y rfl rfl (y_move rfl) ?_
   refine gk_y rfl rfl (y_addI rfl rfl (by omega) (by omega)) ?_
   refine gk_y rfl rfl (y_buildL rfl (bd49_0i_1i _ _)) ?_
   refine gk_yx rfl rfl (yx_buildSlice rfl (bs38_1 _ _) encCrs_ok rfl) fun b32=>?_
   refine gk_append (m:=[(⟨z,(z+(heightAt s n))⟩:Crs)]) 1 af38 encCrs_ok rfl rfl rfl rfl (fun _ hw=>(has_row encCrs_ok (hw.has (p:=0) rfl))) (by first | omega | (simp only [List.length_cons,List.length_nil]; omega)) (by first | (unfold maxLen; omega) | (simp only [List.length_cons,List.length_nil,maxLen]; omega)) fun a33 c33=>?_
   refine gk_y rfl rfl (y_assign rfl) ?_
   refine gk_nil (gk_sub (T':=[(1,_),(2,_),(3,_),(4,_),(5,_),(6,_)]) ⟨rfl,rfl,rfl,rfl,rfl,rfl,trivial⟩ ?_)
   refine gk_region ?_
   refine gk_y rfl rfl (y_move rfl) ?_
   refine gk_y rfl rfl (y_move rfl) ?_
   refine gk_y rfl rfl (y_addI rfl rfl (by omega) (by omega)) ?_
   refine gk_y rfl rfl (y_assign rfl) ?_
   refine gk_nil (gk_sub (T':=[(1,_),(2,_),(3,_),(4,_),(5,_)]) ⟨rfl,rfl,rfl,rfl,rfl,trivial⟩ ?_)
   refine gk_region ?_
   refine gk_y rfl rfl (y_move rfl) ?_
   refine gk_y rfl rfl (y_addI rfl rfl (by omega) (by omega)) ?_
   refine gk_y rfl rfl (y_assign rfl) ?_
   refine gk_nil (gk_sub (T':=[(1,_),(2,_),(3,_),(4,_),(5,_)]) ⟨rfl,rfl,rfl,rfl,rfl,trivial⟩ ?_)
   refine gk_dropAt 0 rfl ?_
   exact gk_next (n+1,_,_,_,_) ⟨rfl,rfl,rfl,rfl,rfl,trivial⟩ rfl ⟨by rw [gL,crsN_succ,gz]; rfl,by rw [gz]; rfl,under_succ gu (under_yes (by rw [←gz]; omega))⟩ (by simp only []; omega)
set_option maxRecDepth 100000 in
set_option maxHeartbeats 2000000 in
theorem checksheet_c (a:Option Addr) (cap:Nat) (s:Sht) (w:World) (hl:Has w (Ints a s.heights)) (hs:Small s.heights.length) :
  Calls Tryz.prog 20 #[.agg #[.string s.name,.int .i64 s.base,.int .i64 s.batter,.int .i64 s.height,.int .i64 s.skin,.slice a s.heights.length cap,.int .i64 s.least,.int .i64 s.lap,.int .i64 s.run,.int .i64 s.every,.int .i64 s.at_,.int .i64 s.footing,.int .i64 s.spread,.int .u8 s.cope,.int .i64 s.tall,.int .i64 s.short,.int .i64 s.thick,.int .i64 s.low,.int .i64 s.high,.int .i64 s.rood]] w (Pure (.int .i64 (checkP s)) w):=by
 refine calls_of_gk (vs:=[_]) Tryz.func20 rfl rfl (Nat.le_of_ble_eq_true rfl) ?_
 refine gk_seq ?_
 refine gk_region ?_
 refine gk_yx rfl rfl (yx_box (vs:=[_,_,_,_,_,_,_,_,_,_,_,_,_,_,_,_,_,_,_,_]) rfl rfl) fun b1=>?_
 refine gk_y rfl rfl (y_assign rfl) ?_
 refine gk_nil (gk_sub (T':=[(1,_),(2,_)]) ⟨rfl,rfl,trivial⟩ ?_)
 refine gk_join (X:=Unit) (fun _=>[(1,.pointer (some ⟨b1,0,none⟩)),(2,.int .i64 0),(3,.bool (throughP s))]) (fun _=>[Box b1 [.string s.name,.int .i64 s.base,.int .i64 s.batter,.int .i64 s.height,.int .i64 s.skin,.slice a s.heights.length cap,.int .i64 s.least,.int .i64 s.lap,.int .i64 s.run,.int .i64 s.every,.int .i64 s.at_,.int .i64 s.footing,.int .i64 s.spread,.int .u8 s.cope,.int .i64 s.tall,.int .i64 s.short,.int .i64 s.thick,.int .i64 s.low,.int .i64 s.high,.int .i64 s.rood] 41]) (fun _=>True) ?_ ?_
 ·
  refine gk_region ?_
  refine gk_y rfl rfl (y_fieldAddr fo41_9 rfl) ?_
  refine gk_y rfl rfl (y_loadB1 0 tf3 rfl rfl rfl) ?_
  refine gk_y rfl rfl (y_eql rfl rfl) ?_
  refine gk_y rfl rfl (y_move rfl) ?_
  refine gk_guard rfl rfl rfl rfl (fun hg9=>?_) (fun hg9=>?_)
  ·replace hg9:_=true:=hg9
   try rw [hg9]
   refine gk_y rfl rfl (y_fieldAddr fo41_10 rfl) ?_
   refine gk_guard rfl rfl rfl rfl (fun _=>?_) (fun h=>absurd h (by decide))
   refine gk_y rfl rfl (y_loadB1 0 tf3 rfl rfl rfl) ?_
   refine gk_guard rfl rfl rfl rfl (fun _=>?_) (fun h=>absurd h (by decide))
   refine gk_y rfl rfl (y_eql rfl rfl) ?_
   refine gk_y rfl rfl (y_pick rfl rfl rfl) ?_
   refine gk_y rfl rfl (y_move rfl) ?_
   refine gk_guard rfl rfl rfl rfl (fun hg14=>?_) (fun hg14=>?_)
   ·replace hg14:_=false:=hg14
    try rw [hg14]
    refine gk_y rfl rfl (y_fieldAddr fo41_9 rfl) ?_
    refine gk_guard rfl rfl rfl rfl (fun _=>?_) (fun h=>absurd h (by decide))
    refine gk_y rfl rfl (y_loadB1 0 tf3 rfl rfl rfl) ?_
    refine gk_guard rfl rfl rfl rfl (fun _=>?_) (fun h=>absurd h (by decide))
    refine gk_y rfl rfl (y_buildL rfl (bd117_0i_1i_2i _ _ _)) ?_
    refine gk_guard rfl rfl rfl rfl (fun _=>?_) (fun h=>absurd h (by decide))
    refine gk_y rfl rfl (y_fieldAddr fo41_10 rfl) ?_
    refine gk_guard rfl rfl rfl rfl (fun _=>?_) (fun h=>absurd h (by decide))
    refine gk_y rfl rfl (y_loadB1 0 tf3 rfl rfl rfl) ?_
    refine gk_guard rfl rfl rfl rfl (fun _=>?_) (fun h=>absurd h (by decide))
    refine gk_y rfl rfl (y_buildL rfl (bd117_0i_1i_2i _ _ _)) ?_
    refine gk_guard rfl rfl rfl rfl (fun _=>?_) (fun h=>absurd h (by decide))
    refine gk_yx rfl rfl (yx_buildSlice rfl (bs148_2 _ _ _ _ _ _) encLim_ok rfl) fun b21=>?_
    refine gk_guard rfl rfl rfl rfl (fun _=>?_) (fun h=>absurd h (by decide))
    refine gk_y rfl rfl (y_call en53 rfl (fun w hw=>kept_c _ _ ([(⟨s.every,1,100000⟩:Lim),(⟨s.at_,0,3000⟩:Lim)]) w (has_row encLim_ok (hw.has (p:=0) rfl)) (by simp [Small]))) ?_
    refine gk_y rfl rfl (y_pick rfl rfl rfl) ?_
    refine gk_y rfl rfl (y_assign rfl) ?_
    refine gk_nil (gk_sub (T':=[(1,_),(2,_),(3,_)]) ⟨rfl,rfl,rfl,trivial⟩ ?_)
    refine gk_dropAt 0 rfl ?_
    exact gk_joined () ⟨rfl,rfl,(by refine congrArg (fun b=>some (Value.bool b)) ?_; first | exact through_a hg9 hg14 | exact through_b hg14 | exact through_c hg9),trivial⟩ rfl trivial
   ·replace hg14:_=true:=hg14
    try rw [hg14]
    refine gk_guard rfl rfl rfl rfl (fun h=>absurd h (by decide)) (fun _=>?_)
    refine gk_guard rfl rfl rfl rfl (fun h=>absurd h (by decide)) (fun _=>?_)
    refine gk_guard rfl rfl rfl rfl (fun h=>absurd h (by decide)) (fun _=>?_)
    refine gk_guard rfl rfl rfl rfl (fun h=>absurd h (by decide)) (fun _=>?_)
    refine gk_guard rfl rfl rfl rfl (fun h=>absurd h (by decide)) (fun _=>?_)
    refine gk_guard rfl rfl rfl rfl (fun h=>absurd h (by decide)) (fun _=>?_)
    refine gk_guard rfl rfl rfl rfl (fun h=>absurd h (by decide)) (fun _=>?_)
    refine gk_y rfl rfl (y_pick rfl rfl rfl) ?_
    refine gk_y rfl rfl (y_assign rfl) ?_
    refine gk_nil (gk_sub (T':=[(1,_),(2,_),(3,_)]) ⟨rfl,rfl,rfl,trivial⟩ ?_)
    exact gk_joined () ⟨rfl,rfl,(by refine congrArg (fun b=>some (Value.bool b)) ?_; first | exact through_a hg9 hg14 | exact through_b hg14 | exact through_c hg9),trivial⟩ rfl trivial
  ·replace hg9:_=false:=hg9
   try rw [hg9]
   refine gk_guard rfl rfl rfl rfl (fun h=>absurd h (by decide)) (fun _=>?_)
   refine gk_guard rfl rfl rfl rfl (fun h=>absurd h (by decide)) (fun _=>?_)
   refine gk_y rfl rfl (y_pick rfl rfl rfl) ?_
   refine gk_y rfl rfl (y_move rfl) ?_
   refine gk_guard rfl rfl rfl rfl (fun _=>?_) (fun h=>absurd h (by decide))
   refine gk_y rfl rfl (y_fieldAddr fo41_9 rfl) ?_
   refine gk_guard rfl rfl rfl rfl (fun _=>?_) (fun h=>absurd h (by decide))
   refine gk_y rfl rfl (y_loadB1 0 tf3 rfl rfl rfl) ?_
   refine gk_guard rfl rfl rfl rfl (fun _=>?_) (fun h=>absurd h (by decide))
   refine gk_y rfl rfl (y_buildL rfl (bd117_0i_1i_2i _ _ _)) ?_
   refine gk_guard rfl rfl rfl rfl (fun _=>?_) (fun h=>absurd h (by decide))
   refine gk_y rfl rfl (y_fieldAddr fo41_10 rfl) ?_
   refine gk_guard rfl rfl rfl rfl (fun _=>?_) (fun h=>absurd h (by decide))
   refine gk_y rfl rfl (y_loadB1 0 tf3 rfl rfl rfl) ?_
   refine gk_guard rfl rfl rfl rfl (fun _=>?_) (fun h=>absurd h (by decide))
   refine gk_y rfl rfl (y_buildL rfl (bd117_0i_1i_2i _ _ _)) ?_
   refine gk_guard rfl rfl rfl rfl (fun _=>?_) (fun h=>absurd h (by decide))
   refine gk_yx rfl rfl (yx_buildSlice rfl (bs148_2 _ _ _ _ _ _) encLim_ok rfl) fun b21=>?_
   refine gk_guard rfl rfl rfl rfl (fun _=>?_) (fun h=>absurd h (by decide))
   refine gk_y rfl rfl (y_call en53 rfl (fun w hw=>kept_c _ _ ([(⟨s.every,1,100000⟩:Lim),(⟨s.at_,0,3000⟩:Lim)]) w (has_row encLim_ok (hw.has (p:=0) rfl)) (by simp [Small]))) ?_
   refine gk_y rfl rfl (y_pick rfl rfl rfl) ?_
   refine gk_y rfl rfl (y_assign rfl) ?_
   refine gk_nil (gk_sub (T':=[(1,_),(2,_),(3,_)]) ⟨rfl,rfl,rfl,trivial⟩ ?_)
   refine gk_dropAt 0 rfl ?_
   exact gk_joined () ⟨rfl,rfl,(by refine congrArg (fun b=>some (Value.bool b)) ?_; first | exact through_a hg9 hg14 | exact through_b hg14 | exact through_c hg9),trivial⟩ rfl trivial
 ·rintro _ hJ
  refine gk_seq ?_
  refine gk_region ?_
  refine gk_y rfl rfl (y_fieldAddr fo41_1 rfl) ?_
  refine gk_y rfl rfl (y_loadB1 0 tf3 rfl rfl rfl) ?_
  refine gk_y rfl rfl (y_buildL rfl (bd117_0i_1i_2i _ _ _)) ?_
  refine gk_y rfl rfl (y_fieldAddr fo41_2 rfl) ?_
  refine gk_y rfl rfl (y_loadB1 0 tf3 rfl rfl rfl) ?_
  refine gk_y rfl rfl (y_buildL rfl (bd117_0i_1i_2i _ _ _)) ?_
  refine gk_y rfl rfl (y_fieldAddr fo41_3 rfl) ?_
  refine gk_y rfl rfl (y_loadB1 0 tf3 rfl rfl rfl) ?_
  refine gk_y rfl rfl (y_buildL rfl (bd117_0i_1i_2i _ _ _)) ?_
  refine gk_y rfl rfl (y_fieldAddr fo41_4 rfl) ?_
  refine gk_y rfl rfl (y_loadB1 0 tf3 rfl rfl rfl) ?_
  refine gk_y rfl rfl (y_buildL rfl (bd117_0i_1i_2i _ _ _)) ?_
  refine gk_y rfl rfl (y_fieldAddr fo41_5 rfl) ?_
  refine gk_y rfl rfl (y_loadB1 0 tf35 rfl rfl rfl) ?_
  refine gk_y rfl rfl (y_lenS (Tryz.underlying35) rfl) ?_
  refine gk_y rfl rfl (y_buildL rfl (bd117_0i_1i_2i _ _ _)) ?_
  refine gk_y rfl rfl (y_fieldAddr fo41_6 rfl) ?_
  refine gk_y rfl rfl (y_loadB1 0 tf3 rfl rfl rfl) ?_
  refine gk_y rfl rfl (y_buildL rfl (bd117_0i_1i_2i _ _ _)) ?_
  refine gk_y rfl rfl (y_fieldAddr fo41_7 rfl) ?_
  refine gk_y rfl rfl (y_loadB1 0 tf3 rfl rfl rfl) ?_
  refine gk_y rfl rfl (y_buildL rfl (bd117_0i_1i_2i _ _ _)) ?_
  refine gk_y rfl rfl (y_fieldAddr fo41_8 rfl) ?_
  refine gk_y rfl rfl (y_loadB1 0 tf3 rfl rfl rfl) ?_
  refine gk_y rfl rfl (y_buildL rfl (bd117_0i_1i_2i _ _ _)) ?_
  refine gk_y rfl rfl (y_fieldAddr fo41_11 rfl) ?_
  refine gk_y rfl rfl (y_loadB1 0 tf3 rfl rfl rfl) ?_
  refine gk_y rfl rfl (y_buildL rfl (bd117_0i_1i_2i _ _ _)) ?_
  refine gk_y rfl rfl (y_fieldAddr fo41_12 rfl) ?_
  refine gk_y rfl rfl (y_loadB1 0 tf3 rfl rfl rfl) ?_
  refine gk_y rfl rfl (y_buildL rfl (bd117_0i_1i_2i _ _ _)) ?_
  refine gk_y rfl rfl (y_fieldAddr fo41_17 rfl) ?_
  refine gk_y rfl rfl (y_loadB1 0 tf3 rfl rfl rfl) ?_
  refine gk_y rfl rfl (y_fieldAddr fo41_18 rfl) ?_
  refine gk_y rfl rfl (y_loadB1 0 tf3 rfl rfl rfl) ?_
  refine gk_y rfl rfl (y_buildL rfl (bd117_0i_1i_2i _ _ _)) ?_
  refine gk_y rfl rfl (y_fieldAddr fo41_18 rfl) ?_
  refine gk_y rfl rfl (y_loadB1 0 tf3 rfl rfl rfl) ?_
  refine gk_y rfl rfl (y_buildL rfl (bd117_0i_1i_2i _ _ _)) ?_
  refine gk_y rfl rfl (y_fieldAddr fo41_19 rfl) ?_
  refine gk_y rfl rfl (y_loadB1 0 tf3 rfl rfl rfl) ?_
  refine gk_y rfl rfl (y_buildL rfl (bd117_0i_1i_2i _ _ _)) ?_
  refine gk_yx rfl rfl (yx_buildSlice rfl (bs148_13 _ _ _ _ _ _ _ _ _ _ _ _ _ _ _ _ _ _ _ _ _ _ _ _ _ _ _ _ _ _ _ _ _ _ _ _ _ _ _) encLim_ok rfl) fun b66=>?_
  refine gk_y rfl rfl (y_call en53 rfl (fun w hw=>kept_c _ _ ([(⟨s.base,1,3000⟩:Lim),(⟨s.batter,0,500⟩:Lim),(⟨s.height,1,3000⟩:Lim),(⟨s.skin,1,1500⟩:Lim),(⟨(s.heights.length:Int),1,12⟩:Lim),(⟨s.least,1,1000⟩:Lim),(⟨s.lap,0,500⟩:Lim),(⟨s.run,1,20⟩:Lim),(⟨s.footing,0,1000⟩:Lim),(⟨s.spread,0,1000⟩:Lim),(⟨s.low,0,s.high⟩:Lim),(⟨s.high,0,2000⟩:Lim),(⟨s.rood,1,100000⟩:Lim)]) w (has_row encLim_ok (hw.has (p:=0) rfl)) (by simp [Small]))) ?_
  refine gk_y rfl rfl (y_assign rfl) ?_
  refine gk_nil (gk_sub (T':=[(1,_),(2,_),(3,_),(4,_)]) ⟨rfl,rfl,rfl,rfl,trivial⟩ ?_)
  refine gk_seq ?_
  refine gk_region ?_
  refine gk_y rfl rfl (y_assign rfl) ?_
  refine gk_nil (gk_sub (T':=[(1,_),(2,_),(3,_),(4,_),(5,_)]) ⟨rfl,rfl,rfl,rfl,rfl,trivial⟩ ?_)
  refine gk_seq ?_
  refine gk_seq ?_
  refine gk_region ?_
  refine gk_y rfl rfl (y_fieldAddr fo41_0 rfl) ?_
  refine gk_y rfl rfl (y_loadB1 1 tf9 rfl rfl rfl) ?_
  refine gk_y rfl rfl (y_call en55 rfl (fun w hw=>named_c _ w)) ?_
  refine gk_y rfl rfl (y_not rfl) ?_
  refine gk_y rfl rfl (y_move rfl) ?_
  refine gk_guard rfl rfl rfl rfl (fun hg72=>?_) (fun hg72=>?_)
  ·replace hg72:_=false:=hg72
   try rw [hg72]
   refine gk_y rfl rfl (y_move rfl) ?_
   refine gk_guard rfl rfl rfl rfl (fun _=>?_) (fun h=>absurd h (by decide))
   refine gk_y rfl rfl (y_not rfl) ?_
   refine gk_y rfl rfl (y_pick rfl rfl rfl) ?_
   refine gk_y rfl rfl (y_move rfl) ?_
   refine gk_guard rfl rfl rfl rfl (fun hg76=>?_) (fun hg76=>?_)
   ·replace hg76:_=false:=hg76
    try rw [hg76]
    refine gk_y rfl rfl (y_move rfl) ?_
    refine gk_guard rfl rfl rfl rfl (fun _=>?_) (fun h=>absurd h (by decide))
    refine gk_y rfl rfl (y_not rfl) ?_
    refine gk_y rfl rfl (y_pick rfl rfl rfl) ?_
    refine gk_y rfl rfl (y_move rfl) ?_
    refine gk_guard rfl rfl rfl rfl (fun hg80=>?_) (fun hg80=>?_)
    ·replace hg80:_=false:=hg80
     try rw [hg80]
     refine gk_y rfl rfl (y_fieldAddr fo41_5 rfl) ?_
     refine gk_guard rfl rfl rfl rfl (fun _=>?_) (fun h=>absurd h (by decide))
     refine gk_y rfl rfl (y_loadB1 1 tf35 rfl rfl rfl) ?_
     refine gk_guard rfl rfl rfl rfl (fun _=>?_) (fun h=>absurd h (by decide))
     refine gk_y rfl rfl (y_move rfl) ?_
     refine gk_guard rfl rfl rfl rfl (fun _=>?_) (fun h=>absurd h (by decide))
     refine gk_y rfl rfl (y_call en56 rfl (fun w hw=>containsfuncI_c _ _ s.heights wrongP _ [] [] w (Rd.has (Has.rd hl) hw) (by assumption) (fun _=>True) (fun _ _=>trivial) en54 (fun z w _=>checksheet1_c z w))) ?_
     refine gk_y rfl rfl (y_pick rfl rfl rfl) ?_
     refine gk_y rfl rfl (y_move rfl) ?_
     refine gk_guard rfl rfl rfl rfl (fun hg86=>?_) (fun hg86=>?_)
     ·replace hg86:_=false:=hg86
      try rw [hg86]
      refine gk_y rfl rfl (y_loadBA 1 tf41 rfl rfl (vs:=[_,_,_,_,_,_,_,_,_,_,_,_,_,_,_,_,_,_,_,_]) rfl rfl) ?_
      refine gk_guard rfl rfl rfl rfl (fun _=>?_) (fun h=>absurd h (by decide))
      refine gk_y rfl rfl (y_call en57 rfl (fun w hw=>coped_c a cap s w)) ?_
      refine gk_guard rfl rfl rfl rfl (fun _=>?_) (fun h=>absurd h (by decide))
      refine gk_y rfl rfl (y_not rfl) ?_
      refine gk_y rfl rfl (y_pick rfl rfl rfl) ?_
      refine gk_y rfl rfl (y_move rfl) ?_
      refine gk_guard rfl rfl rfl rfl (fun hg91=>?_) (fun hg91=>?_)
      ·replace hg91:_=false:=hg91
       try rw [hg91]
       refine gk_y rfl rfl (y_loadBA 1 tf41 rfl rfl (vs:=[_,_,_,_,_,_,_,_,_,_,_,_,_,_,_,_,_,_,_,_]) rfl rfl) ?_
       refine gk_guard rfl rfl rfl rfl (fun _=>?_) (fun h=>absurd h (by decide))
       refine gk_y rfl rfl (y_fieldAddr fo41_3 rfl) ?_
       refine gk_guard rfl rfl rfl rfl (fun _=>?_) (fun h=>absurd h (by decide))
       refine gk_y rfl rfl (y_loadB1 1 tf3 rfl rfl rfl) ?_
       refine gk_guard rfl rfl rfl rfl (fun _=>?_) (fun h=>absurd h (by decide))
       refine gk_y rfl rfl (y_call en50 rfl (fun w hw=>width_c a cap s _ w)) ?_
       refine gk_guard rfl rfl rfl rfl (fun _=>?_) (fun h=>absurd h (by decide))
       refine gk_y rfl rfl (y_lss rfl rfl) ?_
       refine gk_y rfl rfl (y_pick rfl rfl rfl) ?_
       refine gk_y rfl rfl (y_move rfl) ?_
       refine gk_guard rfl rfl rfl rfl (fun hg98=>?_) (fun hg98=>?_)
       ·replace hg98:_=false:=hg98
        try rw [hg98]
        refine gk_y rfl rfl (y_loadBA 1 tf41 rfl rfl (vs:=[_,_,_,_,_,_,_,_,_,_,_,_,_,_,_,_,_,_,_,_]) rfl rfl) ?_
        refine gk_guard rfl rfl rfl rfl (fun _=>?_) (fun h=>absurd h (by decide))
        refine gk_yx rfl rfl (yx_call en49 rfl (fun w hw=>courses_c a cap s w (Rd.has (Has.rd hl) hw) (nums_ok (badP_no hg72 hg76 hg80 hg86 hg91)))) fun p100=>?_
        refine gk_guard rfl rfl rfl rfl (fun _=>?_) (fun h=>absurd h (by decide))
        refine gk_y rfl rfl (y_lenS (Tryz.underlying38) rfl) ?_
        refine gk_guard rfl rfl rfl rfl (fun _=>?_) (fun h=>absurd h (by decide))
        refine gk_y rfl rfl (y_gtr rfl rfl) ?_
        refine gk_y rfl rfl (y_pick rfl rfl rfl) ?_
        refine gk_nil (gk_sub (T':=[(2,_),(103,_)]) ⟨rfl,rfl,trivial⟩ ?_)
        refine gk_cond rfl (fun hc103=>?_) (fun hc103=>?_)
        ·simp only [decide_eq_true_eq] at hc103
         refine gk_seq ?_
         refine gk_region ?_
         refine gk_y rfl rfl (y_assign rfl) ?_
         refine gk_nil (gk_sub (T':=[(2,_)]) ⟨rfl,trivial⟩ ?_)
         refine gk_ret ?_
         refine gk_pure (rv_one rfl (r1_tmp rfl)) ?_
         rw [check_len (badP_no hg72 hg76 hg80 hg86 hg91) (of_decide_eq_false hg98),if_pos (by omega)]
        ·simp only [decide_eq_false_iff_not] at hc103
         refine gk_skip ?_
         refine gk_seq ?_
         refine gk_region ?_
         refine gk_y rfl rfl (y_assign rfl) ?_
         refine gk_nil (gk_sub (T':=[(2,_)]) ⟨rfl,trivial⟩ ?_)
         refine gk_ret ?_
         refine gk_pure (rv_one rfl (r1_tmp rfl)) ?_
         rw [check_len (badP_no hg72 hg76 hg80 hg86 hg91) (of_decide_eq_false hg98),if_neg (by omega)]
       ·replace hg98:_=true:=hg98
        try rw [hg98]
        refine gk_guard rfl rfl rfl rfl (fun h=>absurd h (by decide)) (fun _=>?_)
        refine gk_guard rfl rfl rfl rfl (fun h=>absurd h (by decide)) (fun _=>?_)
        refine gk_guard rfl rfl rfl rfl (fun h=>absurd h (by decide)) (fun _=>?_)
        refine gk_y rfl rfl (y_pick rfl rfl rfl) ?_
        refine gk_nil (gk_sub (T':=[(2,_),(103,_)]) ⟨rfl,rfl,trivial⟩ ?_)
        refine gk_condT rfl ?_
        refine gk_seq ?_
        refine gk_region ?_
        refine gk_y rfl rfl (y_assign rfl) ?_
        refine gk_nil (gk_sub (T':=[(2,_)]) ⟨rfl,trivial⟩ ?_)
        refine gk_ret ?_
        refine gk_pure (rv_one rfl (r1_tmp rfl)) ?_
        rw [check_wid (badP_no hg72 hg76 hg80 hg86 hg91) (of_decide_eq_true hg98)]
      ·replace hg91:_=true:=hg91
       try rw [hg91]
       refine gk_guard rfl rfl rfl rfl (fun h=>absurd h (by decide)) (fun _=>?_)
       refine gk_guard rfl rfl rfl rfl (fun h=>absurd h (by decide)) (fun _=>?_)
       refine gk_guard rfl rfl rfl rfl (fun h=>absurd h (by decide)) (fun _=>?_)
       refine gk_guard rfl rfl rfl rfl (fun h=>absurd h (by decide)) (fun _=>?_)
       refine gk_y rfl rfl (y_pick rfl rfl rfl) ?_
       refine gk_y rfl rfl (y_move rfl) ?_
       refine gk_guard rfl rfl rfl rfl (fun h=>absurd h (by decide)) (fun _=>?_)
       refine gk_guard rfl rfl rfl rfl (fun h=>absurd h (by decide)) (fun _=>?_)
       refine gk_guard rfl rfl rfl rfl (fun h=>absurd h (by decide)) (fun _=>?_)
       refine gk_guard rfl rfl rfl rfl (fun h=>absurd h (by decide)) (fun _=>?_)
       refine gk_y rfl rfl (y_pick rfl rfl rfl) ?_
       refine gk_nil (gk_sub (T':=[(2,_),(103,_)]) ⟨rfl,rfl,trivial⟩ ?_)
       refine gk_condT rfl ?_
       refine gk_seq ?_
       refine gk_region ?_
       refine gk_y rfl rfl (y_assign rfl) ?_
       refine gk_nil (gk_sub (T':=[(2,_)]) ⟨rfl,trivial⟩ ?_)
       refine gk_ret ?_
       refine gk_pure (rv_one rfl (r1_tmp rfl)) ?_
       rw [check_bad (badP_5 hg91)]
     ·replace hg86:_=true:=hg86
      try rw [hg86]
      refine gk_guard rfl rfl rfl rfl (fun h=>absurd h (by decide)) (fun _=>?_)
      refine gk_guard rfl rfl rfl rfl (fun h=>absurd h (by decide)) (fun _=>?_)
      refine gk_y rfl rfl (y_pick rfl rfl rfl) ?_
      refine gk_y rfl rfl (y_move rfl) ?_
      refine gk_guard rfl rfl rfl rfl (fun h=>absurd h (by decide)) (fun _=>?_)
      refine gk_guard rfl rfl rfl rfl (fun h=>absurd h (by decide)) (fun _=>?_)
      refine gk_guard rfl rfl rfl rfl (fun h=>absurd h (by decide)) (fun _=>?_)
      refine gk_guard rfl rfl rfl rfl (fun h=>absurd h (by decide)) (fun _=>?_)
      refine gk_guard rfl rfl rfl rfl (fun h=>absurd h (by decide)) (fun _=>?_)
      refine gk_y rfl rfl (y_pick rfl rfl rfl) ?_
      refine gk_y rfl rfl (y_move rfl) ?_
      refine gk_guard rfl rfl rfl rfl (fun h=>absurd h (by decide)) (fun _=>?_)
      refine gk_guard rfl rfl rfl rfl (fun h=>absurd h (by decide)) (fun _=>?_)
      refine gk_guard rfl rfl rfl rfl (fun h=>absurd h (by decide)) (fun _=>?_)
      refine gk_guard rfl rfl rfl rfl (fun h=>absurd h (by decide)) (fun _=>?_)
      refine gk_y rfl rfl (y_pick rfl rfl rfl) ?_
      refine gk_nil (gk_sub (T':=[(2,_),(103,_)]) ⟨rfl,rfl,trivial⟩ ?_)
      refine gk_condT rfl ?_
      refine gk_seq ?_
      refine gk_region ?_
      refine gk_y rfl rfl (y_assign rfl) ?_
      refine gk_nil (gk_sub (T':=[(2,_)]) ⟨rfl,trivial⟩ ?_)
      refine gk_ret ?_
      refine gk_pure (rv_one rfl (r1_tmp rfl)) ?_
      rw [check_bad (badP_4 hg86)]
    ·replace hg80:_=true:=hg80
     try rw [hg80]
     refine gk_guard rfl rfl rfl rfl (fun h=>absurd h (by decide)) (fun _=>?_)
     refine gk_guard rfl rfl rfl rfl (fun h=>absurd h (by decide)) (fun _=>?_)
     refine gk_guard rfl rfl rfl rfl (fun h=>absurd h (by decide)) (fun _=>?_)
     refine gk_y rfl rfl (y_pick rfl rfl rfl) ?_
     refine gk_y rfl rfl (y_move rfl) ?_
     refine gk_guard rfl rfl rfl rfl (fun h=>absurd h (by decide)) (fun _=>?_)
     refine gk_guard rfl rfl rfl rfl (fun h=>absurd h (by decide)) (fun _=>?_)
     refine gk_guard rfl rfl rfl rfl (fun h=>absurd h (by decide)) (fun _=>?_)
     refine gk_y rfl rfl (y_pick rfl rfl rfl) ?_
     refine gk_y rfl rfl (y_move rfl) ?_
     refine gk_guard rfl rfl rfl rfl (fun h=>absurd h (by decide)) (fun _=>?_)
     refine gk_guard rfl rfl rfl rfl (fun h=>absurd h (by decide)) (fun _=>?_)
     refine gk_guard rfl rfl rfl rfl (fun h=>absurd h (by decide)) (fun _=>?_)
     refine gk_guard rfl rfl rfl rfl (fun h=>absurd h (by decide)) (fun _=>?_)
     refine gk_guard rfl rfl rfl rfl (fun h=>absurd h (by decide)) (fun _=>?_)
     refine gk_y rfl rfl (y_pick rfl rfl rfl) ?_
     refine gk_y rfl rfl (y_move rfl) ?_
     refine gk_guard rfl rfl rfl rfl (fun h=>absurd h (by decide)) (fun _=>?_)
     refine gk_guard rfl rfl rfl rfl (fun h=>absurd h (by decide)) (fun _=>?_)
     refine gk_guard rfl rfl rfl rfl (fun h=>absurd h (by decide)) (fun _=>?_)
     refine gk_guard rfl rfl rfl rfl (fun h=>absurd h (by decide)) (fun _=>?_)
     refine gk_y rfl rfl (y_pick rfl rfl rfl) ?_
     refine gk_nil (gk_sub (T':=[(2,_),(103,_)]) ⟨rfl,rfl,trivial⟩ ?_)
     refine gk_condT rfl ?_
     refine gk_seq ?_
     refine gk_region ?_
     refine gk_y rfl rfl (y_assign rfl) ?_
     refine gk_nil (gk_sub (T':=[(2,_)]) ⟨rfl,trivial⟩ ?_)
     refine gk_ret ?_
     refine gk_pure (rv_one rfl (r1_tmp rfl)) ?_
     rw [check_bad (badP_3 hg80)]
   ·replace hg76:_=true:=hg76
    try rw [hg76]
    refine gk_guard rfl rfl rfl rfl (fun h=>absurd h (by decide)) (fun _=>?_)
    refine gk_y rfl rfl (y_pick rfl rfl rfl) ?_
    refine gk_y rfl rfl (y_move rfl) ?_
    refine gk_guard rfl rfl rfl rfl (fun h=>absurd h (by decide)) (fun _=>?_)
    refine gk_guard rfl rfl rfl rfl (fun h=>absurd h (by decide)) (fun _=>?_)
    refine gk_guard rfl rfl rfl rfl (fun h=>absurd h (by decide)) (fun _=>?_)
    refine gk_guard rfl rfl rfl rfl (fun h=>absurd h (by decide)) (fun _=>?_)
    refine gk_y rfl rfl (y_pick rfl rfl rfl) ?_
    refine gk_y rfl rfl (y_move rfl) ?_
    refine gk_guard rfl rfl rfl rfl (fun h=>absurd h (by decide)) (fun _=>?_)
    refine gk_guard rfl rfl rfl rfl (fun h=>absurd h (by decide)) (fun _=>?_)
    refine gk_guard rfl rfl rfl rfl (fun h=>absurd h (by decide)) (fun _=>?_)
    refine gk_y rfl rfl (y_pick rfl rfl rfl) ?_
    refine gk_y rfl rfl (y_move rfl) ?_
    refine gk_guard rfl rfl rfl rfl (fun h=>absurd h (by decide)) (fun _=>?_)
    refine gk_guard rfl rfl rfl rfl (fun h=>absurd h (by decide)) (fun _=>?_)
    refine gk_guard rfl rfl rfl rfl (fun h=>absurd h (by decide)) (fun _=>?_)
    refine gk_guard rfl rfl rfl rfl (fun h=>absurd h (by decide)) (fun _=>?_)
    refine gk_guard rfl rfl rfl rfl (fun h=>absurd h (by decide)) (fun _=>?_)
    refine gk_y rfl rfl (y_pick rfl rfl rfl) ?_
    refine gk_y rfl rfl (y_move rfl) ?_
    refine gk_guard rfl rfl rfl rfl (fun h=>absurd h (by decide)) (fun _=>?_)
    refine gk_guard rfl rfl rfl rfl (fun h=>absurd h (by decide)) (fun _=>?_)
    refine gk_guard rfl rfl rfl rfl (fun h=>absurd h (by decide)) (fun _=>?_)
    refine gk_guard rfl rfl rfl rfl (fun h=>absurd h (by decide)) (fun _=>?_)
    refine gk_y rfl rfl (y_pick rfl rfl rfl) ?_
    refine gk_nil (gk_sub (T':=[(2,_),(103,_)]) ⟨rfl,rfl,trivial⟩ ?_)
    refine gk_condT rfl ?_
    refine gk_seq ?_
    refine gk_region ?_
    refine gk_y rfl rfl (y_assign rfl) ?_
    refine gk_nil (gk_sub (T':=[(2,_)]) ⟨rfl,trivial⟩ ?_)
    refine gk_ret ?_
    refine gk_pure (rv_one rfl (r1_tmp rfl)) ?_
    rw [check_bad (badP_2 hg76)]
  ·replace hg72:_=true:=hg72
   try rw [hg72]
   refine gk_guard rfl rfl rfl rfl (fun h=>absurd h (by decide)) (fun _=>?_)
   refine gk_y rfl rfl (y_pick rfl rfl rfl) ?_
   refine gk_y rfl rfl (y_move rfl) ?_
   refine gk_guard rfl rfl rfl rfl (fun h=>absurd h (by decide)) (fun _=>?_)
   refine gk_guard rfl rfl rfl rfl (fun h=>absurd h (by decide)) (fun _=>?_)
   refine gk_y rfl rfl (y_pick rfl rfl rfl) ?_
   refine gk_y rfl rfl (y_move rfl) ?_
   refine gk_guard rfl rfl rfl rfl (fun h=>absurd h (by decide)) (fun _=>?_)
   refine gk_guard rfl rfl rfl rfl (fun h=>absurd h (by decide)) (fun _=>?_)
   refine gk_guard rfl rfl rfl rfl (fun h=>absurd h (by decide)) (fun _=>?_)
   refine gk_guard rfl rfl rfl rfl (fun h=>absurd h (by decide)) (fun _=>?_)
   refine gk_y rfl rfl (y_pick rfl rfl rfl) ?_
   refine gk_y rfl rfl (y_move rfl) ?_
   refine gk_guard rfl rfl rfl rfl (fun h=>absurd h (by decide)) (fun _=>?_)
   refine gk_guard rfl rfl rfl rfl (fun h=>absurd h (by decide)) (fun _=>?_)
   refine gk_guard rfl rfl rfl rfl (fun h=>absurd h (by decide)) (fun _=>?_)
   refine gk_y rfl rfl (y_pick rfl rfl rfl) ?_
   refine gk_y rfl rfl (y_move rfl) ?_
   refine gk_guard rfl rfl rfl rfl (fun h=>absurd h (by decide)) (fun _=>?_)
   refine gk_guard rfl rfl rfl rfl (fun h=>absurd h (by decide)) (fun _=>?_)
   refine gk_guard rfl rfl rfl rfl (fun h=>absurd h (by decide)) (fun _=>?_)
   refine gk_guard rfl rfl rfl rfl (fun h=>absurd h (by decide)) (fun _=>?_)
   refine gk_guard rfl rfl rfl rfl (fun h=>absurd h (by decide)) (fun _=>?_)
   refine gk_y rfl rfl (y_pick rfl rfl rfl) ?_
   refine gk_y rfl rfl (y_move rfl) ?_
   refine gk_guard rfl rfl rfl rfl (fun h=>absurd h (by decide)) (fun _=>?_)
   refine gk_guard rfl rfl rfl rfl (fun h=>absurd h (by decide)) (fun _=>?_)
   refine gk_guard rfl rfl rfl rfl (fun h=>absurd h (by decide)) (fun _=>?_)
   refine gk_guard rfl rfl rfl rfl (fun h=>absurd h (by decide)) (fun _=>?_)
   refine gk_y rfl rfl (y_pick rfl rfl rfl) ?_
   refine gk_nil (gk_sub (T':=[(2,_),(103,_)]) ⟨rfl,rfl,trivial⟩ ?_)
   refine gk_condT rfl ?_
   refine gk_seq ?_
   refine gk_region ?_
   refine gk_y rfl rfl (y_assign rfl) ?_
   refine gk_nil (gk_sub (T':=[(2,_)]) ⟨rfl,trivial⟩ ?_)
   refine gk_ret ?_
   refine gk_pure (rv_one rfl (r1_tmp rfl)) ?_
   rw [check_bad (badP_1 hg72)]
theorem check_zero {s:Sht}:checkP s=0↔sheetP s=true:=by
 unfold checkP
 cases sheetP s <;> simp
theorem check_two {s:Sht} (h:¬ checkP s=0):sheetP s=false∧checkP s=2:=by
 have h2:¬ sheetP s=true:=fun x=>h (check_zero.2 x)
 exact⟨by simpa using h2,if_neg h2⟩
def coursesS (s:Sht):List Crs:=if sheetP s=true then coursesL s else []
def widthS (s:Sht) (z:Int):Int:=if sheetP s=true∧0≤z∧z≤s.height then widthI s z else 0
def widthE (s:Sht) (z:Int):Int:=if sheetP s=true then(if 0≤z∧z≤s.height then 0 else 3) else 2
set_option maxRecDepth 100000 in
set_option maxHeartbeats 1000000 in
theorem Courses_c (a:Option Addr) (cap:Nat) (s:Sht) (w:World) (hl:Has w (Ints a s.heights)) (hs:Small s.heights.length) :
  Calls Tryz.prog 17 #[.agg #[.string s.name,.int .i64 s.base,.int .i64 s.batter,.int .i64 s.height,.int .i64 s.skin,.slice a s.heights.length cap,.int .i64 s.least,.int .i64 s.lap,.int .i64 s.run,.int .i64 s.every,.int .i64 s.at_,.int .i64 s.footing,.int .i64 s.spread,.int .u8 s.cope,.int .i64 s.tall,.int .i64 s.short,.int .i64 s.thick,.int .i64 s.low,.int .i64 s.high,.int .i64 s.rood]] w (Gives (fun z:Option Addr×Nat=>.tuple #[.slice z.1 (coursesS s).length z.2,.int .i64 (checkP s)]) (fun z=>Row z.1 2 z.2 49 encCrs (coursesS s)) w):=by
 refine calls_of_gk (vs:=[_]) Tryz.func17 rfl rfl (Nat.le_of_ble_eq_true rfl) ?_
 refine gk_seq ?_
 refine gk_region ?_
 refine gk_yx rfl rfl (yx_box (vs:=[_,_,_,_,_,_,_,_,_,_,_,_,_,_,_,_,_,_,_,_]) rfl rfl) fun b1=>?_
 refine gk_y rfl rfl (y_assign rfl) ?_
 refine gk_y rfl rfl (y_assign rfl) ?_
 refine gk_nil (gk_sub (T':=[(1,_),(2,_),(3,_)]) ⟨rfl,rfl,rfl,trivial⟩ ?_)
 refine gk_seq ?_
 refine gk_seq ?_
 refine gk_region ?_
 refine gk_y rfl rfl (y_loadBA 0 tf41 rfl rfl (vs:=[_,_,_,_,_,_,_,_,_,_,_,_,_,_,_,_,_,_,_,_]) rfl rfl) ?_
 refine gk_y rfl rfl (y_call en20 rfl (fun w hw=>checksheet_c a cap s w (Rd.has (Has.rd hl) hw) (by assumption))) ?_
 refine gk_y rfl rfl (y_assign rfl) ?_
 refine gk_nil (gk_sub (T':=[(1,_),(2,_),(3,_),(4,_)]) ⟨rfl,rfl,rfl,rfl,trivial⟩ ?_)
 refine gk_seq ?_
 refine gk_region ?_
 refine gk_y rfl rfl (y_move rfl) ?_
 refine gk_y rfl rfl (y_neq rfl rfl) ?_
 refine gk_nil (gk_sub (T':=[(1,_),(2,_),(3,_),(4,_),(8,_)]) ⟨rfl,rfl,rfl,rfl,rfl,trivial⟩ ?_)
 refine gk_cond rfl (fun hc8=>?_) (fun hc8=>?_)
 ·have hE:=(check_two (show ¬ checkP s=0 by simpa using hc8)).1
  have hcs:coursesS s=[]:=if_neg (by rw [hE]; exact Bool.false_ne_true)
  refine gk_newNil 49 encCrs 2 ?_
  refine gk_seq ?_
  refine gk_region ?_
  refine gk_y rfl rfl (y_move rfl) ?_
  refine gk_y rfl rfl (y_assign rfl) ?_
  refine gk_y rfl rfl (y_assign rfl) ?_
  refine gk_nil (gk_sub (T':=[(1,_),(2,_),(3,_)]) ⟨rfl,rfl,rfl,trivial⟩ ?_)
  refine gk_ret ?_
  refine gk_gives (none,0) 0 (rv_two rfl (r1_tmp rfl) (r1_tmp rfl)) ?_ (by rw [hcs]; rfl)
  rw [hcs]; rfl
 ·have hok:sheetP s=true:=check_zero.1 (by simpa using hc8)
  have hcs:coursesS s=coursesL s:=if_pos hok
  refine gk_skip ?_
  refine gk_seq ?_
  refine gk_region ?_
  refine gk_y rfl rfl (y_loadBA 0 tf41 rfl rfl (vs:=[_,_,_,_,_,_,_,_,_,_,_,_,_,_,_,_,_,_,_,_]) rfl rfl) ?_
  refine gk_yx rfl rfl (yx_call en49 rfl (fun w hw=>courses_c a cap s w (Rd.has (Has.rd hl) hw) (sheetP_nums hok))) fun p11=>?_
  refine gk_y rfl rfl (y_assign rfl) ?_
  refine gk_y rfl rfl (y_assign rfl) ?_
  refine gk_nil (gk_sub (T':=[(2,_),(3,_)]) ⟨rfl,rfl,trivial⟩ ?_)
  refine gk_ret ?_
  refine gk_gives (p11.1,p11.2) 0 (rv_two rfl (r1_tmp rfl) (r1_tmp rfl)) ?_ (by rw [hcs]; rfl)
  rw [hcs,check_zero.2 hok]
set_option maxRecDepth 100000 in
set_option maxHeartbeats 1000000 in
theorem Width_c (a:Option Addr) (cap:Nat) (s:Sht) (z:Int) (w:World) (hl:Has w (Ints a s.heights)) (hs:Small s.heights.length) :
  Calls Tryz.prog 18 #[.agg #[.string s.name,.int .i64 s.base,.int .i64 s.batter,.int .i64 s.height,.int .i64 s.skin,.slice a s.heights.length cap,.int .i64 s.least,.int .i64 s.lap,.int .i64 s.run,.int .i64 s.every,.int .i64 s.at_,.int .i64 s.footing,.int .i64 s.spread,.int .u8 s.cope,.int .i64 s.tall,.int .i64 s.short,.int .i64 s.thick,.int .i64 s.low,.int .i64 s.high,.int .i64 s.rood],.int .i64 z] w (Pure (.tuple #[.int .i64 (widthS s z),.int .i64 (widthE s z)]) w):=by
 refine calls_of_gk (vs:=[_,_]) Tryz.func18 rfl rfl (Nat.le_of_ble_eq_true rfl) ?_
 refine gk_seq ?_
 refine gk_region ?_
 refine gk_yx rfl rfl (yx_box (vs:=[_,_,_,_,_,_,_,_,_,_,_,_,_,_,_,_,_,_,_,_]) rfl rfl) fun b2=>?_
 refine gk_y rfl rfl (y_assign rfl) ?_
 refine gk_y rfl rfl (y_assign rfl) ?_
 refine gk_nil (gk_sub (T':=[(1,_),(2,_),(4,_),(5,_)]) ⟨rfl,rfl,rfl,rfl,trivial⟩ ?_)
 refine gk_seq ?_
 refine gk_seq ?_
 refine gk_region ?_
 refine gk_y rfl rfl (y_loadBA 0 tf41 rfl rfl (vs:=[_,_,_,_,_,_,_,_,_,_,_,_,_,_,_,_,_,_,_,_]) rfl rfl) ?_
 refine gk_y rfl rfl (y_call en20 rfl (fun w hw=>checksheet_c a cap s w (Rd.has (Has.rd hl) hw) (by assumption))) ?_
 refine gk_y rfl rfl (y_assign rfl) ?_
 refine gk_nil (gk_sub (T':=[(1,_),(2,_),(4,_),(5,_),(6,_)]) ⟨rfl,rfl,rfl,rfl,rfl,trivial⟩ ?_)
 refine gk_seq ?_
 refine gk_region ?_
 refine gk_y rfl rfl (y_move rfl) ?_
 refine gk_y rfl rfl (y_neq rfl rfl) ?_
 refine gk_nil (gk_sub (T':=[(1,_),(2,_),(4,_),(5,_),(6,_),(10,_)]) ⟨rfl,rfl,rfl,rfl,rfl,rfl,trivial⟩ ?_)
 refine gk_cond rfl (fun hc10=>?_) (fun hc10=>?_)
 ·have hE:=check_two (show ¬ checkP s=0 by simpa using hc10)
  have hno:¬ sheetP s=true:=by rw [hE.1]; exact Bool.false_ne_true
  refine gk_seq ?_
  refine gk_region ?_
  refine gk_y rfl rfl (y_move rfl) ?_
  refine gk_y rfl rfl (y_assign rfl) ?_
  refine gk_y rfl rfl (y_assign rfl) ?_
  refine gk_nil (gk_sub (T':=[(1,_),(2,_),(4,_),(5,_)]) ⟨rfl,rfl,rfl,rfl,trivial⟩ ?_)
  refine gk_ret ?_
  refine gk_pure (rv_two rfl (r1_tmp rfl) (r1_tmp rfl)) ?_
  rw [widthS,widthE,if_neg (fun h=>hno h.1),if_neg hno,hE.2]
 ·have hok:sheetP s=true:=check_zero.1 (by simpa using hc10)
  have hn:=sheetP_nums hok
  have hnh:=hn.height
  refine gk_skip ?_
  refine gk_seq ?_
  refine gk_seq ?_
  refine gk_any 8 (fun _=>mixed) (by kernel_rfl) ?_
  refine ph_y (y_move rfl) ?_
  refine ph_y (y_lss rfl rfl) ?_
  refine ph_y (y_move rfl) ?_
  refine ph_gF rfl rfl (fun hgd=>by(try rw [hgd]); exact(y_move rfl)) ?_
  refine ph_gF rfl rfl (fun hgd=>by(try rw [hgd]); exact(y_fieldAddr fo41_3 rfl)) ?_
  refine ph_gF rfl rfl (fun hgd=>by(try rw [hgd]); exact(y_loadB1 0 tf3 rfl rfl rfl)) ?_
  refine ph_gF rfl rfl (fun hgd=>by(try rw [hgd]); exact(y_gtr rfl rfl)) ?_
  refine ph_y (y_pickOr rfl rfl rfl) ?_
  refine gk_nil (gk_sub (T':=[(1,_),(2,_),(4,_),(5,_),(19,_)]) ⟨rfl,rfl,rfl,rfl,rfl,trivial⟩ ?_)
  refine gk_cond rfl (fun hc19=>?_) (fun hc19=>?_)
  ·simp only [Bool.or_eq_true,decide_eq_true_eq] at hc19
   refine gk_seq ?_
   refine gk_region ?_
   refine gk_y rfl rfl (y_assign rfl) ?_
   refine gk_y rfl rfl (y_assign rfl) ?_
   refine gk_nil (gk_sub (T':=[(1,_),(2,_),(4,_),(5,_)]) ⟨rfl,rfl,rfl,rfl,trivial⟩ ?_)
   refine gk_ret ?_
   refine gk_pure (rv_two rfl (r1_tmp rfl) (r1_tmp rfl)) ?_
   rw [widthS,widthE,if_neg (by omega),if_pos hok,if_neg (by omega)]
  ·simp only [Bool.or_eq_false_iff,decide_eq_false_iff_not] at hc19
   refine gk_skip ?_
   refine gk_seq ?_
   refine gk_region ?_
   refine gk_y rfl rfl (y_loadBA 0 tf41 rfl rfl (vs:=[_,_,_,_,_,_,_,_,_,_,_,_,_,_,_,_,_,_,_,_]) rfl rfl) ?_
   refine gk_y rfl rfl (y_move rfl) ?_
   refine gk_y rfl rfl (y_call en50 rfl (fun w hw=>width_c a cap s _ w)) ?_
   refine gk_y rfl rfl (y_assign rfl) ?_
   refine gk_y rfl rfl (y_assign rfl) ?_
   refine gk_nil (gk_sub (T':=[(4,_),(5,_)]) ⟨rfl,rfl,trivial⟩ ?_)
   refine gk_ret ?_
   refine gk_pure (rv_two rfl (r1_tmp rfl) (r1_tmp rfl)) ?_
   rw [widthS,widthE,if_pos ⟨hok,by omega,by omega⟩,if_pos hok,if_pos (by omega),width_eq hn.batter hn.base (by omega) (by omega)]
set_option maxRecDepth 100000 in
set_option maxHeartbeats 2000000 in
theorem rcourses_c (a:Option Addr) (cap:Nat) (s:Sht) (w:World) (hl:Has w (Ints a s.heights)) (hn:Nums s) :
  Calls Tryz.prog 21 #[.agg #[.string s.name,.int .i64 s.base,.int .i64 s.batter,.int .i64 s.height,.int .i64 s.skin,.slice a s.heights.length cap,.int .i64 s.least,.int .i64 s.lap,.int .i64 s.run,.int .i64 s.every,.int .i64 s.at_,.int .i64 s.footing,.int .i64 s.spread,.int .u8 s.cope,.int .i64 s.tall,.int .i64 s.short,.int .i64 s.thick,.int .i64 s.low,.int .i64 s.high,.int .i64 s.rood]] w (Gives (fun z:Option Addr×Nat=>.slice z.1 (coursesL s).length z.2) (fun z=>Row z.1 2 z.2 50 encCrs (coursesL s)) w):=by
 refine calls_of_gk (vs:=[_]) Tryz.func21 rfl rfl (Nat.le_of_ble_eq_true rfl) ?_
 refine gk_seq ?_
 refine gk_region ?_
 refine gk_yx rfl rfl (yx_box (vs:=[_,_,_,_,_,_,_,_,_,_,_,_,_,_,_,_,_,_,_,_]) rfl rfl) fun b1=>?_
 refine gk_y rfl rfl (y_assign rfl) ?_
 refine gk_nil (gk_sub (T':=[(1,_),(2,_)]) ⟨rfl,rfl,trivial⟩ ?_)
 refine gk_seq ?_
 refine gk_region ?_
 refine gk_y rfl rfl (y_assign rfl) ?_
 refine gk_nil (gk_sub (T':=[(1,_),(2,_),(3,_)]) ⟨rfl,rfl,rfl,trivial⟩ ?_)
 refine gk_seq ?_
 refine gk_region ?_
 refine gk_y rfl rfl (y_assign rfl) ?_
 refine gk_y rfl rfl (y_assign rfl) ?_
 refine gk_nil (gk_sub (T':=[(1,_),(2,_),(3,_),(4,_),(5,_)]) ⟨rfl,rfl,rfl,rfl,rfl,trivial⟩ ?_)
 refine gk_seq ?_
 refine gk_block ?_
 refine gk_newNil 50 encCrs 2 ?_
 refine gk_loop (X:=Nat×Int×Int×Option Addr×Nat×List Crs) (fun⟨n,z,i,b,bc,L⟩=>[(1,.pointer (some ⟨b1,0,none⟩)),(2,.slice none 0 0),(3,.slice b L.length bc),(4,.int .i64 z),(5,.int .i64 i)]) (fun⟨n,z,i,b,bc,L⟩=>[Row b 2 bc 50 encCrs L,Box b1 [.string s.name,.int .i64 s.base,.int .i64 s.batter,.int .i64 s.height,.int .i64 s.skin,.slice a s.heights.length cap,.int .i64 s.least,.int .i64 s.lap,.int .i64 s.run,.int .i64 s.every,.int .i64 s.at_,.int .i64 s.footing,.int .i64 s.spread,.int .u8 s.cope,.int .i64 s.tall,.int .i64 s.short,.int .i64 s.thick,.int .i64 s.low,.int .i64 s.high,.int .i64 s.rood] 37]) (fun⟨n,z,i,b,bc,L⟩=>(L=crsN s n∧z=zAt s n∧i=((min n (s.heights.length - 1):Nat):Int)∧∀ j,j < n→under s j=true)) (fun⟨n,z,i,b,bc,L⟩=>3001 - n) (0,0,0,none,0,[]) ⟨rfl,rfl,rfl,rfl,rfl,trivial⟩ rfl ?_ ?_
 ·exact⟨rfl,rfl,by simp,fun j hj=>by omega⟩
 ·rintro ⟨n,z,i,b,bc,L⟩ hI
  obtain⟨gL,gz,gi,gu⟩:=hI
  have hnl:=hn.len
  have hnh:=hn.height
  have he:=each_of hn n
  have hz0:=zAt_nonneg hn n
  have hz1:=zAt_le (by omega) gu
  have hn3:=crs_len_le hn gu
  have hll:L.length=n:=by rw [gL,crsN_len]
  have hix:s.heights.getD i.toNat default=heightAt s n:=by rw [gi]; rfl
  refine gk_seq ?_
  refine gk_seq ?_
  refine gk_any 10 (fun _=>mixed) (by kernel_rfl) ?_
  refine ph_y (y_move rfl) ?_
  refine ph_y (y_fieldAddr fo37_5 rfl) ?_
  refine ph_y (y_loadB1 1 tf35 rfl rfl rfl) ?_
  refine ph_y (y_move rfl) ?_
  refine ph_y (y_indexE se35 rfl rfl (fun _ hw=>(Rd.has (Has.rd hl) hw)) (by omega) (by omega)) ?_
  refine ph_y (y_loadE1 tf3 rfl (fun _ hw=>(Rd.has (Has.rd hl) hw)) (by omega) (by omega) rfl) ?_
  refine ph_y (y_addI rfl rfl (by omega) (by omega)) ?_
  refine ph_y (y_fieldAddr fo37_3 rfl) ?_
  refine ph_y (y_loadB1 1 tf3 rfl rfl rfl) ?_
  refine ph_y (y_leq rfl rfl) ?_
  refine gk_nil (gk_sub (T':=[(1,_),(2,_),(3,_),(4,_),(5,_),(16,_)]) ⟨rfl,rfl,rfl,rfl,rfl,rfl,trivial⟩ ?_)
  refine gk_cond rfl (fun hc16=>?_) (fun hc16=>?_)
  ·have hc16:=of_decide_eq_true hc16
   refine gk_skip ?_
   refine gk_block ?_
   refine gk_seq ?_
   refine gk_region ?_
   refine gk_y rfl rfl (y_move rfl) ?_
   refine gk_y rfl rfl (y_move rfl) ?_
   refine gk_y rfl rfl (y_move rfl) ?_
   refine gk_y rfl rfl (y_fieldAddr fo37_5 rfl) ?_
   refine gk_y rfl rfl (y_loadB1 1 tf35 rfl rfl rfl) ?_
   refine gk_y rfl rfl (y_move rfl) ?_
   refine gk_y rfl rfl (y_indexE se35 rfl rfl (fun _ hw=>(Rd.has (Has.rd hl) hw)) (by omega) (by omega)) ?_
   refine gk_y rfl rfl (y_loadE1 tf3 rfl (fun _ hw=>(Rd.has (Has.rd hl) hw)) (by omega) (by omega) rfl) ?_
   refine gk_y rfl rfl (y_addI rfl rfl (by omega) (by omega)) ?_
   refine gk_y rfl rfl (y_buildL rfl (bd50_0i_1i _ _)) ?_
   refine gk_yx rfl rfl (yx_buildSlice rfl (bs46_1 _ _) encCrs_ok rfl) fun b27=>?_
   refine gk_append (m:=[(⟨z,(z+(s.heights.getD (i).toNat default))⟩:Crs)]) 1 af46 encCrs_ok rfl rfl rfl rfl (fun _ hw=>(has_row encCrs_ok (hw.has (p:=0) rfl))) (by first | omega | (simp only [List.length_cons,List.length_nil]; omega)) (by first | (unfold maxLen; omega) | (simp only [List.length_cons,List.length_nil,maxLen]; omega)) fun a28 c28=>?_
   refine gk_y rfl rfl (y_assign rfl) ?_
   refine gk_nil (gk_sub (T':=[(1,_),(2,_),(3,_),(4,_),(5,_)]) ⟨rfl,rfl,rfl,rfl,rfl,trivial⟩ ?_)
   refine gk_seq ?_
   refine gk_region ?_
   refine gk_y rfl rfl (y_move rfl) ?_
   refine gk_y rfl rfl (y_fieldAddr fo37_5 rfl) ?_
   refine gk_y rfl rfl (y_loadB1 2 tf35 rfl rfl rfl) ?_
   refine gk_y rfl rfl (y_move rfl) ?_
   refine gk_y rfl rfl (y_indexE se35 rfl rfl (fun _ hw=>(Rd.has (Has.rd hl) hw)) (by omega) (by omega)) ?_
   refine gk_y rfl rfl (y_loadE1 tf3 rfl (fun _ hw=>(Rd.has (Has.rd hl) hw)) (by omega) (by omega) rfl) ?_
   refine gk_y rfl rfl (y_addI rfl rfl (by omega) (by omega)) ?_
   refine gk_y rfl rfl (y_assign rfl) ?_
   refine gk_nil (gk_sub (T':=[(1,_),(2,_),(3,_),(4,_),(5,_)]) ⟨rfl,rfl,rfl,rfl,rfl,trivial⟩ ?_)
   refine gk_seq ?_
   refine gk_region ?_
   refine gk_y rfl rfl (y_move rfl) ?_
   refine gk_y rfl rfl (y_addI rfl rfl (by omega) (by omega)) ?_
   refine gk_y rfl rfl (y_fieldAddr fo37_5 rfl) ?_
   refine gk_y rfl rfl (y_loadB1 2 tf35 rfl rfl rfl) ?_
   refine gk_y rfl rfl (y_lenS (Tryz.underlying35) rfl) ?_
   refine gk_y rfl rfl (y_lss rfl rfl) ?_
   refine gk_nil (gk_sub (T':=[(1,_),(2,_),(3,_),(4,_),(5,_),(41,_)]) ⟨rfl,rfl,rfl,rfl,rfl,rfl,trivial⟩ ?_)
   refine gk_cond rfl (fun hc41=>?_) (fun hc41=>?_)
   ·simp only [decide_eq_true_eq] at hc41
    refine gk_region ?_
    refine gk_y rfl rfl (y_move rfl) ?_
    refine gk_y rfl rfl (y_addI rfl rfl (by omega) (by omega)) ?_
    refine gk_y rfl rfl (y_assign rfl) ?_
    refine gk_nil (gk_sub (T':=[(1,_),(2,_),(3,_),(4,_),(5,_)]) ⟨rfl,rfl,rfl,rfl,rfl,trivial⟩ ?_)
    refine gk_dropAt 0 rfl ?_
    exact gk_next (n+1,_,_,_,_,_) ⟨rfl,rfl,rfl,rfl,rfl,trivial⟩ rfl ⟨by rw [gL,crsN_succ,gz,hix]; rfl,by rw [gz,hix]; rfl,by omega,under_succ gu (under_yes (by rw [←gz]; omega))⟩ (by simp only []; omega)
   ·simp only [decide_eq_false_iff_not] at hc41
    refine gk_skip ?_
    refine gk_dropAt 0 rfl ?_
    exact gk_next (n+1,_,_,_,_,_) ⟨rfl,rfl,rfl,rfl,rfl,trivial⟩ rfl ⟨by rw [gL,crsN_succ,gz,hix]; rfl,by rw [gz,hix]; rfl,by omega,under_succ gu (under_yes (by rw [←gz]; omega))⟩ (by simp only []; omega)
  ·have hc16:=of_decide_eq_false hc16
   have hcn:=cnt_at hn gu (by rw [←gz]; omega)
   refine gk_exit rfl ?_
   refine gk_seq ?_
   refine gk_region ?_
   refine gk_y rfl rfl (y_fieldAddr fo37_3 rfl) ?_
   refine gk_y rfl rfl (y_loadB1 1 tf3 rfl rfl rfl) ?_
   refine gk_y rfl rfl (y_move rfl) ?_
   refine gk_y rfl rfl (y_subI rfl rfl (by omega) (by omega)) ?_
   refine gk_y rfl rfl (y_assign rfl) ?_
   refine gk_nil (gk_sub (T':=[(1,_),(2,_),(3,_),(4,_),(6,_)]) ⟨rfl,rfl,rfl,rfl,rfl,trivial⟩ ?_)
   refine gk_seq ?_
   refine gk_seq ?_
   refine gk_any 13 (fun _=>mixed) (by kernel_rfl) ?_
   refine ph_y (y_move rfl) ?_
   refine ph_y (y_fieldAddr fo37_6 rfl) ?_
   refine ph_y (y_loadB1 1 tf3 rfl rfl rfl) ?_
   refine ph_y (y_geq rfl rfl) ?_
   refine ph_y (y_move rfl) ?_
   refine ph_gF rfl rfl (fun hgd=>by(try rw [hgd]); exact(y_move rfl)) ?_
   refine ph_gF rfl rfl (fun hgd=>by(try rw [hgd]); exact(y_gtr rfl rfl)) ?_
   refine ph_gF rfl rfl (fun hgd=>by(try rw [hgd]); exact(y_move rfl)) ?_
   refine ph_gTT rfl rfl (fun hgd=>by(try rw [hgd]); exact(y_move rfl)) ?_
   refine ph_gTT rfl rfl (fun hgd=>by(try rw [hgd]); exact(y_lenS (Tryz.underlying46) rfl)) ?_
   refine ph_gTT rfl rfl (fun hgd=>by(try rw [hgd]); exact(y_eql rfl rfl)) ?_
   refine ph_gF rfl rfl (fun hgd=>by(try rw [hgd]); exact(y_pickAnd rfl rfl rfl)) ?_
   refine ph_y (y_pickOr rfl rfl rfl) ?_
   refine gk_nil (gk_sub (T':=[(1,_),(2,_),(3,_),(4,_),(6,_),(60,_)]) ⟨rfl,rfl,rfl,rfl,rfl,rfl,trivial⟩ ?_)
   refine gk_cond rfl (fun hc60=>?_) (fun hc60=>?_)
   ·simp only [Bool.or_eq_true,Bool.and_eq_true,decide_eq_true_eq] at hc60
    have hle:=hn.least
    have hcs:coursesL s=L++[⟨z,s.height⟩]:=by rw [courses_rest hcn (by rw [←gz]; omega) (by rw [←gz]; omega),gL,gz]
    refine gk_region ?_
    refine gk_y rfl rfl (y_move rfl) ?_
    refine gk_y rfl rfl (y_move rfl) ?_
    refine gk_y rfl rfl (y_fieldAddr fo37_3 rfl) ?_
    refine gk_y rfl rfl (y_loadB1 1 tf3 rfl rfl rfl) ?_
    refine gk_y rfl rfl (y_buildL rfl (bd50_0i_1i _ _)) ?_
    refine gk_yx rfl rfl (yx_buildSlice rfl (bs46_1 _ _) encCrs_ok rfl) fun b66=>?_
    refine gk_append (m:=[(⟨z,s.height⟩:Crs)]) 1 af46 encCrs_ok rfl rfl rfl rfl (fun _ hw=>(has_row encCrs_ok (hw.has (p:=0) rfl))) (by first | omega | (simp only [List.length_cons,List.length_nil]; omega)) (by first | (unfold maxLen; omega) | (simp only [List.length_cons,List.length_nil,maxLen]; omega)) fun a67 c67=>?_
    refine gk_y rfl rfl (y_assign rfl) ?_
    refine gk_nil (gk_sub (T':=[(2,_),(3,_)]) ⟨rfl,rfl,trivial⟩ ?_)
    refine gk_seq ?_
    refine gk_region ?_
    refine gk_y rfl rfl (y_move rfl) ?_
    refine gk_y rfl rfl (y_assign rfl) ?_
    refine gk_nil (gk_sub (T':=[(2,_)]) ⟨rfl,trivial⟩ ?_)
    refine gk_ret ?_
    refine gk_gives (a67,c67) 1 (rv_one rfl (r1_tmp rfl)) ?_ (by rw [hcs]; rfl)
    first | (rw [hcs]; done) | (rw [hcs,List.length_set])
   ·simp only [Bool.or_eq_false_iff,Bool.and_eq_false_iff,decide_eq_false_iff_not] at hc60
    refine gk_seq ?_
    refine gk_region ?_
    refine gk_y rfl rfl (y_move rfl) ?_
    refine gk_y rfl rfl (y_gtr rfl rfl) ?_
    refine gk_nil (gk_sub (T':=[(1,_),(2,_),(3,_),(69,_)]) ⟨rfl,rfl,rfl,rfl,trivial⟩ ?_)
    refine gk_cond rfl (fun hc69=>?_) (fun hc69=>?_)
    ·have hc69:=of_decide_eq_true hc69
     have hcs:coursesL s=L.set ((L.length:Int) - 1).toNat ({ L.getD ((L.length:Int) - 1).toNat default with to:=s.height }):=by rw [courses_last hcn (by rw [←gz]; omega) (by rw [←gz]; omega),last_getD gL (by omega),gL]
     refine gk_region ?_
     refine gk_y rfl rfl (y_move rfl) ?_
     refine gk_y rfl rfl (y_move rfl) ?_
     refine gk_y rfl rfl (y_lenS (Tryz.underlying46) rfl) ?_
     refine gk_y rfl rfl (y_subI rfl rfl (by omega) (by omega)) ?_
     refine gk_y rfl rfl (y_fieldAddr fo37_3 rfl) ?_
     refine gk_y rfl rfl (y_loadB1 1 tf3 rfl rfl rfl) ?_
     refine gk_y rfl rfl (y_indexE se46 rfl rfl (fun _ hw=>(has_row encCrs_ok (hw.has (p:=0) rfl))) (by omega) (by omega)) ?_
     refine gk_y rfl rfl (y_fieldE fo50_1 rfl (fun w hw=>elems_addr (i:=((L.length:Int) - 1)) (has_row encCrs_ok (hw.has (p:=0) rfl)) (by omega) (by omega))) ?_
     refine gk_storeEF (x':=({ (L.getD (((L.length:Int) - 1)).toNat default) with to:=s.height }:Crs)) 0 encCrs_ok tf3 rfl rfl (vs:=[_]) rfl rfl (by decide) rfl rfl (by omega) (by omega) ?_
     refine gk_nil (gk_sub (T':=[(2,_),(3,_)]) ⟨rfl,rfl,trivial⟩ ?_)
     refine gk_seq ?_
     refine gk_region ?_
     refine gk_y rfl rfl (y_move rfl) ?_
     refine gk_y rfl rfl (y_assign rfl) ?_
     refine gk_nil (gk_sub (T':=[(2,_)]) ⟨rfl,trivial⟩ ?_)
     refine gk_ret ?_
     refine gk_gives (b,bc) 0 (rv_one rfl (r1_tmp rfl)) ?_ (by rw [hcs]; rfl)
     first | (rw [hcs]; done) | (rw [hcs,List.length_set])
    ·have hc69:=of_decide_eq_false hc69
     have hcs:coursesL s=L:=(courses_zero hcn (by rw [←gz]; omega)).trans gL.symm
     refine gk_skip ?_
     refine gk_seq ?_
     refine gk_region ?_
     refine gk_y rfl rfl (y_move rfl) ?_
     refine gk_y rfl rfl (y_assign rfl) ?_
     refine gk_nil (gk_sub (T':=[(2,_)]) ⟨rfl,trivial⟩ ?_)
     refine gk_ret ?_
     refine gk_gives (b,bc) 0 (rv_one rfl (r1_tmp rfl)) ?_ (by rw [hcs]; rfl)
     first | (rw [hcs]; done) | (rw [hcs,List.length_set])
set_option maxRecDepth 100000 in
set_option maxHeartbeats 4000000 in
theorem rvalidsheet_c (a:Option Addr) (cap:Nat) (s:Sht) (w:World) (hl:Has w (Ints a s.heights)) (hs:Small s.heights.length) (hco:0≤s.cope) (hfit:Fits s.name.size) :
  Calls Tryz.prog 19 #[.agg #[.string s.name,.int .i64 s.base,.int .i64 s.batter,.int .i64 s.height,.int .i64 s.skin,.slice a s.heights.length cap,.int .i64 s.least,.int .i64 s.lap,.int .i64 s.run,.int .i64 s.every,.int .i64 s.at_,.int .i64 s.footing,.int .i64 s.spread,.int .u8 s.cope,.int .i64 s.tall,.int .i64 s.short,.int .i64 s.thick,.int .i64 s.low,.int .i64 s.high,.int .i64 s.rood]] w (Pure (.bool (sheetP s)) w):=by
 refine calls_of_gk (vs:=[_]) Tryz.func19 rfl rfl (Nat.le_of_ble_eq_true rfl) ?_
 refine gk_seq ?_
 refine gk_region ?_
 refine gk_yx rfl rfl (yx_box (vs:=[_,_,_,_,_,_,_,_,_,_,_,_,_,_,_,_,_,_,_,_]) rfl rfl) fun b1=>?_
 refine gk_y rfl rfl (y_assign rfl) ?_
 refine gk_nil (gk_sub (T':=[(1,_),(2,_)]) ⟨rfl,rfl,trivial⟩ ?_)
 refine gk_seq ?_
 refine gk_seq ?_
 refine gk_any 35 (fun _=>mixed) (by kernel_rfl) ?_
 refine ph_y (y_fieldAddr fo37_0 rfl) ?_
 refine ph_y (y_loadB1 0 tf9 rfl rfl rfl) ?_
 refine ph_y (y_call en51 rfl (fun w hw=>rnamed_c _ w (by assumption))) ?_
 refine ph_y (y_not rfl) ?_
 refine ph_y (y_move rfl) ?_
 refine ph_gF rfl rfl (fun hgd=>by(try rw [hgd]); exact(y_fieldAddr fo37_1 rfl)) ?_
 refine ph_gF rfl rfl (fun hgd=>by(try rw [hgd]); exact(y_loadB1 0 tf3 rfl rfl rfl)) ?_
 refine ph_gF rfl rfl (fun hgd=>by(try rw [hgd]); exact(y_call (v:=.bool (inB s.base 1 3000)) en52 rfl (fun w hw=>in_c _ _ _ w))) ?_
 refine ph_gF rfl rfl (fun hgd=>by(try rw [hgd]); exact(y_not rfl)) ?_
 refine ph_y (y_pickOr rfl rfl rfl) ?_
 refine ph_y (y_move rfl) ?_
 refine ph_gF rfl rfl (fun hgd=>by(try rw [hgd]); exact(y_fieldAddr fo37_2 rfl)) ?_
 refine ph_gF rfl rfl (fun hgd=>by(try rw [hgd]); exact(y_loadB1 0 tf3 rfl rfl rfl)) ?_
 refine ph_gF rfl rfl (fun hgd=>by(try rw [hgd]); exact(y_call (v:=.bool (inB s.batter 0 500)) en52 rfl (fun w hw=>in_c _ _ _ w))) ?_
 refine ph_gF rfl rfl (fun hgd=>by(try rw [hgd]); exact(y_not rfl)) ?_
 refine ph_y (y_pickOr rfl rfl rfl) ?_
 refine ph_y (y_move rfl) ?_
 refine ph_gF rfl rfl (fun hgd=>by(try rw [hgd]); exact(y_fieldAddr fo37_3 rfl)) ?_
 refine ph_gF rfl rfl (fun hgd=>by(try rw [hgd]); exact(y_loadB1 0 tf3 rfl rfl rfl)) ?_
 refine ph_gF rfl rfl (fun hgd=>by(try rw [hgd]); exact(y_call (v:=.bool (inB s.height 1 3000)) en52 rfl (fun w hw=>in_c _ _ _ w))) ?_
 refine ph_gF rfl rfl (fun hgd=>by(try rw [hgd]); exact(y_not rfl)) ?_
 refine ph_y (y_pickOr rfl rfl rfl) ?_
 refine ph_y (y_move rfl) ?_
 refine ph_gF rfl rfl (fun hgd=>by(try rw [hgd]); exact(y_fieldAddr fo37_4 rfl)) ?_
 refine ph_gF rfl rfl (fun hgd=>by(try rw [hgd]); exact(y_loadB1 0 tf3 rfl rfl rfl)) ?_
 refine ph_gF rfl rfl (fun hgd=>by(try rw [hgd]); exact(y_call (v:=.bool (inB s.skin 1 1500)) en52 rfl (fun w hw=>in_c _ _ _ w))) ?_
 refine ph_gF rfl rfl (fun hgd=>by(try rw [hgd]); exact(y_not rfl)) ?_
 refine ph_y (y_pickOr rfl rfl rfl) ?_
 refine ph_y (y_move rfl) ?_
 refine ph_gF rfl rfl (fun hgd=>by(try rw [hgd]); exact(y_fieldAddr fo37_5 rfl)) ?_
 refine ph_gF rfl rfl (fun hgd=>by(try rw [hgd]); exact(y_loadB1 0 tf35 rfl rfl rfl)) ?_
 refine ph_gF rfl rfl (fun hgd=>by(try rw [hgd]); exact(y_lenS (Tryz.underlying35) rfl)) ?_
 refine ph_gF rfl rfl (fun hgd=>by(try rw [hgd]); exact(y_call (v:=.bool (inB (s.heights.length:Int) 1 12)) en52 rfl (fun w hw=>in_c _ _ _ w))) ?_
 refine ph_gF rfl rfl (fun hgd=>by(try rw [hgd]); exact(y_not rfl)) ?_
 refine ph_y (y_pickOr rfl rfl rfl) ?_
 refine gk_nil (gk_sub (T':=[(1,_),(2,_),(38,_)]) ⟨rfl,rfl,rfl,trivial⟩ ?_)
 refine gk_cond rfl (fun hc38=>?_) (fun hc38=>?_)
 ·
  refine gk_seq ?_
  refine gk_region ?_
  refine gk_y rfl rfl (y_assign rfl) ?_
  refine gk_nil (gk_sub (T':=[(1,_),(2,_)]) ⟨rfl,rfl,trivial⟩ ?_)
  refine gk_ret ?_
  refine gk_pure (rv_one rfl (r1_tmp rfl)) ?_
  rw [sheetP_bad (by rw [badP_ref hco,show v1 s=true from hc38]; simp)]
 ·
  refine gk_skip ?_
  refine gk_seq ?_
  refine gk_seq ?_
  refine gk_region ?_
  refine gk_y rfl rfl (y_assign rfl) ?_
  refine gk_nil (gk_sub (T':=[(1,_),(2,_),(3,_)]) ⟨rfl,rfl,rfl,trivial⟩ ?_)
  refine gk_block ?_
  refine gk_loop (X:=Int) (fun(i:Int)=>[(1,.pointer (some ⟨b1,0,none⟩)),(2,.bool false),(3,.int .i64 i)]) (fun(i:Int)=>[Box b1 [.string s.name,.int .i64 s.base,.int .i64 s.batter,.int .i64 s.height,.int .i64 s.skin,.slice a s.heights.length cap,.int .i64 s.least,.int .i64 s.lap,.int .i64 s.run,.int .i64 s.every,.int .i64 s.at_,.int .i64 s.footing,.int .i64 s.spread,.int .u8 s.cope,.int .i64 s.tall,.int .i64 s.short,.int .i64 s.thick,.int .i64 s.low,.int .i64 s.high,.int .i64 s.rood] 37]) (fun(i:Int)=>(0≤i∧i≤s.heights.length∧∀ j:Nat,(j:Int) < i→(!inB (s.heights.getD j default) 1 1000)=false)) (fun(i:Int)=>(s.heights.length - i).toNat) 0 ⟨rfl,rfl,rfl,trivial⟩ rfl ?_ ?_
  ·exact⟨by omega,by omega,fun j hj=>by omega⟩
  ·rintro i hI
   obtain⟨g0,g1,g2⟩:=hI
   refine gk_seq ?_
   refine gk_seq ?_
   refine gk_region ?_
   refine gk_y rfl rfl (y_move rfl) ?_
   refine gk_y rfl rfl (y_fieldAddr fo37_5 rfl) ?_
   refine gk_y rfl rfl (y_loadB1 0 tf35 rfl rfl rfl) ?_
   refine gk_y rfl rfl (y_lenS (Tryz.underlying35) rfl) ?_
   refine gk_y rfl rfl (y_lss rfl rfl) ?_
   refine gk_nil (gk_sub (T':=[(1,_),(2,_),(3,_),(43,_)]) ⟨rfl,rfl,rfl,rfl,trivial⟩ ?_)
   refine gk_cond rfl (fun hc43=>?_) (fun hc43=>?_)
   ·simp only [decide_eq_true_eq] at hc43
    refine gk_skip ?_
    refine gk_seq ?_
    refine gk_block ?_
    refine gk_seq ?_
    refine gk_region ?_
    refine gk_y rfl rfl (y_fieldAddr fo37_5 rfl) ?_
    refine gk_y rfl rfl (y_loadB1 0 tf35 rfl rfl rfl) ?_
    refine gk_y rfl rfl (y_move rfl) ?_
    refine gk_y rfl rfl (y_indexE se35 rfl rfl (fun _ hw=>(Rd.has (Has.rd hl) hw)) (by omega) (by omega)) ?_
    refine gk_y rfl rfl (y_loadE1 tf3 rfl (fun _ hw=>(Rd.has (Has.rd hl) hw)) (by omega) (by omega) rfl) ?_
    refine gk_y rfl rfl (y_call en52 rfl (fun w hw=>in_c _ _ _ w)) ?_
    refine gk_y rfl rfl (y_not rfl) ?_
    refine gk_nil (gk_sub (T':=[(1,_),(2,_),(3,_),(52,_)]) ⟨rfl,rfl,rfl,rfl,trivial⟩ ?_)
    refine gk_cond rfl (fun hc52=>?_) (fun hc52=>?_)
    ·
     refine gk_seq ?_
     refine gk_region ?_
     refine gk_y rfl rfl (y_assign rfl) ?_
     refine gk_nil (gk_sub (T':=[(1,_),(2,_),(3,_)]) ⟨rfl,rfl,rfl,trivial⟩ ?_)
     refine gk_ret ?_
     refine gk_pure (rv_one rfl (r1_tmp rfl)) ?_
     rw [sheetP_bad (by rw [badP_ref hco,v0_true g0 hc43 hc52]; simp)]
    ·
     refine gk_skip ?_
     refine gk_region ?_
     refine gk_y rfl rfl (y_move rfl) ?_
     refine gk_y rfl rfl (y_addI rfl rfl (by omega) (by omega)) ?_
     refine gk_y rfl rfl (y_assign rfl) ?_
     refine gk_nil (gk_sub (T':=[(1,_),(2,_),(3,_)]) ⟨rfl,rfl,rfl,trivial⟩ ?_)
     exact gk_next (i+1) ⟨rfl,rfl,rfl,trivial⟩ rfl ⟨by omega,by omega,below_nat (f:=fun j=>!inB (s.heights.getD j default) 1 1000) g0 g2 hc52⟩ (by omega)
   ·simp only [decide_eq_false_iff_not] at hc43
    refine gk_exit rfl ?_
    refine gk_seq ?_
    refine gk_seq ?_
    refine gk_any 28 (fun _=>mixed) (by kernel_rfl) ?_
    refine ph_y (y_fieldAddr fo37_6 rfl) ?_
    refine ph_y (y_loadB1 0 tf3 rfl rfl rfl) ?_
    refine ph_y (y_call en52 rfl (fun w hw=>in_c _ _ _ w)) ?_
    refine ph_y (y_not rfl) ?_
    refine ph_y (y_move rfl) ?_
    refine ph_gF rfl rfl (fun hgd=>by(try rw [hgd]); exact(y_fieldAddr fo37_7 rfl)) ?_
    refine ph_gF rfl rfl (fun hgd=>by(try rw [hgd]); exact(y_loadB1 0 tf3 rfl rfl rfl)) ?_
    refine ph_gF rfl rfl (fun hgd=>by(try rw [hgd]); exact(y_call (v:=.bool (inB s.lap 0 500)) en52 rfl (fun w hw=>in_c _ _ _ w))) ?_
    refine ph_gF rfl rfl (fun hgd=>by(try rw [hgd]); exact(y_not rfl)) ?_
    refine ph_y (y_pickOr rfl rfl rfl) ?_
    refine ph_y (y_move rfl) ?_
    refine ph_gF rfl rfl (fun hgd=>by(try rw [hgd]); exact(y_fieldAddr fo37_8 rfl)) ?_
    refine ph_gF rfl rfl (fun hgd=>by(try rw [hgd]); exact(y_loadB1 0 tf3 rfl rfl rfl)) ?_
    refine ph_gF rfl rfl (fun hgd=>by(try rw [hgd]); exact(y_call (v:=.bool (inB s.run 1 20)) en52 rfl (fun w hw=>in_c _ _ _ w))) ?_
    refine ph_gF rfl rfl (fun hgd=>by(try rw [hgd]); exact(y_not rfl)) ?_
    refine ph_y (y_pickOr rfl rfl rfl) ?_
    refine ph_y (y_move rfl) ?_
    refine ph_gF rfl rfl (fun hgd=>by(try rw [hgd]); exact(y_fieldAddr fo37_11 rfl)) ?_
    refine ph_gF rfl rfl (fun hgd=>by(try rw [hgd]); exact(y_loadB1 0 tf3 rfl rfl rfl)) ?_
    refine ph_gF rfl rfl (fun hgd=>by(try rw [hgd]); exact(y_call (v:=.bool (inB s.footing 0 1000)) en52 rfl (fun w hw=>in_c _ _ _ w))) ?_
    refine ph_gF rfl rfl (fun hgd=>by(try rw [hgd]); exact(y_not rfl)) ?_
    refine ph_y (y_pickOr rfl rfl rfl) ?_
    refine ph_y (y_move rfl) ?_
    refine ph_gF rfl rfl (fun hgd=>by(try rw [hgd]); exact(y_fieldAddr fo37_12 rfl)) ?_
    refine ph_gF rfl rfl (fun hgd=>by(try rw [hgd]); exact(y_loadB1 0 tf3 rfl rfl rfl)) ?_
    refine ph_gF rfl rfl (fun hgd=>by(try rw [hgd]); exact(y_call (v:=.bool (inB s.spread 0 1000)) en52 rfl (fun w hw=>in_c _ _ _ w))) ?_
    refine ph_gF rfl rfl (fun hgd=>by(try rw [hgd]); exact(y_not rfl)) ?_
    refine ph_y (y_pickOr rfl rfl rfl) ?_
    refine gk_nil (gk_sub (T':=[(1,_),(2,_),(80,_)]) ⟨rfl,rfl,rfl,trivial⟩ ?_)
    refine gk_cond rfl (fun hc80=>?_) (fun hc80=>?_)
    ·
     refine gk_seq ?_
     refine gk_region ?_
     refine gk_y rfl rfl (y_assign rfl) ?_
     refine gk_nil (gk_sub (T':=[(1,_),(2,_)]) ⟨rfl,rfl,trivial⟩ ?_)
     refine gk_ret ?_
     refine gk_pure (rv_one rfl (r1_tmp rfl)) ?_
     rw [sheetP_bad (by rw [badP_ref hco,show v2 s=true from hc80]; simp)]
    ·
     refine gk_skip ?_
     refine gk_seq ?_
     refine gk_seq ?_
     refine gk_any 20 (fun _=>mixed) (by kernel_rfl) ?_
     refine ph_y (y_fieldAddr fo37_9 rfl) ?_
     refine ph_y (y_loadB1 0 tf3 rfl rfl rfl) ?_
     refine ph_y (y_eql rfl rfl) ?_
     refine ph_y (y_move rfl) ?_
     refine ph_gT rfl rfl (fun hgd=>by(try rw [hgd]); exact(y_fieldAddr fo37_10 rfl)) ?_
     refine ph_gT rfl rfl (fun hgd=>by(try rw [hgd]); exact(y_loadB1 0 tf3 rfl rfl rfl)) ?_
     refine ph_gT rfl rfl (fun hgd=>by(try rw [hgd]); exact(y_eql rfl rfl)) ?_
     refine ph_y (y_pickAnd rfl rfl rfl) ?_
     refine ph_y (y_not rfl) ?_
     refine ph_y (y_move rfl) ?_
     refine ph_gT rfl rfl (fun hgd=>by(try rw [hgd]); exact(y_fieldAddr fo37_9 rfl)) ?_
     refine ph_gT rfl rfl (fun hgd=>by(try rw [hgd]); exact(y_loadB1 0 tf3 rfl rfl rfl)) ?_
     refine ph_gT rfl rfl (fun hgd=>by(try rw [hgd]); exact(y_call (v:=.bool (inB s.every 1 100000)) en52 rfl (fun w hw=>in_c _ _ _ w))) ?_
     refine ph_gT rfl rfl (fun hgd=>by(try rw [hgd]); exact(y_move rfl)) ?_
     refine ph_gTT rfl rfl (fun hgd=>by(try rw [hgd]); exact(y_fieldAddr fo37_10 rfl)) ?_
     refine ph_gTT rfl rfl (fun hgd=>by(try rw [hgd]); exact(y_loadB1 0 tf3 rfl rfl rfl)) ?_
     refine ph_gTT rfl rfl (fun hgd=>by(try rw [hgd]); exact(y_call (v:=.bool (inB s.at_ 0 3000)) en52 rfl (fun w hw=>in_c _ _ _ w))) ?_
     refine ph_gT rfl rfl (fun hgd=>by(try rw [hgd]); exact(y_pickAnd rfl rfl rfl)) ?_
     refine ph_gT rfl rfl (fun hgd=>by(try rw [hgd]); exact(y_not rfl)) ?_
     refine ph_y (y_pickAnd rfl rfl rfl) ?_
     refine gk_nil (gk_sub (T':=[(1,_),(2,_),(100,_)]) ⟨rfl,rfl,rfl,trivial⟩ ?_)
     refine gk_cond rfl (fun hc100=>?_) (fun hc100=>?_)
     ·
      refine gk_seq ?_
      refine gk_region ?_
      refine gk_y rfl rfl (y_assign rfl) ?_
      refine gk_nil (gk_sub (T':=[(1,_),(2,_)]) ⟨rfl,rfl,trivial⟩ ?_)
      refine gk_ret ?_
      refine gk_pure (rv_one rfl (r1_tmp rfl)) ?_
      rw [sheetP_bad (by rw [badP_ref hco,show v3 s=true from hc100]; simp)]
     ·
      refine gk_skip ?_
      refine gk_seq ?_
      refine gk_seq ?_
      refine gk_any 23 (fun _=>mixed) (by kernel_rfl) ?_
      refine ph_y (y_fieldAddr fo37_18 rfl) ?_
      refine ph_y (y_loadB1 0 tf3 rfl rfl rfl) ?_
      refine ph_y (y_call en52 rfl (fun w hw=>in_c _ _ _ w)) ?_
      refine ph_y (y_not rfl) ?_
      refine ph_y (y_move rfl) ?_
      refine ph_gF rfl rfl (fun hgd=>by(try rw [hgd]); exact(y_fieldAddr fo37_17 rfl)) ?_
      refine ph_gF rfl rfl (fun hgd=>by(try rw [hgd]); exact(y_loadB1 0 tf3 rfl rfl rfl)) ?_
      refine ph_gF rfl rfl (fun hgd=>by(try rw [hgd]); exact(y_fieldAddr fo37_18 rfl)) ?_
      refine ph_gF rfl rfl (fun hgd=>by(try rw [hgd]); exact(y_loadB1 0 tf3 rfl rfl rfl)) ?_
      refine ph_gF rfl rfl (fun hgd=>by(try rw [hgd]); exact(y_call (v:=.bool (inB s.low 0 s.high)) en52 rfl (fun w hw=>in_c _ _ _ w))) ?_
      refine ph_gF rfl rfl (fun hgd=>by(try rw [hgd]); exact(y_not rfl)) ?_
      refine ph_y (y_pickOr rfl rfl rfl) ?_
      refine ph_y (y_move rfl) ?_
      refine ph_gF rfl rfl (fun hgd=>by(try rw [hgd]); exact(y_fieldAddr fo37_19 rfl)) ?_
      refine ph_gF rfl rfl (fun hgd=>by(try rw [hgd]); exact(y_loadB1 0 tf3 rfl rfl rfl)) ?_
      refine ph_gF rfl rfl (fun hgd=>by(try rw [hgd]); exact(y_call (v:=.bool (inB s.rood 1 100000)) en52 rfl (fun w hw=>in_c _ _ _ w))) ?_
      refine ph_gF rfl rfl (fun hgd=>by(try rw [hgd]); exact(y_not rfl)) ?_
      refine ph_y (y_pickOr rfl rfl rfl) ?_
      refine ph_y (y_move rfl) ?_
      refine ph_gF rfl rfl (fun hgd=>by(try rw [hgd]); exact(y_fieldAddr fo37_13 rfl)) ?_
      refine ph_gF rfl rfl (fun hgd=>by(try rw [hgd]); exact(y_loadB1 0 tf5 rfl rfl rfl)) ?_
      refine ph_gF rfl rfl (fun hgd=>by(try rw [hgd]); exact(y_gtr rfl rfl)) ?_
      refine ph_y (y_pickOr rfl rfl rfl) ?_
      refine gk_nil (gk_sub (T':=[(1,_),(2,_),(123,_)]) ⟨rfl,rfl,rfl,trivial⟩ ?_)
      refine gk_cond rfl (fun hc123=>?_) (fun hc123=>?_)
      ·
       refine gk_seq ?_
       refine gk_region ?_
       refine gk_y rfl rfl (y_assign rfl) ?_
       refine gk_nil (gk_sub (T':=[(1,_),(2,_)]) ⟨rfl,rfl,trivial⟩ ?_)
       refine gk_ret ?_
       refine gk_pure (rv_one rfl (r1_tmp rfl)) ?_
       rw [sheetP_bad (by rw [badP_ref hco,show v4 s=true from hc123]; simp)]
      ·
       refine gk_skip ?_
       refine gk_seq ?_
       refine gk_seq ?_
       refine gk_any 18 (fun _=>mixed) (by kernel_rfl) ?_
       refine ph_y (y_fieldAddr fo37_13 rfl) ?_
       refine ph_y (y_loadB1 0 tf5 rfl rfl rfl) ?_
       refine ph_y (y_eql rfl rfl) ?_
       refine ph_y (y_move rfl) ?_
       refine ph_gT rfl rfl (fun hgd=>by(try rw [hgd]); exact(y_fieldAddr fo37_14 rfl)) ?_
       refine ph_gT rfl rfl (fun hgd=>by(try rw [hgd]); exact(y_loadB1 0 tf3 rfl rfl rfl)) ?_
       refine ph_gT rfl rfl (fun hgd=>by(try rw [hgd]); exact(y_neq rfl rfl)) ?_
       refine ph_gT rfl rfl (fun hgd=>by(try rw [hgd]); exact(y_move rfl)) ?_
       refine ph_gTF rfl rfl (fun hgd=>by(try rw [hgd]); exact(y_fieldAddr fo37_15 rfl)) ?_
       refine ph_gTF rfl rfl (fun hgd=>by(try rw [hgd]); exact(y_loadB1 0 tf3 rfl rfl rfl)) ?_
       refine ph_gTF rfl rfl (fun hgd=>by(try rw [hgd]); exact(y_neq rfl rfl)) ?_
       refine ph_gT rfl rfl (fun hgd=>by(try rw [hgd]); exact(y_pickOr rfl rfl rfl)) ?_
       refine ph_gT rfl rfl (fun hgd=>by(try rw [hgd]); exact(y_move rfl)) ?_
       refine ph_gTF rfl rfl (fun hgd=>by(try rw [hgd]); exact(y_fieldAddr fo37_16 rfl)) ?_
       refine ph_gTF rfl rfl (fun hgd=>by(try rw [hgd]); exact(y_loadB1 0 tf3 rfl rfl rfl)) ?_
       refine ph_gTF rfl rfl (fun hgd=>by(try rw [hgd]); exact(y_neq rfl rfl)) ?_
       refine ph_gT rfl rfl (fun hgd=>by(try rw [hgd]); exact(y_pickOr rfl rfl rfl)) ?_
       refine ph_y (y_pickAnd rfl rfl rfl) ?_
       refine gk_nil (gk_sub (T':=[(1,_),(2,_),(141,_)]) ⟨rfl,rfl,rfl,trivial⟩ ?_)
       refine gk_cond rfl (fun hc141=>?_) (fun hc141=>?_)
       ·
        refine gk_seq ?_
        refine gk_region ?_
        refine gk_y rfl rfl (y_assign rfl) ?_
        refine gk_nil (gk_sub (T':=[(1,_),(2,_)]) ⟨rfl,rfl,trivial⟩ ?_)
        refine gk_ret ?_
        refine gk_pure (rv_one rfl (r1_tmp rfl)) ?_
        rw [sheetP_bad (by rw [badP_ref hco,show v5 s=true from hc141]; simp)]
       ·
        refine gk_skip ?_
        refine gk_seq ?_
        refine gk_seq ?_
        refine gk_any 15 (fun _=>mixed) (by kernel_rfl) ?_
        refine ph_y (y_fieldAddr fo37_13 rfl) ?_
        refine ph_y (y_loadB1 0 tf5 rfl rfl rfl) ?_
        refine ph_y (y_neq rfl rfl) ?_
        refine ph_y (y_move rfl) ?_
        refine ph_gT rfl rfl (fun hgd=>by(try rw [hgd]); exact(y_fieldAddr fo37_14 rfl)) ?_
        refine ph_gT rfl rfl (fun hgd=>by(try rw [hgd]); exact(y_loadB1 0 tf3 rfl rfl rfl)) ?_
        refine ph_gT rfl rfl (fun hgd=>by(try rw [hgd]); exact(y_call (v:=.bool (inB s.tall 1 1000)) en52 rfl (fun w hw=>in_c _ _ _ w))) ?_
        refine ph_gT rfl rfl (fun hgd=>by(try rw [hgd]); exact(y_not rfl)) ?_
        refine ph_gT rfl rfl (fun hgd=>by(try rw [hgd]); exact(y_move rfl)) ?_
        refine ph_gTF rfl rfl (fun hgd=>by(try rw [hgd]); exact(y_fieldAddr fo37_16 rfl)) ?_
        refine ph_gTF rfl rfl (fun hgd=>by(try rw [hgd]); exact(y_loadB1 0 tf3 rfl rfl rfl)) ?_
        refine ph_gTF rfl rfl (fun hgd=>by(try rw [hgd]); exact(y_call (v:=.bool (inB s.thick 1 1000)) en52 rfl (fun w hw=>in_c _ _ _ w))) ?_
        refine ph_gTF rfl rfl (fun hgd=>by(try rw [hgd]); exact(y_not rfl)) ?_
        refine ph_gT rfl rfl (fun hgd=>by(try rw [hgd]); exact(y_pickOr rfl rfl rfl)) ?_
        refine ph_y (y_pickAnd rfl rfl rfl) ?_
        refine gk_nil (gk_sub (T':=[(1,_),(2,_),(156,_)]) ⟨rfl,rfl,rfl,trivial⟩ ?_)
        refine gk_cond rfl (fun hc156=>?_) (fun hc156=>?_)
        ·
         refine gk_seq ?_
         refine gk_region ?_
         refine gk_y rfl rfl (y_assign rfl) ?_
         refine gk_nil (gk_sub (T':=[(1,_),(2,_)]) ⟨rfl,rfl,trivial⟩ ?_)
         refine gk_ret ?_
         refine gk_pure (rv_one rfl (r1_tmp rfl)) ?_
         rw [sheetP_bad (by rw [badP_ref hco,show v6 s=true from hc156]; simp)]
        ·
         refine gk_skip ?_
         refine gk_seq ?_
         refine gk_seq ?_
         refine gk_any 19 (fun _=>mixed) (by kernel_rfl) ?_
         refine ph_y (y_fieldAddr fo37_13 rfl) ?_
         refine ph_y (y_loadB1 0 tf5 rfl rfl rfl) ?_
         refine ph_y (y_eql rfl rfl) ?_
         refine ph_y (y_move rfl) ?_
         refine ph_gT rfl rfl (fun hgd=>by(try rw [hgd]); exact(y_fieldAddr fo37_15 rfl)) ?_
         refine ph_gT rfl rfl (fun hgd=>by(try rw [hgd]); exact(y_loadB1 0 tf3 rfl rfl rfl)) ?_
         refine ph_gT rfl rfl (fun hgd=>by(try rw [hgd]); exact(y_call (v:=.bool (inB s.short 1 1000)) en52 rfl (fun w hw=>in_c _ _ _ w))) ?_
         refine ph_gT rfl rfl (fun hgd=>by(try rw [hgd]); exact(y_not rfl)) ?_
         refine ph_y (y_pickAnd rfl rfl rfl) ?_
         refine ph_y (y_move rfl) ?_
         refine ph_gF rfl rfl (fun hgd=>by(try rw [hgd]); exact(y_fieldAddr fo37_13 rfl)) ?_
         refine ph_gF rfl rfl (fun hgd=>by(try rw [hgd]); exact(y_loadB1 0 tf5 rfl rfl rfl)) ?_
         refine ph_gF rfl rfl (fun hgd=>by(try rw [hgd]); exact(y_neq rfl rfl)) ?_
         refine ph_gF rfl rfl (fun hgd=>by(try rw [hgd]); exact(y_move rfl)) ?_
         refine ph_gTT rfl rfl (fun hgd=>by(try rw [hgd]); exact(y_fieldAddr fo37_15 rfl)) ?_
         refine ph_gTT rfl rfl (fun hgd=>by(try rw [hgd]); exact(y_loadB1 0 tf3 rfl rfl rfl)) ?_
         refine ph_gTT rfl rfl (fun hgd=>by(try rw [hgd]); exact(y_neq rfl rfl)) ?_
         refine ph_gF rfl rfl (fun hgd=>by(try rw [hgd]); exact(y_pickAnd rfl rfl rfl)) ?_
         refine ph_y (y_pickOr rfl rfl rfl) ?_
         refine gk_nil (gk_sub (T':=[(1,_),(2,_),(175,_)]) ⟨rfl,rfl,rfl,trivial⟩ ?_)
         refine gk_cond rfl (fun hc175=>?_) (fun hc175=>?_)
         ·
          refine gk_seq ?_
          refine gk_region ?_
          refine gk_y rfl rfl (y_assign rfl) ?_
          refine gk_nil (gk_sub (T':=[(1,_),(2,_)]) ⟨rfl,rfl,trivial⟩ ?_)
          refine gk_ret ?_
          refine gk_pure (rv_one rfl (r1_tmp rfl)) ?_
          rw [sheetP_bad (by rw [badP_ref hco,show v7 s=true from hc175]; simp)]
         ·have hbad:=badP_all hco hc38 (v0_false hc43 g2) hc80 hc100 hc123 hc141 hc156 hc175
          refine gk_skip ?_
          refine gk_seq ?_
          refine gk_region ?_
          refine gk_y rfl rfl (y_loadBA 0 tf37 rfl rfl (vs:=[_,_,_,_,_,_,_,_,_,_,_,_,_,_,_,_,_,_,_,_]) rfl rfl) ?_
          refine gk_y rfl rfl (y_fieldAddr fo37_3 rfl) ?_
          refine gk_y rfl rfl (y_loadB1 0 tf3 rfl rfl rfl) ?_
          refine gk_y rfl rfl (y_call en22 rfl (fun w hw=>rwidth_c a cap s _ w)) ?_
          refine gk_y rfl rfl (y_geq rfl rfl) ?_
          refine gk_y rfl rfl (y_move rfl) ?_
          refine gk_guard rfl rfl rfl rfl (fun hg181=>?_) (fun hg181=>?_)
          ·replace hg181:_=true:=hg181
           try rw [hg181]
           refine gk_y rfl rfl (y_loadBA 0 tf37 rfl rfl (vs:=[_,_,_,_,_,_,_,_,_,_,_,_,_,_,_,_,_,_,_,_]) rfl rfl) ?_
           refine gk_guard rfl rfl rfl rfl (fun _=>?_) (fun h=>absurd h (by decide))
           refine gk_yx rfl rfl (yx_call en21 rfl (fun w hw=>rcourses_c a cap s w (Rd.has (Has.rd hl) hw) (nums_ok hbad))) fun p183=>?_
           refine gk_guard rfl rfl rfl rfl (fun _=>?_) (fun h=>absurd h (by decide))
           refine gk_y rfl rfl (y_lenS (Tryz.underlying46) rfl) ?_
           refine gk_guard rfl rfl rfl rfl (fun _=>?_) (fun h=>absurd h (by decide))
           refine gk_y rfl rfl (y_leq rfl rfl) ?_
           refine gk_y rfl rfl (y_pick rfl rfl rfl) ?_
           refine gk_y rfl rfl (y_assign rfl) ?_
           refine gk_nil (gk_sub (T':=[(2,_)]) ⟨rfl,trivial⟩ ?_)
           refine gk_ret ?_
           refine gk_pure (rv_one rfl (r1_tmp rfl)) ?_
           rw [sheet_end hbad,hg181]; rfl
          ·replace hg181:_=false:=hg181
           try rw [hg181]
           refine gk_guard rfl rfl rfl rfl (fun h=>absurd h (by decide)) (fun _=>?_)
           refine gk_guard rfl rfl rfl rfl (fun h=>absurd h (by decide)) (fun _=>?_)
           refine gk_guard rfl rfl rfl rfl (fun h=>absurd h (by decide)) (fun _=>?_)
           refine gk_y rfl rfl (y_pick rfl rfl rfl) ?_
           refine gk_y rfl rfl (y_assign rfl) ?_
           refine gk_nil (gk_sub (T':=[(2,_)]) ⟨rfl,trivial⟩ ?_)
           refine gk_ret ?_
           refine gk_pure (rv_one rfl (r1_tmp rfl)) ?_
           rw [sheet_end hbad,hg181]; rfl
end Go.Proofs.YtdcfcfhmkfkgmaaGreatDoor
namespace Go.Pln
open Go Go.K Go.RowKit Go.Stn
abbrev Knd (o:Opn):Prop:=0≤o.kind∧o.kind≤255
def fitsK (len top:Int) (o:Opn):Bool:=keptB [⟨W o.kind,1,4⟩,⟨len,1,100000⟩,⟨o.width,1,len⟩,⟨o.at_,0,W (len - o.width)⟩,⟨o.high,1,top⟩,⟨o.frm,0,W (top - o.high)⟩]
theorem in_iff {n lo hi:Int}:inB n lo hi=true↔lo≤n∧n≤hi:=by
 unfold inB; simp only [Bool.and_eq_true,decide_eq_true_eq]
theorem fitsK_iff {len top:Int} {o:Opn} (hk:Knd o) (hl:1≤len∧len≤100000) (hh:0≤top∧top≤3000) :
  fitsK len top o=true↔(1≤o.kind∧o.kind≤4)∧(1≤o.width∧o.width≤len)∧(0≤o.at_∧o.at_≤len - o.width)∧(1≤o.high∧o.high≤top)∧(0≤o.frm∧o.frm≤top - o.high):=by
 unfold fitsK
 simp only [kept_cons,kept_nil,Bool.and_eq_true,in_iff,and_true]
 rw [wrap_in (n:=o.kind) (by omega) (by omega)]
 constructor
 ·rintro ⟨a,b,c,d,e,f⟩
  rw [wrap_in (by omega) (by omega)] at d f
  exact⟨a,c,d,e,f⟩
 ·rintro ⟨a,c,d,e,f⟩
  rw [wrap_in (n:=len - o.width) (by omega) (by omega),wrap_in (n:=top - o.high) (by omega) (by omega)]
  exact⟨a,hl,c,d,e,f⟩
structure FitsF (len top:Int) (o:Opn):Prop where
 k:1≤o.kind∧o.kind≤4
 w:1≤o.width∧o.width≤len
 a:0≤o.at_∧o.at_+o.width≤len
 h:1≤o.high∧o.high≤top
 f:0≤o.frm∧o.frm+o.high≤top
 l:1≤len∧len≤100000
 s:o.kind=3→o.frm+o.high=top
 g:o.kind=4→o.frm+o.high=top∧o.frm=0
theorem fitsB_iff {len top:Int} {o:Opn}:fitsB len top o=true↔FitsF len top o:=by
 unfold fitsB
 simp only [Bool.and_eq_true,Bool.or_eq_true,Bool.not_eq_true',decide_eq_true_eq,decide_eq_false_iff_not,in_iff]
 constructor
 ·rintro ⟨⟨⟨⟨⟨⟨a,b⟩,c⟩,d⟩,e⟩,f⟩,g,h⟩
  exact⟨a,c,by omega,e,by omega,b,by omega,by omega⟩
 ·rintro ⟨a,b,c,d,e,f,g,h⟩
  refine⟨⟨⟨⟨⟨⟨a,f⟩,b⟩,by omega⟩,d⟩,by omega⟩,?_,?_⟩
  ·by_cases h3:o.kind=3
   ·exact .inr (g h3)
   ·exact .inl h3
  ·by_cases h4:o.kind=4
   ·exact .inr (h h4)
   ·exact .inl h4
theorem fits_no {len top:Int} {o:Opn} (hk:Knd o) (hl:1≤len∧len≤100000) (hh:0≤top∧top≤3000) (h:(!fitsK len top o)=true):fitsB len top o=false:=by
 cases hb:fitsB len top o with
 | false=>rfl
 | true=>
  have f:=fitsB_iff.1 hb
  have:=(fitsK_iff hk hl hh).2 ⟨f.k,f.w,by have:=f.a; omega,f.h,by have:=f.f; omega⟩
  rw [this] at h; cases h
theorem fits_yes {len top:Int} {o:Opn} (hk:Knd o) (hl:1≤len∧len≤100000) (hh:0≤top∧top≤3000) (h:(!fitsK len top o)=false) :
  fitsB len top o=((!decide (o.kind=3)||decide (o.frm+o.high=top))&&(!decide (o.kind=4)||(decide (o.frm+o.high=top)&&decide (o.frm=0)))):=by
 have f:=(fitsK_iff hk hl hh).1 (of_nf h)
 unfold fitsB
 rw [show inB o.kind 1 4=true from in_iff.2 f.1,show inB len 1 100000=true from in_iff.2 hl,show inB o.width 1 len=true from in_iff.2 f.2.1,show inB o.at_ 0 (len - o.width)=true from in_iff.2 f.2.2.1,show inB o.high 1 top=true from in_iff.2 f.2.2.2.1,show inB o.frm 0 (top - o.high)=true from in_iff.2 f.2.2.2.2]
 simp
def meetsW (o p:Opn):Bool:=decide (o.at_ < W (p.at_+p.width))&&decide (p.at_ < W (o.at_+o.width))&&decide (o.frm < W (p.frm+p.high))&&decide (p.frm < W (o.frm+o.high))
theorem meetsW_eq {len top:Int} {o p:Opn} (hh:top≤3000) (ho:FitsF len top o) (hp:FitsF len top p):meetsW o p=meetsB o p:=by
 have a1:=ho.a; have a2:=ho.f; have a3:=hp.a; have a4:=hp.f; have a5:=ho.w; have a6:=ho.h; have a7:=hp.w; have a8:=hp.h; have a9:=ho.l
 unfold meetsW meetsB
 rw [wrap_in (n:=p.at_+p.width) (by omega) (by omega),wrap_in (n:=o.at_+o.width) (by omega) (by omega),wrap_in (n:=p.frm+p.high) (by omega) (by omega),wrap_in (n:=o.frm+o.high) (by omega) (by omega)]
theorem openAt_fits {top:Int} {w:Wll} {i:Nat} (h:openAt top w i=true):FitsF w.length top (w.opens.getD i default):=by
 unfold openAt at h
 simp only [Bool.and_eq_true] at h
 exact fitsB_iff.1 h.1
theorem any_meets {top:Int} {w:Wll} {i:Int} (hh:top≤3000) (h0:0≤i) (h1:i < (w.opens.length:Int)) (hp:∀ j:Nat,(j:Int) < i→openAt top w j=true) (ho:FitsF w.length top (w.opens.getD i.toNat default)) :
  (w.opens.take i.toNat).any (meetsW (w.opens.getD i.toNat default))=(w.opens.take i.toNat).any (fun q=>meetsB (w.opens.getD i.toNat default) q):=by
 have key:∀ q∈w.opens.take i.toNat,meetsW (w.opens.getD i.toNat default) q=meetsB (w.opens.getD i.toNat default) q:=fun q hq=>by
  obtain⟨j,hj,rfl⟩:=List.getElem_of_mem hq
  rw [List.length_take] at hj
  have hf:=openAt_fits (hp j (by omega))
  rw [List.getD_eq_getElem?_getD,List.getElem?_eq_getElem (by omega)] at hf
  rw [List.getElem_take]
  exact meetsW_eq hh ho hf
 rw [Bool.eq_iff_iff,List.any_eq_true,List.any_eq_true]
 exact⟨fun⟨q,h1,h2⟩=>⟨q,h1,by rw [←key q h1]; exact h2⟩,fun⟨q,h1,h2⟩=>⟨q,h1,by rw [key q h1]; exact h2⟩⟩
theorem openAt_of {top:Int} {w:Wll} {i:Int} (hh:top≤3000) (h0:0≤i) (h1:i < (w.opens.length:Int)) (hp:∀ j:Nat,(j:Int) < i→openAt top w j=true) :
  (!fitsB w.length top (w.opens.getD i.toNat default)||(w.opens.take i.toNat).any (meetsW (w.opens.getD i.toNat default))) = !openAt top w i.toNat:=by
 unfold openAt
 cases hf:fitsB w.length top (w.opens.getD i.toNat default) with
 | false=>rfl
 | true=>rw [any_meets hh h0 h1 hp (fitsB_iff.1 hf)]; simp
def wall0 (w:Wll):Bool:=rnamedB w.name&&inB w.length 1 100000&&inB (w.opens.length:Int) 0 20
theorem wallB_eq (top:Int) (w:Wll):wallB top w=(wall0 w&&allI w.opens.length fun i=>openAt top w i):=rfl
theorem wall_no0 {top:Int} {w:Wll} (h:wall0 w=false):wallB top w=false:=by rw [wallB_eq,h]; rfl
theorem wall_noI {top:Int} {w:Wll} {i:Int} (h0:0≤i) (h1:i < (w.opens.length:Int)) (h:openAt top w i.toNat=false):wallB top w=false:=by
 rw [wallB_eq,allI_false (i:=i.toNat) (by omega) h,Bool.and_false]
theorem wall_yes {top:Int} {w:Wll} {i:Int} (h:wall0 w=true) (h1:¬ i < (w.opens.length:Int)) (hp:∀ j:Nat,(j:Int) < i→openAt top w j=true):wallB top w=true:=by
 rw [wallB_eq,h,allI_true (fun j hj=>hp j (by omega))]; rfl
theorem wall0_len {w:Wll} (h:wall0 w=true):(1≤w.length∧w.length≤100000)∧w.opens.length≤20:=by
 unfold wall0 at h
 simp only [Bool.and_eq_true,in_iff] at h
 omega
theorem wallB_0 {top:Int} {w:Wll} (h:wallB top w=true):wall0 w=true:=by
 rw [wallB_eq,Bool.and_eq_true] at h; exact h.1
theorem wall0_P (w:Wll):wall0 w = !(!namedB w.name||!keptB [⟨w.length,1,100000⟩,⟨(w.opens.length:Int),0,20⟩]):=by
 unfold wall0
 rw [kept_cons,kept_cons,kept_nil,named_eq]
 cases rnamedB w.name <;> cases inB w.length 1 100000 <;> cases inB (w.opens.length:Int) 0 20 <;> rfl
theorem wall0_R (w:Wll):wall0 w = !(!rnamedB w.name||!inB w.length 1 100000||decide (20 < (w.opens.length:Int))):=by
 unfold wall0
 have:inB (w.opens.length:Int) 0 20 = !decide (20 < (w.opens.length:Int)):=by
  rw [Bool.eq_iff_iff,in_iff,Bool.not_eq_true',decide_eq_false_iff_not]; omega
 rw [this]
 cases rnamedB w.name <;> cases inB w.length 1 100000 <;> cases decide (20 < (w.opens.length:Int)) <;> rfl
theorem true_succ {f:Nat→Bool} {i:Int} (h0:0≤i) (h:∀ j:Nat,(j:Int) < i→f j=true) (hi:f i.toNat=true):∀ j:Nat,(j:Int) < i+1→f j=true:=fun j hj=>by
 rcases Int.lt_or_eq_of_le (show(j:Int)≤i by omega) with g | g
 ·exact h j g
 ·rw [show j=i.toNat from by omega]; exact hi
def getSh (S:List ShC) (n:ByteArray):ShC:=if 0≤sheetI S n then S.getD (sheetI S n).toNat default else default
theorem findI_lt {α:Type} (p:α→Bool) (l:List α):findI p l < (l.length:Int)∨findI p l = -1:=by
 unfold findI
 split
 ·rename_i h
  left
  obtain⟨x,hx,hp⟩:=List.any_eq_true.1 h
  have:=List.findIdx_lt_length_of_exists ⟨x,hx,hp⟩
  omega
 ·right; rfl
theorem findI_ge {α:Type} (p:α→Bool) (l:List α):-1≤findI p l:=by unfold findI; split <;> omega
theorem sheetI_lt {S:List ShC} {n:ByteArray} (h:0≤sheetI S n):sheetI S n < (S.length:Int):=by
 rcases findI_lt (fun z:ShC=>z.s.name.toList == n.toList) S with g | g
 ·exact g
 ·unfold sheetI at h; rw [g] at h; omega
theorem wallI_lt {S:List WlC} {n:ByteArray} (h:0≤wallI S n):wallI S n < (S.length:Int):=by
 rcases findI_lt (fun z:WlC=>z.s.name.toList == n.toList) S with g | g
 ·exact g
 ·unfold wallI at h; rw [g] at h; omega
theorem getSh_mem {S:List ShC} {n:ByteArray} (h:0≤sheetI S n):getSh S n∈S:=by
 unfold getSh
 rw [if_pos h]
 exact getD_memS (by have:=sheetI_lt h; omega)
theorem getSh_has {S:List ShC} {n:ByteArray} {w:World} (h:∀ z∈S,Has w (Ints z.a z.s.heights)):Has w (Ints (getSh S n).a (getSh S n).s.heights):=by
 by_cases h0:0≤sheetI S n
 ·exact h _ (getSh_mem h0)
 ·unfold getSh
  rw [if_neg h0]
  exact⟨fun _=>False,fun _ hk=>hk.elim,.inl rfl⟩
theorem getSh_of {S:List ShC} {n:ByteArray} {P:ShC→Prop} (h:∀ z∈S,P z) (hd:P default):P (getSh S n):=by
 by_cases h0:0≤sheetI S n
 ·exact h _ (getSh_mem h0)
 ·unfold getSh; rw [if_neg h0]; exact hd
theorem find_self {α:Type} [Inhabited α] {p:α→Bool} {l:List α} {i:Int} (h0:0≤i) (h1:i < (l.length:Int)) (hp:p (l.getD i.toNat default)=true):decide (findI p l=i) = !(l.take i.toNat).any p:=by
 rw [Bool.eq_iff_iff,decide_eq_true_eq,Bool.not_eq_true',List.any_eq_false]
 constructor
 ·intro h x hx
  obtain⟨j,hj,rfl⟩:=List.getElem_of_mem hx
  rw [List.length_take] at hj
  rw [List.getElem_take]
  have hany:l.any p=true:=List.any_eq_true.2 ⟨_,getD_memS (by omega),hp⟩
  unfold findI at h
  rw [if_pos hany] at h
  have:=List.not_of_lt_findIdx (p:=p) (xs:=l) (i:=j) (by omega)
  simpa using this
 ·intro h
  refine findI_hit h0 h1 (fun j hj=>?_) hp
  have:=h (l.getD j default) (by
   rw [List.getD_eq_getElem?_getD,List.getElem?_eq_getElem (by omega)]
   exact List.mem_take_iff_getElem.2 ⟨j,by omega,rfl⟩)
  simpa using this
theorem find_le {α:Type} [Inhabited α] {p:α→Bool} {l:List α} {i:Int} (h0:0≤i) (h1:i < (l.length:Int)) (hp:p (l.getD i.toNat default)=true):decide (findI p l < i) = !decide (findI p l=i):=by
 have hany:l.any p=true:=List.any_eq_true.2 ⟨_,getD_memS (by omega),hp⟩
 have hle:(l.findIdx p:Int)≤i:=by
  have:l.findIdx p≤i.toNat:=by
   rcases Nat.lt_or_ge i.toNat (l.findIdx p) with g | g
   ·have:=List.not_of_lt_findIdx g
    rw [List.getD_eq_getElem?_getD,List.getElem?_eq_getElem (by omega)] at hp
    simp at hp
    simp [hp] at this
   ·exact g
  omega
 unfold findI
 rw [if_pos hany,Bool.eq_iff_iff,decide_eq_true_eq,Bool.not_eq_true',decide_eq_false_iff_not]
 omega
def shAt (S:List ShC) (i:Nat):Bool:=!(S.take i).any (fun z=>z.s.name.toList == (S.getD i default).s.name.toList)&&sheetP (S.getD i default).s
def wlAt (S:List ShC) (V:List WlC) (i:Nat):Bool:=decide (0≤sheetI S (V.getD i default).s.sheet)&&!(V.take i).any (fun z=>z.s.name.toList == (V.getD i default).s.name.toList)&&wallB (getSh S (V.getD i default).s.sheet).s.height (V.getD i default).s
def planP (S:List ShC) (V:List WlC):Bool:=!(decide (20 < (S.length:Int))||decide (50 < (V.length:Int)))&&allI S.length (shAt S)&&allI V.length (wlAt S V)
def checkPl (S:List ShC) (V:List WlC):Int:=if planP S V=true then 0 else 2
end Go.Pln
namespace Go.Proofs.YtdcfcfhmkfkgmaaGreatDoor
open Go.K Go.Stn Go.Pln Go.RowKit
theorem tf28:TF Tryz.prog 28 false 1 (.slice none 0 0):=⟨by kernel_rfl,by kernel_rfl⟩
theorem tf29:TF Tryz.prog 29 false 1 (.slice none 0 0):=⟨by kernel_rfl,by kernel_rfl⟩
theorem tf49:TF Tryz.prog 49 true 2 (.agg #[.int IntKind.i64 0,.int IntKind.i64 0]):=⟨by kernel_rfl,by kernel_rfl⟩
theorem tf69:TF Tryz.prog 69 true 2 (.agg #[.int IntKind.i64 0,.int IntKind.i64 0]):=⟨by kernel_rfl,by kernel_rfl⟩
theorem tf92:TF Tryz.prog 92 false 1 (.slice none 0 0):=⟨by kernel_rfl,by kernel_rfl⟩
theorem tf94:TF Tryz.prog 94 true 4 (.agg #[.string ⟨#[]⟩,.string ⟨#[]⟩,.int IntKind.i64 0,.slice none 0 0]):=⟨by kernel_rfl,by kernel_rfl⟩
theorem tf98:TF Tryz.prog 98 true 5 (.agg #[.int IntKind.u8 0,.int IntKind.i64 0,.int IntKind.i64 0,.int IntKind.i64 0,.int IntKind.i64 0]):=⟨by kernel_rfl,by kernel_rfl⟩
theorem fo31_0:FO Tryz.prog 31 0 0:=⟨by kernel_rfl⟩
theorem fo31_1:FO Tryz.prog 31 1 1:=⟨by kernel_rfl⟩
theorem fo94_0:FO Tryz.prog 94 0 0:=⟨by kernel_rfl⟩
theorem fo94_2:FO Tryz.prog 94 2 2:=⟨by kernel_rfl⟩
theorem fo94_3:FO Tryz.prog 94 3 3:=⟨by kernel_rfl⟩
theorem fo98_0:FO Tryz.prog 98 0 0:=⟨by kernel_rfl⟩
theorem fo98_1:FO Tryz.prog 98 1 1:=⟨by kernel_rfl⟩
theorem fo98_2:FO Tryz.prog 98 2 2:=⟨by kernel_rfl⟩
theorem fo98_3:FO Tryz.prog 98 3 3:=⟨by kernel_rfl⟩
theorem fo98_4:FO Tryz.prog 98 4 4:=⟨by kernel_rfl⟩
theorem se28:SE Tryz.prog 28 41 20:=⟨Tryz.underlying28,by kernel_rfl⟩
theorem se29:SE Tryz.prog 29 94 4:=⟨Tryz.underlying29,by kernel_rfl⟩
theorem se59:SE Tryz.prog 59 69 2:=⟨Tryz.underlying59,by kernel_rfl⟩
theorem se92:SE Tryz.prog 92 98 5:=⟨Tryz.underlying92,by kernel_rfl⟩
theorem en73:En Tryz.prog 73:=en_of Tryz.func73 (by kernel_rfl) (by kernel_rfl)
theorem en74:En Tryz.prog 74:=en_of Tryz.func74 (by kernel_rfl) (by kernel_rfl)
theorem en75:En Tryz.prog 75:=en_of Tryz.func75 (by kernel_rfl) (by kernel_rfl)
theorem en76:En Tryz.prog 76:=en_of Tryz.func76 (by kernel_rfl) (by kernel_rfl)
theorem en77:En Tryz.prog 77:=en_of Tryz.func77 (by kernel_rfl) (by kernel_rfl)
theorem en78:En Tryz.prog 78:=en_of Tryz.func78 (by kernel_rfl) (by kernel_rfl)
theorem en79:En Tryz.prog 79:=en_of Tryz.func79 (by kernel_rfl) (by kernel_rfl)
theorem en104:En Tryz.prog 104:=en_of Tryz.func104 (by kernel_rfl) (by kernel_rfl)
theorem en121:En Tryz.prog 121:=en_of Tryz.func121 (by kernel_rfl) (by kernel_rfl)
theorem bd41_  (w:World):(Instr.build 41 #[]).run Tryz.prog w=.ok (.agg #[.string ⟨#[]⟩,.int IntKind.i64 0,.int IntKind.i64 0,.int IntKind.i64 0,.int IntKind.i64 0,.slice none 0 0,.int IntKind.i64 0,.int IntKind.i64 0,.int IntKind.i64 0,.int IntKind.i64 0,.int IntKind.i64 0,.int IntKind.i64 0,.int IntKind.i64 0,.int IntKind.u8 0,.int IntKind.i64 0,.int IntKind.i64 0,.int IntKind.i64 0,.int IntKind.i64 0,.int IntKind.i64 0,.int IntKind.i64 0]) w:=by kernel_rfl
theorem bs148_6 (x0_0:Int) (x0_1:Int) (x0_2:Int) (x1_0:Int) (x1_1:Int) (x1_2:Int) (x2_0:Int) (x2_1:Int) (x2_2:Int) (x3_0:Int) (x3_1:Int) (x3_2:Int) (x4_0:Int) (x4_1:Int) (x4_2:Int) (x5_0:Int) (x5_1:Int) (x5_2:Int) (w:World):(Instr.buildSlice 148 6 #[(0,.agg #[.int .i64 x0_0,.int .i64 x0_1,.int .i64 x0_2]),(1,.agg #[.int .i64 x1_0,.int .i64 x1_1,.int .i64 x1_2]),(2,.agg #[.int .i64 x2_0,.int .i64 x2_1,.int .i64 x2_2]),(3,.agg #[.int .i64 x3_0,.int .i64 x3_1,.int .i64 x3_2]),(4,.agg #[.int .i64 x4_0,.int .i64 x4_1,.int .i64 x4_2]),(5,.agg #[.int .i64 x5_0,.int .i64 x5_1,.int .i64 x5_2])]).run Tryz.prog w=.ok (.slice (some ⟨w.heap.size,0,none⟩) 6 6) (w.alloc (.cells (([⟨x0_0,x0_1,x0_2⟩,⟨x1_0,x1_1,x1_2⟩,⟨x2_0,x2_1,x2_2⟩,⟨x3_0,x3_1,x3_2⟩,⟨x4_0,x4_1,x4_2⟩,⟨x5_0,x5_1,x5_2⟩]:List (Lim)).flatMap encLim).toArray 117)):=by kernel_rfl
set_option maxRecDepth 100000 in
set_option maxHeartbeats 1000000 in
theorem indexfuncO_c (a:Option Addr) (cap:Nat) (l:List Opn) (f:Opn→Bool) (gg:FuncId) (gfs gcap:List Value) (w:World) (hl:Has w (Elems a 5 encOpn l)) (hs:Small l.length) (M:World→Prop) (hM:∀ w',Ext w w'→M w') (hen:En Tryz.prog gg) (hg:∀ (z:Opn) w',M w'→Calls Tryz.prog gg (gfs++[Value.agg #[.int .u8 z.kind,.int .i64 z.at_,.int .i64 z.width,.int .i64 z.frm,.int .i64 z.high]]++gcap).toArray w' (Pure (.bool (f z)) w')) :
  Calls Tryz.prog 104 #[.slice a l.length cap,.func (.func gg) gfs.toArray gcap.toArray] w (Pure (.int .i64 (findI f l)) w):=by
 refine calls_of_gk (vs:=[_,_]) Tryz.func104 rfl rfl (Nat.le_of_ble_eq_true rfl) ?_
 refine gk_seq ?_
 refine gk_region ?_
 refine gk_y rfl rfl (y_assign rfl) ?_
 refine gk_nil (gk_sub (T':=[(0,_),(1,_),(4,_)]) ⟨rfl,rfl,rfl,trivial⟩ ?_)
 refine gk_seq ?_
 refine gk_seq ?_
 refine gk_region ?_
 refine gk_y rfl rfl (y_move rfl) ?_
 refine gk_y rfl rfl (y_lenS (Tryz.underlying92) rfl) ?_
 refine gk_y rfl rfl (y_move rfl) ?_
 refine gk_nil (gk_sub (T':=[(0,_),(1,_),(4,_),(7,_),(8,_)]) ⟨rfl,rfl,rfl,rfl,rfl,trivial⟩ ?_)
 refine gk_block ?_
 refine gk_loop (X:=Int) (fun(i:Int)=>[(0,.slice a l.length cap),(1,.func (.func gg) gfs.toArray gcap.toArray),(4,.int .i64 0),(7,.int .i64 (l.length:Int)),(8,.int .i64 i)]) (fun(i:Int)=>[]) (fun(i:Int)=>(0≤i∧i≤l.length∧∀ j:Nat,(j:Int) < i→f (l.getD j default)=false)) (fun(i:Int)=>(l.length - i).toNat) 0 ⟨rfl,rfl,rfl,rfl,rfl,trivial⟩ rfl ?_ ?_
 ·exact⟨by omega,by omega,fun j hj=>by omega⟩
 ·rintro i hI
  obtain⟨g0,g1,g2⟩:=hI
  refine gk_seq ?_
  refine gk_region ?_
  refine gk_y rfl rfl (y_lss rfl rfl) ?_
  refine gk_nil (gk_sub (T':=[(0,_),(1,_),(4,_),(7,_),(8,_),(9,_)]) ⟨rfl,rfl,rfl,rfl,rfl,rfl,trivial⟩ ?_)
  refine gk_seq ?_
  refine gk_cond rfl (fun hc9=>?_) (fun hc9=>?_)
  ·simp only [decide_eq_true_eq] at hc9
   refine gk_skip ?_
   refine gk_seq ?_
   refine gk_block ?_
   refine gk_seq ?_
   refine gk_region ?_
   refine gk_y rfl rfl (y_move rfl) ?_
   refine gk_y rfl rfl (y_assign rfl) ?_
   refine gk_nil (gk_sub (T':=[(0,_),(1,_),(4,_),(5,_),(7,_),(8,_)]) ⟨rfl,rfl,rfl,rfl,rfl,rfl,trivial⟩ ?_)
   refine gk_seq ?_
   refine gk_region ?_
   refine gk_y rfl rfl (y_move rfl) ?_
   refine gk_y rfl rfl (y_move rfl) ?_
   refine gk_y rfl rfl (y_move rfl) ?_
   refine gk_y rfl rfl (y_indexE se92 rfl rfl (fun _ hw=>(Rd.has (Has.rd hl) hw)) (by omega) (by omega)) ?_
   refine gk_y rfl rfl (y_loadE (vs:=[_,_,_,_,_]) tf98 rfl (fun _ hw=>(Rd.has (Has.rd hl) hw)) (by omega) (by omega) rfl) ?_
   refine gk_y rfl rfl (y_callV (fs:=gfs) (cap:=gcap) hen rfl rfl (fun w hw=>hg (l.getD (i).toNat default) w (hM _ hw.base.ext0))) ?_
   refine gk_nil (gk_sub (T':=[(0,_),(1,_),(4,_),(5,_),(7,_),(8,_),(16,_)]) ⟨rfl,rfl,rfl,rfl,rfl,rfl,rfl,trivial⟩ ?_)
   refine gk_cond rfl (fun hc16=>?_) (fun hc16=>?_)
   ·
    refine gk_seq ?_
    refine gk_region ?_
    refine gk_y rfl rfl (y_move rfl) ?_
    refine gk_y rfl rfl (y_assign rfl) ?_
    refine gk_nil (gk_sub (T':=[(0,_),(1,_),(4,_),(7,_),(8,_)]) ⟨rfl,rfl,rfl,rfl,rfl,trivial⟩ ?_)
    refine gk_ret ?_
    refine gk_pure (rv_one rfl (r1_tmp rfl)) ?_
    exact congrArg _ (findI_hit g0 (by omega) g2 hc16).symm
   ·
    refine gk_skip ?_
    refine gk_region ?_
    refine gk_y rfl rfl (y_addI rfl rfl (by omega) (by omega)) ?_
    refine gk_y rfl rfl (y_move rfl) ?_
    refine gk_nil (gk_sub (T':=[(0,_),(1,_),(4,_),(7,_),(8,_)]) ⟨rfl,rfl,rfl,rfl,rfl,trivial⟩ ?_)
    exact gk_next _ ⟨rfl,rfl,rfl,rfl,rfl,trivial⟩ rfl ⟨by omega,by omega,fun j hj=>if h:(j:Int) < i then g2 j h else(by rw [show j=i.toNat from by omega]; exact hc16)⟩ (by omega)
  ·simp only [decide_eq_false_iff_not] at hc9
   refine gk_exit rfl ?_
   refine gk_seq ?_
   refine gk_region ?_
   refine gk_y rfl rfl (y_assign rfl) ?_
   refine gk_nil (gk_sub (T':=[(4,_)]) ⟨rfl,trivial⟩ ?_)
   refine gk_ret ?_
   refine gk_pure (rv_one rfl (r1_tmp rfl)) ?_
   exact congrArg _ (findI_none (fun j hj=>g2 j (by omega))).symm
set_option maxRecDepth 100000 in
set_option maxHeartbeats 1000000 in
theorem containsfuncO_c (a:Option Addr) (cap:Nat) (l:List Opn) (f:Opn→Bool) (gg:FuncId) (gfs gcap:List Value) (w:World) (hl:Has w (Elems a 5 encOpn l)) (hs:Small l.length) (M:World→Prop) (hM:∀ w',Ext w w'→M w') (hen:En Tryz.prog gg) (hg:∀ (z:Opn) w',M w'→Calls Tryz.prog gg (gfs++[Value.agg #[.int .u8 z.kind,.int .i64 z.at_,.int .i64 z.width,.int .i64 z.frm,.int .i64 z.high]]++gcap).toArray w' (Pure (.bool (f z)) w')) :
  Calls Tryz.prog 78 #[.slice a l.length cap,.func (.func gg) gfs.toArray gcap.toArray] w (Pure (.bool (l.any f)) w):=by
 refine calls_of_gk (vs:=[_,_]) Tryz.func78 rfl rfl (Nat.le_of_ble_eq_true rfl) ?_
 refine gk_seq ?_
 refine gk_region ?_
 refine gk_y rfl rfl (y_assign rfl) ?_
 refine gk_nil (gk_sub (T':=[(0,_),(1,_),(4,_)]) ⟨rfl,rfl,rfl,trivial⟩ ?_)
 refine gk_seq ?_
 refine gk_region ?_
 refine gk_y rfl rfl (y_move rfl) ?_
 refine gk_y rfl rfl (y_move rfl) ?_
 refine gk_y rfl rfl (y_call en104 rfl (fun w hw=>indexfuncO_c _ _ l f _ _ _ w (Rd.has (Has.rd hl) hw) (by assumption) M (fun w' h=>hM w' (hw.base.ext0.trans h)) hen hg)) ?_
 refine gk_y rfl rfl (y_geq rfl rfl) ?_
 refine gk_y rfl rfl (y_assign rfl) ?_
 refine gk_nil (gk_sub (T':=[(4,_)]) ⟨rfl,trivial⟩ ?_)
 refine gk_ret ?_
 refine gk_pure (rv_one rfl (r1_tmp rfl)) ?_
 rw [findI_any]
set_option maxRecDepth 100000 in
set_option maxHeartbeats 1000000 in
theorem indexfuncS_c (a:Option Addr) (cap:Nat) (l:List ShC) (f:ShC→Bool) (gg:FuncId) (gfs gcap:List Value) (w:World) (hl:Has w (Elems a 20 encSht l)) (hs:Small l.length) (M:World→Prop) (hM:∀ w',Ext w w'→M w') (hen:En Tryz.prog gg) (hg:∀ (z:ShC) w',M w'→Calls Tryz.prog gg (gfs++[Value.agg #[.string z.s.name,.int .i64 z.s.base,.int .i64 z.s.batter,.int .i64 z.s.height,.int .i64 z.s.skin,.slice z.a z.s.heights.length z.cap,.int .i64 z.s.least,.int .i64 z.s.lap,.int .i64 z.s.run,.int .i64 z.s.every,.int .i64 z.s.at_,.int .i64 z.s.footing,.int .i64 z.s.spread,.int .u8 z.s.cope,.int .i64 z.s.tall,.int .i64 z.s.short,.int .i64 z.s.thick,.int .i64 z.s.low,.int .i64 z.s.high,.int .i64 z.s.rood]]++gcap).toArray w' (Pure (.bool (f z)) w')) :
  Calls Tryz.prog 73 #[.slice a l.length cap,.func (.func gg) gfs.toArray gcap.toArray] w (Pure (.int .i64 (findI f l)) w):=by
 refine calls_of_gk (vs:=[_,_]) Tryz.func73 rfl rfl (Nat.le_of_ble_eq_true rfl) ?_
 refine gk_seq ?_
 refine gk_region ?_
 refine gk_y rfl rfl (y_assign rfl) ?_
 refine gk_nil (gk_sub (T':=[(0,_),(1,_),(4,_)]) ⟨rfl,rfl,rfl,trivial⟩ ?_)
 refine gk_seq ?_
 refine gk_seq ?_
 refine gk_region ?_
 refine gk_y rfl rfl (y_move rfl) ?_
 refine gk_y rfl rfl (y_lenS (Tryz.underlying28) rfl) ?_
 refine gk_y rfl rfl (y_move rfl) ?_
 refine gk_nil (gk_sub (T':=[(0,_),(1,_),(4,_),(7,_),(8,_)]) ⟨rfl,rfl,rfl,rfl,rfl,trivial⟩ ?_)
 refine gk_block ?_
 refine gk_loop (X:=Int) (fun(i:Int)=>[(0,.slice a l.length cap),(1,.func (.func gg) gfs.toArray gcap.toArray),(4,.int .i64 0),(7,.int .i64 (l.length:Int)),(8,.int .i64 i)]) (fun(i:Int)=>[]) (fun(i:Int)=>(0≤i∧i≤l.length∧∀ j:Nat,(j:Int) < i→f (l.getD j default)=false)) (fun(i:Int)=>(l.length - i).toNat) 0 ⟨rfl,rfl,rfl,rfl,rfl,trivial⟩ rfl ?_ ?_
 ·exact⟨by omega,by omega,fun j hj=>by omega⟩
 ·rintro i hI
  obtain⟨g0,g1,g2⟩:=hI
  refine gk_seq ?_
  refine gk_region ?_
  refine gk_y rfl rfl (y_lss rfl rfl) ?_
  refine gk_nil (gk_sub (T':=[(0,_),(1,_),(4,_),(7,_),(8,_),(9,_)]) ⟨rfl,rfl,rfl,rfl,rfl,rfl,trivial⟩ ?_)
  refine gk_seq ?_
  refine gk_cond rfl (fun hc9=>?_) (fun hc9=>?_)
  ·simp only [decide_eq_true_eq] at hc9
   refine gk_skip ?_
   refine gk_seq ?_
   refine gk_block ?_
   refine gk_seq ?_
   refine gk_region ?_
   refine gk_y rfl rfl (y_move rfl) ?_
   refine gk_y rfl rfl (y_assign rfl) ?_
   refine gk_nil (gk_sub (T':=[(0,_),(1,_),(4,_),(5,_),(7,_),(8,_)]) ⟨rfl,rfl,rfl,rfl,rfl,rfl,trivial⟩ ?_)
   refine gk_seq ?_
   refine gk_region ?_
   refine gk_y rfl rfl (y_move rfl) ?_
   refine gk_y rfl rfl (y_move rfl) ?_
   refine gk_y rfl rfl (y_move rfl) ?_
   refine gk_y rfl rfl (y_indexE se28 rfl rfl (fun _ hw=>(Rd.has (Has.rd hl) hw)) (by omega) (by omega)) ?_
   refine gk_y rfl rfl (y_loadE (vs:=[_,_,_,_,_,_,_,_,_,_,_,_,_,_,_,_,_,_,_,_]) tf41 rfl (fun _ hw=>(Rd.has (Has.rd hl) hw)) (by omega) (by omega) rfl) ?_
   refine gk_y rfl rfl (y_callV (fs:=gfs) (cap:=gcap) hen rfl rfl (fun w hw=>hg (l.getD (i).toNat default) w (hM _ hw.base.ext0))) ?_
   refine gk_nil (gk_sub (T':=[(0,_),(1,_),(4,_),(5,_),(7,_),(8,_),(16,_)]) ⟨rfl,rfl,rfl,rfl,rfl,rfl,rfl,trivial⟩ ?_)
   refine gk_cond rfl (fun hc16=>?_) (fun hc16=>?_)
   ·
    refine gk_seq ?_
    refine gk_region ?_
    refine gk_y rfl rfl (y_move rfl) ?_
    refine gk_y rfl rfl (y_assign rfl) ?_
    refine gk_nil (gk_sub (T':=[(0,_),(1,_),(4,_),(7,_),(8,_)]) ⟨rfl,rfl,rfl,rfl,rfl,trivial⟩ ?_)
    refine gk_ret ?_
    refine gk_pure (rv_one rfl (r1_tmp rfl)) ?_
    exact congrArg _ (findI_hit g0 (by omega) g2 hc16).symm
   ·
    refine gk_skip ?_
    refine gk_region ?_
    refine gk_y rfl rfl (y_addI rfl rfl (by omega) (by omega)) ?_
    refine gk_y rfl rfl (y_move rfl) ?_
    refine gk_nil (gk_sub (T':=[(0,_),(1,_),(4,_),(7,_),(8,_)]) ⟨rfl,rfl,rfl,rfl,rfl,trivial⟩ ?_)
    exact gk_next _ ⟨rfl,rfl,rfl,rfl,rfl,trivial⟩ rfl ⟨by omega,by omega,fun j hj=>if h:(j:Int) < i then g2 j h else(by rw [show j=i.toNat from by omega]; exact hc16)⟩ (by omega)
  ·simp only [decide_eq_false_iff_not] at hc9
   refine gk_exit rfl ?_
   refine gk_seq ?_
   refine gk_region ?_
   refine gk_y rfl rfl (y_assign rfl) ?_
   refine gk_nil (gk_sub (T':=[(4,_)]) ⟨rfl,trivial⟩ ?_)
   refine gk_ret ?_
   refine gk_pure (rv_one rfl (r1_tmp rfl)) ?_
   exact congrArg _ (findI_none (fun j hj=>g2 j (by omega))).symm
set_option maxRecDepth 100000 in
set_option maxHeartbeats 1000000 in
theorem indexfuncW_c (a:Option Addr) (cap:Nat) (l:List WlC) (f:WlC→Bool) (gg:FuncId) (gfs gcap:List Value) (w:World) (hl:Has w (Elems a 4 encWll l)) (hs:Small l.length) (M:World→Prop) (hM:∀ w',Ext w w'→M w') (hen:En Tryz.prog gg) (hg:∀ (z:WlC) w',M w'→Calls Tryz.prog gg (gfs++[Value.agg #[.string z.s.name,.string z.s.sheet,.int .i64 z.s.length,.slice z.a z.s.opens.length z.cap]]++gcap).toArray w' (Pure (.bool (f z)) w')) :
  Calls Tryz.prog 75 #[.slice a l.length cap,.func (.func gg) gfs.toArray gcap.toArray] w (Pure (.int .i64 (findI f l)) w):=by
 refine calls_of_gk (vs:=[_,_]) Tryz.func75 rfl rfl (Nat.le_of_ble_eq_true rfl) ?_
 refine gk_seq ?_
 refine gk_region ?_
 refine gk_y rfl rfl (y_assign rfl) ?_
 refine gk_nil (gk_sub (T':=[(0,_),(1,_),(4,_)]) ⟨rfl,rfl,rfl,trivial⟩ ?_)
 refine gk_seq ?_
 refine gk_seq ?_
 refine gk_region ?_
 refine gk_y rfl rfl (y_move rfl) ?_
 refine gk_y rfl rfl (y_lenS (Tryz.underlying29) rfl) ?_
 refine gk_y rfl rfl (y_move rfl) ?_
 refine gk_nil (gk_sub (T':=[(0,_),(1,_),(4,_),(7,_),(8,_)]) ⟨rfl,rfl,rfl,rfl,rfl,trivial⟩ ?_)
 refine gk_block ?_
 refine gk_loop (X:=Int) (fun(i:Int)=>[(0,.slice a l.length cap),(1,.func (.func gg) gfs.toArray gcap.toArray),(4,.int .i64 0),(7,.int .i64 (l.length:Int)),(8,.int .i64 i)]) (fun(i:Int)=>[]) (fun(i:Int)=>(0≤i∧i≤l.length∧∀ j:Nat,(j:Int) < i→f (l.getD j default)=false)) (fun(i:Int)=>(l.length - i).toNat) 0 ⟨rfl,rfl,rfl,rfl,rfl,trivial⟩ rfl ?_ ?_
 ·exact⟨by omega,by omega,fun j hj=>by omega⟩
 ·rintro i hI
  obtain⟨g0,g1,g2⟩:=hI
  refine gk_seq ?_
  refine gk_region ?_
  refine gk_y rfl rfl (y_lss rfl rfl) ?_
  refine gk_nil (gk_sub (T':=[(0,_),(1,_),(4,_),(7,_),(8,_),(9,_)]) ⟨rfl,rfl,rfl,rfl,rfl,rfl,trivial⟩ ?_)
  refine gk_seq ?_
  refine gk_cond rfl (fun hc9=>?_) (fun hc9=>?_)
  ·simp only [decide_eq_true_eq] at hc9
   refine gk_skip ?_
   refine gk_seq ?_
   refine gk_block ?_
   refine gk_seq ?_
   refine gk_region ?_
   refine gk_y rfl rfl (y_move rfl) ?_
   refine gk_y rfl rfl (y_assign rfl) ?_
   refine gk_nil (gk_sub (T':=[(0,_),(1,_),(4,_),(5,_),(7,_),(8,_)]) ⟨rfl,rfl,rfl,rfl,rfl,rfl,trivial⟩ ?_)
   refine gk_seq ?_
   refine gk_region ?_
   refine gk_y rfl rfl (y_move rfl) ?_
   refine gk_y rfl rfl (y_move rfl) ?_
   refine gk_y rfl rfl (y_move rfl) ?_
   refine gk_y rfl rfl (y_indexE se29 rfl rfl (fun _ hw=>(Rd.has (Has.rd hl) hw)) (by omega) (by omega)) ?_
   refine gk_y rfl rfl (y_loadE (vs:=[_,_,_,_]) tf94 rfl (fun _ hw=>(Rd.has (Has.rd hl) hw)) (by omega) (by omega) rfl) ?_
   refine gk_y rfl rfl (y_callV (fs:=gfs) (cap:=gcap) hen rfl rfl (fun w hw=>hg (l.getD (i).toNat default) w (hM _ hw.base.ext0))) ?_
   refine gk_nil (gk_sub (T':=[(0,_),(1,_),(4,_),(5,_),(7,_),(8,_),(16,_)]) ⟨rfl,rfl,rfl,rfl,rfl,rfl,rfl,trivial⟩ ?_)
   refine gk_cond rfl (fun hc16=>?_) (fun hc16=>?_)
   ·
    refine gk_seq ?_
    refine gk_region ?_
    refine gk_y rfl rfl (y_move rfl) ?_
    refine gk_y rfl rfl (y_assign rfl) ?_
    refine gk_nil (gk_sub (T':=[(0,_),(1,_),(4,_),(7,_),(8,_)]) ⟨rfl,rfl,rfl,rfl,rfl,trivial⟩ ?_)
    refine gk_ret ?_
    refine gk_pure (rv_one rfl (r1_tmp rfl)) ?_
    exact congrArg _ (findI_hit g0 (by omega) g2 hc16).symm
   ·
    refine gk_skip ?_
    refine gk_region ?_
    refine gk_y rfl rfl (y_addI rfl rfl (by omega) (by omega)) ?_
    refine gk_y rfl rfl (y_move rfl) ?_
    refine gk_nil (gk_sub (T':=[(0,_),(1,_),(4,_),(7,_),(8,_)]) ⟨rfl,rfl,rfl,rfl,rfl,trivial⟩ ?_)
    exact gk_next _ ⟨rfl,rfl,rfl,rfl,rfl,trivial⟩ rfl ⟨by omega,by omega,fun j hj=>if h:(j:Int) < i then g2 j h else(by rw [show j=i.toNat from by omega]; exact hc16)⟩ (by omega)
  ·simp only [decide_eq_false_iff_not] at hc9
   refine gk_exit rfl ?_
   refine gk_seq ?_
   refine gk_region ?_
   refine gk_y rfl rfl (y_assign rfl) ?_
   refine gk_nil (gk_sub (T':=[(4,_)]) ⟨rfl,trivial⟩ ?_)
   refine gk_ret ?_
   refine gk_pure (rv_one rfl (r1_tmp rfl)) ?_
   exact congrArg _ (findI_none (fun j hj=>g2 j (by omega))).symm
set_option maxRecDepth 100000 in
set_option maxHeartbeats 1000000 in
theorem indexfuncC_c (a:Option Addr) (cap:Nat) (l:List Crs) (f:Crs→Bool) (gg:FuncId) (gfs gcap:List Value) (w:World) (hl:Has w (Elems a 2 encCrs l)) (hs:Small l.length) (M:World→Prop) (hM:∀ w',Ext w w'→M w') (hen:En Tryz.prog gg) (hg:∀ (z:Crs) w',M w'→Calls Tryz.prog gg (gfs++[Value.agg #[.int .i64 z.frm,.int .i64 z.to]]++gcap).toArray w' (Pure (.bool (f z)) w')) :
  Calls Tryz.prog 97 #[.slice a l.length cap,.func (.func gg) gfs.toArray gcap.toArray] w (Pure (.int .i64 (findI f l)) w):=by
 refine calls_of_gk (vs:=[_,_]) Tryz.func97 rfl rfl (Nat.le_of_ble_eq_true rfl) ?_
 refine gk_seq ?_
 refine gk_region ?_
 refine gk_y rfl rfl (y_assign rfl) ?_
 refine gk_nil (gk_sub (T':=[(0,_),(1,_),(4,_)]) ⟨rfl,rfl,rfl,trivial⟩ ?_)
 refine gk_seq ?_
 refine gk_seq ?_
 refine gk_region ?_
 refine gk_y rfl rfl (y_move rfl) ?_
 refine gk_y rfl rfl (y_lenS (Tryz.underlying38) rfl) ?_
 refine gk_y rfl rfl (y_move rfl) ?_
 refine gk_nil (gk_sub (T':=[(0,_),(1,_),(4,_),(7,_),(8,_)]) ⟨rfl,rfl,rfl,rfl,rfl,trivial⟩ ?_)
 refine gk_block ?_
 refine gk_loop (X:=Int) (fun(i:Int)=>[(0,.slice a l.length cap),(1,.func (.func gg) gfs.toArray gcap.toArray),(4,.int .i64 0),(7,.int .i64 (l.length:Int)),(8,.int .i64 i)]) (fun(i:Int)=>[]) (fun(i:Int)=>(0≤i∧i≤l.length∧∀ j:Nat,(j:Int) < i→f (l.getD j default)=false)) (fun(i:Int)=>(l.length - i).toNat) 0 ⟨rfl,rfl,rfl,rfl,rfl,trivial⟩ rfl ?_ ?_
 ·exact⟨by omega,by omega,fun j hj=>by omega⟩
 ·rintro i hI
  obtain⟨g0,g1,g2⟩:=hI
  refine gk_seq ?_
  refine gk_region ?_
  refine gk_y rfl rfl (y_lss rfl rfl) ?_
  refine gk_nil (gk_sub (T':=[(0,_),(1,_),(4,_),(7,_),(8,_),(9,_)]) ⟨rfl,rfl,rfl,rfl,rfl,rfl,trivial⟩ ?_)
  refine gk_seq ?_
  refine gk_cond rfl (fun hc9=>?_) (fun hc9=>?_)
  ·simp only [decide_eq_true_eq] at hc9
   refine gk_skip ?_
   refine gk_seq ?_
   refine gk_block ?_
   refine gk_seq ?_
   refine gk_region ?_
   refine gk_y rfl rfl (y_move rfl) ?_
   refine gk_y rfl rfl (y_assign rfl) ?_
   refine gk_nil (gk_sub (T':=[(0,_),(1,_),(4,_),(5,_),(7,_),(8,_)]) ⟨rfl,rfl,rfl,rfl,rfl,rfl,trivial⟩ ?_)
   refine gk_seq ?_
   refine gk_region ?_
   refine gk_y rfl rfl (y_move rfl) ?_
   refine gk_y rfl rfl (y_move rfl) ?_
   refine gk_y rfl rfl (y_move rfl) ?_
   refine gk_y rfl rfl (y_indexE se38 rfl rfl (fun _ hw=>(Rd.has (Has.rd hl) hw)) (by omega) (by omega)) ?_
   refine gk_y rfl rfl (y_loadE (vs:=[_,_]) tf49 rfl (fun _ hw=>(Rd.has (Has.rd hl) hw)) (by omega) (by omega) rfl) ?_
   refine gk_y rfl rfl (y_callV (fs:=gfs) (cap:=gcap) hen rfl rfl (fun w hw=>hg (l.getD (i).toNat default) w (hM _ hw.base.ext0))) ?_
   refine gk_nil (gk_sub (T':=[(0,_),(1,_),(4,_),(5,_),(7,_),(8,_),(16,_)]) ⟨rfl,rfl,rfl,rfl,rfl,rfl,rfl,trivial⟩ ?_)
   refine gk_cond rfl (fun hc16=>?_) (fun hc16=>?_)
   ·
    refine gk_seq ?_
    refine gk_region ?_
    refine gk_y rfl rfl (y_move rfl) ?_
    refine gk_y rfl rfl (y_assign rfl) ?_
    refine gk_nil (gk_sub (T':=[(0,_),(1,_),(4,_),(7,_),(8,_)]) ⟨rfl,rfl,rfl,rfl,rfl,trivial⟩ ?_)
    refine gk_ret ?_
    refine gk_pure (rv_one rfl (r1_tmp rfl)) ?_
    exact congrArg _ (findI_hit g0 (by omega) g2 hc16).symm
   ·
    refine gk_skip ?_
    refine gk_region ?_
    refine gk_y rfl rfl (y_addI rfl rfl (by omega) (by omega)) ?_
    refine gk_y rfl rfl (y_move rfl) ?_
    refine gk_nil (gk_sub (T':=[(0,_),(1,_),(4,_),(7,_),(8,_)]) ⟨rfl,rfl,rfl,rfl,rfl,trivial⟩ ?_)
    exact gk_next _ ⟨rfl,rfl,rfl,rfl,rfl,trivial⟩ rfl ⟨by omega,by omega,fun j hj=>if h:(j:Int) < i then g2 j h else(by rw [show j=i.toNat from by omega]; exact hc16)⟩ (by omega)
  ·simp only [decide_eq_false_iff_not] at hc9
   refine gk_exit rfl ?_
   refine gk_seq ?_
   refine gk_region ?_
   refine gk_y rfl rfl (y_assign rfl) ?_
   refine gk_nil (gk_sub (T':=[(4,_)]) ⟨rfl,trivial⟩ ?_)
   refine gk_ret ?_
   refine gk_pure (rv_one rfl (r1_tmp rfl)) ?_
   exact congrArg _ (findI_none (fun j hj=>g2 j (by omega))).symm
set_option maxRecDepth 100000 in
set_option maxHeartbeats 1000000 in
theorem indexfuncB_c (a:Option Addr) (cap:Nat) (l:List Crs) (f:Crs→Bool) (gg:FuncId) (gfs gcap:List Value) (w:World) (hl:Has w (Elems a 2 encCrs l)) (hs:Small l.length) (M:World→Prop) (hM:∀ w',Ext w w'→M w') (hen:En Tryz.prog gg) (hg:∀ (z:Crs) w',M w'→Calls Tryz.prog gg (gfs++[Value.agg #[.int .i64 z.frm,.int .i64 z.to]]++gcap).toArray w' (Pure (.bool (f z)) w')) :
  Calls Tryz.prog 121 #[.slice a l.length cap,.func (.func gg) gfs.toArray gcap.toArray] w (Pure (.int .i64 (findI f l)) w):=by
 refine calls_of_gk (vs:=[_,_]) Tryz.func121 rfl rfl (Nat.le_of_ble_eq_true rfl) ?_
 refine gk_seq ?_
 refine gk_region ?_
 refine gk_y rfl rfl (y_assign rfl) ?_
 refine gk_nil (gk_sub (T':=[(0,_),(1,_),(4,_)]) ⟨rfl,rfl,rfl,trivial⟩ ?_)
 refine gk_seq ?_
 refine gk_seq ?_
 refine gk_region ?_
 refine gk_y rfl rfl (y_move rfl) ?_
 refine gk_y rfl rfl (y_lenS (Tryz.underlying59) rfl) ?_
 refine gk_y rfl rfl (y_move rfl) ?_
 refine gk_nil (gk_sub (T':=[(0,_),(1,_),(4,_),(7,_),(8,_)]) ⟨rfl,rfl,rfl,rfl,rfl,trivial⟩ ?_)
 refine gk_block ?_
 refine gk_loop (X:=Int) (fun(i:Int)=>[(0,.slice a l.length cap),(1,.func (.func gg) gfs.toArray gcap.toArray),(4,.int .i64 0),(7,.int .i64 (l.length:Int)),(8,.int .i64 i)]) (fun(i:Int)=>[]) (fun(i:Int)=>(0≤i∧i≤l.length∧∀ j:Nat,(j:Int) < i→f (l.getD j default)=false)) (fun(i:Int)=>(l.length - i).toNat) 0 ⟨rfl,rfl,rfl,rfl,rfl,trivial⟩ rfl ?_ ?_
 ·exact⟨by omega,by omega,fun j hj=>by omega⟩
 ·rintro i hI
  obtain⟨g0,g1,g2⟩:=hI
  refine gk_seq ?_
  refine gk_region ?_
  refine gk_y rfl rfl (y_lss rfl rfl) ?_
  refine gk_nil (gk_sub (T':=[(0,_),(1,_),(4,_),(7,_),(8,_),(9,_)]) ⟨rfl,rfl,rfl,rfl,rfl,rfl,trivial⟩ ?_)
  refine gk_seq ?_
  refine gk_cond rfl (fun hc9=>?_) (fun hc9=>?_)
  ·simp only [decide_eq_true_eq] at hc9
   refine gk_skip ?_
   refine gk_seq ?_
   refine gk_block ?_
   refine gk_seq ?_
   refine gk_region ?_
   refine gk_y rfl rfl (y_move rfl) ?_
   refine gk_y rfl rfl (y_assign rfl) ?_
   refine gk_nil (gk_sub (T':=[(0,_),(1,_),(4,_),(5,_),(7,_),(8,_)]) ⟨rfl,rfl,rfl,rfl,rfl,rfl,trivial⟩ ?_)
   refine gk_seq ?_
   refine gk_region ?_
   refine gk_y rfl rfl (y_move rfl) ?_
   refine gk_y rfl rfl (y_move rfl) ?_
   refine gk_y rfl rfl (y_move rfl) ?_
   refine gk_y rfl rfl (y_indexE se59 rfl rfl (fun _ hw=>(Rd.has (Has.rd hl) hw)) (by omega) (by omega)) ?_
   refine gk_y rfl rfl (y_loadE (vs:=[_,_]) tf69 rfl (fun _ hw=>(Rd.has (Has.rd hl) hw)) (by omega) (by omega) rfl) ?_
   refine gk_y rfl rfl (y_callV (fs:=gfs) (cap:=gcap) hen rfl rfl (fun w hw=>hg (l.getD (i).toNat default) w (hM _ hw.base.ext0))) ?_
   refine gk_nil (gk_sub (T':=[(0,_),(1,_),(4,_),(5,_),(7,_),(8,_),(16,_)]) ⟨rfl,rfl,rfl,rfl,rfl,rfl,rfl,trivial⟩ ?_)
   refine gk_cond rfl (fun hc16=>?_) (fun hc16=>?_)
   ·
    refine gk_seq ?_
    refine gk_region ?_
    refine gk_y rfl rfl (y_move rfl) ?_
    refine gk_y rfl rfl (y_assign rfl) ?_
    refine gk_nil (gk_sub (T':=[(0,_),(1,_),(4,_),(7,_),(8,_)]) ⟨rfl,rfl,rfl,rfl,rfl,trivial⟩ ?_)
    refine gk_ret ?_
    refine gk_pure (rv_one rfl (r1_tmp rfl)) ?_
    exact congrArg _ (findI_hit g0 (by omega) g2 hc16).symm
   ·
    refine gk_skip ?_
    refine gk_region ?_
    refine gk_y rfl rfl (y_addI rfl rfl (by omega) (by omega)) ?_
    refine gk_y rfl rfl (y_move rfl) ?_
    refine gk_nil (gk_sub (T':=[(0,_),(1,_),(4,_),(7,_),(8,_)]) ⟨rfl,rfl,rfl,rfl,rfl,trivial⟩ ?_)
    exact gk_next _ ⟨rfl,rfl,rfl,rfl,rfl,trivial⟩ rfl ⟨by omega,by omega,fun j hj=>if h:(j:Int) < i then g2 j h else(by rw [show j=i.toNat from by omega]; exact hc16)⟩ (by omega)
  ·simp only [decide_eq_false_iff_not] at hc9
   refine gk_exit rfl ?_
   refine gk_seq ?_
   refine gk_region ?_
   refine gk_y rfl rfl (y_assign rfl) ?_
   refine gk_nil (gk_sub (T':=[(4,_)]) ⟨rfl,trivial⟩ ?_)
   refine gk_ret ?_
   refine gk_pure (rv_one rfl (r1_tmp rfl)) ?_
   exact congrArg _ (findI_none (fun j hj=>g2 j (by omega))).symm
set_option maxRecDepth 100000 in
set_option maxHeartbeats 1000000 in
theorem containsfuncB_c (a:Option Addr) (cap:Nat) (l:List Crs) (f:Crs→Bool) (gg:FuncId) (gfs gcap:List Value) (w:World) (hl:Has w (Elems a 2 encCrs l)) (hs:Small l.length) (M:World→Prop) (hM:∀ w',Ext w w'→M w') (hen:En Tryz.prog gg) (hg:∀ (z:Crs) w',M w'→Calls Tryz.prog gg (gfs++[Value.agg #[.int .i64 z.frm,.int .i64 z.to]]++gcap).toArray w' (Pure (.bool (f z)) w')) :
  Calls Tryz.prog 99 #[.slice a l.length cap,.func (.func gg) gfs.toArray gcap.toArray] w (Pure (.bool (l.any f)) w):=by
 refine calls_of_gk (vs:=[_,_]) Tryz.func99 rfl rfl (Nat.le_of_ble_eq_true rfl) ?_
 refine gk_seq ?_
 refine gk_region ?_
 refine gk_y rfl rfl (y_assign rfl) ?_
 refine gk_nil (gk_sub (T':=[(0,_),(1,_),(4,_)]) ⟨rfl,rfl,rfl,trivial⟩ ?_)
 refine gk_seq ?_
 refine gk_region ?_
 refine gk_y rfl rfl (y_move rfl) ?_
 refine gk_y rfl rfl (y_move rfl) ?_
 refine gk_y rfl rfl (y_call en121 rfl (fun w hw=>indexfuncB_c _ _ l f _ _ _ w (Rd.has (Has.rd hl) hw) (by assumption) M (fun w' h=>hM w' (hw.base.ext0.trans h)) hen hg)) ?_
 refine gk_y rfl rfl (y_geq rfl rfl) ?_
 refine gk_y rfl rfl (y_assign rfl) ?_
 refine gk_nil (gk_sub (T':=[(4,_)]) ⟨rfl,trivial⟩ ?_)
 refine gk_ret ?_
 refine gk_pure (rv_one rfl (r1_tmp rfl)) ?_
 rw [findI_any]
set_option maxRecDepth 100000 in
set_option maxHeartbeats 1000000 in
theorem sheet1_c (z:ShC) (n:ByteArray) (b:Nat) (w:World) (hb:Has w (Box b [.string n] 9)) :
  Calls Tryz.prog 74 #[.agg #[.string z.s.name,.int .i64 z.s.base,.int .i64 z.s.batter,.int .i64 z.s.height,.int .i64 z.s.skin,.slice z.a z.s.heights.length z.cap,.int .i64 z.s.least,.int .i64 z.s.lap,.int .i64 z.s.run,.int .i64 z.s.every,.int .i64 z.s.at_,.int .i64 z.s.footing,.int .i64 z.s.spread,.int .u8 z.s.cope,.int .i64 z.s.tall,.int .i64 z.s.short,.int .i64 z.s.thick,.int .i64 z.s.low,.int .i64 z.s.high,.int .i64 z.s.rood],.pointer (some ⟨b,0,none⟩)] w (Pure (.bool (z.s.name.toList == n.toList)) w):=by
 refine calls_of_gk (vs:=[_,_]) Tryz.func74 rfl rfl (Nat.le_of_ble_eq_true rfl) ?_
 refine gk_seq ?_
 refine gk_region ?_
 refine gk_yx rfl rfl (yx_box (vs:=[_,_,_,_,_,_,_,_,_,_,_,_,_,_,_,_,_,_,_,_]) rfl rfl) fun b2=>?_
 refine gk_y rfl rfl (y_assign rfl) ?_
 refine gk_nil (gk_sub (T':=[(1,_),(2,_),(3,_)]) ⟨rfl,rfl,rfl,trivial⟩ ?_)
 refine gk_seq ?_
 refine gk_region ?_
 refine gk_y rfl rfl (y_fieldAddr fo41_0 rfl) ?_
 refine gk_y rfl rfl (y_loadB1 0 tf9 rfl rfl rfl) ?_
 refine gk_y rfl rfl (y_load1 tf9 rfl (fun _ hw=>has_box_cell (Rd.has (Has.rd hb) hw) rfl)) ?_
 refine gk_y rfl rfl (y_strEq rfl rfl) ?_
 refine gk_y rfl rfl (y_assign rfl) ?_
 refine gk_nil (gk_sub (T':=[(3,_)]) ⟨rfl,trivial⟩ ?_)
 refine gk_ret ?_
 refine gk_pure (rv_one rfl (r1_tmp rfl)) ?_
 rfl
set_option maxRecDepth 100000 in
set_option maxHeartbeats 1000000 in
theorem wall1_c (z:WlC) (n:ByteArray) (b:Nat) (w:World) (hb:Has w (Box b [.string n] 9)) :
  Calls Tryz.prog 76 #[.agg #[.string z.s.name,.string z.s.sheet,.int .i64 z.s.length,.slice z.a z.s.opens.length z.cap],.pointer (some ⟨b,0,none⟩)] w (Pure (.bool (z.s.name.toList == n.toList)) w):=by
 refine calls_of_gk (vs:=[_,_]) Tryz.func76 rfl rfl (Nat.le_of_ble_eq_true rfl) ?_
 refine gk_seq ?_
 refine gk_region ?_
 refine gk_yx rfl rfl (yx_box (vs:=[_,_,_,_]) rfl rfl) fun b2=>?_
 refine gk_y rfl rfl (y_assign rfl) ?_
 refine gk_nil (gk_sub (T':=[(1,_),(2,_),(3,_)]) ⟨rfl,rfl,rfl,trivial⟩ ?_)
 refine gk_seq ?_
 refine gk_region ?_
 refine gk_y rfl rfl (y_fieldAddr fo94_0 rfl) ?_
 refine gk_y rfl rfl (y_loadB1 0 tf9 rfl rfl rfl) ?_
 refine gk_y rfl rfl (y_load1 tf9 rfl (fun _ hw=>has_box_cell (Rd.has (Has.rd hb) hw) rfl)) ?_
 refine gk_y rfl rfl (y_strEq rfl rfl) ?_
 refine gk_y rfl rfl (y_assign rfl) ?_
 refine gk_nil (gk_sub (T':=[(3,_)]) ⟨rfl,trivial⟩ ?_)
 refine gk_ret ?_
 refine gk_pure (rv_one rfl (r1_tmp rfl)) ?_
 rfl
set_option maxRecDepth 100000 in
set_option maxHeartbeats 1000000 in
theorem plsheet_c (a:Option Addr) (cap:Nat) (S:List ShC) (b:Option Addr) (nw bcap:Nat) (n:ByteArray) (w:World) (hl:Has w (Elems a 20 encSht S)) (hs:Small S.length) :
  Calls Tryz.prog 46 #[.agg #[.slice a S.length cap,.slice b nw bcap],.string n] w (Pure (.tuple #[.agg (encSht (getSh S n)).toArray,.bool (decide (0≤sheetI S n))]) w):=by
 have hlt:=fun h=>sheetI_lt (S:=S) (n:=n) h
 refine calls_of_gk (vs:=[_,_]) Tryz.func46 rfl rfl (Nat.le_of_ble_eq_true rfl) ?_
 refine gk_seq ?_
 refine gk_region ?_
 refine gk_yx rfl rfl (yx_box (vs:=[_,_]) rfl rfl) fun b2=>?_
 refine gk_yx rfl rfl (yx_box (vs:=[_]) rfl rfl) fun b3=>?_
 refine gk_yx rfl rfl (yx_alloc tf41 (zs:=[_,_,_,_,_,_,_,_,_,_,_,_,_,_,_,_,_,_,_,_]) rfl) fun b4=>?_
 refine gk_y rfl rfl (y_assign rfl) ?_
 refine gk_nil (gk_sub (T':=[(2,_),(3,_),(4,_),(5,_)]) ⟨rfl,rfl,rfl,rfl,trivial⟩ ?_)
 refine gk_seq ?_
 refine gk_region ?_
 refine gk_y rfl rfl (y_fieldAddr fo31_0 rfl) ?_
 refine gk_y rfl rfl (y_loadB1 2 tf28 rfl rfl rfl) ?_
 refine gk_y rfl rfl (y_makeFunc («as»:=[]) (bs:=[_]) rfl rfl) ?_
 refine gk_y rfl rfl (y_call en73 rfl (fun w hw=>show Calls _ _ _ w (Pure (.int .i64 (sheetI S n)) w) from indexfuncS_c _ _ S (fun z=>z.s.name.toList == n.toList) 74 [] [.pointer (some ⟨b3,0,none⟩)] w (Rd.has (Has.rd hl) hw) (by assumption) (fun w'=>Has w' (Box b3 [.string n] 9)) (fun w' hx=>Has.ext (hw.has (p:=1) rfl) hx) en74 (fun z w' hm=>sheet1_c z n b3 w' hm))) ?_
 refine gk_y rfl rfl (y_assign rfl) ?_
 refine gk_nil (gk_sub (T':=[(2,_),(4,_),(5,_),(6,_)]) ⟨rfl,rfl,rfl,rfl,trivial⟩ ?_)
 refine gk_seq ?_
 refine gk_seq ?_
 refine gk_region ?_
 refine gk_y rfl rfl (y_move rfl) ?_
 refine gk_y rfl rfl (y_lss rfl rfl) ?_
 refine gk_nil (gk_sub (T':=[(2,_),(4,_),(5,_),(6,_),(12,_)]) ⟨rfl,rfl,rfl,rfl,rfl,trivial⟩ ?_)
 refine gk_cond rfl (fun hc12=>?_) (fun hc12=>?_)
 ·have h0:¬ 0≤sheetI S n:=by have:=of_decide_eq_true hc12; omega
  refine gk_seq ?_
  refine gk_region ?_
  refine gk_y rfl rfl (y_buildL (parts:=[]) rfl bd41_) ?_
  refine gk_storeAll 0 tf41 rfl rfl (vs:=[_,_,_,_,_,_,_,_,_,_,_,_,_,_,_,_,_,_,_,_]) rfl rfl rfl rfl rfl ?_
  refine gk_y rfl rfl (y_assign rfl) ?_
  refine gk_nil (gk_sub (T':=[(2,_),(4,_),(5,_),(6,_)]) ⟨rfl,rfl,rfl,rfl,trivial⟩ ?_)
  refine gk_ret ?_
  refine gk_pure (rv_two rfl (r1_cellA (i:=0) (vs:=[.string ⟨#[]⟩,.int .i64 0,.int .i64 0,.int .i64 0,.int .i64 0,.slice none 0 0,.int .i64 0,.int .i64 0,.int .i64 0,.int .i64 0,.int .i64 0,.int .i64 0,.int .i64 0,.int .u8 0,.int .i64 0,.int .i64 0,.int .i64 0,.int .i64 0,.int .i64 0,.int .i64 0]) tf41 rfl rfl rfl rfl) (r1_tmp rfl)) ?_
  rw [show getSh S n=default from if_neg h0,decide_eq_false h0]; rfl
 ·have h0:0≤sheetI S n:=by have:=of_decide_eq_false hc12; omega
  have h1:=hlt h0
  refine gk_skip ?_
  refine gk_seq ?_
  refine gk_region ?_
  refine gk_y rfl rfl (y_fieldAddr fo31_0 rfl) ?_
  refine gk_y rfl rfl (y_loadB1 2 tf28 rfl rfl rfl) ?_
  refine gk_y rfl rfl (y_move rfl) ?_
  refine gk_y rfl rfl (y_indexE se28 rfl rfl (fun _ hw=>(Rd.has (Has.rd hl) hw)) (by omega) (by omega)) ?_
  refine gk_y rfl rfl (y_loadE (vs:=[_,_,_,_,_,_,_,_,_,_,_,_,_,_,_,_,_,_,_,_]) tf41 rfl (fun _ hw=>(Rd.has (Has.rd hl) hw)) (by omega) (by omega) rfl) ?_
  refine gk_storeAll 0 tf41 rfl rfl (vs:=[_,_,_,_,_,_,_,_,_,_,_,_,_,_,_,_,_,_,_,_]) rfl rfl rfl rfl rfl ?_
  refine gk_y rfl rfl (y_assign rfl) ?_
  refine gk_nil (gk_sub (T':=[(4,_),(5,_)]) ⟨rfl,rfl,trivial⟩ ?_)
  refine gk_ret ?_
  refine gk_pure (rv_two rfl (r1_cellA (i:=0) (vs:=[.string (S.getD ((sheetI S n)).toNat default).s.name,.int .i64 ((S.getD ((sheetI S n)).toNat default).s.base),.int .i64 ((S.getD ((sheetI S n)).toNat default).s.batter),.int .i64 ((S.getD ((sheetI S n)).toNat default).s.height),.int .i64 ((S.getD ((sheetI S n)).toNat default).s.skin),.slice (S.getD ((sheetI S n)).toNat default).a (S.getD ((sheetI S n)).toNat default).s.heights.length (S.getD ((sheetI S n)).toNat default).cap,.int .i64 ((S.getD ((sheetI S n)).toNat default).s.least),.int .i64 ((S.getD ((sheetI S n)).toNat default).s.lap),.int .i64 ((S.getD ((sheetI S n)).toNat default).s.run),.int .i64 ((S.getD ((sheetI S n)).toNat default).s.every),.int .i64 ((S.getD ((sheetI S n)).toNat default).s.at_),.int .i64 ((S.getD ((sheetI S n)).toNat default).s.footing),.int .i64 ((S.getD ((sheetI S n)).toNat default).s.spread),.int .u8 (S.getD ((sheetI S n)).toNat default).s.cope,.int .i64 ((S.getD ((sheetI S n)).toNat default).s.tall),.int .i64 ((S.getD ((sheetI S n)).toNat default).s.short),.int .i64 ((S.getD ((sheetI S n)).toNat default).s.thick),.int .i64 ((S.getD ((sheetI S n)).toNat default).s.low),.int .i64 ((S.getD ((sheetI S n)).toNat default).s.high),.int .i64 ((S.getD ((sheetI S n)).toNat default).s.rood)]) tf41 rfl rfl rfl rfl) (r1_tmp rfl)) ?_
  rw [show getSh S n=S.getD (sheetI S n).toNat default from if_pos h0,decide_eq_true h0]
set_option maxRecDepth 100000 in
set_option maxHeartbeats 1000000 in
theorem plwall_c (a:Option Addr) (ns cap:Nat) (b:Option Addr) (bcap:Nat) (V:List WlC) (n:ByteArray) (w:World) (hlw:Has w (Elems b 4 encWll V)) (hsw:Small V.length) :
  Calls Tryz.prog 47 #[.agg #[.slice a ns cap,.slice b V.length bcap],.string n] w (Pure (.int .i64 (wallI V n)) w):=by
 refine calls_of_gk (vs:=[_,_]) Tryz.func47 rfl rfl (Nat.le_of_ble_eq_true rfl) ?_
 refine gk_seq ?_
 refine gk_region ?_
 refine gk_yx rfl rfl (yx_box (vs:=[_,_]) rfl rfl) fun b2=>?_
 refine gk_yx rfl rfl (yx_box (vs:=[_]) rfl rfl) fun b3=>?_
 refine gk_y rfl rfl (y_assign rfl) ?_
 refine gk_nil (gk_sub (T':=[(2,_),(3,_),(4,_)]) ⟨rfl,rfl,rfl,trivial⟩ ?_)
 refine gk_seq ?_
 refine gk_region ?_
 refine gk_y rfl rfl (y_fieldAddr fo31_1 rfl) ?_
 refine gk_y rfl rfl (y_loadB1 1 tf29 rfl rfl rfl) ?_
 refine gk_y rfl rfl (y_makeFunc («as»:=[]) (bs:=[_]) rfl rfl) ?_
 refine gk_y rfl rfl (y_call en75 rfl (fun w hw=>show Calls _ _ _ w (Pure (.int .i64 (wallI V n)) w) from indexfuncW_c _ _ V (fun z=>z.s.name.toList == n.toList) 76 [] [.pointer (some ⟨b3,0,none⟩)] w (Rd.has (Has.rd hlw) hw) (by assumption) (fun w'=>Has w' (Box b3 [.string n] 9)) (fun w' hx=>Has.ext (hw.has (p:=0) rfl) hx) en76 (fun z w' hm=>wall1_c z n b3 w' hm))) ?_
 refine gk_y rfl rfl (y_assign rfl) ?_
 refine gk_nil (gk_sub (T':=[(4,_)]) ⟨rfl,trivial⟩ ?_)
 refine gk_ret ?_
 refine gk_pure (rv_one rfl (r1_tmp rfl)) ?_
 rfl
set_option maxRecDepth 100000 in
set_option maxHeartbeats 1000000 in
theorem fits_c (o:Opn) (b:Option Addr) (bcap:Nat) (v:Wll) (a:Option Addr) (cap:Nat) (s:Sht) (w:World) (hk:Knd o) (hlen:1≤v.length∧v.length≤100000) (hh:0≤s.height∧s.height≤3000) :
  Calls Tryz.prog 77 #[.agg #[.int .u8 o.kind,.int .i64 o.at_,.int .i64 o.width,.int .i64 o.frm,.int .i64 o.high],.agg #[.string v.name,.string v.sheet,.int .i64 v.length,.slice b v.opens.length bcap],.agg #[.string s.name,.int .i64 s.base,.int .i64 s.batter,.int .i64 s.height,.int .i64 s.skin,.slice a s.heights.length cap,.int .i64 s.least,.int .i64 s.lap,.int .i64 s.run,.int .i64 s.every,.int .i64 s.at_,.int .i64 s.footing,.int .i64 s.spread,.int .u8 s.cope,.int .i64 s.tall,.int .i64 s.short,.int .i64 s.thick,.int .i64 s.low,.int .i64 s.high,.int .i64 s.rood]] w (Pure (.bool (fitsB v.length s.height o)) w):=by
 refine calls_of_gk (vs:=[_,_,_]) Tryz.func77 rfl rfl (Nat.le_of_ble_eq_true rfl) ?_
 refine gk_seq ?_
 refine gk_region ?_
 refine gk_yx rfl rfl (yx_box (vs:=[_,_,_,_,_]) rfl rfl) fun b3=>?_
 refine gk_yx rfl rfl (yx_box (vs:=[_,_,_,_]) rfl rfl) fun b4=>?_
 refine gk_yx rfl rfl (yx_box (vs:=[_,_,_,_,_,_,_,_,_,_,_,_,_,_,_,_,_,_,_,_]) rfl rfl) fun b5=>?_
 refine gk_y rfl rfl (y_assign rfl) ?_
 refine gk_nil (gk_sub (T':=[(3,_),(4,_),(5,_),(6,_)]) ⟨rfl,rfl,rfl,rfl,trivial⟩ ?_)
 refine gk_seq ?_
 refine gk_seq ?_
 refine gk_region ?_
 refine gk_y rfl rfl (y_fieldAddr fo98_0 rfl) ?_
 refine gk_y rfl rfl (y_loadB1 2 tf5 rfl rfl rfl) ?_
 refine gk_y rfl rfl (y_convInt (by kernel_rfl) (Tryz.underlying3) rfl) ?_
 refine gk_y rfl rfl (y_buildL rfl (bd117_0i_1i_2i _ _ _)) ?_
 refine gk_y rfl rfl (y_fieldAddr fo94_2 rfl) ?_
 refine gk_y rfl rfl (y_loadB1 1 tf3 rfl rfl rfl) ?_
 refine gk_y rfl rfl (y_buildL rfl (bd117_0i_1i_2i _ _ _)) ?_
 refine gk_y rfl rfl (y_fieldAddr fo98_2 rfl) ?_
 refine gk_y rfl rfl (y_loadB1 2 tf3 rfl rfl rfl) ?_
 refine gk_y rfl rfl (y_fieldAddr fo94_2 rfl) ?_
 refine gk_y rfl rfl (y_loadB1 1 tf3 rfl rfl rfl) ?_
 refine gk_y rfl rfl (y_buildL rfl (bd117_0i_1i_2i _ _ _)) ?_
 refine gk_y rfl rfl (y_fieldAddr fo98_1 rfl) ?_
 refine gk_y rfl rfl (y_loadB1 2 tf3 rfl rfl rfl) ?_
 refine gk_y rfl rfl (y_fieldAddr fo94_2 rfl) ?_
 refine gk_y rfl rfl (y_loadB1 1 tf3 rfl rfl rfl) ?_
 refine gk_y rfl rfl (y_fieldAddr fo98_2 rfl) ?_
 refine gk_y rfl rfl (y_loadB1 2 tf3 rfl rfl rfl) ?_
 refine gk_y rfl rfl (y_sub rfl rfl) ?_
 refine gk_y rfl rfl (y_buildL rfl (bd117_0i_1i_2i _ _ _)) ?_
 refine gk_y rfl rfl (y_fieldAddr fo98_4 rfl) ?_
 refine gk_y rfl rfl (y_loadB1 2 tf3 rfl rfl rfl) ?_
 refine gk_y rfl rfl (y_fieldAddr fo41_3 rfl) ?_
 refine gk_y rfl rfl (y_loadB1 0 tf3 rfl rfl rfl) ?_
 refine gk_y rfl rfl (y_buildL rfl (bd117_0i_1i_2i _ _ _)) ?_
 refine gk_y rfl rfl (y_fieldAddr fo98_3 rfl) ?_
 refine gk_y rfl rfl (y_loadB1 2 tf3 rfl rfl rfl) ?_
 refine gk_y rfl rfl (y_fieldAddr fo41_3 rfl) ?_
 refine gk_y rfl rfl (y_loadB1 0 tf3 rfl rfl rfl) ?_
 refine gk_y rfl rfl (y_fieldAddr fo98_4 rfl) ?_
 refine gk_y rfl rfl (y_loadB1 2 tf3 rfl rfl rfl) ?_
 refine gk_y rfl rfl (y_sub rfl rfl) ?_
 refine gk_y rfl rfl (y_buildL rfl (bd117_0i_1i_2i _ _ _)) ?_
 refine gk_yx rfl rfl (yx_buildSlice rfl (bs148_6 _ _ _ _ _ _ _ _ _ _ _ _ _ _ _ _ _ _) encLim_ok rfl) fun b41=>?_
 refine gk_y rfl rfl (y_call en53 rfl (fun w hw=>kept_c _ _ ([(⟨(IntKind.i64.wrap o.kind),1,4⟩:Lim),(⟨v.length,1,100000⟩:Lim),(⟨o.width,1,v.length⟩:Lim),(⟨o.at_,0,(IntKind.i64.wrap (v.length - o.width))⟩:Lim),(⟨o.high,1,s.height⟩:Lim),(⟨o.frm,0,(IntKind.i64.wrap (s.height - o.high))⟩:Lim)]) w (has_row encLim_ok (hw.has (p:=0) rfl)) (by simp [Small]))) ?_
 refine gk_y rfl rfl (y_not rfl) ?_
 refine gk_nil (gk_sub (T':=[(3,_),(5,_),(6,_),(43,_)]) ⟨rfl,rfl,rfl,rfl,trivial⟩ ?_)
 refine gk_cond rfl (fun hc43=>?_) (fun hc43=>?_)
 ·have hf:=fits_no hk hlen hh hc43
  refine gk_seq ?_
  refine gk_region ?_
  refine gk_y rfl rfl (y_assign rfl) ?_
  refine gk_nil (gk_sub (T':=[(3,_),(5,_),(6,_)]) ⟨rfl,rfl,rfl,trivial⟩ ?_)
  refine gk_ret ?_
  refine gk_pure (rv_one rfl (r1_tmp rfl)) ?_
  rw [hf]
 ·have hf:=fits_yes hk hlen hh hc43
  have hF:=(fitsK_iff hk hlen hh).1 (of_nf hc43)
  refine gk_skip ?_
  refine gk_seq ?_
  refine gk_region ?_
  refine gk_y rfl rfl (y_fieldAddr fo98_3 rfl) ?_
  refine gk_y rfl rfl (y_loadB1 3 tf3 rfl rfl rfl) ?_
  refine gk_y rfl rfl (y_fieldAddr fo98_4 rfl) ?_
  refine gk_y rfl rfl (y_loadB1 3 tf3 rfl rfl rfl) ?_
  refine gk_y rfl rfl (y_addI rfl rfl (by omega) (by omega)) ?_
  refine gk_y rfl rfl (y_fieldAddr fo41_3 rfl) ?_
  refine gk_y rfl rfl (y_loadB1 1 tf3 rfl rfl rfl) ?_
  refine gk_y rfl rfl (y_eql rfl rfl) ?_
  refine gk_y rfl rfl (y_assign rfl) ?_
  refine gk_nil (gk_sub (T':=[(3,_),(6,_),(7,_)]) ⟨rfl,rfl,rfl,trivial⟩ ?_)
  refine gk_seq ?_
  refine gk_any 20 (fun _=>mixed) (by kernel_rfl) ?_
  refine ph_y (y_fieldAddr fo98_0 rfl) ?_
  refine ph_y (y_loadB1 3 tf5 rfl rfl rfl) ?_
  refine ph_y (y_neq rfl rfl) ?_
  refine ph_y (y_move rfl) ?_
  refine ph_gF rfl rfl (fun hgd=>by(try rw [hgd]); exact(y_move rfl)) ?_
  refine ph_y (y_pickOr rfl rfl rfl) ?_
  refine ph_y (y_move rfl) ?_
  refine ph_gT rfl rfl (fun hgd=>by(try rw [hgd]); exact(y_fieldAddr fo98_0 rfl)) ?_
  refine ph_gT rfl rfl (fun hgd=>by(try rw [hgd]); exact(y_loadB1 3 tf5 rfl rfl rfl)) ?_
  refine ph_gT rfl rfl (fun hgd=>by(try rw [hgd]); exact(y_neq rfl rfl)) ?_
  refine ph_gT rfl rfl (fun hgd=>by(try rw [hgd]); exact(y_move rfl)) ?_
  refine ph_gTF rfl rfl (fun hgd=>by(try rw [hgd]); exact(y_move rfl)) ?_
  refine ph_gTF rfl rfl (fun hgd=>by(try rw [hgd]); exact(y_move rfl)) ?_
  refine ph_gTT rfl rfl (fun hgd=>by(try rw [hgd]); exact(y_fieldAddr fo98_3 rfl)) ?_
  refine ph_gTT rfl rfl (fun hgd=>by(try rw [hgd]); exact(y_loadB1 3 tf3 rfl rfl rfl)) ?_
  refine ph_gTT rfl rfl (fun hgd=>by(try rw [hgd]); exact(y_eql rfl rfl)) ?_
  refine ph_gTF rfl rfl (fun hgd=>by(try rw [hgd]); exact(y_pickAnd rfl rfl rfl)) ?_
  refine ph_gT rfl rfl (fun hgd=>by(try rw [hgd]); exact(y_pickOr rfl rfl rfl)) ?_
  refine ph_y (y_pickAnd rfl rfl rfl) ?_
  refine ph_y (y_assign rfl) ?_
  refine gk_nil (gk_sub (T':=[(6,_)]) ⟨rfl,trivial⟩ ?_)
  refine gk_ret ?_
  refine gk_pure (rv_one rfl (r1_tmp rfl)) ?_
  rw [hf]
set_option maxRecDepth 100000 in
set_option maxHeartbeats 1000000 in
theorem meets_c (o p:Opn) (w:World)  :
  Calls Tryz.prog 79 #[.agg #[.int .u8 o.kind,.int .i64 o.at_,.int .i64 o.width,.int .i64 o.frm,.int .i64 o.high],.agg #[.int .u8 p.kind,.int .i64 p.at_,.int .i64 p.width,.int .i64 p.frm,.int .i64 p.high]] w (Pure (.bool (meetsW o p)) w):=by
 refine calls_of_gk (vs:=[_,_]) Tryz.func79 rfl rfl (Nat.le_of_ble_eq_true rfl) ?_
 refine gk_seq ?_
 refine gk_region ?_
 refine gk_yx rfl rfl (yx_box (vs:=[_,_,_,_,_]) rfl rfl) fun b2=>?_
 refine gk_yx rfl rfl (yx_box (vs:=[_,_,_,_,_]) rfl rfl) fun b3=>?_
 refine gk_y rfl rfl (y_assign rfl) ?_
 refine gk_nil (gk_sub (T':=[(2,_),(3,_),(4,_)]) ⟨rfl,rfl,rfl,trivial⟩ ?_)
 refine gk_seq ?_
 refine gk_any 39 (fun _=>mixed) (by kernel_rfl) ?_
 refine ph_y (y_fieldAddr fo98_1 rfl) ?_
 refine ph_y (y_loadB1 1 tf3 rfl rfl rfl) ?_
 refine ph_y (y_fieldAddr fo98_1 rfl) ?_
 refine ph_y (y_loadB1 0 tf3 rfl rfl rfl) ?_
 refine ph_y (y_fieldAddr fo98_2 rfl) ?_
 refine ph_y (y_loadB1 0 tf3 rfl rfl rfl) ?_
 refine ph_y (y_add rfl rfl) ?_
 refine ph_y (y_lss rfl rfl) ?_
 refine ph_y (y_move rfl) ?_
 refine ph_gT rfl rfl (fun hgd=>by(try rw [hgd]); exact(y_fieldAddr fo98_1 rfl)) ?_
 refine ph_gT rfl rfl (fun hgd=>by(try rw [hgd]); exact(y_loadB1 0 tf3 rfl rfl rfl)) ?_
 refine ph_gT rfl rfl (fun hgd=>by(try rw [hgd]); exact(y_fieldAddr fo98_1 rfl)) ?_
 refine ph_gT rfl rfl (fun hgd=>by(try rw [hgd]); exact(y_loadB1 1 tf3 rfl rfl rfl)) ?_
 refine ph_gT rfl rfl (fun hgd=>by(try rw [hgd]); exact(y_fieldAddr fo98_2 rfl)) ?_
 refine ph_gT rfl rfl (fun hgd=>by(try rw [hgd]); exact(y_loadB1 1 tf3 rfl rfl rfl)) ?_
 refine ph_gT rfl rfl (fun hgd=>by(try rw [hgd]); exact(y_add rfl rfl)) ?_
 refine ph_gT rfl rfl (fun hgd=>by(try rw [hgd]); exact(y_lss rfl rfl)) ?_
 refine ph_y (y_pickAnd rfl rfl rfl) ?_
 refine ph_y (y_move rfl) ?_
 refine ph_gT rfl rfl (fun hgd=>by(try rw [hgd]); exact(y_fieldAddr fo98_3 rfl)) ?_
 refine ph_gT rfl rfl (fun hgd=>by(try rw [hgd]); exact(y_loadB1 1 tf3 rfl rfl rfl)) ?_
 refine ph_gT rfl rfl (fun hgd=>by(try rw [hgd]); exact(y_fieldAddr fo98_3 rfl)) ?_
 refine ph_gT rfl rfl (fun hgd=>by(try rw [hgd]); exact(y_loadB1 0 tf3 rfl rfl rfl)) ?_
 refine ph_gT rfl rfl (fun hgd=>by(try rw [hgd]); exact(y_fieldAddr fo98_4 rfl)) ?_
 refine ph_gT rfl rfl (fun hgd=>by(try rw [hgd]); exact(y_loadB1 0 tf3 rfl rfl rfl)) ?_
 refine ph_gT rfl rfl (fun hgd=>by(try rw [hgd]); exact(y_add rfl rfl)) ?_
 refine ph_gT rfl rfl (fun hgd=>by(try rw [hgd]); exact(y_lss rfl rfl)) ?_
 refine ph_y (y_pickAnd rfl rfl rfl) ?_
 refine ph_y (y_move rfl) ?_
 refine ph_gT rfl rfl (fun hgd=>by(try rw [hgd]); exact(y_fieldAddr fo98_3 rfl)) ?_
 refine ph_gT rfl rfl (fun hgd=>by(try rw [hgd]); exact(y_loadB1 0 tf3 rfl rfl rfl)) ?_
 refine ph_gT rfl rfl (fun hgd=>by(try rw [hgd]); exact(y_fieldAddr fo98_3 rfl)) ?_
 refine ph_gT rfl rfl (fun hgd=>by(try rw [hgd]); exact(y_loadB1 1 tf3 rfl rfl rfl)) ?_
 refine ph_gT rfl rfl (fun hgd=>by(try rw [hgd]); exact(y_fieldAddr fo98_4 rfl)) ?_
 refine ph_gT rfl rfl (fun hgd=>by(try rw [hgd]); exact(y_loadB1 1 tf3 rfl rfl rfl)) ?_
 refine ph_gT rfl rfl (fun hgd=>by(try rw [hgd]); exact(y_add rfl rfl)) ?_
 refine ph_gT rfl rfl (fun hgd=>by(try rw [hgd]); exact(y_lss rfl rfl)) ?_
 refine ph_y (y_pickAnd rfl rfl rfl) ?_
 refine ph_y (y_assign rfl) ?_
 refine gk_nil (gk_sub (T':=[(4,_)]) ⟨rfl,trivial⟩ ?_)
 refine gk_ret ?_
 refine gk_pure (rv_one rfl (r1_tmp rfl)) ?_
 rfl
set_option maxRecDepth 100000 in
set_option maxHeartbeats 4000000 in
theorem valid_c (b:Option Addr) (bcap:Nat) (v:Wll) (a:Option Addr) (cap:Nat) (s:Sht) (w:World) (hv:Has w (Elems b 5 encOpn v.opens)) (hcap:v.opens.length≤bcap) (hsv:Small v.opens.length) (hkn:∀ o∈v.opens,Knd o) (hh:0≤s.height∧s.height≤3000) :
  Calls Tryz.prog 48 #[.agg #[.string v.name,.string v.sheet,.int .i64 v.length,.slice b v.opens.length bcap],.agg #[.string s.name,.int .i64 s.base,.int .i64 s.batter,.int .i64 s.height,.int .i64 s.skin,.slice a s.heights.length cap,.int .i64 s.least,.int .i64 s.lap,.int .i64 s.run,.int .i64 s.every,.int .i64 s.at_,.int .i64 s.footing,.int .i64 s.spread,.int .u8 s.cope,.int .i64 s.tall,.int .i64 s.short,.int .i64 s.thick,.int .i64 s.low,.int .i64 s.high,.int .i64 s.rood]] w (Pure (.bool (wallB s.height v)) w):=by
 refine calls_of_gk (vs:=[_,_]) Tryz.func48 rfl rfl (Nat.le_of_ble_eq_true rfl) ?_
 refine gk_seq ?_
 refine gk_region ?_
 refine gk_yx rfl rfl (yx_box (vs:=[_,_,_,_]) rfl rfl) fun b2=>?_
 refine gk_yx rfl rfl (yx_box (vs:=[_,_,_,_,_,_,_,_,_,_,_,_,_,_,_,_,_,_,_,_]) rfl rfl) fun b3=>?_
 refine gk_y rfl rfl (y_assign rfl) ?_
 refine gk_nil (gk_sub (T':=[(2,_),(3,_),(4,_)]) ⟨rfl,rfl,rfl,trivial⟩ ?_)
 refine gk_join (X:=Unit) (fun _=>[(2,.pointer (some ⟨b2,0,none⟩)),(3,.pointer (some ⟨b3,0,none⟩))]) (fun _=>[Box b3 [.string s.name,.int .i64 s.base,.int .i64 s.batter,.int .i64 s.height,.int .i64 s.skin,.slice a s.heights.length cap,.int .i64 s.least,.int .i64 s.lap,.int .i64 s.run,.int .i64 s.every,.int .i64 s.at_,.int .i64 s.footing,.int .i64 s.spread,.int .u8 s.cope,.int .i64 s.tall,.int .i64 s.short,.int .i64 s.thick,.int .i64 s.low,.int .i64 s.high,.int .i64 s.rood] 41,Box b2 [.string v.name,.string v.sheet,.int .i64 v.length,.slice b v.opens.length bcap] 94]) (fun _=>wall0 v=true) ?_ ?_
 ·
  refine gk_seq ?_
  refine gk_region ?_
  refine gk_y rfl rfl (y_fieldAddr fo94_0 rfl) ?_
  refine gk_y rfl rfl (y_loadB1 1 tf9 rfl rfl rfl) ?_
  refine gk_y rfl rfl (y_call en55 rfl (fun w hw=>named_c _ w)) ?_
  refine gk_y rfl rfl (y_not rfl) ?_
  refine gk_y rfl rfl (y_move rfl) ?_
  refine gk_guard rfl rfl rfl rfl (fun hg11=>?_) (fun hg11=>?_)
  ·replace hg11:_=false:=hg11
   try rw [hg11]
   refine gk_y rfl rfl (y_fieldAddr fo94_2 rfl) ?_
   refine gk_guard rfl rfl rfl rfl (fun _=>?_) (fun h=>absurd h (by decide))
   refine gk_y rfl rfl (y_loadB1 1 tf3 rfl rfl rfl) ?_
   refine gk_guard rfl rfl rfl rfl (fun _=>?_) (fun h=>absurd h (by decide))
   refine gk_y rfl rfl (y_buildL rfl (bd117_0i_1i_2i _ _ _)) ?_
   refine gk_guard rfl rfl rfl rfl (fun _=>?_) (fun h=>absurd h (by decide))
   refine gk_y rfl rfl (y_fieldAddr fo94_3 rfl) ?_
   refine gk_guard rfl rfl rfl rfl (fun _=>?_) (fun h=>absurd h (by decide))
   refine gk_y rfl rfl (y_loadB1 1 tf92 rfl rfl rfl) ?_
   refine gk_guard rfl rfl rfl rfl (fun _=>?_) (fun h=>absurd h (by decide))
   refine gk_y rfl rfl (y_lenS (Tryz.underlying92) rfl) ?_
   refine gk_guard rfl rfl rfl rfl (fun _=>?_) (fun h=>absurd h (by decide))
   refine gk_y rfl rfl (y_buildL rfl (bd117_0i_1i_2i _ _ _)) ?_
   refine gk_guard rfl rfl rfl rfl (fun _=>?_) (fun h=>absurd h (by decide))
   refine gk_yx rfl rfl (yx_buildSlice rfl (bs148_2 _ _ _ _ _ _) encLim_ok rfl) fun b19=>?_
   refine gk_guard rfl rfl rfl rfl (fun _=>?_) (fun h=>absurd h (by decide))
   refine gk_y rfl rfl (y_call en53 rfl (fun w hw=>kept_c _ _ ([(⟨v.length,1,100000⟩:Lim),(⟨(v.opens.length:Int),0,20⟩:Lim)]) w (has_row encLim_ok (hw.has (p:=0) rfl)) (by simp [Small]))) ?_
   refine gk_guard rfl rfl rfl rfl (fun _=>?_) (fun h=>absurd h (by decide))
   refine gk_y rfl rfl (y_not rfl) ?_
   refine gk_y rfl rfl (y_pick rfl rfl rfl) ?_
   refine gk_nil (gk_sub (T':=[(2,_),(3,_),(4,_),(22,_)]) ⟨rfl,rfl,rfl,rfl,trivial⟩ ?_)
   refine gk_cond rfl (fun hc22=>?_) (fun hc22=>?_)
   ·have hw0:wall0 v=false:=by rw [wall0_P]; rw [show(!keptB _)=true from hc22]; simp
    refine gk_seq ?_
    refine gk_region ?_
    refine gk_y rfl rfl (y_assign rfl) ?_
    refine gk_nil (gk_sub (T':=[(2,_),(3,_),(4,_)]) ⟨rfl,rfl,rfl,trivial⟩ ?_)
    refine gk_ret ?_
    refine gk_pure (rv_one rfl (r1_tmp rfl)) ?_
    rw [wall_no0 hw0]
   ·have hw0:wall0 v=true:=by rw [wall0_P]; rw [show(!namedB _)=false from hg11,show(!keptB _)=false from hc22]; rfl
    refine gk_skip ?_
    refine gk_dropAt 0 rfl ?_
    exact gk_joined () ⟨rfl,rfl,trivial⟩ rfl hw0
  ·replace hg11:_=true:=hg11
   try rw [hg11]
   refine gk_guard rfl rfl rfl rfl (fun h=>absurd h (by decide)) (fun _=>?_)
   refine gk_guard rfl rfl rfl rfl (fun h=>absurd h (by decide)) (fun _=>?_)
   refine gk_guard rfl rfl rfl rfl (fun h=>absurd h (by decide)) (fun _=>?_)
   refine gk_guard rfl rfl rfl rfl (fun h=>absurd h (by decide)) (fun _=>?_)
   refine gk_guard rfl rfl rfl rfl (fun h=>absurd h (by decide)) (fun _=>?_)
   refine gk_guard rfl rfl rfl rfl (fun h=>absurd h (by decide)) (fun _=>?_)
   refine gk_guard rfl rfl rfl rfl (fun h=>absurd h (by decide)) (fun _=>?_)
   refine gk_guard rfl rfl rfl rfl (fun h=>absurd h (by decide)) (fun _=>?_)
   refine gk_guard rfl rfl rfl rfl (fun h=>absurd h (by decide)) (fun _=>?_)
   refine gk_y rfl rfl (y_pick rfl rfl rfl) ?_
   refine gk_nil (gk_sub (T':=[(2,_),(3,_),(4,_),(22,_)]) ⟨rfl,rfl,rfl,rfl,trivial⟩ ?_)
   refine gk_condT rfl ?_
   refine gk_seq ?_
   refine gk_region ?_
   refine gk_y rfl rfl (y_assign rfl) ?_
   refine gk_nil (gk_sub (T':=[(2,_),(3,_),(4,_)]) ⟨rfl,rfl,rfl,trivial⟩ ?_)
   refine gk_ret ?_
   refine gk_pure (rv_one rfl (r1_tmp rfl)) ?_
   rw [wall_no0 (by rw [wall0_P,show(!namedB _)=true from hg11]; rfl)]
 ·rintro _ hJ
  have hlen:=(wall0_len hJ).1
  refine gk_seq ?_
  refine gk_seq ?_
  refine gk_region ?_
  refine gk_y rfl rfl (y_fieldAddr fo94_3 rfl) ?_
  refine gk_y rfl rfl (y_loadB1 1 tf92 rfl rfl rfl) ?_
  refine gk_y rfl rfl (y_lenS (Tryz.underlying92) rfl) ?_
  refine gk_y rfl rfl (y_move rfl) ?_
  refine gk_nil (gk_sub (T':=[(2,_),(3,_),(24,_),(25,_),(26,_)]) ⟨rfl,rfl,rfl,rfl,rfl,trivial⟩ ?_)
  refine gk_block ?_
  refine gk_loop (X:=Int) (fun(i:Int)=>[(2,.pointer (some ⟨b2,0,none⟩)),(3,.pointer (some ⟨b3,0,none⟩)),(24,.slice b v.opens.length bcap),(25,.int .i64 (v.opens.length:Int)),(26,.int .i64 i)]) (fun(i:Int)=>[Box b3 [.string s.name,.int .i64 s.base,.int .i64 s.batter,.int .i64 s.height,.int .i64 s.skin,.slice a s.heights.length cap,.int .i64 s.least,.int .i64 s.lap,.int .i64 s.run,.int .i64 s.every,.int .i64 s.at_,.int .i64 s.footing,.int .i64 s.spread,.int .u8 s.cope,.int .i64 s.tall,.int .i64 s.short,.int .i64 s.thick,.int .i64 s.low,.int .i64 s.high,.int .i64 s.rood] 41,Box b2 [.string v.name,.string v.sheet,.int .i64 v.length,.slice b v.opens.length bcap] 94]) (fun(i:Int)=>(0≤i∧i≤v.opens.length∧∀ j:Nat,(j:Int) < i→openAt s.height v j=true)) (fun(i:Int)=>(v.opens.length - i).toNat) 0 ⟨rfl,rfl,rfl,rfl,rfl,trivial⟩ rfl ?_ ?_
  ·exact⟨by omega,by omega,fun j hj=>by omega⟩
  ·rintro i hI
   obtain⟨g0,g1,g2⟩:=hI
   refine gk_seq ?_
   refine gk_region ?_
   refine gk_y rfl rfl (y_lss rfl rfl) ?_
   refine gk_nil (gk_sub (T':=[(2,_),(3,_),(24,_),(25,_),(26,_),(27,_)]) ⟨rfl,rfl,rfl,rfl,rfl,rfl,trivial⟩ ?_)
   refine gk_seq ?_
   refine gk_cond rfl (fun hc27=>?_) (fun hc27=>?_)
   ·simp only [decide_eq_true_eq] at hc27
    refine gk_skip ?_
    refine gk_seq ?_
    refine gk_block ?_
    refine gk_seq ?_
    refine gk_region ?_
    refine gk_y rfl rfl (y_move rfl) ?_
    refine gk_y rfl rfl (y_indexE se92 rfl rfl (fun _ hw=>(Rd.has (Has.rd hv) hw)) (by omega) (by omega)) ?_
    refine gk_y rfl rfl (y_loadE (vs:=[_,_,_,_,_]) tf98 rfl (fun _ hw=>(Rd.has (Has.rd hv) hw)) (by omega) (by omega) rfl) ?_
    refine gk_yx rfl rfl (yx_alloc tf98 (zs:=[_,_,_,_,_]) rfl) fun b6=>?_
    refine gk_y rfl rfl (y_assign rfl) ?_
    refine gk_storeV 0 tf98 rfl rfl (vs:=[_,_,_,_,_]) rfl rfl rfl rfl rfl ?_
    refine gk_nil (gk_sub (T':=[(2,_),(3,_),(5,_),(6,_),(24,_),(25,_),(26,_)]) ⟨rfl,rfl,rfl,rfl,rfl,rfl,rfl,trivial⟩ ?_)
    refine gk_seq ?_
    refine gk_any 14 (fun _=>mixed) (by kernel_rfl) ?_
    refine ph_y (y_loadBA 0 tf98 rfl rfl (vs:=[_,_,_,_,_]) rfl rfl) ?_
    refine ph_y (y_loadBA 2 tf94 rfl rfl (vs:=[_,_,_,_]) rfl rfl) ?_
    refine ph_y (y_loadBA 1 tf41 rfl rfl (vs:=[_,_,_,_,_,_,_,_,_,_,_,_,_,_,_,_,_,_,_,_]) rfl rfl) ?_
    refine ph_y (y_call en77 rfl (fun w hw=>fits_c (v.opens.getD (i).toNat default) b bcap v a cap s w (hkn _ (getD_memS (by omega))) hlen hh)) ?_
    refine ph_y (y_not rfl) ?_
    refine ph_y (y_move rfl) ?_
    refine ph_gF rfl rfl (fun hgd=>by(try rw [hgd]); exact(y_fieldAddr fo94_3 rfl)) ?_
    refine ph_gF rfl rfl (fun hgd=>by(try rw [hgd]); exact(y_loadB1 2 tf92 rfl rfl rfl)) ?_
    refine ph_gF rfl rfl (fun hgd=>by(try rw [hgd]); exact(y_move rfl)) ?_
    refine ph_gF rfl rfl (fun hgd=>by(try rw [hgd]); exact(y_sliceHiL se92 rfl rfl (by omega) (by omega) hcap)) ?_
    refine ph_gF rfl rfl (fun hgd=>by(try rw [hgd]); exact(y_loadBA 0 tf98 rfl rfl (vs:=[_,_,_,_,_]) rfl rfl)) ?_
    refine ph_gF rfl rfl (fun hgd=>by(try rw [hgd]); exact(y_makeFunc («as»:=[_]) (bs:=[]) rfl rfl)) ?_
    refine ph_gF rfl rfl (fun hgd=>by(try rw [hgd]); exact(y_call (v:=.bool ((v.opens.take i.toNat).any (meetsW (v.opens.getD (i).toNat default)))) en78 rfl (fun w hw=>containsfuncO_c _ _ (v.opens.take i.toNat) (meetsW (v.opens.getD (i).toNat default)) 79 [.agg (encOpn (v.opens.getD (i).toNat default)).toArray] [] w (elems_take (Rd.has (Has.rd hv) hw) (by omega) (by omega)) (by rw [List.length_take]; have:=hsv; unfold Small at *; omega) (fun _=>True) (fun _ _=>trivial) en79 (fun z w _=>meets_c _ z w)))) ?_
    refine ph_y (y_pickOr rfl rfl rfl) ?_
    refine gk_nil (gk_sub (T':=[(2,_),(3,_),(24,_),(25,_),(26,_),(44,_)]) ⟨rfl,rfl,rfl,rfl,rfl,rfl,trivial⟩ ?_)
    refine gk_cond rfl (fun hc44=>?_) (fun hc44=>?_)
    ·have hno:openAt s.height v i.toNat=false:=of_nt ((openAt_of (by omega) g0 hc27 g2).symm.trans hc44)
     refine gk_seq ?_
     refine gk_region ?_
     refine gk_y rfl rfl (y_assign rfl) ?_
     refine gk_nil (gk_sub (T':=[(2,_),(3,_),(4,_),(24,_),(25,_),(26,_)]) ⟨rfl,rfl,rfl,rfl,rfl,rfl,trivial⟩ ?_)
     refine gk_ret ?_
     refine gk_pure (rv_one rfl (r1_tmp rfl)) ?_
     rw [wall_noI g0 hc27 hno]
    ·have hyes:openAt s.height v i.toNat=true:=of_nf ((openAt_of (by omega) g0 hc27 g2).symm.trans hc44)
     refine gk_skip ?_
     refine gk_region ?_
     refine gk_y rfl rfl (y_addI rfl rfl (by omega) (by omega)) ?_
     refine gk_y rfl rfl (y_move rfl) ?_
     refine gk_nil (gk_sub (T':=[(2,_),(3,_),(24,_),(25,_),(26,_)]) ⟨rfl,rfl,rfl,rfl,rfl,trivial⟩ ?_)
     refine gk_dropAt 0 rfl ?_
     exact gk_next (i+1) ⟨rfl,rfl,rfl,rfl,rfl,trivial⟩ rfl ⟨by omega,by omega,true_succ g0 g2 hyes⟩ (by omega)
   ·simp only [decide_eq_false_iff_not] at hc27
    refine gk_exit rfl ?_
    refine gk_seq ?_
    refine gk_region ?_
    refine gk_y rfl rfl (y_assign rfl) ?_
    refine gk_nil (gk_sub (T':=[(4,_)]) ⟨rfl,trivial⟩ ?_)
    refine gk_ret ?_
    refine gk_pure (rv_one rfl (r1_tmp rfl)) ?_
    rw [wall_yes hJ hc27 g2]
end Go.Proofs.YtdcfcfhmkfkgmaaGreatDoor
namespace Go.Pln
open Go Go.K Go.RowKit Go.Stn
theorem name_self (a:ByteArray):(a.toList == a.toList)=true:=beq_self_eq_true _
theorem shAt_of {S:List ShC} {i:Int} (_h0:0≤i) (_h1:i < (S.length:Int)) :
  (decide (0≤sheetI (S.take i.toNat) (S.getD i.toNat default).s.name)||!decide (checkP (S.getD i.toNat default).s=0)) = !shAt S i.toNat:=by
 unfold shAt sheetI
 rw [findI_any]
 have:decide (checkP (S.getD i.toNat default).s=0)=sheetP (S.getD i.toNat default).s:=by
  unfold checkP
  cases sheetP (S.getD i.toNat default).s <;> rfl
 rw [this]
 cases (S.take i.toNat).any _ <;> cases sheetP (S.getD i.toNat default).s <;> rfl
theorem shAt_ref {S:List ShC} {i:Int} (h0:0≤i) (h1:i < (S.length:Int)) :
  (!sheetP (S.getD i.toNat default).s||!decide (sheetI S (S.getD i.toNat default).s.name=i)) = !shAt S i.toNat:=by
 unfold shAt
 have:=find_self (p:=fun z:ShC=>z.s.name.toList == (S.getD i.toNat default).s.name.toList) h0 h1 (name_self _)
 rw [show sheetI S (S.getD i.toNat default).s.name=findI (fun z:ShC=>z.s.name.toList == (S.getD i.toNat default).s.name.toList) S from rfl,this]
 cases (S.take i.toNat).any _ <;> cases sheetP (S.getD i.toNat default).s <;> rfl
theorem wlAt_of {S:List ShC} {V:List WlC} {i:Int} (h0:0≤i) (h1:i < (V.length:Int)) :
  ((!decide (0≤sheetI S (V.getD i.toNat default).s.sheet)||decide (wallI V (V.getD i.toNat default).s.name < i))||!wallB (getSh S (V.getD i.toNat default).s.sheet).s.height (V.getD i.toNat default).s) = !wlAt S V i.toNat:=by
 unfold wlAt
 have h2:=find_self (p:=fun z:WlC=>z.s.name.toList == (V.getD i.toNat default).s.name.toList) h0 h1 (name_self _)
 have h3:=find_le (p:=fun z:WlC=>z.s.name.toList == (V.getD i.toNat default).s.name.toList) h0 h1 (name_self _)
 rw [show wallI V (V.getD i.toNat default).s.name=findI (fun z:WlC=>z.s.name.toList == (V.getD i.toNat default).s.name.toList) V from rfl,h3,h2]
 cases decide (0≤sheetI S (V.getD i.toNat default).s.sheet) <;> cases (V.take i.toNat).any _ <;> cases wallB _ _ <;> rfl
theorem wlAt_ref {S:List ShC} {V:List WlC} {i:Int} (h0:0≤i) (h1:i < (V.length:Int)) :
  ((decide (sheetI S (V.getD i.toNat default).s.sheet < 0)||!wallB (S.getD (sheetI S (V.getD i.toNat default).s.sheet).toNat default).s.height (V.getD i.toNat default).s)||!decide (wallI V (V.getD i.toNat default).s.name=i)) = !wlAt S V i.toNat:=by
 unfold wlAt
 have h2:=find_self (p:=fun z:WlC=>z.s.name.toList == (V.getD i.toNat default).s.name.toList) h0 h1 (name_self _)
 rw [show wallI V (V.getD i.toNat default).s.name=findI (fun z:WlC=>z.s.name.toList == (V.getD i.toNat default).s.name.toList) V from rfl,h2]
 by_cases hk:0≤sheetI S (V.getD i.toNat default).s.sheet
 ·rw [show getSh S (V.getD i.toNat default).s.sheet=S.getD (sheetI S (V.getD i.toNat default).s.sheet).toNat default from if_pos hk,decide_eq_true hk,decide_eq_false (show ¬ sheetI S (V.getD i.toNat default).s.sheet < 0 by omega)]
  cases (V.take i.toNat).any _ <;> cases wallB _ _ <;> rfl
 ·rw [decide_eq_false hk,decide_eq_true (show sheetI S (V.getD i.toNat default).s.sheet < 0 by omega)]; simp
theorem shAt_sheet {S:List ShC} {i:Nat} (h:shAt S i=true):sheetP (S.getD i default).s=true:=by
 unfold shAt at h
 rw [Bool.and_eq_true] at h
 exact h.2
theorem sheets_all {S:List ShC} (h:∀ j:Nat,(j:Int) < (S.length:Int)→shAt S j=true):∀ z∈S,sheetP z.s=true:=fun z hz=>by
 obtain⟨j,hj,rfl⟩:=List.getElem_of_mem hz
 have:=shAt_sheet (h j (by omega))
 simpa [hj] using this
theorem getSh_high {S:List ShC} {n:ByteArray} (h:∀ z∈S,sheetP z.s=true):0≤(getSh S n).s.height∧(getSh S n).s.height≤3000:=
 getSh_of (P:=fun z=>0≤z.s.height∧z.s.height≤3000) (fun z hz=>by have:=(sheetP_nums (h z hz)).height; omega) (by decide)
theorem plan_many {S:List ShC} {V:List WlC} (h:(decide (20 < (S.length:Int))||decide (50 < (V.length:Int)))=true):planP S V=false:=by unfold planP; rw [h]; rfl
theorem plan_noS {S:List ShC} {V:List WlC} {i:Int} (h0:0≤i) (h1:i < (S.length:Int)) (h:shAt S i.toNat=false):planP S V=false:=by
 unfold planP; rw [allI_false (i:=i.toNat) (by omega) h]; simp
theorem plan_noW {S:List ShC} {V:List WlC} {i:Int} (h0:0≤i) (h1:i < (V.length:Int)) (h:wlAt S V i.toNat=false):planP S V=false:=by
 unfold planP; rw [allI_false (i:=i.toNat) (by omega) h,Bool.and_false]
theorem plan_yes {S:List ShC} {V:List WlC} {i k:Int} (hi:¬ i < (S.length:Int)) (hk:¬ k < (V.length:Int)) (h1:∀ j:Nat,(j:Int) < i→shAt S j=true) (h2:∀ j:Nat,(j:Int) < k→wlAt S V j=true) :
  planP S V=(decide ((S.length:Int)≤20)&&decide ((V.length:Int)≤50)):=by
 unfold planP
 rw [allI_true (fun j hj=>h1 j (by omega)),allI_true (fun j hj=>h2 j (by omega)),Bool.and_true,Bool.and_true,Bool.not_or]
 congr 1 <;> (rw [Bool.eq_iff_iff,Bool.not_eq_true',decide_eq_false_iff_not,decide_eq_true_eq]; omega)
theorem planP_parts {S:List ShC} {V:List WlC} (h:planP S V=true):S.length≤20∧V.length≤50∧(∀ j,j < S.length→shAt S j=true)∧(∀ j,j < V.length→wlAt S V j=true):=by
 unfold planP at h
 simp only [Bool.and_eq_true,Bool.not_eq_true',Bool.or_eq_false_iff,decide_eq_false_iff_not] at h
 exact⟨by omega,by omega,allI_iff.1 h.1.2,allI_iff.1 h.2⟩
theorem planP_sheets {S:List ShC} {V:List WlC} (h:planP S V=true):∀ z∈S,sheetP z.s=true:=sheets_all fun j hj=>(planP_parts h).2.2.1 j (by omega)
theorem wlAt_parts {S:List ShC} {V:List WlC} {i:Nat} (h:wlAt S V i=true):0≤sheetI S (V.getD i default).s.sheet∧wallB (getSh S (V.getD i default).s.sheet).s.height (V.getD i default).s=true:=by
 unfold wlAt at h
 simp only [Bool.and_eq_true,decide_eq_true_eq] at h
 exact⟨h.1.1,h.2⟩
theorem planP_walls {S:List ShC} {V:List WlC} (h:planP S V=true):∀ z∈V,0≤sheetI S z.s.sheet∧wallB (getSh S z.s.sheet).s.height z.s=true:=fun z hz=>by
 obtain⟨j,hj,rfl⟩:=List.getElem_of_mem hz
 have:=wlAt_parts ((planP_parts h).2.2.2 j hj)
 simpa [hj] using this
theorem wall0_R' {w:Wll} {b:Bool} (h:(!rnamedB w.name||!inB w.length 1 100000||decide (20 < (w.opens.length:Int)))=b):wall0 w = !b:=by rw [wall0_R,h]
def rf1 (len top:Int) (o:Opn):Bool:=!inB o.kind 1 4||!inB o.at_ 0 len||!inB o.width 1 len||decide (len < o.at_+o.width)||!inB o.frm 0 top||!inB o.high 1 top||decide (top < o.frm+o.high)
def rf2 (top:Int) (o:Opn):Bool:=(decide (3≤o.kind)&&!decide (o.frm+o.high=top))||(decide (o.kind=4)&&!decide (o.frm=0))
theorem rfits {len top:Int} {o:Opn} (hl:1≤len∧len≤100000):fitsB len top o = !(rf1 len top o||rf2 top o):=by
 rw [fits_eq (in_iff.2 hl)]; rfl
theorem rf1_facts {len top:Int} {o:Opn} (h:rf1 len top o=false):(1≤o.kind∧o.kind≤4)∧(0≤o.at_∧o.at_≤len)∧(1≤o.width∧o.width≤len)∧o.at_+o.width≤len∧(0≤o.frm∧o.frm≤top)∧(1≤o.high∧o.high≤top)∧o.frm+o.high≤top:=by
 unfold rf1 at h
 simp only [Bool.or_eq_false_iff,Bool.not_eq_false',in_iff,decide_eq_false_iff_not] at h
 omega
theorem openAt_no1 {top:Int} {w:Wll} {i:Nat} (h:fitsB w.length top (w.opens.getD i default)=false):openAt top w i=false:=by unfold openAt; rw [h]; rfl
theorem openAt_no2 {top:Int} {w:Wll} {i k:Int} (h0:0≤k) (hk:k < i) (h1:i < (w.opens.length:Int)) (h:meetsB (w.opens.getD i.toNat default) (w.opens.getD k.toNat default)=true):openAt top w i.toNat=false:=by
 unfold openAt
 have:(w.opens.take i.toNat).any (fun q=>meetsB (w.opens.getD i.toNat default) q)=true:=List.any_eq_true.2 ⟨w.opens.getD k.toNat default,by
  rw [List.getD_eq_getElem?_getD (l:=w.opens) (i:=k.toNat),List.getElem?_eq_getElem (by omega)]
  exact List.mem_take_iff_getElem.2 ⟨k.toNat,by omega,rfl⟩,h⟩
 rw [this]; simp
theorem openAt_yes {top:Int} {w:Wll} {i k:Int} (h1:i < (w.opens.length:Int)) (hf:fitsB w.length top (w.opens.getD i.toNat default)=true) (hk:¬ k < i) (h:∀ j:Nat,(j:Int) < k→meetsB (w.opens.getD i.toNat default) (w.opens.getD j default)=false):openAt top w i.toNat=true:=by
 unfold openAt
 rw [hf,Bool.true_and,Bool.not_eq_true',List.any_eq_false]
 intro q hq
 obtain⟨j,hj,rfl⟩:=List.mem_take_iff_getElem.1 hq
 have:=h j (by omega)
 rw [List.getD_eq_getElem?_getD (l:=w.opens) (i:=j),List.getElem?_eq_getElem (by omega)] at this
 simpa using this
end Go.Pln