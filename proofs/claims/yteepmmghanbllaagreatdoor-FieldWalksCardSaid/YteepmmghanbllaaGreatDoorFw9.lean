/- What the proof of the root text leans on, part 9: the layer, plain facts and walks. No statement of the seat is proved in this text. -/
import Derived.Test.YteepmmghanbllaaGreatDoorFw8
set_option maxRecDepth 100000
set_option maxHeartbeats 32000000
namespace Go.Fld
open Go Go.K Go.Stn Go.Pln
def hasI (l:List Int) (n:Int):Bool:=l.any λ z=>decide (n=z)
theorem zIR {l:List Int} {n:Int}:hasI l n=true↔n∈l:=by
 unfold hasI
 rw [List.any_eq_true]
 constructor
 ·rintro ⟨z,h1,h2⟩;rw [oT h2];exact h1
 ·intro h;exact⟨n,h,decide_eq_true I⟩
theorem zJu {l:List Int} {n i:Int} (h0:0≤i) (h1:i<(l.length:Int)) (h:l.getD i.toNat default=n):hasI l n=true:=by
 rw [zIR,←h];exact za0 (by omega)
theorem zJP {l:List Int} {n:Int} (h:∀ j:Nat,j<l.length→¬ l.getD j default=n):hasI l n=false:=by
 cases e:hasI l n with
 | false=>rfl
 | true=>
  obtain⟨i,hi,e2⟩:=List.getElem_of_mem (zIR.1 e)
  exact absurd (by rw [gE,eG hi];exact e2) (h i hi)
def cmpF (a b:Int):Int:=if a<b then -1 else if b<a then 1 else 0
def cmpL:List Int→List Int→Int
 | [],[]=>0
 | [],_ :: _=>-1
 | _ :: _,[]=>1
 | a :: l,b :: m=>if cmpF a b=0 then cmpL l m else cmpF a b
def orF (l:List Int):Int:=(l.find? λ z=>!decide (z=0)).getD 0
def befT (t o:Trk):Int:=orF [cmpF t.eff o.eff,cmpF t.l.length o.l.length,cmpL (zIh t.l) (zIh o.l)]
theorem zLf {a b:Int}:cmpF a b=0↔a=b:=by unfold cmpF;split <;> (try split) <;> omega
theorem cmpF_lt {a b:Int}:cmpF a b<0↔a<b:=by unfold cmpF;split <;> (try split) <;> omega
theorem zLq:∀ {a b:List Int},a.length=b.length→decide (cmpL a b<0)=lexB a b
 | [],[],_=>by decide
 | [],_ :: _,h=>by cases h
 | _ :: _,[],h=>by cases h
 | x :: a,y :: b,h=>by
  simp only [lC,Nat.add_right_cancel_iff] at h
  rw [cmpL,lexB]
  by_cases e:x=y
  ·rw [if_pos (zLf.2 e),if_pos e];exact zLq h
  ·rw [if_neg (λ k=>e (zLf.1 k)),if_neg e];exact decide_eq_decide.2 cmpF_lt
theorem zLn (t o:Trk):decide (befT t o<0)=kLt t o:=by
 unfold befT orF kLt
 by_cases e1:t.eff=o.eff
 ·rw [if_pos e1]
  have h1:cmpF t.eff o.eff=0:=zLf.2 e1
  by_cases e2:t.l.length=o.l.length
  ·rw [if_pos e2]
   have h2:cmpF (t.l.length:Int) (o.l.length:Int)=0:=zLf.2 (by omega)
   rw [h1,h2,←zLq (by simpa using e2)]
   generalize cmpL (zIh t.l) (zIh o.l)=c
   by_cases hc:c=0
   ·subst hc;decide
   ·simp [List.find?,hc]
  ·rw [if_neg e2]
   have h2:¬ cmpF (t.l.length:Int) (o.l.length:Int)=0:=λ k=>e2 (by have:=zLf.1 k;omega)
   rw [h1]
   simp only [List.find?,h2,decide_false,Bool.not_false,decide_true,Bool.not_true,Option.getD_some]
   exact decide_eq_decide.2 (cmpF_lt.trans (by omega))
 ·rw [if_neg e1]
  have h1:¬ cmpF t.eff o.eff=0:=λ k=>e1 (zLf.1 k)
  simp only [List.find?,h1,decide_false,Bool.not_false,Option.getD_some]
  exact decide_eq_decide.2 cmpF_lt
theorem zLc:∀ {i:Nat} {l m:List Int},i≤l.length→i≤m.length→(∀ j:Nat,j<i→l.getD j default=m.getD j default)→cmpL l m=cmpL (l.drop i) (m.drop i)
 | 0,l,m,_,_,_=>rfl
 | i+1,[],_,h,_,_=>by cases h
 | i+1,_ :: _,[],_,h,_=>by cases h
 | i+1,x :: l,y :: m,h1,h2,h=>by
  have e:x=y:=h 0 (by omega)
  rw [cmpL,if_pos (zLf.2 e)]
  exact zLc (by simpa using h1) (by simpa using h2) λ j hj=>h (j+1) (by omega)
theorem zLy {l m:List Int} {i:Int} (h0:0≤i) (h1:i<(l.length:Int)) (h2:(m.length:Int)≤i) (h3:i≤(m.length:Int)) (h:∀ j:Nat,(j:Int)<i→l.getD j default=m.getD j default):cmpL l m=1:=by
 rw [zLc (i:=i.toNat) (by omega) (by omega) (λ j hj=>h j (by omega)),List.drop_eq_getElem_cons (by omega),List.drop_eq_nil_of_le (show m.length≤i.toNat by omega)];rfl
theorem zL0 {l m:List Int} {i:Int} (h0:0≤i) (h1:i<(l.length:Int)) (h2:i<(m.length:Int)) (h:∀ j:Nat,(j:Int)<i→l.getD j default=m.getD j default) (hc:¬ cmpF (l.getD i.toNat default) (m.getD i.toNat default)=0):cmpL l m=cmpF (l.getD i.toNat default) (m.getD i.toNat default):=by
 rw [zLc (i:=i.toNat) (by omega) (by omega) (λ j hj=>h j (by omega)),List.drop_eq_getElem_cons (by omega),List.drop_eq_getElem_cons (l:=m) (by omega),cmpL]
 rw [gE,gE,eG (by omega),eG (by omega)] at hc ⊢
 exact if_neg hc
theorem zLp {l m:List Int} (h3:l.length≤m.length) (h:∀ j:Nat,j<l.length→l.getD j default=m.getD j default):cmpL l m=if l.length<m.length then -1 else 0:=by
 rw [zLc (i:=l.length) (Nat.le_refl _) h3 h,List.drop_length]
 by_cases e:l.length<m.length
 ·rw [if_pos e,List.drop_eq_getElem_cons e];rfl
 ·rw [if_neg e,List.drop_eq_nil_of_le (show m.length≤l.length by omega)];rfl
theorem zL7 {l:List Int} {i:Int} (h0:0≤i) (h1:i<(l.length:Int)) (h:∀ j:Nat,(j:Int)<i→l.getD j default=0) (hc:¬ l.getD i.toNat default=0):orF l=l.getD i.toNat default:=by
 unfold orF
 have:l.find? (λ z=>!decide (z=0))=some (l.getD i.toNat default):=by
  rw [List.find?_eq_some_iff_getElem]
  refine⟨by simpa using hc,i.toNat,by omega,?_,λ j hj=>?_⟩
  ·rw [gE,eG (by omega)];rfl
  ·have:=h j (by omega)
   rw [gE,eG (by omega)] at this
   simpa using this
 rw [this];rfl
theorem zLL {l:List Int} (h:∀ j:Nat,j<l.length→l.getD j default=0):orF l=0:=by
 unfold orF
 have:l.find? (λ z=>!decide (z=0))=none:=by
  rw [List.find?_eq_none]
  intro z hz
  obtain⟨i,hi,rfl⟩:=List.getElem_of_mem hz
  have:=h i hi
  rw [gE,eG hi] at this
  simpa using this
 rw [this];rfl
end Go.Fld
namespace Go.Fld
theorem zLY {l:List Crg} {i:Nat} (h:i<l.length):(zIh l).getD i default=(l.getD i default).brd:=by
 rw [gE,List.getElem?_map,gE,eG h];rfl
end Go.Fld
namespace Go.Fld
open Go Go.K Go.Stn Go.Pln
abbrev TrkR:=Trk×Option Addr×Nat
abbrev zIf (z:TrkR):List Value:=[.int .i64 z.1.eff,.slice z.2.1 (stpL z.1.l).length z.2.2,.bool z.1.there]
theorem zIc:Enc 3 zIf:=⟨λ _=>rfl,λ _=>rfl,by decide⟩
abbrev zLb (z:TrkR):List Value:=[O z.1.eff,.slice z.2.1 z.1.l.length z.2.2,.bool z.1.there]
theorem zLa:Enc 3 zLb:=⟨λ _=>rfl,λ _=>rfl,by decide⟩
abbrev trkL (L:List TrkR):List Trk:=L.map (·.1)
theorem zIe {L:List TrkR} (i:Nat):(trkL L).getD i default=(L.getD i default).1:=by
 rw [gE,List.getElem?_map,gE]
 cases L[i]? <;> rfl
theorem zJm {L:List TrkR} {i:Nat} {z:TrkR}:trkL (L.set i z)=(trkL L).set i z.1:=List.map_set ..
abbrev trk0 (n:Nat) (frm:Int):List TrkR:=(List.replicate n (default:TrkR)).set frm.toNat ⟨⟨0,[],true⟩,none,0⟩
theorem zJU {n i:Nat}:(List.replicate n (default:TrkR)).getD i default=default:=by
 rw [gE]
 cases h:(List.replicate n (default:TrkR))[i]? with
 | none=>rfl
 | some v=>exact(List.mem_replicate.1 (List.mem_of_getElem? h)).2
theorem zJB {n:Nat} {frm:Int}:(List.replicate n (default:TrkR)).set frm.toNat ({ ((List.replicate n (default:TrkR)).getD frm.toNat default).1 with there:=true },((List.replicate n (default:TrkR)).getD frm.toNat default).2)=trk0 n frm:=by rw [zJU];rfl
theorem zIW {n:Nat} {frm:Int}:(trk0 n frm).length=n:=by rw [List.length_set,List.length_replicate]
theorem zJz {W:List (Crg×Crg)} {may:Crg→Bool} {n:Nat} {frm:Int} (h0:0≤frm) (h1:frm<n):Imp W may n frm (trkL (trk0 n frm)):=by
 rw [zJm,show trkL (List.replicate n (default:TrkR))=List.replicate n (default:Trk) from List.map_replicate ..]
 exact zJc h0 h1
theorem zJA {n:Nat} {frm:Int} {z:TrkR} (h:z∈trk0 n frm):z.1.l=[]∧z.2=(none,0):=by
 rcases List.mem_or_eq_of_mem_set h with h|h
 ·rw [(List.mem_replicate.1 h).2];exact⟨rfl,rfl⟩
 ·rw [h];exact⟨rfl,rfl⟩
def fixC (W:List (Crg×Crg)) (may:Crg→Bool) (T:List Trk) (c:Crg):Prop:=zIm W may c→(T.getD c.frm.toNat default).there=true→zIg (extT (T.getD c.frm.toNat default) c) (T.getD c.to.toNat default)=false
def FixN (W:List (Crg×Crg)) (may:Crg→Bool) (T:List Trk) (i:Nat):Prop:=∀ j:Nat,j<i→fixC W may T (fstC W j)∧fixC W may T (sndC W j)
section
variable {W:List (Crg×Crg)} {may:Crg→Bool} {n:Nat} {frm:Int} {T:List Trk}
theorem zJZ:FixN W may T 0:=λ j h=>by omega
theorem zJL {i:Nat} (h:FixN W may T i) (h1:fixC W may T (fstC W i)) (h2:fixC W may T (sndC W i)):FixN W may T (i+1):=λ j hj=>by
 by_cases e:j<i
 ·exact h j e
 ·rw [show j=i from by omega];exact⟨h1,h2⟩
theorem zI9 (hi:Imp W may n frm T) (h:FixN W may T W.length):Best W may n frm T:=zJv hi λ c hc ht=>by
 obtain⟨i,hl,e⟩:=zFE hc.1
 rcases e with e|e
 ·rw [e] at hc ht ⊢;exact(h i hl).1 hc ht
 ·rw [e] at hc ht ⊢;exact(h i hl).2 hc ht
theorem zJa {c:Crg} (h:may c=false):fixC W may T c:=λ hc=>by rw [hc.2.2] at h;cases h
theorem zJM {c:Crg} (h:c.way = -2):fixC W may T c:=λ hc=>by have:=hc.2.1;omega
theorem zJb {c:Crg} (h:(T.getD c.frm.toNat default).there=false):fixC W may T c:=λ _ ht=>by rw [ht] at h;cases h
theorem zIQ {c:Crg} (h:zIg (extT (T.getD c.frm.toNat default) c) (T.getD c.to.toNat default)=false):fixC W may T c:=λ _ _=>h
end
theorem zJ4 {a b:Trk} (h:(!b.there||!decide (a.eff=b.eff))=true):zIg a b=(!b.there||decide (a.eff<b.eff)):=by
 unfold zIg kLt
 cases e:b.there with
 | false=>rfl
 | true=>
  rw [e] at h
  have:¬ a.eff=b.eff:=by simpa using h
  rw [if_neg this]
theorem zJ5 {a b:Trk} (h:(!b.there||!decide (a.eff=b.eff))=false):b.there=true∧a.eff=b.eff:=by
 cases e:b.there with
 | false=>rw [e] at h;cases h
 | true=>rw [e] at h;exact⟨rfl,by simpa using h⟩
theorem zJ6 {a b:Trk} (h:b.there=true∧a.eff=b.eff) (h2:¬ a.l.length=b.l.length):zIg a b=decide (a.l.length<b.l.length):=by
 unfold zIg kLt
 rw [h.1,if_pos h.2,if_neg h2];rfl
theorem zJE {a b:Trk} (h:b.there=true∧a.eff=b.eff) (h2:a.l.length=b.l.length):zIg a b=lexB (zIh a.l) (zIh b.l):=by
 unfold zIg kLt
 rw [h.1,if_pos h.2,if_pos h2];rfl
theorem zIA {l:List Crg}:(stpL l).length=l.length:=lM ..
theorem zIu {l:List Crg} (i:Nat):((stpL l).getD i default).1=(zIh l).getD i default:=by
 rw [gE,List.getElem?_map,gE,List.getElem?_map]
 cases l[i]? <;> rfl
theorem zJF:∀ {i:Nat} {a b:List Int},a.length=b.length→i<a.length→(∀ j:Nat,j<i→a.getD j default=b.getD j default)→¬ a.getD i default=b.getD i default→lexB a b=decide (a.getD i default<b.getD i default)
 | _,[],_,_,h,_,_=>by cases h
 | _,_ :: _,[],h,_,_,_=>by cases h
 | 0,x :: a,y :: b,_,_,_,hn=>by
  have hn:¬ x=y:=hn
  rw [lexB,if_neg hn];rfl
 | i+1,x :: a,y :: b,hl,hi,h,hn=>by
  have e:x=y:=h 0 (by omega)
  rw [lexB,if_pos e]
  exact zJF (i:=i) (by simpa using hl) (by simpa using hi) (λ j hj=>h (j+1) (by omega)) hn
theorem zJx {a b:List Int} (h:a.length=b.length) (h2:∀ j:Nat,j<a.length→a.getD j default=b.getD j default):lexB a b=false:=by
 have:a=b:=zJs h h2
 rw [this];exact zIM b
abbrev mayC (cl:List Int) (c:Crg):Bool:=!hasI cl c.brd
section
variable {W:List (Crg×Crg)} {may:Crg→Bool} {n:Nat} {frm:Int} {T:List Trk} {bs:List Bdr}
theorem zIz (hp:zyI W bs) (hbs:bs.length≤80) (h:Imp W may n frm T) (hn:n≤40) {i:Nat} (hi:i<n):(T.getD i default).l.length≤280040∧0≤(T.getD i default).eff∧(T.getD i default).eff≤280040:=by
 cases e:(T.getD i default).there with
 | true=>
  have hf:=zIo hp hbs h hn hi e
  have:=hf.e0;have:=hf.e1;have:=hf.len
  omega
 | false=>rw [h.no i hi e];exact⟨by decide,by decide,by decide⟩
theorem zIX {L:List TrkR} (hp:zyI W bs) (hbs:bs.length≤80) (he:zJJ W) (hw:zIB W n) (hn:n≤40) (h0:0≤frm) (h:Imp W may n frm (trkL L)) {c:Crg} (hc:zIm W may c) (ht:(L.getD c.frm.toNat default).1.there=true)
  (hl:zIg (extT (L.getD c.frm.toNat default).1 c) (L.getD c.to.toNat default).1=true) (p:Option Addr×Nat):Imp W may n frm (trkL (L.set c.to.toNat (extT (L.getD c.frm.toNat default).1 c,p)))∧zIj (trkL (L.set c.to.toNat (extT (L.getD c.frm.toNat default).1 c,p)))<zIj (trkL L):=by
 rw [zJm]
 have:=zJw hp hbs he hw hn h0 h hc (by rw [zIe];exact ht) (by rw [zIe,zIe];exact hl)
 rw [zIe] at this
 exact this
theorem zKc {ch:Bool} {r r2:Nat} (h:r2+(if ch=true then 1 else 0)≤r):(if ch=true then r2+1 else 0)<r+1:=by
 cases ch <;> simp at h ⊢ <;> omega
end
section
variable {S:List ShC} {V:List WlC} {cs:List ByteArray} {bs:List Bdr} {x:Anm} {may:Crg→Bool} {L:List TrkR}
theorem zIP (h:zym S V cs bs x=true) {i:Int} (h0:0≤i) (h1:i<bs.length) (back:Bool) (he:(!(acrE S V bs x i back).some||!(L.getD (wayI S V bs x i back).frm.toNat default).1.there)=true):fixC (zyj S V bs x) may (trkL L) (wayI S V bs x i back):=by
 cases hs:(acrE S V bs x i back).some with
 | false=>exact zJM ((zC7 h h0 h1 back).1 hs).2
 | true=>
  rw [hs] at he
  exact zJb (by rw [zIe];simpa using he)
theorem zJW (h:zym S V cs bs x=true) {i:Int} (h0:0≤i) (h1:i<bs.length):(wayI S V bs x i false).frm=(bs.getD i.toNat default).a∧(wayI S V bs x i false).to=(bs.getD i.toNat default).b∧(wayI S V bs x i true).frm=(bs.getD i.toNat default).b∧(wayI S V bs x i true).to=(bs.getD i.toNat default).a∧(wayI S V bs x i false).brd=i∧(wayI S V bs x i true).brd=i:=by
 have hp:=zBa h
 have hl:i.toNat<(zyj S V bs x).length:=by rw [zz5];omega
 have f1:=hp.fst _ hl;have f2:=hp.snd _ hl
 have e1:wayI S V bs x i false=fstC (zyj S V bs x) i.toNat:=rfl
 have e2:wayI S V bs x i true=sndC (zyj S V bs x) i.toNat:=rfl
 rw [e1,e2]
 exact⟨f1.2.1,f1.2.2,f2.2.1,f2.2.2,by omega,by omega⟩
theorem zJp (h:zym S V cs bs x=true) {i:Int} (h0:0≤i) (h1:i<bs.length) {back:Bool} (hs:(acrE S V bs x i back).some=true) (hm:may (wayI S V bs x i back)=true):zIm (zyj S V bs x) may (wayI S V bs x i back):=by
 have hw:=((zC7 h h0 h1 back).2 hs).2.1
 have:=zGQ hs
 have hc:=(zJV h (i:=i.toNat) (by omega) back).1
 rw [tN h0] at hc
 exact⟨hc,by omega,hm⟩
theorem zID (_h:zym S V cs bs x=true) {T:List Trk} {i:Int} (h0:0≤i) (hf:FixN (zyj S V bs x) may T i.toNat) (h1:fixC (zyj S V bs x) may T (wayI S V bs x i false)) (h2:fixC (zyj S V bs x) may T (wayI S V bs x i true)):FixN (zyj S V bs x) may T (i+1).toNat:=by
 rw [show(i+1).toNat=i.toNat+1 from by omega]
 exact zJL hf h1 h2
theorem zI8 {t:Trk} {c:Crg} {b w:Int} (h1:c.brd=b) (h2:c.way=w):stpL (extT t c).l=stpL t.l++[(b,w)]:=by
 subst h1;subst h2;show stpL (t.l++[c])=_;rw [stpL,List.map_append];rfl
theorem zI6 {t:Trk} {c:Crg} {e:Int} (h:c.eff=e):(extT t c).eff=t.eff+e:=by subst h;rfl
theorem zI7 {t:Trk} {c:Crg}:(extT t c).l.length=t.l.length+1:=by show(t.l++[c]).length=_;simp
end
def prvT (W:List (Crg×Crg)) (proof:List Int) (cell:Nat):Bool:=(outL W cell).all λ c=>decide (proof.getD c.to.toNat default≤proof.getD cell default+c.eff)
def wkT:Option (Int×Int)→Int×Int×Bool
 | some (c,e)=>(c,e,true)
 | none=>(0,0,false)
def endB (r:Option (Int×Int)) (to e:Int):Bool:=((wkT r).2.2&&decide ((wkT r).1=to))&&decide ((wkT r).2.1=e)
def prvB (W:List (Crg×Crg)) (n:Nat) (frm to:Int) (proof:List Int) (r:Option (Int×Int)):Bool:=((decide (proof.length=n)&&decide (proof.getD frm.toNat default=0))&&allI n (prvT W proof))&&endB r to (proof.getD to.toNat default)
def prvA (S:List ShC) (V:List WlC) (cs:List ByteArray) (bs:List Bdr) (x:Anm) (frm to:Int) (l:List (Int×Int)) (proof:List Int):Bool:=decide (atE S V cs bs x [frm,to]=0)&&prvB (zyj S V bs x) cs.length frm to proof (wkdA S V bs x frm l)
theorem zMD {p q e:Int} (he:0≤e):(decide (p<q)&&((decide (p<0)&&decide (0≤q)&&decide (p+e<q))||((decide (0≤p)||decide (q<0))&&decide (e<q - p))))=decide (p+e<q):=by
 rw [Bool.eq_iff_iff]
 simp only [aT,Bool.or_eq_true,dT]
 omega
section
variable {W:List (Crg×Crg)} {proof:List Int} {n:Nat}
theorem zM3 {i k:Nat} (hk:k<(outL W i).length) (h:proof.getD i default+((outL W i).getD k default).eff<proof.getD ((outL W i).getD k default).to.toNat default):prvT W proof i=false:=by
 unfold prvT
 cases e:(outL W i).all (λ c=>decide (proof.getD c.to.toNat default≤proof.getD i default+c.eff)) with
 | false=>rfl
 | true=>have:=oT (List.all_eq_true.1 e _ (za0 hk));omega
theorem zMN {i:Nat} (h:∀ k:Nat,k<(outL W i).length→proof.getD ((outL W i).getD k default).to.toNat default≤proof.getD i default+((outL W i).getD k default).eff):prvT W proof i=true:=by
 unfold prvT
 refine List.all_eq_true.2 λ c hc=>decide_eq_true ?_
 obtain⟨j,hj,e⟩:=List.getElem_of_mem hc
 have:=h j hj
 rwa [gE (l:=outL W i),eG hj,Option.getD_some,e] at this
theorem zMx {frm to:Int} {r:Option (Int×Int)} (h:(!decide (proof.length=n))=true∨(!decide (proof.getD frm.toNat default=0))=true):prvB W n frm to proof r=false:=by
 unfold prvB
 rcases h with h|h <;> rw [nT] at h <;> rw [h] <;> simp
theorem zM4 {frm to:Int} {r:Option (Int×Int)} {i:Nat} (hi:i<n) (h:prvT W proof i=false):prvB W n frm to proof r=false:=by
 unfold prvB;rw [zc9 (p:=prvT W proof) (by omega) h];simp
theorem zM5 {frm to:Int} {r:Option (Int×Int)} (h1:proof.length=n) (h2:proof.getD frm.toNat default=0) (h3:∀ i:Nat,i<n→prvT W proof i=true):prvB W n frm to proof r=endB r to (proof.getD to.toNat default):=by
 unfold prvB;rw [decide_eq_true h1,decide_eq_true h2,zdf.2 h3];simp
end
section
variable {S:List ShC} {V:List WlC} {cs:List ByteArray} {bs:List Bdr} {x:Anm} {frm to:Int} {l:List (Int×Int)} {proof:List Int}
theorem zMI (h:¬ atE S V cs bs x [frm,to]=0):prvA S V cs bs x frm to l proof=false:=by unfold prvA;rw [decide_eq_false h];rfl
theorem zM2 (h:atE S V cs bs x [frm,to]=0):prvA S V cs bs x frm to l proof=prvB (zyj S V bs x) cs.length frm to proof (wkdA S V bs x frm l):=by unfold prvA;rw [decide_eq_true h];rfl
theorem zMM (h:¬ proof.length=cs.length):prvA S V cs bs x frm to l proof=false:=by unfold prvA prvB;rw [decide_eq_false h];simp
end
section
variable {S:List ShC} {V:List WlC} {cs:List ByteArray} {bs:List Bdr} {x:Anm} {b:Bdr} {bk:Bool} {way cur frm:Int} {s:Int×Int}
theorem zMZ (h:way = -1):max (zzc (zar S V b.wall).s (gOf b bk)) 0+1=(mayB S V x b bk way).1∧(decide (zzc (zar S V b.wall).s (gOf b bk)≤x.leap)&&decide (zy8 (zar S V b.wall).s (zar S V b.wall).s.height≤x.reach))=(mayB S V x b bk way).2:=by
 unfold mayB
 rw [zFv h]
 exact⟨Int.add_comm _ _,rfl⟩
theorem zM0 (h0:0≤way) (h1:way<((zaN S V b.wall).s.opens.length:Int)):byG (zar S V b.wall).s b.shut (gOf b bk) (hOf b bk) ((zaN S V b.wall).s.opens.getD way.toNat default) x=mayB S V x b bk way:=by
 have:=zHi (s:=(zar S V b.wall).s) (shut:=b.shut) (g:=gOf b bk) (h:=hOf b bk) (l:=(zaN S V b.wall).s.opens) (x:=x) (n:=way.toNat) (by omega)
 rw [←this,tN h0];rfl
theorem zNb (h:¬ way = -1) (h2:(!inZ way 0 (((zaN S V b.wall).s.opens.length:Int) - 1))=true):(mayB S V x b bk way).2=false:=by
 unfold mayB
 rw [zCv h]
 unfold inZ at h2
 rw [nT,Bool.and_eq_false_iff,dF,dF] at h2
 omega
abbrev endW (b:Bdr) (bk:Bool):Int:=if bk=true then b.a else b.b
theorem zMU (hz:zBG bs.length s.1=true) (h:(bk=false∧(bs.getD s.1.toNat default).a=cur)∨(bk=true∧¬ (bs.getD s.1.toNat default).a=cur∧(bs.getD s.1.toNat default).b=cur)) :
  stpW S V bs x cur s=if (mayB S V x (bs.getD s.1.toNat default) bk s.2).2=true then some (endW (bs.getD s.1.toNat default) bk,(mayB S V x (bs.getD s.1.toNat default) bk s.2).1) else none:=by
 rcases h with ⟨rfl,h⟩ | ⟨rfl,h,h2⟩
 ·unfold stpW;rw [if_pos hz,if_pos h];rfl
 ·unfold stpW;rw [if_pos hz,if_neg h,if_pos h2];rfl
theorem zM8 (hz:zBG bs.length s.1=true) (h:(bk=false∧(bs.getD s.1.toNat default).a=cur)∨(bk=true∧¬ (bs.getD s.1.toNat default).a=cur∧(bs.getD s.1.toNat default).b=cur)) (hm:(mayB S V x (bs.getD s.1.toNat default) bk s.2).2=true) :
  stpW S V bs x cur s=some (endW (bs.getD s.1.toNat default) bk,(mayB S V x (bs.getD s.1.toNat default) bk s.2).1):=by rw [zMU hz h,if_pos hm]
theorem zMV (hz:zBG bs.length s.1=true) (h:(bk=false∧(bs.getD s.1.toNat default).a=cur)∨(bk=true∧¬ (bs.getD s.1.toNat default).a=cur∧(bs.getD s.1.toNat default).b=cur)) (hm:(mayB S V x (bs.getD s.1.toNat default) bk s.2).2=false) :
  stpW S V bs x cur s=none:=by rw [zMU hz h,if_neg (by rw [hm];exact fT)]
end
end Go.Fld
namespace Go.Proofs.YteepmmghanbllaaGreatDoor
open Go.K Go.Stn Go.Pln Go.Fld Go.RowKit
theorem zM9:TF Tryz.prog 159 true 2 (.agg #[O 0,O 0]):=tK
theorem zL3:FO Tryz.prog 128 0 0:=fK
theorem zMA:FO Tryz.prog 159 0 0:=fK
theorem zMw:FO Tryz.prog 159 1 1:=fK
theorem se78:SE Tryz.prog 78 159 2:=⟨Tryz.underlying78,by kernel_rfl⟩
theorem zMQ (a:yO) (cap:Nat) (S:List ShC) (b:yO) (bcap:Nat) (V:List WlC) (ca:yO) (ccap:Nat) (cs:List ByteArray) (ba:yO) (bcp:Nat) (bs:List Bdr) (x:Anm) (lb:Nat) (wa fa:yO) (wc fc:Nat) (W:List (Crg×Crg)) (F:List (Nat×List (Bool×Bool))) (frm:Int) (la:yO) (lcap:Nat) (l:List (Int×Int)) (w:World) (hl:yag w a S) (hs:zaP S.length) (hcS:S.length≤cap) (hlw:yah w b V) (hsw:zaP V.length) (hsh:yab S w) (hss:yac S) (hwo:yaa V w) (hsv:yae V) (hcp:yad V) (hkn:yaf V) (_hc:yai w ca cs) (_hcs:zaP cs.length) (_hcap:cs.length≤ccap) (hbd:yaj w ba bs) (hbs:zaP bs.length) (hlb:Has w (Box lb [.slice ca cs.length ccap,.slice ba bs.length bcp,.slice wa W.length wc,.slice fa (F.map (·.1)).length fc] 128)) (hok:(zym S V cs bs x)=true) (hll:Has w (zaW la 2 zyQ l)) (hls:l.length≤300000) :
  Calls Tryz.prog 62 #[Z lb,zzz3 a S cap b V bcap,zzz1 x,O frm,.slice la l.length lcap] w (Pure (.tuple #[O (wkT (wkdA S V bs x frm l)).1,O (wkT (wkdA S V bs x frm l)).2.1,.bool (wkT (wkdA S V bs x frm l)).2.2]) w):=by
 obtain⟨_,_,hbn,_,_,hbo⟩:=zzD hok
 refine zan (vs:=[_,_,_,_,_]) Tryz.func62 I I (bL I) (gS (zaG I I (za3 (vs:=[_,_]) I I) λ b6=>(zaG I I (za3 (vs:=[_,_,_,_,_]) I I) λ b7=>(gA I (gA I (gA I (gN [0,3,4,6,7,10,11,12] I (zac (gS (gM I (gQ (zaV (Tryz.underlying78) I) (gM I (gN [0,3,6,7,10,11,12,23,24,25] I (zas (zbf (X:=Int×Int×Int) (λ⟨i,cur,eff⟩=>[(0,Z lb),(3,O cur),(6,Z b6),(7,Z b7),(10,O 0),(11,O eff),(12,.bool false),(23,.slice la l.length lcap),(24,O (l.length:Int)),(25,O i)]) (λ⟨i,cur,eff⟩=>[Box b7 (zzz2 x) 41,Box b6 (zzz5 a S cap b V bcap) 37]) (λ⟨i,cur,eff⟩=>(0≤i∧i≤l.length∧wkdN S V bs x frm l i.toNat=some (cur,eff))) (λ⟨i,cur,eff⟩=>(l.length - i).toNat) (0,frm,0) (sB I) I ?_ ?_)))))))))))))))
 ·exact⟨by omega,by omega,rfl⟩
 ·rintro ⟨i,cur,eff⟩ hI
  obtain⟨g0,g1,g2⟩:=hI
  refine gS (gQ (zbw I I) (gN [0,3,6,7,10,11,12,23,24,25,26] I (zac (zap I (λ hc26=>?_) (λ hc26=>?_)))))
  ·have hc26:=oT hc26
   have hwin:=zMW hok g2
   refine zaq (zac (zas (gS (gQ (zaE se78 I I (λ _=>rH hll)) (gQ (zbv (vs:=[_,_]) zM9 I (λ _=>rH hll) (by omega) (by omega) I) (zaG I I (zaL zM9 (zs:=[_,_]) I) λ b14=>(zaA 0 zM9 I I (vs:=[_,_]) I I I I I (gN [0,3,6,7,10,11,12,14,23,24,25] I (zac (zac (gZ 11 (ph_y (zab zMA I) (ph_y (zah 0 tf3 I I I) (ph_y (zaf I) (ph_y (zbx I) (ph_y (zab zL3 I) (ph_y (zab zz1 I) (ph_y (zbW tf38 I (λ _ hw=>zaQ (rH hlb hw) I)) (ph_y (zaV (Tryz.underlying38) I) (ph_y (zfV I I) (ph_y (zaJ en58 I (λ w hw=>zyR _ _ _ w)) (ph_y (zbR I) (gN [0,3,6,7,10,11,12,14,23,24,25,39] I (zap I (λ hc39=>?_) (λ hc39=>?_)))))))))))))))))))))))))
   ·have hno:=zMu g2 (by omega) (zM7 (by rw [zCF] at hc39;simpa using hc39))
    refine gS (gA I (gA I (gA I (gN [0,3,6,7,10,11,12,14,23,24,25] I (zaw (zay (zdh I (zau I) (zau I) (zau I)) ?_))))))
    rw [hno];rfl
   ·have hz:zBG bs.length (l.getD i.toNat default).1=true:=by rw [zCF] at hc39;simpa using hc39
    have hzz:0≤(l.getD i.toNat default).1∧(l.getD i.toNat default).1<bs.length:=by have h:=hz;unfold zBG at h;simpa only [aT,dT] using h
    obtain⟨z0,z1⟩:=hzz
    have hbrd:=hbo (l.getD i.toNat default).1.toNat (by omega)
    obtain⟨hG1,hG2⟩:=zBh hbrd
    obtain⟨hsvw,hsss⟩:=zxT (n:=(bs.getD (l.getD i.toNat default).1.toNat default).wall) hsv hss
    have hon:=hG1.wf.num
    refine zaq (zac (gZ 10 (ph_y (zaf I) (ph_y (zbx I) (ph_y (zab zL3 I) (ph_y (zab zz1 I) (ph_y (zbW tf38 I (λ _ hw=>zaQ (rH hlb hw) I)) (ph_y (zab zMA I) (ph_y (zah 0 tf3 I I I) (ph_y (zaE se38 I I (λ _=>rH hbd)) (ph_y (zbv (vs:=[_,_,_,_,_,_]) tf64 I (λ _=>rH hbd) (by omega) (by omega) I) (zmr (zaL tf64 (zs:=[_,_,_,_,_,_]) I) ?_))))))))))))
    intro b15
    refine gK [0,3,6,7,10,11,12,14,15,23,24,25,48] I (zaA 0 tf64 I I (vs:=[_,_,_,_,_,_]) I I I I I (gN [0,3,6,7,10,11,12,14,15,23,24,25] I (gS (gQ (zat 3 tf37 I I (vs:=[_,_]) I I) (gQ (zab zFs I) (gQ (zah 0 tf9 I I I) (zaG I I (zbm en50 I (λ w hw=>zyh _ _ S _ _ V (bs.getD (l.getD i.toNat default).1.toNat default).wall w (rH hl hw) hs hcS (rH hlw hw) hsw (λ z hz=>(rH (hsh z hz) hw)) hss (λ z hz=>(rH (hwo z hz) hw)) hsv hcp hkn)) λ p53=>zbP (gM I (gQ (zaB I I) (gQ (zaB I I) (gQ (zaB I I) (zaG I I (zaL zyz (zs:=[_,_,_,_]) I) λ b16=>(zaG I I (zaL zyq (zs:=[_,_,_,_,_,_,_,_,_,_,_,_,_,_,_,_,_,_,_,_]) I) λ b17=>(zaA 1 zyz I I (vs:=[_,_,_,_]) I I I I I (zbz 0 zyq I I (vs:=[_,_,_,_,_,_,_,_,_,_,_,_,_,_,_,_,_,_,_,_]) I I I I I (gA I (gN [0,3,6,7,10,11,12,14,15,16,17,23,24,25] I (gS (gQ (zat 1 zyz I I (vs:=[_,_,_,_]) I I) (gQ (zat 0 zyq I I (vs:=[_,_,_,_,_,_,_,_,_,_,_,_,_,_,_,_,_,_,_,_]) I I) (gQ (zab zFt I) (gQ (zah 4 tf4 I I I) ?_))))))))))))))))))))))
    refine gQ (zab zDU I) (gQ (zah 4 tf3 I I I) (gQ (zab zDV I) (gQ (zah 4 tf3 I I I) (gQ (zaI I (zyt _ _ _ _ _ _ _ _ _ _ _ _ _ _ _ _ _ _ _ _ _ _ _ _ _ _ _ _ _ _ _)) (zaG I I (zaL zAl (zs:=[_,_,_,_,_,_,_,_,_,_,_,_,_,_,_,_,_,_,_,_,_,_,_,_,_,_,_]) I) λ b19=>(zbz 0 zAl I I (vs:=[_,_,_,_,_,_,_,_,_,_,_,_,_,_,_,_,_,_,_,_,_,_,_,_,_,_,_]) I I I I I (gN [0,3,6,7,10,11,12,14,15,16,19,23,24,25] I (gS (gQ (zab zCS I) (gQ (zah 5 tf3 I I I) (gA I (gN [0,3,6,7,10,11,12,14,15,16,19,20,23,24,25] I ?_))))))))))))
    refine zih (X:=Bool) (λ bk=>[(0,Z lb),(3,O cur),(6,Z b6),(7,Z b7),(10,O 0),(11,O eff),(12,.bool false),(14,Z b14),(16,Z b16),(19,Z b19),(20,O (endW (bs.getD (l.getD i.toNat default).1.toNat default) bk)),(23,.slice la l.length lcap),(24,O (l.length:Int)),(25,O i)]) (λ bk=>[Box b19 (lV ((zaN S V (bs.getD (l.getD i.toNat default).1.toNat default).wall).s) p53.1.1 p53.1.2 ((zar S V (bs.getD (l.getD i.toNat default).1.toNat default).wall).s) p53.2.1 p53.2.2 ((bs.getD ((l.getD i.toNat default).1).toNat default).shut) (gOf (bs.getD (l.getD i.toNat default).1.toNat default) bk) (hOf (bs.getD (l.getD i.toNat default).1.toNat default) bk)) 179,Box b17 (sV ((zar S V (bs.getD (l.getD i.toNat default).1.toNat default).wall).s) p53.2.1 p53.2.2) 118,Box b16 (wV ((zaN S V (bs.getD (l.getD i.toNat default).1.toNat default).wall).s) p53.1.1 p53.1.2) 116,Row p53.1.1 5 p53.1.2 122 zba (zaN S V (bs.getD (l.getD i.toNat default).1.toNat default).wall).s.opens,Row p53.2.1 1 p53.2.2 3 C (zar S V (bs.getD (l.getD i.toNat default).1.toNat default).wall).s.heights,Box b15 [O (bs.getD ((l.getD i.toNat default).1).toNat default).a,O (bs.getD ((l.getD i.toNat default).1).toNat default).b,.string (bs.getD ((l.getD i.toNat default).1).toNat default).wall,O (bs.getD ((l.getD i.toNat default).1).toNat default).gA,O (bs.getD ((l.getD i.toNat default).1).toNat default).gB,.bool (bs.getD ((l.getD i.toNat default).1).toNat default).shut] 64,Box b14 [O (l.getD i.toNat default).1,O (l.getD i.toNat default).2] 159,Box b7 (zzz2 x) 41,Box b6 (zzz5 a S cap b V bcap) 37]) (λ bk=>((bk=false∧(bs.getD (l.getD i.toNat default).1.toNat default).a=cur)∨(bk=true∧¬ (bs.getD (l.getD i.toNat default).1.toNat default).a=cur∧(bs.getD (l.getD i.toNat default).1.toNat default).b=cur))) ?_ ?_
    ·refine gS (gM I (gN [0,3,6,7,10,11,12,14,15,16,19,20,23,24,25,68] I (zas (gS (gQ (zab zBK I) (gQ (zah 5 tf3 I I I) (gQ (zbL I I) (gA I (gN [0,3,6,7,10,11,12,14,15,16,19,20,23,24,25,68,69] I (zap I (λ hc69=>?_) (λ hc69=>?_)))))))))))
     ·have hc69:=oT hc69
      refine zaq ?_
      exact zb9 false (sB I) I (by first|exact .inl ⟨rfl,hc69.symm⟩|exact .inr ⟨rfl,hn69,hc73.symm⟩)
     ·have hc69:=oD hc69
      have hn69:¬ (bs.getD (l.getD i.toNat default).1.toNat default).a=cur:=λ h=>hc69 h.symm
      refine gS (gQ (zab zCS I) (gQ (zah 5 tf3 I I I) (gQ (zbL I I) (gA I (gN [0,3,6,7,10,11,12,14,15,16,19,20,23,24,25,73] I (zap I (λ hc73=>?_) (λ hc73=>?_)))))))
      ·have hc73:=oT hc73
       refine zCs [_] (ch []) 1000 11 [0,1,0,4,0,16,3,67,207,463,1023] [] I (λ _=>mixed) (by kernel_rfl) (zjK _ trivial) (pY (λ ρ=>zab zDV I) (pY (λ ρ=>zah 4 tf3 I I I) (pY (λ ρ=>zab zDU I) (pY (λ ρ=>zah 4 tf3 I I I) (pY (λ ρ=>zab zBK I) (pY (λ ρ=>zah 4 tf3 I I I) (pY (λ ρ=>zab zCp I) (zBT (R:=λ ρ=>Box b19 (lV ((zaN S V (bs.getD (l.getD i.toNat default).1.toNat default).wall).s) p53.1.1 p53.1.2 ((zar S V (bs.getD (l.getD i.toNat default).1.toNat default).wall).s) p53.2.1 p53.2.2 ((bs.getD ((l.getD i.toNat default).1).toNat default).shut) ((bs.getD ((l.getD i.toNat default).1).toNat default).gA) ((bs.getD ((l.getD i.toNat default).1).toNat default).gB)) 179) (A:=λ ρ=>Box b19 (lV ((zaN S V (bs.getD (l.getD i.toNat default).1.toNat default).wall).s) p53.1.1 p53.1.2 ((zar S V (bs.getD (l.getD i.toNat default).1.toNat default).wall).s) p53.2.1 p53.2.2 ((bs.getD ((l.getD i.toNat default).1).toNat default).shut) ((bs.getD ((l.getD i.toNat default).1).toNat default).gB) ((bs.getD ((l.getD i.toNat default).1).toNat default).gB)) 179) 1000 I (by kernel_rfl) (by kernel_rfl) (λ _=>by kernel_rfl) (λ ρ=>zex tf3 I I (vs:=[_]) I I I I I) (λ ρ ρ' h=>by rfl) (pY (λ ρ=>zab zF7 I) ?_)))))))))
       refine zBT (R:=λ ρ=>Box b19 (lV ((zaN S V (bs.getD (l.getD i.toNat default).1.toNat default).wall).s) p53.1.1 p53.1.2 ((zar S V (bs.getD (l.getD i.toNat default).1.toNat default).wall).s) p53.2.1 p53.2.2 ((bs.getD ((l.getD i.toNat default).1).toNat default).shut) ((bs.getD ((l.getD i.toNat default).1).toNat default).gB) ((bs.getD ((l.getD i.toNat default).1).toNat default).gB)) 179) (A:=λ ρ=>Box b19 (lV ((zaN S V (bs.getD (l.getD i.toNat default).1.toNat default).wall).s) p53.1.1 p53.1.2 ((zar S V (bs.getD (l.getD i.toNat default).1.toNat default).wall).s) p53.2.1 p53.2.2 ((bs.getD ((l.getD i.toNat default).1).toNat default).shut) ((bs.getD ((l.getD i.toNat default).1).toNat default).gB) ((bs.getD ((l.getD i.toNat default).1).toNat default).gA)) 179) 1000 I (by kernel_rfl) (by kernel_rfl) (λ _=>by kernel_rfl) (λ ρ=>zex tf3 I I (vs:=[_]) I I I I I) (λ ρ ρ' h=>by rfl) (pY (λ ρ=>zad I) ?_)
       refine λ ρ=>zag (zpT (T':=[(0,Z lb),(3,O cur),(6,Z b6),(7,Z b7),(10,O 0),(11,O eff),(12,.bool false),(14,Z b14),(16,Z b16),(19,Z b19),(20,O (bs.getD ((l.getD i.toNat default).1).toNat default).a),(23,.slice la l.length lcap),(24,O (l.length:Int)),(25,O i)]) (H':=[Box b19 (lV ((zaN S V (bs.getD (l.getD i.toNat default).1.toNat default).wall).s) p53.1.1 p53.1.2 ((zar S V (bs.getD (l.getD i.toNat default).1.toNat default).wall).s) p53.2.1 p53.2.2 ((bs.getD ((l.getD i.toNat default).1).toNat default).shut) ((bs.getD ((l.getD i.toNat default).1).toNat default).gB) ((bs.getD ((l.getD i.toNat default).1).toNat default).gA)) 179,Box b17 (sV ((zar S V (bs.getD (l.getD i.toNat default).1.toNat default).wall).s) p53.2.1 p53.2.2) 118,Box b16 (wV ((zaN S V (bs.getD (l.getD i.toNat default).1.toNat default).wall).s) p53.1.1 p53.1.2) 116,Row p53.1.1 5 p53.1.2 122 zba (zaN S V (bs.getD (l.getD i.toNat default).1.toNat default).wall).s.opens,Row p53.2.1 1 p53.2.2 3 C (zar S V (bs.getD (l.getD i.toNat default).1.toNat default).wall).s.heights,Box b15 [O (bs.getD ((l.getD i.toNat default).1).toNat default).a,O (bs.getD ((l.getD i.toNat default).1).toNat default).b,.string (bs.getD ((l.getD i.toNat default).1).toNat default).wall,O (bs.getD ((l.getD i.toNat default).1).toNat default).gA,O (bs.getD ((l.getD i.toNat default).1).toNat default).gB,.bool (bs.getD ((l.getD i.toNat default).1).toNat default).shut] 64,Box b14 [O (l.getD i.toNat default).1,O (l.getD i.toNat default).2] 159,Box b7 (zzz2 x) 41,Box b6 (zzz5 a S cap b V bcap) 37]) (sB I) I ?_)
       exact zb9 true (sB I) I (by first|exact .inl ⟨rfl,hc69.symm⟩|exact .inr ⟨rfl,hn69,hc73.symm⟩)
      ·have hc73:=oD hc73
       have hno:=zMu g2 (by omega) (zMP hn69 (λ h=>hc73 h.symm))
       refine gS (gA I (gA I (gA I (gN [0,3,6,7,10,11,12,14,16,19,20,23,24,25] I (zaw (zay (zdh I (zau I) (zau I) (zau I)) ?_))))))
       rw [hno];rfl
    ·rintro bk hJ
     have hG:Gnd (zar S V (bs.getD (l.getD i.toNat default).1.toNat default).wall).s (zaN S V (bs.getD (l.getD i.toNat default).1.toNat default).wall).s (gOf (bs.getD (l.getD i.toNat default).1.toNat default) bk) (hOf (bs.getD (l.getD i.toNat default).1.toNat default) bk):=by cases bk <;> first|exact hG1|exact hG2
     obtain⟨gs1,gs2,gs3,gs4⟩:=hG.nums
     have hov:=zGy hG
     have hJ5:=hJ
     refine zac (gZ 21 (ph_y (zat 0 zAl I I (vs:=[_,_,_,_,_,_,_,_,_,_,_,_,_,_,_,_,_,_,_,_,_,_,_,_,_,_,_]) I I) (ph_y (zaJ en91 I (λ w hw=>zFw _ _ (zaN S V (bs.getD (l.getD i.toNat default).1.toNat default).wall).s _ _ (zar S V (bs.getD (l.getD i.toNat default).1.toNat default).wall).s (bs.getD (l.getD i.toNat default).1.toNat default).shut (gOf (bs.getD (l.getD i.toNat default).1.toNat default) bk) (hOf (bs.getD (l.getD i.toNat default).1.toNat default) bk) w (zam Go.Stn.encI_ok (hw.has (p:=4) I)) hsss (zam zyn (hw.has (p:=3) I)) hG)) (ph_y (zws I I) (ph_y (zaY I I) (ph_y (zat 0 zAl I I (vs:=[_,_,_,_,_,_,_,_,_,_,_,_,_,_,_,_,_,_,_,_,_,_,_,_,_,_,_]) I I) (ph_y (zaJ en91 I (λ w hw=>zFw _ _ (zaN S V (bs.getD (l.getD i.toNat default).1.toNat default).wall).s _ _ (zar S V (bs.getD (l.getD i.toNat default).1.toNat default).wall).s (bs.getD (l.getD i.toNat default).1.toNat default).shut (gOf (bs.getD (l.getD i.toNat default).1.toNat default) bk) (hOf (bs.getD (l.getD i.toNat default).1.toNat default) bk) w (zam Go.Stn.encI_ok (hw.has (p:=4) I)) hsss (zam zyn (hw.has (p:=3) I)) hG)) (ph_y (zab zep I) (ph_y (zah 7 tf3 I I I) (ph_y (zeT I I) (ph_y (zaf I) ?_)))))))))))
     refine zaH I I (λ jj=>by(try rw [jj]);exact zat 0 zAl I I (vs:=[_,_,_,_,_,_,_,_,_,_,_,_,_,_,_,_,_,_,_,_,_,_,_,_,_,_,_]) I I) (zaH I I (λ jj=>by(try rw [jj]);exact zab zBw I) (zaH I I (λ jj=>by(try rw [jj]);exact zab zyM I) (zaH I I (λ jj=>by(try rw [jj]);exact zah 0 tf3 I I I) (zaH I I (λ jj=>by(try rw [jj]);exact zaJ (v:=O (zy8 (zar S V (bs.getD (l.getD i.toNat default).1.toNat default).wall).s ((zar S V (bs.getD (l.getD i.toNat default).1.toNat default).wall).s.height))) en92 I (λ w hw=>zEp _ _ (zaN S V (bs.getD (l.getD i.toNat default).1.toNat default).wall).s _ _ (zar S V (bs.getD (l.getD i.toNat default).1.toNat default).wall).s (bs.getD (l.getD i.toNat default).1.toNat default).shut (gOf (bs.getD (l.getD i.toNat default).1.toNat default) bk) (hOf (bs.getD (l.getD i.toNat default).1.toNat default) bk) ((zar S V (bs.getD (l.getD i.toNat default).1.toNat default).wall).s.height) w (zam Go.Stn.encI_ok (hw.has (p:=4) I)) hsss (zam zyn (hw.has (p:=3) I)) hG)) (zaH I I (λ jj=>by(try rw [jj]);exact zab znd I) (zaH I I (λ jj=>by(try rw [jj]);exact zah 7 tf3 I I I) (zaH I I (λ jj=>by(try rw [jj]);exact zeT I I) (ph_y (zaX I I I) (ph_y (zad I) ?_)))))))))
     refine ph_y (zad I) (gN [0,3,6,7,10,11,12,14,16,19,20,21,22,23,24,25] I ?_)
     refine zih (X:=Unit) (λ _=>[(0,Z lb),(3,O cur),(6,Z b6),(7,Z b7),(10,O 0),(11,O eff),(12,.bool false),(20,O (endW (bs.getD (l.getD i.toNat default).1.toNat default) bk)),(21,O (mayB S V x (bs.getD (l.getD i.toNat default).1.toNat default) bk (l.getD i.toNat default).2).1),(22,.bool (mayB S V x (bs.getD (l.getD i.toNat default).1.toNat default) bk (l.getD i.toNat default).2).2),(23,.slice la l.length lcap),(24,O (l.length:Int)),(25,O i)]) (λ _=>[Box b19 (lV ((zaN S V (bs.getD (l.getD i.toNat default).1.toNat default).wall).s) p53.1.1 p53.1.2 ((zar S V (bs.getD (l.getD i.toNat default).1.toNat default).wall).s) p53.2.1 p53.2.2 ((bs.getD ((l.getD i.toNat default).1).toNat default).shut) (gOf (bs.getD (l.getD i.toNat default).1.toNat default) bk) (hOf (bs.getD (l.getD i.toNat default).1.toNat default) bk)) 179,Box b17 (sV ((zar S V (bs.getD (l.getD i.toNat default).1.toNat default).wall).s) p53.2.1 p53.2.2) 118,Box b16 (wV ((zaN S V (bs.getD (l.getD i.toNat default).1.toNat default).wall).s) p53.1.1 p53.1.2) 116,Row p53.1.1 5 p53.1.2 122 zba (zaN S V (bs.getD (l.getD i.toNat default).1.toNat default).wall).s.opens,Row p53.2.1 1 p53.2.2 3 C (zar S V (bs.getD (l.getD i.toNat default).1.toNat default).wall).s.heights,Box b15 [O (bs.getD ((l.getD i.toNat default).1).toNat default).a,O (bs.getD ((l.getD i.toNat default).1).toNat default).b,.string (bs.getD ((l.getD i.toNat default).1).toNat default).wall,O (bs.getD ((l.getD i.toNat default).1).toNat default).gA,O (bs.getD ((l.getD i.toNat default).1).toNat default).gB,.bool (bs.getD ((l.getD i.toNat default).1).toNat default).shut] 64,Box b14 [O (l.getD i.toNat default).1,O (l.getD i.toNat default).2] 159,Box b7 (zzz2 x) 41,Box b6 (zzz5 a S cap b V bcap) 37]) (λ _=>True) ?_ ?_
     ·refine gS (gQ (zab zMw I) (gQ (zah 6 tf3 I I I) (gQ (zcr I I) (gN [0,3,6,7,10,11,12,14,16,19,20,21,22,23,24,25,106] I (zap I (λ hc106=>?_) (λ hc106=>?_))))))
      ·have hw1:¬ (l.getD i.toNat default).2 = -1:=by simpa using hc106
       refine zac (gS (gQ (zab zMw I) (gQ (zah 6 tf3 I I I) (gQ (zab zyL I) (gQ (zah 2 zAi I I I) (gQ (zaV (Tryz.underlying114) I) (gQ (zfV I I) (gQ (zaJ en58 I (λ w hw=>zyR _ _ _ w)) (gQ (zbR I) (gN [0,3,6,7,10,11,12,14,16,19,20,21,22,23,24,25,114] I (zap I (λ hc114=>?_) (λ hc114=>?_))))))))))))
       ·have hno:=zMu g2 (by omega) (zMV hz hJ5 (zNb hw1 hc114))
        refine gS (gA I (gA I (gA I (gN [0,3,6,7,10,11,12,14,16,19,20,21,22,23,24,25] I (zaw (zay (zdh I (zau I) (zau I) (zau I)) ?_))))))
        rw [hno];rfl
       ·have hwr:0≤(l.getD i.toNat default).2∧(l.getD i.toNat default).2<(zaN S V (bs.getD (l.getD i.toNat default).1.toNat default).wall).s.opens.length:=by have h:=hc114;unfold inZ at h;simp only [nF,aT,dT] at h;omega
        obtain⟨w0_,w1_⟩:=hwr
        have hmo:=zM0 (S:=S) (V:=V) (x:=x) (b:=(bs.getD (l.getD i.toNat default).1.toNat default)) (bk:=bk) w0_ w1_
        have hm1:=congrArg Prod.fst hmo
        have hm2:=congrArg Prod.snd hmo
        refine zaq (gZ 14 (ph_y (zat 0 zAl I I (vs:=[_,_,_,_,_,_,_,_,_,_,_,_,_,_,_,_,_,_,_,_,_,_,_,_,_,_,_]) I I) (ph_y (zab zyL I) (ph_y (zah 2 zAi I I I) (ph_y (zab zMw I) (ph_y (zah 6 tf3 I I I) (ph_y (zaE zCz I I (λ _ hw=>(zam zyn (hw.has (p:=3) I)))) (ph_y (zbv (vs:=[_,_,_,_,_]) zy2 I (λ _ hw=>(zam zyn (hw.has (p:=3) I))) (by omega) (by omega) I) (ph_y (zat 7 tf41 I I (vs:=[_,_,_,_,_]) I I) (ph_y (zaJ en79 I (λ w hw=>by_c _ _ (zaN S V (bs.getD (l.getD i.toNat default).1.toNat default).wall).s _ _ (zar S V (bs.getD (l.getD i.toNat default).1.toNat default).wall).s (bs.getD (l.getD i.toNat default).1.toNat default).shut (gOf (bs.getD (l.getD i.toNat default).1.toNat default) bk) (hOf (bs.getD (l.getD i.toNat default).1.toNat default) bk) ((zaN S V (bs.getD (l.getD i.toNat default).1.toNat default).wall).s.opens.getD (l.getD i.toNat default).2.toNat default) x w (zam Go.Stn.encI_ok (hw.has (p:=4) I)) hsss (zam zyn (hw.has (p:=3) I)) hG (hG.wf.fit _ (za0 (by omega))))) (ph_y (zaf I) (ph_y (zaB I I) (ph_y (zaB I I) (ph_y (zad I) (ph_y (zad I) (gN [0,3,6,7,10,11,12,20,21,22,23,24,25] I ?_))))))))))))))))
        exact zb9 () ⟨I,I,I,I,I,I,I,I,(by exact congrArg (λ z=>some (Value.int .i64 z)) hm1),(by exact congrArg (λ z=>some (Value.bool z)) hm2),I,I,I,trivial⟩ rfl trivial
      ·have hw1:(l.getD i.toNat default).2 = -1:=by simpa using hc106
       obtain⟨hm1,hm2⟩:=zMZ (S:=S) (V:=V) (x:=x) (b:=(bs.getD (l.getD i.toNat default).1.toNat default)) (bk:=bk) hw1
       refine zaq ?_
       exact zb9 () ⟨I,I,I,I,I,I,I,I,(by exact congrArg (λ z=>some (Value.int .i64 z)) hm1),(by exact congrArg (λ z=>some (Value.bool z)) hm2),I,I,I,trivial⟩ rfl trivial
     ·rintro _ hJ
      refine zac (gS (gM I (gQ (zbR I) (gN [0,3,6,7,10,11,12,20,21,23,24,25,128] I (zap I (λ hc128=>?_) (λ hc128=>?_))))))
      ·have hm0:(mayB S V x (bs.getD (l.getD i.toNat default).1.toNat default) bk (l.getD i.toNat default).2).2=false:=by simpa using hc128
       have hno:=zMu g2 (by omega) (zMV hz hJ5 hm0)
       refine gS (gA I (gA I (gA I (gN [0,3,6,7,10,11,12,20,21,23,24,25] I (zaw (zay (zdh I (zau I) (zau I) (zau I)) ?_))))))
       rw [hno];rfl
      ·have hm0:(mayB S V x (bs.getD (l.getD i.toNat default).1.toNat default) bk (l.getD i.toNat default).2).2=true:=by simpa using hc128
       have hnx:=zMR g2 (zM8 hz hJ5 hm0)
       have hmi:=zJS hok z0 z1 bk (l.getD i.toNat default).2
       refine zaq (zaa (gM I (gM I (gM I (gQ (zaY I I) (gA I (gA I (gN [0,3,6,7,10,11,12,23,24,25] I (zaa (gQ (zaY I I) (gM I (gN [0,3,6,7,10,11,12,23,24,25] I (zaK 0 I (zaK 0 I (zaK 0 I (zaK 0 I (zaK 0 I (zaK 0 I (zaK 0 I ?_)))))))))))))))))))
       exact za1 (i+1,_,_) (sB I) I ⟨by omega,by omega,by rw [show(i+1).toNat=i.toNat+1 from by omega];exact hnx⟩ (by simp only [];omega)
  ·have hc26:=oD hc26
   have hfin:wkdA S V bs x frm l=some (cur,eff):=by rw [←g2,show i.toNat=l.length from by omega];rfl
   refine za8 I (gS (gM I (gM I (gA I (gA I (gA I (gN [10,11,12] I (zaw (zay (zdh I (zau I) (zau I) (zau I)) ?_)))))))))
   rw [hfin];rfl
theorem zLt:TF Tryz.prog 149 false 1 (A none 0 0):=tK
theorem zLi:FO Tryz.prog 163 0 0:=fK
theorem zLe:FO Tryz.prog 163 1 1:=fK
theorem zpl:En Tryz.prog 114:=eK Tryz.func114
theorem zw5:En Tryz.prog 115:=eK Tryz.func115
theorem zvS:En Tryz.prog 116:=eK Tryz.func116
theorem zw6:En Tryz.prog 117:=eK Tryz.func117
theorem zMg (x0_0 x1_0 x2_0:Int) (w:World):(Instr.buildSlice 45 3 #[(0,O x0_0),(1,O x1_0),(2,O x2_0)]).run Tryz.prog w=.ok (A (some ⟨w.heap.size,0,none⟩) 3 3) (w.alloc (.cells (([x0_0,x1_0,x2_0]:List (Int)).flatMap C).toArray 3)):=by kernel_rfl
theorem zKb (a:yO) (cap:Nat) (l:List Int) (n:Int) (w:World) (hl:Has w (Ints a l)) (hs:zaP l.length) :
  Calls Tryz.prog 64 #[A a l.length cap,O n] w (Pure (.bool (hasI l n)) w):=by
 refine zan (vs:=[_,_]) Tryz.func64 I I (bL I) (gS (gA I (gN [0,1,4] I (zac (gS (gA I (gN [0,1,4,5] I (zas (zbf (X:=Int) (λ(i:Int)=>[(0,A a l.length cap),(1,O n),(4,.bool false),(5,O i)]) (λ(i:Int)=>[]) (λ(i:Int)=>(0≤i∧i≤l.length∧∀ j:Nat,(j:Int)<i→¬ l.getD j default=n)) (λ(i:Int)=>(l.length - i).toNat) 0 ⟨I,I,I,I,trivial⟩ rfl ?_ ?_)))))))))
 ·exact⟨by omega,by omega,λ j hj=>by omega⟩
 ·rintro i hI
  obtain⟨g0,g1,g2⟩:=hI
  refine zac (gS (gM I (gM I (gQ (zaV (Tryz.underlying45) I) (gQ (zbw I I) (gN [0,1,4,5,9] I (zap I (λ hc9=>?_) (λ hc9=>?_))))))))
  ·simp only [dT] at hc9
   refine zaq (zac (zas (gS (gM I (gM I (gQ (zaE se45 I I (λ _=>rH hl)) (gQ (zcE tf3 I (λ _=>rH hl) (by omega) (by omega) I) (gM I (gQ (zbL I I) (gN [0,1,4,5,17] I (zap I (λ hc17=>?_) (λ hc17=>?_))))))))))))
   ·have hc17:=oT hc17
    refine gS (gA I (gN [0,1,4,5] I (zaw (zay (zaC I (zau I)) ?_))))
    rw [zJu g0 (by omega) hc17]
   ·have hc17:=oD hc17
    refine zaq (zaa (gM I (gQ (zaY I I) (gA I (gN [0,1,4,5] I ?_)))))
    exact za1 _ ⟨I,I,I,I,trivial⟩ rfl ⟨by omega,by omega,λ j hj=>if h:(j:Int)<i then g2 j h else(by rw [show j=i.toNat from by omega];exact hc17)⟩ (by omega)
  ·simp only [dF] at hc9
   refine za8 I (gS (gA I (gN [4] I (zaw (zay (zaC I (zau I)) ?_)))))
   rw [zJP (λ j hj=>g2 j (by omega))]
theorem zLz (n:Int) (w:World)  :
  Calls Tryz.prog 144 #[O n] w (Pure (.bool false) w):=by
 refine zan (vs:=[_]) Tryz.func144 I I (bL I) (gS (gA I (gN [0,2] I (gS (gM I (gM I (gQ (zcr I I) (gA I (gN [2] I (zaw (zay (zaC I (zau I)) ?_)))))))))))
 simp
theorem zLx (m n:Int) (w:World)  :
  Calls Tryz.prog 116 #[O m,O n] w (Pure (O (cmpF m n)) w):=by
 refine zan (vs:=[_,_]) Tryz.func116 I I (bL I) (gS (gA I (gN [0,1,4] I (gS (gM I (gQ (zaJ zMk I (λ w hw=>zLz _ w)) (gA I (gN [0,1,4,5] I (gS (gM I (gQ (zaJ zMk I (λ w hw=>zLz _ w)) (gA I (gN [0,1,4,5,6] I (zac (gS (gM I (gN [0,1,4,6,11] I (zd8 I (zaq (zac (gS (gM I (gN [0,1,4,13] I (zd8 I (zaq (zac (gS (gM I (gM I (gQ (zbw I I) (gN [0,1,4,16] I (zap I (λ hc16=>?_) (λ hc16=>?_)))))))))))))))))))))))))))))))))
 ·have hc16:=oT hc16
  refine gS (gA I (gN [0,1,4] I (zaw (zay (zaC I (zau I)) ?_))))
  unfold cmpF;rw [if_pos hc16]
 ·have hc16:=oD hc16
  refine zaq (zac (gS (gM I (gM I (gQ (zc6 I I) (gN [4,19] I (zap I (λ hc19=>?_) (λ hc19=>?_))))))))
  ·have hc19:=oT hc19
   refine gS (gA I (gN [4] I (zaw (zay (zaC I (zau I)) ?_))))
   unfold cmpF;rw [if_neg hc16,if_pos hc19]
  ·have hc19:=oD hc19
   refine zaq (gS (gA I (gN [4] I (zaw (zay (zaC I (zau I)) ?_)))))
   unfold cmpF;rw [if_neg hc16,if_neg hc19]
theorem zMq (a:yO) (cap:Nat) (l:List Int) (w:World) (hl:Has w (Ints a l)) (hs:zaP l.length) :
  Calls Tryz.prog 115 #[A a l.length cap] w (Pure (O (orF l)) w):=by
 refine zan (vs:=[_]) Tryz.func115 I I (bL I) (gS (gA I (gN [0,2] I (gS (gA I (gN [0,2,3] I (zac (gS (gM I (gQ (zaV (Tryz.underlying45) I) (gM I (gN [2,3,6,7,8] I (zas (zbf (X:=Int) (λ(i:Int)=>[(2,O 0),(3,O 0),(6,A a l.length cap),(7,O (l.length:Int)),(8,O i)]) (λ(i:Int)=>[]) (λ(i:Int)=>(0≤i∧i≤l.length∧∀ j:Nat,(j:Int)<i→l.getD j default=0)) (λ(i:Int)=>(l.length - i).toNat) 0 (sB I) I ?_ ?_))))))))))))))
 ·exact⟨by omega,by omega,λ j hj=>by omega⟩
 ·rintro i hI
  obtain⟨g0,g1,g2⟩:=hI
  refine gS (gQ (zbw I I) (gN [2,3,6,7,8,9] I (zac (zap I (λ hc9=>?_) (λ hc9=>?_)))))
  ·simp only [dT] at hc9
   refine zaq (zac (zas (gS (gQ (zaE se45 I I (λ _=>rH hl)) (gQ (zcE tf3 I (λ _=>rH hl) (by omega) (by omega) I) (gA I (gN [2,3,5,6,7,8] I (gS (gM I (gM I (gQ (zcr I I) (gN [2,3,5,6,7,8,14] I (zap I (λ hc14=>?_) (λ hc14=>?_))))))))))))))
   ·have hc14:¬ l.getD i.toNat default=0:=by simpa using hc14
    refine gS (gM I (gA I (gN [2,3,6,7,8] I (zaw (zay (zaC I (zau I)) ?_)))))
    rw [zL7 g0 (by omega) g2 hc14]
   ·have hc14:l.getD i.toNat default=0:=by simpa using hc14
    refine zaq (zaa (gQ (zaY I I) (gM I (gN [2,3,6,7,8] I ?_))))
    exact za1 _ (sB I) I ⟨by omega,by omega,λ j hj=>if h:(j:Int)<i then g2 j h else(by rw [show j=i.toNat from by omega];exact hc14)⟩ (by omega)
  ·simp only [dF] at hc9
   refine za8 I (gS (gM I (gA I (gN [2] I (zaw (zay (zaC I (zau I)) ?_))))))
   rw [zLL (λ j hj=>g2 j (by omega))]
theorem zMj (a:yO) (cap:Nat) (l:List Int) (b:yO) (bcap:Nat) (m:List Int) (w:World) (hl:Has w (Ints a l)) (hs:zaP l.length) (hm:Has w (Ints b m)) (hs2:zaP m.length) :
  Calls Tryz.prog 117 #[A a l.length cap,A b m.length bcap] w (Pure (O (cmpL l m)) w):=by
 refine zan (vs:=[_,_]) Tryz.func117 I I (bL I) (gS (gA I (gN [0,1,4] I (zac (gS (gM I (gQ (zaV (Tryz.underlying45) I) (gM I (gN [0,1,4,9,10,11] I (zas (zbf (X:=Int) (λ(i:Int)=>[(0,A a l.length cap),(1,A b m.length bcap),(4,O 0),(9,A a l.length cap),(10,O (l.length:Int)),(11,O i)]) (λ(i:Int)=>[]) (λ(i:Int)=>(0≤i∧i≤l.length∧i≤m.length∧∀ j:Nat,(j:Int)<i→l.getD j default=m.getD j default)) (λ(i:Int)=>(l.length - i).toNat) 0 (sB I) I ?_ ?_)))))))))))
 ·exact⟨by omega,by omega,by omega,λ j hj=>by omega⟩
 ·rintro i hI
  obtain⟨g0,g1,g3,g2⟩:=hI
  refine gS (gQ (zbw I I) (gN [0,1,4,9,10,11,12] I (zac (zap I (λ hc12=>?_) (λ hc12=>?_)))))
  ·simp only [dT] at hc12
   refine zaq (zac (zas (gS (gM I (gQ (zaE se45 I I (λ _=>rH hl)) (gQ (zcE tf3 I (λ _=>rH hl) (by omega) (by omega) I) (gA I (gA I (gN [0,1,4,5,6,9,10,11] I (zac (gS (gM I (gM I (gQ (zaV (Tryz.underlying45) I) (gQ (zfx I I) (gN [0,1,4,5,6,9,10,11,19] I (zap I (λ hc19=>?_) (λ hc19=>?_))))))))))))))))))
   ·have hc19:=oT hc19
    refine gS (gA I (gN [0,1,4,5,6,9,10,11] I (zaw (zay (zaC I (zau I)) ?_))))
    rw [zLy g0 (by omega) hc19 g3 g2]
   ·have hc19:=oD hc19
    refine zaq (gS (gM I (gM I (gQ (zaE se45 I I (λ _=>rH hm)) (gQ (zcE tf3 I (λ _=>rH hm) (by omega) (by omega) I) (gA I (gN [0,1,4,6,7,9,10,11] I (gS (gM I (gM I (gQ (zaJ zvS I (λ w hw=>zLx (l.getD i.toNat default) (m.getD i.toNat default) w)) (gA I (gN [0,1,4,8,9,10,11] I (gS (gM I (gQ (zcr I I) (gN [0,1,4,8,9,10,11,28] I (zap I (λ hc28=>?_) (λ hc28=>?_)))))))))))))))))))
    ·have hc28:¬ cmpF (l.getD i.toNat default) (m.getD i.toNat default)=0:=by simpa using hc28
     refine gS (gM I (gA I (gN [0,1,4,9,10,11] I (zaw (zay (zaC I (zau I)) ?_)))))
     rw [zL0 g0 (by omega) (by omega) g2 hc28]
    ·have hc28:cmpF (l.getD i.toNat default) (m.getD i.toNat default)=0:=by simpa using hc28
     refine zaq (zaa (gQ (zaY I I) (gM I (gN [0,1,4,9,10,11] I ?_))))
     exact za1 _ (sB I) I ⟨by omega,by omega,by omega,λ j hj=>if h:(j:Int)<i then g2 j h else(by rw [show j=i.toNat from by omega];exact zLf.1 hc28)⟩ (by omega)
  ·simp only [dF] at hc12
   refine za8 I (zac (gS (gM I (gQ (zaV (Tryz.underlying45) I) (gM I (gQ (zaV (Tryz.underlying45) I) (gQ (zbw I I) (gN [4,35] I (zap I (λ hc35=>?_) (λ hc35=>?_))))))))))
   ·have hc35:=oT hc35
    refine gS (gA I (gN [4] I (zaw (zay (zaC I (zau I)) ?_))))
    rw [zLp (by omega) (λ j hj=>g2 j (by omega)),if_pos (by omega)]
   ·have hc35:=oD hc35
    refine zaq (gS (gA I (gN [4] I (zaw (zay (zaC I (zau I)) ?_)))))
    rw [zLp (by omega) (λ j hj=>g2 j (by omega)),if_neg (by omega)]
theorem zLR (a:yO) (cap:Nat) (l:List Crg) (w:World) (hl:Has w (zaW a 5 zzK l)) (hs:l.length≤300000) :
  Calls Tryz.prog 114 #[A a l.length cap] w (zcU (λ z:Option Addr×Nat=>A z.1 (zIh l).length z.2) (λ z=>Row z.1 1 z.2 3 C (zIh l)) w):=by
 refine zan (vs:=[_]) Tryz.func114 I I (bL I) (gS (gA I (gN [0,2] I (gS (gA I (gN [0,2,3] I (zac (gS (gM I (gQ (zaV (Tryz.underlying149) I) (gM I (gN [2,3,6,7,8] I (zas (zbB 3 C 1 (zbf (X:=Int×Option Addr×Nat×List Int) (λ⟨i,ra,rc,N⟩=>[(2,A none 0 0),(3,A ra N.length rc),(6,A a l.length cap),(7,O (l.length:Int)),(8,O i)]) (λ⟨i,ra,rc,N⟩=>[Row ra 1 rc 3 C N]) (λ⟨i,ra,rc,N⟩=>(0≤i∧i≤l.length∧N=(zIh l).take i.toNat)) (λ⟨i,ra,rc,N⟩=>(l.length - i).toNat) (0,none,0,[]) (sB I) I ?_ ?_)))))))))))))))
 ·exact⟨by omega,by omega,rfl⟩
 ·rintro ⟨i,ra,rc,N⟩ hI
  obtain⟨g0,g1,g2⟩:=hI
  have hbl:(zIh l).length=l.length:=zId
  have hnl:N.length≤l.length:=by rw [g2,List.length_take];omega
  refine gS (gQ (zbw I I) (gN [2,3,6,7,8,9] I (zac (zap I (λ hc9=>?_) (λ hc9=>?_)))))
  ·have hc9:=oT hc9
   refine zaq (zac (zas (gS (gQ (zaE zHY I I (λ _=>rH hl)) (gQ (zbv (vs:=[_,_,_,_,_]) zyD I (λ _=>rH hl) (by omega) (by omega) I) (zaG I I (zaL zyD (zs:=[_,_,_,_,_]) I) λ b5=>(zaA 0 zyD I I (vs:=[_,_,_,_,_]) I I I I I (gN [2,3,5,6,7,8] I (zaa (gM I (gQ (zab zAd I) (gQ (zah 0 tf3 I I I) (zaG I I (zaD I (zA3 _) Go.Stn.encI_ok I) λ b15=>(zb4 (m:=[(l.getD i.toNat default).brd]) 2 af45 Go.Stn.encI_ok I I I I (λ _ hw=>(zam Go.Stn.encI_ok (hw.has (p:=0) I))) (by first|omega|(simp only [lC,lN];omega)) (by first|(unfold maxLen;omega)|(simp only [lC,lN,maxLen];omega)) λ a16 c16=>(gA I (gN [2,3,6,7,8] I (zaa (gQ (zaY I I) (gM I (gN [2,3,6,7,8] I (zaK 0 I (zaK 0 I ?_))))))))))))))))))))))
   exact za1 (i+1,_,_,_) (sB I) I ⟨by omega,by omega,by rw [g2,←zDi g0 (by omega),zLY (by omega)]⟩ (by simp only [];omega)
  ·have hc9:=oD hc9
   have hN:N=(zIh l):=by rw [g2,List.take_of_length_le (by omega)]
   refine za8 I (gS (gM I (gA I (gN [2] I (zaw (zbd (ra,rc) 0 (zaC I (zau I)) ?_ (by rw [hN];rfl)))))))
   rw [hN]
theorem zLo (t o:Trk) (a:yO) (cap:Nat) (b:yO) (bcap:Nat) (w:World) (hl:Has w (zaW a 5 zzK t.l)) (hs:t.l.length≤300000) (hm:Has w (zaW b 5 zzK o.l)) (hs2:o.l.length≤300000) :
  Calls Tryz.prog 93 #[.agg #[O t.eff,A a t.l.length cap,.bool t.there],.agg #[O o.eff,A b o.l.length bcap,.bool o.there]] w (Pure (O (befT t o)) w):=by
 refine zan (vs:=[_,_]) Tryz.func93 I I (bL I) (gS (zaG I I (za3 (vs:=[_,_,_]) I I) λ b2=>(zaG I I (za3 (vs:=[_,_,_]) I I) λ b3=>(gA I (gN [2,3,4] I (gS (gA I (gN [2,3,4,5] I (zac (gZ 24 (ph_y (zab zLi I) (ph_y (zah 1 tf3 I I I) (ph_y (zab zLi I) (ph_y (zah 0 tf3 I I I) (ph_y (zaJ zvS I (λ w hw=>zLx t.eff o.eff w)) (ph_y (zab zLe I) (ph_y (zah 1 zLt I I I) (ph_y (zaV (Tryz.underlying149) I) (ph_y (zab zLe I) (ph_y (zah 0 zLt I I I) (ph_y (zaV (Tryz.underlying149) I) (ph_y (zaJ zvS I (λ w hw=>zLx (t.l.length:Int) (o.l.length:Int) w)) (ph_y (zaf I) (ph_y (zab zLe I) (ph_y (zah 1 zLt I I I) (zmr (zLr (fs:=[]) (cap:=[]) zpl I I (λ w hw=>zLR _ _ t.l w (rH hl hw) (by omega))) (ph_y (zaf I) (ph_y (zab zLe I) (ph_y (zah 0 zLt I I I) (zmr (λ p21=>zLr (fs:=[]) (cap:=[]) zpl I I (λ w hw=>zLR _ _ o.l w (rH hm hw) (by omega))) ?_))))))))))))))))))))))))))))))
 refine ph_y (λ p25 p21=>zaJ zw6 I (λ w hw=>zMj _ _ (zIh t.l) _ _ (zIh o.l) w (zam Go.Stn.encI_ok (hw.has (p:=0) I)) (by rw [lM];unfold zaP;omega) (zam Go.Stn.encI_ok (hw.has (p:=1) I)) (by rw [lM];unfold zaP;omega))) (zmr (zaD I (zMg _ _ _) Go.Stn.encI_ok I) (ph_y (λ b27=>zaJ zw5 I (λ w hw=>zMq _ _ ([(cmpF t.eff o.eff),(cmpF (t.l.length:Int) (o.l.length:Int)),(cmpL (zIh t.l) (zIh o.l))]) w (zam Go.Stn.encI_ok (hw.has (p:=0) I)) (by simp [zaP]))) (ph_y (λ b27 p25 p21=>zad I) ?_)))
 intro b27
 intro p25
 intro p21
 refine gN [4] I (zaw (zay (zaC I (zau I)) ?_))
 rfl
end Go.Proofs.YteepmmghanbllaaGreatDoor
namespace Go.K
open Go Go.RowKit
def Dfrs:List Nat→Res
 | []=>Emp
 | D :: M=>SepR [Dfr D,Dfrs M]
abbrev mrk (M:List Nat) (ds:List Deferred):List Deferred:=M.map mark++ds
def NxtM (c:Cx) (ds:List Deferred) {X:Type} (Tf:X→List (Nat×Value)) (Hf:X→List Res) (Mf:X→List Nat) (I:X→Prop) (μ:X→Nat) (m:Nat):Act→World→Prop:=
 λ a w=>∃ x',Sat c.n (Tf x') (mrk (Mf x') ds) a∧Hp c.U c.w0 (Hf x') w∧I x'∧μ x' < m
section
variable {c:Cx} {ds ds':List Deferred} {p:Post} {T:List (Nat×Value)} {H:List Res}
theorem zKT {K:Act→World→Prop} (h:GK c (mrk [] ds) K T (Dfrs [] :: H)):GK c ds K T H:=zyS h
theorem zK2 {X:Type} {Tf:X→List (Nat×Value)} {Hf:X→List Res} {Mf:X→List Nat} {I:X→Prop} {μ:X→Nat} {m:Nat} (x':X) (hd:ds' = mrk (Mf x') ds) (hT:sub (Tf x') T) (hH:Hf x' = H) (hI:I x') (hm:μ x' < m) :
  GK c ds' (NxtM c ds Tf Hf Mf I μ m) T H:=λ _ _ ha hw=>⟨x',hd ▸ ha.mono hT,hH ▸ hw,hI,hm⟩
theorem zK1 {body:Code} {X:Type} (Tf:X→List (Nat×Value)) (Hf:X→List Res) (Mf:X→List Nat) (I:X→Prop) (μ:X→Nat) (x0:X) (hM:Mf x0=[]) (hT:sub (Tf x0) T) (hH:Hf x0=H) (hI:I x0)
  (round:∀ x,I x→GK c (mrk (Mf x) ds) (KC c body { nrm:=NxtM c ds Tf Hf Mf I μ (μ x),ret:=p.ret,ex:=p.ex,pn:=p.pn }) (Tf x) (Hf x)):GK c (mrk [] ds) (KC c (.loop body) p) T H:=by
 subst hH
 intro a w ha hw
 have key:∀ (m:Nat) (x:X),μ x=m→I x→∀ a w,Sat c.n (Tf x) (mrk (Mf x) ds) a→Hp c.U c.w0 (Hf x) w →
   ∀ (b:Frame) (k:List Item) (cs:List Frame),b.roundOf=(FW c.r).round→(FW c.r).fn b.fn→(FW c.r).room (cs.length+1+0) →
   ∃ e a' w',p.Q e a' w'∧ArrivesIn (Machine.fenced c.P (FW c.r)) c.P (lone (b.atR a (.code body :: .inLoop body :: k)) cs w) b k cs e a' w':=by
  intro m
  induction m using Nat.strongRecOn with
  | _ m ih=>
   intro x hm hI a w ha hw b k cs hro hb hr
   obtain⟨e,a₁,w₁,hq,harr⟩:=round x hI a w ha hw b (.inLoop body :: k) cs hro hb hr
   cases e with
   | normal=>
    obtain⟨x',ha',hw',hI',hlt⟩:=hq
    obtain⟨e₂,a₂,w₂,hq₂,harr₂⟩:=ih (μ x') (hm ▸ hlt) x' rfl hI' a₁ w₁ ha' hw' b k cs hro hb hr
    exact⟨e₂,a₂,w₂,hq₂,.of_steps (StepsIn.trans harr (.one (fenced_calm hb hr rfl) stepR_inLoop)) harr₂⟩
   | exit id=>exact⟨.exit id,a₁,w₁,hq,.pass (x:=.inLoop body) rfl (λ _ _=>.inl (by simp)) harr⟩
   | ret=>exact⟨.ret,a₁,w₁,hq,.pass (x:=.inLoop body) rfl (λ _ _=>.inl (by simp)) harr⟩
   | goto l=>exact hq.elim
   | panic ch=>exact⟨.panic ch,a₁,w₁,hq,.pass (x:=.inLoop body) rfl (λ _ _=>.inl (by simp)) harr⟩
   | outgrown=>exact hq.elim
 intro b k cs hro hb hr
 obtain⟨e,a',w',hq,harr⟩:=key _ x0 rfl hI a w (by rw [hM];exact ha.mono hT) hw b k cs hro hb hr
 exact⟨e,a',w',hq,.of_steps (.one (fenced_calm hb hr rfl) stepR_loop) harr⟩
theorem zKK {fn:Func} {R:Ending→World→Prop}:∀ {M:List Nat} {H:List Res},GK c ds (RetP c.P fn R) T H→GK c (mrk M ds) (RetP c.P fn R) T (Dfrs M :: H)
 | [],_,h=>ztW h
 | _ :: _,_,h=>zbP (zil 0 I (zKK h))
theorem zKJ {fn:Func} {R:Ending→World→Prop} {M:List Nat} (i:Nat) (hi:H[i]?=some (Dfrs M)) (h:GK c ds (RetP c.P fn R) T (H.eraseIdx i)):GK c (mrk M ds) (RetP c.P fn R) T H:=zao i hi (zKK h)
end
end Go.K
namespace Go.Fld
open Go Go.K Go.Stn Go.Pln
section
variable {W:List (Crg×Crg)} {n k:Nat} {frm nx:Int} {L:List TrkR} {D:List Bool} {bs:List Bdr}
theorem zLN {T:List Trk} {i:Nat} (h:Sel T D i nx) (h0:0≤nx):nx<i∧(T.getD nx.toNat default).there=true∧D.getD nx.toNat false=false:=by
 rcases h with ⟨h1,_⟩ | ⟨⟨_,h1⟩,h2,_⟩
 ·omega
 ·exact⟨h1,h2⟩
theorem zMt {i:Int} (hi:0≤i) (h:Sel (trkL L) D i.toNat nx) (hc:(((L.getD i.toNat default).1.there&&!D.getD i.toNat false)&&(decide (nx<0)||decide (befT (L.getD i.toNat default).1 (L.getD nx.toNat default).1<0)))=true):Sel (trkL L) D (i+1).toNat i:=by
 rw [zLn] at hc
 simp only [aT,Bool.or_eq_true,nT,dT] at hc
 have:=zL8 h (by rw [zIe];exact hc.1) (by rw [zIe,zIe];exact hc.2)
 rwa [tN hi,show i.toNat+1=(i+1).toNat from by omega] at this
theorem zMs {i:Int} (hi:0≤i) (h:Sel (trkL L) D i.toNat nx) (hc:(((L.getD i.toNat default).1.there&&!D.getD i.toNat false)&&(decide (nx<0)||decide (befT (L.getD i.toNat default).1 (L.getD nx.toNat default).1<0)))=false):Sel (trkL L) D (i+1).toNat nx:=by
 rw [zLn] at hc
 rw [show(i+1).toNat=i.toNat+1 from by omega]
 by_cases h2:(L.getD i.toNat default).1.there=true∧D.getD i.toNat false=false
 ·rw [h2.1,h2.2] at hc
  have hc:(decide (nx<0)||kLt (L.getD i.toNat default).1 (L.getD nx.toNat default).1)=false:=hc
  simp only [oF,dF] at hc
  exact zLM h (by omega) (by rw [zIe,zIe];exact hc.2)
 ·exact zLO h (by rw [zIe];exact h2)
theorem zMo (he:zJJ W) (hw:zIB W n) (h:Ong W n frm (trkL L) D nx k) (hk:k<(outL W nx).length)
  (hc:(!D.getD ((outL W nx).getD k default).to.toNat false&&(!(L.getD ((outL W nx).getD k default).to.toNat default).1.there||decide (befT (extT (L.getD nx.toNat default).1 ((outL W nx).getD k default)) (L.getD ((outL W nx).getD k default).to.toNat default).1<0)))=false):Ong W n frm (trkL L) D nx (k+1):=by
 refine zMl he hw h (c:=(outL W nx).getD k default) (by rw [gE,eG hk];rfl) ?_
 rw [zLn] at hc
 cases e:D.getD ((outL W nx).getD k default).to.toNat false with
 | true=>exact .inl I
 | false=>
  rw [e] at hc
  refine .inr ?_
  rw [zIe,zIe]
  exact hc
theorem zMb (hp:zyI W bs) (hbs:bs.length≤80) (he:zJJ W) (hw:zIB W n) (hn:n≤40) (hf0:0≤frm) (h:Ong W n frm (trkL L) D nx k) (hk:k<(outL W nx).length) (z:Option Addr×Nat)
  (hc:(!D.getD ((outL W nx).getD k default).to.toNat false&&(!(L.getD ((outL W nx).getD k default).to.toNat default).1.there||decide (befT (extT (L.getD nx.toNat default).1 ((outL W nx).getD k default)) (L.getD ((outL W nx).getD k default).to.toNat default).1<0)))=true) :
  Ong W n frm (trkL (L.set ((outL W nx).getD k default).to.toNat (extT (L.getD nx.toNat default).1 ((outL W nx).getD k default),z))) D nx (k+1):=by
 rw [zLn] at hc
 rw [aT,nT] at hc
 have:=zL6 hp hbs he hw hn hf0 h (c:=(outL W nx).getD k default) (by rw [gE,eG hk];rfl) hc.1 (by rw [zIe,zIe];exact hc.2)
 rw [zIe] at this
 rw [zJm];exact this
theorem zMm (he:zJJ W) (hw:zIB W n) {k:Nat} (hk:k<(outL W nx).length):(0≤((outL W nx).getD k default).to∧((outL W nx).getD k default).to<n)∧1≤((outL W nx).getD k default).eff∧((outL W nx).getD k default).eff≤7001:=by
 obtain⟨⟨h1,h2,_⟩,_⟩:=zK0 (za0 hk)
 exact⟨(hw _ h1).2,he _ h1 h2⟩
theorem zLQ (h0:0≤frm) (h1:frm<n):Dij W n frm (trkL (trk0 n frm)) (List.replicate 40 false):=
 ⟨zJz h0 h1,List.length_replicate ..,λ i _ h=>(by rw [zAE] at h;cases h),λ i j _ _ h=>(by rw [zAE] at h;cases h),λ c _ h=>(by rw [zAE] at h;cases h)⟩
theorem zLm (hp:zyI W bs) (hbs:bs.length≤80) {may:Crg→Bool} (h:Imp W may n frm (trkL L)) (hn:n≤40):∀ i:Nat,i<n→(L.getD i default).1.l.length≤280040∧0≤(L.getD i default).1.eff∧(L.getD i default).1.eff≤280040:=λ i hi=>by
 have:=zIz hp hbs h hn hi
 rwa [zIe] at this
end
end Go.Fld
namespace Go.Proofs.YteepmmghanbllaaGreatDoor
open Go.K Go.Stn Go.Pln Go.Fld Go.RowKit
theorem en62:En Tryz.prog 62:=eK Tryz.func62
theorem zMz (a:yO) (cap:Nat) (S:List ShC) (b:yO) (bcap:Nat) (V:List WlC) (ca:yO) (ccap:Nat) (cs:List ByteArray) (ba:yO) (bcp:Nat) (bs:List Bdr) (x:Anm) (frm to:Int) (la:yO) (lcap:Nat) (l:List (Int×Int)) (pa:yO) (pcap:Nat) (pf:List Int) (w:World) (hl:yag w a S) (hs:zaP S.length) (hcS:S.length≤cap) (hlw:yah w b V) (hsw:zaP V.length) (hsh:yab S w) (hss:yac S) (hwo:yaa V w) (hsv:yae V) (hcp:yad V) (hkn:yaf V) (hc:yai w ca cs) (hcs:zaP cs.length) (hcap:cs.length≤ccap) (hbd:yaj w ba bs) (hbs:zaP bs.length) (hll:Has w (zaW la 2 zyQ l)) (hls:l.length≤300000) (hpf:Has w (Ints pa pf)) (hpb:∀ z∈pf,-1000000000000≤z∧z≤1000000000000) (hat:atE S V cs bs x [frm,to]=0) :
  Calls Tryz.prog 35 #[zzz3 a S cap b V bcap,zzz4 ca cs ccap ba bs bcp,zzz1 x,O frm,O to,A la l.length lcap,A pa pf.length pcap] w (Pure (.bool (prvA S V cs bs x frm to l pf)) w):=by
 obtain⟨hok,hin,hcs40,hbs80⟩:=zDr hat
 obtain⟨f0,f1⟩:=zCw hin frm (by simp)
 obtain⟨t0,t1⟩:=zCw hin to (by simp)
 have hlw_:(zyj S V bs x).length=bs.length:=zz5
 have hWs:zaP (zyj S V bs x).length:=by unfold zaP;omega
 have hA:=zM2 (l:=l) (proof:=pf) hat
 have heff:=zI5 hok
 have hcell:=zIr hok
 refine zan (vs:=[_,_,_,_,_,_,_]) Tryz.func35 I I (bL I) (gS (zaG I I (za3 (vs:=[_,_]) I I) λ b7=>(zaG I I (za3 (vs:=[_,_]) I I) λ b8=>(zaG I I (za3 (vs:=[_,_,_,_,_]) I I) λ b9=>(zaG I I (za3 (vs:=[_]) I I) λ b13=>(zaG I I (zaL tf4 (zs:=[_]) I) λ b14=>(gN [3,4,5,7,8,9,13,14] I (gS (gQ (zat 4 tf37 I I (vs:=[_,_]) I I) (gQ (zat 3 tf40 I I (vs:=[_,_]) I I) (gQ (zat 2 tf41 I I (vs:=[_,_,_,_,_]) I I) (gM I (gM I (zaG I I (zaD I (zDC _ _) Go.Stn.encI_ok I) λ b30=>(zaG I I (zbm en46 I (λ w hw=>zFH _ _ S _ _ V _ _ cs _ _ bs x _ _ [frm,to] w (rH hl hw) hs hcS (rH hlw hw) hsw (λ z hz=>(rH (hsh z hz) hw)) hss (λ z hz=>(rH (hwo z hz) hw)) hsv hcp hkn (rH hc hw) hcs hcap (rH hbd hw) hbs (zam Go.Stn.encI_ok (hw.has (p:=0) I)) (by simp [zaP]) hok hin)) λ p31=>(gM I (gQ (zaB I I) (gQ (zaB I I) (gA I (gA I (gN [3,4,5,7,8,9,13,14,15,16] I ?_)))))))))))))))))))))
 obtain⟨lb,⟨wa,wc⟩,⟨fa,fc⟩,F⟩:=p31
 refine zz4 λ hF=>zbP ?_
 have hF:F.map (·.2)=(zzS S V bs x):=hF
 refine zac (gS (gM I (gQ (zcr I I) (gM I (gT I I I (gQ (zah 6 tf45 I I I) (gT I I I (gQ (zaV (Tryz.underlying45) I) (gT I I I (gQ (zab zBJ I) (gT I I I (gQ (zah 8 tf26 I I I) (gT I I I (gQ (zaV (Tryz.underlying26) I) (gT I I I (gQ (zcr I I) (gQ (za5 I I I) (gM I (zai I I I I (λ hg44=>?_) (λ hg44=>?_))))))))))))))))))))
 ·replace hg44:_=false:=hg44
  try rw [hg44]
  refine gQ (zah 6 tf45 I I I) ?_
  have hpl0:((pf.length:Int)=cs.length):=by simpa using hg44
  have hpl:pf.length=cs.length:=by omega
  refine gT I I I (gM I (gT I I I (gQ (zaE se45 I I (λ _=>rH hpf)) (gT I I I (gQ (zcE tf3 I (λ _=>rH hpf) (by omega) (by omega) I) (gT I I I (gQ (zcr I I) (gQ (za5 I I I) (gN [3,4,5,7,8,9,13,14,15,50] I (zap I (λ hc50=>?_) (λ hc50=>?_)))))))))))
  ·have hno:=zMx (W:=(zyj S V bs x)) (n:=cs.length) (to:=to) (r:=wkdA S V bs x frm l) (.inr hc50)
   refine gS (zaA 5 tf4 I I (vs:=[_]) I I I I I (gN [3,4,5,7,8,9,13,14,15] I (zaw (zay (zaC I (zcy (i:=5) tf4 I I I)) ?_))))
   first|rw [hA,hno]|rw [hA,zMx (.inl (by rw [nT,dF] at hg44 ⊢;omega))]
  ·have hp0:pf.getD frm.toNat default=0:=by simpa using hc50
   refine zaq (zac (gS (gQ (zab zBJ I) (gQ (zah 8 tf26 I I I) (gQ (zaV (Tryz.underlying26) I) (gM I (gN [3,4,5,7,9,13,14,15,53,54] I (zas (zKT (zK1 (X:=Int×List Nat) (λ⟨i,Ms⟩=>[(3,O frm),(4,O to),(5,A la l.length lcap),(7,Z b7),(9,Z b9),(13,Z b13),(14,Z b14),(15,Z lb),(53,O (cs.length:Int)),(54,O i)]) (λ⟨i,Ms⟩=>[Dfrs Ms,Box lb [A ca cs.length ccap,A ba bs.length bcp,A wa (zyj S V bs x).length wc,A fa (F.map (·.1)).length fc] 128,Row wa 10 wc 148 zyw (zyj S V bs x),Row fa 1 fc 124 zy6 (F.map (·.1)),Go.K.Rows rowM F,Row (some ⟨b30,0,none⟩) 1 2 3 C [frm,to],Box b14 [.bool false] 4,Box b13 [A pa pf.length pcap] 45,Box b9 (zzz2 x) 41,Box b8 (zzz6 ca cs ccap ba bs bcp) 40,Box b7 (zzz5 a S cap b V bcap) 37]) (λ⟨i,Ms⟩=>Ms) (λ⟨i,Ms⟩=>(0≤i∧i≤cs.length∧∀ j:Nat,(j:Int)<i→prvT (zyj S V bs x) pf j=true)) (λ⟨i,Ms⟩=>(cs.length - i).toNat) (0,[]) I (sB I) I ?_ ?_))))))))))
   ·exact⟨by omega,by omega,λ j hj=>by omega⟩
   ·rintro ⟨i,Ms⟩ hI
    obtain⟨g0,g1,g2⟩:=hI
    refine gS (gQ (zbw I I) (gN [3,4,5,7,9,13,14,15,53,54,55] I (zac (zap I (λ hc55=>?_) (λ hc55=>?_)))))
    ·have hc55:=oT hc55
     have hio:((i.toNat:Nat):Int)=i:=tN g0
     have hb1:=hpb _ (za0 (l:=pf) (i:=i.toNat) (by omega))
     refine zaq (zac (zas (gS (gM I (zaG I I (zaL tf3 (zs:=[_]) I) λ b17=>(zaA 0 tf3 I I (vs:=[_]) I I I I I (gN [3,4,5,7,9,13,14,15,17,53,54] I (gS (gM I (gQ (zah 0 tf3 I I I) (zaG I I (zbm en60 I (λ w hw=>zHf lb i w)) λ p59=>zbP (gN [3,4,5,7,9,13,14,15,17,53,54,59] I (zas (gK [3,4,5,7,9,13,14,15,17,53,54,59] I ?_))))))))))))))
     refine zk1 (X:=Unit) (λ _u=>[Box p59.1 [Z lb] 106,Box p59.2 [O i] 3,Box b17 [O i] 3,Dfrs Ms,Box lb [A ca cs.length ccap,A ba bs.length bcp,A wa (zyj S V bs x).length wc,A fa (F.map (·.1)).length fc] 128,Row wa 10 wc 148 zyw (zyj S V bs x),Row fa 1 fc 124 zy6 (F.map (·.1)),Go.K.Rows rowM F,Row (some ⟨b30,0,none⟩) 1 2 3 C [frm,to],Box b14 [.bool false] 4,Box b13 [A pa pf.length pcap] 45,Box b9 (zzz2 x) 41,Box b8 (zzz6 ca cs ccap ba bs bcp) 40,Box b7 (zzz5 a S cap b V bcap) 37]) (λ n _u=>∀ j:Nat,j<n→pf.getD ((outL (zyj S V bs x) i).getD j default).to.toNat default≤(pf.getD i.toNat default)+((outL (zyj S V bs x) i).getD j default).eff) (λ _u=>prvT (zyj S V bs x) pf i.toNat=false) [] () I en90 I I (λ j hj=>by omega) (zGj p59.1 p59.2 i lb wa fa wc fc (zyj S V bs x) F ca ccap cs ba bcp bs hWs) (λ _u w hw=>⟨hw.has (p:=0) I,hw.has (p:=1) I,hw.has (p:=4) I,zam zyl (hw.has (p:=5) I)⟩) (by intro a ha;obtain⟨c,_,rfl⟩:=List.mem_map.1 ha;rfl) I ?_ ?_ ?_ ?_
     ·rintro R1 R2 rl U' w' n _u args hget hR hrd hins hbeg
      obtain⟨hnl,rfl⟩:=zE4 hget
      obtain⟨⟨c0,c1⟩,e0,e1⟩:=zMm heff hcell hnl
      have hb2:=hpb _ (za0 (l:=pf) (i:=((outL (zyj S V bs x) i).getD n default).to.toNat) (by omega))
      refine gK [13,14,17,60] I (zaa (zaG I I (zaL zyD (zs:=[_,_,_,_,_]) I) λ b18=>(zaA 0 zyD I I (vs:=[_,_,_,_,_]) I I I I I (gN [13,14,17,18] I (zao 1 I (hbeg _ _ _ (zas (zac (gZ 11 (ph_y (zah 12 tf45 I I I) (ph_y (zah 4 tf3 I I I) (ph_y (zaE se45 I I (λ _ hw=>(Rd.has (hrd _ (Has.rd hpf)) hw))) (ph_y (zcE tf3 I (λ _ hw=>(Rd.has (hrd _ (Has.rd hpf)) hw)) (by omega) (by omega) I) (ph_y (zah 12 tf45 I I I) (ph_y (zab zzb I) (ph_y (zah 1 tf3 I I I) (ph_y (zaE se45 I I (λ _ hw=>(Rd.has (hrd _ (Has.rd hpf)) hw))) (ph_y (zcE tf3 I (λ _ hw=>(Rd.has (hrd _ (Has.rd hpf)) hw)) (by omega) (by omega) I) (ph_y (zad I) (ph_y (zad I) (gN [14,18,19,20] I (zac (gZ 35 (ph_y (zaf I) (ph_y (zaf I) (ph_y (zc6 I I) (ph_y (zaf I) (zaH I I (λ jj=>by(try rw [jj]);exact zaf I) (zaH I I (λ jj=>by(try rw [jj]);exact zbw I I) (zaH I I (λ jj=>by(try rw [jj]);exact zaf I) (zdr I I (λ jj=>by(try rw [jj]);exact zaf I) (zdr I I (λ jj=>by(try rw [jj]);exact zfx I I) (zaH I I (λ jj=>by(try rw [jj]);exact zaX I I I) (zaH I I (λ jj=>by(try rw [jj]);exact zaf I) ?_))))))))))))))))))))))))))))))))))
      refine zdr I I (λ jj=>by(try rw [jj]);exact zaf I) (zdr I I (λ jj=>by(try rw [jj]);exact zaf I) (zdr I I (λ jj=>by(try rw [jj]);exact zab zDS I) (zdr I I (λ jj=>by(try rw [jj]);exact zah 1 tf3 I I I) (zdr I I (λ jj=>by(try rw [jj]);exact zaY I I) (zdr I I (λ jj=>by(try rw [jj]);exact zc6 I I) (zaH I I (λ jj=>by(try rw [jj]);exact zaX I I I) (zaH I I (λ jj=>by(try rw [jj]);exact zaf I) (zc0 I I (λ jj=>by(try rw [jj]);exact zaf I) (zc0 I I (λ jj=>by(try rw [jj]);exact zfx I I) (zc0 I I (λ jj=>by(try rw [jj]);exact zaf I) (zc0 I I (λ jj=>by(try rw [jj]);exact zaf I) (zc0 I I (λ jj=>by(try rw [jj]);exact zbw I I) (zc0 I I (λ jj=>by(try rw [jj]);exact zaR I I I) (zc0 I I (λ jj=>by(try rw [jj]);exact zaf I) (zdr I I (λ jj=>by(try rw [jj]);exact zaf I) (zdr I I (λ jj=>by(try rw [jj]);exact zaf I) (zdr I I (λ jj=>by(try rw [jj]);exact zfV I I) (zdr I I (λ jj=>by(try rw [jj]);exact zab zDS I) (zdr I I (λ jj=>by(try rw [jj]);exact zah 1 tf3 I I I) (zdr I I (λ jj=>by(try rw [jj]);exact zc6 I I) ?_))))))))))))))))))))
      refine zc0 I I (λ jj=>by(try rw [jj]);exact zaX I I I) (zaH I I (λ jj=>by(try rw [jj]);exact zaR I I I) (ph_y (zaX I I I) (gN [14,104] I (zap I (λ hc104=>?_) (λ hc104=>?_)))))
      ·rw [zMD (by omega)] at hc104
       have hexc:=oT hc104
       refine gS (zaA 11 tf4 I I (vs:=[_]) I I I I I (gN [14] I (zaw (zaK 1 I ?_))))
       exact zb9 () trivial I (zM3 (i:=i.toNat) (k:=n) (by rw [hio];exact hnl) (by rw [hio];exact hexc))
      ·rw [zMD (by omega)] at hc104
       have hle:(pf.getD ((outL (zyj S V bs x) i).getD n default).to.toNat default)≤(pf.getD i.toNat default)+((outL (zyj S V bs x) i).getD n default).eff:=by have:=oD hc104;omega
       refine zaq (zaK 1 I ?_)
       exact zb9 () trivial I (λ j hj=>if h:j<n then hR j h else(by rw [show j=n from by omega];exact hle))
     ·intro Dm _u hR
      have hpt:prvT (zyj S V bs x) pf i.toNat=true:=zMN (by rw [hio];exact λ j hj=>hR j (by rwa [lM]))
      refine zaa (gQ (zaY I I) (gM I (gN [3,4,5,7,9,13,14,15,53,54] I (zao 4 I (zao 1 I (zbT 2 (zaK 1 I (zaK 1 I (zaK 1 I ?_)))))))))
      exact zK2 (i+1,(Dm :: Ms)) I (sB I) I ⟨by omega,by omega,λ j hj=>if h:(j:Int)<i then g2 j h else(by rw [show j=i.toNat from by omega];exact hpt)⟩ (by simp only [];omega)
     ·rintro Dm _u hD
      have hno:=zM4 (frm:=frm) (to:=to) (r:=wkdA S V bs x frm l) (n:=cs.length) (by omega) hD
      refine zil 0 I (zKJ 3 I (zay (zaC I (zcy (i:=8) tf4 I I I)) ?_))
      first|rw [hA,hno]|rw [hA,zMx (.inl (by rw [nT,dF] at hg44 ⊢;omega))]
     ·exact λ _ _ _ _ h=>absurd h (by simp)
    ·have hc55:=oD hc55
     have hyes:=zM5 (W:=(zyj S V bs x)) (to:=to) (r:=wkdA S V bs x frm l) hpl hp0 (λ j hj=>g2 j (by omega))
     refine za8 I (gS (gM I (gQ (zat 10 tf37 I I (vs:=[_,_]) I I) (gQ (zat 8 tf41 I I (vs:=[_,_,_,_,_]) I I) (gM I (gM I (gQ (zaJ en62 I (λ w hw=>zMQ _ _ S _ _ V _ _ cs _ _ bs x lb wa fa wc fc (zyj S V bs x) F frm _ _ l w (rH hl hw) hs hcS (rH hlw hw) hsw (λ z hz=>(rH (hsh z hz) hw)) hss (λ z hz=>(rH (hwo z hz) hw)) hsv hcp hkn (rH hc hw) hcs hcap (rH hbd hw) hbs (hw.has (p:=1) I) hok (rH hll hw) hls)) (gM I (gQ (zaB I I) (gQ (zaB I I) (gQ (zaB I I) (gA I (gA I (gA I (gN [4,13,14,21,22,23] I (zac (gZ 14 (ph_y (zaf I) (ph_y (zaf I) (zaH I I (λ jj=>by(try rw [jj]);exact zaf I) (zaH I I (λ jj=>by(try rw [jj]);exact zaf I) (zaH I I (λ jj=>by(try rw [jj]);exact zbL I I) (ph_y (zaX I I I) (ph_y (zaf I) (zaH I I (λ jj=>by(try rw [jj]);exact zaf I) (zaH I I (λ jj=>by(try rw [jj]);exact zah 7 tf45 I I I) (zaH I I (λ jj=>by(try rw [jj]);exact zaf I) (zaH I I (λ jj=>by(try rw [jj]);exact zaE se45 I I (λ _=>rH hpf)) (zaH I I (λ jj=>by(try rw [jj]);exact zcE tf3 I (λ _=>rH hpf) (by omega) (by omega) I) ?_)))))))))))))))))))))))))))))
     refine zaH I I (λ jj=>by(try rw [jj]);exact zbL I I) (ph_y (zaX I I I) (gK [14,129] I (zaA 6 tf4 I I (vs:=[_]) I I I I I (gN [14] I (zaw (zKJ 0 I (zay (zaC I (zcy (i:=5) tf4 I I I)) ?_)))))))
     rw [hA,hyes] <;> rfl
 ·replace hg44:_=true:=hg44
  try rw [hg44]
  refine gF I I I (gF I I I (gF I I I (gF I I I (gQ (za5 I I I) (gN [3,4,5,7,8,9,13,14,15,50] I (zdg I (gS (zaA 5 tf4 I I (vs:=[_]) I I I I I (gN [3,4,5,7,8,9,13,14,15] I (zaw (zay (zaC I (zcy (i:=5) tf4 I I I)) ?_)))))))))))
  first|rw [hA,hno]|rw [hA,zMx (.inl (by rw [nT,dF] at hg44 ⊢;omega))]
theorem zMy (a:yO) (cap:Nat) (S:List ShC) (b:yO) (bcap:Nat) (V:List WlC) (ca:yO) (ccap:Nat) (cs:List ByteArray) (ba:yO) (bcp:Nat) (bs:List Bdr) (x:Anm) (frm to:Int) (la:yO) (lcap:Nat) (l:List (Int×Int)) (pa:yO) (pcap:Nat) (pf:List Int) (w:World) (hl:yag w a S) (hs:zaP S.length) (hcS:S.length≤cap) (hlw:yah w b V) (hsw:zaP V.length) (hsh:yab S w) (hss:yac S) (hwo:yaa V w) (hsv:yae V) (hcp:yad V) (hkn:yaf V) (hc:yai w ca cs) (hcs:zaP cs.length) (hcap:cs.length≤ccap) (hbd:yaj w ba bs) (hbs:zaP bs.length) (_hll:Has w (zaW la 2 zyQ l)) (_hls:l.length≤300000) (_hpf:Has w (Ints pa pf)) (_hpb:∀ z∈pf,-1000000000000≤z∧z≤1000000000000) (hne:¬ atE S V cs bs x [frm,to]=0) :
  Calls Tryz.prog 35 #[zzz3 a S cap b V bcap,zzz4 ca cs ccap ba bs bcp,zzz1 x,O frm,O to,A la l.length lcap,A pa pf.length pcap] w (Pure (.bool (prvA S V cs bs x frm to l pf)) w):=by
 refine zan (vs:=[_,_,_,_,_,_,_]) Tryz.func35 I I (bL I) (gS (zaG I I (za3 (vs:=[_,_]) I I) λ b7=>(zaG I I (za3 (vs:=[_,_]) I I) λ b8=>(zaG I I (za3 (vs:=[_,_,_,_,_]) I I) λ b9=>(zaG I I (za3 (vs:=[_]) I I) λ b13=>(zaG I I (zaL tf4 (zs:=[_]) I) λ b14=>(gN [3,4,5,7,8,9,13,14] I (gS (gQ (zat 4 tf37 I I (vs:=[_,_]) I I) (gQ (zat 3 tf40 I I (vs:=[_,_]) I I) (gQ (zat 2 tf41 I I (vs:=[_,_,_,_,_]) I I) (gM I (gM I (zaG I I (zaD I (zDC _ _) Go.Stn.encI_ok I) λ b30=>(zaG I I (zbm en46 I (λ w hw=>zDs _ _ S _ _ V _ _ cs _ _ bs x _ _ [frm,to] w (rH hl hw) hs hcS (rH hlw hw) hsw (λ z hz=>(rH (hsh z hz) hw)) hss (λ z hz=>(rH (hwo z hz) hw)) hsv hcp hkn (rH hc hw) hcs hcap (rH hbd hw) hbs (zam Go.Stn.encI_ok (hw.has (p:=0) I)) (by simp [zaP]) hne)) λ p31=>(gM I (gQ (zaB I I) (gQ (zaB I I) (gA I (gA I (gN [3,4,5,7,8,9,13,14,15,16] I (zac (gS (gM I (gQ (zbQ (zcr I I) (by simpa using hne)) (gM I (gF I I I (gF I I I (gF I I I (gF I I I (gF I I I (gF I I I (gQ (za5 I I I) (gM I ?_))))))))))))))))))))))))))))))))))
 refine gF I I I (gF I I I (gF I I I (gF I I I (gF I I I (gQ (za5 I I I) (gN [3,4,5,7,8,9,13,14,15,50] I (zdg I (gS (zaA 2 tf4 I I (vs:=[_]) I I I I I (gN [3,4,5,7,8,9,13,14,15] I (zaw (zay (zaC I (zcy (i:=2) tf4 I I I)) ?_))))))))))))
 rw [zMI hne]
theorem zMv (a:yO) (cap:Nat) (S:List ShC) (b:yO) (bcap:Nat) (V:List WlC) (ca:yO) (ccap:Nat) (cs:List ByteArray) (ba:yO) (bcp:Nat) (bs:List Bdr) (x:Anm) (frm to:Int) (la:yO) (lcap:Nat) (l:List (Int×Int)) (pa:yO) (pcap:Nat) (pf:List Int) (w:World) (hl:yag w a S) (hs:zaP S.length) (hcS:S.length≤cap) (hlw:yah w b V) (hsw:zaP V.length) (hsh:yab S w) (hss:yac S) (hwo:yaa V w) (hsv:yae V) (hcp:yad V) (hkn:yaf V) (hc:yai w ca cs) (hcs:zaP cs.length) (hcap:cs.length≤ccap) (hbd:yaj w ba bs) (hbs:zaP bs.length) (hll:Has w (zaW la 2 zyQ l)) (hls:l.length≤300000) (hpf:Has w (Ints pa pf)) (hpb:∀ z∈pf,-1000000000000≤z∧z≤1000000000000):Calls Tryz.prog 35 #[zzz3 a S cap b V bcap,zzz4 ca cs ccap ba bs bcp,zzz1 x,O frm,O to,A la l.length lcap,A pa pf.length pcap] w (Pure (.bool (prvA S V cs bs x frm to l pf)) w):=by
 by_cases hat:atE S V cs bs x [frm,to]=0
 ·exact zMz a cap S b bcap V ca ccap cs ba bcp bs x frm to la lcap l pa pcap pf w hl hs hcS hlw hsw hsh hss hwo hsv hcp hkn hc hcs hcap hbd hbs hll hls hpf hpb hat
 ·exact zMy a cap S b bcap V ca ccap cs ba bcp bs x frm to la lcap l pa pcap pf w hl hs hcS hlw hsw hsh hss hwo hsv hcp hkn hc hcs hcap hbd hbs hll hls hpf hpb hat
end Go.Proofs.YteepmmghanbllaaGreatDoor
namespace Go.K
open Go Go.RowKit
theorem zI1 {R:Res} {w:World}:∀ (H:List Res) (i:Nat) (B C E:Nat→Prop),(∀ k,C k→B k)→(∀ k,E k→B k∧¬ C k)→All H C w→R.A E w→All (H.set i R) B w
 | [],_,_,_,_,_,_,_,_=>trivial
 | _ :: r,0,B,C,E,h1,h2,⟨D,F,k1,k2,_,hr⟩,hR=>by
  show All (R :: r) B w
  exact⟨E,F,λ k hk=>(h2 k hk).1,λ k hk=>⟨h1 k (k2 k hk).1,λ he=>(h2 k he).2 (k2 k hk).1⟩,hR,hr⟩
 | R0 :: r,i+1,B,C,E,h1,h2,⟨D,F,k1,k2,hA,hr⟩,hR=>by
  show All (R0 :: r.set i R) B w
  refine⟨D,λ k=>F k∨E k,λ k hk=>h1 k (k1 k hk),λ k hk=>?_,hA,zI1 r i (λ k=>F k∨E k) F E (λ k hk=>.inl hk) (λ k hk=>⟨.inr hk,λ hf=>(h2 k hk).2 (k2 k hf).1⟩) hr hR⟩
  rcases hk with hk|hk
  ·exact⟨h1 k (k2 k hk).1,(k2 k hk).2⟩
  ·exact⟨(h2 k hk).1,λ hd=>(h2 k hk).2 (k1 k hd)⟩
section
variable {α:Type} {f:α→Res} {L:List α} {z:α} {B:Nat→Prop} {w:World}
theorem zIV (i:Nat) (h:(SepR [Rows f L,f z]).A B w):(Rows f (L.set i z)).A B w:=by
 obtain⟨C,E,h1,h2,hA,D,_,h3,_,hR,_⟩:=h
 show All ((L.set i z).map f) B w
 rw [List.map_set]
 exact zI1 _ i B C D h1 (λ k hk=>h2 k (h3 k hk)) hA hR
theorem zJf {L:List α} (h:∀ z∈L,(f z).A (λ _=>False) w):(Rows f L).A (λ _=>False) w:=by
 show All (L.map f) _ w
 induction L with
 | nil=>trivial
 | cons x L ih=>exact⟨λ _=>False,λ _=>False,λ _ h=>h,λ _ h=>h.elim,h x (mS ..),ih λ z hz=>h z (mM _ hz)⟩
end
section
variable {c:Cx} {ds:List Deferred} {T:List (Nat×Value)} {H:List Res} {K:Act→World→Prop}
theorem zIL {α:Type} (f:α→Res) (L:List α) (hn:∀ w,∀ z∈L,(f z).A (λ _=>False) w) (h:GK c ds K T (Rows f L :: H)):GK c ds K T H:=λ a w ha hw=>
 h a w ha ⟨hw.base,λ _=>False,λ _ hk=>hk.elim,zJf (hn w),Holds.anti H (λ _ hk=>hk.elim id False.elim) hw.holds⟩
end
end Go.K
namespace Go.Proofs.YteepmmghanbllaaGreatDoor
open Go.K Go.Stn Go.Pln Go.Fld Go.RowKit
theorem zLd:TF Tryz.prog 163 true 3 (.agg #[O 0,A none 0 0,.bool false]):=tK
theorem zLg:TF Tryz.prog 164 false 1 (A none 0 0):=tK
theorem zLj:FO Tryz.prog 163 2 2:=fK
theorem zLk:SE Tryz.prog 164 163 3:=⟨Tryz.underlying164,by kernel_rfl⟩
theorem zMp:AF Tryz.prog 164 163 3 40 [O 0,A none 0 0,.bool false]:=⟨Tryz.underlying164,by kernel_rfl,rfl⟩
theorem en93:En Tryz.prog 93:=eK Tryz.func93
theorem en94:En Tryz.prog 94:=eK Tryz.func94
theorem zLh (x0:Int) (x1a:yO) (x1n x1c:Nat) (x2:Bool) (w:World):(Instr.build 163 #[(0,O x0),(1,A x1a x1n x1c),(2,.bool x2)]).run Tryz.prog w=.ok (.agg #[O x0,A x1a x1n x1c,.bool x2]) w:=by kernel_rfl
theorem zLZ  (w:World):(Instr.buildSlice 149 0 #[]).run Tryz.prog w=.ok (A (some ⟨w.heap.size,0,none⟩) 0 0) (w.alloc (.cells (([]:List (Crg)).flatMap zzK).toArray 144)):=by kernel_rfl
theorem zLH (a:yO) (cap:Nat) (l:List Crg) (w:World) (hl:Has w (zaW a 5 zzK l)) (hs:l.length≤300000) :
  Calls Tryz.prog 94 #[A a l.length cap] w (zcU (λ z:Option Addr×Nat=>A z.1 l.length z.2) (λ z=>Row z.1 5 z.2 144 zzK l) w):=by
 refine zan (vs:=[_]) Tryz.func94 I I (bL I) (gS (gA I (gN [0,2] I (zac (gS (gM I (gQ (zuU (Tryz.underlying149) I I) (gN [0,2,4] I (zap I (λ hc4=>?_) (λ hc4=>?_))))))))))
 ·have hL:l=[]:=zrM hl hc4
  subst hL
  refine zbB 144 zzK 5 (gS (gA I (gN [0,2] I (zaw (zbd (none,0) 0 (zaC I (zau I)) ?_ I)))))
  rfl
 ·refine zaq (gS (zaG I I (zaD I (zLZ) zy5 I) λ b5=>(gM I (zb4 (m:=l) 0 zGT zy5 I I I I (λ _=>rH hl) (by simp only [lN];(try unfold maxLen);omega) (by simp only [lN];(try unfold maxLen);omega) λ a7 c7=>(gA I (gN [2] I (zaw (zbd (a7,c7) 0 (zaC I (zau I)) ?_ I))))))))
  rfl
theorem zLI (a:yO) (cap:Nat) (l:List Crg) (w:World) (B:Nat→Prop) (hl:Has w (zaW a 5 zzK l)) (hs:l.length≤300000) :
  Calls Tryz.prog 94 #[A a l.length cap] w (zho (λ z:Option Addr×Nat=>A z.1 l.length z.2) (λ z=>Row z.1 5 z.2 144 zzK l) (λ _=>True) B w):=
 (zLH a cap l w hl hs).mono λ _e _w' ⟨x,he,hx,B',hn,hA⟩=>⟨x,B',he,trivial,hx.mod B,λ k hk=>.inr (hn k hk),hA⟩
abbrev rowP (z:TrkR):Res:=Row z.2.1 5 z.2.2 144 zzK z.1.l
theorem zLP (ca:yO) (ccap:Nat) (cs:List ByteArray) (ba:yO) (bcp:Nat) (bs:List Bdr) (lb:Nat) (wa fa:yO) (wc fc:Nat) (W:List (Crg×Crg)) (F:List (Nat×List (Bool×Bool))) (frm:Int) (w:World) (hlb:Has w (Box lb [.slice ca cs.length ccap,.slice ba bs.length bcp,.slice wa W.length wc,.slice fa (F.map (·.1)).length fc] 128)) (hWl:Has w (zaW wa 10 zyw W)) (hW:zaP W.length) (hp:zyI W bs) (hbs80:bs.length≤80) (heff:zJJ W) (hcell:zIB W cs.length) (hn40:cs.length≤40) (h0:0≤frm) (h1:frm<cs.length) :
  Calls Tryz.prog 65 #[Z lb,O frm] w (zcU (λ z:Option Addr×Nat×List TrkR=>.slice z.1 z.2.2.length z.2.1) (λ z=>zDo (Best W allM cs.length frm (trkL z.2.2)) (SepR [Row z.1 3 z.2.1 163 zLb z.2.2,Go.K.Rows rowP z.2.2])) w):=by
 have hrl:(List.replicate cs.length (default:TrkR)).length=cs.length:=List.length_replicate ..
 refine zan (vs:=[_,_]) Tryz.func65 I I (bL I) (gS (gA I (gN [0,1,4] I (gS (gM I (gQ (zbx I) (gQ (zab zL3 I) (gQ (zab zBJ I) (gQ (zbW tf26 I (λ _ hw=>zaQ (rH hlb hw) I)) (gQ (zaV (Tryz.underlying26) I) (zaG I I (zB1 (n:=cs.length) (default:TrkR) zMp I I zLa I (by omega) (by omega)) λ b18=>(zaG I I (zaL zLg (zs:=[_]) I) λ b5=>(zaA 0 zLg I I (vs:=[_]) I I I I I (gN [0,1,4,5] I (gS (gQ (zah 0 zLg I I I) (gM I (gQ (zaE zLk I I (λ _ hw=>(zam zLa (hw.has (p:=1) I)))) (gQ (zbh zLj I (λ w hw=>zaO (i:=frm) (zam zLa (hw.has (p:=1) I)))) (zfG (x':=({ ((List.replicate cs.length (default:TrkR)).getD frm.toNat default).1 with there:=true },((List.replicate cs.length (default:TrkR)).getD frm.toNat default).2)) 1 zLa tf4 I I (vs:=[_]) I I (by decide) I I (by omega) (by omega) (gN [0,4,5] I (za2 (R':=Row (some ⟨b18,0,none⟩) 3 cs.length 163 zLb (trk0 cs.length frm)) 1 I (λ B w hA=>by rw [zJB] at hA;exact hA) ?_))))))))))))))))))))))
 refine za2 (R':=Box b5 [.slice (some ⟨b18,0,none⟩) cs.length cs.length] 164) 0 I (λ B w hA=>by rw [List.length_replicate] at hA;exact hA) (zIL rowP (trk0 cs.length frm) (λ w z hz=>by obtain⟨e1,e2⟩:=zJA hz;show(Row z.2.1 5 z.2.2 144 zzK z.1.l).A _ _;rw [e2,e1];exact zAR) (gS (zaG I I (zaL zDj (zs:=[_,_,_,_,_,_,_,_,_,_,_,_,_,_,_,_,_,_,_,_,_,_,_,_,_,_,_,_,_,_,_,_,_,_,_,_,_,_,_,_]) I) λ b6=>(gN [0,4,5,6] I (za2 (R':=Box b6 (bls (List.replicate 40 false)) 110) 0 I (λ B w hA=>hA) (zas (zKT (zK1 (X:=List TrkR×List Bool×List Nat) (λ⟨L,D,Ms⟩=>[(0,Z lb),(4,.slice none 0 0),(5,Z b5),(6,Z b6)]) (λ⟨L,D,Ms⟩=>[Dfrs Ms,Box b6 (bls D) 110,Go.K.Rows rowP L,Box b5 [.slice (some ⟨b18,0,none⟩) cs.length cs.length] 164,Row (some ⟨b18,0,none⟩) 3 cs.length 163 zLb L]) (λ⟨L,D,Ms⟩=>Ms) (λ⟨L,D,Ms⟩=>(Dij W cs.length frm (trkL L) D∧L.length=cs.length)) (λ⟨L,D,Ms⟩=>unseen D) ((trk0 cs.length frm),(List.replicate 40 false),[]) I ⟨I,I,I,I,trivial⟩ rfl ?_ ?_))))))))
 ·exact⟨zLQ h0 h1,zIW⟩
 ·rintro ⟨L,D,Ms⟩ hI
  obtain⟨hdij,hln⟩:=hI
  have hsl:D.length=40:=hdij.dl
  have hli:=zLm hp hbs80 hdij.imp hn40
  refine zas (gS (zaG I I (zaL tf3 (zs:=[_]) I) λ b7=>(zaA 0 tf3 I I (vs:=[_]) I I I I I (gN [0,4,5,6,7] I (zac (gS (gQ (zah 4 zLg I I I) (gQ (zaV (Tryz.underlying164) I) (gM I (gN [0,4,5,6,7,23,24,25] I (zas (zbf (X:=Int×Int) (λ⟨i,nx⟩=>[(0,Z lb),(4,.slice none 0 0),(5,Z b5),(6,Z b6),(7,Z b7),(23,.slice (some ⟨b18,0,none⟩) cs.length cs.length),(24,O (cs.length:Int)),(25,O i)]) (λ⟨i,nx⟩=>[Box b7 [O nx] 3,Dfrs Ms,Box b6 (bls D) 110,Go.K.Rows rowP L,Box b5 [.slice (some ⟨b18,0,none⟩) cs.length cs.length] 164,Row (some ⟨b18,0,none⟩) 3 cs.length 163 zLb L]) (λ⟨i,nx⟩=>(0≤i∧i≤cs.length∧Sel (trkL L) D i.toNat nx)) (λ⟨i,nx⟩=>(cs.length - i).toNat) (0,-1) (sB I) I ?_ ?_))))))))))))
  ·exact⟨by omega,by omega,zMr⟩
  ·rintro ⟨i,nx⟩ hI
   obtain⟨i0,i1,hsel⟩:=hI
   have hsx:=zLU hsel
   refine gS (gQ (zbw I I) (gN [0,4,5,6,7,23,24,25,26] I (zac (zap I (λ hc26=>?_) (λ hc26=>?_)))))
   ·have hc26:=oT hc26
    refine zaq (zac (zas (gS (gM I (gQ (zn6 zLk I I (λ _ hw=>(zam zLa (hw.has (p:=5) I))) hln (by omega) (by omega)) (gQ (zbv (vs:=[_,_,_]) zLd I (λ _ hw=>(zam zLa (hw.has (p:=5) I))) (by omega) (by omega) I) (zaG I I (zaL zLd (zs:=[_,_,_]) I) λ b9=>(gA I (zaA 0 zLd I I (vs:=[_,_,_]) I I I I I (gN [0,4,5,6,7,8,9,23,24,25] I (zac (gZ 21 (ph_y (zab zLj I) (ph_y (zah 0 tf4 I I I) (ph_y (zaf I) (zaH I I (λ hgd=>by(try rw [hgd]);have hgd2:=hgd;(try simp only [aT,nT,dF] at hgd2);exact(zaf I)) (zaH I I (λ hgd=>by(try rw [hgd]);have hgd2:=hgd;(try simp only [aT,nT,dF] at hgd2);exact(zyK zAW I I (by omega) (by omega))) (zaH I I (λ hgd=>by(try rw [hgd]);have hgd2:=hgd;(try simp only [aT,nT,dF] at hgd2);exact(zzm (l:=D) (i:=i) tf4 I (λ _ hw=>hw.has (p:=3) I) (by first|omega|(rw [hsl];omega)))) (zaH I I (λ hgd=>by(try rw [hgd]);have hgd2:=hgd;(try simp only [aT,nT,dF] at hgd2);exact(zbR I)) (ph_y (zaX I I I) (ph_y (zaf I) ?_)))))))))))))))))))))
    refine zaH I I (λ hgd=>by(try rw [hgd]);have hgd2:=hgd;(try simp only [aT,nT] at hgd2);exact(zah 1 tf3 I I I)) (zaH I I (λ hgd=>by(try rw [hgd]);have hgd2:=hgd;(try simp only [aT,nT] at hgd2);exact(zbw I I)) (zaH I I (λ hgd=>by(try rw [hgd]);have hgd2:=hgd;(try simp only [aT,nT] at hgd2);exact(zaf I)) (zc0 I I (λ hgd=>by(try rw [hgd]);have hgd2:=hgd;(try simp only [aT,nT,dF] at hgd2);exact(zat 0 zLd I I (vs:=[_,_,_]) I I)) (zc0 I I (λ hgd=>by(try rw [hgd]);have hgd2:=hgd;(try simp only [aT,nT,dF] at hgd2);exact(zah 5 zLg I I I)) (zc0 I I (λ hgd=>by(try rw [hgd]);have hgd2:=hgd;(try simp only [aT,nT,dF] at hgd2);exact(zah 1 tf3 I I I)) (zc0 I I (λ hgd=>by(try rw [hgd]);have hgd2:=hgd;(try simp only [aT,nT,dF] at hgd2);exact(zn6 zLk I I (λ _ hw=>(zam zLa (hw.has (p:=6) I))) hln (by omega) (by omega))) ?_))))))
    refine zc0 I I (λ hgd=>by(try rw [hgd]);have hgd2:=hgd;(try simp only [aT,nT,dF] at hgd2);exact(zbv (vs:=[_,_,_]) zLd I (λ _ hw=>(zam zLa (hw.has (p:=6) I))) (by omega) (by omega) I)) (zc0 I I (λ hgd=>by(try rw [hgd]);have hgd2:=hgd;(try simp only [aT,nT,dF] at hgd2);exact(zaJ (v:=O (befT ((L.getD i.toNat default).1) ((L.getD nx.toNat default).1))) en93 I (λ w hw=>zLo ((L.getD i.toNat default).1) ((L.getD nx.toNat default).1) _ _ _ _ w (zam zy5 (zbV (f:=rowP) (hw.has (p:=4) I) (za0 (by omega)))) (Nat.le_trans (hli _ (by omega)).1 (by decide)) (zam zy5 (zbV (f:=rowP) (hw.has (p:=4) I) (za0 (by omega)))) (Nat.le_trans (hli _ (by omega)).1 (by decide))))) (zc0 I I (λ hgd=>by(try rw [hgd]);have hgd2:=hgd;(try simp only [aT,nT,dF] at hgd2);exact(zbw I I)) (zaH I I (λ hgd=>by(try rw [hgd]);have hgd2:=hgd;(try simp only [aT,nT] at hgd2);exact(zaR I I I)) (ph_y (zaX I I I) (gN [0,4,5,6,7,8,23,24,25,50] I (zap I (λ hc50=>?_) (λ hc50=>?_)))))))
    ·have hsel2:=zMt i0 hsel hc50
     refine zaa (gM I (zaA 1 tf3 I I (vs:=[_]) I I I I I (gN [0,4,5,6,7,23,24,25] I (zaa (gQ (zaY I I) (gM I (gN [0,4,5,6,7,23,24,25] I (zaK 0 I ?_))))))))
     exact za1 (i+1,_) (sB I) I ⟨by omega,by omega,hsel2⟩ (by simp only [];omega)
    ·have hsel2:=zMs i0 hsel hc50
     refine zaq (zaa (gQ (zaY I I) (gM I (gN [0,4,5,6,7,23,24,25] I (zaK 0 I ?_)))))
     exact za1 (i+1,_) (sB I) I ⟨by omega,by omega,hsel2⟩ (by simp only [];omega)
   ·have hc26:=oD hc26
    have hse:Sel (trkL L) D cs.length nx:=by rwa [show i.toNat=cs.length from by omega] at hsel
    refine za8 I (zac (gS (gQ (zah 0 tf3 I I I) (gQ (zbw I I) (gN [0,4,5,6,7,54] I (zap I (λ hc54=>?_) (λ hc54=>?_)))))))
    ·have hc54:=oT hc54
     have hnx:=(zLU hse).1
     have hbest:=zL2 hdij hcell (by rwa [show nx = -1 from by omega] at hse)
     refine gS (gQ (zah 4 zLg I I I) (gA I (gN [0,4,5,6,7] I (zaw (zKJ 1 I (zao 2 I (zao 4 I (zbT 2 (zBO (P:=Best W allM cs.length frm (trkL L)) hbest ?_)))))))))
     exact zbd ((some ⟨b18,0,none⟩),cs.length,L) 0 (zaC I (zau I)) (by rw [hln]) I
    ·have hc54:=oD hc54
     have n0:0≤nx:=by omega
     obtain⟨n1,n2,n3⟩:=zLN hse n0
     have hong:=zLC hcell hdij hn40 hse n0
     have hmu:=zy4 (s:=D) (i:=nx.toNat) (by omega) n3
     refine zaq (gS (gQ (zah 0 tf3 I I I) (gQ (zyK zAW I I (by omega) (by omega)) (zA9 (l:=D) (i:=nx) (v:=true) 2 tf4 I I I (by first|omega|(rw [hsl];omega)) (gN [0,4,5,6,7] I (gS (gM I (gQ (zah 0 tf3 I I I) (zaG I I (zbm en60 I (λ w hw=>zHf lb nx w)) λ p60=>zbP (gN [0,4,5,6,7,60] I (zas (gK [0,4,5,6,7,60] I (zk1 (X:=List TrkR) (λ L2=>[Box p60.1 [Z lb] 106,Box p60.2 [O nx] 3,Box b7 [O nx] 3,Dfrs Ms,Box b6 (bls (D.set nx.toNat true)) 110,Go.K.Rows rowP L2,Box b5 [.slice (some ⟨b18,0,none⟩) cs.length cs.length] 164,Row (some ⟨b18,0,none⟩) 3 cs.length 163 zLb L2]) (λ n L2=>(L2.length=cs.length∧Ong W cs.length frm (trkL L2) (D.set nx.toNat true) nx n)) (λ L2=>False) [] L I en90 I I ⟨hln,hong⟩ (zGj p60.1 p60.2 nx lb wa fa wc fc W F ca ccap cs ba bcp bs hW) (λ L2 w hw=>⟨hw.has (p:=0) I,hw.has (p:=1) I,rH hlb hw,rH hWl hw⟩) (by intro a ha;obtain⟨c,_,rfl⟩:=List.mem_map.1 ha;rfl) I ?_ ?_ ?_ ?_)))))))))))))
     ·rintro R1 R2 rl U' w' n L2 args hget hR hrd hins hbeg
      obtain⟨hnl,rfl⟩:=zE4 hget
      obtain⟨hln2,hong2⟩:=hR
      obtain⟨⟨t0,t1⟩,e0,e1⟩:=zMm heff hcell hnl
      have hli:=zLm hp hbs80 hong2.imp hn40
      have hlx:=hli nx.toNat (by omega)
      have hxn:(extT (L2.getD nx.toNat default).1 ((outL W nx).getD n default)).l.length≤300000:=by show((L2.getD nx.toNat default).1.l++[((outL W nx).getD n default)]).length≤_;rw [lA];simp only [lC,lN];omega
      have hsl:(D.set nx.toNat true).length=40:=hong2.dl
      refine gK [5,6,7,61] I (zaa (zaG I I (zaL zyD (zs:=[_,_,_,_,_]) I) λ b10=>(zaA 0 zyD I I (vs:=[_,_,_,_,_]) I I I I I (gN [5,6,7,10] I (zbB 144 zzK 5 (zao 2 I (hbeg _ _ _ (zas (zac (zao 1 I (zCs [_] (ch [(15,Nat),(18,Nat),(13,(Option Addr×Nat)),(16,(Option Addr×Nat))]) 1000 20 [0,0,3,7,15,0,32,127,0,0,768,1792,3840,7936,0,16384,65280,131071,0,524287] [] I (λ _=>mixed) (by kernel_rfl) (zjK _ ⟨inferInstance,inferInstance,inferInstance,inferInstance,trivial⟩) (pY (λ ρ=>zah (b:=b5) (cs:=[.slice (some ⟨b18,0,none⟩) cs.length cs.length]) (e:=164) 8 zLg I (by kernel_rfl) I) (pY (λ ρ=>zah (b:=b7) (cs:=[O nx]) (e:=3) 4 tf3 I (by kernel_rfl) I) (pY (λ ρ=>zn6 zLk I I (λ _ hw=>(zam zLa (hw.has (p:=9) (R:=Row (some ⟨b18,0,none⟩) 3 cs.length 163 zLb L2) (by simp only [zeS,tIs,okSt,rcf,zbe];rfl)))) hln2 (by omega) (by omega)) (pY (λ ρ=>zbh zLi I (λ w hw=>zaO (i:=nx) (zam zLa (hw.has (p:=9) (R:=Row (some ⟨b18,0,none⟩) 3 cs.length 163 zLb L2) (by simp only [zeS,tIs,okSt,rcf,zbe];rfl))))) ?_)))))))))))))))
      refine pY (λ ρ=>zbn tf3 I (λ _ hw=>(zam zLa (hw.has (p:=9) (R:=Row (some ⟨b18,0,none⟩) 3 cs.length 163 zLb L2) (by simp only [zeS,tIs,okSt,rcf,zbe];rfl)))) (by omega) (by omega) I) (pY (λ ρ=>zab zDS I) (pY (λ ρ=>zah (b:=b10) (cs:=[O ((outL W nx).getD n default).frm,O ((outL W nx).getD n default).to,O ((outL W nx).getD n default).brd,O ((outL W nx).getD n default).way,O ((outL W nx).getD n default).eff]) (e:=144) 1 tf3 I (by kernel_rfl) I) (pY (λ ρ=>zaY I I) (pY (λ ρ=>zah (b:=b5) (cs:=[.slice (some ⟨b18,0,none⟩) cs.length cs.length]) (e:=164) 8 zLg I (by kernel_rfl) I) (pY (λ ρ=>zah (b:=b7) (cs:=[O nx]) (e:=3) 4 tf3 I (by kernel_rfl) I) (pY (λ ρ=>zn6 zLk I I (λ _ hw=>(zam zLa (hw.has (p:=9) (R:=Row (some ⟨b18,0,none⟩) 3 cs.length 163 zLb L2) (by simp only [zeS,tIs,okSt,rcf,zbe];rfl)))) hln2 (by omega) (by omega)) (pY (λ ρ=>zbh zLe I (λ w hw=>zaO (i:=nx) (zam zLa (hw.has (p:=9) (R:=Row (some ⟨b18,0,none⟩) 3 cs.length 163 zLb L2) (by simp only [zeS,tIs,okSt,rcf,zbe];rfl))))) ?_)))))))
      refine pY (λ ρ=>zbn zLt I (λ _ hw=>(zam zLa (hw.has (p:=9) (R:=Row (some ⟨b18,0,none⟩) 3 cs.length 163 zLb L2) (by simp only [zeS,tIs,okSt,rcf,zbe];rfl)))) (by omega) (by omega) I) (zFx (R:=λ ρ=>Row none 5 0 144 zzK []) (λ u75=>.slice u75.1 (L2.getD nx.toNat default).1.l.length u75.2) (λ u75=>Row u75.1 5 u75.2 144 zzK (L2.getD nx.toNat default).1.l) 1000 I (by kernel_rfl) (by kernel_rfl) (λ _=>by kernel_rfl) (λ ρ=>zMa en94 I (λ w B hw hB hA=>zLI _ _ ((L2.getD nx.toNat default).1.l) w B (zam zy5 (zbV (f:=rowP) (hw.has (p:=7) I) (za0 (by omega)))) (Nat.le_trans (hli _ (by omega)).1 (by decide)))) (pY (λ ρ=>zat (b:=b10) (cs:=[O ((outL W nx).getD n default).frm,O ((outL W nx).getD n default).to,O ((outL W nx).getD n default).brd,O ((outL W nx).getD n default).way,O ((outL W nx).getD n default).eff]) (e:=144) 1 zyD I (by kernel_rfl) (vs:=[_,_,_,_,_]) I I) (zFy (λ ρ=>zaD I (zDz _ _ _ _ _) zy5 I) (λ ρ ρ' h=>⟨by rfl,by rfl⟩) ?_)))
      refine zFx (R:=λ ρ=>Row (ρ 13).1 5 (ρ 13).2 144 zzK (L2.getD nx.toNat default).1.l) (λ z:(Option Addr×Nat)=>.slice z.1 ((L2.getD nx.toNat default).1.l++[((outL W nx).getD n default)]).length z.2) (λ z=>Row z.1 5 z.2 144 zzK ((L2.getD nx.toNat default).1.l++[((outL W nx).getD n default)])) 1000 I (by kernel_rfl) (by kernel_rfl) (λ _=>by kernel_rfl) (λ ρ=>zBZ (m:=[((outL W nx).getD n default)]) zGT zy5 I I (λ _ hw=>(zam zy5 (hw.has (p:=0) (R:=Row (some ⟨(ρ 15),0,none⟩) 5 1 144 zzK [((outL W nx).getD n default)]) (by simp only [zeS,tIs,okSt,rcf,zbe];rfl)))) (by simp only [lC,lN];(try unfold maxLen);have:=(hli nx.toNat (by omega)).1;omega) (by simp only [lC,lN];(try unfold maxLen);have:=(hli nx.toNat (by omega)).1;omega)) (zAr (λ ρ=>zaI I (zLh _ _ _ _ _)) (λ ρ ρ' h=>by(first|rfl|(simp only [h 16 I];done)|(simp only [h 16 I];rfl))) (zFy (λ ρ=>zaL zLd (zs:=[_,_,_]) I) (λ ρ ρ' h=>⟨by rfl,by rfl⟩) ?_))
      refine zIb (R:=λ ρ=>Box (ρ 18) [O 0,.slice none 0 0,.bool false] 163) (A:=λ ρ=>Box (ρ 18) [O (((L2.getD nx.toNat default).1.eff)+((outL W nx).getD n default).eff),.slice (ρ 16).1 ((L2.getD nx.toNat default).1.l++[((outL W nx).getD n default)]).length (ρ 16).2,.bool true] 163) 18 I I (λ _=>rfl) (λ ρ=>zex zLd I I (vs:=[_,_,_]) I I I I I) (λ ρ ρ' h=>by(first|rfl|(simp only [h 16 I,h 18 I];done)|(simp only [h 16 I,h 18 I];rfl))) ?_
      refine λ ρ=>zag (zf4 (X:=Nat×Nat×(Option Addr×Nat)×(Option Addr×Nat)) (ρ 15,ρ 18,ρ 13,ρ 16) (λ⟨b77,b11,u75,m78⟩=>[(5,Z b5),(6,Z b6),(10,Z b10),(11,Z b11)]) (λ⟨b77,b11,u75,m78⟩=>[Box b11 [O (((L2.getD nx.toNat default).1.eff)+((outL W nx).getD n default).eff),.slice m78.1 ((L2.getD nx.toNat default).1.l++[((outL W nx).getD n default)]).length m78.2,.bool true] 163,Row (some ⟨b77,0,none⟩) 5 1 144 zzK [((outL W nx).getD n default)],Row m78.1 5 m78.2 144 zzK ((L2.getD nx.toNat default).1.l++[((outL W nx).getD n default)]),R2,Box b10 [O ((outL W nx).getD n default).frm,O ((outL W nx).getD n default).to,O ((outL W nx).getD n default).brd,O ((outL W nx).getD n default).way,O ((outL W nx).getD n default).eff] 144,Box p60.1 [Z lb] 106,Box p60.2 [O nx] 3,Box b7 [O nx] 3,Dfrs Ms,Box b6 (bls (D.set nx.toNat true)) 110,Go.K.Rows rowP L2,Box b5 [.slice (some ⟨b18,0,none⟩) cs.length cs.length] 164,Row (some ⟨b18,0,none⟩) 3 cs.length 163 zLb L2]) ⟨I,I,I,I,trivial⟩ rfl ?_)
      rintro ⟨b77,b11,u75,m78⟩
      refine za2 (R':=Box b11 [O ((extT (L2.getD nx.toNat default).1 ((outL W nx).getD n default)).eff),.slice m78.1 (extT (L2.getD nx.toNat default).1 ((outL W nx).getD n default)).l.length m78.2,.bool (extT (L2.getD nx.toNat default).1 ((outL W nx).getD n default)).there] 163) 0 I (λ B w hA=>by skip;exact hA) (za2 (R':=Row m78.1 5 m78.2 144 zzK (extT (L2.getD nx.toNat default).1 ((outL W nx).getD n default)).l) 2 I (λ B w hA=>by skip;exact hA) (zac (gZ 24 (ph_y (zab zzb I) (ph_y (zah 4 tf3 I I I) (ph_y (zyK zAW I I (by omega) (by omega)) (ph_y (zzm (l:=(D.set nx.toNat true)) (i:=((outL W nx).getD n default).to) tf4 I (λ _ hw=>hw.has (p:=9) I) (by first|omega|(rw [hsl];omega))) (ph_y (zbR I) (ph_y (zaf I) (zaH I I (λ jj=>by(try rw [jj]);exact zah 11 zLg I I I) (zaH I I (λ jj=>by(try rw [jj]);exact zab zzb I) (zaH I I (λ jj=>by(try rw [jj]);exact zah 4 tf3 I I I) (zaH I I (λ jj=>by(try rw [jj]);exact zn6 zLk I I (λ _ hw=>(zam zLa (hw.has (p:=12) I))) hln2 (by omega) (by omega)) (zaH I I (λ jj=>by(try rw [jj]);exact zbh zLj I (λ w hw=>zaO (i:=((outL W nx).getD n default).to) (zam zLa (hw.has (p:=12) I)))) ?_))))))))))))))
      refine zaH I I (λ jj=>by(try rw [jj]);exact zbn tf4 I (λ _ hw=>(zam zLa (hw.has (p:=12) I))) (by omega) (by omega) I) (zaH I I (λ jj=>by(try rw [jj]);exact zbR I) (zaH I I (λ jj=>by(try rw [jj]);exact zaf I) (zc0 I I (λ jj=>by(try rw [jj]);exact zat 0 zLd I I (vs:=[_,_,_]) I I) (zc0 I I (λ jj=>by(try rw [jj]);exact zah 11 zLg I I I) (zc0 I I (λ jj=>by(try rw [jj]);exact zab zzb I) (zc0 I I (λ jj=>by(try rw [jj]);exact zah 4 tf3 I I I) (zc0 I I (λ jj=>by(try rw [jj]);exact zn6 zLk I I (λ _ hw=>(zam zLa (hw.has (p:=12) I))) hln2 (by omega) (by omega)) (zc0 I I (λ jj=>by(try rw [jj]);exact zbv (vs:=[_,_,_]) zLd I (λ _ hw=>(zam zLa (hw.has (p:=12) I))) (by omega) (by omega) I) ?_))))))))
      refine zc0 I I (λ jj=>by(try rw [jj]);exact zaJ (v:=O (befT (extT (L2.getD nx.toNat default).1 ((outL W nx).getD n default)) ((L2.getD (((outL W nx).getD n default).to).toNat default).1))) en93 I (λ w hw=>zLo (extT (L2.getD nx.toNat default).1 ((outL W nx).getD n default)) ((L2.getD (((outL W nx).getD n default).to).toNat default).1) _ _ _ _ w (zam zy5 (hw.has (p:=2) I)) hxn (zam zy5 (zbV (f:=rowP) (hw.has (p:=10) I) (za0 (by omega)))) (Nat.le_trans (hli _ (by omega)).1 (by decide)))) (zc0 I I (λ jj=>by(try rw [jj]);exact zbw I I) (zaH I I (λ jj=>by(try rw [jj]);exact zaR I I I) (ph_y (zaX I I I) (gN [5,10,11,103] I (zap I (λ hc103=>?_) (λ hc103=>?_))))))
      ·refine zaa (gQ (zah 11 zLg I I I) (gQ (zab zzb I) (gQ (zah 4 tf3 I I I) (gQ (zat 0 zLd I I (vs:=[_,_,_]) I I) (gQ (zn6 zLk I I (λ _ hw=>(zam zLa (hw.has (p:=12) I))) hln2 (by omega) (by omega)) (zpR (x':=(((extT (L2.getD nx.toNat default).1 ((outL W nx).getD n default)),m78.1,m78.2):TrkR)) 12 zLa zLd I I (vs:=[_,_,_]) I I I (by omega) (by omega) (zag (zae (T':=[]) trivial (zao 2 I (zao 10 I (zbT 2 (za2 (R':=Go.K.Rows rowP (L2.set (((outL W nx).getD n default).to).toNat (((extT (L2.getD nx.toNat default).1 ((outL W nx).getD n default)),m78.1,m78.2):TrkR))) 0 I (λ B w hA=>zIV _ hA) ?_))))))))))))
       have hong4:=zMb hp hbs80 heff hcell hn40 h0 hong2 hnl (m78.1,m78.2) hc103
       have hln4:(L2.set (((outL W nx).getD n default).to).toNat (((extT (L2.getD nx.toNat default).1 ((outL W nx).getD n default)),m78.1,m78.2):TrkR)).length=cs.length:=by rw [List.length_set];exact hln2
       refine zaK 1 I (zaK 1 I (zaK 2 I (zao 8 I (zao 8 I (zao 2 I (zao 8 I (zao 8 I (zao 8 I (zao 8 I (zao 8 I (zao 8 I ?_)))))))))))
       exact zb9 _ trivial I ⟨hln4,hong4⟩
      ·have hong4:=zMo heff hcell hong2 hnl hc103
       have hln4:=hln2
       refine zaq (zaK 0 I (zaK 0 I (zaK 0 I (zaK 1 I ?_))))
       exact zb9 _ trivial I ⟨hln4,hong4⟩
     ·intro Dm L2 hR
      obtain⟨hln2,hong2⟩:=hR
      have hdij2:=zL5 hcell hong2 (by rw [lM];exact Nat.le_refl _)
      refine zao 4 I (zao 1 I (zbT 2 (zaK 1 I (zaK 1 I (zaK 1 I ?_)))))
      exact zK2 (L2,(D.set nx.toNat true),(Dm :: Ms)) I ⟨I,I,I,I,trivial⟩ rfl ⟨hdij2,hln2⟩ (by simp only [];omega)
     ·exact λ _ _ h=>h.elim
     ·exact λ _ _ _ _ h=>absurd h (by simp)
end Go.Proofs.YteepmmghanbllaaGreatDoor
namespace Go.Fld
open Go Go.K Go.Stn Go.Pln
section
variable {S:List ShC} {V:List WlC} {cs:List ByteArray} {bs:List Bdr} {x y:Anm} {frm:Int}
def farN (T:List Trk):Nat→Int
 | 0=>0
 | n+1=>max (farN T n) (T.getD n default).eff
def prfN (T:List Trk) (far:Int) (n:Nat):List Int:=(List.range n).map λ i=>if (T.getD i default).there=true then(T.getD i default).eff else far+1
def prfL (T:List Trk):List Int:=prfN T (farN T T.length) T.length
theorem zMT {T:List Trk} {far:Int} {n:Nat}:prfN T far (n+1)=prfN T far n++[if (T.getD n default).there=true then(T.getD n default).eff else far+1]:=by unfold prfN;rw [List.range_succ,List.map_append];rfl
theorem zMB {T:List Trk} {far:Int} {n:Nat}:(prfN T far n).length=n:=by unfold prfN;rw [lM,List.length_range]
theorem zNa {T:List Trk}:∀ {n:Nat},0≤farN T n
 | 0=>Int.le_refl _
 | n+1=>by rw [farN];have:=zNa (T:=T) (n:=n);omega
theorem zeQ {T:List Trk} {m:Int} (h0:0≤m):∀ {n:Nat},(∀ i:Nat,i<n→(T.getD i default).eff≤m)→farN T n≤m
 | 0,_=>h0
 | n+1,h=>by rw [farN];have:=zeQ h0 (n:=n) λ i hi=>h i (by omega);have:=h n (by omega);omega
end
section
variable {W:List (Crg×Crg)} {may:Crg→Bool} {n:Nat} {frm:Int} {bs:List Bdr}
theorem zLX (hp:zyI W bs) (hbs:bs.length≤80) (he:zJJ W) (hw:zIB W n) (hn:n≤40) (h0:0≤frm) (h1:frm<n):∃ T,Best W may n frm T∧Imp W may n frm T:=by
 have key:∀ (m:Nat) (T:List Trk),zIj T=m→Imp W may n frm T→∃ T,Best W may n frm T∧Imp W may n frm T:=by
  intro m
  induction m using Nat.strongRecOn with
  | _ m ih=>
   intro T hm h
   by_cases hf:∀ c,zIm W may c→(T.getD c.frm.toNat default).there=true→zIg (extT (T.getD c.frm.toNat default) c) (T.getD c.to.toNat default)=false
   ·exact⟨T,zJv h hf,h⟩
   ·obtain⟨c,hc⟩:=Classical.not_forall.1 hf
    obtain⟨hu,hc⟩:=Classical.not_imp.1 hc
    obtain⟨ht,hl⟩:=Classical.not_imp.1 hc
    obtain⟨a,b⟩:=zJw hp hbs he hw hn h0 h hu ht (by simpa using hl)
    exact ih _ (hm ▸ b) _ I a
 exact key _ _ I (zJc h0 h1)
end
section
variable (S:List ShC) (V:List WlC) (cs:List ByteArray) (bs:List Bdr) (x:Anm) (frm to:Int) (T:List Trk)
def bwT:Trk:=if atE S V cs bs x [frm,to]=0 then T.getD to.toNat default else default
def bwE:Int:=if atE S V cs bs x [frm,to]=0 then(if (T.getD to.toNat default).there=true then 0 else 8) else atE S V cs bs x [frm,to]
def prfA:List Int:=if bwE S V cs bs x frm to T=0 then prfL T else []
def BstA:Prop:=atE S V cs bs x [frm,to]=0→Best (zyj S V bs x) allM cs.length frm T∧Imp (zyj S V bs x) allM cs.length frm T
end
section
variable {S S2:List ShC} {V V2:List WlC} {cs:List ByteArray} {bs:List Bdr} {x:Anm} {frm to:Int} {T:List Trk}
theorem zLS (S:List ShC) (V:List WlC) (cs:List ByteArray) (bs:List Bdr) (x:Anm) (frm:Int):∃ T,∀ to,BstA S V cs bs x frm to T:=by
 by_cases h:zym S V cs bs x=true∧0≤frm∧frm<cs.length
 ·obtain⟨hok,h0,h1⟩:=h
  obtain⟨_,hcs,hbs,_⟩:=zzD hok
  obtain⟨T,hT⟩:=zLX (may:=allM) (zBa hok) hbs (zI5 hok) (zIr hok) hcs.2 h0 h1
  exact⟨T,λ _ _=>hT⟩
 ·refine⟨[],λ to ha=>absurd ?_ h⟩
  obtain⟨hok,hin,_⟩:=zDr ha
  exact⟨hok,zCw hin frm (by simp)⟩
theorem zMh (h:¬ atE S V cs bs x [frm,to]=0):bwT S V cs bs x frm to T=default∧bwE S V cs bs x frm to T=atE S V cs bs x [frm,to]∧prfA S V cs bs x frm to T=[]:=by
 refine⟨if_neg h,if_neg h,?_⟩
 unfold prfA bwE
 rw [if_neg h,if_neg h]
theorem zMi (h:atE S V cs bs x [frm,to]=0) (hb:Best (zyj S V bs x) allM cs.length frm T) (ht:(T.getD to.toNat default).there=false):bwT S V cs bs x frm to T=default∧bwE S V cs bs x frm to T=8∧prfA S V cs bs x frm to T=[]:=by
 obtain⟨hok,hin,_⟩:=zDr h
 have ht1:=zCw hin to (by simp)
 have e:bwE S V cs bs x frm to T=8:=by unfold bwE;rw [if_pos h,if_neg (by rw [ht];exact fT)]
 refine⟨?_,e,?_⟩
 ·unfold bwT;rw [if_pos h,hb.no _ (by omega) ht]
 ·unfold prfA;rw [e,if_neg (by decide)]
theorem zLw (h:atE S V cs bs x [frm,to]=0) (ht:(T.getD to.toNat default).there=true):bwT S V cs bs x frm to T=T.getD to.toNat default∧bwE S V cs bs x frm to T=0∧prfA S V cs bs x frm to T=prfL T:=by
 have e:bwE S V cs bs x frm to T=0:=by unfold bwE;rw [if_pos h,if_pos ht]
 exact⟨if_pos h,e,if_pos e⟩
end
section
variable {T:List Trk} {L:List TrkR} {i:Int}
theorem zMS (h:0≤i):farN (trkL L) (i+1).toNat=max (farN (trkL L) i.toNat) (L.getD i.toNat default).1.eff:=by
 rw [show(i+1).toNat=i.toNat+1 from by omega,farN,zIe]
theorem zMG {far:Int} (h:0≤i) (ht:(L.getD i.toNat default).1.there=true):prfN (trkL L) far (i+1).toNat=prfN (trkL L) far i.toNat++[(L.getD i.toNat default).1.eff]:=by
 rw [show(i+1).toNat=i.toNat+1 from by omega,zMT,zIe,if_pos ht]
theorem zMH {far:Int} (h:0≤i) (ht:(L.getD i.toNat default).1.there=false):prfN (trkL L) far (i+1).toNat=prfN (trkL L) far i.toNat++[far+1]:=by
 rw [show(i+1).toNat=i.toNat+1 from by omega,zMT,zIe,if_neg (by rw [ht];exact fT)]
theorem zMF {far:Int} {n:Nat} (hf:far=farN (trkL L) n) (hn:n=L.length):prfN (trkL L) far n=prfL (trkL L):=by
 unfold prfL
 rw [hf,hn,lM]
end
theorem zME {L:List TrkR} {n:Nat} (h:∀ i:Nat,i<n→(L.getD i default).1.l.length≤280040∧0≤(L.getD i default).1.eff∧(L.getD i default).1.eff≤280040):0≤farN (trkL L) n∧farN (trkL L) n≤280040:=
 ⟨zNa,zeQ (by decide) λ i hi=>by rw [zIe];exact(h i hi).2.2⟩
end Go.Fld
namespace Go.Proofs.YteepmmghanbllaaGreatDoor
open Go.K Go.Stn Go.Pln Go.Fld Go.RowKit
theorem en65:En Tryz.prog 65:=eK Tryz.func65
theorem zMd (a:yO) (cap:Nat) (S:List ShC) (b:yO) (bcap:Nat) (V:List WlC) (ca:yO) (ccap:Nat) (cs:List ByteArray) (ba:yO) (bcp:Nat) (bs:List Bdr) (x:Anm) (frm to:Int) (T:List Trk) (w:World) (hl:yag w a S) (hs:zaP S.length) (hcS:S.length≤cap) (hlw:yah w b V) (hsw:zaP V.length) (hsh:yab S w) (hss:yac S) (hwo:yaa V w) (hsv:yae V) (hcp:yad V) (hkn:yaf V) (hc:yai w ca cs) (hcs:zaP cs.length) (hcap:cs.length≤ccap) (hbd:yaj w ba bs) (hbs:zaP bs.length) (hT:BstA S V cs bs x frm to T) (hat:atE S V cs bs x [frm,to]=0) :
  Calls Tryz.prog 36 #[zzz3 a S cap b V bcap,zzz4 ca cs ccap ba bs bcp,zzz1 x,O frm,O to] w (zcU (λ z:Option Addr×Nat=>.tuple #[A z.1 (stpL (bwT S V cs bs x frm to T).l).length z.2,O (bwT S V cs bs x frm to T).eff,O (bwE S V cs bs x frm to T)]) (λ z=>Row z.1 2 z.2 159 zyQ (stpL (bwT S V cs bs x frm to T).l)) w):=by
 obtain⟨hok,hin,hcs40,hbs80⟩:=zDr hat
 obtain⟨f0,f1⟩:=zCw hin frm (by simp)
 obtain⟨t0,t1⟩:=zCw hin to (by simp)
 have hlw_:(zyj S V bs x).length=bs.length:=zz5
 have hWs:zaP (zyj S V bs x).length:=by unfold zaP;omega
 have hp:=zBa hok
 have heff:=zI5 hok
 have hcell:=zIr hok
 refine zan (vs:=[_,_,_,_,_]) Tryz.func36 I I (bL I) (gS (zaG I I (za3 (vs:=[_,_]) I I) λ b5=>(zaG I I (za3 (vs:=[_,_]) I I) λ b6=>(zaG I I (za3 (vs:=[_,_,_,_,_]) I I) λ b7=>(gA I (gA I (gA I (gN [3,4,5,6,7,10,11,12] I (gS (gQ (zat 2 tf37 I I (vs:=[_,_]) I I) (gQ (zat 1 tf40 I I (vs:=[_,_]) I I) (gQ (zat 0 tf41 I I (vs:=[_,_,_,_,_]) I I) (gM I (gM I (zaG I I (zaD I (zDC _ _) Go.Stn.encI_ok I) λ b21=>(zaG I I (zbm en46 I (λ w hw=>zFH _ _ S _ _ V _ _ cs _ _ bs x _ _ [frm,to] w (rH hl hw) hs hcS (rH hlw hw) hsw (λ z hz=>(rH (hsh z hz) hw)) hss (λ z hz=>(rH (hwo z hz) hw)) hsv hcp hkn (rH hc hw) hcs hcap (rH hbd hw) hbs (zam Go.Stn.encI_ok (hw.has (p:=0) I)) (by simp [zaP]) hok hin)) λ p22=>(gM I (gQ (zaB I I) (gQ (zaB I I) (gA I (gA I (gN [3,4,10,11,12,13] I ?_))))))))))))))))))))))
 obtain⟨lb,⟨wa,wc⟩,⟨fa,fc⟩,F⟩:=p22
 refine zz4 λ hF=>zbP ?_
 have hF:F.map (·.2)=(zzS S V bs x):=hF
 refine zac (gS (gM I (gQ (zcr I I) (gN [3,4,10,11,12,13,26] I (zd8 I (zaq (gS (gM I (gM I (zaG I I (zbm en65 I (λ w hw=>zLP ca ccap cs ba bcp bs lb wa fa wc fc (zyj S V bs x) F frm w (hw.has (p:=0) I) (zam zyl (hw.has (p:=1) I)) hWs hp hbs80 heff hcell hcs40 f0 f1)) λ p30=>?_))))))))))
 obtain⟨ta,tc,L⟩:=p30
 refine zz4 λ hB=>zbP ?_
 have hB:Best (zyj S V bs x) allM cs.length frm (trkL L):=hB
 have hLT:trkL L=T:=zLG hp hB (hT hat).1
 have hIm:Imp (zyj S V bs x) allM cs.length frm (trkL L):=by rw [hLT];exact(hT hat).2
 have hli:=zLm hp hbs80 hIm hcs40
 have hLl:L.length=cs.length:=by have h:=hB.len;rwa [lM] at h
 have hbw:(L.getD to.toNat default).1=T.getD to.toNat default:=by rw [←hLT,zIe]
 refine za2 (R':=Row ta 3 tc 163 zLb L) 0 I (λ B w hA=>hA) (za2 (R':=Go.K.Rows rowP L) 1 I (λ B w hA=>hA) (zae (T':=[(3,_),(4,_),(10,_),(11,_),(12,_),(13,_),(26,_),(28,_),(29,_),(30,A ta L.length tc)]) ⟨I,I,I,I,I,I,I,I,I,(by rfl),trivial⟩ (gM I (gQ (zaE zLk I I (λ _ hw=>(zam zLa (hw.has (p:=0) I)))) (gQ (zbv (vs:=[_,_,_]) zLd I (λ _ hw=>(zam zLa (hw.has (p:=0) I))) (by omega) (by omega) I) (zaG I I (zaL zLd (zs:=[_,_,_]) I) λ b14=>(zaA 0 zLd I I (vs:=[_,_,_]) I I I I I (gN [10,11,12,14] I (zac (gS (gQ (zab zLj I) (gQ (zah 0 tf4 I I I) (gQ (zbR I) (gN [10,11,12,14,36] I (zap I (λ hc36=>?_) (λ hc36=>?_))))))))))))))))
 ·have hth:(T.getD to.toNat default).there=false:=by rw [←hbw];simpa using hc36
  obtain⟨hA1,hA2,_⟩:=zMi hat (hT hat).1 hth
  refine gS (gA I (gA I (gA I (gN [10,11,12,14] I (zaw (zbB 159 zyQ 2 ?_))))))
  exact zbd (none,0) 0 (zdh I (zau I) (zau I) (zau I)) (by rw [hA1,hA2];rfl) (by rw [hA1];rfl)
 ·have hth:(T.getD to.toNat default).there=true:=by rw [←hbw];simpa using hc36
  obtain⟨hA1,hA2,_⟩:=zLw hat hth
  refine zaq (zac (zCs [] (ch [(2,(Option Addr×Nat))]) 1000 8 [0,1,3,0,8,7,63,127] [] I (λ _=>mixed) (by kernel_rfl) (zjK _ ⟨inferInstance,trivial⟩) (pY (λ ρ=>zab zLe I) (pY (λ ρ=>zah (b:=b14) (cs:=[O ((L.getD to.toNat default).1.eff),.slice (L.getD to.toNat default).2.1 (L.getD to.toNat default).1.l.length (L.getD to.toNat default).2.2,.bool (L.getD to.toNat default).1.there]) (e:=163) 0 zLt I (by kernel_rfl) I) (zFy (λ ρ=>zbm en57 I (λ w hw=>zGF _ _ (L.getD to.toNat default).1.l w (zam zy5 (zbV (f:=rowP) (hw.has (p:=2) I) (za0 (by omega)))) (by unfold zaP;have:=(hli to.toNat (by omega)).1;omega))) (λ ρ ρ' h=>⟨by rfl,by rfl⟩) (pY (λ ρ=>zab zLi I) (pY (λ ρ=>zah (b:=b14) (cs:=[O ((L.getD to.toNat default).1.eff),.slice (L.getD to.toNat default).2.1 (L.getD to.toNat default).1.l.length (L.getD to.toNat default).2.2,.bool (L.getD to.toNat default).1.there]) (e:=163) 0 tf3 I (by kernel_rfl) I) (zAr (λ ρ=>zad I) (λ ρ ρ' h=>by(first|rfl|(simp only [h 2 I];done)|(simp only [h 2 I];rfl))) (pY (λ ρ=>zad I) (pY (λ ρ=>zad I) ?_))))))))))
  refine λ ρ=>zag (zf4 (X:=(Option Addr×Nat)) (ρ 2) (λ p39=>[(10,A p39.1 (stpL (L.getD to.toNat default).1.l).length p39.2),(11,O ((L.getD to.toNat default).1.eff)),(12,O 0)]) (λ p39=>[Row p39.1 2 p39.2 159 zyQ (stpL (L.getD to.toNat default).1.l),Box b14 [O ((L.getD to.toNat default).1.eff),.slice (L.getD to.toNat default).2.1 (L.getD to.toNat default).1.l.length (L.getD to.toNat default).2.2,.bool (L.getD to.toNat default).1.there] 163,Row ta 3 tc 163 zLb L,Go.K.Rows rowP L,Box lb [A ca cs.length ccap,A ba bs.length bcp,A wa (zyj S V bs x).length wc,A fa (F.map (·.1)).length fc] 128,Row wa 10 wc 148 zyw (zyj S V bs x),Row fa 1 fc 124 zy6 (F.map (·.1)),Go.K.Rows rowM F,Row (some ⟨b21,0,none⟩) 1 2 3 C [frm,to],Box b7 (zzz2 x) 41,Box b6 (zzz6 ca cs ccap ba bs bcp) 40,Box b5 (zzz5 a S cap b V bcap) 37]) ⟨I,I,I,trivial⟩ rfl ?_)
  rintro p39
  refine zaw (zbd p39 0 (zdh I (zau I) (zau I) (zau I)) ?_ (by rw [hA1,←hbw];rfl))
  rw [hA1,hA2,←hbw]
theorem zMc (a:yO) (cap:Nat) (S:List ShC) (b:yO) (bcap:Nat) (V:List WlC) (ca:yO) (ccap:Nat) (cs:List ByteArray) (ba:yO) (bcp:Nat) (bs:List Bdr) (x:Anm) (frm to:Int) (_T:List Trk) (w:World) (hl:yag w a S) (hs:zaP S.length) (hcS:S.length≤cap) (hlw:yah w b V) (hsw:zaP V.length) (hsh:yab S w) (hss:yac S) (hwo:yaa V w) (hsv:yae V) (hcp:yad V) (hkn:yaf V) (hc:yai w ca cs) (hcs:zaP cs.length) (hcap:cs.length≤ccap) (hbd:yaj w ba bs) (hbs:zaP bs.length) (hne:¬ atE S V cs bs x [frm,to]=0) :
  Calls Tryz.prog 36 #[zzz3 a S cap b V bcap,zzz4 ca cs ccap ba bs bcp,zzz1 x,O frm,O to] w (Pure (.tuple #[A none 0 0,O 0,O (atE S V cs bs x [frm,to])]) w):=by
 refine zan (vs:=[_,_,_,_,_]) Tryz.func36 I I (bL I) (gS (zaG I I (za3 (vs:=[_,_]) I I) λ b5=>(zaG I I (za3 (vs:=[_,_]) I I) λ b6=>(zaG I I (za3 (vs:=[_,_,_,_,_]) I I) λ b7=>(gA I (gA I (gA I (gN [3,4,5,6,7,10,11,12] I (gS (gQ (zat 2 tf37 I I (vs:=[_,_]) I I) (gQ (zat 1 tf40 I I (vs:=[_,_]) I I) (gQ (zat 0 tf41 I I (vs:=[_,_,_,_,_]) I I) (gM I (gM I (zaG I I (zaD I (zDC _ _) Go.Stn.encI_ok I) λ b21=>(zaG I I (zbm en46 I (λ w hw=>zDs _ _ S _ _ V _ _ cs _ _ bs x _ _ [frm,to] w (rH hl hw) hs hcS (rH hlw hw) hsw (λ z hz=>(rH (hsh z hz) hw)) hss (λ z hz=>(rH (hwo z hz) hw)) hsv hcp hkn (rH hc hw) hcs hcap (rH hbd hw) hbs (zam Go.Stn.encI_ok (hw.has (p:=0) I)) (by simp [zaP]) hne)) λ p22=>(gM I (gQ (zaB I I) (gQ (zaB I I) (gA I (gA I (gN [3,4,10,11,12,13] I (zac (gS (gM I (gQ (zcr I I) (gN [3,4,10,11,12,13,26] I (zap I (λ hc26=>?_) (λ hc26=>?_)))))))))))))))))))))))))))))
 ·simp only [nT,dF] at hc26
  refine gS (gM I (gA I (gA I (gA I (gN [3,4,10,11,12,13] I (zaw (zay (zdh I (zau I) (zau I) (zau I)) ?_)))))))
  rfl
 ·exfalso;exact hne (by simpa using hc26)
theorem zML (a:yO) (cap:Nat) (S:List ShC) (b:yO) (bcap:Nat) (V:List WlC) (ca:yO) (ccap:Nat) (cs:List ByteArray) (ba:yO) (bcp:Nat) (bs:List Bdr) (x:Anm) (frm to:Int) (T:List Trk) (w:World) (hl:yag w a S) (hs:zaP S.length) (hcS:S.length≤cap) (hlw:yah w b V) (hsw:zaP V.length) (hsh:yab S w) (hss:yac S) (hwo:yaa V w) (hsv:yae V) (hcp:yad V) (hkn:yaf V) (hc:yai w ca cs) (hcs:zaP cs.length) (hcap:cs.length≤ccap) (hbd:yaj w ba bs) (hbs:zaP bs.length) (hT:BstA S V cs bs x frm to T) (hat:atE S V cs bs x [frm,to]=0) :
  Calls Tryz.prog 37 #[zzz3 a S cap b V bcap,zzz4 ca cs ccap ba bs bcp,zzz1 x,O frm,O to] w (zcU (λ z:Option Addr×Nat=>.tuple #[A z.1 (prfA S V cs bs x frm to T).length z.2,O (bwE S V cs bs x frm to T)]) (λ z=>Row z.1 1 z.2 3 C (prfA S V cs bs x frm to T)) w):=by
 obtain⟨hok,hin,hcs40,hbs80⟩:=zDr hat
 obtain⟨f0,f1⟩:=zCw hin frm (by simp)
 obtain⟨t0,t1⟩:=zCw hin to (by simp)
 have hlw_:(zyj S V bs x).length=bs.length:=zz5
 have hWs:zaP (zyj S V bs x).length:=by unfold zaP;omega
 have hp:=zBa hok
 have heff:=zI5 hok
 have hcell:=zIr hok
 refine zan (vs:=[_,_,_,_,_]) Tryz.func37 I I (bL I) (gS (zaG I I (za3 (vs:=[_,_]) I I) λ b5=>(zaG I I (za3 (vs:=[_,_]) I I) λ b6=>(zaG I I (za3 (vs:=[_,_,_,_,_]) I I) λ b7=>(gA I (gA I (gN [3,4,5,6,7,10,11] I (gS (gQ (zat 2 tf37 I I (vs:=[_,_]) I I) (gQ (zat 1 tf40 I I (vs:=[_,_]) I I) (gQ (zat 0 tf41 I I (vs:=[_,_,_,_,_]) I I) (gM I (gM I (zaG I I (zaD I (zDC _ _) Go.Stn.encI_ok I) λ b27=>(zaG I I (zbm en46 I (λ w hw=>zFH _ _ S _ _ V _ _ cs _ _ bs x _ _ [frm,to] w (rH hl hw) hs hcS (rH hlw hw) hsw (λ z hz=>(rH (hsh z hz) hw)) hss (λ z hz=>(rH (hwo z hz) hw)) hsv hcp hkn (rH hc hw) hcs hcap (rH hbd hw) hbs (zam Go.Stn.encI_ok (hw.has (p:=0) I)) (by simp [zaP]) hok hin)) λ p28=>(gM I (gQ (zaB I I) (gQ (zaB I I) (gA I (gA I (gN [3,4,10,11,12,13] I ?_)))))))))))))))))))))
 obtain⟨lb,⟨wa,wc⟩,⟨fa,fc⟩,F⟩:=p28
 refine zz4 λ hF=>zbP ?_
 have hF:F.map (·.2)=(zzS S V bs x):=hF
 refine zac (gS (gM I (gQ (zcr I I) (gN [3,4,10,11,12,13,32] I (zd8 I (zaq (gS (gM I (gM I (zaG I I (zbm en65 I (λ w hw=>zLP ca ccap cs ba bcp bs lb wa fa wc fc (zyj S V bs x) F frm w (hw.has (p:=0) I) (zam zyl (hw.has (p:=1) I)) hWs hp hbs80 heff hcell hcs40 f0 f1)) λ p36=>?_))))))))))
 obtain⟨ta,tc,L⟩:=p36
 refine zz4 λ hB=>zbP ?_
 have hB:Best (zyj S V bs x) allM cs.length frm (trkL L):=hB
 have hLT:trkL L=T:=zLG hp hB (hT hat).1
 have hIm:Imp (zyj S V bs x) allM cs.length frm (trkL L):=by rw [hLT];exact(hT hat).2
 have hli:=zLm hp hbs80 hIm hcs40
 have hLl:L.length=cs.length:=by have h:=hB.len;rwa [lM] at h
 have hbw:(L.getD to.toNat default).1=T.getD to.toNat default:=by rw [←hLT,zIe]
 refine za2 (R':=Row ta 3 tc 163 zLb L) 0 I (λ B w hA=>hA) (za2 (R':=Go.K.Rows rowP L) 1 I (λ B w hA=>hA) (zae (T':=[(3,_),(4,_),(10,_),(11,_),(12,_),(13,_),(32,_),(34,_),(35,_),(36,A ta L.length tc)]) ⟨I,I,I,I,I,I,I,I,I,(by rfl),trivial⟩ ?_))
 have hfc:=zME hli
 refine gA I (gN [4,10,11,14] I (zac (gS (gM I (gM I (gQ (zaE zLk I I (λ _ hw=>(zam zLa (hw.has (p:=0) I)))) (gQ (zbh zLj I (λ w hw=>zaO (i:=to) (zam zLa (hw.has (p:=0) I)))) (gQ (zbn tf4 I (λ _ hw=>(zam zLa (hw.has (p:=0) I))) (by omega) (by omega) I) (gQ (zbR I) (gN [10,11,14,42] I (zap I (λ hc42=>?_) (λ hc42=>?_))))))))))))
 ·have hth:(T.getD to.toNat default).there=false:=by rw [←hbw];simpa using hc42
  obtain⟨_,hA2,hA3⟩:=zMi hat (hT hat).1 hth
  refine gS (gA I (gA I (gN [10,11,14] I (zaw (zbB 3 C 1 ?_)))))
  exact zbd (none,0) 0 (zc2 I (zau I) (zau I)) (by rw [hA2,hA3];rfl) (by rw [hA3];rfl)
 ·have hth:(T.getD to.toNat default).there=true:=by rw [←hbw];simpa using hc42
  obtain⟨_,hA2,hA3⟩:=zLw hat hth
  refine zaq (gS (gA I (gN [10,11,14,15] I (zac (gS (gM I (gQ (zaV (Tryz.underlying164) I) (gM I (gN [10,11,14,15,43,44,45] I (zas (zbf (X:=Int×Int) (λ⟨i,far⟩=>[(10,A none 0 0),(11,O 0),(14,A ta L.length tc),(15,O far),(43,A ta L.length tc),(44,O (L.length:Int)),(45,O i)]) (λ⟨i,far⟩=>[Row ta 3 tc 163 zLb L,Go.K.Rows rowP L,Box lb [A ca cs.length ccap,A ba bs.length bcp,A wa (zyj S V bs x).length wc,A fa (F.map (·.1)).length fc] 128,Row wa 10 wc 148 zyw (zyj S V bs x),Row fa 1 fc 124 zy6 (F.map (·.1)),Go.K.Rows rowM F,Row (some ⟨b27,0,none⟩) 1 2 3 C [frm,to],Box b7 (zzz2 x) 41,Box b6 (zzz6 ca cs ccap ba bs bcp) 40,Box b5 (zzz5 a S cap b V bcap) 37]) (λ⟨i,far⟩=>(0≤i∧i≤cs.length∧far=farN (trkL L) i.toNat)) (λ⟨i,far⟩=>(cs.length - i).toNat) (0,0) (sB I) I ?_ ?_)))))))))))
  ·exact⟨by omega,by omega,rfl⟩
  ·rintro ⟨i,far⟩ hI
   obtain⟨g0,g1,g2⟩:=hI
   refine gS (gQ (zbw I I) (gN [10,11,14,15,43,44,45,46] I (zac (zap I (λ hc46=>?_) (λ hc46=>?_)))))
   ·have hc46:=oT hc46
    have hfu:=zMS (L:=L) g0
    refine zaq (zac (zas (gS (gQ (zaE zLk I I (λ _ hw=>(zam zLa (hw.has (p:=0) I)))) (gQ (zbv (vs:=[_,_,_]) zLd I (λ _ hw=>(zam zLa (hw.has (p:=0) I))) (by omega) (by omega) I) (zaG I I (zaL zLd (zs:=[_,_,_]) I) λ b17=>(zaA 0 zLd I I (vs:=[_,_,_]) I I I I I (gN [10,11,14,15,17,43,44,45] I (zaa (gM I (gQ (zab zLi I) (gQ (zah 0 tf3 I I I) (gQ (zws I I) (gA I (gN [10,11,14,15,43,44,45] I (zaa (gQ (zaY I I) (gM I (gN [10,11,14,15,43,44,45] I (zaK 0 I ?_))))))))))))))))))))
    exact za1 (i+1,_) (sB I) I ⟨by omega,by omega,by rw [hfu,←g2]⟩ (by simp only [];omega)
   ·have hc46:=oD hc46
    have hfr:far=(farN (trkL L) cs.length):=by rw [g2,show i.toNat=cs.length from by omega]
    refine za8 I (gS (gA I (gN [10,11,14,15,18] I (zac (gS (gM I (gQ (zaV (Tryz.underlying164) I) (gM I (gN [10,11,15,18,54,55,56] I (zas (zbB 3 C 1 (zbf (X:=Int×Option Addr×Nat×List Int) (λ⟨k,ra,rc,N⟩=>[(10,A none 0 0),(11,O 0),(15,O far),(18,A ra N.length rc),(54,A ta L.length tc),(55,O (L.length:Int)),(56,O k)]) (λ⟨k,ra,rc,N⟩=>[Row ra 1 rc 3 C N,Row ta 3 tc 163 zLb L,Go.K.Rows rowP L,Box lb [A ca cs.length ccap,A ba bs.length bcp,A wa (zyj S V bs x).length wc,A fa (F.map (·.1)).length fc] 128,Row wa 10 wc 148 zyw (zyj S V bs x),Row fa 1 fc 124 zy6 (F.map (·.1)),Go.K.Rows rowM F,Row (some ⟨b27,0,none⟩) 1 2 3 C [frm,to],Box b7 (zzz2 x) 41,Box b6 (zzz6 ca cs ccap ba bs bcp) 40,Box b5 (zzz5 a S cap b V bcap) 37]) (λ⟨k,ra,rc,N⟩=>(0≤k∧k≤cs.length∧N=prfN (trkL L) far k.toNat)) (λ⟨k,ra,rc,N⟩=>(cs.length - k).toNat) (0,none,0,[]) (sB I) I ?_ ?_))))))))))))
    ·exact⟨by omega,by omega,rfl⟩
    ·rintro ⟨k,ra,rc,N⟩ hI
     obtain⟨k0,k1,k2⟩:=hI
     have hnl:N.length=k.toNat:=by rw [k2];exact zMB
     refine gS (gQ (zbw I I) (gN [10,11,15,18,54,55,56,57] I (zac (zap I (λ hc57=>?_) (λ hc57=>?_)))))
     ·have hc57:=oT hc57
      refine zaq (zac (zas (gS (gQ (zaE zLk I I (λ _ hw=>(zam zLa (hw.has (p:=1) I)))) (gQ (zbv (vs:=[_,_,_]) zLd I (λ _ hw=>(zam zLa (hw.has (p:=1) I))) (by omega) (by omega) I) (zaG I I (zaL zLd (zs:=[_,_,_]) I) λ b20=>(zaA 0 zLd I I (vs:=[_,_,_]) I I I I I (gN [10,11,15,18,20,54,55,56] I (gS (gQ (zab zLj I) (gQ (zah 0 tf4 I I I) (gN [10,11,15,18,20,54,55,56,61] I (zap I (λ hc61=>?_) (λ hc61=>?_))))))))))))))
      ·have hup:=zMG (far:=far) k0 hc61
       refine zaa (gM I (gQ (zab zLi I) (gQ (zah 0 tf3 I I I) (zaG I I (zaD I (zA3 _) Go.Stn.encI_ok I) λ b65=>(zb4 (m:=[((L.getD k.toNat default).1.eff)]) 2 af45 Go.Stn.encI_ok I I I I (λ _ hw=>(zam Go.Stn.encI_ok (hw.has (p:=0) I))) (by first|omega|(simp only [lC,lN];omega)) (by first|(unfold maxLen;omega)|(simp only [lC,lN,maxLen];omega)) λ a66 c66=>(gA I (gN [10,11,15,18,54,55,56] I (zaa (gQ (zaY I I) (gM I (gN [10,11,15,18,54,55,56] I (zaK 0 I (zaK 0 I ?_)))))))))))))
       exact za1 (k+1,_,_,_) (sB I) I ⟨by omega,by omega,by rw [hup,←k2]⟩ (by simp only [];omega)
      ·have hup:=zMH (far:=far) k0 hc61
       refine zaa (gM I (gM I (gQ (zaY I I) (zaG I I (zaD I (zA3 _) Go.Stn.encI_ok I) λ b70=>(zb4 (m:=[(far+1)]) 2 af45 Go.Stn.encI_ok I I I I (λ _ hw=>(zam Go.Stn.encI_ok (hw.has (p:=0) I))) (by first|omega|(simp only [lC,lN];omega)) (by first|(unfold maxLen;omega)|(simp only [lC,lN,maxLen];omega)) λ a71 c71=>(gA I (gN [10,11,15,18,54,55,56] I (zaa (gQ (zaY I I) (gM I (gN [10,11,15,18,54,55,56] I (zaK 0 I (zaK 0 I ?_)))))))))))))
       exact za1 (k+1,_,_,_) (sB I) I ⟨by omega,by omega,by rw [hup,←k2]⟩ (by simp only [];omega)
     ·have hc57:=oD hc57
      have hN:N=prfL T:=by rw [k2,show k.toNat=cs.length from by omega,zMF hfr hLl.symm,hLT]
      refine za8 I (gS (gM I (gA I (gA I (gN [10,11] I (zaw (zbd (ra,rc) 0 (zc2 I (zau I) (zau I)) ?_ (by rw [hA3,hN];rfl))))))))
      rw [hA2,hA3,hN]
theorem zMK (a:yO) (cap:Nat) (S:List ShC) (b:yO) (bcap:Nat) (V:List WlC) (ca:yO) (ccap:Nat) (cs:List ByteArray) (ba:yO) (bcp:Nat) (bs:List Bdr) (x:Anm) (frm to:Int) (_T:List Trk) (w:World) (hl:yag w a S) (hs:zaP S.length) (hcS:S.length≤cap) (hlw:yah w b V) (hsw:zaP V.length) (hsh:yab S w) (hss:yac S) (hwo:yaa V w) (hsv:yae V) (hcp:yad V) (hkn:yaf V) (hc:yai w ca cs) (hcs:zaP cs.length) (hcap:cs.length≤ccap) (hbd:yaj w ba bs) (hbs:zaP bs.length) (hne:¬ atE S V cs bs x [frm,to]=0) :
  Calls Tryz.prog 37 #[zzz3 a S cap b V bcap,zzz4 ca cs ccap ba bs bcp,zzz1 x,O frm,O to] w (Pure (.tuple #[A none 0 0,O (atE S V cs bs x [frm,to])]) w):=by
 refine zan (vs:=[_,_,_,_,_]) Tryz.func37 I I (bL I) (gS (zaG I I (za3 (vs:=[_,_]) I I) λ b5=>(zaG I I (za3 (vs:=[_,_]) I I) λ b6=>(zaG I I (za3 (vs:=[_,_,_,_,_]) I I) λ b7=>(gA I (gA I (gN [3,4,5,6,7,10,11] I (gS (gQ (zat 2 tf37 I I (vs:=[_,_]) I I) (gQ (zat 1 tf40 I I (vs:=[_,_]) I I) (gQ (zat 0 tf41 I I (vs:=[_,_,_,_,_]) I I) (gM I (gM I (zaG I I (zaD I (zDC _ _) Go.Stn.encI_ok I) λ b27=>(zaG I I (zbm en46 I (λ w hw=>zDs _ _ S _ _ V _ _ cs _ _ bs x _ _ [frm,to] w (rH hl hw) hs hcS (rH hlw hw) hsw (λ z hz=>(rH (hsh z hz) hw)) hss (λ z hz=>(rH (hwo z hz) hw)) hsv hcp hkn (rH hc hw) hcs hcap (rH hbd hw) hbs (zam Go.Stn.encI_ok (hw.has (p:=0) I)) (by simp [zaP]) hne)) λ p28=>(gM I (gQ (zaB I I) (gQ (zaB I I) (gA I (gA I (gN [3,4,10,11,12,13] I (zac (gS (gM I (gQ (zcr I I) (gN [3,4,10,11,12,13,32] I (zap I (λ hc32=>?_) (λ hc32=>?_))))))))))))))))))))))))))))
 ·simp only [nT,dF] at hc32
  refine gS (gM I (gA I (gA I (gN [3,4,10,11,12] I (zaw (zay (zc2 I (zau I) (zau I)) ?_))))))
  rfl
 ·exfalso;exact hne (by simpa using hc32)
theorem zLV (a:yO) (cap:Nat) (S:List ShC) (b:yO) (bcap:Nat) (V:List WlC) (ca:yO) (ccap:Nat) (cs:List ByteArray) (ba:yO) (bcp:Nat) (bs:List Bdr) (x:Anm) (frm to:Int) (T:List Trk) (w:World) (hl:yag w a S) (hs:zaP S.length) (hcS:S.length≤cap) (hlw:yah w b V) (hsw:zaP V.length) (hsh:yab S w) (hss:yac S) (hwo:yaa V w) (hsv:yae V) (hcp:yad V) (hkn:yaf V) (hc:yai w ca cs) (hcs:zaP cs.length) (hcap:cs.length≤ccap) (hbd:yaj w ba bs) (hbs:zaP bs.length) (hT:BstA S V cs bs x frm to T):Calls Tryz.prog 36 #[zzz3 a S cap b V bcap,zzz4 ca cs ccap ba bs bcp,zzz1 x,O frm,O to] w (zcU (λ z:Option Addr×Nat=>.tuple #[A z.1 (stpL (bwT S V cs bs x frm to T).l).length z.2,O (bwT S V cs bs x frm to T).eff,O (bwE S V cs bs x frm to T)]) (λ z=>Row z.1 2 z.2 159 zyQ (stpL (bwT S V cs bs x frm to T).l)) w):=by
 by_cases hat:atE S V cs bs x [frm,to]=0
 ·exact zMd a cap S b bcap V ca ccap cs ba bcp bs x frm to T w hl hs hcS hlw hsw hsh hss hwo hsv hcp hkn hc hcs hcap hbd hbs hT hat
 ·obtain⟨e1,e2,_⟩:=zMh (T:=T) hat
  rw [e1,e2]
  exact(zMc a cap S b bcap V ca ccap cs ba bcp bs x frm to T w hl hs hcS hlw hsw hsh hss hwo hsv hcp hkn hc hcs hcap hbd hbs hat).mono λ e' w' h=>zAe (none,0) h I (λ _=>zAR)
theorem zM1 (a:yO) (cap:Nat) (S:List ShC) (b:yO) (bcap:Nat) (V:List WlC) (ca:yO) (ccap:Nat) (cs:List ByteArray) (ba:yO) (bcp:Nat) (bs:List Bdr) (x:Anm) (frm to:Int) (T:List Trk) (w:World) (hl:yag w a S) (hs:zaP S.length) (hcS:S.length≤cap) (hlw:yah w b V) (hsw:zaP V.length) (hsh:yab S w) (hss:yac S) (hwo:yaa V w) (hsv:yae V) (hcp:yad V) (hkn:yaf V) (hc:yai w ca cs) (hcs:zaP cs.length) (hcap:cs.length≤ccap) (hbd:yaj w ba bs) (hbs:zaP bs.length) (hT:BstA S V cs bs x frm to T):Calls Tryz.prog 37 #[zzz3 a S cap b V bcap,zzz4 ca cs ccap ba bs bcp,zzz1 x,O frm,O to] w (zcU (λ z:Option Addr×Nat=>.tuple #[A z.1 (prfA S V cs bs x frm to T).length z.2,O (bwE S V cs bs x frm to T)]) (λ z=>Row z.1 1 z.2 3 C (prfA S V cs bs x frm to T)) w):=by
 by_cases hat:atE S V cs bs x [frm,to]=0
 ·exact zML a cap S b bcap V ca ccap cs ba bcp bs x frm to T w hl hs hcS hlw hsw hsh hss hwo hsv hcp hkn hc hcs hcap hbd hbs hT hat
 ·obtain⟨_,e2,e3⟩:=zMh (T:=T) hat
  rw [e2,e3]
  exact(zMK a cap S b bcap V ca ccap cs ba bcp bs x frm to T w hl hs hcS hlw hsw hsh hss hwo hsv hcp hkn hc hcs hcap hbd hbs hat).mono λ e' w' h=>zAe (none,0) h I (λ _=>zAR)
end Go.Proofs.YteepmmghanbllaaGreatDoor