/- What the proof of the root text leans on, part 5: the layer, plain facts and walks. No statement of the seat is proved in this text. -/
import Derived.Test.YtdcfcfhmkfkgmaaGreatDoorPr4
namespace Go.Pln
open Go Go.K Go.RowKit Go.Stn Go.Txt
theorem beqL (a b:ByteArray):(a.toList == b.toList)=(a == b):=by
 rw [Lib.toList_data,Lib.toList_data,Bool.eq_iff_iff,beq_iff_eq]
 obtain⟨a⟩:=a; obtain⟨b⟩:=b
 show a.toList=b.toList↔(a == b)=true
 rw [beq_iff_eq]
 exact Array.toList_inj
theorem beqB (a b:ByteArray):(a.toList == b.toList)=true↔a=b:=by
 rw [Lib.toList_data,Lib.toList_data,beq_iff_eq]
 exact⟨fun h=>by rw [←zns a,←zns b,h],fun h=>by rw [h]⟩
theorem zy5 {q:Plan} {t:ByteArray}:zcu q t=zff q ((zcn t 32).getD 0 default) ((zcn t 32).drop 1):=by
 unfold zcu
 rw [zuj (by have:=(zjw t 32).1; omega),zak]
theorem zAb {q:Plan} {u:ByteArray} {ws:List ByteArray} (h:(u.toList == (⟨#[115,104,101,101,116]⟩:ByteArray).toList)=true):zff q u ws=zb3 q ws:=by
 rw [beqL] at h; unfold zff; exact if_pos h
theorem zAp {q:Plan} {u:ByteArray} {ws:List ByteArray} (h0:(u.toList == (⟨#[115,104,101,101,116]⟩:ByteArray).toList)=false) (h:(u.toList == (⟨#[119,97,108,108]⟩:ByteArray).toList)=true):zff q u ws=zb1 q ws:=by
 rw [beqL] at h0 h; unfold zff; rw [if_neg (by rw [h0]; exact Bool.false_ne_true)]; exact if_pos h
theorem zAo {q:Plan} {u:ByteArray} {ws:List ByteArray} (h0:(u.toList == (⟨#[115,104,101,101,116]⟩:ByteArray).toList)=false) (h1:(u.toList == (⟨#[119,97,108,108]⟩:ByteArray).toList)=false) (h:(u.toList == (⟨#[111,112,101,110]⟩:ByteArray).toList)=true):zff q u ws=zch q ws:=by
 rw [beqL] at h0 h1 h; unfold zff; rw [if_neg (by rw [h0]; exact Bool.false_ne_true),if_neg (by rw [h1]; exact Bool.false_ne_true)]; exact if_pos h
theorem zAa {q:Plan} {u:ByteArray} {ws:List ByteArray} (h0:(u.toList == (⟨#[115,104,101,101,116]⟩:ByteArray).toList)=false) (h1:(u.toList == (⟨#[119,97,108,108]⟩:ByteArray).toList)=false) (h:(u.toList == (⟨#[111,112,101,110]⟩:ByteArray).toList)=false):zff q u ws=.error 4:=by
 rw [beqL] at h0 h1 h; unfold zff; rw [if_neg (by rw [h0]; exact Bool.false_ne_true),if_neg (by rw [h1]; exact Bool.false_ne_true),if_neg (by rw [h]; exact Bool.false_ne_true)]
theorem zzP {q:Plan} {ws:List ByteArray} (hp:1≤ws.length) (h:zyY ws=none):zb3 q (ws.drop 1)=.error 4:=by
 rw [zz3 hp] at h
 unfold zb3
 cases hs:zci (ws.drop 1) with
 | error k=>rw [zcc,zAR _ k hs]
 | ok a=>
  rw [hs] at h
  rw [zak]
  unfold endE
  by_cases h0:a.2.length=0
  ·rw [show endO (toO (.ok a))=(if a.2.length=0 then some a.1 else none) from rfl,if_pos h0] at h; cases h
  ·rw [if_neg h0,zcc]
theorem zzw {q:Plan} {ws:List ByteArray} {s:Sht} (hp:1≤ws.length) (h:zyY ws=some s):zb3 q (ws.drop 1)=if 0≤zew q.S s.name then .error 7 else if za4 s=true then(if q.S.length=20 then .error 5 else .ok ⟨q.S++[s],q.V⟩) else .error 2:=by
 rw [zz3 hp] at h
 unfold zb3
 cases hs:zci (ws.drop 1) with
 | error k=>rw [hs] at h; cases h
 | ok a=>
  rw [hs] at h
  rw [zak]
  unfold endE
  by_cases h0:a.2.length=0
  ·rw [show endO (toO (.ok a))=(if a.2.length=0 then some a.1 else none) from rfl,if_pos h0] at h
   cases h
   rw [if_pos h0,zak]
  ·rw [show endO (toO (.ok a))=(if a.2.length=0 then some a.1 else none) from rfl,if_neg h0] at h; cases h
theorem zzI {q:Plan} {ws:List ByteArray} (hp:1≤ws.length) (h:¬ (ws.length=4∧zgx (ws.getD 1 default)=true∧zgx (ws.getD 2 default)=true∧numW (ws.getD 3 default)=true)):zb1 q (ws.drop 1)=.error 4:=by
 match ws,hp,h with
 | [_],_,_=>rfl
 | [_,a],_,_=>
  show zb1 q [a]=_
  unfold zb1 zes
  rw [show zdp [a]=.ok (a,[]) from rfl,zak]
  by_cases h1:zgx a=true
  ·rw [if_pos h1]; rfl
  ·rw [if_neg h1]; rfl
 | [_,a,b],_,_=>
  show zb1 q [a,b]=_
  unfold zb1 zes
  rw [show zdp [a,b]=.ok (a,[b]) from rfl,zak]
  by_cases h1:zgx a=true
  ·rw [if_pos h1,zak,show zdp [b]=.ok (b,[]) from rfl,zak]
   by_cases h2:zgx b=true
   ·rw [if_pos h2]; rfl
   ·rw [if_neg h2]; rfl
  ·rw [if_neg h1]; rfl
 | _ :: a :: b :: c :: r,_,h=>
  show zb1 q (a :: b :: c :: r)=_
  unfold zb1 zes
  rw [show zdp (a :: b :: c :: r)=.ok (a,b :: c :: r) from rfl,zak]
  by_cases h1:zgx a=true
  ·rw [if_pos h1,zak,show zdp (b :: c :: r)=.ok (b,c :: r) from rfl,zak]
   by_cases h2:zgx b=true
   ·rw [if_pos h2,zak,zlk]
    unfold numE
    rw [show zdp (c :: r)=.ok (c,r) from rfl,zak]
    by_cases h3:numW c=true
    ·rw [if_pos h3,zak,zak]
     unfold endE
     by_cases h4:r.length=0
     ·exact absurd ⟨by simp [h4],h1,h2,h3⟩ h
     ·rw [if_neg h4]; rfl
    ·rw [if_neg h3]; rfl
   ·rw [if_neg h2]; rfl
  ·rw [if_neg h1]; rfl
theorem zzQ {q:Plan} {ws:List ByteArray} (h4:ws.length=4) (h1:zgx (ws.getD 1 default)=true) (h2:zgx (ws.getD 2 default)=true) (h3:numW (ws.getD 3 default)=true) :
  zb1 q (ws.drop 1)=if 0≤zss q.V (ws.getD 1 default) then .error 7 else if 0≤zew q.S (ws.getD 2 default) then
  (if zd1 (getS q.S (ws.getD 2 default)).height ⟨ws.getD 1 default,ws.getD 2 default,zyZ (ws.getD 3 default),[]⟩=true then(if q.V.length=50 then .error 5 else .ok ⟨q.S,q.V++[⟨ws.getD 1 default,ws.getD 2 default,zyZ (ws.getD 3 default),[]⟩]⟩) else .error 2) else .error 6:=by
 match ws,h4,h1,h2,h3 with
 | [_,a,b,c],_,h1,h2,h3=>
  have h1:zgx a=true:=h1
  have h2:zgx b=true:=h2
  have h3:numW c=true:=h3
  show zb1 q [a,b,c]=(if 0≤zss q.V a then .error 7 else if 0≤zew q.S b then(if zd1 (getS q.S b).height ⟨a,b,zyZ c,[]⟩=true then(if q.V.length=50 then .error 5 else .ok ⟨q.S,q.V++[⟨a,b,zyZ c,[]⟩]⟩) else .error 2) else .error 6)
  rw [zzo h3]
  unfold zb1 zes
  rw [show zdp [a,b,c]=.ok (a,[b,c]) from rfl,zak,if_pos h1,zak,show zdp [b,c]=.ok (b,[c]) from rfl,zak,if_pos h2,zak,zlk]
  unfold numE
  rw [show zdp [c]=.ok (c,[]) from rfl,zak,if_pos h3]
  rfl
def zzt (ws:List ByteArray):Option (Int×List Int):=
 if ws.length < 2 then none else(zyV (zcn patD 32) (ws.drop 2) []).bind fun c=>if c.2.length=0 then(if zzb (ws.getD 1 default)=5 then none else some (zzb (ws.getD 1 default),c.1)) else none
def zAg (ws:List ByteArray):Except Int (Int×List Int):=do
 let a ←zfk opensW 1 ws
 let b ←zco 4 a.2
 let _ ←endE b.2
 .ok (a.1,b.1)
theorem zAN (ws:List ByteArray):E4 (zAg ws):=zyU (zAr _ _ _) fun _=>zyU (zzG _ _) fun _=>zyU (zBs _) fun _=>zzj _
theorem zBh (ws:List ByteArray):toO (endE ws)=if ws.length=0 then some ((),ws) else none:=zBj _ _
theorem zz2 {ws:List ByteArray} (hp:1≤ws.length):toO (zAg (ws.drop 1))=zzt ws:=by
 match ws,hp with
 | [_],_=>rfl
 | w0 :: x :: r,_=>
  show toO (zAg (x :: r))=(if (w0 :: x :: r).length < 2 then none else(zyV (zcn patD 32) r []).bind fun c=>if c.2.length=0 then(if zzb x=5 then none else some (zzb x,c.1)) else none)
  rw [if_neg (by simp),zzA]
  unfold zAg
  rw [zy2,zAZ]
  simp only [zy2,zBh,zAG,zA4,zAv,zzs,zzr,Option.bind_assoc,Option.bind_some,List.nil_append,List.cons_append]
  by_cases hk:zzb x=5
  ·simp only [hk,if_true,Option.bind_none,ite_self,zzf]
  ·simp only [hk,if_false,Option.bind_some]
   iterate 4 refine zy7 fun _=>?_
   split <;> rfl
theorem zAw (q:Plan) (ws:List ByteArray):zch q ws=(zAg ws >>= fun x=>if q.V.length=0 then .error 4 else
  if zd1 (getS q.S (q.V.getD (q.V.length - 1) default).sheet).height (more (q.V.getD (q.V.length - 1) default) ⟨x.1,x.2.getD 0 0,(x.2.drop 1).getD 0 0,((x.2.drop 1).drop 1).getD 0 0,(((x.2.drop 1).drop 1).drop 1).getD 0 0⟩)=true then
   .ok ⟨q.S,q.V.set (q.V.length - 1) (more (q.V.getD (q.V.length - 1) default) ⟨x.1,x.2.getD 0 0,(x.2.drop 1).getD 0 0,((x.2.drop 1).drop 1).getD 0 0,(((x.2.drop 1).drop 1).drop 1).getD 0 0⟩)⟩ else .error 2):=by
 unfold zch zAg
 cases zfk opensW 1 ws with
 | error k=>rfl
 | ok a=>
  rw [zak,zak]
  cases zco 4 a.2 with
  | error k=>rfl
  | ok b=>
   rw [zak,zak]
   cases endE b.2 <;> rfl
theorem zzH {q:Plan} {ws:List ByteArray} (hp:1≤ws.length) (h:zzt ws=none):zch q (ws.drop 1)=.error 4:=by
 rw [←zz2 hp] at h
 obtain⟨k,hk⟩:=zAT h
 rw [zAw,hk,zcc,zAN _ k hk]
theorem zAc (l:List Int) (n:Nat) (d:Int):(l.drop 1).getD n d=l.getD (n+1) d:=by cases l <;> rfl
theorem zzq {q:Plan} {ws:List ByteArray} {x:Int×List Int} (hp:1≤ws.length) (h:zzt ws=some x):zch q (ws.drop 1)=if q.V.length=0 then .error 4 else
  if zd1 (getS q.S (q.V.getD (q.V.length - 1) default).sheet).height (more (q.V.getD (q.V.length - 1) default) ⟨x.1,x.2.getD 0 0,x.2.getD 1 0,x.2.getD 2 0,x.2.getD 3 0⟩)=true then
   .ok ⟨q.S,q.V.set (q.V.length - 1) (more (q.V.getD (q.V.length - 1) default) ⟨x.1,x.2.getD 0 0,x.2.getD 1 0,x.2.getD 2 0,x.2.getD 3 0⟩)⟩ else .error 2:=by
 rw [←zz2 hp] at h
 rw [zAw,zz8 h,zak]
 simp only [zAc]
def OkF (q:Plan):Prop:=∀ v∈q.V,0≤zew q.S v.sheet∧v.name.size≤16
theorem zAd {n:ByteArray} (h:zgx n=true):n.size≤16:=by
 unfold zgx at h
 simp only [Bool.and_eq_true,decide_eq_true_eq] at h
 omega
theorem ze9 {α:Type} (p:α→Bool) (l:List α):0≤zbJ p l↔l.any p=true:=by
 unfold zbJ
 by_cases h:l.any p=true
 ·rw [if_pos h]; exact⟨fun _=>h,fun _=>by omega⟩
 ·rw [if_neg h]; exact⟨fun h'=>by omega,fun h'=>absurd h' h⟩
theorem zA5:OkF ⟨[],[]⟩:=fun v h=>by cases h
theorem zAM {q q':Plan} {t:ByteArray} (h:OkF q) (he:zcu q t=.ok q'):OkF q':=by
 rw [zy5] at he
 have hp:=(zjw t 32).1
 unfold zff at he
 split at he
 ·cases hr:zyY (zcn t 32) with
  | none=>rw [zzP hp hr] at he; cases he
  | some s=>
   rw [zzw hp hr] at he
   split at he
   ·cases he
   ·split at he
    ·split at he
     ·cases he
     ·cases he
      intro v hv
      obtain⟨h1,h2⟩:=h v hv
      refine⟨?_,h2⟩
      unfold zew at *
      rw [ze9] at *
      rw [List.any_append,h1]; rfl
    ·cases he
 ·split at he
  ·by_cases hw:(zcn t 32).length=4∧zgx ((zcn t 32).getD 1 default)=true∧zgx ((zcn t 32).getD 2 default)=true∧numW ((zcn t 32).getD 3 default)=true
   ·obtain⟨h4,h1,h2,h3⟩:=hw
    rw [zzQ h4 h1 h2 h3] at he
    split at he
    ·cases he
    ·split at he
     ·rename_i hs
      split at he
      ·split at he
       ·cases he
       ·cases he
        intro v hv
        rcases List.mem_append.1 hv with h' | h'
        ·exact h v h'
        ·rw [List.mem_singleton] at h'; rw [h']; exact⟨hs,zAd h1⟩
      ·cases he
     ·cases he
   ·rw [zzI hp hw] at he; cases he
  ·split at he
   ·cases hr:zzt (zcn t 32) with
    | none=>rw [zzH hp hr] at he; cases he
    | some x=>
     rw [zzq hp hr] at he
     split at he
     ·cases he
     ·rename_i h0
      split at he
      ·cases he
       intro v hv
       rcases List.mem_or_eq_of_mem_set hv with h' | h'
       ·exact h v h'
       ·rw [h']; have:=h _ (za0 (l:=q.V) (i:=q.V.length - 1) (by omega)); exact this
      ·cases he
   ·cases he
theorem zy0 (_q:Plan):∀ (l:List ByteArray) (n:Int) (q:Plan),zdo q n (zfN l)=zdo q n l
 | [],_,_=>rfl
 | [x],n,q=>by
  rw [zfN]
  split
  ·rename_i h
   rw [zdo,zdo,if_pos (zv1 h),zdo]
  ·rfl
 | x :: y :: r,n,q=>by
  rw [zfN,zdo,zdo]
  split
  ·exact zy0 q _ _ _
  ·split
   ·rfl
   ·exact zy0 q _ _ _
def outQ (q:Plan):Except Int Plan→Plan
 | .ok q'=>q'
 | .error _=>q
end Go.Pln
namespace Go.K
open Go Go.RowKit
abbrev onB (N:Nat) (listed:Array Bool):Nat→Bool:=fun k=>Nat.ble N k||onF listed k
structure Inv4 {XS:Nat→Type} (c:Cx) (ds:List Deferred) (ops pre:List Oper) (T0:List (Nat×Value)) (H:List Res) (S:List (E3 XS)) (N:Nat) (listed:Array Bool) (a:Act) (w:World):Prop where
 base:Base c.U c.w0 w
 size:a.tmps.size=c.n
 defers:a.defers=ds
 closed:∀ (k:Nat) (o:Oper),ops[k]?=some o→isOn listed k→∀ j,zaT o j=true→isOn listed j
 old:∀ s v,lk T0 s=some v→(∀ (i:Nat) (o:Oper),pre[i]?=some o→isOn listed i→o.dst≠some s)→a.tmps[s]?=some v
 fam:∃ (ρ:(i:Nat)→XS i) (B:Nat→Nat→Prop),(∀ x∈S,isOn listed x.i→∀ d,x.d=some d→a.tmps[d]?=some (x.V ρ))∧Slots c H (fun j=>zbe ρ (onB N listed) j S) B w
section
variable {XS:Nat→Type} {c:Cx} {ds:List Deferred} {p:Post} {ops pre suf:List Oper} {T0:List (Nat×Value)} {H:List Res} {S:List (E3 XS)} {listed:Array Bool} {a:Act} {w:World} {ms:List Nat} {N:Nat}
theorem ziu {N i:Nat} {l:Array Bool} (h:i < N) (hn:¬ isOn l i):onB N l i=false:=by
 unfold isOn at hn
 have h1:Nat.ble N i=false:=by
  cases hb:Nat.ble N i with
  | false=>rfl
  | true=>have:=Nat.le_of_ble_eq_true hb; omega
 show(Nat.ble N i||l.getD i false)=false
 rw [h1]; simpa using hn
theorem zqk {N i:Nat} {l:Array Bool} (h:isOn l i):onB N l i=true:=by
 show(Nat.ble N i||l.getD i false)=true
 unfold isOn at h
 rw [h,Bool.or_true]
theorem zkd {N i:Nat} {l:Array Bool} (h:N≤i):onB N l i=true:=by
 show(Nat.ble N i||l.getD i false)=true
 rw [Nat.ble_eq_true_of_le h]; rfl
theorem zhA {N i:Nat} {l:Array Bool} (h:i < N) (ho:onB N l i=true):isOn l i:=Classical.byContradiction fun hn=>by rw [ziu h hn] at ho; cases ho
theorem zeh {N:Nat} {l:Array Bool} {i:Nat} (hi:i < l.size) (j:Nat):onB N (l.setIfInBounds i true) j=(Nat.beq j i||onB N l j):=by
 show(Nat.ble N j||onF (l.setIfInBounds i true) j)=(Nat.beq j i||(Nat.ble N j||onF l j))
 rw [zfn hi]
 cases Nat.ble N j <;> cases Nat.beq j i <;> rfl
def zeU {XS:Nat→Type} (N:Nat):Nat→List Res→List (E3 XS)
 | _,[]=>[]
 | k,R :: r=>⟨N+k,none,some (N+k),fun _=>undef,fun _=>R⟩ :: zeU N (k+1) r
theorem zel {XS:Nat→Type} {N:Nat}:∀ {Hb:List Res} {k:Nat} {x:E3 XS},x∈zeU N k Hb→N+k≤x.i∧x.d=none∧x.t=some x.i∧∀ ρ ρ':(i:Nat)→XS i,x.A ρ=x.A ρ'
 | [],_,_,h=>by cases h
 | R :: r,k,x,h=>by
  rcases List.mem_cons.1 h with rfl | h'
  ·exact⟨Nat.le_refl _,rfl,rfl,fun _ _=>rfl⟩
  ·obtain⟨h1,h2⟩:=zel h'
   exact⟨by omega,h2⟩
theorem zmW {XS:Nat→Type} {N:Nat}:∀ (Hb:List Res) (k:Nat),((zeU (XS:=XS) N k Hb).map (·.i)).Nodup
 | [],_=>List.nodup_nil
 | R :: r,k=>by
  show(((N+k) :: (zeU (XS:=XS) N (k+1) r).map (·.i))).Nodup
  refine List.nodup_cons.2 ⟨fun h=>?_,zmW r (k+1)⟩
  obtain⟨x,hx,he⟩:=List.mem_map.1 h
  have:=(zel hx).1
  omega
structure zAl (c:Cx) (ds:List Deferred) (T:List (Nat×Value)) (H:List Res) (st:Oper) (R:Res) {Z:Type} (V:Z→Value) (A:Z→Res):Prop where
 run:∀ a w B,Sat c.n T ds a→Hp c.U c.w0 H w→(∀ k,B k→k < w.heap.size)→R.A B w→Yld c.P st a w (fun v w'=>∃ z,v=V z∧Mod B w w'∧∃ B',Own B B' w w'∧(A z).A B' w')
def Go4 (N:Nat) (c:Cx) (ds:List Deferred) (pre:List Oper) (ms:List Nat) (T0:List (Nat×Value)) (H:List Res) (i:Nat) (o:Oper) (S:List (E3 XS)) (x:E3 XS):Prop:=
 Go3 c ds pre ms T0 H i o S x ∨
 (x.d=none∧∃ j,x.t=some j∧Nat.ble N j=true∧(S.all fun y=>!tIs y.t j||(Nat.ble N y.i||rcf ms i y.i))=true ∧
  ∀ ρ:(i:Nat)→XS i,∃ R,zbe ρ (fun k=>Nat.ble N k||rcf ms i k) j S=some R∧zfW c ds (zdA ρ (zaT o) S++zcl pre i T0) H o R (x.A ρ)) ∨
 (x.d.isSome=true∧∃ j,x.t=some j∧Nat.ble N j=true∧(S.all fun y=>!tIs y.t j||(Nat.ble N y.i||rcf ms i y.i))=true∧∃ (V:XS i→Value) (A:XS i→Res),(∀ ρ,x.V ρ=V (ρ i))∧(∀ ρ,x.A ρ=A (ρ i)) ∧
  ∀ ρ:(i:Nat)→XS i,∃ R,zbe ρ (fun k=>Nat.ble N k||rcf ms i k) j S=some R∧zAl c ds (zdA ρ (zaT o) S++zcl pre i T0) H o R V A)
def Ob4 (N:Nat) (c:Cx) (ds:List Deferred) (pre:List Oper) (ms:List Nat) (T0:List (Nat×Value)) (H:List Res) (i:Nat) (o:Oper) (S:List (E3 XS)) (x:E3 XS):Prop:=
 match o.guard with
 | none=>Go4 N c ds pre ms T0 H i o S x
 | some (j,want)=>(∃ V0,lk3 S j=some V0∧(∀ ρ,V0 ρ=.bool want)∧zaT o j=true∧Go4 N c ds pre ms T0 H i o S x) ∨
  ∃ (V0:((i:Nat)→XS i)→Value) (u0:Value) (q:Bool) (u:((i:Nat)→XS i)→Value),lk3 S j=some V0∧(∀ ρ,V0 ρ=u0)∧zaT o j=true∧(q=true↔u0=.bool want)∧x.t=none∧x.d.isSome=true ∧
   (∀ ρ,x.V ρ=if q=true then u ρ else undef)∧(q=true→∀ ρ:(i:Nat)→XS i,Y c ds (zeS ρ (rcf ms i) S S++H) (zdA ρ (zaT o) S++zcl pre i T0) o (u ρ))
def PH4 (N:Nat) (c:Cx) (ds:List Deferred) (pre:List Oper) (ms:List Nat) (T0:List (Nat×Value)) (H:List Res) (K:List (E3 XS)→Prop):Nat→List Oper→List (E3 XS)→Prop
 | _,[],S=>K S
 | i,o :: r,S=>∃ x:E3 XS,x.i=i∧x.d=o.dst∧Loc3 ms x∧Ob4 N c ds pre ms T0 H i o S x∧PH4 N c ds pre ms T0 H K (i+1) r (x :: S)
structure Ents4 (N:Nat) (ms:List Nat) (pre:List Oper) (S:List (E3 XS)):Prop where
 nd:(S.map (·.i)).Nodup
 op:∀ x∈S,x.i < N→∃ o,pre[x.i]?=some o∧o.dst=x.d
 bs:∀ x∈S,N≤x.i→x.d=none∧x.t=some x.i∧∀ ρ ρ':(i:Nat)→XS i,x.A ρ=x.A ρ'
 loc:∀ x∈S,x.i < N→Loc3 ms x
 sto:∀ x∈S,∀ j,x.t=some j→j≠x.i→x.i < N∧((j < N∧rcf ms x.i j=true∧∀ r,r < x.i→rcf ms r j=true→rcf ms x.i r=true)∨(N≤j∧∀ y∈S,y.t=some j→y.i < x.i→rcf ms x.i y.i=true))
theorem Ents4.uniq (h:Ents4 N ms pre S):∀ x∈S,∀ y∈S,x.i=y.i→x=y:=by
 have key:∀ (L:List (E3 XS)),(L.map (·.i)).Nodup→∀ x∈L,∀ y∈L,x.i=y.i→x=y:=by
  intro L
  induction L with
  | nil=>intro _ x hx; cases hx
  | cons z r ih=>
   intro hn x hx y hy hxy
   simp only [List.map_cons,List.nodup_cons] at hn
   rcases List.mem_cons.1 hx with rfl | hx' <;> rcases List.mem_cons.1 hy with rfl | hy'
   ·rfl
   ·exact absurd (List.mem_map.2 ⟨y,hy',hxy.symm⟩) hn.1
   ·exact absurd (List.mem_map.2 ⟨x,hx',hxy⟩) hn.1
   ·exact ih hn.2 x hx' y hy' hxy
 exact key S h.nd
theorem Inv4.sat (hI:Inv4 c ds ops pre T0 H S N listed a w) {ρ:(i:Nat)→XS i} (hv:∀ x∈S,isOn listed x.i→∀ d,x.d=some d→a.tmps[d]?=some (x.V ρ)) {i:Nat} (hpre:∀ (k:Nat) o,pre[k]?=some o→ops[k]?=some o) (hun:¬ isOn listed i)
  {o:Oper} (hclo:∀ j,zaT o j=true→isOn listed j) {S':List (E3 XS)} (hS:∀ x∈S',x∈S):Sat c.n (zdA ρ (zaT o) S' ++ zcl pre i T0) ds a:=by
 refine⟨hI.size,fun t v h=>?_,hI.defers⟩
 rcases zez S' h with ⟨x,hx,hd,hb,rfl⟩ | h
 ·exact hv x (hS x hx) (hclo _ hb) t hd
 ·rw [zhu] at h
  obtain⟨h1,h2⟩:=zcD (fun s=>pre.all (fun f=>(match f.dst with | some d=>!Nat.beq d s | none=>true)||zaT f i)) T0 _ (fun _ _ _ _=>trivial) rfl t v h
  refine hI.old t v h1 fun k o hk hon hd=>?_
  rw [List.all_eq_true] at h2
  have h3:=h2 o (List.mem_of_getElem? hk)
  rw [hd] at h3
  simp only [Nat.beq_refl,Bool.not_true,Bool.false_or] at h3
  exact hun (hI.closed k o (hpre k o hk) hon i h3)
theorem Inv4.shown (hI:Inv4 c ds ops pre T0 H S N listed a w) (hE:Ents4 N ms pre S) {ρ:(i:Nat)→XS i} {B:Nat→Nat→Prop} (hs:Slots c H (fun j=>zbe ρ (onB N listed) j S) B w) {i:Nat} (hun:¬ isOn listed i)
  (hrc:∀ j,rcf ms i j=true→isOn listed j) (hrcl:∀ k,isOn listed k→∀ j,rcf ms k j=true→isOn listed j) {q S':List (E3 XS)} {x:E3 XS} (hxi:x.i=i) (hq:S=q++x :: S') (hgt:∀ y∈q,i < y.i) (hqN:∀ y∈q,y.i < N) (hxN:i < N) :
  Hp c.U c.w0 (zeS ρ (rcf ms i) S' S' ++ H) w∧∀ j,okSt (rcf ms i) j S' = true→rcf ms i j=true→zbe ρ (rcf ms i) j S' = zbe ρ (onB N listed) j S:=by
 have heq:∀ j,okSt (rcf ms i) j S' = true→rcf ms i j=true→zbe ρ (rcf ms i) j S' = zbe ρ (onB N listed) j S:=fun j hok hij=>by
  have h1:zbe ρ (onB N listed) j S=zbe ρ (onB N listed) j S':=by
   rw [hq]
   have e:q++x :: S' = (q++[x])++S':=by simp
   rw [e]
   refine zb0 (q++[x]) S' fun y hy ht=>?_
   have hyS:y∈S:=by rw [hq,e]; exact List.mem_append_left _ hy
   have hoff:¬ isOn listed y.i:=fun hon=>by
    rcases List.mem_append.1 hy with hy' | hy'
    ·have hgt':=hgt y hy'
     have hji:=zhm hij
     rcases(hE.sto y hyS j (zcq.1 ht) (by omega)).2 with ⟨_,_,h2⟩ | ⟨hN,_⟩
     ·exact hun (hrcl _ hon i (h2 i hgt' hij))
     ·omega
    ·rw [List.mem_singleton.1 hy',hxi] at hon
     exact hun hon
   refine ziu ?_ hoff
   rcases List.mem_append.1 hy with hy' | hy'
   ·exact hqN y hy'
   ·rw [List.mem_singleton.1 hy',hxi]; exact hxN
  rw [h1]
  refine zbN S' fun y hy ht=>?_
  have h2:=zfm S' hok y hy ht
  have h3:=hrc _ h2
  exact⟨by rw [h2,zqk h3],fun _=>rfl⟩
 refine⟨⟨hI.base,?_⟩,heq⟩
 have hnd:(S'.map (·.i)).Nodup:=by
  have:=hE.nd
  rw [hq,List.map_append,List.nodup_append] at this
  have:=this.2.1
  rw [List.map_cons,List.nodup_cons] at this
  exact this.2
 obtain⟨js,_,h2,h3⟩:=zgL (ρ:=ρ) (rc:=rcf ms i) (S:=S') (G:=fun j=>zbe ρ (onB N listed) j S) (fun j hok hex R hR=>by
  obtain⟨y,hy,hyj,ht⟩:=hex
  have:rcf ms i j=true:=zfm S' hok y hy (by rw [←hyj]; exact ht) |> (hyj ▸ ·)
  rw [←heq j hok this]; exact hR) S' (fun _ h=>h) hnd
 exact hs.holds js _ h3 h2
theorem Inv4.put (hI:Inv4 c ds ops pre T0 H S N listed a w) (hE:Ents4 N ms pre S) {i d:Nat} {o:Oper} {x:E3 XS} (hx:x∈S) (hxi:x.i=i) (hp:pre[i]?=some o) (ho:ops[i]?=some o) (hil:i < listed.size) (hd:o.dst=some d) (hxd:x.d=some d)
  (hdist:∀ j oj,pre[j]?=some oj→j≠i→oj.dst≠some d) (hn:d < c.n) (hclo:∀ j,zaT o j=true→isOn listed j) {w':World} {v:Value} (hb:Base c.U c.w0 w') {ρ':(i:Nat)→XS i} {B':Nat→Nat→Prop}
  (hv:v=x.V ρ') (hold:∀ y∈S,isOn listed y.i→y.i≠i→∀ d',y.d=some d'→a.tmps[d']?=some (y.V ρ')) (hs:Slots c H (fun j=>zbe ρ' (onB N (listed.setIfInBounds i true)) j S) B' w') :
  Inv4 c ds ops pre T0 H S N (listed.setIfInBounds i true) (a.put (some d) v) w':=by
 have hon:∀ j,isOn (listed.setIfInBounds i true) j↔j=i∨isOn listed j:=zbt hil
 have hput:∀ t u,t≠d→a.tmps[t]?=some u→(a.put (some d) v).tmps[t]?=some u:=fun t u ht hu=>by
  simp only [Act.put]
  rw [Array.getElem?_setIfInBounds_ne (Ne.symm ht)]; exact hu
 refine⟨hb,by simp [Act.put,hI.size],hI.defers,zem hI.closed ho hil hclo,?_,ρ',B',?_,hs⟩
 ·intro s u hs' hno
  have hsd:s≠d:=fun h=>hno i o hp ((hon i).2 (.inl rfl)) (by rw [hd,h])
  exact hput s u hsd (hI.old s u hs' (fun k ok hk hlk=>hno k ok hk ((hon k).2 (.inr hlk))))
 ·intro y hy hoy d' hd'
  by_cases hyi:y.i=i
  ·have:y=x:=hE.uniq y hy x hx (hyi.trans hxi.symm)
   subst this
   rw [hxd,Option.some.injEq] at hd'
   subst hd'
   simp [Act.put,hI.size,hn,hv]
  ·have hly:isOn listed y.i:=((hon y.i).1 hoy).resolve_left hyi
   refine hput d' _ ?_ (hold y hy hly hyi d' hd')
   intro hdd
   obtain⟨oy,hoy',hdy⟩:=hE.op y hy (Nat.lt_of_not_le fun h=>by rw [(hE.bs y hy h).1] at hd'; cases hd')
   exact hdist y.i oy hoy' hyi (by rw [hdy,hd',hdd])
theorem zqo {K:List (E3 XS)→Prop}:∀ (r:List Oper) (i:Nat) (Sa:List (E3 XS)),PH4 N c ds pre ms T0 H K i r Sa→∃ S,K S∧(∃ q,S=q++Sa∧q.map (·.i)=(List.range' i r.length).reverse) ∧
  ∀ (j:Nat) o,r[j]?=some o→∃ x S1,x.i=i+j∧x.d=o.dst∧Loc3 ms x∧Ob4 N c ds pre ms T0 H (i+j) o (S1++Sa) x∧∃ q,S=q++x :: (S1++Sa)
 | [],i,Sa,h=>⟨Sa,h,⟨[],rfl,rfl⟩,fun j o hj=>by simp at hj⟩
 | o :: r,i,Sa,h=>by
  obtain⟨x,hi,hd,hl,hO,hr⟩:=h
  obtain⟨S,hK,⟨q,hq,hq2⟩,hall⟩:=zqo r (i+1) _ hr
  refine⟨S,hK,⟨q++[x],by rw [hq]; simp,?_⟩,?_⟩
  ·simp only [List.map_append,hq2,List.map_cons,List.map_nil,List.length_cons,List.range'_succ,List.reverse_cons,hi]
  ·intro j oj hj
   cases j with
   | zero=>
    simp only [List.getElem?_cons_zero,Option.some.injEq] at hj
    subst hj
    exact⟨x,[],hi,hd,hl,hO,q,hq⟩
   | succ j=>
    simp only [List.getElem?_cons_succ] at hj
    obtain⟨x',S1,h1,h2,h3,h4,q',h5⟩:=hall j oj hj
    have e:S1++x :: Sa=(S1++[x])++Sa:=by simp
    rw [e] at h4 h5
    exact⟨x',S1++[x],by omega,h2,h3,by rwa [show i+(j+1)=i+1+j from by omega],q',h5⟩
def Sto4 (N:Nat) (ms:List Nat) (S':List (E3 XS)) (x:E3 XS):Prop:=∀ j,x.t=some j→j≠x.i→(j < N∧rcf ms x.i j=true∧∀ r,r < x.i→rcf ms r j=true→rcf ms x.i r=true)∨(N≤j∧∀ y∈S',y.t=some j→y.i < N→rcf ms x.i y.i=true)
theorem zv0 {i:Nat} {o:Oper} {S':List (E3 XS)} {x:E3 XS} (h:Go4 N c ds pre ms T0 H i o S' x) (hxi:x.i=i) (hN:i < N):Sto4 N ms S' x:=by
 have key:∀ j,x.t=some j→Nat.ble N j=true→(S'.all fun y=>!tIs y.t j||(Nat.ble N y.i||rcf ms i y.i))=true→Sto4 N ms S' x:=fun j ht h1 h2=>by
  intro j' hj hne
  rw [ht,Option.some.injEq] at hj
  subst hj
  refine .inr ⟨Nat.le_of_ble_eq_true h1,fun y hy hyt hyN=>?_⟩
  have h3:=List.all_eq_true.1 h2 y hy
  rw [zcq.2 hyt] at h3
  have h4:Nat.ble N y.i=false:=by
   cases hb:Nat.ble N y.i with
   | false=>rfl
   | true=>have:=Nat.le_of_ble_eq_true hb; omega
  rw [h4] at h3
  rw [hxi]
  simpa using h3
 rcases h with h | ⟨_,j,ht,h1,h2,_⟩ | ⟨_,j,ht,h1,h2,_⟩
 ·intro j hj hne
  obtain⟨a,b⟩:=ztX h hxi j hj hne
  have:=zhm a
  exact .inl ⟨by omega,a,b⟩
 ·exact key j ht h1 h2
 ·exact key j ht h1 h2
theorem zxs {i:Nat} {o:Oper} {S':List (E3 XS)} {x:E3 XS} (h:Ob4 N c ds pre ms T0 H i o S' x) (hxi:x.i=i) (hN:i < N):Sto4 N ms S' x:=by
 unfold Ob4 at h
 cases hg:o.guard with
 | none=>rw [hg] at h; exact zv0 h hxi hN
 | some gw=>
  rw [hg] at h
  rcases h with ⟨_,_,_,_,h⟩ | ⟨_,_,_,_,_,_,_,_,ht,_⟩
  ·exact zv0 h hxi hN
  ·intro j hj; rw [ht] at hj; cases hj
theorem zrB (hI:Inv4 c ds ops pre T0 H S N listed a w) {ρ:(i:Nat)→XS i} (hv:∀ x∈S,isOn listed x.i→∀ d,x.d=some d→a.tmps[d]?=some (x.V ρ)) (hall:∀ x∈S,∀ d,x.d=some d→isOn listed x.i):Sat c.n (zdA ρ (fun _=>true) S++zd3 pre T0) ds a:=by
 refine⟨hI.size,fun t v h=>?_,hI.defers⟩
 rcases zez S h with ⟨x,hx,hd,_,rfl⟩ | h
 ·exact hv x hx (hall x hx t hd) t hd
 ·rw [zeI] at h
  obtain⟨h1,h2⟩:=zcD (fun s=>pre.all (fun f=>match f.dst with | some d=>!Nat.beq d s | none=>true)) T0 _ (fun _ _ _ _=>trivial) rfl t v h
  refine hI.old t v h1 fun k o hk _ hd=>?_
  rw [List.all_eq_true] at h2
  have h3:=h2 o (List.mem_of_getElem? hk)
  rw [hd] at h3
  simp at h3
theorem zux {S0 q0:List (E3 XS)} (hN:(pre++suf).length≤N) (hc:zeY c.n pre suf ms=true) (hE:Ents4 N ms pre S) (hS:S=q0++S0) (hS1:q0.map (·.i)=(List.range' 0 pre.length).reverse) (hS0:∀ x∈S0,N≤x.i)
  (hall:∀ (j:Nat) o,pre[j]?=some o→∃ (x:E3 XS) (S1:List (E3 XS)),x.i=0+j∧x.d=o.dst∧Loc3 ms x∧Ob4 N c ds pre ms T0 H (0+j) o (S1++S0) x∧∃ q,S=q++x :: (S1++S0))
  (hK:∀ ρ:(i:Nat)→XS i,GK c ds (KL c (pre++suf).toArray p suf) (zdA ρ (fun _=>true) S++zd3 pre T0) (zeS ρ (fun _=>true) S S++H)) :
  ∀ (fuel:Nat) (listed:Array Bool) (a:Act) (w:World),((List.range (pre++suf).length).filter (fun i=>!listed.getD i false)).length≤fuel→listed.size=(pre++suf).length →
   (∀ k,pre.length≤k→¬ isOn listed k)→Inv4 c ds (pre++suf) pre T0 H S N listed a w→wpAnyIn (FW c.r) 0 c.P .any (pre++suf).toArray p.Q fuel listed a w:=by
 simp only [zeY,Bool.and_eq_true] at hc
 obtain⟨⟨⟨⟨⟨⟨hback,hdef⟩,hdst⟩,hok⟩,hfirst⟩,hchain⟩,hmk⟩:=hc
 have hpre:∀ (k:Nat) o,pre[k]?=some o→(pre++suf)[k]?=some o:=fun k o h=>by
  have:=(List.getElem?_eq_some_iff.1 h).1
  rw [List.getElem?_append_left this]; exact h
 have hpN:pre.length≤N:=by rw [List.length_append] at hN; omega
 have hmem:∀ x∈S,x.i < pre.length∨N≤x.i:=fun x hx=>by
  rw [hS] at hx
  rcases List.mem_append.1 hx with hx | hx
  ·have hjm:x.i∈q0.map (·.i):=List.mem_map.2 ⟨_,hx,rfl⟩
   rw [hS1,List.mem_reverse,List.mem_range'_1] at hjm
   exact .inl (by omega)
  ·exact .inr (hS0 x hx)
 have fin:∀ (listed:Array Bool) (a:Act) (w:World),(∀ i,i < pre.length→isOn listed i)→Inv4 c ds (pre++suf) pre T0 H S N listed a w→KL c (pre++suf).toArray p suf a w:=by
  intro listed a w hallon hI
  obtain⟨ρ,B,hv,hs⟩:=hI.fam
  have hon:∀ x∈S,onB N listed x.i=true:=fun x hx=>(hmem x hx).elim (fun h=>zqk (hallon _ h)) zkd
  refine hK ρ a w (zrB hI hv fun x hx d hd=>hallon _ ((hmem x hx).resolve_right fun h=>by rw [(hE.bs x hx h).1] at hd; cases hd)) ⟨hI.base,?_⟩
  obtain⟨js,_,h2,h3⟩:=zgL (ρ:=ρ) (rc:=fun _=>true) (S:=S) (G:=fun j=>zbe ρ (onB N listed) j S) (fun j _ _ R hR=>by
   rw [←hR]
   exact zbN S fun y hy _=>⟨hon y hy,fun _=>rfl⟩) S (fun _ h=>h) hE.nd
  exact hs.holds js _ h3 h2
 intro fuel
 induction fuel with
 | zero=>
  intro listed a w hf hsz hsuf hI
  by_cases hallon:∀ i,i < pre.length→isOn listed i
  ·have hl:=fin listed a w hallon hI
   have h0:suf.length=0:=by
    rcases Nat.eq_zero_or_pos suf.length with h | h
    ·exact h
    ·exfalso
     have hmem:pre.length∈(List.range (pre++suf).length).filter (fun i=>!listed.getD i false):=by
      rw [List.mem_filter,List.mem_range]
      refine⟨by simp; omega,?_⟩
      have:=hsuf pre.length (Nat.le_refl _)
      unfold isOn at this
      simp only [Bool.not_eq_true] at this
      rw [this]; rfl
     have:=List.length_pos_of_mem hmem
     omega
   refine zhl (m:=pre.length) hback hchain 0 0 0 listed a w (by rw [List.length_append]; omega) (Nat.le_refl _) hsz (fun k hk=>⟨fun _=>by simp at hk; omega,fun h=>hallon k (by omega)⟩) ?_
   rw [Nat.add_zero,List.drop_left]
   exact hl
  ·exfalso
   obtain⟨i,hi⟩:=Classical.not_forall.1 hallon
   obtain⟨hi1,hi2⟩:=Classical.not_imp.1 hi
   have hmem:i∈(List.range (pre++suf).length).filter (fun i=>!listed.getD i false):=by
    rw [List.mem_filter,List.mem_range]
    refine⟨by simp; omega,?_⟩
    unfold isOn at hi2
    simp only [Bool.not_eq_true] at hi2
    rw [hi2]; rfl
   have:=List.length_pos_of_mem hmem
   omega
 | succ fuel ih=>
  intro listed a w hf hsz hsuf hI
  have hrcl:∀ k,isOn listed k→∀ j,rcf ms k j=true→isOn listed j:=fun k hk j hj=>by
   have hkl:k < pre.length:=by
    rcases Nat.lt_or_ge k pre.length with h | h
    ·exact h
    ·exact absurd hk (hsuf k h)
   exact zfI hmk hback hI.closed k pre[k] (hpre k _ (by simp [hkl])) (fun j hj=>hI.closed k pre[k] (hpre k _ (by simp [hkl])) hk j hj) j hj
  by_cases hallon:∀ i,i < pre.length→isOn listed i
  ·have hl:=fin listed a w hallon hI
   have hcnt:suf.length≤fuel+1:=by
    refine Nat.le_trans ?_ hf
    rw [List.length_append,List.range_eq_range',←List.range'_append_1,List.filter_append,List.length_append]
    refine Nat.le_trans ?_ (Nat.le_add_left _ _)
    rw [List.filter_eq_self.2 (fun x hx=>?_)]
    ·simp
    ·rw [List.mem_range'_1] at hx
     have:=hsuf x (by omega)
     unfold isOn at this
     simp only [Bool.not_eq_true] at this
     rw [this]; rfl
   refine zhl (m:=pre.length) hback hchain suf.length 0 (fuel+1) listed a w (by simp) hcnt hsz (fun k hk=>⟨fun hon=>?_,fun h=>hallon k (by omega)⟩) ?_
   ·rcases Nat.lt_or_ge k pre.length with h | h
    ·omega
    ·exact absurd hon (hsuf k h)
   rw [Nat.add_zero,List.drop_left]
   exact hl
  ·have hex:∃ i,i < pre.length∧¬ isOn listed i:=by
    obtain⟨i,hi⟩:=Classical.not_forall.1 hallon
    exact⟨i,Classical.not_imp.1 hi⟩
   refine⟨fun h0=>?_,fun i hi=>?_⟩
   ·exfalso
    have least:∀ n,(∃ i,i < n∧¬ isOn listed i)→∃ i,i < n∧¬ isOn listed i∧∀ k,k < i→isOn listed k:=by
     intro n
     induction n with
     | zero=>rintro ⟨i,hi,_⟩; omega
     | succ n ih=>
      rintro ⟨i,hi,hno⟩
      by_cases h:∃ i,i < n∧¬ isOn listed i
      ·obtain⟨j,h1,h2,h3⟩:=ih h
       exact⟨j,by omega,h2,h3⟩
      ·refine⟨i,hi,hno,fun k hk=>Classical.byContradiction fun hn=>h ⟨k,by omega,hn⟩⟩
    obtain⟨i,h1,h2,h3⟩:=least _ hex
    have hlt:i < (pre++suf).length:=by simp; omega
    have:i∈Region.ready .any (pre++suf).toArray listed:=by
     refine(zbX (by simpa using hsz)).2 ⟨by simpa using hlt,h2,(pre++suf)[i],by simp,fun j hj=>?_⟩
     have:=zbY _ 0 hback i (pre++suf)[i] (by simp) j hj
     exact h3 j (by omega)
    rw [h0] at this
    cases this
   ·obtain⟨g1,g2,o,ho,g3⟩:=(zbX (by simpa using hsz)).1 hi
    simp only [List.size_toArray] at g1
    have ho':(pre++suf)[i]?=some o:=by simpa using ho
    have him:i < pre.length:=by
     rcases Nat.lt_or_ge i pre.length with h | h
     ·exact h
     ·exfalso
      rcases Nat.lt_or_ge pre.length i with hgt | hle
      ·unfold zhL at hchain
       have:=List.all_eq_true.1 hchain (i - pre.length - 1) (by rw [List.mem_range]; omega)
       rw [show pre.length+(i - pre.length - 1)+1=i from by omega,ho'] at this
       exact hsuf _ (by omega) (g3 _ this)
      ·have hie:i=pre.length:=by omega
       have hne:suf.isEmpty=false:=by
        cases suf with
        | nil=>simp at g1; omega
        | cons _ _=>rfl
       rw [hne,Bool.false_or] at hfirst
       obtain⟨k,hk1,hk2⟩:=hex
       have:=List.all_eq_true.1 hfirst k (List.mem_range.2 hk1)
       rw [←hie] at this
       exact hk2 (zfI hmk hback hI.closed i o ho' g3 k this)
    have hpi:pre[i]?=some o:=by rw [List.getElem?_append_left him] at ho'; exact ho'
    obtain⟨x,S1,hxi,hxd,hloc,hOb,q,hq⟩:=hall i o hpi
    obtain⟨S',hS'⟩:∃ S',S1++S0=S':=⟨_,rfl⟩
    rw [hS'] at hOb hq
    rw [Nat.zero_add] at hOb hxi
    have hxS:x∈S:=by rw [hq]; simp
    have hsubS:∀ y∈S',y∈S:=fun y hy=>by rw [hq]; simp [hy]
    have hq0:q0=q++x :: S1:=by
     have e:=hS.symm.trans hq
     rw [←hS',show q++x :: (S1++S0)=(q++x :: S1)++S0 from by simp] at e
     exact List.append_cancel_right e
    have hsort:(q.map (·.i))++i :: (S1.map (·.i))=(List.range' 0 pre.length).reverse:=by
     rw [←hS1,hq0,List.map_append,List.map_cons,hxi]
    have hdesc:((q.map (·.i))++i :: (S1.map (·.i))).Pairwise (· > ·):=by
     rw [hsort,List.pairwise_reverse]
     exact List.pairwise_lt_range'
    rw [List.pairwise_append,List.pairwise_cons] at hdesc
    have hgt:∀ y∈q,i < y.i:=fun y hy=>hdesc.2.2 _ (List.mem_map.2 ⟨y,hy,rfl⟩) _ (List.mem_cons_self ..)
    have hlt:∀ y∈S',y.i < N→y.i < i:=fun y hy hyN=>by
     rw [←hS'] at hy
     rcases List.mem_append.1 hy with hy | hy
     ·exact hdesc.2.1.1 _ (List.mem_map.2 ⟨y,hy,rfl⟩)
     ·have:=hS0 y hy; omega
    have hqN:∀ y∈q,y.i < N:=fun y hy=>by
     have hjm:y.i∈q0.map (·.i):=List.mem_map.2 ⟨y,by rw [hq0]; exact List.mem_append_left _ hy,rfl⟩
     rw [hS1,List.mem_reverse,List.mem_range'_1] at hjm
     omega
    have hiN:i < N:=by omega
    have hrc:∀ j,rcf ms i j=true→isOn listed j:=fun j hj=>zfI hmk hback hI.closed i o ho' g3 j hj
    have hilt:i < listed.size:=by omega
    have hnd:zfO o=false:=by
     have:=List.all_eq_true.1 hdef o (List.mem_of_getElem? (hpre i o hpi))
     simpa using this
    have hcont:∀ (a':Act) (w':World),Inv4 c ds (pre++suf) pre T0 H S N (listed.setIfInBounds i true) a' w'→wpAnyIn (FW c.r) 0 c.P .any (pre++suf).toArray p.Q fuel (listed.setIfInBounds i true) a' w':=by
     intro a' w' hI'
     refine ih _ _ _ ?_ (by simp [hsz]) (fun k hk hon=>?_) hI'
     ·have:=zkI (l:=List.range (pre++suf).length) (q:=fun i=>!listed.getD i false) (q':=fun k=>!(listed.setIfInBounds i true).getD k false) (i:=i) ?_ (List.mem_range.2 g1) ?_ ?_
      ·omega
      ·intro x hx'
       have:¬ isOn (listed.setIfInBounds i true) x:=by unfold isOn; simpa using hx'
       have:¬ isOn listed x:=fun h=>this ((zbt hilt x).2 (.inr h))
       unfold isOn at this
       simpa using this
      ·unfold isOn at g2; simpa using g2
      ·have:isOn (listed.setIfInBounds i true) i:=(zbt hilt i).2 (.inl rfl)
       unfold isOn at this
       simp only [this]; rfl
     ·rcases(zbt hilt k).1 hon with rfl | h
      ·omega
      ·exact hsuf k hk h
    obtain⟨ρ,B,hv,hs⟩:=hI.fam
    have hsat:=hI.sat hv hpre g2 g3 hsubS
    obtain⟨hhp,hview⟩:=hI.shown hE hs g2 hrc hrcl hxi hq hgt hqN hiN
    have hother:∀ y∈S,y.i=i→y=x:=fun y hy hyi=>hE.uniq y hy x hxS (hyi.trans hxi.symm)
    have hslot0:x.t=none→∀ j,zbe ρ (onB N (listed.setIfInBounds i true)) j S=zbe ρ (onB N listed) j S:=fun ht j=>by
     refine zbN S fun y hy hyt=>⟨?_,fun _=>rfl⟩
     rw [zeh hilt]
     have:y.i≠i:=fun e=>by
      rw [hother y hy e,ht] at hyt
      cases hyt
     have hb:Nat.beq y.i i=false:=by
      cases hb:Nat.beq y.i i with
      | false=>rfl
      | true=>exact absurd (Nat.eq_of_beq_eq_true hb) this
     rw [hb,Bool.false_or]
    have hdo:∀ d,x.d=some d→d < c.n∧∀ j oj,pre[j]?=some oj→j≠i→oj.dst≠some d:=fun d hd=>by
     rw [hxd] at hd
     refine⟨?_,fun j oj hj hji=>zef pre hdst i j o oj hpi hj (Ne.symm hji) d hd⟩
     have:=List.all_eq_true.1 hok o (List.mem_of_getElem? hpi)
     rw [hd] at this
     exact Nat.le_of_ble_eq_true this
    have hpure:∀ (v:Value) (w':World),x.t=none→x.d.isSome=true→v=x.V ρ→Ext w w'→wpAnyIn (FW c.r) 0 c.P .any (pre++suf).toArray p.Q fuel (listed.setIfInBounds i true) (a.put o.dst v) w':=by
     intro v w' ht hds hveq hx
     obtain⟨d,hd⟩:=Option.isSome_iff_exists.1 hds
     obtain⟨hdn,hdist⟩:=hdo d hd
     have hod:o.dst=some d:=by rw [←hxd,hd]
     rw [hod]
     exact hcont _ _ (hI.put hE hxS hxi hpi ho' hilt hod hd hdist hdn g3 (hI.base.ext hx) hveq (fun y hy hon _ d' hd'=>hv y hy hon d' hd') ((hs.congr (hslot0 ht)).ext hx))
    have hgo:Go4 N c ds pre ms T0 H i o S' x→o.wpIn (FW c.r) 0 c.P a w (wpAnyIn (FW c.r) 0 c.P .any (pre++suf).toArray p.Q fuel (listed.setIfInBounds i true)) p.Q:=by
     rintro ((⟨ht,hds,hY⟩ | ⟨ht,hds,V,A,hVx,hAx,hVA,hY⟩ | ⟨hds,j,ht,hij,hrq,hY⟩) | ⟨hds,j,ht,hjN,hch,hY⟩ | ⟨hds,j,ht,hjN,hch,V,A,hVx,hAx,hY⟩)
     ·refine za9 hnd ((hY ρ).run a w hsat hhp) fun v w' hvw=>?_
      exact hpure v w' ht hds hvw.1 hvw.2
     ·refine za9 hnd ((hY ρ).run a w hsat hhp) fun v w' hvw=>?_
      obtain⟨u,rfl,hx,Bn,hBn,hA⟩:=hvw
      obtain⟨d,hd⟩:=Option.isSome_iff_exists.1 hds
      obtain⟨hdn,hdist⟩:=hdo d hd
      have hod:o.dst=some d:=by rw [←hxd,hd]
      rw [hod]
      let ρ':(i:Nat)→XS i:=fun k=>if h:k=i then h ▸ u else ρ k
      have hρi:ρ' i=u:=by simp [ρ']
      have hρk:∀ k,k≠i→ρ' k=ρ k:=fun k hk=>by simp [ρ',hk]
      have hsame:∀ y∈S,isOn listed y.i→y.V ρ' = y.V ρ∧y.A ρ' = y.A ρ:=fun y hy hon=>by
       refine hE.loc y hy (Nat.lt_of_not_le fun h=>hsuf y.i (by omega) hon) ρ' ρ fun k hk=>hρk k fun e=>?_
       subst e
       rcases hk with hk | hk
       ·exact g2 (hrcl _ hon _ hk)
       ·rw [←hk] at hon; exact g2 hon
      have hsameA:∀ y∈S,onB N listed y.i=true→y.A ρ' = y.A ρ:=fun y hy hon=>by
       rcases Nat.lt_or_ge y.i N with h | h
       ·exact(hsame y hy (zhA h hon)).2
       ·exact(hE.bs y hy h).2.2 _ _
      have hVA':=hVA ρ' ρ (fun k hk=>hρk k (fun e=>by have:=zhm hk; omega))
      have hxV:x.V ρ' = V ρ u:=by rw [hVx,hVA'.1,hρi]
      have hxA:x.A ρ' = A ρ u:=by rw [hAx,hVA'.2,hρi]
      have hsl:∀ j,zbe ρ' (onB N (listed.setIfInBounds i true)) j S=if j=i then some (A ρ u) else zbe ρ (onB N listed) j S:=fun j=>by
       by_cases hji:j=i
       ·rw [if_pos hji,hq,hji]
        rw [zb0 q]
        ·show(bif tIs x.t i&&onB N (listed.setIfInBounds i true) x.i then some (x.A ρ') else zbe ρ' _ i S')=_
         rw [ht,hxi,zeh hilt,Nat.beq_refl,hxA]
         show(bif Nat.beq i i&&true then _ else _)=_
         rw [Nat.beq_refl]; rfl
        ·intro y hy hyt
         have hyS:y∈S:=by rw [hq]; exact List.mem_append_left _ hy
         have hgi:=hgt y hy
         have h1:rcf ms y.i i=true:=by
          rcases(hE.sto y hyS i (zcq.1 hyt) (by omega)).2 with ⟨_,h1,_⟩ | ⟨h1,_⟩
          ·exact h1
          ·omega
         rw [zeh hilt]
         have hb:Nat.beq y.i i=false:=by
          cases hb:Nat.beq y.i i with
          | false=>rfl
          | true=>have:=Nat.eq_of_beq_eq_true hb; omega
         rw [hb,Bool.false_or]
         cases ho2:onB N listed y.i with
         | false=>rfl
         | true=>exact absurd (hrcl y.i (zhA (hqN y hy) ho2) i h1) g2
       ·rw [if_neg hji]
        refine zbN S fun y hy hyt=>?_
        have hyi:y.i≠i:=fun e=>by
         rw [hother y hy e,ht] at hyt
         exact hji (Option.some.inj (zcq.1 hyt)).symm
        have hb:Nat.beq y.i i=false:=by
         cases hb:Nat.beq y.i i with
         | false=>rfl
         | true=>exact absurd (Nat.eq_of_beq_eq_true hb) hyi
        have he:onB N (listed.setIfInBounds i true) y.i=onB N listed y.i:=by rw [zeh hilt,hb,Bool.false_or]
        exact⟨he,fun hon=>hsameA y hy (by rw [←he]; exact hon)⟩
      exact hcont _ _ (hI.put hE hxS hxi hpi ho' hilt hod hd hdist hdn g3 (hI.base.ext hx) hxV.symm (fun y hy hon _ d' hd'=>by rw [(hsame y hy hon).1]; exact hv y hy hon d' hd') ((hs.new hI.base hx i hBn hA).congr hsl))
     ·obtain⟨R,hR,hSO⟩:=hY ρ
      have hod:o.dst=none:=by rw [←hxd,hds]
      have hjlt:=zhm hij
      have hGj:zbe ρ (onB N listed) j S=some R:=by
       rw [←hview j ?_ hij]; exact hR
       have key:∀ (L:List (E3 XS)),(∀ y∈L,y∈S')→okSt (rcf ms i) j L=true:=by
        intro L
        induction L with
        | nil=>intro _; rfl
        | cons y L ihL=>
         intro hL
         have hy:=hL y (List.mem_cons_self ..)
         show(((!tIs y.t j||rcf ms i y.i))&&okSt (rcf ms i) j L)=true
         rw [ihL (fun z hz=>hL z (List.mem_cons_of_mem _ hz)),Bool.and_true]
         cases hyt:tIs y.t j with
         | false=>rfl
         | true=>
          show rcf ms i y.i=true
          by_cases hyj:j=y.i
          ·rw [←hyj]; exact hij
          ·obtain⟨hyN,hst⟩:=hE.sto y (hsubS y hy) j (zcq.1 hyt) hyj
           have h1:rcf ms y.i j=true:=by
            rcases hst with ⟨_,h1,_⟩ | ⟨h1,_⟩
            ·exact h1
            ·omega
           have:=List.all_eq_true.1 hrq y.i (List.mem_range.2 (hlt y hy hyN))
           rw [h1] at this
           simpa using this
       exact key S' (fun _ h=>h)
      obtain⟨g4,g5⟩:=hs.own j R hGj
      refine za9 hnd (hSO.run a w (B j) hsat ⟨hI.base,?_⟩ (fun k hk=>(g5 k hk).2) g4) fun v w' hvw=>?_
      ·exact Holds.anti H (fun k hk=>.inl hk) hs.out
      obtain⟨hm,B',ho2,hA'⟩:=hvw
      rw [hod]
      obtain⟨hb',hs'⟩:=hs.upd hGj hI.base hm ho2 hA'
      have hsl:∀ k,zbe ρ (onB N (listed.setIfInBounds i true)) k S=if k=j then some (x.A ρ) else zbe ρ (onB N listed) k S:=fun k=>by
       by_cases hkj:k=j
       ·rw [if_pos hkj,hq,hkj]
        rw [zb0 q]
        ·show(bif tIs x.t j&&onB N (listed.setIfInBounds i true) x.i then some (x.A ρ) else zbe ρ _ j S')=_
         rw [ht,hxi,zeh hilt,Nat.beq_refl]
         show(bif Nat.beq j j&&true then _ else _)=_
         rw [Nat.beq_refl]; rfl
        ·intro y hy hyt
         have hyS:y∈S:=by rw [hq]; exact List.mem_append_left _ hy
         have hgi:=hgt y hy
         have h1:rcf ms y.i i=true:=by
          rcases(hE.sto y hyS j (zcq.1 hyt) (by omega)).2 with ⟨_,_,h1⟩ | ⟨h1,_⟩
          ·exact h1 i hgi hij
          ·omega
         rw [zeh hilt]
         have hb:Nat.beq y.i i=false:=by
          cases hb:Nat.beq y.i i with
          | false=>rfl
          | true=>have:=Nat.eq_of_beq_eq_true hb; omega
         rw [hb,Bool.false_or]
         cases ho3:onB N listed y.i with
         | false=>rfl
         | true=>exact absurd (hrcl y.i (zhA (hqN y hy) ho3) i h1) g2
       ·rw [if_neg hkj]
        refine zbN S fun y hy hyt=>⟨?_,fun _=>rfl⟩
        have hyi:y.i≠i:=fun e=>by
         rw [hother y hy e,ht] at hyt
         exact hkj (Option.some.inj (zcq.1 hyt)).symm
        have hb:Nat.beq y.i i=false:=by
         cases hb:Nat.beq y.i i with
         | false=>rfl
         | true=>exact absurd (Nat.eq_of_beq_eq_true hb) hyi
        rw [zeh hilt,hb,Bool.false_or]
      have hon:∀ j,isOn (listed.setIfInBounds i true) j↔j=i∨isOn listed j:=zbt hilt
      refine hcont _ _ ⟨hb',hI.size,hI.defers,zem hI.closed ho' hilt g3,fun s u hs0 hno=>hI.old s u hs0 (fun k ok hk hlk=>hno k ok hk ((hon k).2 (.inr hlk))),ρ,_,fun y hy hoy d' hd'=>?_,hs'.congr hsl⟩
      have hyi:y.i≠i:=fun e=>by rw [hother y hy e,hds] at hd'; cases hd'
      exact hv y hy (((hon y.i).1 hoy).resolve_left hyi) d' hd'
     ·obtain⟨R,hR,hSO⟩:=hY ρ
      have hod:o.dst=none:=by rw [←hxd,hds]
      have hjN:=Nat.le_of_ble_eq_true hjN
      have hGj:zbe ρ (onB N listed) j S=some R:=by
       rw [hq,show q++x :: S' = (q++[x])++S' from by simp,zb0 (q++[x]) S',←hR]
       ·refine zbN S' fun y hy hyt=>⟨?_,fun _=>rfl⟩
        have h3:=List.all_eq_true.1 hch y hy
        rw [hyt] at h3
        show onB N listed y.i=(Nat.ble N y.i||rcf ms i y.i)
        rcases Nat.lt_or_ge y.i N with h | h
        ·have h4:Nat.ble N y.i=false:=by
          cases hb:Nat.ble N y.i with
          | false=>rfl
          | true=>have:=Nat.le_of_ble_eq_true hb; omega
         rw [h4] at h3 ⊢
         have h5:rcf ms i y.i=true:=by simpa using h3
         rw [zqk (hrc _ h5),h5]; rfl
        ·rw [zkd h,Nat.ble_eq_true_of_le h]; rfl
       ·intro y hy hyt
        rcases List.mem_append.1 hy with hy | hy
        ·have hyN:=hqN y hy
         have hgi:=hgt y hy
         refine ziu hyN fun hon=>?_
         have hyS:y∈S:=by rw [hq]; exact List.mem_append_left _ hy
         rcases(hE.sto y hyS j (zcq.1 hyt) (by omega)).2 with ⟨h1,_⟩ | ⟨_,h1⟩
         ·omega
         ·have:=h1 x hxS ht (by omega)
          rw [hxi] at this
          exact g2 (hrcl y.i hon i this)
        ·rw [List.mem_singleton.1 hy,hxi]; exact ziu hiN g2
      obtain⟨g4,g5⟩:=hs.own j R hGj
      refine za9 hnd (hSO.run a w (B j) hsat ⟨hI.base,?_⟩ (fun k hk=>(g5 k hk).2) g4) fun v w' hvw=>?_
      ·exact Holds.anti H (fun k hk=>.inl hk) hs.out
      obtain⟨hm,B',ho2,hA'⟩:=hvw
      rw [hod]
      obtain⟨hb',hs'⟩:=hs.upd hGj hI.base hm ho2 hA'
      have hsl:∀ k,zbe ρ (onB N (listed.setIfInBounds i true)) k S=if k=j then some (x.A ρ) else zbe ρ (onB N listed) k S:=fun k=>by
       by_cases hkj:k=j
       ·rw [if_pos hkj,hq,hkj]
        rw [zb0 q]
        ·show(bif tIs x.t j&&onB N (listed.setIfInBounds i true) x.i then some (x.A ρ) else zbe ρ _ j S')=_
         rw [ht,hxi,zeh hilt,Nat.beq_refl]
         show(bif Nat.beq j j&&true then _ else _)=_
         rw [Nat.beq_refl]; rfl
        ·intro y hy hyt
         have hyS:y∈S:=by rw [hq]; exact List.mem_append_left _ hy
         have hgi:=hgt y hy
         have h1:rcf ms y.i i=true:=by
          have hyN:=hqN y hy
          rcases(hE.sto y hyS j (zcq.1 hyt) (by omega)).2 with ⟨h1,_⟩ | ⟨_,h1⟩
          ·omega
          ·have:=h1 x hxS ht (by omega)
           rwa [hxi] at this
         rw [zeh hilt]
         have hb:Nat.beq y.i i=false:=by
          cases hb:Nat.beq y.i i with
          | false=>rfl
          | true=>have:=Nat.eq_of_beq_eq_true hb; omega
         rw [hb,Bool.false_or]
         cases ho3:onB N listed y.i with
         | false=>rfl
         | true=>exact absurd (hrcl y.i (zhA (hqN y hy) ho3) i h1) g2
       ·rw [if_neg hkj]
        refine zbN S fun y hy hyt=>⟨?_,fun _=>rfl⟩
        have hyi:y.i≠i:=fun e=>by
         rw [hother y hy e,ht] at hyt
         exact hkj (Option.some.inj (zcq.1 hyt)).symm
        have hb:Nat.beq y.i i=false:=by
         cases hb:Nat.beq y.i i with
         | false=>rfl
         | true=>exact absurd (Nat.eq_of_beq_eq_true hb) hyi
        rw [zeh hilt,hb,Bool.false_or]
      have hon:∀ j,isOn (listed.setIfInBounds i true) j↔j=i∨isOn listed j:=zbt hilt
      refine hcont _ _ ⟨hb',hI.size,hI.defers,zem hI.closed ho' hilt g3,fun s u hs0 hno=>hI.old s u hs0 (fun k ok hk hlk=>hno k ok hk ((hon k).2 (.inr hlk))),ρ,_,fun y hy hoy d' hd'=>?_,hs'.congr hsl⟩
      have hyi:y.i≠i:=fun e=>by rw [hother y hy e,hds] at hd'; cases hd'
      exact hv y hy (((hon y.i).1 hoy).resolve_left hyi) d' hd'
     ·obtain⟨R,hR,hSO⟩:=hY ρ
      obtain⟨d,hd⟩:=Option.isSome_iff_exists.1 hds
      obtain⟨hdn,hdist⟩:=hdo d hd
      have hod:o.dst=some d:=by rw [←hxd,hd]
      have hjN:=Nat.le_of_ble_eq_true hjN
      have hGj:zbe ρ (onB N listed) j S=some R:=by
       rw [hq,show q++x :: S' = (q++[x])++S' from by simp,zb0 (q++[x]) S',←hR]
       ·refine zbN S' fun y hy hyt=>⟨?_,fun _=>rfl⟩
        have h3:=List.all_eq_true.1 hch y hy
        rw [hyt] at h3
        show onB N listed y.i=(Nat.ble N y.i||rcf ms i y.i)
        rcases Nat.lt_or_ge y.i N with h | h
        ·have h4:Nat.ble N y.i=false:=by
          cases hb:Nat.ble N y.i with
          | false=>rfl
          | true=>have:=Nat.le_of_ble_eq_true hb; omega
         rw [h4] at h3 ⊢
         have h5:rcf ms i y.i=true:=by simpa using h3
         rw [zqk (hrc _ h5),h5]; rfl
        ·rw [zkd h,Nat.ble_eq_true_of_le h]; rfl
       ·intro y hy hyt
        rcases List.mem_append.1 hy with hy | hy
        ·have hyN:=hqN y hy
         have hgi:=hgt y hy
         refine ziu hyN fun hon=>?_
         have hyS:y∈S:=by rw [hq]; exact List.mem_append_left _ hy
         rcases(hE.sto y hyS j (zcq.1 hyt) (by omega)).2 with ⟨h1,_⟩ | ⟨_,h1⟩
         ·omega
         ·have:=h1 x hxS ht (by omega)
          rw [hxi] at this
          exact g2 (hrcl y.i hon i this)
        ·rw [List.mem_singleton.1 hy,hxi]; exact ziu hiN g2
      obtain⟨g4,g5⟩:=hs.own j R hGj
      refine za9 hnd (hSO.run a w (B j) hsat ⟨hI.base,?_⟩ (fun k hk=>(g5 k hk).2) g4) fun v w' hvw=>?_
      ·exact Holds.anti H (fun k hk=>.inl hk) hs.out
      obtain⟨u,rfl,hm,B',ho2,hA'⟩:=hvw
      rw [hod]
      obtain⟨hb',hs'⟩:=hs.upd hGj hI.base hm ho2 hA'
      let ρ':(i:Nat)→XS i:=fun k=>if h:k=i then h ▸ u else ρ k
      have hρi:ρ' i=u:=by simp [ρ']
      have hρk:∀ k,k≠i→ρ' k=ρ k:=fun k hk=>by simp [ρ',hk]
      have hsame:∀ y∈S,isOn listed y.i→y.V ρ' = y.V ρ∧y.A ρ' = y.A ρ:=fun y hy hon=>by
       refine hE.loc y hy (Nat.lt_of_not_le fun h=>hsuf y.i (by omega) hon) ρ' ρ fun k hk=>hρk k fun e=>?_
       subst e
       rcases hk with hk | hk
       ·exact g2 (hrcl _ hon _ hk)
       ·rw [←hk] at hon; exact g2 hon
      have hsameA:∀ y∈S,onB N listed y.i=true→y.A ρ' = y.A ρ:=fun y hy hon=>by
       rcases Nat.lt_or_ge y.i N with h | h
       ·exact(hsame y hy (zhA h hon)).2
       ·exact(hE.bs y hy h).2.2 _ _
      have hxV:x.V ρ' = V u:=by rw [hVx,hρi]
      have hxA:x.A ρ' = A u:=by rw [hAx,hρi]
      have hsl:∀ k,zbe ρ' (onB N (listed.setIfInBounds i true)) k S=if k=j then some (A u) else zbe ρ (onB N listed) k S:=fun k=>by
       by_cases hkj:k=j
       ·rw [if_pos hkj,hq,hkj]
        rw [zb0 q]
        ·show(bif tIs x.t j&&onB N (listed.setIfInBounds i true) x.i then some (x.A ρ') else zbe ρ' _ j S')=_
         rw [ht,hxi,zeh hilt,Nat.beq_refl,hxA]
         show(bif Nat.beq j j&&true then _ else _)=_
         rw [Nat.beq_refl]; rfl
        ·intro y hy hyt
         have hyS:y∈S:=by rw [hq]; exact List.mem_append_left _ hy
         have hgi:=hgt y hy
         have h1:rcf ms y.i i=true:=by
          have hyN:=hqN y hy
          rcases(hE.sto y hyS j (zcq.1 hyt) (by omega)).2 with ⟨h1,_⟩ | ⟨_,h1⟩
          ·omega
          ·have:=h1 x hxS ht (by omega)
           rwa [hxi] at this
         rw [zeh hilt]
         have hb:Nat.beq y.i i=false:=by
          cases hb:Nat.beq y.i i with
          | false=>rfl
          | true=>have:=Nat.eq_of_beq_eq_true hb; omega
         rw [hb,Bool.false_or]
         cases ho3:onB N listed y.i with
         | false=>rfl
         | true=>exact absurd (hrcl y.i (zhA (hqN y hy) ho3) i h1) g2
       ·rw [if_neg hkj]
        refine zbN S fun y hy hyt=>?_
        have hyi:y.i≠i:=fun e=>by
         rw [hother y hy e,ht] at hyt
         exact hkj (Option.some.inj (zcq.1 hyt)).symm
        have hb:Nat.beq y.i i=false:=by
         cases hb:Nat.beq y.i i with
         | false=>rfl
         | true=>exact absurd (Nat.eq_of_beq_eq_true hb) hyi
        have he:onB N (listed.setIfInBounds i true) y.i=onB N listed y.i:=by rw [zeh hilt,hb,Bool.false_or]
        exact⟨he,fun hon=>hsameA y hy (by rw [←he]; exact hon)⟩
      exact hcont _ _ (hI.put hE hxS hxi hpi ho' hilt hod hd hdist hdn g3 hb' hxV.symm (fun y hy hon _ d' hd'=>by rw [(hsame y hy hon).1]; exact hv y hy hon d' hd') (hs'.congr hsl))
    unfold wpOpIn
    rw [ho]
    simp only []
    unfold Ob4 at hOb
    cases hg:o.guard with
    | none=>
     rw [hg] at hOb
     rw [if_pos (by simp [Region.wanted,hg])]
     exact hgo hOb
    | some gw=>
     obtain⟨j,want⟩:=gw
     rw [hg] at hOb
     have hyl:∀ V0,lk3 S' j=some V0→zaT o j=true→∀ b:Bool,yielded (pre++suf).toArray a.tmps j=some b↔V0 ρ=.bool b:=fun V0 hlk hbj b=>by
      obtain⟨y,hy,hyj,hyd,hyV⟩:=zmj S' j _ hlk
      obtain⟨d,hd⟩:=Option.isSome_iff_exists.1 hyd
      obtain⟨oj,hoj,hdj⟩:=hE.op y (hsubS y hy) (Nat.lt_of_not_le fun h=>by rw [(hE.bs y (hsubS y hy) h).1] at hyd; cases hyd)
      have hval:=hv y (hsubS y hy) (by rw [hyj]; exact g3 j hbj) d hd
      rw [hyj] at hoj
      rw [←hyV]
      exact zd2 (by simpa using hpre j oj hoj) (by rw [hdj,hd]) hval
     rcases hOb with ⟨V0,hlk,hV0,hbj,hGo⟩ | ⟨V0,u0,qb,u,hlk,hV0,hbj,hq0,ht,hds,hxV,hst⟩
     ·rw [if_pos (by simp only [Region.wanted,hg]; rw [(hyl V0 hlk hbj want).2 (hV0 ρ)]; simp)]
      exact hgo hGo
     ·have hy:=hyl V0 hlk hbj want
      rw [hV0] at hy
      cases hqq:qb with
      | true=>
       rw [if_pos (by simp only [Region.wanted,hg]; rw [hy.2 (hq0.1 hqq)]; simp)]
       refine za9 hnd ((hst hqq ρ).run a w hsat hhp) fun v w' hvw=>?_
       exact hpure v w' ht hds (by rw [hxV,if_pos hqq]; exact hvw.1) hvw.2
      | false=>
       have hnw:¬ yielded (pre++suf).toArray a.tmps j=some want:=fun h=>by
        have:=hq0.2 (hy.1 h)
        rw [hqq] at this
        cases this
       rw [if_neg (by simp only [Region.wanted,hg]; simpa using hnw)]
       refine⟨fun _ _=>trivial,?_⟩
       exact hpure undef w ht hds (by rw [hxV,if_neg (by simp [hqq])]) Ext.rfl
theorem zju {N:Nat} {listed:Array Bool} {ρ:(i:Nat)→XS i} {w:World}:∀ (Hb:List Res) (k:Nat) (G:Nat→Option Res) (B:Nat→Nat→Prop),Slots c (Hb++H) G B w→(∀ j,N+k≤j→G j=none) →
  ∃ B',Slots c H (fun j=>match zbe ρ (onB N listed) j (zeU N k Hb) with | some R=>some R | none=>G j) B' w
 | [],k,G,B,h,_=>⟨B,h⟩
 | R :: r,k,G,B,h,hG=>by
  obtain⟨C,hC,hA,hr⟩:=h.out
  have h2:Slots c (r++H) (fun j=>if j=N+k then some R else G j) (fun j=>if j=N+k then C else B j) w:=by
   refine⟨fun j S hj=>?_,fun a b ha hb hab x hx1 hx2=>?_,?_⟩
   ·by_cases e:j=N+k
    ·simp only [if_pos e,Option.some.injEq] at hj ⊢
     subst hj
     exact⟨hA,fun x hx=>⟨fun hu=>(hC x hx).1 (.inl hu),(hC x hx).2⟩⟩
    ·simp only [if_neg e] at hj ⊢
     exact h.own j S hj
   ·by_cases ea:a=N+k
    ·have eb:b≠N+k:=fun e=>hab (ea.trans e.symm)
     simp only [if_pos ea] at hx1
     simp only [if_neg eb] at hb hx2
     exact(hC x hx1).1 (.inr ⟨b,hb,hx2⟩)
    ·simp only [if_neg ea] at ha hx1
     by_cases eb:b=N+k
     ·simp only [if_pos eb] at hx2
      exact(hC x hx2).1 (.inr ⟨a,ha,hx1⟩)
     ·simp only [if_neg eb] at hb hx2
      exact h.dis a b ha hb hab x hx1 hx2
   ·refine Holds.anti _ ?_ hr
    rintro x (hu | ⟨j,hj,hx⟩)
    ·exact .inl (.inl hu)
    ·by_cases e:j=N+k
     ·simp only [if_pos e] at hx
      exact .inr hx
     ·simp only [if_neg e] at hj hx
      exact .inl (.inr ⟨j,hj,hx⟩)
  obtain⟨B',h3⟩:=zju (ρ:=ρ) (listed:=listed) r (k+1) (fun j=>if j=N+k then some R else G j) (fun j=>if j=N+k then C else B j) h2 (fun j (hj:N+(k+1)≤j)=>by
   show(if j=N+k then some R else G j)=none
   rw [if_neg (by omega)]; exact hG j (by omega))
  refine⟨B',h3.congr fun j=>?_⟩
  show(match (bif tIs (some (N+k)) j&&onB N listed (N+k) then some R else zbe ρ (onB N listed) j (zeU N (k+1) r)) with | some R=>some R | none=>G j)=_
  rw [zkd (Nat.le_add_right N k),Bool.and_true]
  by_cases e:j=N+k
  ·subst e
   have h4:zbe ρ (onB N listed) (N+k) (zeU N (k+1) r)=none:=by
    cases hs:zbe ρ (onB N listed) (N+k) (zeU N (k+1) r) with
    | none=>rfl
    | some Q=>
     obtain⟨x,hx,hxt,_⟩:=zgb _ hs
     obtain⟨h5,_,h6,_⟩:=zel hx
     rw [zcq,h6,Option.some.injEq] at hxt
     omega
   rw [h4,zcq.2 rfl]
   simp
  ·have h4:tIs (some (N+k)) j=false:=by
    cases hb:tIs (some (N+k)) j with
    | false=>rfl
    | true=>exact absurd (Option.some.inj (zcq.1 hb)).symm e
   rw [h4]
   simp [e]
theorem zpM {id:Nat} {l:List Oper} {d:Bool} (Hb:List Res) (XS:Nat→Type) (N m:Nat) (ms:List Nat) (hN:Nat.ble l.length N=true) (hm:d=true→c.P.follows .mixedOrders=true) (hc:zeY c.n (l.take m) (l.drop m) ms=true) (hρ:Nonempty ((i:Nat)→XS i))
  (h:PH4 (XS:=XS) N c ds (l.take m) ms T0 H (fun S=>∀ ρ:(i:Nat)→XS i,GK c ds (KL c l.toArray p (l.drop m)) (zdA ρ (fun _=>true) S++zd3 (l.take m) T0) (zeS ρ (fun _=>true) S S++H)) 0 (l.take m) (zeU N 0 Hb)):GK c ds (KC c (.region id l.toArray d) p) T0 (Hb++H):=by
 intro a w ha hw
 obtain⟨ρ0⟩:=hρ
 obtain⟨S,hK,⟨q,hq,hq2⟩,hall⟩:=zqo _ _ _ h
 have hl:l.take m++l.drop m=l:=List.take_append_drop m l
 have hlN:(l.take m++l.drop m).length≤N:=by rw [hl]; exact Nat.le_of_ble_eq_true hN
 have hmN:(l.take m).length≤N:=by rw [List.length_append] at hlN; omega
 have hS0:∀ x∈zeU (XS:=XS) N 0 Hb,N≤x.i:=fun x hx=>by have:=(zel hx).1; omega
 have hqi:∀ x∈q,x.i < (l.take m).length:=fun x hx=>by
  have hjm:x.i∈q.map (·.i):=List.mem_map.2 ⟨_,hx,rfl⟩
  rw [hq2,List.mem_reverse,List.mem_range'_1] at hjm
  omega
 have hnd0:(q.map (·.i)).Nodup:=by
  rw [hq2]
  unfold List.Nodup
  rw [List.pairwise_reverse]
  exact(List.nodup_range' (s:=0) (n:=(l.take m).length) (step:=1)).imp Ne.symm
 have hnd:(S.map (·.i)).Nodup:=by
  rw [hq,List.map_append,List.nodup_append]
  refine⟨hnd0,zmW Hb 0,fun a ha b hb=>?_⟩
  obtain⟨x,hx,rfl⟩:=List.mem_map.1 ha
  obtain⟨y,hy,rfl⟩:=List.mem_map.1 hb
  have:=hqi x hx
  have:=hS0 y hy
  omega
 have hsplit:∀ x∈S,x.i < N→x∈q:=fun x hx hxN=>by
  rw [hq] at hx
  rcases List.mem_append.1 hx with hx | hx
  ·exact hx
  ·have:=hS0 x hx; omega
 have hbase:∀ x∈S,N≤x.i→x∈zeU (XS:=XS) N 0 Hb:=fun x hx hxN=>by
  rw [hq] at hx
  rcases List.mem_append.1 hx with hx | hx
  ·have:=hqi x hx; omega
  ·exact hx
 have hx:∀ x∈S,x.i < N→∃ o S1 q',(l.take m)[x.i]?=some o∧x.d=o.dst∧Loc3 ms x∧Ob4 N c ds (l.take m) ms T0 H x.i o (S1++zeU N 0 Hb) x∧S=q' ++ x :: (S1++zeU N 0 Hb):=fun x hx hxN=>by
  have hlt:x.i < (l.take m).length:=hqi x (hsplit x hx hxN)
  obtain⟨y,S1,hyi,hyd,hyl,hyo,q',hq'⟩:=hall x.i (l.take m)[x.i] (List.getElem?_eq_getElem hlt)
  rw [Nat.zero_add] at hyi hyo
  have hyS:y∈S:=by rw [hq']; simp
  have key:∀ (L:List (E3 XS)),(L.map (·.i)).Nodup→∀ x∈L,∀ y∈L,x.i=y.i→x=y:=by
   intro L
   induction L with
   | nil=>intro _ x hx; cases hx
   | cons z r ih=>
    intro hn x hx y hy hxy
    simp only [List.map_cons,List.nodup_cons] at hn
    rcases List.mem_cons.1 hx with rfl | hx' <;> rcases List.mem_cons.1 hy with rfl | hy'
    ·rfl
    ·exact absurd (List.mem_map.2 ⟨y,hy',hxy.symm⟩) hn.1
    ·exact absurd (List.mem_map.2 ⟨x,hx',hxy⟩) hn.1
    ·exact ih hn.2 x hx' y hy' hxy
  have:y=x:=key S hnd y hyS x hx hyi
  subst this
  exact⟨_,S1,q',List.getElem?_eq_getElem hlt,hyd,hyl,hyo,hq'⟩
 have hE:Ents4 N ms (l.take m) S:=by
  refine⟨hnd,fun x hxS hxN=>?_,fun x hxS hxN=>(zel (hbase x hxS hxN)).2,fun x hxS hxN=>?_,fun x hxS j hj hne=>?_⟩
  ·obtain⟨o,_,_,h1,h2,_⟩:=hx x hxS hxN
   exact⟨o,h1,h2.symm⟩
  ·obtain⟨_,_,_,_,_,h3,_⟩:=hx x hxS hxN
   exact h3
  ·have hxN:x.i < N:=Nat.lt_of_not_le fun h=>by
    obtain⟨_,_,h3,_⟩:=zel (hbase x hxS h)
    rw [h3,Option.some.injEq] at hj
    exact hne hj.symm
   refine⟨hxN,?_⟩
   obtain⟨o,S1,q',_,_,_,h4,h5⟩:=hx x hxS hxN
   rcases zxs h4 rfl hxN j hj hne with h6 | ⟨h6,h7⟩
   ·exact .inl h6
   ·refine .inr ⟨h6,fun y hy hyt hyx=>h7 y ?_ hyt (by omega)⟩
    have hqq:q=q' ++ x :: S1:=by
     have e:=hq.symm.trans h5
     rw [show q' ++ x :: (S1++zeU N 0 Hb)=(q' ++ x :: S1)++zeU N 0 Hb from by simp] at e
     exact List.append_cancel_right e
    have hdesc:((q'.map (·.i))++x.i :: (S1.map (·.i))).Pairwise (· > ·):=by
     have e:(q'.map (·.i))++x.i :: (S1.map (·.i))=(List.range' 0 (l.take m).length).reverse:=by
      rw [←hq2,hqq,List.map_append,List.map_cons]
     rw [e,List.pairwise_reverse]
     exact List.pairwise_lt_range'
    rw [List.pairwise_append,List.pairwise_cons] at hdesc
    rw [h5] at hy
    rcases List.mem_append.1 hy with hy | hy
    ·have:=hdesc.2.2 _ (List.mem_map.2 ⟨y,hy,rfl⟩) _ (List.mem_cons_self ..)
     omega
    ·rcases List.mem_cons.1 hy with rfl | hy
     ·omega
     ·exact hy
 have hmain:∀ w,Hp c.U c.w0 (Hb++H) w→wpAnyIn (FW c.r) 0 c.P .any l.toArray p.Q l.length (Array.replicate l.length false) a w:=by
  intro w hw
  have hoff:∀ k,¬ isOn (Array.replicate l.length false) k:=fun k=>by
   unfold isOn
   by_cases hk:k < l.length
   ·simp [hk]
   ·simp [hk]
  have hs0:Slots c (Hb++H) (fun _=>none) (fun _ _=>False) w:=⟨fun j R hj=>(by cases hj),fun i _ hi=>(by cases hi),Holds.anti _ (fun k hk=>(by
     rcases hk with hk | ⟨_,hk,_⟩
     ·exact hk
     ·cases hk)) hw.holds⟩
  obtain⟨B',hB'⟩:=zju (c:=c) (H:=H) (N:=N) (listed:=Array.replicate l.length false) (ρ:=ρ0) Hb 0 (fun _=>none) (fun _ _=>False) hs0 (fun _ _=>rfl)
  have hsl:∀ j,zbe ρ0 (onB N (Array.replicate l.length false)) j S=(match zbe ρ0 (onB N (Array.replicate l.length false)) j (zeU N 0 Hb) with | some R=>some R | none=>none):=fun j=>by
   rw [hq,zb0 q]
   ·cases zbe ρ0 (onB N (Array.replicate l.length false)) j (zeU N 0 Hb) <;> rfl
   ·intro x hx _
    exact ziu (by have:=hqi x hx; omega) (hoff x.i)
  have:=zux (c:=c) (ds:=ds) (p:=p) (pre:=l.take m) (suf:=l.drop m) (T0:=T0) (H:=H) (S:=S) (N:=N) hlN hc hE hq hq2 hS0 hall (by rw [hl]; exact hK) l.length (Array.replicate l.length false) a w
   (by rw [hl]; exact Nat.le_trans (List.length_filter_le _ _) (by simp)) (by rw [hl]; simp) (fun k _=>hoff k)
   ⟨hw.base,ha.size,ha.defers,fun k o _ hon=>absurd hon (hoff k),fun s v hs _=>ha.val s v hs,ρ0,B',fun x _ hon=>absurd hon (hoff x.i),hB'.congr hsl⟩
  rw [hl] at this
  exact this
 cases d
 ·refine wpIn_region ?_
  have hb:zb8 0 l=true:=by
   simp only [zeY,Bool.and_eq_true] at hc
   obtain⟨⟨⟨⟨⟨⟨hback,_⟩,_⟩,_⟩,_⟩,_⟩,_⟩:=hc
   rwa [hl] at hback
  have:=zer (c:=c) (p:=p) hb l.length 0 l.length (Array.replicate l.length false) a w (by omega) (Nat.le_refl _) (by simp) (fun i hi=>⟨fun h=>by
   unfold isOn at h
   simp [hi] at h,fun h=>by omega⟩) (hmain w hw)
  rw [List.range_eq_range']
  simpa using this
 ·refine wpIn_region_any (hm rfl) ?_
  have:=hmain _ hw.drawn
  simpa using this
end
section
variable {XS:Nat→Type} {c:Cx} {ds:List Deferred} {pre:List Oper} {N:Nat} {ms:List Nat} {T0:List (Nat×Value)} {H:List Res} {K:List (E3 XS)→Prop} {i d:Nat} {r:List Oper} {S:List (E3 XS)} {op:Op} {ty:TypeId} {ps:String} {af:Array Edge}
theorem zdq {V:((i:Nat)→XS i)→Value} (h:∀ ρ:(i:Nat)→XS i,Y c ds (zeS ρ (rcf ms i) S S++H) (zdA ρ (zaT ⟨some d,op,ty,ps,af,none⟩) S++zcl pre i T0) ⟨some d,op,ty,ps,af,none⟩ (V ρ))
  (hl:∀ ρ ρ':(i:Nat)→XS i,zkB XS ms i ρ ρ'→V ρ=V ρ') (k:PH4 N c ds pre ms T0 H K (i+1) r (⟨i,some d,none,V,fun _=>Emp⟩ :: S)):PH4 N c ds pre ms T0 H K i (⟨some d,op,ty,ps,af,none⟩ :: r) S:=
 ⟨_,rfl,rfl,fun ρ ρ' hs=>⟨hl ρ ρ' (fun j hj=>hs j (.inl hj)),rfl⟩,.inl (.inl ⟨rfl,rfl,h⟩),k⟩
theorem zBx {V:((i:Nat)→XS i)→XS i→Value} {A:((i:Nat)→XS i)→XS i→Res} (h:∀ ρ:(i:Nat)→XS i,YX c ds (zeS ρ (rcf ms i) S S++H) (zdA ρ (zaT ⟨some d,op,ty,ps,af,none⟩) S++zcl pre i T0) ⟨some d,op,ty,ps,af,none⟩ (V ρ) (A ρ))
  (hl:∀ ρ ρ':(i:Nat)→XS i,zkB XS ms i ρ ρ'→V ρ=V ρ'∧A ρ=A ρ') (k:PH4 N c ds pre ms T0 H K (i+1) r (⟨i,some d,some i,fun ρ=>V ρ (ρ i),fun ρ=>A ρ (ρ i)⟩ :: S)):PH4 N c ds pre ms T0 H K i (⟨some d,op,ty,ps,af,none⟩ :: r) S:=
 ⟨_,rfl,rfl,fun ρ ρ' hs=>by
  obtain⟨h1,h2⟩:=hl ρ ρ' (fun j hj=>hs j (.inl hj))
  have h3:=hs i (.inr rfl)
  exact⟨by show V ρ (ρ i)=V ρ' (ρ' i); rw [h1,h3],by show A ρ (ρ i)=A ρ' (ρ' i); rw [h2,h3]⟩,.inl (.inr (.inl ⟨rfl,rfl,V,A,fun _=>rfl,fun _=>rfl,hl,h⟩)),k⟩
theorem zBv {A R:((i:Nat)→XS i)→Res} (j:Nat) (h1:rcf ms i j=true) (h2:((List.range i).all fun r=>!rcf ms r j||rcf ms i r)=true) (h3:∀ ρ:(i:Nat)→XS i,zbe ρ (rcf ms i) j S=some (R ρ))
  (h:∀ ρ:(i:Nat)→XS i,zfW c ds (zdA ρ (zaT ⟨none,op,ty,ps,af,none⟩) S++zcl pre i T0) H ⟨none,op,ty,ps,af,none⟩ (R ρ) (A ρ))
  (hl:∀ ρ ρ':(i:Nat)→XS i,zkB XS ms i ρ ρ'→A ρ=A ρ') (k:PH4 N c ds pre ms T0 H K (i+1) r (⟨i,none,some j,fun _=>undef,A⟩ :: S)):PH4 N c ds pre ms T0 H K i (⟨none,op,ty,ps,af,none⟩ :: r) S:=
 ⟨_,rfl,rfl,fun ρ ρ' hs=>⟨rfl,hl ρ ρ' (fun j hj=>hs j (.inl hj))⟩,.inl (.inr (.inr ⟨rfl,j,rfl,h1,h2,fun ρ=>⟨R ρ,h3 ρ,h ρ⟩⟩)),k⟩
theorem zjr {A R:((i:Nat)→XS i)→Res} (j:Nat) (h1:Nat.ble N j=true) (h2:(S.all fun y=>!tIs y.t j||(Nat.ble N y.i||rcf ms i y.i))=true) (h3:∀ ρ:(i:Nat)→XS i,zbe ρ (fun k=>Nat.ble N k||rcf ms i k) j S=some (R ρ))
  (h:∀ ρ:(i:Nat)→XS i,zfW c ds (zdA ρ (zaT ⟨none,op,ty,ps,af,none⟩) S++zcl pre i T0) H ⟨none,op,ty,ps,af,none⟩ (R ρ) (A ρ))
  (hl:∀ ρ ρ':(i:Nat)→XS i,zkB XS ms i ρ ρ'→A ρ=A ρ') (k:PH4 N c ds pre ms T0 H K (i+1) r (⟨i,none,some j,fun _=>undef,A⟩ :: S)):PH4 N c ds pre ms T0 H K i (⟨none,op,ty,ps,af,none⟩ :: r) S:=
 ⟨_,rfl,rfl,fun ρ ρ' hs=>⟨rfl,hl ρ ρ' (fun j hj=>hs j (.inl hj))⟩,.inr (.inl ⟨rfl,j,rfl,h1,h2,fun ρ=>⟨R ρ,h3 ρ,h ρ⟩⟩),k⟩
theorem zBw {R:((i:Nat)→XS i)→Res} (V:XS i→Value) (A:XS i→Res) (j:Nat) (h1:Nat.ble N j=true) (h2:(S.all fun y=>!tIs y.t j||(Nat.ble N y.i||rcf ms i y.i))=true) (h3:∀ ρ:(i:Nat)→XS i,zbe ρ (fun k=>Nat.ble N k||rcf ms i k) j S=some (R ρ))
  (h:∀ ρ:(i:Nat)→XS i,zAl c ds (zdA ρ (zaT ⟨some d,op,ty,ps,af,none⟩) S++zcl pre i T0) H ⟨some d,op,ty,ps,af,none⟩ (R ρ) V A)
  (k:PH4 N c ds pre ms T0 H K (i+1) r (⟨i,some d,some j,fun ρ=>V (ρ i),fun ρ=>A (ρ i)⟩ :: S)):PH4 N c ds pre ms T0 H K i (⟨some d,op,ty,ps,af,none⟩ :: r) S:=
 ⟨_,rfl,rfl,fun ρ ρ' hs=>by
  have h3:=hs i (.inr rfl)
  exact⟨by show V (ρ i)=V (ρ' i); rw [h3],by show A (ρ i)=A (ρ' i); rw [h3]⟩,.inr (.inr ⟨rfl,j,rfl,h1,h2,V,A,fun _=>rfl,fun _=>rfl,fun ρ=>⟨R ρ,h3 ρ,h ρ⟩⟩),k⟩
theorem zBk {c:Cx} {ds:List Deferred} {T:List (Nat×Value)} {H:List Res} {d:Option Nat} {ty:TypeId} {ps:String} {af:Array Edge} {X:Type} {V:X→Value} {J:X→Res} {Q:X→Prop} {R:Res} {f:FuncId} (he:En c.P f) {«as»:List Operand} {tys:Array TypeId} {vs:List Value} (ha:evs T «as» = some vs)
  (hc:∀ w B,Hp c.U c.w0 H w→(∀ k,B k→k < w.heap.size)→R.A B w→Calls c.P f vs.toArray w (zho V J Q B w)):zAl c ds T H ⟨d,.call ⟨.value (.func f),«as».toArray,tys⟩,ty,ps,af,none⟩ R V J:=by
 refine⟨fun a w B hs hw hB hA=>?_⟩
 unfold Yld
 rw [zfJ he ha hs w]
 refine(hc w B hw hB hA).mono ?_
 rintro e w' ⟨x,B',rfl,_,hm,ho,hA⟩
 exact⟨V x,rfl,x,rfl,hm,B',ho,hA⟩
end
end Go.K
namespace Go.Proofs.YtdcfcfhmkfkgmaaGreatDoor
open Go.K Go.Stn Go.Pln Go.RowKit
theorem en72:En Tryz.prog 72:=za7 Tryz.func72 (by kernel_rfl) (by kernel_rfl)
theorem en94:En Tryz.prog 94:=za7 Tryz.func94 (by kernel_rfl) (by kernel_rfl)
theorem zwu  (w:World):(Instr.build 37 #[]).run Tryz.prog w=.ok (.agg #[.string ⟨#[]⟩,.int IntKind.i64 0,.int IntKind.i64 0,.int IntKind.i64 0,.int IntKind.i64 0,.slice none 0 0,.int IntKind.i64 0,.int IntKind.i64 0,.int IntKind.i64 0,.int IntKind.i64 0,.int IntKind.i64 0,.int IntKind.i64 0,.int IntKind.i64 0,.int IntKind.u8 0,.int IntKind.i64 0,.int IntKind.i64 0,.int IntKind.i64 0,.int IntKind.i64 0,.int IntKind.i64 0,.int IntKind.i64 0]) w:=by kernel_rfl
theorem zAX (x0:ByteArray) (w:World):(Instr.build 37 #[(0,.string x0)]).run Tryz.prog w=.ok (.agg #[.string x0,.int IntKind.i64 0,.int IntKind.i64 0,.int IntKind.i64 0,.int IntKind.i64 0,.slice none 0 0,.int IntKind.i64 0,.int IntKind.i64 0,.int IntKind.i64 0,.int IntKind.i64 0,.int IntKind.i64 0,.int IntKind.i64 0,.int IntKind.i64 0,.int IntKind.u8 0,.int IntKind.i64 0,.int IntKind.i64 0,.int IntKind.i64 0,.int IntKind.i64 0,.int IntKind.i64 0,.int IntKind.i64 0]) w:=by kernel_rfl
theorem c21t {n:Nat} {b:Bool} (h:(decide ((n:Int) < 2)||!b)=true):n < 2∨b=false:=by
 simp only [Bool.or_eq_true,decide_eq_true_eq,Bool.not_eq_true'] at h
 exact h.imp (fun h=>by omega) id
theorem c21f {n:Nat} {b:Bool} (h:(decide ((n:Int) < 2)||!b)=false):¬ n < 2∧b=true:=by
 simp only [Bool.or_eq_false_iff,decide_eq_false_iff_not,Bool.not_eq_false'] at h
 exact⟨by omega,h.2⟩
theorem c66t {n:Nat} {b:Bool} (h:(decide (0 < (n:Int))&&!b)=true):0 < n∧b=false:=by
 simp only [Bool.and_eq_true,decide_eq_true_eq,Bool.not_eq_true'] at h
 exact⟨by omega,h.2⟩
theorem c66f {n:Nat} {b:Bool} (h:(decide (0 < (n:Int))&&!b)=false):n=0∨b=true:=by
 simp only [Bool.and_eq_false_iff,decide_eq_false_iff_not,Bool.not_eq_false'] at h
 exact h.imp (fun h=>by omega) id
theorem c97t {n:Nat} {b:Bool} (h:(!b||decide ((n:Int)=0))=true):b=false∨n=0:=by
 simp only [Bool.or_eq_true,decide_eq_true_eq,Bool.not_eq_true'] at h
 exact h.imp id (fun h=>by omega)
theorem c97f {n:Nat} {b:Bool} (h:(!b||decide ((n:Int)=0))=false):b=true∧¬ n=0:=by
 simp only [Bool.or_eq_false_iff,decide_eq_false_iff_not,Bool.not_eq_false'] at h
 exact⟨h.1,by omega⟩
theorem zBr {n:Nat} {b:Bool} {k m:Int} (h:((!b||decide (0 < (n:Int)))||decide (k=m))=true):b=false∨0 < n∨k=m:=by
 simp only [Bool.or_eq_true,decide_eq_true_eq,Bool.not_eq_true'] at h
 rcases h with (h | h) | h
 ·exact .inl h
 ·exact .inr (.inl (by omega))
 ·exact .inr (.inr h)
theorem zBq {n:Nat} {b:Bool} {k m:Int} (h:((!b||decide (0 < (n:Int)))||decide (k=m))=false):b=true∧n=0∧¬ k=m:=by
 simp only [Bool.or_eq_false_iff,decide_eq_false_iff_not,Bool.not_eq_false'] at h
 exact⟨h.1.1,by omega,h.2⟩
theorem zBB {b:Bool} {k m:Int} (h:(decide (k < m)&&!b)=true):k < m∧b=false:=by
 simp only [Bool.and_eq_true,decide_eq_true_eq,Bool.not_eq_true'] at h
 exact h
theorem zBA {b:Bool} {k m:Int} (h:(decide (k < m)&&!b)=false):¬ k < m∨b=true:=by
 simp only [Bool.and_eq_false_iff,decide_eq_false_iff_not,Bool.not_eq_false'] at h
 exact h
def zy1 (c:Bool) (k:Int):ByteArray:=if c=true then(if k=0 then⟨#[110,111,110,101]⟩ else if k=1 then⟨#[102,108,97,116]⟩ else if k=2 then⟨#[117,112,114,105,103,104,116]⟩ else⟨#[98,117,99,107]⟩) else(if k=1 then⟨#[115,109,111,111,116]⟩ else if k=2 then⟨#[108,117,110,107,121]⟩ else if k=3 then⟨#[115,116,105,108,101]⟩ else⟨#[103,97,116,101]⟩)
set_option maxRecDepth 100000 in
set_option maxHeartbeats 1000000 in
theorem zAW (c:Bool) (k:Int) (w:World)  :
  Calls Tryz.prog 72 #[.bool c,.int .u8 k] w (Pure (.string (zy1 c k)) w):=by
 refine zan (vs:=[_,_]) Tryz.func72 rfl rfl (Nat.le_of_ble_eq_true rfl) ?_
 refine zac ?_
 refine zaa ?_
 refine gQ (zad rfl) ?_
 refine zag (zae (T':=[(0,_),(1,_),(4,_)]) ⟨rfl,rfl,rfl,trivial⟩ ?_)
 refine zac ?_
 refine zac ?_
 refine zaa ?_
 refine gQ (zaf rfl) ?_
 refine zag (zae (T':=[(1,_),(4,_),(5,_)]) ⟨rfl,rfl,rfl,trivial⟩ ?_)
 refine zap rfl (fun hc5=>?_) (fun hc5=>?_)
 ·
  refine zac ?_
  refine zac ?_
  refine zaa ?_
  refine gQ (zaf rfl) ?_
  refine zag (zae (T':=[(1,_),(4,_),(6,_)]) ⟨rfl,rfl,rfl,trivial⟩ ?_)
  refine zas ?_
  refine zac ?_
  refine zaa ?_
  refine gQ (zbL rfl rfl) ?_
  refine gQ (zad rfl) ?_
  refine zag (zae (T':=[(1,_),(4,_),(6,_),(7,_)]) ⟨rfl,rfl,rfl,rfl,trivial⟩ ?_)
  refine zap rfl (fun hc7=>?_) (fun hc7=>?_)
  ·simp only [decide_eq_true_eq] at hc7
   refine zac ?_
   refine zaa ?_
   refine gQ (zad rfl) ?_
   refine zag (zae (T':=[(1,_),(4,_)]) ⟨rfl,rfl,trivial⟩ ?_)
   refine zaw ?_
   refine zay (zaC rfl (zau rfl)) ?_
   rw [zy1,if_pos hc5,if_pos hc7]
  ·simp only [decide_eq_false_iff_not] at hc7
   refine zac ?_
   refine zaa ?_
   refine gQ (zbL rfl rfl) ?_
   refine gQ (zad rfl) ?_
   refine zag (zae (T':=[(1,_),(4,_),(6,_),(9,_)]) ⟨rfl,rfl,rfl,rfl,trivial⟩ ?_)
   refine zap rfl (fun hc9=>?_) (fun hc9=>?_)
   ·simp only [decide_eq_true_eq] at hc9
    refine zac ?_
    refine zaa ?_
    refine gQ (zad rfl) ?_
    refine zag (zae (T':=[(1,_),(4,_)]) ⟨rfl,rfl,trivial⟩ ?_)
    refine zaw ?_
    refine zay (zaC rfl (zau rfl)) ?_
    rw [zy1,if_pos hc5,if_neg hc7,if_pos hc9]
   ·simp only [decide_eq_false_iff_not] at hc9
    refine zac ?_
    refine zaa ?_
    refine gQ (zbL rfl rfl) ?_
    refine gQ (zad rfl) ?_
    refine zag (zae (T':=[(1,_),(4,_),(11,_)]) ⟨rfl,rfl,rfl,trivial⟩ ?_)
    refine zap rfl (fun hc11=>?_) (fun hc11=>?_)
    ·simp only [decide_eq_true_eq] at hc11
     refine zac ?_
     refine zaa ?_
     refine gQ (zad rfl) ?_
     refine zag (zae (T':=[(1,_),(4,_)]) ⟨rfl,rfl,trivial⟩ ?_)
     refine zaw ?_
     refine zay (zaC rfl (zau rfl)) ?_
     rw [zy1,if_pos hc5,if_neg hc7,if_neg hc9,if_pos hc11]
    ·simp only [decide_eq_false_iff_not] at hc11
     refine zaq ?_
     refine zac ?_
     refine zaa ?_
     refine gQ (zad rfl) ?_
     refine zag (zae (T':=[(1,_),(4,_)]) ⟨rfl,rfl,trivial⟩ ?_)
     refine zaw ?_
     refine zay (zaC rfl (zau rfl)) ?_
     rw [zy1,if_pos hc5,if_neg hc7,if_neg hc9,if_neg hc11]
 ·
  refine zaq ?_
  refine zac ?_
  refine zac ?_
  refine zaa ?_
  refine gQ (zaf rfl) ?_
  refine zag (zae (T':=[(4,_),(13,_)]) ⟨rfl,rfl,trivial⟩ ?_)
  refine zas ?_
  refine zac ?_
  refine zaa ?_
  refine gQ (zbL rfl rfl) ?_
  refine gQ (zad rfl) ?_
  refine zag (zae (T':=[(4,_),(13,_),(14,_)]) ⟨rfl,rfl,rfl,trivial⟩ ?_)
  refine zap rfl (fun hc14=>?_) (fun hc14=>?_)
  ·simp only [decide_eq_true_eq] at hc14
   refine zac ?_
   refine zaa ?_
   refine gQ (zad rfl) ?_
   refine zag (zae (T':=[(4,_)]) ⟨rfl,trivial⟩ ?_)
   refine zaw ?_
   refine zay (zaC rfl (zau rfl)) ?_
   rw [zy1,if_neg (by rw [hc5]; exact Bool.false_ne_true),if_pos hc14]
  ·simp only [decide_eq_false_iff_not] at hc14
   refine zac ?_
   refine zaa ?_
   refine gQ (zbL rfl rfl) ?_
   refine gQ (zad rfl) ?_
   refine zag (zae (T':=[(4,_),(13,_),(16,_)]) ⟨rfl,rfl,rfl,trivial⟩ ?_)
   refine zap rfl (fun hc16=>?_) (fun hc16=>?_)
   ·simp only [decide_eq_true_eq] at hc16
    refine zac ?_
    refine zaa ?_
    refine gQ (zad rfl) ?_
    refine zag (zae (T':=[(4,_)]) ⟨rfl,trivial⟩ ?_)
    refine zaw ?_
    refine zay (zaC rfl (zau rfl)) ?_
    rw [zy1,if_neg (by rw [hc5]; exact Bool.false_ne_true),if_neg hc14,if_pos hc16]
   ·simp only [decide_eq_false_iff_not] at hc16
    refine zac ?_
    refine zaa ?_
    refine gQ (zbL rfl rfl) ?_
    refine gQ (zad rfl) ?_
    refine zag (zae (T':=[(4,_),(18,_)]) ⟨rfl,rfl,trivial⟩ ?_)
    refine zap rfl (fun hc18=>?_) (fun hc18=>?_)
    ·simp only [decide_eq_true_eq] at hc18
     refine zac ?_
     refine zaa ?_
     refine gQ (zad rfl) ?_
     refine zag (zae (T':=[(4,_)]) ⟨rfl,trivial⟩ ?_)
     refine zaw ?_
     refine zay (zaC rfl (zau rfl)) ?_
     rw [zy1,if_neg (by rw [hc5]; exact Bool.false_ne_true),if_neg hc14,if_neg hc16,if_pos hc18]
    ·simp only [decide_eq_false_iff_not] at hc18
     refine zaq ?_
     refine zac ?_
     refine zaa ?_
     refine gQ (zad rfl) ?_
     refine zag (zae (T':=[(4,_)]) ⟨rfl,trivial⟩ ?_)
     refine zaw ?_
     refine zay (zaC rfl (zau rfl)) ?_
     rw [zy1,if_neg (by rw [hc5]; exact Bool.false_ne_true),if_neg hc14,if_neg hc16,if_neg hc18]
def tkN (ws:List ByteArray) (pat:ByteArray):List Int:=match zyV (zcn pat 32) ws [] with
 | some x=>x.1
 | none=>[]
def tkB (ws:List ByteArray) (pat:ByteArray):Bool:=(zyV (zcn pat 32) ws []).isSome
def tkR (ws:List ByteArray) (pat:ByteArray):List ByteArray:=if tkB ws pat=true then ws.drop (zcn pat 32).length else []
def tkA (a:Option Addr) (cap:Nat) (ws:List ByteArray) (pat:ByteArray):Option Addr:=if tkB ws pat=true then subA a 1 (zcn pat 32).length cap else none
def tkC (cap:Nat) (ws:List ByteArray) (pat:ByteArray):Nat:=if tkB ws pat=true then cap - (zcn pat 32).length else 0
theorem zy6:∀ (ps ws:List ByteArray) (acc:List Int) {x:List Int×List ByteArray},zyV ps ws acc=some x→x.2=ws.drop ps.length∧x.1.length=acc.length+ps.countP (fun p=>p.toList == (⟨#[35]⟩:ByteArray).toList)∧ps.length≤ws.length
 | [],ws,acc,x,h=>by cases h; exact⟨rfl,by simp,Nat.zero_le _⟩
 | p :: ps,[],acc,x,h=>by cases h
 | p :: ps,y :: ws,acc,x,h=>by
  rw [zyV] at h
  split at h
  ·rename_i hp
   split at h
   ·obtain⟨h1,h2,h3⟩:=zy6 ps ws _ h
    refine⟨h1,?_,by simp; omega⟩
    rw [h2,List.countP_cons,if_pos hp]; simp; omega
   ·cases h
  ·rename_i hp
   split at h
   ·obtain⟨h1,h2,h3⟩:=zy6 ps ws _ h
    refine⟨h1,?_,by simp; omega⟩
    rw [h2,List.countP_cons,if_neg hp]; omega
   ·cases h
def zze (pat:ByteArray):Nat:=(zcn pat 32).countP (fun p=>p.toList == (⟨#[35]⟩:ByteArray).toList)
theorem zy4 {ws:List ByteArray} {pat:ByteArray} (h:tkB ws pat=true):zyV (zcn pat 32) ws []=some (tkN ws pat,tkR ws pat):=by
 unfold tkR
 rw [if_pos h]
 unfold tkN
 unfold tkB at h
 cases ht:zyV (zcn pat 32) ws [] with
 | none=>rw [ht] at h; cases h
 | some x=>
  show some x=some (x.1,_)
  rw [←(zy6 _ _ _ ht).1]
theorem zzJ {ws:List ByteArray} {pat:ByteArray} (h:tkB ws pat=false):zyV (zcn pat 32) ws []=none:=by
 unfold tkB at h
 cases ht:zyV (zcn pat 32) ws [] with
 | none=>rfl
 | some x=>rw [ht] at h; cases h
theorem zz6 {ws:List ByteArray} {pat:ByteArray} (h:tkB ws pat=true):(tkN ws pat).length=zze pat:=by
 have:=(zy6 _ _ _ (zy4 h)).2.1
 rw [List.length_nil,Nat.zero_add] at this
 exact this
theorem zAV {cap:Nat} {ws:List ByteArray} (pat:ByteArray) (h:ws.length≤cap):(tkR ws pat).length≤tkC cap ws pat:=by
 unfold tkR tkC
 split
 ·rw [List.length_drop]; omega
 ·exact Nat.le_refl _
theorem zz7 {ws:List ByteArray} {pat:ByteArray}:(tkR ws pat).length≤ws.length∧∀ x∈tkR ws pat,x∈ws:=by
 unfold tkR
 split
 ·exact⟨by rw [List.length_drop]; omega,fun x hx=>List.mem_of_mem_drop hx⟩
 ·exact⟨Nat.zero_le _,fun x hx=>by cases hx⟩
theorem zz5 {a:Option Addr} {cap:Nat} {ws:List ByteArray} {pat:ByteArray} {w:World} (h:Has w (zaW a 1 encS ws)) (hc:ws.length≤cap):Has w (zaW (tkA a cap ws pat) 1 encS (tkR ws pat)):=by
 unfold tkA tkR
 by_cases hb:tkB ws pat=true
 ·rw [if_pos hb,if_pos hb]
  exact zoc h hc (zy6 _ _ _ (zy4 hb)).2.2
 ·rw [if_neg hb,if_neg hb]
  exact⟨fun _=>False,fun _ h=>h.elim,.inl rfl⟩
theorem zA1 {α:Type} {w w':World} {e:TypeId} {enc:α→List Value} {k:Nat} (h:New w w' Emp):New w w' (Row (α:=α) none k 0 e enc []):=by
 obtain⟨B,h1,h2⟩:=h
 exact⟨B,h1,.inl ⟨rfl,rfl,rfl⟩⟩
theorem zsd (a:Option Addr) (cap:Nat) (ws:List ByteArray) (pat:ByteArray) (w:World) (hl:Has w (zaW a 1 encS ws)) (hcap:ws.length≤cap) (hs:ws.length≤100000) (hwz:∀ x∈ws,x.size≤1000000) (hsz:pat.size≤1000) :
  Calls Tryz.prog 94 #[.slice a ws.length cap,.string pat] w (zcU (fun z:Option Addr×Nat=>.tuple #[.slice z.1 (tkN ws pat).length z.2,.slice (tkA a cap ws pat) (tkR ws pat).length (tkC cap ws pat),.bool (tkB ws pat)]) (fun z=>Row z.1 1 z.2 3 Go.Stn.encI (tkN ws pat)) w):=by
 refine(zBa a cap ws pat w hl hcap hs hwz hsz).mono ?_
 rintro e w' ⟨z,he,hx,hn⟩
 unfold zAk at he
 unfold zAj at hn
 unfold tkA tkR tkC tkB tkN
 cases ht:zyV (zcn pat 32) ws [] with
 | none=>
  rw [ht] at he hn
  exact⟨(none,0),he,hx,zA1 hn⟩
 | some x=>
  rw [ht] at he hn
  exact⟨z,he,hx,hn⟩
theorem zBG:zze patA=5:=by unfold zze; rw [zzx]; decide +kernel
theorem zBH:zze patB=7:=by unfold zze; rw [zzy]; decide +kernel
theorem zBI:zze patC=6:=by unfold zze; rw [zzz]; decide +kernel
theorem zBJ:zze patD=4:=by unfold zze; rw [zzA]; decide +kernel
theorem zzT {acc:List Int} {U:List ByteArray} (hU:0 < U.length) (hl:((U.getD 0 default).toList == wLeast.toList)=false) (hn:numW (U.getD 0 default)=false):zbF acc U=.error 4:=by
 cases U with
 | nil=>simp at hU
 | cons x r=>
  have hl:(x.toList == wLeast.toList)=false:=hl
  have hn:numW x=false:=hn
  rw [zbF,if_neg (by rw [hl]; exact Bool.false_ne_true),if_neg (by rw [hn]; exact Bool.false_ne_true)]
theorem zzL {acc:List Int} {U:List ByteArray} (hU:0 < U.length) (hl:((U.getD 0 default).toList == wLeast.toList)=false) (hn:numW (U.getD 0 default)=true):zbF acc U=zbF (acc++[zyZ (U.getD 0 default)]) (U.drop 1):=by
 cases U with
 | nil=>simp at hU
 | cons x r=>
  have hl:(x.toList == wLeast.toList)=false:=hl
  have hn:numW x=true:=hn
  show zbF acc (x :: r)=zbF (acc++[zyZ x]) r
  rw [zbF,if_neg (by rw [hl]; exact Bool.false_ne_true),if_pos hn,zzo hn]
theorem zAz {ws:List ByteArray} (h:ws.length < 2∨zdY (ws.getD 1 default)=false):zyY ws=none:=by
 unfold zyY
 rcases h with h | h
 ·rw [if_pos h]
 ·split
  ·rfl
  ·rw [if_neg (by rw [znv,h]; exact Bool.false_ne_true)]
theorem zA7 {ws:List ByteArray} (h1:¬ ws.length < 2) (h2:zdY (ws.getD 1 default)=true) (h:tkB (ws.drop 2) patA=false):zyY ws=none:=by
 unfold zyY
 rw [if_neg h1,if_pos (by rw [znv,h2]),zzJ h]; rfl
theorem zzU {ws:List ByteArray} (h1:¬ ws.length < 2) (h2:zdY (ws.getD 1 default)=true) (h:tkB (ws.drop 2) patA=true) :
  zyY ws=(toO (zbF [(tkN (ws.drop 2) patA).getD 4 0] (tkR (ws.drop 2) patA))).bind fun h=>zzh (ws.getD 1 default) (tkN (ws.drop 2) patA) h:=by
 unfold zyY
 rw [if_neg h1,if_pos (by rw [znv,h2]),zy4 h]; rfl
theorem zBd {nm:ByteArray} {a:List Int} {h:List Int×List ByteArray} (hb:tkB h.2 patB=false∨(tkR h.2 patB).length=0):zzh nm a h=none:=by
 unfold zzh
 by_cases e:tkB h.2 patB=true
 ·rw [zy4 e]
  rcases hb with hb | hb
  ·rw [e] at hb; cases hb
  ·exact if_pos hb
 ·rw [zzJ (by simpa using e)]; rfl
theorem zBe {nm:ByteArray} {a:List Int} {h:List Int×List ByteArray} (h1:tkB h.2 patB=true) (h2:¬ (tkR h.2 patB).length=0) (hb:tkB ((tkR h.2 patB).drop 1) patC=false∨0 < (tkR ((tkR h.2 patB).drop 1) patC).length∨kindD ((tkR h.2 patB).getD 0 default)=4):zzh nm a h=none:=by
 unfold zzh
 rw [zy4 h1]
 show(if (tkR h.2 patB).length=0 then none else _)=none
 rw [if_neg h2]
 by_cases e:tkB ((tkR h.2 patB).drop 1) patC=true
 ·rw [zy4 e]
  show(if (tkR ((tkR h.2 patB).drop 1) patC).length=0 then _ else none)=none
  split
  ·rename_i h0
   rcases hb with hb | hb | hb
   ·rw [e] at hb; cases hb
   ·omega
   ·exact if_pos hb
  ·rfl
 ·rw [zzJ (by simpa using e)]; rfl
theorem zBf {nm:ByteArray} {a:List Int} {h:List Int×List ByteArray} (h1:tkB h.2 patB=true) (h2:¬ (tkR h.2 patB).length=0) (h3:tkB ((tkR h.2 patB).drop 1) patC=true) (h4:(tkR ((tkR h.2 patB).drop 1) patC).length=0) (h5:¬ kindD ((tkR h.2 patB).getD 0 default)=4) :
  zzh nm a h=some ⟨nm,a.getD 0 0,a.getD 1 0,a.getD 2 0,a.getD 3 0,h.1,(tkN h.2 patB).getD 0 0,(tkN h.2 patB).getD 1 0,(tkN h.2 patB).getD 2 0,(tkN h.2 patB).getD 3 0,(tkN h.2 patB).getD 4 0,(tkN h.2 patB).getD 5 0,(tkN h.2 patB).getD 6 0,kindD ((tkR h.2 patB).getD 0 default),
   (tkN ((tkR h.2 patB).drop 1) patC).getD 0 0,(tkN ((tkR h.2 patB).drop 1) patC).getD 1 0,(tkN ((tkR h.2 patB).drop 1) patC).getD 2 0,(tkN ((tkR h.2 patB).drop 1) patC).getD 3 0,(tkN ((tkR h.2 patB).drop 1) patC).getD 4 0,(tkN ((tkR h.2 patB).drop 1) patC).getD 5 0⟩:=by
 unfold zzh
 rw [zy4 h1]
 show(if (tkR h.2 patB).length=0 then none else _)=_
 rw [if_neg h2,zy4 h3]
 show(if (tkR ((tkR h.2 patB).drop 1) patC).length=0 then _ else none)=_
 rw [if_pos h4,if_neg h5]
theorem zAJ {x:ByteArray} {k:Int} (h0:0≤k) (h1:k≤4) (h2:∀ j:Nat,(j:Int) < k→((zy1 true j).toList == x.toList)=false) (h3:¬ k < 4∨((zy1 true k).toList == x.toList)=true):kindD x=k:=by
 have hw:∀ j:Int,0≤j→j < 4→copesW.getD j.toNat default=zy1 true j:=fun j a b=>by
  obtain rfl | rfl | rfl | rfl:j=0∨j=1∨j=2∨j=3:=by omega
  all_goals rfl
 have hsym:∀ a b:ByteArray,(a.toList == b.toList)=(b.toList == a.toList):=fun a b=>by rw [Bool.eq_iff_iff,beqB,beqB]; exact eq_comm
 have h4:(copesW.length:Int)=4:=rfl
 unfold kindD
 by_cases hk:k < 4
 ·have e:zbJ (fun y=>x.toList == y.toList) copesW=k:=zcs h0 (by omega) (fun j hj=>by have:=hw j (by omega) (by omega); rw [Int.toNat_natCast] at this; rw [this,hsym]; exact h2 j hj) (by rw [hw k h0 hk,hsym]; exact h3.resolve_left (by omega))
  rw [e,if_neg (by omega)]
 ·have e:zbJ (fun y=>x.toList == y.toList) copesW = -1:=zck (fun j hj=>by have:=hw j (by omega) (by omega); rw [Int.toNat_natCast] at this; rw [this,hsym]; exact h2 j (by omega))
  rw [e,if_pos (by omega)]; omega
def rdS (ws:List ByteArray):Sht:=(zyY ws).getD default
set_option maxRecDepth 100000 in
set_option maxHeartbeats 8000000 in
theorem zzV (a:Option Addr) (cap:Nat) (ws:List ByteArray) (w:World) (hl:Has w (zaW a 1 encS ws)) (hcap:ws.length≤cap) (hs:ws.length≤100000) (hwz:∀ x∈ws,x.size≤1000000) :
  Calls Tryz.prog 92 #[.slice a ws.length cap] w (zcU (fun z:Option Addr×Nat=>.tuple #[.agg #[.string (rdS ws).name,.int .i64 ((rdS ws).base),.int .i64 ((rdS ws).batter),.int .i64 ((rdS ws).height),.int .i64 ((rdS ws).skin),.slice z.1 (rdS ws).heights.length z.2,.int .i64 ((rdS ws).least),.int .i64 ((rdS ws).lap),.int .i64 ((rdS ws).run),.int .i64 ((rdS ws).every),.int .i64 ((rdS ws).at_),.int .i64 ((rdS ws).footing),.int .i64 ((rdS ws).spread),.int .u8 (rdS ws).cope,.int .i64 ((rdS ws).tall),.int .i64 ((rdS ws).short),.int .i64 ((rdS ws).thick),.int .i64 ((rdS ws).low),.int .i64 ((rdS ws).high),.int .i64 ((rdS ws).rood)],.bool (zyY ws).isSome]) (fun z=>Row z.1 1 z.2 3 Go.Stn.encI (rdS ws).heights) w):=by
 refine zan (vs:=[_]) Tryz.func92 rfl rfl (Nat.le_of_ble_eq_true rfl) ?_
 refine zac ?_
 refine zaa ?_
 refine zaG rfl rfl (zaL tf37 (zs:=[_,_,_,_,_,_,_,_,_,_,_,_,_,_,_,_,_,_,_,_]) rfl) fun b2=>?_
 refine gQ (zad rfl) ?_
 refine zag (zae (T':=[(0,_),(2,_),(3,_)]) ⟨rfl,rfl,rfl,trivial⟩ ?_)
 refine zac ?_
 refine zac ?_
 refine zbb 10 (fun _=>mixed) (by kernel_rfl) ?_
 refine ph_y (zaf rfl) ?_
 refine ph_y (zaV (Tryz.underlying124) rfl) ?_
 refine ph_y (zbw rfl rfl) ?_
 refine ph_y (zaf rfl) ?_
 refine zaz rfl rfl (fun hgd=>by(try rw [hgd]); have hgd0:=hgd; (try simp only [Bool.not_eq_true',decide_eq_false_iff_not] at hgd0); exact(zaf rfl)) ?_
 refine zaz rfl rfl (fun hgd=>by(try rw [hgd]); have hgd0:=hgd; (try simp only [Bool.not_eq_true',decide_eq_false_iff_not] at hgd0); exact(zaE zqJ rfl rfl (fun _ hw=>(Rd.has (Has.rd hl) hw)) (by omega) (by omega))) ?_
 refine zaz rfl rfl (fun hgd=>by(try rw [hgd]); have hgd0:=hgd; (try simp only [Bool.not_eq_true',decide_eq_false_iff_not] at hgd0); exact(zcE tf9 rfl (fun _ hw=>(Rd.has (Has.rd hl) hw)) (by omega) (by omega) rfl)) ?_
 refine zaz rfl rfl (fun hgd=>by(try rw [hgd]); have hgd0:=hgd; (try simp only [Bool.not_eq_true',decide_eq_false_iff_not] at hgd0); exact(zaJ (v:=.bool (zdY (ws.getD (1:Int).toNat default))) en51 rfl (fun w hw=>znM (ws.getD (1:Int).toNat default) w (by unfold Fits; have:=hwz _ (za0 (l:=ws) (i:=(1:Int).toNat) (by omega)); omega)))) ?_
 refine zaz rfl rfl (fun hgd=>by(try rw [hgd]); have hgd0:=hgd; (try simp only [Bool.not_eq_true',decide_eq_false_iff_not] at hgd0); exact(zbR rfl)) ?_
 refine ph_y (zaR rfl rfl rfl) ?_
 refine zag (zae (T':=[(0,_),(2,_),(3,_),(21,_)]) ⟨rfl,rfl,rfl,rfl,trivial⟩ ?_)
 refine zap rfl (fun hc21=>?_) (fun hc21=>?_)
 ·have hnm:ws.length < 2∨zdY (ws.getD 1 default)=false:=c21t hc21
  refine zac ?_
  refine zaa ?_
  refine gQ (zaI (parts:=[]) rfl zwu) ?_
  refine zbz 0 tf37 rfl rfl (vs:=[_,_,_,_,_,_,_,_,_,_,_,_,_,_,_,_,_,_,_,_]) rfl rfl rfl rfl rfl ?_
  refine gQ (zad rfl) ?_
  refine zag (zae (T':=[(0,_),(2,_),(3,_)]) ⟨rfl,rfl,rfl,trivial⟩ ?_)
  refine zaw ?_
  have hE:zyY ws=none:=zAz hnm
  refine zbB 3 Go.Stn.encI 1 ?_
  exact zbd (none,0) 0 (zc2 rfl (zbU (i:=1) (vs:=[.string ⟨#[]⟩,.int .i64 0,.int .i64 0,.int .i64 0,.int .i64 0,.slice none 0 0,.int .i64 0,.int .i64 0,.int .i64 0,.int .i64 0,.int .i64 0,.int .i64 0,.int .i64 0,.int .u8 0,.int .i64 0,.int .i64 0,.int .i64 0,.int .i64 0,.int .i64 0,.int .i64 0]) tf37 rfl rfl rfl rfl) (zau rfl)) (by rw [rdS,hE]; rfl) (by rw [rdS,hE]; rfl)
 ·obtain⟨hw2,hnm⟩:¬ ws.length < 2∧zdY (ws.getD 1 default)=true:=c21f hc21
  refine zaq ?_
  refine zac ?_
  refine zaa ?_
  refine gQ (zaf rfl) ?_
  refine gQ (zaE zqJ rfl rfl (fun _ hw=>(Rd.has (Has.rd hl) hw)) (by omega) (by omega)) ?_
  refine gQ (zcE tf9 rfl (fun _ hw=>(Rd.has (Has.rd hl) hw)) (by omega) (by omega) rfl) ?_
  refine gQ (zaI rfl (zAX _)) ?_
  refine zaG rfl rfl (zaL tf37 (zs:=[_,_,_,_,_,_,_,_,_,_,_,_,_,_,_,_,_,_,_,_]) rfl) fun b4=>?_
  refine zbz 0 tf37 rfl rfl (vs:=[_,_,_,_,_,_,_,_,_,_,_,_,_,_,_,_,_,_,_,_]) rfl rfl rfl rfl rfl ?_
  refine zag (zae (T':=[(0,_),(2,_),(3,_),(4,_)]) ⟨rfl,rfl,rfl,rfl,trivial⟩ ?_)
  refine zac ?_
  refine zaa ?_
  refine gQ (zaf rfl) ?_
  refine gQ (zg9 zqJ rfl rfl (by omega) (by omega)) ?_
  refine zaG rfl rfl (zbm en94 rfl (fun w hw=>zsd (subA a 1 2 cap) (cap - 2) (ws.drop 2) patA w (zoc (Rd.has (Has.rd hl) hw) hcap (by omega)) (by rw [List.length_drop]; omega) (by rw [List.length_drop]; omega) (fun x hx=>hwz x (List.mem_of_mem_drop hx)) (by decide))) fun p30=>?_
  refine gQ (zaf rfl) ?_
  refine gQ (zaB rfl rfl) ?_
  refine gQ (zaB rfl rfl) ?_
  refine gQ (zaB rfl rfl) ?_
  refine gQ (zad rfl) ?_
  refine gQ (zad rfl) ?_
  refine gQ (zad rfl) ?_
  refine zag (zae (T':=[(2,_),(3,_),(4,_),(5,_),(6,_),(7,_)]) ⟨rfl,rfl,rfl,rfl,rfl,rfl,trivial⟩ ?_)
  refine zac ?_
  refine zac ?_
  refine zaa ?_
  refine gQ (zaf rfl) ?_
  refine gQ (zbR rfl) ?_
  refine zag (zae (T':=[(2,_),(3,_),(4,_),(5,_),(6,_),(7,_),(35,_)]) ⟨rfl,rfl,rfl,rfl,rfl,rfl,rfl,trivial⟩ ?_)
  refine zap rfl (fun hc35=>?_) (fun hc35=>?_)
  ·have hA1:tkB (ws.drop 2) patA=false:=by simpa using hc35
   refine zac ?_
   refine zaa ?_
   refine gQ (zaI (parts:=[]) rfl zwu) ?_
   refine zbz 2 tf37 rfl rfl (vs:=[_,_,_,_,_,_,_,_,_,_,_,_,_,_,_,_,_,_,_,_]) rfl rfl rfl rfl rfl ?_
   refine gQ (zad rfl) ?_
   refine zag (zae (T':=[(2,_),(3,_),(4,_),(5,_),(6,_),(7,_)]) ⟨rfl,rfl,rfl,rfl,rfl,rfl,trivial⟩ ?_)
   refine zaw ?_
   have hE:zyY ws=none:=zA7 hw2 hnm hA1
   refine zbB 3 Go.Stn.encI 1 ?_
   exact zbd (none,0) 0 (zc2 rfl (zbU (i:=3) (vs:=[.string ⟨#[]⟩,.int .i64 0,.int .i64 0,.int .i64 0,.int .i64 0,.slice none 0 0,.int .i64 0,.int .i64 0,.int .i64 0,.int .i64 0,.int .i64 0,.int .i64 0,.int .i64 0,.int .u8 0,.int .i64 0,.int .i64 0,.int .i64 0,.int .i64 0,.int .i64 0,.int .i64 0]) tf37 rfl rfl rfl rfl) (zau rfl)) (by rw [rdS,hE]; rfl) (by rw [rdS,hE]; rfl)
  ·have hA1:tkB (ws.drop 2) patA=true:=by simpa using hc35
   have hA2:(tkN (ws.drop 2) patA).length=5:=(zz6 hA1).trans zBG
   have hR1:=(zz7 (ws:=ws.drop 2) (pat:=patA))
   have hR2:(ws.drop 2).length=ws.length - 2:=List.length_drop
   refine zaq ?_
   refine zac ?_
   refine zao 1 rfl ?_
   refine zpM [Box b4 [.string (ws.getD (1:Int).toNat default),.int .i64 0,.int .i64 0,.int .i64 0,.int .i64 0,.slice none 0 0,.int .i64 0,.int .i64 0,.int .i64 0,.int .i64 0,.int .i64 0,.int .i64 0,.int .i64 0,.int .u8 0,.int .i64 0,.int .i64 0,.int .i64 0,.int .i64 0,.int .i64 0,.int .i64 0] 37] (ch []) 1000 20 [0,1,3,0,8,24,0,64,192,0,512,1536,7,4103,12351,28735,61951,127487,262143,524287] rfl (fun _=>mixed) (by kernel_rfl) (zjK _ trivial) ?_
   refine zdq (fun ρ=>zaf rfl) (fun ρ ρ' h=>by rfl) ?_
   refine zdq (fun ρ=>zaE se35 rfl rfl (fun _ hw=>(zam Go.Stn.encI_ok (hw.has (p:=0) rfl))) (by omega) (by omega)) (fun ρ ρ' h=>by rfl) ?_
   refine zdq (fun ρ=>zcE tf3 rfl (fun _ hw=>(zam Go.Stn.encI_ok (hw.has (p:=0) rfl))) (by omega) (by omega) rfl) (fun ρ ρ' h=>by rfl) ?_
   refine zdq (fun ρ=>zaf rfl) (fun ρ ρ' h=>by rfl) ?_
   refine zdq (fun ρ=>zaE se35 rfl rfl (fun _ hw=>(zam Go.Stn.encI_ok (hw.has (p:=0) rfl))) (by omega) (by omega)) (fun ρ ρ' h=>by rfl) ?_
   refine zdq (fun ρ=>zcE tf3 rfl (fun _ hw=>(zam Go.Stn.encI_ok (hw.has (p:=0) rfl))) (by omega) (by omega) rfl) (fun ρ ρ' h=>by rfl) ?_
   refine zdq (fun ρ=>zaf rfl) (fun ρ ρ' h=>by rfl) ?_
   refine zdq (fun ρ=>zaE se35 rfl rfl (fun _ hw=>(zam Go.Stn.encI_ok (hw.has (p:=0) rfl))) (by omega) (by omega)) (fun ρ ρ' h=>by rfl) ?_
   refine zdq (fun ρ=>zcE tf3 rfl (fun _ hw=>(zam Go.Stn.encI_ok (hw.has (p:=0) rfl))) (by omega) (by omega) rfl) (fun ρ ρ' h=>by rfl) ?_
   refine zdq (fun ρ=>zaf rfl) (fun ρ ρ' h=>by rfl) ?_
   refine zdq (fun ρ=>zaE se35 rfl rfl (fun _ hw=>(zam Go.Stn.encI_ok (hw.has (p:=0) rfl))) (by omega) (by omega)) (fun ρ ρ' h=>by rfl) ?_
   refine zdq (fun ρ=>zcE tf3 rfl (fun _ hw=>(zam Go.Stn.encI_ok (hw.has (p:=0) rfl))) (by omega) (by omega) rfl) (fun ρ ρ' h=>by rfl) ?_
   refine zdq (fun ρ=>zab zna rfl) (fun ρ ρ' h=>by rfl) ?_
   refine zjr (R:=fun ρ=>Box b4 [.string (ws.getD (1:Int).toNat default),.int .i64 0,.int .i64 0,.int .i64 0,.int .i64 0,.slice none 0 0,.int .i64 0,.int .i64 0,.int .i64 0,.int .i64 0,.int .i64 0,.int .i64 0,.int .i64 0,.int .u8 0,.int .i64 0,.int .i64 0,.int .i64 0,.int .i64 0,.int .i64 0,.int .i64 0] 37) (A:=fun ρ=>Box b4 [.string (ws.getD (1:Int).toNat default),.int .i64 ((tkN (ws.drop 2) patA).getD (0:Int).toNat default),.int .i64 0,.int .i64 0,.int .i64 0,.slice none 0 0,.int .i64 0,.int .i64 0,.int .i64 0,.int .i64 0,.int .i64 0,.int .i64 0,.int .i64 0,.int .u8 0,.int .i64 0,.int .i64 0,.int .i64 0,.int .i64 0,.int .i64 0,.int .i64 0] 37) 1000 rfl (by kernel_rfl) (fun _=>by kernel_rfl) (fun ρ=>zex tf3 rfl rfl (vs:=[_]) rfl rfl rfl rfl rfl) (fun ρ ρ' h=>by rfl) ?_
   refine zdq (fun ρ=>zab zps rfl) (fun ρ ρ' h=>by rfl) ?_
   refine zjr (R:=fun ρ=>Box b4 [.string (ws.getD (1:Int).toNat default),.int .i64 ((tkN (ws.drop 2) patA).getD (0:Int).toNat default),.int .i64 0,.int .i64 0,.int .i64 0,.slice none 0 0,.int .i64 0,.int .i64 0,.int .i64 0,.int .i64 0,.int .i64 0,.int .i64 0,.int .i64 0,.int .u8 0,.int .i64 0,.int .i64 0,.int .i64 0,.int .i64 0,.int .i64 0,.int .i64 0] 37) (A:=fun ρ=>Box b4 [.string (ws.getD (1:Int).toNat default),.int .i64 ((tkN (ws.drop 2) patA).getD (0:Int).toNat default),.int .i64 ((tkN (ws.drop 2) patA).getD (1:Int).toNat default),.int .i64 0,.int .i64 0,.slice none 0 0,.int .i64 0,.int .i64 0,.int .i64 0,.int .i64 0,.int .i64 0,.int .i64 0,.int .i64 0,.int .u8 0,.int .i64 0,.int .i64 0,.int .i64 0,.int .i64 0,.int .i64 0,.int .i64 0] 37) 1000 rfl (by kernel_rfl) (fun _=>by kernel_rfl) (fun ρ=>zex tf3 rfl rfl (vs:=[_]) rfl rfl rfl rfl rfl) (fun ρ ρ' h=>by rfl) ?_
   refine zdq (fun ρ=>zab zdC rfl) (fun ρ ρ' h=>by rfl) ?_
   refine zjr (R:=fun ρ=>Box b4 [.string (ws.getD (1:Int).toNat default),.int .i64 ((tkN (ws.drop 2) patA).getD (0:Int).toNat default),.int .i64 ((tkN (ws.drop 2) patA).getD (1:Int).toNat default),.int .i64 0,.int .i64 0,.slice none 0 0,.int .i64 0,.int .i64 0,.int .i64 0,.int .i64 0,.int .i64 0,.int .i64 0,.int .i64 0,.int .u8 0,.int .i64 0,.int .i64 0,.int .i64 0,.int .i64 0,.int .i64 0,.int .i64 0] 37) (A:=fun ρ=>Box b4 [.string (ws.getD (1:Int).toNat default),.int .i64 ((tkN (ws.drop 2) patA).getD (0:Int).toNat default),.int .i64 ((tkN (ws.drop 2) patA).getD (1:Int).toNat default),.int .i64 ((tkN (ws.drop 2) patA).getD (2:Int).toNat default),.int .i64 0,.slice none 0 0,.int .i64 0,.int .i64 0,.int .i64 0,.int .i64 0,.int .i64 0,.int .i64 0,.int .i64 0,.int .u8 0,.int .i64 0,.int .i64 0,.int .i64 0,.int .i64 0,.int .i64 0,.int .i64 0] 37) 1000 rfl (by kernel_rfl) (fun _=>by kernel_rfl) (fun ρ=>zex tf3 rfl rfl (vs:=[_]) rfl rfl rfl rfl rfl) (fun ρ ρ' h=>by rfl) ?_
   refine zdq (fun ρ=>zab zkX rfl) (fun ρ ρ' h=>by rfl) ?_
   refine zjr (R:=fun ρ=>Box b4 [.string (ws.getD (1:Int).toNat default),.int .i64 ((tkN (ws.drop 2) patA).getD (0:Int).toNat default),.int .i64 ((tkN (ws.drop 2) patA).getD (1:Int).toNat default),.int .i64 ((tkN (ws.drop 2) patA).getD (2:Int).toNat default),.int .i64 0,.slice none 0 0,.int .i64 0,.int .i64 0,.int .i64 0,.int .i64 0,.int .i64 0,.int .i64 0,.int .i64 0,.int .u8 0,.int .i64 0,.int .i64 0,.int .i64 0,.int .i64 0,.int .i64 0,.int .i64 0] 37) (A:=fun ρ=>Box b4 [.string (ws.getD (1:Int).toNat default),.int .i64 ((tkN (ws.drop 2) patA).getD (0:Int).toNat default),.int .i64 ((tkN (ws.drop 2) patA).getD (1:Int).toNat default),.int .i64 ((tkN (ws.drop 2) patA).getD (2:Int).toNat default),.int .i64 ((tkN (ws.drop 2) patA).getD (3:Int).toNat default),.slice none 0 0,.int .i64 0,.int .i64 0,.int .i64 0,.int .i64 0,.int .i64 0,.int .i64 0,.int .i64 0,.int .u8 0,.int .i64 0,.int .i64 0,.int .i64 0,.int .i64 0,.int .i64 0,.int .i64 0] 37) 1000 rfl (by kernel_rfl) (fun _=>by kernel_rfl) (fun ρ=>zex tf3 rfl rfl (vs:=[_]) rfl rfl rfl rfl rfl) (fun ρ ρ' h=>by rfl) ?_
   refine fun ρ=>zag (zpT (T':=[(2,.pointer (some ⟨b2,0,none⟩)),(3,.bool false),(4,.pointer (some ⟨b4,0,none⟩)),(5,.slice p30.1 (tkN (ws.drop 2) patA).length p30.2),(6,.slice (tkA (subA a 1 2 cap) (cap - 2) (ws.drop 2) patA) (tkR (ws.drop 2) patA).length (tkC (cap - 2) (ws.drop 2) patA)),(7,.bool (tkB (ws.drop 2) patA))]) (H':=[Box b4 [.string (ws.getD (1:Int).toNat default),.int .i64 ((tkN (ws.drop 2) patA).getD (0:Int).toNat default),.int .i64 ((tkN (ws.drop 2) patA).getD (1:Int).toNat default),.int .i64 ((tkN (ws.drop 2) patA).getD (2:Int).toNat default),.int .i64 ((tkN (ws.drop 2) patA).getD (3:Int).toNat default),.slice none 0 0,.int .i64 0,.int .i64 0,.int .i64 0,.int .i64 0,.int .i64 0,.int .i64 0,.int .i64 0,.int .u8 0,.int .i64 0,.int .i64 0,.int .i64 0,.int .i64 0,.int .i64 0,.int .i64 0] 37,Row p30.1 1 p30.2 3 Go.Stn.encI (tkN (ws.drop 2) patA),Box b2 [.string ⟨#[]⟩,.int .i64 0,.int .i64 0,.int .i64 0,.int .i64 0,.slice none 0 0,.int .i64 0,.int .i64 0,.int .i64 0,.int .i64 0,.int .i64 0,.int .i64 0,.int .i64 0,.int .u8 0,.int .i64 0,.int .i64 0,.int .i64 0,.int .i64 0,.int .i64 0,.int .i64 0] 37]) ⟨rfl,rfl,rfl,rfl,rfl,rfl,trivial⟩ rfl ?_)
   refine zac ?_
   refine zaa ?_
   refine gQ (zaf rfl) ?_
   refine gQ (zaE se35 rfl rfl (fun _ hw=>(zam Go.Stn.encI_ok (hw.has (p:=1) rfl))) (by omega) (by omega)) ?_
   refine gQ (zcE tf3 rfl (fun _ hw=>(zam Go.Stn.encI_ok (hw.has (p:=1) rfl))) (by omega) (by omega) rfl) ?_
   refine zaG rfl rfl (zaD rfl (zo0 _) Go.Stn.encI_ok rfl) fun b56=>?_
   refine gQ (zab zgl rfl) ?_
   refine zaA 1 tf35 rfl rfl (vs:=[_]) rfl rfl rfl rfl rfl ?_
   refine zag (zae (T':=[(2,_),(3,_),(4,_),(5,_),(6,_),(7,_)]) ⟨rfl,rfl,rfl,rfl,rfl,rfl,trivial⟩ ?_)
   refine zac ?_
   refine zas ?_
   refine zbf (X:=Option Addr×Nat×List ByteArray×Option Addr×Nat×List Int) (fun⟨ra,rc,U,hb,hc,Hs⟩=>[(2,.pointer (some ⟨b2,0,none⟩)),(3,.bool false),(4,.pointer (some ⟨b4,0,none⟩)),(5,.slice p30.1 (tkN (ws.drop 2) patA).length p30.2),(6,.slice ra U.length rc),(7,.bool (tkB (ws.drop 2) patA))]) (fun⟨ra,rc,U,hb,hc,Hs⟩=>[Row hb 1 hc 3 Go.Stn.encI Hs,Box b4 [.string (ws.getD (1:Int).toNat default),.int .i64 (((tkN (ws.drop 2) patA)).getD (0:Int).toNat default),.int .i64 (((tkN (ws.drop 2) patA)).getD (1:Int).toNat default),.int .i64 (((tkN (ws.drop 2) patA)).getD (2:Int).toNat default),.int .i64 (((tkN (ws.drop 2) patA)).getD (3:Int).toNat default),.slice hb Hs.length hc,.int .i64 0,.int .i64 0,.int .i64 0,.int .i64 0,.int .i64 0,.int .i64 0,.int .i64 0,.int .u8 0,.int .i64 0,.int .i64 0,.int .i64 0,.int .i64 0,.int .i64 0,.int .i64 0] 37,Row p30.1 1 p30.2 3 Go.Stn.encI (tkN (ws.drop 2) patA),Box b2 [.string ⟨#[]⟩,.int .i64 0,.int .i64 0,.int .i64 0,.int .i64 0,.slice none 0 0,.int .i64 0,.int .i64 0,.int .i64 0,.int .i64 0,.int .i64 0,.int .i64 0,.int .i64 0,.int .u8 0,.int .i64 0,.int .i64 0,.int .i64 0,.int .i64 0,.int .i64 0,.int .i64 0] 37]) (fun⟨ra,rc,U,hb,hc,Hs⟩=>(U.length≤(tkR (ws.drop 2) patA).length∧Hs.length+U.length≤1+(tkR (ws.drop 2) patA).length∧zbF Hs U=zbF [(tkN (ws.drop 2) patA).getD 4 0] (tkR (ws.drop 2) patA)∧Has w (zaW ra 1 encS U)∧U.length≤rc∧∀ x∈U,x.size≤1000000)) (fun⟨ra,rc,U,hb,hc,Hs⟩=>U.length) (_,_,_,_,_,_) ⟨rfl,rfl,rfl,rfl,rfl,rfl,trivial⟩ rfl ?_ ?_
   ·exact⟨Nat.le_refl _,by simp only [List.length_cons,List.length_nil]; omega,rfl,zz5 (zoc hl hcap (by omega)) (by rw [List.length_drop]; omega),zAV _ (by rw [List.length_drop]; omega),fun x hx=>hwz x (List.mem_of_mem_drop (hR1.2 x hx))⟩
   ·rintro ⟨ra,rc,U,hb,hc,Hs⟩ hI
    obtain⟨g3,g4,g5,g6,g7,g8⟩:=hI
    refine zac ?_
    refine zac ?_
    refine zbb 9 (fun _=>mixed) (by kernel_rfl) ?_
    refine ph_y (zaf rfl) ?_
    refine ph_y (zaV (Tryz.underlying124) rfl) ?_
    refine ph_y (zc6 rfl rfl) ?_
    refine ph_y (zaf rfl) ?_
    refine zaH rfl rfl (fun hgd=>by(try rw [hgd]); have hgd0:=hgd; (try simp only [decide_eq_true_eq] at hgd0); exact(zaf rfl)) ?_
    refine zaH rfl rfl (fun hgd=>by(try rw [hgd]); have hgd0:=hgd; (try simp only [decide_eq_true_eq] at hgd0); exact(zaE zqJ rfl rfl (fun _ hw=>(Rd.has (Has.rd g6) hw)) (by omega) (by omega))) ?_
    refine zaH rfl rfl (fun hgd=>by(try rw [hgd]); have hgd0:=hgd; (try simp only [decide_eq_true_eq] at hgd0); exact(zcE tf9 rfl (fun _ hw=>(Rd.has (Has.rd g6) hw)) (by omega) (by omega) rfl)) ?_
    refine zaH rfl rfl (fun hgd=>by(try rw [hgd]); have hgd0:=hgd; (try simp only [decide_eq_true_eq] at hgd0); exact(ziV rfl rfl)) ?_
    refine ph_y (zaX rfl rfl rfl) ?_
    refine zag (zae (T':=[(2,_),(3,_),(4,_),(5,_),(6,_),(7,_),(66,_)]) ⟨rfl,rfl,rfl,rfl,rfl,rfl,rfl,trivial⟩ ?_)
    refine zap rfl (fun hc66=>?_) (fun hc66=>?_)
    ·obtain⟨hU0,hUl⟩:0 < U.length∧((U.getD 0 default).toList == wLeast.toList)=false:=c66t hc66
     refine zaq ?_
     refine zas ?_
     refine zac ?_
     refine zaa ?_
     refine gQ (zaf rfl) ?_
     refine gQ (zaE zqJ rfl rfl (fun _ hw=>(Rd.has (Has.rd g6) hw)) (by omega) (by omega)) ?_
     refine gQ (zcE tf9 rfl (fun _ hw=>(Rd.has (Has.rd g6) hw)) (by omega) (by omega) rfl) ?_
     refine gQ (zaJ en93 rfl (fun w hw=>zzp (U.getD (0:Int).toNat default) w (by have:=g8 _ (za0 (l:=U) (i:=(0:Int).toNat) (by omega)); omega))) ?_
     refine gQ (zaf rfl) ?_
     refine gQ (zaB rfl rfl) ?_
     refine gQ (zaB rfl rfl) ?_
     refine gQ (zad rfl) ?_
     refine gQ (zad rfl) ?_
     refine zag (zae (T':=[(2,_),(3,_),(4,_),(5,_),(6,_),(7,_),(8,_),(9,_)]) ⟨rfl,rfl,rfl,rfl,rfl,rfl,rfl,rfl,trivial⟩ ?_)
     refine zac ?_
     refine zac ?_
     refine zaa ?_
     refine gQ (zaf rfl) ?_
     refine gQ (zbR rfl) ?_
     refine zag (zae (T':=[(2,_),(3,_),(4,_),(5,_),(6,_),(7,_),(8,_),(75,_)]) ⟨rfl,rfl,rfl,rfl,rfl,rfl,rfl,rfl,trivial⟩ ?_)
     refine zap rfl (fun hc75=>?_) (fun hc75=>?_)
     ·have hUn:numW (U.getD 0 default)=false:=by have h:=hc75; rw [Bool.not_eq_true'] at h; exact h
      refine zac ?_
      refine zaa ?_
      refine gQ (zaI (parts:=[]) rfl zwu) ?_
      refine zbz 3 tf37 rfl rfl (vs:=[_,_,_,_,_,_,_,_,_,_,_,_,_,_,_,_,_,_,_,_]) rfl rfl rfl rfl rfl ?_
      refine gQ (zad rfl) ?_
      refine zag (zae (T':=[(2,_),(3,_),(4,_),(5,_),(6,_),(7,_),(8,_)]) ⟨rfl,rfl,rfl,rfl,rfl,rfl,rfl,trivial⟩ ?_)
      refine zaw ?_
      have hE:zyY ws=none:=by rw [zzU hw2 hnm hA1,←g5,zzT hU0 hUl hUn]; rfl
      refine zbB 3 Go.Stn.encI 1 ?_
      exact zbd (none,0) 0 (zc2 rfl (zbU (i:=4) (vs:=[.string ⟨#[]⟩,.int .i64 0,.int .i64 0,.int .i64 0,.int .i64 0,.slice none 0 0,.int .i64 0,.int .i64 0,.int .i64 0,.int .i64 0,.int .i64 0,.int .i64 0,.int .i64 0,.int .u8 0,.int .i64 0,.int .i64 0,.int .i64 0,.int .i64 0,.int .i64 0,.int .i64 0]) tf37 rfl rfl rfl rfl) (zau rfl)) (by rw [rdS,hE]; rfl) (by rw [rdS,hE]; rfl)
     ·have hUn:numW (U.getD 0 default)=true:=by have h:=hc75; rw [Bool.not_eq_false'] at h; exact h
      refine zaq ?_
      refine zac ?_
      refine zaa ?_
      refine gQ (zab zgl rfl) ?_
      refine gQ (zah 1 tf35 rfl rfl rfl) ?_
      refine gQ (zaf rfl) ?_
      refine zaG rfl rfl (zaD rfl (zo0 _) Go.Stn.encI_ok rfl) fun b80=>?_
      refine zb4 (m:=[(zyZ (U.getD (0:Int).toNat default))]) 1 af35 Go.Stn.encI_ok rfl rfl rfl rfl (fun _ hw=>(zam Go.Stn.encI_ok (hw.has (p:=0) rfl))) (by first | omega | (simp only [List.length_cons,List.length_nil]; omega)) (by first | (unfold maxLen; omega) | (simp only [List.length_cons,List.length_nil,maxLen]; omega)) fun a81 c81=>?_
      refine gQ (zab zgl rfl) ?_
      refine zaA 2 tf35 rfl rfl (vs:=[_]) rfl rfl rfl rfl rfl ?_
      refine zag (zae (T':=[(2,_),(3,_),(4,_),(5,_),(6,_),(7,_)]) ⟨rfl,rfl,rfl,rfl,rfl,rfl,trivial⟩ ?_)
      refine zaa ?_
      refine gQ (zaf rfl) ?_
      refine gQ (zg9 zqJ rfl rfl (by omega) (by omega)) ?_
      refine gQ (zad rfl) ?_
      refine zag (zae (T':=[(2,_),(3,_),(4,_),(5,_),(6,_),(7,_)]) ⟨rfl,rfl,rfl,rfl,rfl,rfl,trivial⟩ ?_)
      refine zaK 0 rfl ?_
      exact za1 (_,_,_,_,_,_) ⟨rfl,rfl,rfl,rfl,rfl,rfl,trivial⟩ rfl ⟨by rw [List.length_drop]; omega,by simp only [List.length_append,List.length_cons,List.length_nil,List.length_drop]; omega,by rw [←g5]; exact(zzL hU0 hUl hUn).symm,zoc g6 g7 (by omega),by rw [List.length_drop]; omega,fun x hx=>g8 x (List.mem_of_mem_drop hx)⟩ (by simp only [List.length_drop]; omega)
    ·have hend:U.length=0∨((U.getD 0 default).toList == wLeast.toList)=true:=c66f hc66
     refine za8 rfl ?_
     refine zac ?_
     refine zaa ?_
     refine gQ (zaf rfl) ?_
     refine zaG rfl rfl (zbm en94 rfl (fun w hw=>zsd ra rc U patB w (Rd.has (Has.rd g6) hw) g7 (by omega) g8 (by decide))) fun p87=>?_
     refine gQ (zaf rfl) ?_
     refine gQ (zaB rfl rfl) ?_
     refine gQ (zaB rfl rfl) ?_
     refine gQ (zaB rfl rfl) ?_
     refine gQ (zad rfl) ?_
     refine gQ (zad rfl) ?_
     refine gQ (zad rfl) ?_
     refine zag (zae (T':=[(2,_),(3,_),(4,_),(5,_),(6,_),(7,_)]) ⟨rfl,rfl,rfl,rfl,rfl,rfl,trivial⟩ ?_)
     refine zac ?_
     refine zac ?_
     refine zbb 7 (fun _=>mixed) (by kernel_rfl) ?_
     refine ph_y (zaf rfl) ?_
     refine ph_y (zbR rfl) ?_
     refine ph_y (zaf rfl) ?_
     refine zaz rfl rfl (fun hgd=>by(try rw [hgd]); have hgd0:=hgd; (try simp only [Bool.not_eq_true',Bool.not_eq_false'] at hgd0); exact(zaf rfl)) ?_
     refine zaz rfl rfl (fun hgd=>by(try rw [hgd]); have hgd0:=hgd; (try simp only [Bool.not_eq_true',Bool.not_eq_false'] at hgd0); exact(zaV (Tryz.underlying124) rfl)) ?_
     refine zaz rfl rfl (fun hgd=>by(try rw [hgd]); have hgd0:=hgd; (try simp only [Bool.not_eq_true',Bool.not_eq_false'] at hgd0); exact(zbL rfl rfl)) ?_
     refine ph_y (zaR rfl rfl rfl) ?_
     refine zag (zae (T':=[(2,_),(3,_),(4,_),(5,_),(6,_),(7,_),(97,_)]) ⟨rfl,rfl,rfl,rfl,rfl,rfl,rfl,trivial⟩ ?_)
     refine zap rfl (fun hc97=>?_) (fun hc97=>?_)
     ·have hB1:tkB U patB=false∨(tkR U patB).length=0:=c97t hc97
      have hrd:zyY ws=zzh (ws.getD 1 default) (tkN (ws.drop 2) patA) (Hs,U):=by rw [zzU hw2 hnm hA1,←g5,zk4 hend]; rfl
      refine zac ?_
      refine zaa ?_
      refine gQ (zaI (parts:=[]) rfl zwu) ?_
      refine zbz 4 tf37 rfl rfl (vs:=[_,_,_,_,_,_,_,_,_,_,_,_,_,_,_,_,_,_,_,_]) rfl rfl rfl rfl rfl ?_
      refine gQ (zad rfl) ?_
      refine zag (zae (T':=[(2,_),(3,_),(4,_),(5,_),(6,_),(7,_)]) ⟨rfl,rfl,rfl,rfl,rfl,rfl,trivial⟩ ?_)
      refine zaw ?_
      have hE:zyY ws=none:=hrd.trans (zBd (h:=(Hs,U)) hB1)
      refine zbB 3 Go.Stn.encI 1 ?_
      exact zbd (none,0) 0 (zc2 rfl (zbU (i:=5) (vs:=[.string ⟨#[]⟩,.int .i64 0,.int .i64 0,.int .i64 0,.int .i64 0,.slice none 0 0,.int .i64 0,.int .i64 0,.int .i64 0,.int .i64 0,.int .i64 0,.int .i64 0,.int .i64 0,.int .u8 0,.int .i64 0,.int .i64 0,.int .i64 0,.int .i64 0,.int .i64 0,.int .i64 0]) tf37 rfl rfl rfl rfl) (zau rfl)) (by rw [rdS,hE]; rfl) (by rw [rdS,hE]; rfl)
     ·obtain⟨hB1,hB2⟩:tkB U patB=true∧¬ (tkR U patB).length=0:=c97f hc97
      have hrd:zyY ws=zzh (ws.getD 1 default) (tkN (ws.drop 2) patA) (Hs,U):=by rw [zzU hw2 hnm hA1,←g5,zk4 hend]; rfl
      have hBn:(tkN U patB).length=7:=(zz6 hB1).trans zBH
      have h3c:=zAV (cap:=rc) patB g7
      have h3s:=zz7 (ws:=U) (pat:=patB)
      refine zaq ?_
      refine zac ?_
      refine zao 2 rfl ?_
      refine zpM [Box b4 [.string (ws.getD (1:Int).toNat default),.int .i64 (((tkN (ws.drop 2) patA)).getD (0:Int).toNat default),.int .i64 (((tkN (ws.drop 2) patA)).getD (1:Int).toNat default),.int .i64 (((tkN (ws.drop 2) patA)).getD (2:Int).toNat default),.int .i64 (((tkN (ws.drop 2) patA)).getD (3:Int).toNat default),.slice hb Hs.length hc,.int .i64 0,.int .i64 0,.int .i64 0,.int .i64 0,.int .i64 0,.int .i64 0,.int .i64 0,.int .u8 0,.int .i64 0,.int .i64 0,.int .i64 0,.int .i64 0,.int .i64 0,.int .i64 0] 37] (ch []) 1000 35 [0,1,3,0,8,24,0,64,192,0,512,1536,0,4096,12288,0,32768,98304,0,262144,786432,7,2097159,6291519,14680127,31457791,65012223,132124671,266342399,534806527,1071677439,2145648639,4293132287,8589934591,17179869183] rfl (fun _=>mixed) (by kernel_rfl) (zjK _ trivial) ?_
      refine zdq (fun ρ=>zaf rfl) (fun ρ ρ' h=>by rfl) ?_
      refine zdq (fun ρ=>zaE se35 rfl rfl (fun _ hw=>(zam Go.Stn.encI_ok (hw.has (p:=0) rfl))) (by omega) (by omega)) (fun ρ ρ' h=>by rfl) ?_
      refine zdq (fun ρ=>zcE tf3 rfl (fun _ hw=>(zam Go.Stn.encI_ok (hw.has (p:=0) rfl))) (by omega) (by omega) rfl) (fun ρ ρ' h=>by rfl) ?_
      refine zdq (fun ρ=>zaf rfl) (fun ρ ρ' h=>by rfl) ?_
      refine zdq (fun ρ=>zaE se35 rfl rfl (fun _ hw=>(zam Go.Stn.encI_ok (hw.has (p:=0) rfl))) (by omega) (by omega)) (fun ρ ρ' h=>by rfl) ?_
      refine zdq (fun ρ=>zcE tf3 rfl (fun _ hw=>(zam Go.Stn.encI_ok (hw.has (p:=0) rfl))) (by omega) (by omega) rfl) (fun ρ ρ' h=>by rfl) ?_
      refine zdq (fun ρ=>zaf rfl) (fun ρ ρ' h=>by rfl) ?_
      refine zdq (fun ρ=>zaE se35 rfl rfl (fun _ hw=>(zam Go.Stn.encI_ok (hw.has (p:=0) rfl))) (by omega) (by omega)) (fun ρ ρ' h=>by rfl) ?_
      refine zdq (fun ρ=>zcE tf3 rfl (fun _ hw=>(zam Go.Stn.encI_ok (hw.has (p:=0) rfl))) (by omega) (by omega) rfl) (fun ρ ρ' h=>by rfl) ?_
      refine zdq (fun ρ=>zaf rfl) (fun ρ ρ' h=>by rfl) ?_
      refine zdq (fun ρ=>zaE se35 rfl rfl (fun _ hw=>(zam Go.Stn.encI_ok (hw.has (p:=0) rfl))) (by omega) (by omega)) (fun ρ ρ' h=>by rfl) ?_
      refine zdq (fun ρ=>zcE tf3 rfl (fun _ hw=>(zam Go.Stn.encI_ok (hw.has (p:=0) rfl))) (by omega) (by omega) rfl) (fun ρ ρ' h=>by rfl) ?_
      refine zdq (fun ρ=>zaf rfl) (fun ρ ρ' h=>by rfl) ?_
      refine zdq (fun ρ=>zaE se35 rfl rfl (fun _ hw=>(zam Go.Stn.encI_ok (hw.has (p:=0) rfl))) (by omega) (by omega)) (fun ρ ρ' h=>by rfl) ?_
      refine zdq (fun ρ=>zcE tf3 rfl (fun _ hw=>(zam Go.Stn.encI_ok (hw.has (p:=0) rfl))) (by omega) (by omega) rfl) (fun ρ ρ' h=>by rfl) ?_
      refine zdq (fun ρ=>zaf rfl) (fun ρ ρ' h=>by rfl) ?_
      refine zdq (fun ρ=>zaE se35 rfl rfl (fun _ hw=>(zam Go.Stn.encI_ok (hw.has (p:=0) rfl))) (by omega) (by omega)) (fun ρ ρ' h=>by rfl) ?_
      refine zdq (fun ρ=>zcE tf3 rfl (fun _ hw=>(zam Go.Stn.encI_ok (hw.has (p:=0) rfl))) (by omega) (by omega) rfl) (fun ρ ρ' h=>by rfl) ?_
      refine zdq (fun ρ=>zaf rfl) (fun ρ ρ' h=>by rfl) ?_
      refine zdq (fun ρ=>zaE se35 rfl rfl (fun _ hw=>(zam Go.Stn.encI_ok (hw.has (p:=0) rfl))) (by omega) (by omega)) (fun ρ ρ' h=>by rfl) ?_
      refine zdq (fun ρ=>zcE tf3 rfl (fun _ hw=>(zam Go.Stn.encI_ok (hw.has (p:=0) rfl))) (by omega) (by omega) rfl) (fun ρ ρ' h=>by rfl) ?_
      refine zdq (fun ρ=>zab zpt rfl) (fun ρ ρ' h=>by rfl) ?_
      refine zjr (R:=fun ρ=>Box b4 [.string (ws.getD (1:Int).toNat default),.int .i64 (((tkN (ws.drop 2) patA)).getD (0:Int).toNat default),.int .i64 (((tkN (ws.drop 2) patA)).getD (1:Int).toNat default),.int .i64 (((tkN (ws.drop 2) patA)).getD (2:Int).toNat default),.int .i64 (((tkN (ws.drop 2) patA)).getD (3:Int).toNat default),.slice hb Hs.length hc,.int .i64 0,.int .i64 0,.int .i64 0,.int .i64 0,.int .i64 0,.int .i64 0,.int .i64 0,.int .u8 0,.int .i64 0,.int .i64 0,.int .i64 0,.int .i64 0,.int .i64 0,.int .i64 0] 37) (A:=fun ρ=>Box b4 [.string (ws.getD (1:Int).toNat default),.int .i64 (((tkN (ws.drop 2) patA)).getD (0:Int).toNat default),.int .i64 (((tkN (ws.drop 2) patA)).getD (1:Int).toNat default),.int .i64 (((tkN (ws.drop 2) patA)).getD (2:Int).toNat default),.int .i64 (((tkN (ws.drop 2) patA)).getD (3:Int).toNat default),.slice hb Hs.length hc,.int .i64 ((tkN U patB).getD (0:Int).toNat default),.int .i64 0,.int .i64 0,.int .i64 0,.int .i64 0,.int .i64 0,.int .i64 0,.int .u8 0,.int .i64 0,.int .i64 0,.int .i64 0,.int .i64 0,.int .i64 0,.int .i64 0] 37) 1000 rfl (by kernel_rfl) (fun _=>by kernel_rfl) (fun ρ=>zex tf3 rfl rfl (vs:=[_]) rfl rfl rfl rfl rfl) (fun ρ ρ' h=>by rfl) ?_
      refine zdq (fun ρ=>zab zsI rfl) (fun ρ ρ' h=>by rfl) ?_
      refine zjr (R:=fun ρ=>Box b4 [.string (ws.getD (1:Int).toNat default),.int .i64 (((tkN (ws.drop 2) patA)).getD (0:Int).toNat default),.int .i64 (((tkN (ws.drop 2) patA)).getD (1:Int).toNat default),.int .i64 (((tkN (ws.drop 2) patA)).getD (2:Int).toNat default),.int .i64 (((tkN (ws.drop 2) patA)).getD (3:Int).toNat default),.slice hb Hs.length hc,.int .i64 ((tkN U patB).getD (0:Int).toNat default),.int .i64 0,.int .i64 0,.int .i64 0,.int .i64 0,.int .i64 0,.int .i64 0,.int .u8 0,.int .i64 0,.int .i64 0,.int .i64 0,.int .i64 0,.int .i64 0,.int .i64 0] 37) (A:=fun ρ=>Box b4 [.string (ws.getD (1:Int).toNat default),.int .i64 (((tkN (ws.drop 2) patA)).getD (0:Int).toNat default),.int .i64 (((tkN (ws.drop 2) patA)).getD (1:Int).toNat default),.int .i64 (((tkN (ws.drop 2) patA)).getD (2:Int).toNat default),.int .i64 (((tkN (ws.drop 2) patA)).getD (3:Int).toNat default),.slice hb Hs.length hc,.int .i64 ((tkN U patB).getD (0:Int).toNat default),.int .i64 ((tkN U patB).getD (1:Int).toNat default),.int .i64 0,.int .i64 0,.int .i64 0,.int .i64 0,.int .i64 0,.int .u8 0,.int .i64 0,.int .i64 0,.int .i64 0,.int .i64 0,.int .i64 0,.int .i64 0] 37) 1000 rfl (by kernel_rfl) (fun _=>by kernel_rfl) (fun ρ=>zex tf3 rfl rfl (vs:=[_]) rfl rfl rfl rfl rfl) (fun ρ ρ' h=>by rfl) ?_
      refine zdq (fun ρ=>zab zsJ rfl) (fun ρ ρ' h=>by rfl) ?_
      refine zjr (R:=fun ρ=>Box b4 [.string (ws.getD (1:Int).toNat default),.int .i64 (((tkN (ws.drop 2) patA)).getD (0:Int).toNat default),.int .i64 (((tkN (ws.drop 2) patA)).getD (1:Int).toNat default),.int .i64 (((tkN (ws.drop 2) patA)).getD (2:Int).toNat default),.int .i64 (((tkN (ws.drop 2) patA)).getD (3:Int).toNat default),.slice hb Hs.length hc,.int .i64 ((tkN U patB).getD (0:Int).toNat default),.int .i64 ((tkN U patB).getD (1:Int).toNat default),.int .i64 0,.int .i64 0,.int .i64 0,.int .i64 0,.int .i64 0,.int .u8 0,.int .i64 0,.int .i64 0,.int .i64 0,.int .i64 0,.int .i64 0,.int .i64 0] 37) (A:=fun ρ=>Box b4 [.string (ws.getD (1:Int).toNat default),.int .i64 (((tkN (ws.drop 2) patA)).getD (0:Int).toNat default),.int .i64 (((tkN (ws.drop 2) patA)).getD (1:Int).toNat default),.int .i64 (((tkN (ws.drop 2) patA)).getD (2:Int).toNat default),.int .i64 (((tkN (ws.drop 2) patA)).getD (3:Int).toNat default),.slice hb Hs.length hc,.int .i64 ((tkN U patB).getD (0:Int).toNat default),.int .i64 ((tkN U patB).getD (1:Int).toNat default),.int .i64 ((tkN U patB).getD (2:Int).toNat default),.int .i64 0,.int .i64 0,.int .i64 0,.int .i64 0,.int .u8 0,.int .i64 0,.int .i64 0,.int .i64 0,.int .i64 0,.int .i64 0,.int .i64 0] 37) 1000 rfl (by kernel_rfl) (fun _=>by kernel_rfl) (fun ρ=>zex tf3 rfl rfl (vs:=[_]) rfl rfl rfl rfl rfl) (fun ρ ρ' h=>by rfl) ?_
      refine zdq (fun ρ=>zab zjh rfl) (fun ρ ρ' h=>by rfl) ?_
      refine zjr (R:=fun ρ=>Box b4 [.string (ws.getD (1:Int).toNat default),.int .i64 (((tkN (ws.drop 2) patA)).getD (0:Int).toNat default),.int .i64 (((tkN (ws.drop 2) patA)).getD (1:Int).toNat default),.int .i64 (((tkN (ws.drop 2) patA)).getD (2:Int).toNat default),.int .i64 (((tkN (ws.drop 2) patA)).getD (3:Int).toNat default),.slice hb Hs.length hc,.int .i64 ((tkN U patB).getD (0:Int).toNat default),.int .i64 ((tkN U patB).getD (1:Int).toNat default),.int .i64 ((tkN U patB).getD (2:Int).toNat default),.int .i64 0,.int .i64 0,.int .i64 0,.int .i64 0,.int .u8 0,.int .i64 0,.int .i64 0,.int .i64 0,.int .i64 0,.int .i64 0,.int .i64 0] 37) (A:=fun ρ=>Box b4 [.string (ws.getD (1:Int).toNat default),.int .i64 (((tkN (ws.drop 2) patA)).getD (0:Int).toNat default),.int .i64 (((tkN (ws.drop 2) patA)).getD (1:Int).toNat default),.int .i64 (((tkN (ws.drop 2) patA)).getD (2:Int).toNat default),.int .i64 (((tkN (ws.drop 2) patA)).getD (3:Int).toNat default),.slice hb Hs.length hc,.int .i64 ((tkN U patB).getD (0:Int).toNat default),.int .i64 ((tkN U patB).getD (1:Int).toNat default),.int .i64 ((tkN U patB).getD (2:Int).toNat default),.int .i64 ((tkN U patB).getD (3:Int).toNat default),.int .i64 0,.int .i64 0,.int .i64 0,.int .u8 0,.int .i64 0,.int .i64 0,.int .i64 0,.int .i64 0,.int .i64 0,.int .i64 0] 37) 1000 rfl (by kernel_rfl) (fun _=>by kernel_rfl) (fun ρ=>zex tf3 rfl rfl (vs:=[_]) rfl rfl rfl rfl rfl) (fun ρ ρ' h=>by rfl) ?_
      refine zdq (fun ρ=>zab zjU rfl) (fun ρ ρ' h=>by rfl) ?_
      refine zjr (R:=fun ρ=>Box b4 [.string (ws.getD (1:Int).toNat default),.int .i64 (((tkN (ws.drop 2) patA)).getD (0:Int).toNat default),.int .i64 (((tkN (ws.drop 2) patA)).getD (1:Int).toNat default),.int .i64 (((tkN (ws.drop 2) patA)).getD (2:Int).toNat default),.int .i64 (((tkN (ws.drop 2) patA)).getD (3:Int).toNat default),.slice hb Hs.length hc,.int .i64 ((tkN U patB).getD (0:Int).toNat default),.int .i64 ((tkN U patB).getD (1:Int).toNat default),.int .i64 ((tkN U patB).getD (2:Int).toNat default),.int .i64 ((tkN U patB).getD (3:Int).toNat default),.int .i64 0,.int .i64 0,.int .i64 0,.int .u8 0,.int .i64 0,.int .i64 0,.int .i64 0,.int .i64 0,.int .i64 0,.int .i64 0] 37) (A:=fun ρ=>Box b4 [.string (ws.getD (1:Int).toNat default),.int .i64 (((tkN (ws.drop 2) patA)).getD (0:Int).toNat default),.int .i64 (((tkN (ws.drop 2) patA)).getD (1:Int).toNat default),.int .i64 (((tkN (ws.drop 2) patA)).getD (2:Int).toNat default),.int .i64 (((tkN (ws.drop 2) patA)).getD (3:Int).toNat default),.slice hb Hs.length hc,.int .i64 ((tkN U patB).getD (0:Int).toNat default),.int .i64 ((tkN U patB).getD (1:Int).toNat default),.int .i64 ((tkN U patB).getD (2:Int).toNat default),.int .i64 ((tkN U patB).getD (3:Int).toNat default),.int .i64 ((tkN U patB).getD (4:Int).toNat default),.int .i64 0,.int .i64 0,.int .u8 0,.int .i64 0,.int .i64 0,.int .i64 0,.int .i64 0,.int .i64 0,.int .i64 0] 37) 1000 rfl (by kernel_rfl) (fun _=>by kernel_rfl) (fun ρ=>zex tf3 rfl rfl (vs:=[_]) rfl rfl rfl rfl rfl) (fun ρ ρ' h=>by rfl) ?_
      refine zdq (fun ρ=>zab zl4 rfl) (fun ρ ρ' h=>by rfl) ?_
      refine zjr (R:=fun ρ=>Box b4 [.string (ws.getD (1:Int).toNat default),.int .i64 (((tkN (ws.drop 2) patA)).getD (0:Int).toNat default),.int .i64 (((tkN (ws.drop 2) patA)).getD (1:Int).toNat default),.int .i64 (((tkN (ws.drop 2) patA)).getD (2:Int).toNat default),.int .i64 (((tkN (ws.drop 2) patA)).getD (3:Int).toNat default),.slice hb Hs.length hc,.int .i64 ((tkN U patB).getD (0:Int).toNat default),.int .i64 ((tkN U patB).getD (1:Int).toNat default),.int .i64 ((tkN U patB).getD (2:Int).toNat default),.int .i64 ((tkN U patB).getD (3:Int).toNat default),.int .i64 ((tkN U patB).getD (4:Int).toNat default),.int .i64 0,.int .i64 0,.int .u8 0,.int .i64 0,.int .i64 0,.int .i64 0,.int .i64 0,.int .i64 0,.int .i64 0] 37) (A:=fun ρ=>Box b4 [.string (ws.getD (1:Int).toNat default),.int .i64 (((tkN (ws.drop 2) patA)).getD (0:Int).toNat default),.int .i64 (((tkN (ws.drop 2) patA)).getD (1:Int).toNat default),.int .i64 (((tkN (ws.drop 2) patA)).getD (2:Int).toNat default),.int .i64 (((tkN (ws.drop 2) patA)).getD (3:Int).toNat default),.slice hb Hs.length hc,.int .i64 ((tkN U patB).getD (0:Int).toNat default),.int .i64 ((tkN U patB).getD (1:Int).toNat default),.int .i64 ((tkN U patB).getD (2:Int).toNat default),.int .i64 ((tkN U patB).getD (3:Int).toNat default),.int .i64 ((tkN U patB).getD (4:Int).toNat default),.int .i64 ((tkN U patB).getD (5:Int).toNat default),.int .i64 0,.int .u8 0,.int .i64 0,.int .i64 0,.int .i64 0,.int .i64 0,.int .i64 0,.int .i64 0] 37) 1000 rfl (by kernel_rfl) (fun _=>by kernel_rfl) (fun ρ=>zex tf3 rfl rfl (vs:=[_]) rfl rfl rfl rfl rfl) (fun ρ ρ' h=>by rfl) ?_
      refine zdq (fun ρ=>zab zl5 rfl) (fun ρ ρ' h=>by rfl) ?_
      refine zjr (R:=fun ρ=>Box b4 [.string (ws.getD (1:Int).toNat default),.int .i64 (((tkN (ws.drop 2) patA)).getD (0:Int).toNat default),.int .i64 (((tkN (ws.drop 2) patA)).getD (1:Int).toNat default),.int .i64 (((tkN (ws.drop 2) patA)).getD (2:Int).toNat default),.int .i64 (((tkN (ws.drop 2) patA)).getD (3:Int).toNat default),.slice hb Hs.length hc,.int .i64 ((tkN U patB).getD (0:Int).toNat default),.int .i64 ((tkN U patB).getD (1:Int).toNat default),.int .i64 ((tkN U patB).getD (2:Int).toNat default),.int .i64 ((tkN U patB).getD (3:Int).toNat default),.int .i64 ((tkN U patB).getD (4:Int).toNat default),.int .i64 ((tkN U patB).getD (5:Int).toNat default),.int .i64 0,.int .u8 0,.int .i64 0,.int .i64 0,.int .i64 0,.int .i64 0,.int .i64 0,.int .i64 0] 37) (A:=fun ρ=>Box b4 [.string (ws.getD (1:Int).toNat default),.int .i64 (((tkN (ws.drop 2) patA)).getD (0:Int).toNat default),.int .i64 (((tkN (ws.drop 2) patA)).getD (1:Int).toNat default),.int .i64 (((tkN (ws.drop 2) patA)).getD (2:Int).toNat default),.int .i64 (((tkN (ws.drop 2) patA)).getD (3:Int).toNat default),.slice hb Hs.length hc,.int .i64 ((tkN U patB).getD (0:Int).toNat default),.int .i64 ((tkN U patB).getD (1:Int).toNat default),.int .i64 ((tkN U patB).getD (2:Int).toNat default),.int .i64 ((tkN U patB).getD (3:Int).toNat default),.int .i64 ((tkN U patB).getD (4:Int).toNat default),.int .i64 ((tkN U patB).getD (5:Int).toNat default),.int .i64 ((tkN U patB).getD (6:Int).toNat default),.int .u8 0,.int .i64 0,.int .i64 0,.int .i64 0,.int .i64 0,.int .i64 0,.int .i64 0] 37) 1000 rfl (by kernel_rfl) (fun _=>by kernel_rfl) (fun ρ=>zex tf3 rfl rfl (vs:=[_]) rfl rfl rfl rfl rfl) (fun ρ ρ' h=>by rfl) ?_
      refine fun ρ=>zag (zpT (T':=[(2,.pointer (some ⟨b2,0,none⟩)),(3,.bool false),(4,.pointer (some ⟨b4,0,none⟩)),(5,.slice p87.1 (tkN U patB).length p87.2),(6,.slice (tkA ra rc U patB) (tkR U patB).length (tkC rc U patB)),(7,.bool (tkB U patB))]) (H':=[Box b4 [.string (ws.getD (1:Int).toNat default),.int .i64 (((tkN (ws.drop 2) patA)).getD (0:Int).toNat default),.int .i64 (((tkN (ws.drop 2) patA)).getD (1:Int).toNat default),.int .i64 (((tkN (ws.drop 2) patA)).getD (2:Int).toNat default),.int .i64 (((tkN (ws.drop 2) patA)).getD (3:Int).toNat default),.slice hb Hs.length hc,.int .i64 ((tkN U patB).getD (0:Int).toNat default),.int .i64 ((tkN U patB).getD (1:Int).toNat default),.int .i64 ((tkN U patB).getD (2:Int).toNat default),.int .i64 ((tkN U patB).getD (3:Int).toNat default),.int .i64 ((tkN U patB).getD (4:Int).toNat default),.int .i64 ((tkN U patB).getD (5:Int).toNat default),.int .i64 ((tkN U patB).getD (6:Int).toNat default),.int .u8 0,.int .i64 0,.int .i64 0,.int .i64 0,.int .i64 0,.int .i64 0,.int .i64 0] 37,Row p87.1 1 p87.2 3 Go.Stn.encI (tkN U patB),Row hb 1 hc 3 Go.Stn.encI Hs,Row p30.1 1 p30.2 3 Go.Stn.encI (tkN (ws.drop 2) patA),Box b2 [.string ⟨#[]⟩,.int .i64 0,.int .i64 0,.int .i64 0,.int .i64 0,.slice none 0 0,.int .i64 0,.int .i64 0,.int .i64 0,.int .i64 0,.int .i64 0,.int .i64 0,.int .i64 0,.int .u8 0,.int .i64 0,.int .i64 0,.int .i64 0,.int .i64 0,.int .i64 0,.int .i64 0] 37]) ⟨rfl,rfl,rfl,rfl,rfl,rfl,trivial⟩ rfl ?_)
      refine zac ?_
      refine zaa ?_
      refine gQ (zad rfl) ?_
      refine zag (zae (T':=[(2,_),(3,_),(4,_),(5,_),(6,_),(7,_),(10,_)]) ⟨rfl,rfl,rfl,rfl,rfl,rfl,rfl,trivial⟩ ?_)
      refine zac ?_
      refine zas ?_
      refine zbf (X:=Int) (fun(k:Int)=>[(2,.pointer (some ⟨b2,0,none⟩)),(3,.bool false),(4,.pointer (some ⟨b4,0,none⟩)),(5,.slice p87.1 (tkN U patB).length p87.2),(6,.slice (tkA ra rc U patB) (tkR U patB).length (tkC rc U patB)),(7,.bool (tkB U patB)),(10,.int .u8 k)]) (fun(k:Int)=>[Box b4 [.string (ws.getD (1:Int).toNat default),.int .i64 (((tkN (ws.drop 2) patA)).getD (0:Int).toNat default),.int .i64 (((tkN (ws.drop 2) patA)).getD (1:Int).toNat default),.int .i64 (((tkN (ws.drop 2) patA)).getD (2:Int).toNat default),.int .i64 (((tkN (ws.drop 2) patA)).getD (3:Int).toNat default),.slice hb Hs.length hc,.int .i64 ((tkN U patB).getD (0:Int).toNat default),.int .i64 ((tkN U patB).getD (1:Int).toNat default),.int .i64 ((tkN U patB).getD (2:Int).toNat default),.int .i64 ((tkN U patB).getD (3:Int).toNat default),.int .i64 ((tkN U patB).getD (4:Int).toNat default),.int .i64 ((tkN U patB).getD (5:Int).toNat default),.int .i64 ((tkN U patB).getD (6:Int).toNat default),.int .u8 0,.int .i64 0,.int .i64 0,.int .i64 0,.int .i64 0,.int .i64 0,.int .i64 0] 37,Row p87.1 1 p87.2 3 Go.Stn.encI (tkN U patB),Row hb 1 hc 3 Go.Stn.encI Hs,Row p30.1 1 p30.2 3 Go.Stn.encI (tkN (ws.drop 2) patA),Box b2 [.string ⟨#[]⟩,.int .i64 0,.int .i64 0,.int .i64 0,.int .i64 0,.slice none 0 0,.int .i64 0,.int .i64 0,.int .i64 0,.int .i64 0,.int .i64 0,.int .i64 0,.int .i64 0,.int .u8 0,.int .i64 0,.int .i64 0,.int .i64 0,.int .i64 0,.int .i64 0,.int .i64 0] 37]) (fun(k:Int)=>(0≤k∧k≤4∧∀ j:Nat,(j:Int) < k→((zy1 true j).toList == ((tkR U patB).getD 0 default).toList)=false)) (fun(k:Int)=>(4 - k).toNat) 0 ⟨rfl,rfl,rfl,rfl,rfl,rfl,rfl,trivial⟩ rfl ?_ ?_
      ·exact⟨by omega,by omega,fun j hj=>by omega⟩
      ·rintro k hI
       obtain⟨k0,k1,k2⟩:=hI
       refine zac ?_
       refine zac ?_
       refine zbb 10 (fun _=>mixed) (by kernel_rfl) ?_
       refine ph_y (zaf rfl) ?_
       refine ph_y (zbw rfl rfl) ?_
       refine ph_y (zaf rfl) ?_
       refine zaH rfl rfl (fun hgd=>by(try rw [hgd]); exact(zaf rfl)) ?_
       refine zaH rfl rfl (fun hgd=>by(try rw [hgd]); exact(zaJ (v:=.string (zy1 true k)) en72 rfl (fun w hw=>zAW true k w))) ?_
       refine zaH rfl rfl (fun hgd=>by(try rw [hgd]); exact(zaf rfl)) ?_
       refine zaH rfl rfl (fun hgd=>by(try rw [hgd]); exact(zaE zqJ rfl rfl (fun _ hw=>(zz5 (Rd.has (Has.rd g6) hw) g7)) (by omega) (by omega))) ?_
       refine zaH rfl rfl (fun hgd=>by(try rw [hgd]); exact(zcE tf9 rfl (fun _ hw=>(zz5 (Rd.has (Has.rd g6) hw) g7)) (by omega) (by omega) rfl)) ?_
       refine zaH rfl rfl (fun hgd=>by(try rw [hgd]); exact(ziV rfl rfl)) ?_
       refine ph_y (zaX rfl rfl rfl) ?_
       refine zag (zae (T':=[(2,_),(3,_),(4,_),(5,_),(6,_),(7,_),(10,_),(136,_)]) ⟨rfl,rfl,rfl,rfl,rfl,rfl,rfl,rfl,trivial⟩ ?_)
       refine zap rfl (fun hc136=>?_) (fun hc136=>?_)
       ·obtain⟨k4,hkw⟩:k < 4∧((zy1 true k).toList == ((tkR U patB).getD 0 default).toList)=false:=zBB hc136
        refine zaq ?_
        refine zas ?_
        refine zaa ?_
        refine gQ (zaf rfl) ?_
        refine gQ (zfw rfl rfl) ?_
        refine gQ (zad rfl) ?_
        refine zag (zae (T':=[(2,_),(3,_),(4,_),(5,_),(6,_),(7,_),(10,_)]) ⟨rfl,rfl,rfl,rfl,rfl,rfl,rfl,trivial⟩ ?_)
        refine zae (T':=[(2,_),(3,_),(4,_),(5,_),(6,_),(7,_),(10,.int .u8 (k+1))]) ⟨rfl,rfl,rfl,rfl,rfl,rfl,(by show some (Value.int .u8 (IntKind.u8.wrap (k+1)))=_; rw [zwr (by omega) (by omega)]),trivial⟩ ?_
        exact za1 (k+1) ⟨rfl,rfl,rfl,rfl,rfl,rfl,rfl,trivial⟩ rfl ⟨by omega,by omega,zdP (f:=fun j=>(zy1 true j).toList == ((tkR U patB).getD 0 default).toList) k0 k2 (by rw [Int.toNat_of_nonneg k0]; exact hkw)⟩ (by omega)
       ·have hkd:kindD ((tkR U patB).getD 0 default)=k:=zAJ k0 k1 k2 (zBA hc136)
        refine za8 rfl ?_
        refine zac ?_
        refine zaa ?_
        refine gQ (zaf rfl) ?_
        refine gQ (zg9 zqJ rfl rfl (by omega) (by omega)) ?_
        refine zaG rfl rfl (zbm en94 rfl (fun w hw=>zsd (subA (tkA ra rc U patB) 1 1 (tkC rc U patB)) ((tkC rc U patB) - 1) ((tkR U patB).drop 1) patC w (zoc (zz5 (Rd.has (Has.rd g6) hw) g7) h3c (by omega)) (by rw [List.length_drop]; omega) (by rw [List.length_drop]; have:=(zz7 (ws:=U) (pat:=patB)).1; omega) (fun x hx=>g8 x (zz7.2 x (List.mem_of_mem_drop hx))) (by decide))) fun p142=>?_
        refine gQ (zaf rfl) ?_
        refine gQ (zaB rfl rfl) ?_
        refine gQ (zaB rfl rfl) ?_
        refine gQ (zaB rfl rfl) ?_
        refine gQ (zad rfl) ?_
        refine gQ (zad rfl) ?_
        refine gQ (zad rfl) ?_
        refine zag (zae (T':=[(2,_),(3,_),(4,_),(5,_),(7,_),(10,_),(11,_)]) ⟨rfl,rfl,rfl,rfl,rfl,rfl,rfl,trivial⟩ ?_)
        refine zac ?_
        refine zac ?_
        refine zbb 11 (fun _=>mixed) (by kernel_rfl) ?_
        refine ph_y (zaf rfl) ?_
        refine ph_y (zbR rfl) ?_
        refine ph_y (zaf rfl) ?_
        refine zaz rfl rfl (fun hgd=>by(try rw [hgd]); have hgd0:=hgd; (try simp only [Bool.not_eq_true',Bool.not_eq_false'] at hgd0); exact(zaf rfl)) ?_
        refine zaz rfl rfl (fun hgd=>by(try rw [hgd]); have hgd0:=hgd; (try simp only [Bool.not_eq_true',Bool.not_eq_false'] at hgd0); exact(zaV (Tryz.underlying124) rfl)) ?_
        refine zaz rfl rfl (fun hgd=>by(try rw [hgd]); have hgd0:=hgd; (try simp only [Bool.not_eq_true',Bool.not_eq_false'] at hgd0); exact(zc6 rfl rfl)) ?_
        refine ph_y (zaR rfl rfl rfl) ?_
        refine ph_y (zaf rfl) ?_
        refine zaz rfl rfl (fun hgd=>by(try rw [hgd]); have hgd0:=hgd; (try simp only [Bool.not_eq_true',Bool.or_eq_false_iff,Bool.not_eq_false',decide_eq_false_iff_not] at hgd0); exact(zaf rfl)) ?_
        refine zaz rfl rfl (fun hgd=>by(try rw [hgd]); have hgd0:=hgd; (try simp only [Bool.not_eq_true',Bool.or_eq_false_iff,Bool.not_eq_false',decide_eq_false_iff_not] at hgd0); exact(zbL rfl rfl)) ?_
        refine ph_y (zaR rfl rfl rfl) ?_
        refine zag (zae (T':=[(2,_),(3,_),(4,_),(5,_),(10,_),(156,_)]) ⟨rfl,rfl,rfl,rfl,rfl,rfl,trivial⟩ ?_)
        refine zap rfl (fun hc156=>?_) (fun hc156=>?_)
        ·have hC1:tkB ((tkR U patB).drop 1) patC=false∨0 < (tkR ((tkR U patB).drop 1) patC).length∨kindD ((tkR U patB).getD 0 default)=4:=by rw [hkd]; exact zBr hc156
         refine zac ?_
         refine zaa ?_
         refine gQ (zaI (parts:=[]) rfl zwu) ?_
         refine zbz 5 tf37 rfl rfl (vs:=[_,_,_,_,_,_,_,_,_,_,_,_,_,_,_,_,_,_,_,_]) rfl rfl rfl rfl rfl ?_
         refine gQ (zad rfl) ?_
         refine zag (zae (T':=[(2,_),(3,_),(4,_),(5,_),(10,_)]) ⟨rfl,rfl,rfl,rfl,rfl,trivial⟩ ?_)
         refine zaw ?_
         have hE:zyY ws=none:=hrd.trans (zBe (h:=(Hs,U)) hB1 hB2 hC1)
         refine zbB 3 Go.Stn.encI 1 ?_
         exact zbd (none,0) 0 (zc2 rfl (zbU (i:=6) (vs:=[.string ⟨#[]⟩,.int .i64 0,.int .i64 0,.int .i64 0,.int .i64 0,.slice none 0 0,.int .i64 0,.int .i64 0,.int .i64 0,.int .i64 0,.int .i64 0,.int .i64 0,.int .i64 0,.int .u8 0,.int .i64 0,.int .i64 0,.int .i64 0,.int .i64 0,.int .i64 0,.int .i64 0]) tf37 rfl rfl rfl rfl) (zau rfl)) (by rw [rdS,hE]; rfl) (by rw [rdS,hE]; rfl)
        ·obtain⟨hC1,hC2,hC3⟩:tkB ((tkR U patB).drop 1) patC=true∧(tkR ((tkR U patB).drop 1) patC).length=0∧¬ kindD ((tkR U patB).getD 0 default)=4:=by rw [hkd]; exact zBq hc156
         have hCn:(tkN ((tkR U patB).drop 1) patC).length=6:=(zz6 hC1).trans zBI
         refine zaq ?_
         refine zac ?_
         refine zao 1 rfl ?_
         refine zpM [Box b4 [.string (ws.getD (1:Int).toNat default),.int .i64 (((tkN (ws.drop 2) patA)).getD (0:Int).toNat default),.int .i64 (((tkN (ws.drop 2) patA)).getD (1:Int).toNat default),.int .i64 (((tkN (ws.drop 2) patA)).getD (2:Int).toNat default),.int .i64 (((tkN (ws.drop 2) patA)).getD (3:Int).toNat default),.slice hb Hs.length hc,.int .i64 ((tkN U patB).getD (0:Int).toNat default),.int .i64 ((tkN U patB).getD (1:Int).toNat default),.int .i64 ((tkN U patB).getD (2:Int).toNat default),.int .i64 ((tkN U patB).getD (3:Int).toNat default),.int .i64 ((tkN U patB).getD (4:Int).toNat default),.int .i64 ((tkN U patB).getD (5:Int).toNat default),.int .i64 ((tkN U patB).getD (6:Int).toNat default),.int .u8 0,.int .i64 0,.int .i64 0,.int .i64 0,.int .i64 0,.int .i64 0,.int .i64 0] 37] (ch []) 1000 33 [0,0,2,6,0,16,48,0,128,384,0,1024,3072,0,8192,24576,0,65536,196608,1,524289,1572879,3670031,7864447,16253055,33031167,66585599,133701631,267919359,536412159,1073283071,2147483647,4294967295] rfl (fun _=>mixed) (by kernel_rfl) (zjK _ trivial) ?_
         refine zdq (fun ρ=>zaf rfl) (fun ρ ρ' h=>by rfl) ?_
         refine zdq (fun ρ=>zaf rfl) (fun ρ ρ' h=>by rfl) ?_
         refine zdq (fun ρ=>zaE se35 rfl rfl (fun _ hw=>(zam Go.Stn.encI_ok (hw.has (p:=0) rfl))) (by omega) (by omega)) (fun ρ ρ' h=>by rfl) ?_
         refine zdq (fun ρ=>zcE tf3 rfl (fun _ hw=>(zam Go.Stn.encI_ok (hw.has (p:=0) rfl))) (by omega) (by omega) rfl) (fun ρ ρ' h=>by rfl) ?_
         refine zdq (fun ρ=>zaf rfl) (fun ρ ρ' h=>by rfl) ?_
         refine zdq (fun ρ=>zaE se35 rfl rfl (fun _ hw=>(zam Go.Stn.encI_ok (hw.has (p:=0) rfl))) (by omega) (by omega)) (fun ρ ρ' h=>by rfl) ?_
         refine zdq (fun ρ=>zcE tf3 rfl (fun _ hw=>(zam Go.Stn.encI_ok (hw.has (p:=0) rfl))) (by omega) (by omega) rfl) (fun ρ ρ' h=>by rfl) ?_
         refine zdq (fun ρ=>zaf rfl) (fun ρ ρ' h=>by rfl) ?_
         refine zdq (fun ρ=>zaE se35 rfl rfl (fun _ hw=>(zam Go.Stn.encI_ok (hw.has (p:=0) rfl))) (by omega) (by omega)) (fun ρ ρ' h=>by rfl) ?_
         refine zdq (fun ρ=>zcE tf3 rfl (fun _ hw=>(zam Go.Stn.encI_ok (hw.has (p:=0) rfl))) (by omega) (by omega) rfl) (fun ρ ρ' h=>by rfl) ?_
         refine zdq (fun ρ=>zaf rfl) (fun ρ ρ' h=>by rfl) ?_
         refine zdq (fun ρ=>zaE se35 rfl rfl (fun _ hw=>(zam Go.Stn.encI_ok (hw.has (p:=0) rfl))) (by omega) (by omega)) (fun ρ ρ' h=>by rfl) ?_
         refine zdq (fun ρ=>zcE tf3 rfl (fun _ hw=>(zam Go.Stn.encI_ok (hw.has (p:=0) rfl))) (by omega) (by omega) rfl) (fun ρ ρ' h=>by rfl) ?_
         refine zdq (fun ρ=>zaf rfl) (fun ρ ρ' h=>by rfl) ?_
         refine zdq (fun ρ=>zaE se35 rfl rfl (fun _ hw=>(zam Go.Stn.encI_ok (hw.has (p:=0) rfl))) (by omega) (by omega)) (fun ρ ρ' h=>by rfl) ?_
         refine zdq (fun ρ=>zcE tf3 rfl (fun _ hw=>(zam Go.Stn.encI_ok (hw.has (p:=0) rfl))) (by omega) (by omega) rfl) (fun ρ ρ' h=>by rfl) ?_
         refine zdq (fun ρ=>zaf rfl) (fun ρ ρ' h=>by rfl) ?_
         refine zdq (fun ρ=>zaE se35 rfl rfl (fun _ hw=>(zam Go.Stn.encI_ok (hw.has (p:=0) rfl))) (by omega) (by omega)) (fun ρ ρ' h=>by rfl) ?_
         refine zdq (fun ρ=>zcE tf3 rfl (fun _ hw=>(zam Go.Stn.encI_ok (hw.has (p:=0) rfl))) (by omega) (by omega) rfl) (fun ρ ρ' h=>by rfl) ?_
         refine zdq (fun ρ=>zab zfb rfl) (fun ρ ρ' h=>by rfl) ?_
         refine zjr (R:=fun ρ=>Box b4 [.string (ws.getD (1:Int).toNat default),.int .i64 (((tkN (ws.drop 2) patA)).getD (0:Int).toNat default),.int .i64 (((tkN (ws.drop 2) patA)).getD (1:Int).toNat default),.int .i64 (((tkN (ws.drop 2) patA)).getD (2:Int).toNat default),.int .i64 (((tkN (ws.drop 2) patA)).getD (3:Int).toNat default),.slice hb Hs.length hc,.int .i64 ((tkN U patB).getD (0:Int).toNat default),.int .i64 ((tkN U patB).getD (1:Int).toNat default),.int .i64 ((tkN U patB).getD (2:Int).toNat default),.int .i64 ((tkN U patB).getD (3:Int).toNat default),.int .i64 ((tkN U patB).getD (4:Int).toNat default),.int .i64 ((tkN U patB).getD (5:Int).toNat default),.int .i64 ((tkN U patB).getD (6:Int).toNat default),.int .u8 0,.int .i64 0,.int .i64 0,.int .i64 0,.int .i64 0,.int .i64 0,.int .i64 0] 37) (A:=fun ρ=>Box b4 [.string (ws.getD (1:Int).toNat default),.int .i64 (((tkN (ws.drop 2) patA)).getD (0:Int).toNat default),.int .i64 (((tkN (ws.drop 2) patA)).getD (1:Int).toNat default),.int .i64 (((tkN (ws.drop 2) patA)).getD (2:Int).toNat default),.int .i64 (((tkN (ws.drop 2) patA)).getD (3:Int).toNat default),.slice hb Hs.length hc,.int .i64 ((tkN U patB).getD (0:Int).toNat default),.int .i64 ((tkN U patB).getD (1:Int).toNat default),.int .i64 ((tkN U patB).getD (2:Int).toNat default),.int .i64 ((tkN U patB).getD (3:Int).toNat default),.int .i64 ((tkN U patB).getD (4:Int).toNat default),.int .i64 ((tkN U patB).getD (5:Int).toNat default),.int .i64 ((tkN U patB).getD (6:Int).toNat default),.int .u8 k,.int .i64 0,.int .i64 0,.int .i64 0,.int .i64 0,.int .i64 0,.int .i64 0] 37) 1000 rfl (by kernel_rfl) (fun _=>by kernel_rfl) (fun ρ=>zex tf5 rfl rfl (vs:=[_]) rfl rfl rfl rfl rfl) (fun ρ ρ' h=>by rfl) ?_
         refine zdq (fun ρ=>zab zjV rfl) (fun ρ ρ' h=>by rfl) ?_
         refine zjr (R:=fun ρ=>Box b4 [.string (ws.getD (1:Int).toNat default),.int .i64 (((tkN (ws.drop 2) patA)).getD (0:Int).toNat default),.int .i64 (((tkN (ws.drop 2) patA)).getD (1:Int).toNat default),.int .i64 (((tkN (ws.drop 2) patA)).getD (2:Int).toNat default),.int .i64 (((tkN (ws.drop 2) patA)).getD (3:Int).toNat default),.slice hb Hs.length hc,.int .i64 ((tkN U patB).getD (0:Int).toNat default),.int .i64 ((tkN U patB).getD (1:Int).toNat default),.int .i64 ((tkN U patB).getD (2:Int).toNat default),.int .i64 ((tkN U patB).getD (3:Int).toNat default),.int .i64 ((tkN U patB).getD (4:Int).toNat default),.int .i64 ((tkN U patB).getD (5:Int).toNat default),.int .i64 ((tkN U patB).getD (6:Int).toNat default),.int .u8 k,.int .i64 0,.int .i64 0,.int .i64 0,.int .i64 0,.int .i64 0,.int .i64 0] 37) (A:=fun ρ=>Box b4 [.string (ws.getD (1:Int).toNat default),.int .i64 (((tkN (ws.drop 2) patA)).getD (0:Int).toNat default),.int .i64 (((tkN (ws.drop 2) patA)).getD (1:Int).toNat default),.int .i64 (((tkN (ws.drop 2) patA)).getD (2:Int).toNat default),.int .i64 (((tkN (ws.drop 2) patA)).getD (3:Int).toNat default),.slice hb Hs.length hc,.int .i64 ((tkN U patB).getD (0:Int).toNat default),.int .i64 ((tkN U patB).getD (1:Int).toNat default),.int .i64 ((tkN U patB).getD (2:Int).toNat default),.int .i64 ((tkN U patB).getD (3:Int).toNat default),.int .i64 ((tkN U patB).getD (4:Int).toNat default),.int .i64 ((tkN U patB).getD (5:Int).toNat default),.int .i64 ((tkN U patB).getD (6:Int).toNat default),.int .u8 k,.int .i64 ((tkN ((tkR U patB).drop 1) patC).getD (0:Int).toNat default),.int .i64 0,.int .i64 0,.int .i64 0,.int .i64 0,.int .i64 0] 37) 1000 rfl (by kernel_rfl) (fun _=>by kernel_rfl) (fun ρ=>zex tf3 rfl rfl (vs:=[_]) rfl rfl rfl rfl rfl) (fun ρ ρ' h=>by rfl) ?_
         refine zdq (fun ρ=>zab zh7 rfl) (fun ρ ρ' h=>by rfl) ?_
         refine zjr (R:=fun ρ=>Box b4 [.string (ws.getD (1:Int).toNat default),.int .i64 (((tkN (ws.drop 2) patA)).getD (0:Int).toNat default),.int .i64 (((tkN (ws.drop 2) patA)).getD (1:Int).toNat default),.int .i64 (((tkN (ws.drop 2) patA)).getD (2:Int).toNat default),.int .i64 (((tkN (ws.drop 2) patA)).getD (3:Int).toNat default),.slice hb Hs.length hc,.int .i64 ((tkN U patB).getD (0:Int).toNat default),.int .i64 ((tkN U patB).getD (1:Int).toNat default),.int .i64 ((tkN U patB).getD (2:Int).toNat default),.int .i64 ((tkN U patB).getD (3:Int).toNat default),.int .i64 ((tkN U patB).getD (4:Int).toNat default),.int .i64 ((tkN U patB).getD (5:Int).toNat default),.int .i64 ((tkN U patB).getD (6:Int).toNat default),.int .u8 k,.int .i64 ((tkN ((tkR U patB).drop 1) patC).getD (0:Int).toNat default),.int .i64 0,.int .i64 0,.int .i64 0,.int .i64 0,.int .i64 0] 37) (A:=fun ρ=>Box b4 [.string (ws.getD (1:Int).toNat default),.int .i64 (((tkN (ws.drop 2) patA)).getD (0:Int).toNat default),.int .i64 (((tkN (ws.drop 2) patA)).getD (1:Int).toNat default),.int .i64 (((tkN (ws.drop 2) patA)).getD (2:Int).toNat default),.int .i64 (((tkN (ws.drop 2) patA)).getD (3:Int).toNat default),.slice hb Hs.length hc,.int .i64 ((tkN U patB).getD (0:Int).toNat default),.int .i64 ((tkN U patB).getD (1:Int).toNat default),.int .i64 ((tkN U patB).getD (2:Int).toNat default),.int .i64 ((tkN U patB).getD (3:Int).toNat default),.int .i64 ((tkN U patB).getD (4:Int).toNat default),.int .i64 ((tkN U patB).getD (5:Int).toNat default),.int .i64 ((tkN U patB).getD (6:Int).toNat default),.int .u8 k,.int .i64 ((tkN ((tkR U patB).drop 1) patC).getD (0:Int).toNat default),.int .i64 ((tkN ((tkR U patB).drop 1) patC).getD (1:Int).toNat default),.int .i64 0,.int .i64 0,.int .i64 0,.int .i64 0] 37) 1000 rfl (by kernel_rfl) (fun _=>by kernel_rfl) (fun ρ=>zex tf3 rfl rfl (vs:=[_]) rfl rfl rfl rfl rfl) (fun ρ ρ' h=>by rfl) ?_
         refine zdq (fun ρ=>zab zh8 rfl) (fun ρ ρ' h=>by rfl) ?_
         refine zjr (R:=fun ρ=>Box b4 [.string (ws.getD (1:Int).toNat default),.int .i64 (((tkN (ws.drop 2) patA)).getD (0:Int).toNat default),.int .i64 (((tkN (ws.drop 2) patA)).getD (1:Int).toNat default),.int .i64 (((tkN (ws.drop 2) patA)).getD (2:Int).toNat default),.int .i64 (((tkN (ws.drop 2) patA)).getD (3:Int).toNat default),.slice hb Hs.length hc,.int .i64 ((tkN U patB).getD (0:Int).toNat default),.int .i64 ((tkN U patB).getD (1:Int).toNat default),.int .i64 ((tkN U patB).getD (2:Int).toNat default),.int .i64 ((tkN U patB).getD (3:Int).toNat default),.int .i64 ((tkN U patB).getD (4:Int).toNat default),.int .i64 ((tkN U patB).getD (5:Int).toNat default),.int .i64 ((tkN U patB).getD (6:Int).toNat default),.int .u8 k,.int .i64 ((tkN ((tkR U patB).drop 1) patC).getD (0:Int).toNat default),.int .i64 ((tkN ((tkR U patB).drop 1) patC).getD (1:Int).toNat default),.int .i64 0,.int .i64 0,.int .i64 0,.int .i64 0] 37) (A:=fun ρ=>Box b4 [.string (ws.getD (1:Int).toNat default),.int .i64 (((tkN (ws.drop 2) patA)).getD (0:Int).toNat default),.int .i64 (((tkN (ws.drop 2) patA)).getD (1:Int).toNat default),.int .i64 (((tkN (ws.drop 2) patA)).getD (2:Int).toNat default),.int .i64 (((tkN (ws.drop 2) patA)).getD (3:Int).toNat default),.slice hb Hs.length hc,.int .i64 ((tkN U patB).getD (0:Int).toNat default),.int .i64 ((tkN U patB).getD (1:Int).toNat default),.int .i64 ((tkN U patB).getD (2:Int).toNat default),.int .i64 ((tkN U patB).getD (3:Int).toNat default),.int .i64 ((tkN U patB).getD (4:Int).toNat default),.int .i64 ((tkN U patB).getD (5:Int).toNat default),.int .i64 ((tkN U patB).getD (6:Int).toNat default),.int .u8 k,.int .i64 ((tkN ((tkR U patB).drop 1) patC).getD (0:Int).toNat default),.int .i64 ((tkN ((tkR U patB).drop 1) patC).getD (1:Int).toNat default),.int .i64 ((tkN ((tkR U patB).drop 1) patC).getD (2:Int).toNat default),.int .i64 0,.int .i64 0,.int .i64 0] 37) 1000 rfl (by kernel_rfl) (fun _=>by kernel_rfl) (fun ρ=>zex tf3 rfl rfl (vs:=[_]) rfl rfl rfl rfl rfl) (fun ρ ρ' h=>by rfl) ?_
         refine zdq (fun ρ=>zab zpr rfl) (fun ρ ρ' h=>by rfl) ?_
         refine zjr (R:=fun ρ=>Box b4 [.string (ws.getD (1:Int).toNat default),.int .i64 (((tkN (ws.drop 2) patA)).getD (0:Int).toNat default),.int .i64 (((tkN (ws.drop 2) patA)).getD (1:Int).toNat default),.int .i64 (((tkN (ws.drop 2) patA)).getD (2:Int).toNat default),.int .i64 (((tkN (ws.drop 2) patA)).getD (3:Int).toNat default),.slice hb Hs.length hc,.int .i64 ((tkN U patB).getD (0:Int).toNat default),.int .i64 ((tkN U patB).getD (1:Int).toNat default),.int .i64 ((tkN U patB).getD (2:Int).toNat default),.int .i64 ((tkN U patB).getD (3:Int).toNat default),.int .i64 ((tkN U patB).getD (4:Int).toNat default),.int .i64 ((tkN U patB).getD (5:Int).toNat default),.int .i64 ((tkN U patB).getD (6:Int).toNat default),.int .u8 k,.int .i64 ((tkN ((tkR U patB).drop 1) patC).getD (0:Int).toNat default),.int .i64 ((tkN ((tkR U patB).drop 1) patC).getD (1:Int).toNat default),.int .i64 ((tkN ((tkR U patB).drop 1) patC).getD (2:Int).toNat default),.int .i64 0,.int .i64 0,.int .i64 0] 37) (A:=fun ρ=>Box b4 [.string (ws.getD (1:Int).toNat default),.int .i64 (((tkN (ws.drop 2) patA)).getD (0:Int).toNat default),.int .i64 (((tkN (ws.drop 2) patA)).getD (1:Int).toNat default),.int .i64 (((tkN (ws.drop 2) patA)).getD (2:Int).toNat default),.int .i64 (((tkN (ws.drop 2) patA)).getD (3:Int).toNat default),.slice hb Hs.length hc,.int .i64 ((tkN U patB).getD (0:Int).toNat default),.int .i64 ((tkN U patB).getD (1:Int).toNat default),.int .i64 ((tkN U patB).getD (2:Int).toNat default),.int .i64 ((tkN U patB).getD (3:Int).toNat default),.int .i64 ((tkN U patB).getD (4:Int).toNat default),.int .i64 ((tkN U patB).getD (5:Int).toNat default),.int .i64 ((tkN U patB).getD (6:Int).toNat default),.int .u8 k,.int .i64 ((tkN ((tkR U patB).drop 1) patC).getD (0:Int).toNat default),.int .i64 ((tkN ((tkR U patB).drop 1) patC).getD (1:Int).toNat default),.int .i64 ((tkN ((tkR U patB).drop 1) patC).getD (2:Int).toNat default),.int .i64 ((tkN ((tkR U patB).drop 1) patC).getD (3:Int).toNat default),.int .i64 0,.int .i64 0] 37) 1000 rfl (by kernel_rfl) (fun _=>by kernel_rfl) (fun ρ=>zex tf3 rfl rfl (vs:=[_]) rfl rfl rfl rfl rfl) (fun ρ ρ' h=>by rfl) ?_
         refine zdq (fun ρ=>zab zl6 rfl) (fun ρ ρ' h=>by rfl) ?_
         refine zjr (R:=fun ρ=>Box b4 [.string (ws.getD (1:Int).toNat default),.int .i64 (((tkN (ws.drop 2) patA)).getD (0:Int).toNat default),.int .i64 (((tkN (ws.drop 2) patA)).getD (1:Int).toNat default),.int .i64 (((tkN (ws.drop 2) patA)).getD (2:Int).toNat default),.int .i64 (((tkN (ws.drop 2) patA)).getD (3:Int).toNat default),.slice hb Hs.length hc,.int .i64 ((tkN U patB).getD (0:Int).toNat default),.int .i64 ((tkN U patB).getD (1:Int).toNat default),.int .i64 ((tkN U patB).getD (2:Int).toNat default),.int .i64 ((tkN U patB).getD (3:Int).toNat default),.int .i64 ((tkN U patB).getD (4:Int).toNat default),.int .i64 ((tkN U patB).getD (5:Int).toNat default),.int .i64 ((tkN U patB).getD (6:Int).toNat default),.int .u8 k,.int .i64 ((tkN ((tkR U patB).drop 1) patC).getD (0:Int).toNat default),.int .i64 ((tkN ((tkR U patB).drop 1) patC).getD (1:Int).toNat default),.int .i64 ((tkN ((tkR U patB).drop 1) patC).getD (2:Int).toNat default),.int .i64 ((tkN ((tkR U patB).drop 1) patC).getD (3:Int).toNat default),.int .i64 0,.int .i64 0] 37) (A:=fun ρ=>Box b4 [.string (ws.getD (1:Int).toNat default),.int .i64 (((tkN (ws.drop 2) patA)).getD (0:Int).toNat default),.int .i64 (((tkN (ws.drop 2) patA)).getD (1:Int).toNat default),.int .i64 (((tkN (ws.drop 2) patA)).getD (2:Int).toNat default),.int .i64 (((tkN (ws.drop 2) patA)).getD (3:Int).toNat default),.slice hb Hs.length hc,.int .i64 ((tkN U patB).getD (0:Int).toNat default),.int .i64 ((tkN U patB).getD (1:Int).toNat default),.int .i64 ((tkN U patB).getD (2:Int).toNat default),.int .i64 ((tkN U patB).getD (3:Int).toNat default),.int .i64 ((tkN U patB).getD (4:Int).toNat default),.int .i64 ((tkN U patB).getD (5:Int).toNat default),.int .i64 ((tkN U patB).getD (6:Int).toNat default),.int .u8 k,.int .i64 ((tkN ((tkR U patB).drop 1) patC).getD (0:Int).toNat default),.int .i64 ((tkN ((tkR U patB).drop 1) patC).getD (1:Int).toNat default),.int .i64 ((tkN ((tkR U patB).drop 1) patC).getD (2:Int).toNat default),.int .i64 ((tkN ((tkR U patB).drop 1) patC).getD (3:Int).toNat default),.int .i64 ((tkN ((tkR U patB).drop 1) patC).getD (4:Int).toNat default),.int .i64 0] 37) 1000 rfl (by kernel_rfl) (fun _=>by kernel_rfl) (fun ρ=>zex tf3 rfl rfl (vs:=[_]) rfl rfl rfl rfl rfl) (fun ρ ρ' h=>by rfl) ?_
         refine zdq (fun ρ=>zab zl7 rfl) (fun ρ ρ' h=>by rfl) ?_
         refine zjr (R:=fun ρ=>Box b4 [.string (ws.getD (1:Int).toNat default),.int .i64 (((tkN (ws.drop 2) patA)).getD (0:Int).toNat default),.int .i64 (((tkN (ws.drop 2) patA)).getD (1:Int).toNat default),.int .i64 (((tkN (ws.drop 2) patA)).getD (2:Int).toNat default),.int .i64 (((tkN (ws.drop 2) patA)).getD (3:Int).toNat default),.slice hb Hs.length hc,.int .i64 ((tkN U patB).getD (0:Int).toNat default),.int .i64 ((tkN U patB).getD (1:Int).toNat default),.int .i64 ((tkN U patB).getD (2:Int).toNat default),.int .i64 ((tkN U patB).getD (3:Int).toNat default),.int .i64 ((tkN U patB).getD (4:Int).toNat default),.int .i64 ((tkN U patB).getD (5:Int).toNat default),.int .i64 ((tkN U patB).getD (6:Int).toNat default),.int .u8 k,.int .i64 ((tkN ((tkR U patB).drop 1) patC).getD (0:Int).toNat default),.int .i64 ((tkN ((tkR U patB).drop 1) patC).getD (1:Int).toNat default),.int .i64 ((tkN ((tkR U patB).drop 1) patC).getD (2:Int).toNat default),.int .i64 ((tkN ((tkR U patB).drop 1) patC).getD (3:Int).toNat default),.int .i64 ((tkN ((tkR U patB).drop 1) patC).getD (4:Int).toNat default),.int .i64 0] 37) (A:=fun ρ=>Box b4 [.string (ws.getD (1:Int).toNat default),.int .i64 (((tkN (ws.drop 2) patA)).getD (0:Int).toNat default),.int .i64 (((tkN (ws.drop 2) patA)).getD (1:Int).toNat default),.int .i64 (((tkN (ws.drop 2) patA)).getD (2:Int).toNat default),.int .i64 (((tkN (ws.drop 2) patA)).getD (3:Int).toNat default),.slice hb Hs.length hc,.int .i64 ((tkN U patB).getD (0:Int).toNat default),.int .i64 ((tkN U patB).getD (1:Int).toNat default),.int .i64 ((tkN U patB).getD (2:Int).toNat default),.int .i64 ((tkN U patB).getD (3:Int).toNat default),.int .i64 ((tkN U patB).getD (4:Int).toNat default),.int .i64 ((tkN U patB).getD (5:Int).toNat default),.int .i64 ((tkN U patB).getD (6:Int).toNat default),.int .u8 k,.int .i64 ((tkN ((tkR U patB).drop 1) patC).getD (0:Int).toNat default),.int .i64 ((tkN ((tkR U patB).drop 1) patC).getD (1:Int).toNat default),.int .i64 ((tkN ((tkR U patB).drop 1) patC).getD (2:Int).toNat default),.int .i64 ((tkN ((tkR U patB).drop 1) patC).getD (3:Int).toNat default),.int .i64 ((tkN ((tkR U patB).drop 1) patC).getD (4:Int).toNat default),.int .i64 ((tkN ((tkR U patB).drop 1) patC).getD (5:Int).toNat default)] 37) 1000 rfl (by kernel_rfl) (fun _=>by kernel_rfl) (fun ρ=>zex tf3 rfl rfl (vs:=[_]) rfl rfl rfl rfl rfl) (fun ρ ρ' h=>by rfl) ?_
         refine fun ρ=>zag (zpT (T':=[(2,.pointer (some ⟨b2,0,none⟩)),(3,.bool false),(4,.pointer (some ⟨b4,0,none⟩))]) (H':=[Box b4 [.string (ws.getD (1:Int).toNat default),.int .i64 (((tkN (ws.drop 2) patA)).getD (0:Int).toNat default),.int .i64 (((tkN (ws.drop 2) patA)).getD (1:Int).toNat default),.int .i64 (((tkN (ws.drop 2) patA)).getD (2:Int).toNat default),.int .i64 (((tkN (ws.drop 2) patA)).getD (3:Int).toNat default),.slice hb Hs.length hc,.int .i64 ((tkN U patB).getD (0:Int).toNat default),.int .i64 ((tkN U patB).getD (1:Int).toNat default),.int .i64 ((tkN U patB).getD (2:Int).toNat default),.int .i64 ((tkN U patB).getD (3:Int).toNat default),.int .i64 ((tkN U patB).getD (4:Int).toNat default),.int .i64 ((tkN U patB).getD (5:Int).toNat default),.int .i64 ((tkN U patB).getD (6:Int).toNat default),.int .u8 k,.int .i64 ((tkN ((tkR U patB).drop 1) patC).getD (0:Int).toNat default),.int .i64 ((tkN ((tkR U patB).drop 1) patC).getD (1:Int).toNat default),.int .i64 ((tkN ((tkR U patB).drop 1) patC).getD (2:Int).toNat default),.int .i64 ((tkN ((tkR U patB).drop 1) patC).getD (3:Int).toNat default),.int .i64 ((tkN ((tkR U patB).drop 1) patC).getD (4:Int).toNat default),.int .i64 ((tkN ((tkR U patB).drop 1) patC).getD (5:Int).toNat default)] 37,Row p142.1 1 p142.2 3 Go.Stn.encI (tkN ((tkR U patB).drop 1) patC),Row p87.1 1 p87.2 3 Go.Stn.encI (tkN U patB),Row hb 1 hc 3 Go.Stn.encI Hs,Row p30.1 1 p30.2 3 Go.Stn.encI (tkN (ws.drop 2) patA),Box b2 [.string ⟨#[]⟩,.int .i64 0,.int .i64 0,.int .i64 0,.int .i64 0,.slice none 0 0,.int .i64 0,.int .i64 0,.int .i64 0,.int .i64 0,.int .i64 0,.int .i64 0,.int .i64 0,.int .u8 0,.int .i64 0,.int .i64 0,.int .i64 0,.int .i64 0,.int .i64 0,.int .i64 0] 37]) ⟨rfl,rfl,rfl,trivial⟩ rfl ?_)
         refine zac ?_
         refine zaa ?_
         refine gQ (zat 0 tf37 rfl rfl (vs:=[_,_,_,_,_,_,_,_,_,_,_,_,_,_,_,_,_,_,_,_]) rfl rfl) ?_
         refine zbz 5 tf37 rfl rfl (vs:=[_,_,_,_,_,_,_,_,_,_,_,_,_,_,_,_,_,_,_,_]) rfl rfl rfl rfl rfl ?_
         refine gQ (zad rfl) ?_
         refine zag (zae (T':=[(2,_),(3,_)]) ⟨rfl,rfl,trivial⟩ ?_)
         refine zaw ?_
         have hE:zyY ws=some _:=hrd.trans (zBf (h:=(Hs,U)) hB1 hB2 hC1 hC2 hC3)
         exact zbd (hb,hc) 3 (zc2 rfl (zbU (i:=5) (vs:=[.string (ws.getD (1:Int).toNat default),.int .i64 (((tkN (ws.drop 2) patA)).getD (0:Int).toNat default),.int .i64 (((tkN (ws.drop 2) patA)).getD (1:Int).toNat default),.int .i64 (((tkN (ws.drop 2) patA)).getD (2:Int).toNat default),.int .i64 (((tkN (ws.drop 2) patA)).getD (3:Int).toNat default),.slice hb Hs.length hc,.int .i64 ((tkN U patB).getD (0:Int).toNat default),.int .i64 ((tkN U patB).getD (1:Int).toNat default),.int .i64 ((tkN U patB).getD (2:Int).toNat default),.int .i64 ((tkN U patB).getD (3:Int).toNat default),.int .i64 ((tkN U patB).getD (4:Int).toNat default),.int .i64 ((tkN U patB).getD (5:Int).toNat default),.int .i64 ((tkN U patB).getD (6:Int).toNat default),.int .u8 k,.int .i64 ((tkN ((tkR U patB).drop 1) patC).getD (0:Int).toNat default),.int .i64 ((tkN ((tkR U patB).drop 1) patC).getD (1:Int).toNat default),.int .i64 ((tkN ((tkR U patB).drop 1) patC).getD (2:Int).toNat default),.int .i64 ((tkN ((tkR U patB).drop 1) patC).getD (3:Int).toNat default),.int .i64 ((tkN ((tkR U patB).drop 1) patC).getD (4:Int).toNat default),.int .i64 ((tkN ((tkR U patB).drop 1) patC).getD (5:Int).toNat default)]) tf37 rfl rfl rfl rfl) (zau rfl)) (by rw [rdS,hE,hkd]; rfl) (by rw [rdS,hE]; rfl)
end Go.Proofs.YtdcfcfhmkfkgmaaGreatDoor
namespace Go.Proofs.YtdcfcfhmkfkgmaaGreatDoor
open Go.K Go.Stn Go.Pln Go.RowKit
theorem tf22:TF Tryz.prog 22 false 1 (.slice none 0 0):=⟨by kernel_rfl,by kernel_rfl⟩
theorem tf23:TF Tryz.prog 23 false 1 (.slice none 0 0):=⟨by kernel_rfl,by kernel_rfl⟩
theorem tf25:TF Tryz.prog 25 true 2 (.agg #[.slice none 0 0,.slice none 0 0]):=⟨by kernel_rfl,by kernel_rfl⟩
theorem tf63:TF Tryz.prog 63 false 1 (.slice none 0 0):=⟨by kernel_rfl,by kernel_rfl⟩
theorem tf65:TF Tryz.prog 65 true 4 (.agg #[.string ⟨#[]⟩,.string ⟨#[]⟩,.int IntKind.i64 0,.slice none 0 0]):=⟨by kernel_rfl,by kernel_rfl⟩
theorem zht:TF Tryz.prog 139 true 5 (.agg #[.int IntKind.u8 0,.int IntKind.i64 0,.int IntKind.i64 0,.int IntKind.i64 0,.int IntKind.i64 0]):=⟨by kernel_rfl,by kernel_rfl⟩
theorem zd6:FO Tryz.prog 25 0 0:=⟨by kernel_rfl⟩
theorem zdT:FO Tryz.prog 25 1 1:=⟨by kernel_rfl⟩
theorem znf:FO Tryz.prog 65 0 0:=⟨by kernel_rfl⟩
theorem zpy:FO Tryz.prog 65 1 1:=⟨by kernel_rfl⟩
theorem zfS:FO Tryz.prog 65 2 2:=⟨by kernel_rfl⟩
theorem zgn:FO Tryz.prog 65 3 3:=⟨by kernel_rfl⟩
theorem zjT:FO Tryz.prog 139 0 0:=⟨by kernel_rfl⟩
theorem zdS:FO Tryz.prog 139 1 1:=⟨by kernel_rfl⟩
theorem zfZ:FO Tryz.prog 139 2 2:=⟨by kernel_rfl⟩
theorem zdx:FO Tryz.prog 139 3 3:=⟨by kernel_rfl⟩
theorem zfa:FO Tryz.prog 139 4 4:=⟨by kernel_rfl⟩
theorem se22:SE Tryz.prog 22 37 20:=⟨Tryz.underlying22,by kernel_rfl⟩
theorem se23:SE Tryz.prog 23 65 4:=⟨Tryz.underlying23,by kernel_rfl⟩
theorem se63:SE Tryz.prog 63 139 5:=⟨Tryz.underlying63,by kernel_rfl⟩
theorem en19:En Tryz.prog 19:=za7 Tryz.func19 (by kernel_rfl) (by kernel_rfl)
theorem en27:En Tryz.prog 27:=za7 Tryz.func27 (by kernel_rfl) (by kernel_rfl)
theorem en41:En Tryz.prog 41:=za7 Tryz.func41 (by kernel_rfl) (by kernel_rfl)
theorem en45:En Tryz.prog 45:=za7 Tryz.func45 (by kernel_rfl) (by kernel_rfl)
set_option maxRecDepth 100000 in
set_option maxHeartbeats 1000000 in
theorem zfq (a:Option Addr) (cap:Nat) (S:List ShC) (b:Option Addr) (nw bcap:Nat) (n:ByteArray) (w:World) (hl:Has w (zaW a 20 zbH S)) (hs:zaP S.length) :
  Calls Tryz.prog 41 #[.agg #[.slice a S.length cap,.slice b nw bcap],.string n] w (Pure (.int .i64 (zaS S n)) w):=by
 refine zan (vs:=[_,_]) Tryz.func41 rfl rfl (Nat.le_of_ble_eq_true rfl) ?_
 refine zac ?_
 refine zaa ?_
 refine zaG rfl rfl (za3 (vs:=[_,_]) rfl rfl) fun b2=>?_
 refine gQ (zad rfl) ?_
 refine zag (zae (T':=[(1,_),(2,_),(4,_)]) ⟨rfl,rfl,rfl,trivial⟩ ?_)
 refine zac ?_
 refine zac ?_
 refine zaa ?_
 refine gQ (zad rfl) ?_
 refine zag (zae (T':=[(1,_),(2,_),(4,_),(5,_)]) ⟨rfl,rfl,rfl,rfl,trivial⟩ ?_)
 refine zas ?_
 refine zbf (X:=Int) (fun(i:Int)=>[(1,.string n),(2,.pointer (some ⟨b2,0,none⟩)),(4,.int .i64 0),(5,.int .i64 i)]) (fun(i:Int)=>[Box b2 [.slice a S.length cap,.slice b nw bcap] 25]) (fun(i:Int)=>(0≤i∧i≤S.length∧∀ j:Nat,(j:Int) < i→((S.getD j default).s.name.toList == n.toList)=false)) (fun(i:Int)=>(S.length - i).toNat) 0 ⟨rfl,rfl,rfl,rfl,trivial⟩ rfl ?_ ?_
 ·exact⟨by omega,by omega,fun j hj=>by omega⟩
 ·rintro i hI
  obtain⟨g0,g1,g2⟩:=hI
  refine zac ?_
  refine zac ?_
  refine zaa ?_
  refine gQ (zaf rfl) ?_
  refine gQ (zab zd6 rfl) ?_
  refine gQ (zah 0 tf22 rfl rfl rfl) ?_
  refine gQ (zaV (Tryz.underlying22) rfl) ?_
  refine gQ (zbw rfl rfl) ?_
  refine zag (zae (T':=[(1,_),(2,_),(4,_),(5,_),(10,_)]) ⟨rfl,rfl,rfl,rfl,rfl,trivial⟩ ?_)
  refine zap rfl (fun hc10=>?_) (fun hc10=>?_)
  ·simp only [decide_eq_true_eq] at hc10
   refine zaq ?_
   refine zac ?_
   refine zas ?_
   refine zac ?_
   refine zaa ?_
   refine gQ (zab zd6 rfl) ?_
   refine gQ (zah 0 tf22 rfl rfl rfl) ?_
   refine gQ (zaf rfl) ?_
   refine gQ (zaE se22 rfl rfl (fun _ hw=>(Rd.has (Has.rd hl) hw)) (by omega) (by omega)) ?_
   refine gQ (zbh zkW rfl (fun w hw=>zaO (i:=i) (Rd.has (Has.rd hl) hw) (by omega) (by omega))) ?_
   refine gQ (zbn tf9 rfl (fun _ hw=>(Rd.has (Has.rd hl) hw)) (by omega) (by omega) rfl) ?_
   refine gQ (zaf rfl) ?_
   refine gQ (zge rfl rfl) ?_
   refine zag (zae (T':=[(1,_),(2,_),(4,_),(5,_),(20,_)]) ⟨rfl,rfl,rfl,rfl,rfl,trivial⟩ ?_)
   refine zap rfl (fun hc20=>?_) (fun hc20=>?_)
   ·
    refine zac ?_
    refine zaa ?_
    refine gQ (zaf rfl) ?_
    refine gQ (zad rfl) ?_
    refine zag (zae (T':=[(1,_),(2,_),(4,_),(5,_)]) ⟨rfl,rfl,rfl,rfl,trivial⟩ ?_)
    refine zaw ?_
    refine zay (zaC rfl (zau rfl)) ?_
    exact congrArg (fun x=>Value.int .i64 x) (zcs (p:=fun z:ShC=>z.s.name.toList == n.toList) g0 (by omega) g2 hc20).symm
   ·
    refine zaq ?_
    refine zaa ?_
    refine gQ (zaf rfl) ?_
    refine gQ (zaY rfl rfl (by omega) (by omega)) ?_
    refine gQ (zad rfl) ?_
    refine zag (zae (T':=[(1,_),(2,_),(4,_),(5,_)]) ⟨rfl,rfl,rfl,rfl,trivial⟩ ?_)
    exact za1 (i+1) ⟨rfl,rfl,rfl,rfl,trivial⟩ rfl ⟨by omega,by omega,zdP (f:=fun j=>(S.getD j default).s.name.toList == n.toList) g0 g2 hc20⟩ (by omega)
  ·simp only [decide_eq_false_iff_not] at hc10
   refine za8 rfl ?_
   refine zac ?_
   refine zaa ?_
   refine gQ (zad rfl) ?_
   refine zag (zae (T':=[(4,_)]) ⟨rfl,trivial⟩ ?_)
   refine zaw ?_
   refine zay (zaC rfl (zau rfl)) ?_
   exact congrArg (fun x=>Value.int .i64 x) (zck (p:=fun z:ShC=>z.s.name.toList == n.toList) (fun j hj=>g2 j (by omega))).symm
set_option maxRecDepth 100000 in
set_option maxHeartbeats 1000000 in
theorem zf9 (a:Option Addr) (ns cap:Nat) (b:Option Addr) (bcap:Nat) (V:List WlC) (n:ByteArray) (w:World) (hlw:Has w (zaW b 4 zbS V)) (hsw:zaP V.length) :
  Calls Tryz.prog 27 #[.agg #[.slice a ns cap,.slice b V.length bcap],.string n] w (Pure (.int .i64 (zaM V n)) w):=by
 refine zan (vs:=[_,_]) Tryz.func27 rfl rfl (Nat.le_of_ble_eq_true rfl) ?_
 refine zac ?_
 refine zaa ?_
 refine zaG rfl rfl (za3 (vs:=[_,_]) rfl rfl) fun b2=>?_
 refine gQ (zad rfl) ?_
 refine zag (zae (T':=[(1,_),(2,_),(4,_)]) ⟨rfl,rfl,rfl,trivial⟩ ?_)
 refine zac ?_
 refine zac ?_
 refine zaa ?_
 refine gQ (zad rfl) ?_
 refine zag (zae (T':=[(1,_),(2,_),(4,_),(5,_)]) ⟨rfl,rfl,rfl,rfl,trivial⟩ ?_)
 refine zas ?_
 refine zbf (X:=Int) (fun(i:Int)=>[(1,.string n),(2,.pointer (some ⟨b2,0,none⟩)),(4,.int .i64 0),(5,.int .i64 i)]) (fun(i:Int)=>[Box b2 [.slice a ns cap,.slice b V.length bcap] 25]) (fun(i:Int)=>(0≤i∧i≤V.length∧∀ j:Nat,(j:Int) < i→((V.getD j default).s.name.toList == n.toList)=false)) (fun(i:Int)=>(V.length - i).toNat) 0 ⟨rfl,rfl,rfl,rfl,trivial⟩ rfl ?_ ?_
 ·exact⟨by omega,by omega,fun j hj=>by omega⟩
 ·rintro i hI
  obtain⟨g0,g1,g2⟩:=hI
  refine zac ?_
  refine zac ?_
  refine zaa ?_
  refine gQ (zaf rfl) ?_
  refine gQ (zab zdT rfl) ?_
  refine gQ (zah 0 tf23 rfl rfl rfl) ?_
  refine gQ (zaV (Tryz.underlying23) rfl) ?_
  refine gQ (zbw rfl rfl) ?_
  refine zag (zae (T':=[(1,_),(2,_),(4,_),(5,_),(10,_)]) ⟨rfl,rfl,rfl,rfl,rfl,trivial⟩ ?_)
  refine zap rfl (fun hc10=>?_) (fun hc10=>?_)
  ·simp only [decide_eq_true_eq] at hc10
   refine zaq ?_
   refine zac ?_
   refine zas ?_
   refine zac ?_
   refine zaa ?_
   refine gQ (zab zdT rfl) ?_
   refine gQ (zah 0 tf23 rfl rfl rfl) ?_
   refine gQ (zaf rfl) ?_
   refine gQ (zaE se23 rfl rfl (fun _ hw=>(Rd.has (Has.rd hlw) hw)) (by omega) (by omega)) ?_
   refine gQ (zbh znf rfl (fun w hw=>zaO (i:=i) (Rd.has (Has.rd hlw) hw) (by omega) (by omega))) ?_
   refine gQ (zbn tf9 rfl (fun _ hw=>(Rd.has (Has.rd hlw) hw)) (by omega) (by omega) rfl) ?_
   refine gQ (zaf rfl) ?_
   refine gQ (zge rfl rfl) ?_
   refine zag (zae (T':=[(1,_),(2,_),(4,_),(5,_),(20,_)]) ⟨rfl,rfl,rfl,rfl,rfl,trivial⟩ ?_)
   refine zap rfl (fun hc20=>?_) (fun hc20=>?_)
   ·
    refine zac ?_
    refine zaa ?_
    refine gQ (zaf rfl) ?_
    refine gQ (zad rfl) ?_
    refine zag (zae (T':=[(1,_),(2,_),(4,_),(5,_)]) ⟨rfl,rfl,rfl,rfl,trivial⟩ ?_)
    refine zaw ?_
    refine zay (zaC rfl (zau rfl)) ?_
    exact congrArg (fun x=>Value.int .i64 x) (zcs (p:=fun z:WlC=>z.s.name.toList == n.toList) g0 (by omega) g2 hc20).symm
   ·
    refine zaq ?_
    refine zaa ?_
    refine gQ (zaf rfl) ?_
    refine gQ (zaY rfl rfl (by omega) (by omega)) ?_
    refine gQ (zad rfl) ?_
    refine zag (zae (T':=[(1,_),(2,_),(4,_),(5,_)]) ⟨rfl,rfl,rfl,rfl,trivial⟩ ?_)
    exact za1 (i+1) ⟨rfl,rfl,rfl,rfl,trivial⟩ rfl ⟨by omega,by omega,zdP (f:=fun j=>(V.getD j default).s.name.toList == n.toList) g0 g2 hc20⟩ (by omega)
  ·simp only [decide_eq_false_iff_not] at hc10
   refine za8 rfl ?_
   refine zac ?_
   refine zaa ?_
   refine gQ (zad rfl) ?_
   refine zag (zae (T':=[(4,_)]) ⟨rfl,trivial⟩ ?_)
   refine zaw ?_
   refine zay (zaC rfl (zau rfl)) ?_
   exact congrArg (fun x=>Value.int .i64 x) (zck (p:=fun z:WlC=>z.s.name.toList == n.toList) (fun j hj=>g2 j (by omega))).symm
set_option maxRecDepth 100000 in
set_option maxHeartbeats 4000000 in
theorem zlx (b:Option Addr) (bcap:Nat) (v:Wll) (a:Option Addr) (cap:Nat) (s:Sht) (w:World) (hv:Has w (zaW b 5 zba v.opens)) (hsv:zaP v.opens.length) (hkn:∀ o∈v.opens,Knd o) (hh:0≤s.height∧s.height≤3000) (hfit:Fits v.name.size) :
  Calls Tryz.prog 45 #[.agg #[.string v.name,.string v.sheet,.int .i64 v.length,.slice b v.opens.length bcap],.agg #[.string s.name,.int .i64 s.base,.int .i64 s.batter,.int .i64 s.height,.int .i64 s.skin,.slice a s.heights.length cap,.int .i64 s.least,.int .i64 s.lap,.int .i64 s.run,.int .i64 s.every,.int .i64 s.at_,.int .i64 s.footing,.int .i64 s.spread,.int .u8 s.cope,.int .i64 s.tall,.int .i64 s.short,.int .i64 s.thick,.int .i64 s.low,.int .i64 s.high,.int .i64 s.rood]] w (Pure (.bool (zd1 s.height v)) w):=by
 refine zan (vs:=[_,_]) Tryz.func45 rfl rfl (Nat.le_of_ble_eq_true rfl) ?_
 refine zac ?_
 refine zaa ?_
 refine zaG rfl rfl (za3 (vs:=[_,_,_,_]) rfl rfl) fun b2=>?_
 refine zaG rfl rfl (za3 (vs:=[_,_,_,_,_,_,_,_,_,_,_,_,_,_,_,_,_,_,_,_]) rfl rfl) fun b3=>?_
 refine gQ (zad rfl) ?_
 refine zag (zae (T':=[(2,_),(3,_),(4,_)]) ⟨rfl,rfl,rfl,trivial⟩ ?_)
 refine zac ?_
 refine zac ?_
 refine zbb 16 (fun _=>mixed) (by kernel_rfl) ?_
 refine ph_y (zab znf rfl) ?_
 refine ph_y (zah 1 tf9 rfl rfl rfl) ?_
 refine ph_y (zaJ en51 rfl (fun w hw=>znM _ w (by assumption))) ?_
 refine ph_y (zbR rfl) ?_
 refine ph_y (zaf rfl) ?_
 refine zaz rfl rfl (fun hgd=>by(try rw [hgd]); exact(zab zfS rfl)) ?_
 refine zaz rfl rfl (fun hgd=>by(try rw [hgd]); exact(zah 1 tf3 rfl rfl rfl)) ?_
 refine zaz rfl rfl (fun hgd=>by(try rw [hgd]); exact(zaJ (v:=.bool (inB v.length 1 100000)) en52 rfl (fun w hw=>in_c _ _ _ w))) ?_
 refine zaz rfl rfl (fun hgd=>by(try rw [hgd]); exact(zbR rfl)) ?_
 refine ph_y (zaR rfl rfl rfl) ?_
 refine ph_y (zaf rfl) ?_
 refine zaz rfl rfl (fun hgd=>by(try rw [hgd]); exact(zab zgn rfl)) ?_
 refine zaz rfl rfl (fun hgd=>by(try rw [hgd]); exact(zah 1 tf63 rfl rfl rfl)) ?_
 refine zaz rfl rfl (fun hgd=>by(try rw [hgd]); exact(zaV (Tryz.underlying63) rfl)) ?_
 refine zaz rfl rfl (fun hgd=>by(try rw [hgd]); exact(zc6 rfl rfl)) ?_
 refine ph_y (zaR rfl rfl rfl) ?_
 refine zag (zae (T':=[(2,_),(3,_),(4,_),(25,_)]) ⟨rfl,rfl,rfl,rfl,trivial⟩ ?_)
 refine zap rfl (fun hc25=>?_) (fun hc25=>?_)
 ·have hw0:zfP v=false:=znZ hc25
  refine zac ?_
  refine zaa ?_
  refine gQ (zad rfl) ?_
  refine zag (zae (T':=[(2,_),(3,_),(4,_)]) ⟨rfl,rfl,rfl,trivial⟩ ?_)
  refine zaw ?_
  refine zay (zaC rfl (zau rfl)) ?_
  rw [zkz hw0]
 ·have hw0:zfP v=true:=znZ hc25
  have hlen:=(zgM hw0).1
  refine zaq ?_
  refine zac ?_
  refine zac ?_
  refine zaa ?_
  refine gQ (zad rfl) ?_
  refine zag (zae (T':=[(2,_),(3,_),(4,_),(5,_)]) ⟨rfl,rfl,rfl,rfl,trivial⟩ ?_)
  refine zas ?_
  refine zbf (X:=Int) (fun(i:Int)=>[(2,.pointer (some ⟨b2,0,none⟩)),(3,.pointer (some ⟨b3,0,none⟩)),(4,.bool false),(5,.int .i64 i)]) (fun(i:Int)=>[Box b3 [.string s.name,.int .i64 s.base,.int .i64 s.batter,.int .i64 s.height,.int .i64 s.skin,.slice a s.heights.length cap,.int .i64 s.least,.int .i64 s.lap,.int .i64 s.run,.int .i64 s.every,.int .i64 s.at_,.int .i64 s.footing,.int .i64 s.spread,.int .u8 s.cope,.int .i64 s.tall,.int .i64 s.short,.int .i64 s.thick,.int .i64 s.low,.int .i64 s.high,.int .i64 s.rood] 37,Box b2 [.string v.name,.string v.sheet,.int .i64 v.length,.slice b v.opens.length bcap] 65]) (fun(i:Int)=>(0≤i∧i≤v.opens.length∧∀ j:Nat,(j:Int) < i→zcI s.height v j=true)) (fun(i:Int)=>(v.opens.length - i).toNat) 0 ⟨rfl,rfl,rfl,rfl,trivial⟩ rfl ?_ ?_
  ·exact⟨by omega,by omega,fun j hj=>by omega⟩
  ·rintro i hI
   obtain⟨g0,g1,g2⟩:=hI
   refine zac ?_
   refine zac ?_
   refine zaa ?_
   refine gQ (zaf rfl) ?_
   refine gQ (zab zgn rfl) ?_
   refine gQ (zah 1 tf63 rfl rfl rfl) ?_
   refine gQ (zaV (Tryz.underlying63) rfl) ?_
   refine gQ (zbw rfl rfl) ?_
   refine zag (zae (T':=[(2,_),(3,_),(4,_),(5,_),(30,_)]) ⟨rfl,rfl,rfl,rfl,rfl,trivial⟩ ?_)
   refine zap rfl (fun hc30=>?_) (fun hc30=>?_)
   ·have hc30:=of_decide_eq_true hc30
    have hko:=hkn (v.opens.getD (i).toNat default) (za0 (by omega))
    have hwk:IntKind.i64.wrap (v.opens.getD (i).toNat default).kind=(v.opens.getD (i).toNat default).kind:=zbr (by omega) (by omega)
    refine zaq ?_
    refine zac ?_
    refine zas ?_
    refine zac ?_
    refine zaa ?_
    refine gQ (zab zgn rfl) ?_
    refine gQ (zah 1 tf63 rfl rfl rfl) ?_
    refine gQ (zaf rfl) ?_
    refine gQ (zaE se63 rfl rfl (fun _ hw=>(Rd.has (Has.rd hv) hw)) (by omega) (by omega)) ?_
    refine gQ (zbv (vs:=[_,_,_,_,_]) zht rfl (fun _ hw=>(Rd.has (Has.rd hv) hw)) (by omega) (by omega) rfl) ?_
    refine zaG rfl rfl (zaL zht (zs:=[_,_,_,_,_]) rfl) fun b6=>?_
    refine zaA 0 zht rfl rfl (vs:=[_,_,_,_,_]) rfl rfl rfl rfl rfl ?_
    refine zag (zae (T':=[(2,_),(3,_),(4,_),(5,_),(6,_)]) ⟨rfl,rfl,rfl,rfl,rfl,trivial⟩ ?_)
    refine zac ?_
    refine zac ?_
    refine zbb 57 (fun _=>mixed) (by kernel_rfl) ?_
    refine ph_y (zab zjT rfl) ?_
    refine ph_y (zah 0 tf5 rfl rfl rfl) ?_
    refine ph_y (ziU (by kernel_rfl) (Tryz.underlying3) rfl) ?_
    refine ph_y (zaJ en52 rfl (fun w hw=>in_c _ _ _ w)) ?_
    refine ph_y (zbR rfl) ?_
    refine ph_y (zaf rfl) ?_
    refine zaz rfl rfl (fun hgd=>by(try rw [hgd]); have hgd0:=hgd; (try simp only [Bool.not_eq_true',Bool.not_eq_false',zbp] at hgd0); exact(zab zdS rfl)) ?_
    refine zaz rfl rfl (fun hgd=>by(try rw [hgd]); have hgd0:=hgd; (try simp only [Bool.not_eq_true',Bool.not_eq_false',zbp] at hgd0); exact(zah 0 tf3 rfl rfl rfl)) ?_
    refine zaz rfl rfl (fun hgd=>by(try rw [hgd]); have hgd0:=hgd; (try simp only [Bool.not_eq_true',Bool.not_eq_false',zbp] at hgd0); exact(zab zfS rfl)) ?_
    refine zaz rfl rfl (fun hgd=>by(try rw [hgd]); have hgd0:=hgd; (try simp only [Bool.not_eq_true',Bool.not_eq_false',zbp] at hgd0); exact(zah 2 tf3 rfl rfl rfl)) ?_
    refine zaz rfl rfl (fun hgd=>by(try rw [hgd]); have hgd0:=hgd; (try simp only [Bool.not_eq_true',Bool.not_eq_false',zbp] at hgd0); exact(zaJ (v:=.bool (inB ((v.opens.getD (i).toNat default).at_) 0 v.length)) en52 rfl (fun w hw=>in_c _ _ _ w))) ?_
    refine zaz rfl rfl (fun hgd=>by(try rw [hgd]); have hgd0:=hgd; (try simp only [Bool.not_eq_true',Bool.not_eq_false',zbp] at hgd0); exact(zbR rfl)) ?_
    refine ph_y (zaR rfl rfl rfl) ?_
    refine ph_y (zaf rfl) ?_
    refine zaz rfl rfl (fun hgd=>by(try rw [hgd]); have hgd0:=hgd; (try simp only [Bool.not_eq_true',Bool.or_eq_false_iff,Bool.not_eq_false',zbp] at hgd0); exact(zab zfZ rfl)) ?_
    refine zaz rfl rfl (fun hgd=>by(try rw [hgd]); have hgd0:=hgd; (try simp only [Bool.not_eq_true',Bool.or_eq_false_iff,Bool.not_eq_false',zbp] at hgd0); exact(zah 0 tf3 rfl rfl rfl)) ?_
    refine zaz rfl rfl (fun hgd=>by(try rw [hgd]); have hgd0:=hgd; (try simp only [Bool.not_eq_true',Bool.or_eq_false_iff,Bool.not_eq_false',zbp] at hgd0); exact(zab zfS rfl)) ?_
    refine zaz rfl rfl (fun hgd=>by(try rw [hgd]); have hgd0:=hgd; (try simp only [Bool.not_eq_true',Bool.or_eq_false_iff,Bool.not_eq_false',zbp] at hgd0); exact(zah 2 tf3 rfl rfl rfl)) ?_
    refine zaz rfl rfl (fun hgd=>by(try rw [hgd]); have hgd0:=hgd; (try simp only [Bool.not_eq_true',Bool.or_eq_false_iff,Bool.not_eq_false',zbp] at hgd0); exact(zaJ (v:=.bool (inB ((v.opens.getD (i).toNat default).width) 1 v.length)) en52 rfl (fun w hw=>in_c _ _ _ w))) ?_
    refine zaz rfl rfl (fun hgd=>by(try rw [hgd]); have hgd0:=hgd; (try simp only [Bool.not_eq_true',Bool.or_eq_false_iff,Bool.not_eq_false',zbp] at hgd0); exact(zbR rfl)) ?_
    refine ph_y (zaR rfl rfl rfl) ?_
    refine ph_y (zaf rfl) ?_
    refine zaz rfl rfl (fun hgd=>by(try rw [hgd]); have hgd0:=hgd; (try simp only [Bool.not_eq_true',Bool.or_eq_false_iff,Bool.not_eq_false',zbp] at hgd0); exact(zab zdS rfl)) ?_
    refine zaz rfl rfl (fun hgd=>by(try rw [hgd]); have hgd0:=hgd; (try simp only [Bool.not_eq_true',Bool.or_eq_false_iff,Bool.not_eq_false',zbp] at hgd0); exact(zah 0 tf3 rfl rfl rfl)) ?_
    refine zaz rfl rfl (fun hgd=>by(try rw [hgd]); have hgd0:=hgd; (try simp only [Bool.not_eq_true',Bool.or_eq_false_iff,Bool.not_eq_false',zbp] at hgd0); exact(zab zfZ rfl)) ?_
    refine zaz rfl rfl (fun hgd=>by(try rw [hgd]); have hgd0:=hgd; (try simp only [Bool.not_eq_true',Bool.or_eq_false_iff,Bool.not_eq_false',zbp] at hgd0); exact(zah 0 tf3 rfl rfl rfl)) ?_
    refine zaz rfl rfl (fun hgd=>by(try rw [hgd]); have hgd0:=hgd; (try simp only [Bool.not_eq_true',Bool.or_eq_false_iff,Bool.not_eq_false',zbp] at hgd0); exact(zaY rfl rfl (by omega) (by omega))) ?_
    refine zaz rfl rfl (fun hgd=>by(try rw [hgd]); have hgd0:=hgd; (try simp only [Bool.not_eq_true',Bool.or_eq_false_iff,Bool.not_eq_false',zbp] at hgd0); exact(zab zfS rfl)) ?_
    refine zaz rfl rfl (fun hgd=>by(try rw [hgd]); have hgd0:=hgd; (try simp only [Bool.not_eq_true',Bool.or_eq_false_iff,Bool.not_eq_false',zbp] at hgd0); exact(zah 2 tf3 rfl rfl rfl)) ?_
    refine zaz rfl rfl (fun hgd=>by(try rw [hgd]); have hgd0:=hgd; (try simp only [Bool.not_eq_true',Bool.or_eq_false_iff,Bool.not_eq_false',zbp] at hgd0); exact(zc6 rfl rfl)) ?_
    refine ph_y (zaR rfl rfl rfl) ?_
    refine ph_y (zaf rfl) ?_
    refine zaz rfl rfl (fun hgd=>by(try rw [hgd]); have hgd0:=hgd; (try simp only [Bool.not_eq_true',Bool.or_eq_false_iff,Bool.not_eq_false',zbp,decide_eq_false_iff_not] at hgd0); exact(zab zdx rfl)) ?_
    refine zaz rfl rfl (fun hgd=>by(try rw [hgd]); have hgd0:=hgd; (try simp only [Bool.not_eq_true',Bool.or_eq_false_iff,Bool.not_eq_false',zbp,decide_eq_false_iff_not] at hgd0); exact(zah 0 tf3 rfl rfl rfl)) ?_
    refine zaz rfl rfl (fun hgd=>by(try rw [hgd]); have hgd0:=hgd; (try simp only [Bool.not_eq_true',Bool.or_eq_false_iff,Bool.not_eq_false',zbp,decide_eq_false_iff_not] at hgd0); exact(zab zdC rfl)) ?_
    refine zaz rfl rfl (fun hgd=>by(try rw [hgd]); have hgd0:=hgd; (try simp only [Bool.not_eq_true',Bool.or_eq_false_iff,Bool.not_eq_false',zbp,decide_eq_false_iff_not] at hgd0); exact(zah 1 tf3 rfl rfl rfl)) ?_
    refine zaz rfl rfl (fun hgd=>by(try rw [hgd]); have hgd0:=hgd; (try simp only [Bool.not_eq_true',Bool.or_eq_false_iff,Bool.not_eq_false',zbp,decide_eq_false_iff_not] at hgd0); exact(zaJ (v:=.bool (inB ((v.opens.getD (i).toNat default).frm) 0 s.height)) en52 rfl (fun w hw=>in_c _ _ _ w))) ?_
    refine zaz rfl rfl (fun hgd=>by(try rw [hgd]); have hgd0:=hgd; (try simp only [Bool.not_eq_true',Bool.or_eq_false_iff,Bool.not_eq_false',zbp,decide_eq_false_iff_not] at hgd0); exact(zbR rfl)) ?_
    refine ph_y (zaR rfl rfl rfl) ?_
    refine ph_y (zaf rfl) ?_
    refine zaz rfl rfl (fun hgd=>by(try rw [hgd]); have hgd0:=hgd; (try simp only [Bool.not_eq_true',Bool.or_eq_false_iff,Bool.not_eq_false',zbp,decide_eq_false_iff_not] at hgd0); exact(zab zfa rfl)) ?_
    refine zaz rfl rfl (fun hgd=>by(try rw [hgd]); have hgd0:=hgd; (try simp only [Bool.not_eq_true',Bool.or_eq_false_iff,Bool.not_eq_false',zbp,decide_eq_false_iff_not] at hgd0); exact(zah 0 tf3 rfl rfl rfl)) ?_
    refine zaz rfl rfl (fun hgd=>by(try rw [hgd]); have hgd0:=hgd; (try simp only [Bool.not_eq_true',Bool.or_eq_false_iff,Bool.not_eq_false',zbp,decide_eq_false_iff_not] at hgd0); exact(zab zdC rfl)) ?_
    refine zaz rfl rfl (fun hgd=>by(try rw [hgd]); have hgd0:=hgd; (try simp only [Bool.not_eq_true',Bool.or_eq_false_iff,Bool.not_eq_false',zbp,decide_eq_false_iff_not] at hgd0); exact(zah 1 tf3 rfl rfl rfl)) ?_
    refine zaz rfl rfl (fun hgd=>by(try rw [hgd]); have hgd0:=hgd; (try simp only [Bool.not_eq_true',Bool.or_eq_false_iff,Bool.not_eq_false',zbp,decide_eq_false_iff_not] at hgd0); exact(zaJ (v:=.bool (inB ((v.opens.getD (i).toNat default).high) 1 s.height)) en52 rfl (fun w hw=>in_c _ _ _ w))) ?_
    refine zaz rfl rfl (fun hgd=>by(try rw [hgd]); have hgd0:=hgd; (try simp only [Bool.not_eq_true',Bool.or_eq_false_iff,Bool.not_eq_false',zbp,decide_eq_false_iff_not] at hgd0); exact(zbR rfl)) ?_
    refine ph_y (zaR rfl rfl rfl) ?_
    refine ph_y (zaf rfl) ?_
    refine zaz rfl rfl (fun hgd=>by(try rw [hgd]); have hgd0:=hgd; (try simp only [Bool.not_eq_true',Bool.or_eq_false_iff,Bool.not_eq_false',zbp,decide_eq_false_iff_not] at hgd0); exact(zab zdx rfl)) ?_
    refine zaz rfl rfl (fun hgd=>by(try rw [hgd]); have hgd0:=hgd; (try simp only [Bool.not_eq_true',Bool.or_eq_false_iff,Bool.not_eq_false',zbp,decide_eq_false_iff_not] at hgd0); exact(zah 0 tf3 rfl rfl rfl)) ?_
    refine zaz rfl rfl (fun hgd=>by(try rw [hgd]); have hgd0:=hgd; (try simp only [Bool.not_eq_true',Bool.or_eq_false_iff,Bool.not_eq_false',zbp,decide_eq_false_iff_not] at hgd0); exact(zab zfa rfl)) ?_
    refine zaz rfl rfl (fun hgd=>by(try rw [hgd]); have hgd0:=hgd; (try simp only [Bool.not_eq_true',Bool.or_eq_false_iff,Bool.not_eq_false',zbp,decide_eq_false_iff_not] at hgd0); exact(zah 0 tf3 rfl rfl rfl)) ?_
    refine zaz rfl rfl (fun hgd=>by(try rw [hgd]); have hgd0:=hgd; (try simp only [Bool.not_eq_true',Bool.or_eq_false_iff,Bool.not_eq_false',zbp,decide_eq_false_iff_not] at hgd0); exact(zaY rfl rfl (by omega) (by omega))) ?_
    refine zaz rfl rfl (fun hgd=>by(try rw [hgd]); have hgd0:=hgd; (try simp only [Bool.not_eq_true',Bool.or_eq_false_iff,Bool.not_eq_false',zbp,decide_eq_false_iff_not] at hgd0); exact(zab zdC rfl)) ?_
    refine zaz rfl rfl (fun hgd=>by(try rw [hgd]); have hgd0:=hgd; (try simp only [Bool.not_eq_true',Bool.or_eq_false_iff,Bool.not_eq_false',zbp,decide_eq_false_iff_not] at hgd0); exact(zah 1 tf3 rfl rfl rfl)) ?_
    refine zaz rfl rfl (fun hgd=>by(try rw [hgd]); have hgd0:=hgd; (try simp only [Bool.not_eq_true',Bool.or_eq_false_iff,Bool.not_eq_false',zbp,decide_eq_false_iff_not] at hgd0); exact(zc6 rfl rfl)) ?_
    refine ph_y (zaR rfl rfl rfl) ?_
    refine zag (zae (T':=[(2,_),(3,_),(4,_),(5,_),(6,_),(94,_)]) ⟨rfl,rfl,rfl,rfl,rfl,rfl,trivial⟩ ?_)
    refine zap rfl (fun hc94=>?_) (fun hc94=>?_)
    ·rw [hwk] at hc94
     have hno:zcI s.height v i.toNat=false:=zjo (by rw [zuD hlen,show rf1 _ _ _=true from hc94]; rfl)
     refine zac ?_
     refine zaa ?_
     refine gQ (zad rfl) ?_
     refine zag (zae (T':=[(2,_),(3,_),(4,_),(5,_),(6,_)]) ⟨rfl,rfl,rfl,rfl,rfl,trivial⟩ ?_)
     refine zaw ?_
     refine zay (zaC rfl (zau rfl)) ?_
     rw [zhH g0 hc30 hno]
    ·rw [hwk] at hc94
     have hF:=zqw hc94
     refine zaq ?_
     refine zac ?_
     refine zac ?_
     refine zbb 23 (fun _=>mixed) (by kernel_rfl) ?_
     refine ph_y (zab zjT rfl) ?_
     refine ph_y (zah 0 tf5 rfl rfl rfl) ?_
     refine ph_y (zfx rfl rfl) ?_
     refine ph_y (zaf rfl) ?_
     refine zaH rfl rfl (fun hgd=>by(try rw [hgd]); have hgd0:=hgd; (try simp only [decide_eq_true_eq] at hgd0); exact(zab zdx rfl)) ?_
     refine zaH rfl rfl (fun hgd=>by(try rw [hgd]); have hgd0:=hgd; (try simp only [decide_eq_true_eq] at hgd0); exact(zah 0 tf3 rfl rfl rfl)) ?_
     refine zaH rfl rfl (fun hgd=>by(try rw [hgd]); have hgd0:=hgd; (try simp only [decide_eq_true_eq] at hgd0); exact(zab zfa rfl)) ?_
     refine zaH rfl rfl (fun hgd=>by(try rw [hgd]); have hgd0:=hgd; (try simp only [decide_eq_true_eq] at hgd0); exact(zah 0 tf3 rfl rfl rfl)) ?_
     refine zaH rfl rfl (fun hgd=>by(try rw [hgd]); have hgd0:=hgd; (try simp only [decide_eq_true_eq] at hgd0); exact(zaY rfl rfl (by omega) (by omega))) ?_
     refine zaH rfl rfl (fun hgd=>by(try rw [hgd]); have hgd0:=hgd; (try simp only [decide_eq_true_eq] at hgd0); exact(zab zdC rfl)) ?_
     refine zaH rfl rfl (fun hgd=>by(try rw [hgd]); have hgd0:=hgd; (try simp only [decide_eq_true_eq] at hgd0); exact(zah 1 tf3 rfl rfl rfl)) ?_
     refine zaH rfl rfl (fun hgd=>by(try rw [hgd]); have hgd0:=hgd; (try simp only [decide_eq_true_eq] at hgd0); exact(zcr rfl rfl)) ?_
     refine ph_y (zaX rfl rfl rfl) ?_
     refine ph_y (zaf rfl) ?_
     refine zaz rfl rfl (fun hgd=>by(try rw [hgd]); have hgd0:=hgd; (try simp only [Bool.not_eq_true'] at hgd0); exact(zab zjT rfl)) ?_
     refine zaz rfl rfl (fun hgd=>by(try rw [hgd]); have hgd0:=hgd; (try simp only [Bool.not_eq_true'] at hgd0); exact(zah 0 tf5 rfl rfl rfl)) ?_
     refine zaz rfl rfl (fun hgd=>by(try rw [hgd]); have hgd0:=hgd; (try simp only [Bool.not_eq_true'] at hgd0); exact(zbL rfl rfl)) ?_
     refine zaz rfl rfl (fun hgd=>by(try rw [hgd]); have hgd0:=hgd; (try simp only [Bool.not_eq_true'] at hgd0); exact(zaf rfl)) ?_
     refine zdr rfl rfl (fun hgd=>by(try rw [hgd]); have hgd0:=hgd; (try simp only [Bool.not_eq_true',Bool.and_eq_true,decide_eq_true_eq] at hgd0); exact(zab zdx rfl)) ?_
     refine zdr rfl rfl (fun hgd=>by(try rw [hgd]); have hgd0:=hgd; (try simp only [Bool.not_eq_true',Bool.and_eq_true,decide_eq_true_eq] at hgd0); exact(zah 0 tf3 rfl rfl rfl)) ?_
     refine zdr rfl rfl (fun hgd=>by(try rw [hgd]); have hgd0:=hgd; (try simp only [Bool.not_eq_true',Bool.and_eq_true,decide_eq_true_eq] at hgd0); exact(zcr rfl rfl)) ?_
     refine zaz rfl rfl (fun hgd=>by(try rw [hgd]); have hgd0:=hgd; (try simp only [Bool.not_eq_true'] at hgd0); exact(zaX rfl rfl rfl)) ?_
     refine ph_y (zaR rfl rfl rfl) ?_
     refine zag (zae (T':=[(2,_),(3,_),(4,_),(5,_),(6,_),(117,_)]) ⟨rfl,rfl,rfl,rfl,rfl,rfl,trivial⟩ ?_)
     refine zap rfl (fun hc117=>?_) (fun hc117=>?_)
     ·have hno:zcI s.height v i.toNat=false:=zjo (by rw [zuD hlen,show rf2 _ _=true from hc117,Bool.or_true]; rfl)
      refine zac ?_
      refine zaa ?_
      refine gQ (zad rfl) ?_
      refine zag (zae (T':=[(2,_),(3,_),(4,_),(5,_),(6,_)]) ⟨rfl,rfl,rfl,rfl,rfl,trivial⟩ ?_)
      refine zaw ?_
      refine zay (zaC rfl (zau rfl)) ?_
      rw [zhH g0 hc30 hno]
     ·have hfit2:zfY v.length s.height (v.opens.getD (i).toNat default)=true:=by rw [zuD hlen,show rf1 _ _ _=false from hc94,show rf2 _ _=false from hc117]; rfl
      refine zaq ?_
      refine zac ?_
      refine zaa ?_
      refine gQ (zad rfl) ?_
      refine zag (zae (T':=[(2,_),(3,_),(4,_),(5,_),(6,_),(7,_)]) ⟨rfl,rfl,rfl,rfl,rfl,rfl,trivial⟩ ?_)
      refine zas ?_
      refine zbf (X:=Int) (fun(k:Int)=>[(2,.pointer (some ⟨b2,0,none⟩)),(3,.pointer (some ⟨b3,0,none⟩)),(4,.bool false),(5,.int .i64 i),(6,.pointer (some ⟨b6,0,none⟩)),(7,.int .i64 k)]) (fun(k:Int)=>[Box b6 [.int .u8 (v.opens.getD (i).toNat default).kind,.int .i64 (v.opens.getD (i).toNat default).at_,.int .i64 (v.opens.getD (i).toNat default).width,.int .i64 (v.opens.getD (i).toNat default).frm,.int .i64 (v.opens.getD (i).toNat default).high] 139,Box b3 [.string s.name,.int .i64 s.base,.int .i64 s.batter,.int .i64 s.height,.int .i64 s.skin,.slice a s.heights.length cap,.int .i64 s.least,.int .i64 s.lap,.int .i64 s.run,.int .i64 s.every,.int .i64 s.at_,.int .i64 s.footing,.int .i64 s.spread,.int .u8 s.cope,.int .i64 s.tall,.int .i64 s.short,.int .i64 s.thick,.int .i64 s.low,.int .i64 s.high,.int .i64 s.rood] 37,Box b2 [.string v.name,.string v.sheet,.int .i64 v.length,.slice b v.opens.length bcap] 65]) (fun(k:Int)=>(0≤k∧k≤i∧∀ j:Nat,(j:Int) < k→zea (v.opens.getD (i).toNat default) (v.opens.getD j default)=false)) (fun(k:Int)=>(i - k).toNat) 0 ⟨rfl,rfl,rfl,rfl,rfl,rfl,trivial⟩ rfl ?_ ?_
      ·exact⟨by omega,by omega,fun j hj=>by omega⟩
      ·rintro k hI
       obtain⟨k0,k1,k2⟩:=hI
       refine zac ?_
       refine zac ?_
       refine zaa ?_
       refine gQ (zaf rfl) ?_
       refine gQ (zaf rfl) ?_
       refine gQ (zbw rfl rfl) ?_
       refine zag (zae (T':=[(2,_),(3,_),(4,_),(5,_),(6,_),(7,_),(120,_)]) ⟨rfl,rfl,rfl,rfl,rfl,rfl,rfl,trivial⟩ ?_)
       refine zap rfl (fun hc120=>?_) (fun hc120=>?_)
       ·have hc120:=of_decide_eq_true hc120
        have hQ:=zf7 (g2 k.toNat (by omega))
        have q1:=hQ.a; have q2:=hQ.w; have q3:=hQ.h; have q4:=hQ.f
        refine zaq ?_
        refine zac ?_
        refine zas ?_
        refine zac ?_
        refine zaa ?_
        refine gQ (zab zgn rfl) ?_
        refine gQ (zah 2 tf63 rfl rfl rfl) ?_
        refine gQ (zaf rfl) ?_
        refine gQ (zaE se63 rfl rfl (fun _ hw=>(Rd.has (Has.rd hv) hw)) (by omega) (by omega)) ?_
        refine gQ (zbv (vs:=[_,_,_,_,_]) zht rfl (fun _ hw=>(Rd.has (Has.rd hv) hw)) (by omega) (by omega) rfl) ?_
        refine zaG rfl rfl (zaL zht (zs:=[_,_,_,_,_]) rfl) fun b8=>?_
        refine zaA 0 zht rfl rfl (vs:=[_,_,_,_,_]) rfl rfl rfl rfl rfl ?_
        refine zag (zae (T':=[(2,_),(3,_),(4,_),(5,_),(6,_),(7,_),(8,_)]) ⟨rfl,rfl,rfl,rfl,rfl,rfl,rfl,trivial⟩ ?_)
        refine zac ?_
        refine zbb 39 (fun _=>mixed) (by kernel_rfl) ?_
        refine ph_y (zab zdS rfl) ?_
        refine ph_y (zah 1 tf3 rfl rfl rfl) ?_
        refine ph_y (zab zfZ rfl) ?_
        refine ph_y (zah 1 tf3 rfl rfl rfl) ?_
        refine ph_y (zaY rfl rfl (by omega) (by omega)) ?_
        refine ph_y (zab zdS rfl) ?_
        refine ph_y (zah 0 tf3 rfl rfl rfl) ?_
        refine ph_y (zeT rfl rfl) ?_
        refine ph_y (zaf rfl) ?_
        refine zaz rfl rfl (fun hgd=>by(try rw [hgd]); have hgd0:=hgd; (try simp only [Bool.not_eq_true',decide_eq_false_iff_not] at hgd0); exact(zab zdS rfl)) ?_
        refine zaz rfl rfl (fun hgd=>by(try rw [hgd]); have hgd0:=hgd; (try simp only [Bool.not_eq_true',decide_eq_false_iff_not] at hgd0); exact(zah 0 tf3 rfl rfl rfl)) ?_
        refine zaz rfl rfl (fun hgd=>by(try rw [hgd]); have hgd0:=hgd; (try simp only [Bool.not_eq_true',decide_eq_false_iff_not] at hgd0); exact(zab zfZ rfl)) ?_
        refine zaz rfl rfl (fun hgd=>by(try rw [hgd]); have hgd0:=hgd; (try simp only [Bool.not_eq_true',decide_eq_false_iff_not] at hgd0); exact(zah 0 tf3 rfl rfl rfl)) ?_
        refine zaz rfl rfl (fun hgd=>by(try rw [hgd]); have hgd0:=hgd; (try simp only [Bool.not_eq_true',decide_eq_false_iff_not] at hgd0); exact(zaY rfl rfl (by omega) (by omega))) ?_
        refine zaz rfl rfl (fun hgd=>by(try rw [hgd]); have hgd0:=hgd; (try simp only [Bool.not_eq_true',decide_eq_false_iff_not] at hgd0); exact(zab zdS rfl)) ?_
        refine zaz rfl rfl (fun hgd=>by(try rw [hgd]); have hgd0:=hgd; (try simp only [Bool.not_eq_true',decide_eq_false_iff_not] at hgd0); exact(zah 1 tf3 rfl rfl rfl)) ?_
        refine zaz rfl rfl (fun hgd=>by(try rw [hgd]); have hgd0:=hgd; (try simp only [Bool.not_eq_true',decide_eq_false_iff_not] at hgd0); exact(zeT rfl rfl)) ?_
        refine ph_y (zaR rfl rfl rfl) ?_
        refine ph_y (zaf rfl) ?_
        refine zaz rfl rfl (fun hgd=>by(try rw [hgd]); have hgd0:=hgd; (try simp only [Bool.not_eq_true',Bool.or_eq_false_iff,decide_eq_false_iff_not] at hgd0); exact(zab zdx rfl)) ?_
        refine zaz rfl rfl (fun hgd=>by(try rw [hgd]); have hgd0:=hgd; (try simp only [Bool.not_eq_true',Bool.or_eq_false_iff,decide_eq_false_iff_not] at hgd0); exact(zah 1 tf3 rfl rfl rfl)) ?_
        refine zaz rfl rfl (fun hgd=>by(try rw [hgd]); have hgd0:=hgd; (try simp only [Bool.not_eq_true',Bool.or_eq_false_iff,decide_eq_false_iff_not] at hgd0); exact(zab zfa rfl)) ?_
        refine zaz rfl rfl (fun hgd=>by(try rw [hgd]); have hgd0:=hgd; (try simp only [Bool.not_eq_true',Bool.or_eq_false_iff,decide_eq_false_iff_not] at hgd0); exact(zah 1 tf3 rfl rfl rfl)) ?_
        refine zaz rfl rfl (fun hgd=>by(try rw [hgd]); have hgd0:=hgd; (try simp only [Bool.not_eq_true',Bool.or_eq_false_iff,decide_eq_false_iff_not] at hgd0); exact(zaY rfl rfl (by omega) (by omega))) ?_
        refine zaz rfl rfl (fun hgd=>by(try rw [hgd]); have hgd0:=hgd; (try simp only [Bool.not_eq_true',Bool.or_eq_false_iff,decide_eq_false_iff_not] at hgd0); exact(zab zdx rfl)) ?_
        refine zaz rfl rfl (fun hgd=>by(try rw [hgd]); have hgd0:=hgd; (try simp only [Bool.not_eq_true',Bool.or_eq_false_iff,decide_eq_false_iff_not] at hgd0); exact(zah 0 tf3 rfl rfl rfl)) ?_
        refine zaz rfl rfl (fun hgd=>by(try rw [hgd]); have hgd0:=hgd; (try simp only [Bool.not_eq_true',Bool.or_eq_false_iff,decide_eq_false_iff_not] at hgd0); exact(zeT rfl rfl)) ?_
        refine ph_y (zaR rfl rfl rfl) ?_
        refine ph_y (zaf rfl) ?_
        refine zaz rfl rfl (fun hgd=>by(try rw [hgd]); have hgd0:=hgd; (try simp only [Bool.not_eq_true',Bool.or_eq_false_iff,decide_eq_false_iff_not] at hgd0); exact(zab zdx rfl)) ?_
        refine zaz rfl rfl (fun hgd=>by(try rw [hgd]); have hgd0:=hgd; (try simp only [Bool.not_eq_true',Bool.or_eq_false_iff,decide_eq_false_iff_not] at hgd0); exact(zah 0 tf3 rfl rfl rfl)) ?_
        refine zaz rfl rfl (fun hgd=>by(try rw [hgd]); have hgd0:=hgd; (try simp only [Bool.not_eq_true',Bool.or_eq_false_iff,decide_eq_false_iff_not] at hgd0); exact(zab zfa rfl)) ?_
        refine zaz rfl rfl (fun hgd=>by(try rw [hgd]); have hgd0:=hgd; (try simp only [Bool.not_eq_true',Bool.or_eq_false_iff,decide_eq_false_iff_not] at hgd0); exact(zah 0 tf3 rfl rfl rfl)) ?_
        refine zaz rfl rfl (fun hgd=>by(try rw [hgd]); have hgd0:=hgd; (try simp only [Bool.not_eq_true',Bool.or_eq_false_iff,decide_eq_false_iff_not] at hgd0); exact(zaY rfl rfl (by omega) (by omega))) ?_
        refine zaz rfl rfl (fun hgd=>by(try rw [hgd]); have hgd0:=hgd; (try simp only [Bool.not_eq_true',Bool.or_eq_false_iff,decide_eq_false_iff_not] at hgd0); exact(zab zdx rfl)) ?_
        refine zaz rfl rfl (fun hgd=>by(try rw [hgd]); have hgd0:=hgd; (try simp only [Bool.not_eq_true',Bool.or_eq_false_iff,decide_eq_false_iff_not] at hgd0); exact(zah 1 tf3 rfl rfl rfl)) ?_
        refine zaz rfl rfl (fun hgd=>by(try rw [hgd]); have hgd0:=hgd; (try simp only [Bool.not_eq_true',Bool.or_eq_false_iff,decide_eq_false_iff_not] at hgd0); exact(zeT rfl rfl)) ?_
        refine ph_y (zaR rfl rfl rfl) ?_
        refine ph_y (zad rfl) ?_
        refine zag (zae (T':=[(2,_),(3,_),(4,_),(5,_),(6,_),(7,_),(9,_)]) ⟨rfl,rfl,rfl,rfl,rfl,rfl,rfl,trivial⟩ ?_)
        refine zac ?_
        refine zaa ?_
        refine gQ (zaf rfl) ?_
        refine gQ (zbR rfl) ?_
        refine zag (zae (T':=[(2,_),(3,_),(4,_),(5,_),(6,_),(7,_),(167,_)]) ⟨rfl,rfl,rfl,rfl,rfl,rfl,rfl,trivial⟩ ?_)
        refine zap rfl (fun hc167=>?_) (fun hc167=>?_)
        ·have hm:zea (v.opens.getD (i).toNat default) (v.opens.getD (k).toNat default)=true:=by rw [znr]; exact hc167
         refine zac ?_
         refine zaa ?_
         refine gQ (zad rfl) ?_
         refine zag (zae (T':=[(2,_),(3,_),(4,_),(5,_),(6,_),(7,_)]) ⟨rfl,rfl,rfl,rfl,rfl,rfl,trivial⟩ ?_)
         refine zaw ?_
         refine zay (zaC rfl (zau rfl)) ?_
         rw [zhH g0 hc30 (zon k0 hc120 hc30 hm)]
        ·have hm:zea (v.opens.getD (i).toNat default) (v.opens.getD (k).toNat default)=false:=by rw [znr]; exact hc167
         refine zaq ?_
         refine zaa ?_
         refine gQ (zaf rfl) ?_
         refine gQ (zaY rfl rfl (by omega) (by omega)) ?_
         refine gQ (zad rfl) ?_
         refine zag (zae (T':=[(2,_),(3,_),(4,_),(5,_),(6,_),(7,_)]) ⟨rfl,rfl,rfl,rfl,rfl,rfl,trivial⟩ ?_)
         refine zaK 0 rfl ?_
         exact za1 (k+1) ⟨rfl,rfl,rfl,rfl,rfl,rfl,trivial⟩ rfl ⟨by omega,by omega,zdP (f:=fun j=>zea (v.opens.getD (i).toNat default) (v.opens.getD j default)) k0 k2 hm⟩ (by omega)
       ·have hc120:=of_decide_eq_false hc120
        have hyes:=zoo hc30 hfit2 hc120 k2
        refine za8 rfl ?_
        refine zaa ?_
        refine gQ (zaf rfl) ?_
        refine gQ (zaY rfl rfl (by omega) (by omega)) ?_
        refine gQ (zad rfl) ?_
        refine zag (zae (T':=[(2,_),(3,_),(4,_),(5,_)]) ⟨rfl,rfl,rfl,rfl,trivial⟩ ?_)
        refine zaK 0 rfl ?_
        exact za1 (i+1) ⟨rfl,rfl,rfl,rfl,trivial⟩ rfl ⟨by omega,by omega,zdu g0 g2 hyes⟩ (by omega)
   ·have hc30:=of_decide_eq_false hc30
    refine za8 rfl ?_
    refine zac ?_
    refine zaa ?_
    refine gQ (zad rfl) ?_
    refine zag (zae (T':=[(4,_)]) ⟨rfl,trivial⟩ ?_)
    refine zaw ?_
    refine zay (zaC rfl (zau rfl)) ?_
    rw [zn0 hw0 hc30 g2]
end Go.Proofs.YtdcfcfhmkfkgmaaGreatDoor
namespace Go.Proofs.YtdcfcfhmkfkgmaaGreatDoor
open Go.K Go.Stn Go.Pln Go.RowKit
noncomputable def daleT:ByteArray:=match Tryz.f42.body with
 | some (.seq _ (.seq (.region _ ops _) _))=>(match ops[0]? with
  | some o=>(match o.op with
   | .assign (.const (.string b))=>b
   | _=>⟨#[]⟩)
  | none=>⟨#[]⟩)
 | _=>⟨#[]⟩
set_option maxRecDepth 100000 in
set_option maxHeartbeats 1000000 in
theorem zvl  (w:World)  :
  Calls Tryz.prog 42 #[] w (Pure (.string daleT) w):=by
 refine zan (vs:=[]) Tryz.func42 rfl rfl (Nat.le_of_ble_eq_true rfl) ?_
 refine zac ?_
 refine zaa ?_
 refine gQ (zad rfl) ?_
 refine zag (zae (T':=[(0,_)]) ⟨rfl,trivial⟩ ?_)
 refine zac ?_
 refine zaa ?_
 refine gQ (zad rfl) ?_
 refine zag (zae (T':=[(0,_)]) ⟨rfl,trivial⟩ ?_)
 refine zaw ?_
 refine zay (zaC rfl (zau rfl)) ?_
 rfl
theorem zpe:daleT.size≤40000:=by decide +kernel
end Go.Proofs.YtdcfcfhmkfkgmaaGreatDoor
namespace Go.Proofs.YtdcfcfhmkfkgmaaGreatDoor
open Go Go.K Go.Stn Go.Pln Go.RowKit Go.Txt
theorem zkC {c:UInt8} {l:List UInt8} (h:l.all (fun x=>!(x == c))=true):∀ x∈l,x≠c:=fun x hx=>by
 have:=List.all_eq_true.1 h x hx
 simpa using this
theorem zbk {c:UInt8} {L:List UInt8} (k n:Nat) (h0:((L.drop k).take n).all (fun x=>!(x == c))=true) (h1:(L.drop k)[n]?=some c):cutL c (L.drop k)=(L.drop k).take n :: cutL c (L.drop (k+n+1)):=by
 obtain⟨h,h2⟩:=List.getElem?_eq_some_iff.1 h1
 have e:L.drop k=(L.drop k).take n++c :: L.drop (k+n+1):=by
  rw [←h2,show k+n+1=k+(n+1) from rfl,←List.drop_drop,←List.drop_eq_getElem_cons h,List.take_append_drop]
 conv=>lhs; rw [e]
 exact zhx (zkC h0)
theorem zui {W:List ByteArray} (h:0 < W.length):zdp W=.ok (W.getD 0 default,W.drop 1):=by
 cases W with
 | nil=>simp at h
 | cons x r=>rfl
theorem znw {W:List ByteArray} {k:Nat} (h:k < W.length):zdp (W.drop k)=.ok (W.getD k default,W.drop (k+1)):=by
 rw [List.drop_eq_getElem_cons h,List.getD_eq_getElem?_getD,List.getElem?_eq_getElem h]; rfl
theorem zuh {W:List ByteArray} {k:Nat} (h:k < W.length) (h1:zgx (W.getD k default)=true):zes (W.drop k)=.ok (W.getD k default,W.drop (k+1)):=by
 rw [zes,znw h,zak]; exact if_pos h1
theorem sayD {W:List ByteArray} {u:ByteArray} {k:Nat} (h:k < W.length) (h1:((W.getD k default).toList == u.toList)=true):sayE u (W.drop k)=.ok ((),W.drop (k+1)):=by
 rw [sayE,znw h,zak]; exact if_pos h1
theorem numD {W:List ByteArray} {k:Nat} {n:Int} (h:k < W.length) (h1:numW (W.getD k default)=true) (h2:zdO (W.getD k default)=n):numE (W.drop k)=.ok (n,W.drop (k+1)):=by
 rw [numE,znw h,zak,←h2]; exact if_pos h1
theorem zqd {W:List ByteArray} {k:Nat} {n:Int} (h:k < W.length) (h1:numW (W.getD k default)=true) (h2:zdO (W.getD k default)=n):zco 1 (W.drop k)=.ok ([n],W.drop (k+1)):=by
 rw [zco,numD h h1 h2]; rfl
theorem zqe {W:List ByteArray} {k m:Nat} {n:Int} {l:List Int} {r:List ByteArray} (h:k < W.length) (h1:numW (W.getD k default)=true) (h2:zdO (W.getD k default)=n) (h3:zco m (W.drop (k+1))=.ok (l,r)):zco (m+1) (W.drop k)=.ok (n :: l,r):=by
 rw [zco,numD h h1 h2,zak]
 show(zco m (W.drop (k+1)) >>= _)=_
 rw [h3]; rfl
theorem zs3 {W:List ByteArray} {k:Nat} {n n2:Int} (h:k+1 < W.length) (h1:numW (W.getD k default)=true) (h2:zdO (W.getD k default)=n) (h3:numW (W.getD (k+1) default)=true) (h4:zdO (W.getD (k+1) default)=n2):zco 2 (W.drop k)=.ok ([n,n2],W.drop (k+2)):=
 zqe (by omega) h1 h2 (zqd h h3 h4)
theorem zs4 {W:List ByteArray} {k:Nat} {n n2 n3:Int} (h:k+2 < W.length) (h1:numW (W.getD k default)=true) (h2:zdO (W.getD k default)=n) (h3:numW (W.getD (k+1) default)=true) (h4:zdO (W.getD (k+1) default)=n2) (h5:numW (W.getD (k+1+1) default)=true) (h6:zdO (W.getD (k+1+1) default)=n3):zco 3 (W.drop k)=.ok ([n,n2,n3],W.drop (k+3)):=
 zqe (by omega) h1 h2 (zs3 h h3 h4 h5 h6)
theorem zv9 {W:List ByteArray} {k:Nat} {n n2 n3 n4:Int} (h:k+3 < W.length) (h1:numW (W.getD k default)=true) (h2:zdO (W.getD k default)=n) (h3:numW (W.getD (k+1) default)=true) (h4:zdO (W.getD (k+1) default)=n2) (h5:numW (W.getD (k+1+1) default)=true) (h6:zdO (W.getD (k+1+1) default)=n3) (h7:numW (W.getD (k+1+1+1) default)=true) (h8:zdO (W.getD (k+1+1+1) default)=n4):zco 4 (W.drop k)=.ok ([n,n2,n3,n4],W.drop (k+4)):=
 zqe (by omega) h1 h2 (zs4 (by omega) h3 h4 h5 h6 h7 h8)
theorem zlm {W:List ByteArray} {u:ByteArray} {k:Nat} {n:Int} (h:k+1 < W.length) (h0:((W.getD k default).toList == u.toList)=true) (h1:numW (W.getD (k+1) default)=true) (h2:zdO (W.getD (k+1) default)=n):oneE u 1 (W.drop k)=.ok ([n],W.drop (k+2)):=by
 rw [oneE,sayD (by omega) h0,zak]; exact zqd h h1 h2
theorem zur {W:List ByteArray} {u:ByteArray} {k:Nat} {n n2:Int} (h:k+2 < W.length) (h0:((W.getD k default).toList == u.toList)=true) (h1:numW (W.getD (k+1) default)=true) (h2:zdO (W.getD (k+1) default)=n) (h3:numW (W.getD (k+1+1) default)=true) (h4:zdO (W.getD (k+1+1) default)=n2):oneE u 2 (W.drop k)=.ok ([n,n2],W.drop (k+3)):=by
 rw [oneE,sayD (by omega) h0,zak]; exact zs3 h h1 h2 h3 h4
theorem zpU {W:List ByteArray} {acc acc2:List Int} {k:Nat} (h:k < W.length) (h1:((W.getD k default).toList == wLeast.toList)=false) (h2:numW (W.getD k default)=true) (h3:acc++[zdO (W.getD k default)]=acc2):zbF acc (W.drop k)=zbF acc2 (W.drop (k+1)):=by
 rw [List.getD_eq_getElem?_getD,List.getElem?_eq_getElem h,Option.getD_some] at h1 h2 h3
 rw [List.drop_eq_getElem_cons h,zbF,if_neg (by rw [show(W[k].toList == wLeast.toList)=false from h1]; exact Bool.false_ne_true),if_pos h2,←h3]
theorem zt1 {W:List ByteArray} {acc:List Int} {k:Nat} (h:k < W.length) (h1:((W.getD k default).toList == wLeast.toList)=true):zbF acc (W.drop k)=.ok (acc,W.drop k):=by
 rw [List.getD_eq_getElem?_getD,List.getElem?_eq_getElem h,Option.getD_some] at h1
 rw [List.drop_eq_getElem_cons h,zbF,if_pos h1]
theorem kindD {W l:List ByteArray} {f k:Nat} {n:Int} (h:k < W.length) (h1:¬ zbJ (fun y=>(W.getD k default).toList == y.toList) (l.drop f) < 0∧zbJ (fun y=>(W.getD k default).toList == y.toList) (l.drop f)+f=n):zfk l f (W.drop k)=.ok (n,W.drop (k+1)):=by
 rw [zfk,znw h,zak,←h1.2]; exact if_neg h1.1
noncomputable def dB:List UInt8:=daleT.data.toList
noncomputable def dQ0:List UInt8:=(dB.drop 0).take 170
set_option maxRecDepth 100000 in
theorem dct0:cutL 10 (dB.drop 0)=dQ0 :: cutL 10 (dB.drop 171):=zbk 0 170 (by decide +kernel) (by decide +kernel)
noncomputable def dQ1:List UInt8:=(dB.drop 171).take 20
set_option maxRecDepth 100000 in
theorem dct1:cutL 10 (dB.drop 171)=dQ1 :: cutL 10 (dB.drop 192):=zbk 171 20 (by decide +kernel) (by decide +kernel)
noncomputable def dQ2:List UInt8:=(dB.drop 192).take 25
set_option maxRecDepth 100000 in
theorem dct2:cutL 10 (dB.drop 192)=dQ2 :: cutL 10 (dB.drop 218):=zbk 192 25 (by decide +kernel) (by decide +kernel)
set_option maxRecDepth 100000 in
theorem dct3:cutL 10 (dB.drop 218)=[dB.drop 218]:=zeD (zkC (by decide +kernel))
set_option maxRecDepth 100000 in
theorem zob:zcb daleT=[mkB dQ0,mkB dQ1,mkB dQ2]:=by
 unfold zcb
 rw [zcT]
 show zfN ((cutL 10 (dB.drop 0)).map mkB)=_
 rw [dct0,dct1,dct2,dct3]
 show zfN [mkB dQ0,mkB dQ1,mkB dQ2,mkB (dB.drop 218)]=_
 rw [zfN,zfN,zfN,zfN,if_pos (by decide +kernel)]
set_option maxRecDepth 100000 in
theorem zwD:cutL 32 (dQ0.drop 0)=(dQ0.drop 0).take 5 :: cutL 32 (dQ0.drop 6):=zbk 0 5 (by decide +kernel) (by decide +kernel)
set_option maxRecDepth 100000 in
theorem zwE:cutL 32 (dQ0.drop 6)=(dQ0.drop 6).take 4 :: cutL 32 (dQ0.drop 11):=zbk 6 4 (by decide +kernel) (by decide +kernel)
set_option maxRecDepth 100000 in
theorem zwF:cutL 32 (dQ0.drop 11)=(dQ0.drop 11).take 4 :: cutL 32 (dQ0.drop 16):=zbk 11 4 (by decide +kernel) (by decide +kernel)
set_option maxRecDepth 100000 in
theorem zwG:cutL 32 (dQ0.drop 16)=(dQ0.drop 16).take 3 :: cutL 32 (dQ0.drop 20):=zbk 16 3 (by decide +kernel) (by decide +kernel)
set_option maxRecDepth 100000 in
theorem zwH:cutL 32 (dQ0.drop 20)=(dQ0.drop 20).take 6 :: cutL 32 (dQ0.drop 27):=zbk 20 6 (by decide +kernel) (by decide +kernel)
set_option maxRecDepth 100000 in
theorem zwI:cutL 32 (dQ0.drop 27)=(dQ0.drop 27).take 3 :: cutL 32 (dQ0.drop 31):=zbk 27 3 (by decide +kernel) (by decide +kernel)
set_option maxRecDepth 100000 in
theorem zwJ:cutL 32 (dQ0.drop 31)=(dQ0.drop 31).take 6 :: cutL 32 (dQ0.drop 38):=zbk 31 6 (by decide +kernel) (by decide +kernel)
set_option maxRecDepth 100000 in
theorem zwK:cutL 32 (dQ0.drop 38)=(dQ0.drop 38).take 4 :: cutL 32 (dQ0.drop 43):=zbk 38 4 (by decide +kernel) (by decide +kernel)
set_option maxRecDepth 100000 in
theorem zwL:cutL 32 (dQ0.drop 43)=(dQ0.drop 43).take 4 :: cutL 32 (dQ0.drop 48):=zbk 43 4 (by decide +kernel) (by decide +kernel)
set_option maxRecDepth 100000 in
theorem zwM:cutL 32 (dQ0.drop 48)=(dQ0.drop 48).take 3 :: cutL 32 (dQ0.drop 52):=zbk 48 3 (by decide +kernel) (by decide +kernel)
set_option maxRecDepth 100000 in
theorem zvr:cutL 32 (dQ0.drop 52)=(dQ0.drop 52).take 7 :: cutL 32 (dQ0.drop 60):=zbk 52 7 (by decide +kernel) (by decide +kernel)
set_option maxRecDepth 100000 in
theorem zvs:cutL 32 (dQ0.drop 60)=(dQ0.drop 60).take 3 :: cutL 32 (dQ0.drop 64):=zbk 60 3 (by decide +kernel) (by decide +kernel)
set_option maxRecDepth 100000 in
theorem zvt:cutL 32 (dQ0.drop 64)=(dQ0.drop 64).take 3 :: cutL 32 (dQ0.drop 68):=zbk 64 3 (by decide +kernel) (by decide +kernel)
set_option maxRecDepth 100000 in
theorem zvu:cutL 32 (dQ0.drop 68)=(dQ0.drop 68).take 5 :: cutL 32 (dQ0.drop 74):=zbk 68 5 (by decide +kernel) (by decide +kernel)
set_option maxRecDepth 100000 in
theorem zvv:cutL 32 (dQ0.drop 74)=(dQ0.drop 74).take 2 :: cutL 32 (dQ0.drop 77):=zbk 74 2 (by decide +kernel) (by decide +kernel)
set_option maxRecDepth 100000 in
theorem zvw:cutL 32 (dQ0.drop 77)=(dQ0.drop 77).take 3 :: cutL 32 (dQ0.drop 81):=zbk 77 3 (by decide +kernel) (by decide +kernel)
set_option maxRecDepth 100000 in
theorem zvx:cutL 32 (dQ0.drop 81)=(dQ0.drop 81).take 2 :: cutL 32 (dQ0.drop 84):=zbk 81 2 (by decide +kernel) (by decide +kernel)
set_option maxRecDepth 100000 in
theorem zvy:cutL 32 (dQ0.drop 84)=(dQ0.drop 84).take 3 :: cutL 32 (dQ0.drop 88):=zbk 84 3 (by decide +kernel) (by decide +kernel)
set_option maxRecDepth 100000 in
theorem zvz:cutL 32 (dQ0.drop 88)=(dQ0.drop 88).take 1 :: cutL 32 (dQ0.drop 90):=zbk 88 1 (by decide +kernel) (by decide +kernel)
set_option maxRecDepth 100000 in
theorem zvA:cutL 32 (dQ0.drop 90)=(dQ0.drop 90).take 7 :: cutL 32 (dQ0.drop 98):=zbk 90 7 (by decide +kernel) (by decide +kernel)
set_option maxRecDepth 100000 in
theorem zvB:cutL 32 (dQ0.drop 98)=(dQ0.drop 98).take 3 :: cutL 32 (dQ0.drop 102):=zbk 98 3 (by decide +kernel) (by decide +kernel)
set_option maxRecDepth 100000 in
theorem zvC:cutL 32 (dQ0.drop 102)=(dQ0.drop 102).take 3 :: cutL 32 (dQ0.drop 106):=zbk 102 3 (by decide +kernel) (by decide +kernel)
set_option maxRecDepth 100000 in
theorem zvD:cutL 32 (dQ0.drop 106)=(dQ0.drop 106).take 7 :: cutL 32 (dQ0.drop 114):=zbk 106 7 (by decide +kernel) (by decide +kernel)
set_option maxRecDepth 100000 in
theorem zvE:cutL 32 (dQ0.drop 114)=(dQ0.drop 114).take 3 :: cutL 32 (dQ0.drop 118):=zbk 114 3 (by decide +kernel) (by decide +kernel)
set_option maxRecDepth 100000 in
theorem zvF:cutL 32 (dQ0.drop 118)=(dQ0.drop 118).take 3 :: cutL 32 (dQ0.drop 122):=zbk 118 3 (by decide +kernel) (by decide +kernel)
set_option maxRecDepth 100000 in
theorem zvG:cutL 32 (dQ0.drop 122)=(dQ0.drop 122).take 4 :: cutL 32 (dQ0.drop 127):=zbk 122 4 (by decide +kernel) (by decide +kernel)
set_option maxRecDepth 100000 in
theorem zvH:cutL 32 (dQ0.drop 127)=(dQ0.drop 127).take 4 :: cutL 32 (dQ0.drop 132):=zbk 127 4 (by decide +kernel) (by decide +kernel)
set_option maxRecDepth 100000 in
theorem zvI:cutL 32 (dQ0.drop 132)=(dQ0.drop 132).take 3 :: cutL 32 (dQ0.drop 136):=zbk 132 3 (by decide +kernel) (by decide +kernel)
set_option maxRecDepth 100000 in
theorem zvJ:cutL 32 (dQ0.drop 136)=(dQ0.drop 136).take 3 :: cutL 32 (dQ0.drop 140):=zbk 136 3 (by decide +kernel) (by decide +kernel)
set_option maxRecDepth 100000 in
theorem zvK:cutL 32 (dQ0.drop 140)=(dQ0.drop 140).take 3 :: cutL 32 (dQ0.drop 144):=zbk 140 3 (by decide +kernel) (by decide +kernel)
set_option maxRecDepth 100000 in
theorem zvL:cutL 32 (dQ0.drop 144)=(dQ0.drop 144).take 8 :: cutL 32 (dQ0.drop 153):=zbk 144 8 (by decide +kernel) (by decide +kernel)
set_option maxRecDepth 100000 in
theorem zvM:cutL 32 (dQ0.drop 153)=(dQ0.drop 153).take 3 :: cutL 32 (dQ0.drop 157):=zbk 153 3 (by decide +kernel) (by decide +kernel)
set_option maxRecDepth 100000 in
theorem zvN:cutL 32 (dQ0.drop 157)=(dQ0.drop 157).take 3 :: cutL 32 (dQ0.drop 161):=zbk 157 3 (by decide +kernel) (by decide +kernel)
set_option maxRecDepth 100000 in
theorem zvO:cutL 32 (dQ0.drop 161)=(dQ0.drop 161).take 4 :: cutL 32 (dQ0.drop 166):=zbk 161 4 (by decide +kernel) (by decide +kernel)
set_option maxRecDepth 100000 in
theorem zvP:cutL 32 (dQ0.drop 166)=[dQ0.drop 166]:=zeD (zkC (by decide +kernel))
noncomputable def dW0:List ByteArray:=[mkB ((dQ0.drop 0).take 5),mkB ((dQ0.drop 6).take 4),mkB ((dQ0.drop 11).take 4),mkB ((dQ0.drop 16).take 3),mkB ((dQ0.drop 20).take 6),mkB ((dQ0.drop 27).take 3),mkB ((dQ0.drop 31).take 6),mkB ((dQ0.drop 38).take 4),mkB ((dQ0.drop 43).take 4),mkB ((dQ0.drop 48).take 3),mkB ((dQ0.drop 52).take 7),mkB ((dQ0.drop 60).take 3),mkB ((dQ0.drop 64).take 3),mkB ((dQ0.drop 68).take 5),mkB ((dQ0.drop 74).take 2),mkB ((dQ0.drop 77).take 3),mkB ((dQ0.drop 81).take 2),mkB ((dQ0.drop 84).take 3),mkB ((dQ0.drop 88).take 1),mkB ((dQ0.drop 90).take 7),mkB ((dQ0.drop 98).take 3),mkB ((dQ0.drop 102).take 3),mkB ((dQ0.drop 106).take 7),mkB ((dQ0.drop 114).take 3),mkB ((dQ0.drop 118).take 3),mkB ((dQ0.drop 122).take 4),mkB ((dQ0.drop 127).take 4),mkB ((dQ0.drop 132).take 3),mkB ((dQ0.drop 136).take 3),mkB ((dQ0.drop 140).take 3),mkB ((dQ0.drop 144).take 8),mkB ((dQ0.drop 153).take 3),mkB ((dQ0.drop 157).take 3),mkB ((dQ0.drop 161).take 4),mkB (dQ0.drop 166)]
set_option maxRecDepth 100000 in
theorem zvh:zcn (mkB dQ0) 32=dW0:=by
 rw [zcT]
 show(cutL 32 (dQ0.drop 0)).map mkB=_
 rw [zwD,zwE,zwF,zwG,zwH,zwI,zwJ,zwK,zwL,zwM,zvr,zvs,zvt,zvu,zvv,zvw,zvx,zvy,zvz,zvA,zvB,zvC,zvD,zvE,zvF,zvG,zvH,zvI,zvJ,zvK,zvL,zvM,zvN,zvO,zvP]
 rfl
set_option maxRecDepth 100000 in
theorem zxn:idle (mkB dQ0)=false:=by decide +kernel
set_option maxRecDepth 100000 in
theorem zwN:cutL 32 (dQ1.drop 0)=(dQ1.drop 0).take 4 :: cutL 32 (dQ1.drop 5):=zbk 0 4 (by decide +kernel) (by decide +kernel)
set_option maxRecDepth 100000 in
theorem zwO:cutL 32 (dQ1.drop 5)=(dQ1.drop 5).take 5 :: cutL 32 (dQ1.drop 11):=zbk 5 5 (by decide +kernel) (by decide +kernel)
set_option maxRecDepth 100000 in
theorem zwP:cutL 32 (dQ1.drop 11)=(dQ1.drop 11).take 4 :: cutL 32 (dQ1.drop 16):=zbk 11 4 (by decide +kernel) (by decide +kernel)
set_option maxRecDepth 100000 in
theorem zwQ:cutL 32 (dQ1.drop 16)=[dQ1.drop 16]:=zeD (zkC (by decide +kernel))
noncomputable def dW1:List ByteArray:=[mkB ((dQ1.drop 0).take 4),mkB ((dQ1.drop 5).take 5),mkB ((dQ1.drop 11).take 4),mkB (dQ1.drop 16)]
set_option maxRecDepth 100000 in
theorem zvi:zcn (mkB dQ1) 32=dW1:=by
 rw [zcT]
 show(cutL 32 (dQ1.drop 0)).map mkB=_
 rw [zwN,zwO,zwP,zwQ]
 rfl
set_option maxRecDepth 100000 in
theorem zxo:idle (mkB dQ1)=false:=by decide +kernel
set_option maxRecDepth 100000 in
theorem zwR:cutL 32 (dQ2.drop 0)=(dQ2.drop 0).take 4 :: cutL 32 (dQ2.drop 5):=zbk 0 4 (by decide +kernel) (by decide +kernel)
set_option maxRecDepth 100000 in
theorem zwS:cutL 32 (dQ2.drop 5)=(dQ2.drop 5).take 5 :: cutL 32 (dQ2.drop 11):=zbk 5 5 (by decide +kernel) (by decide +kernel)
set_option maxRecDepth 100000 in
theorem zwT:cutL 32 (dQ2.drop 11)=(dQ2.drop 11).take 4 :: cutL 32 (dQ2.drop 16):=zbk 11 4 (by decide +kernel) (by decide +kernel)
set_option maxRecDepth 100000 in
theorem zwU:cutL 32 (dQ2.drop 16)=(dQ2.drop 16).take 3 :: cutL 32 (dQ2.drop 20):=zbk 16 3 (by decide +kernel) (by decide +kernel)
set_option maxRecDepth 100000 in
theorem zwV:cutL 32 (dQ2.drop 20)=(dQ2.drop 20).take 1 :: cutL 32 (dQ2.drop 22):=zbk 20 1 (by decide +kernel) (by decide +kernel)
set_option maxRecDepth 100000 in
theorem zwW:cutL 32 (dQ2.drop 22)=[dQ2.drop 22]:=zeD (zkC (by decide +kernel))
noncomputable def dW2:List ByteArray:=[mkB ((dQ2.drop 0).take 4),mkB ((dQ2.drop 5).take 5),mkB ((dQ2.drop 11).take 4),mkB ((dQ2.drop 16).take 3),mkB ((dQ2.drop 20).take 1),mkB (dQ2.drop 22)]
set_option maxRecDepth 100000 in
theorem zvj:zcn (mkB dQ2) 32=dW2:=by
 rw [zcT]
 show(cutL 32 (dQ2.drop 0)).map mkB=_
 rw [zwR,zwS,zwT,zwU,zwV,zwW]
 rfl
set_option maxRecDepth 100000 in
theorem zxp:idle (mkB dQ2)=false:=by decide +kernel
set_option maxRecDepth 100000 in
theorem dn0:zes (dW0.drop 1)=.ok ((mkB ((dQ0.drop 6).take 4)),dW0.drop 2):=zuh (by decide) (by decide +kernel)
set_option maxRecDepth 100000 in
theorem zwz:oneE ⟨#[98,97,115,101]⟩ 1 (dW0.drop 2)=.ok ([700],dW0.drop 4):=zlm (by decide) (by decide +kernel) (by decide +kernel) (by decide +kernel)
set_option maxRecDepth 100000 in
theorem ztC:oneE ⟨#[98,97,116,116,101,114]⟩ 1 (dW0.drop 4)=.ok ([100],dW0.drop 6):=zlm (by decide) (by decide +kernel) (by decide +kernel) (by decide +kernel)
set_option maxRecDepth 100000 in
theorem ztD:oneE ⟨#[104,101,105,103,104,116]⟩ 1 (dW0.drop 6)=.ok ([1200],dW0.drop 8):=zlm (by decide) (by decide +kernel) (by decide +kernel) (by decide +kernel)
set_option maxRecDepth 100000 in
theorem zwX:oneE ⟨#[115,107,105,110]⟩ 1 (dW0.drop 8)=.ok ([250],dW0.drop 10):=zlm (by decide) (by decide +kernel) (by decide +kernel) (by decide +kernel)
set_option maxRecDepth 100000 in
theorem zrm:sayE ⟨#[104,101,105,103,104,116,115]⟩ (dW0.drop 10)=.ok ((),dW0.drop 11):=sayD (by decide) (by decide +kernel)
set_option maxRecDepth 100000 in
theorem dh0:zbF [] (dW0.drop 11)=zbF [200] (dW0.drop 12):=zpU (by decide) (by decide +kernel) (by decide +kernel) (by decide +kernel)
set_option maxRecDepth 100000 in
theorem dh1:zbF [200] (dW0.drop 12)=zbF [200,180] (dW0.drop 13):=zpU (by decide) (by decide +kernel) (by decide +kernel) (by decide +kernel)
set_option maxRecDepth 100000 in
theorem dhe:zbF [200,180] (dW0.drop 13)=.ok ([200,180],dW0.drop 13):=zt1 (by decide) (by decide +kernel)
set_option maxRecDepth 100000 in
theorem dhs:zbF [] (dW0.drop 11)=.ok ([200,180],dW0.drop 13):=by rw [dh0,dh1,dhe]
set_option maxRecDepth 100000 in
theorem zvm:oneE ⟨#[108,101,97,115,116]⟩ 1 (dW0.drop 13)=.ok ([60],dW0.drop 15):=zlm (by decide) (by decide +kernel) (by decide +kernel) (by decide +kernel)
set_option maxRecDepth 100000 in
theorem dlap:oneE ⟨#[108,97,112]⟩ 1 (dW0.drop 15)=.ok ([60],dW0.drop 17):=zlm (by decide) (by decide +kernel) (by decide +kernel) (by decide +kernel)
set_option maxRecDepth 100000 in
theorem drun:oneE ⟨#[114,117,110]⟩ 1 (dW0.drop 17)=.ok ([2],dW0.drop 19):=zlm (by decide) (by decide +kernel) (by decide +kernel) (by decide +kernel)
set_option maxRecDepth 100000 in
theorem zrn:oneE ⟨#[116,104,114,111,117,103,104]⟩ 2 (dW0.drop 19)=.ok ([900,500],dW0.drop 22):=zur (by decide) (by decide +kernel) (by decide +kernel) (by decide +kernel) (by decide +kernel) (by decide +kernel)
set_option maxRecDepth 100000 in
theorem zrl:oneE ⟨#[102,111,111,116,105,110,103]⟩ 2 (dW0.drop 22)=.ok ([200,100],dW0.drop 25):=zur (by decide) (by decide +kernel) (by decide +kernel) (by decide +kernel) (by decide +kernel) (by decide +kernel)
set_option maxRecDepth 100000 in
theorem zwA:sayE ⟨#[99,111,112,101]⟩ (dW0.drop 25)=.ok ((),dW0.drop 26):=sayD (by decide) (by decide +kernel)
set_option maxRecDepth 100000 in
theorem zwB:zfk copesW 0 (dW0.drop 26)=.ok (3,dW0.drop 27):=kindD (by decide) (by decide +kernel)
set_option maxRecDepth 100000 in
theorem dc3:zco 3 (dW0.drop 27)=.ok ([300,200,150],dW0.drop 30):=zs4 (by decide) (by decide +kernel) (by decide +kernel) (by decide +kernel) (by decide +kernel) (by decide +kernel) (by decide +kernel)
set_option maxRecDepth 100000 in
theorem zpg:oneE ⟨#[102,114,105,99,116,105,111,110]⟩ 2 (dW0.drop 30)=.ok ([500,700],dW0.drop 33):=zur (by decide) (by decide +kernel) (by decide +kernel) (by decide +kernel) (by decide +kernel) (by decide +kernel)
set_option maxRecDepth 100000 in
theorem zwC:oneE ⟨#[114,111,111,100]⟩ 1 (dW0.drop 33)=.ok ([6000],dW0.drop 35):=zlm (by decide) (by decide +kernel) (by decide +kernel) (by decide +kernel)
noncomputable def dSh:Sht:=⟨(mkB ((dQ0.drop 6).take 4)),700,100,1200,250,[200,180],60,60,2,900,500,200,100,3,300,200,150,500,700,6000⟩
set_option maxRecDepth 100000 in
theorem zvQ:zci (dW0.drop 1)=.ok (dSh,dW0.drop 35):=by
 unfold zci
 simp only [dn0,zwz,ztC,ztD,zwX,zrm,dhs,zvm,dlap,drun,zrn,zrl,zwA,zwB,dc3,zpg,zwC,zak]
 rfl
set_option maxRecDepth 100000 in
theorem zpj:za4 dSh=true:=by decide +kernel
set_option maxRecDepth 100000 in
theorem zvn:zcu ⟨[],[]⟩ ((mkB dQ0))=.ok ⟨[dSh],[]⟩:=by
 have h1:zff ⟨[],[]⟩ (mkB ((dQ0.drop 0).take 5)) (dW0.drop 1)=zb3 ⟨[],[]⟩ (dW0.drop 1):=if_pos (by decide +kernel)
 have h2:endE (dW0.drop 35)=.ok ((),dW0.drop 35):=if_pos (by decide)
 unfold zcu
 rw [zvh,zui (W:=dW0) (by decide),zak]
 show zff ⟨[],[]⟩ (mkB ((dQ0.drop 0).take 5)) (dW0.drop 1)=_
 rw [h1]
 unfold zb3
 simp only [zvQ,zak,h2]
 rw [if_neg (by decide),if_pos zpj]
 rfl
noncomputable def dWl0:Wll:=⟨(mkB ((dQ1.drop 5).take 5)),(mkB ((dQ1.drop 11).take 4)),3000,[]⟩
set_option maxRecDepth 100000 in
theorem zvo:zcu ⟨[dSh],[]⟩ ((mkB dQ1))=.ok ⟨[dSh],[dWl0]⟩:=by
 have h1:zff ⟨[dSh],[]⟩ (mkB ((dQ1.drop 0).take 4)) (dW1.drop 1)=zb1 ⟨[dSh],[]⟩ (dW1.drop 1):=(if_neg (by decide +kernel)).trans (if_pos (by decide +kernel))
 have h2:zes (dW1.drop 1)=.ok ((mkB ((dQ1.drop 5).take 5)),dW1.drop 2):=zuh (by decide) (by decide +kernel)
 have h3:zes (dW1.drop 2)=.ok ((mkB ((dQ1.drop 11).take 4)),dW1.drop 3):=zuh (by decide) (by decide +kernel)
 have h4:zco 1 (dW1.drop 3)=.ok ([3000],dW1.drop 4):=zqd (by decide) (by decide +kernel) (by decide +kernel)
 have h5:endE (dW1.drop 4)=.ok ((),dW1.drop 4):=if_pos (by decide)
 unfold zcu
 rw [zvi,zui (W:=dW1) (by decide),zak]
 show zff ⟨[dSh],[]⟩ (mkB ((dQ1.drop 0).take 4)) (dW1.drop 1)=_
 rw [h1]
 unfold zb1
 simp only [h2,h3,h4,h5,zak]
 rw [if_neg (by decide),if_pos (by decide +kernel),if_pos (by decide +kernel)]
 rfl
def dOp:Opn:=⟨1,1000,250,0,220⟩
noncomputable def dWl:Wll:=more dWl0 dOp
set_option maxRecDepth 100000 in
theorem zvp:zcu ⟨[dSh],[dWl0]⟩ ((mkB dQ2))=.ok ⟨[dSh],[dWl]⟩:=by
 have h1:zff ⟨[dSh],[dWl0]⟩ (mkB ((dQ2.drop 0).take 4)) (dW2.drop 1)=zch ⟨[dSh],[dWl0]⟩ (dW2.drop 1):=(if_neg (by decide +kernel)).trans ((if_neg (by decide +kernel)).trans (if_pos (by decide +kernel)))
 have h2:zfk opensW 1 (dW2.drop 1)=.ok (1,dW2.drop 2):=kindD (by decide) (by decide +kernel)
 have h3:zco 4 (dW2.drop 2)=.ok ([1000,250,0,220],dW2.drop 6):=zv9 (by decide) (by decide +kernel) (by decide +kernel) (by decide +kernel) (by decide +kernel) (by decide +kernel) (by decide +kernel) (by decide +kernel) (by decide +kernel)
 have h5:endE (dW2.drop 6)=.ok ((),dW2.drop 6):=if_pos (by decide)
 have h6:zd1 (getS [dSh] dWl0.sheet).height (more dWl0 dOp)=true:=by decide +kernel
 unfold zcu
 rw [zvj,zui (W:=dW2) (by decide),zak]
 show zff ⟨[dSh],[dWl0]⟩ (mkB ((dQ2.drop 0).take 4)) (dW2.drop 1)=_
 rw [h1]
 unfold zch
 simp only [h2,h3,h5,zak]
 exact(if_neg (by decide)).trans (if_pos h6)
set_option maxRecDepth 100000 in
theorem zgT:zgA daleT=(⟨[dSh],[dWl]⟩,0,0):=by
 refine zkf (by have:=zpe; omega) ?_
 rw [zob,zhB zxn zvn,zhB zxo zvo,zhB zxp zvp]
 rfl
end Go.Proofs.YtdcfcfhmkfkgmaaGreatDoor