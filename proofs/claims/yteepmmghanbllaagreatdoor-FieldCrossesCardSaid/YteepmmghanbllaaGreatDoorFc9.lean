/- What the proof of the root text leans on, part 9: the layer, plain facts and walks. No statement of the seat is proved in this text. -/
import Derived.Test.YteepmmghanbllaaGreatDoorFc8
set_option maxRecDepth 100000
set_option maxHeartbeats 32000000
namespace Go.Proofs.YteepmmghanbllaaGreatDoor
open Go Go.K Go.Stn Go.Pln Go.Fld Go.ChangeShapes Go.WideShapes Go.ChangeAt Go.WideElems Go.RowKit
section
variable {H:Type} {enc:TypeId×Value→H} {P:Program} {w:World} {base:Nat} {spare:Nat→Bool} {held:Bool}
theorem ziT {e:TypeId} {d:DataW H}:∀ {l:List (DataW H)},d∈l→∀ n∈d.weights P e,n∈DataW.weightsAll P e l
 | [],h,_,_=>by cases h
 | x :: r,h,n,hn=>by
  rw [DataW.weightsAll]
  rcases List.mem_cons.1 h with rfl | h
  ·exact List.mem_append_left _ hn
  ·exact List.mem_append_right _ (ziT h n hn)
def WOk (P:Program) (t:TypeId) (d:DataW H):Prop:=∀ n∈d.weights P t,n≤reachBytes
theorem wok_each:∀ {ts:List TypeId} {ds:List (DataW H)},(∀ n∈DataW.weightsEach P ts ds,n≤reachBytes)→∀ (i:Nat) t d,ts[i]?=some t→ds[i]?=some d→WOk P t d
 | [],_,_,i,t,d,h1,_=>by simp at h1
 | _ :: _,[],_,i,t,d,_,h2=>by simp at h2
 | t0 :: ts,d0 :: ds,h,i,t,d,h1,h2=>by
  rw [DataW.weightsEach] at h
  cases i with
  | zero=>
   simp only [List.getElem?_cons_zero,Option.some.injEq] at h1 h2
   subst h1; subst h2
   exact fun n hn=>h n (List.mem_append_left _ hn)
  | succ i=>
   simp only [List.getElem?_cons_succ] at h1 h2
   exact wok_each (fun n hn=>h n (List.mem_append_right _ hn)) i t d h1 h2
theorem zoH {t:TypeId} {fs:Array Field} (ht:P.underlying t=some (.struct fs)) {ys:List (DataW H×List MemPlace)} (h:WOk P t (.agg (ys.map (·.1)))) {i:Nat} {f:Field} {y:DataW H×List MemPlace} (hf:fs[i]?=some f) (hy:ys[i]?=some y):WOk P f.type y.1:=by
 have h':∀ n∈DataW.weightsEach P (fs.toList.map (·.type)) (ys.map (·.1)),n≤reachBytes:=fun n hn=>h n (by rw [DataW.weights,ht]; exact hn)
 refine wok_each h' i f.type y.1 ?_ ?_
 ·rw [List.getElem?_map,Array.getElem?_toList,hf]; rfl
 ·rw [List.getElem?_map,hy]; rfl
theorem zop {α:Type} {enc':α→List Value} {n:Nat} {Q:α→Prop} {t e:TypeId} {fuel:Nat} {cs:List Value} {x:DataW H×List MemPlace} (ht:P.underlying t=some (.slice e)) (hc:P.cellsOf e=n) (hn:Enc n enc')
  (hel:∀ (fuel:Nat) (cs:List Value) (y:DataW H×List MemPlace),DataW.trod enc P w base spare held fuel e cs=some y→WOk P e y.1→∃ z,Q z∧cs=enc' z)
  (h:DataW.trod enc P w base spare held fuel t cs=some x) (hx:WOk P t x.1) :
  ∃ (a:Option Addr) (L:List α) (cap:Nat),cs=[.slice a L.length cap]∧Has w (zaW a n enc' L)∧L.length≤cap∧(∀ z∈L,Q z)∧L.length*P.bytesOf e≤reachBytes:=by
 rcases Go.Deep.open_slice ht h with ⟨rfl,_⟩ | ⟨a,len,cap,m,k,D,Pl,rfl,hb,hl,hm,hmm,hxe,hi⟩
 ·exact⟨none,[],0,rfl,⟨fun _=>False,fun _ h=>h.elim,.inl rfl⟩,Nat.le_refl _,by simp,by simp⟩
 ·have hlm:len≤m:=by rw [hmm]; split <;> omega
  have hw:∀ v∈(len+(m - len))*P.bytesOf e :: (DataW.weightsAll P e ((List.range len).map D)++DataW.weightsAll P e ((List.range (m - len)).map fun j=>D (len+j))),v≤reachBytes:=fun v hv=>by
   refine hx v ?_
   rw [hxe,DataW.weights,ht]
   simpa using hv
  obtain⟨L,hll,hq⟩:=zp6 (Q:=fun i (z:α)=>Q z∧∀ j v,(enc' z)[j]?=some v→w.cell? (a.add (i*n+j))=some v) len (fun i hil=>by
   obtain⟨cs',hcs,ht'⟩:=hi i (by omega)
   obtain⟨z,hz,rfl⟩:=hel _ _ _ ht' (fun v hv=>hw v (List.mem_cons_of_mem _ (List.mem_append_left _ (ziT (List.mem_map.2 ⟨i,List.mem_range.2 hil,rfl⟩) v hv))))
   rw [hc] at hcs
   obtain⟨_,_,hat⟩:=World.cells?_some hcs
   refine⟨z,hz,fun j v hj=>?_⟩
   have hjn:j < n:=by
    have:=(List.getElem?_eq_some_iff.1 hj).1
    rw [hn.len] at this; exact this
   have h0:=hat j hjn
   rw [Go.Deep.add_add] at h0
   rw [h0]; exact hj)
  refine⟨some a,L,cap,by rw [hll],?_,by omega,fun z hz=>?_,?_⟩
  ·cases L with
   | nil=>exact⟨fun _=>False,fun _ h=>h.elim,.inl rfl⟩
   | cons z0 r=>
    obtain⟨v0,hv0⟩:∃ v0,(enc' z0)[0]?=some v0:=by
     have:0 < (enc' z0).length:=by rw [hn.len]; exact hn.pos
     exact⟨_,List.getElem?_eq_getElem this⟩
    have hc0:=(hq 0 z0 rfl).2 0 _ hv0
    obtain⟨b,off,sp⟩:=a
    have hsp:sp=none:=by
     cases sp with
     | none=>rfl
     | some s=>
      exfalso
      simp only [World.cell?,Addr.add] at hc0
      split at hc0 <;> simp_all
    subst hsp
    have hbs:b < w.heap.size:=by
     rcases Nat.lt_or_ge b w.heap.size with h | h
     ·exact h
     ·exfalso
      rw [zb2] at hc0
      simp [World.cell?,Array.getElem?_eq_none h] at hc0
    refine⟨(· = b),fun k hk=>by rw [hk]; exact hbs,.inr ⟨b,off,rfl,fun _=>Iff.rfl,fun i z hz=>zfA _ _ fun j v hj=>?_⟩⟩
    have:=(hq i z hz).2 j v hj
    rw [zb2] at this
    rw [Nat.add_assoc]; exact this
  ·obtain⟨i,hi',rfl⟩:=List.getElem_of_mem hz
   exact(hq i _ (by simp [hi'])).1
  ·have h1:=hw _ (List.mem_cons_self ..)
   rw [hll]
   refine Nat.le_trans (Nat.mul_le_mul_right _ ?_) h1
   omega
theorem zfs {t:TypeId} {fs:Array Field} {fuel:Nat} {cs:List Value} {x:DataW H×List MemPlace} (ht:P.underlying t=some (.struct fs)) (h:DataW.trod enc P w base spare held fuel t cs=some x) (hx:WOk P t x.1) (i:Nat) (f:Field) (hf:fs[i]?=some f) (ho:f.offset=i) (hc:P.cellsOf f.type=1) (hi:i < cs.length) :
  ∃ (v:Value) (y:DataW H×List MemPlace) (m:Nat),cs[i]?=some v∧DataW.trod enc P w base spare held m f.type [v]=some y∧WOk P f.type y.1:=by
 obtain⟨ys,m,_,hxe,_,hyl,hg⟩:=DataW.trod_struct ht h
 have h1:=hg i f hf
 have hfi:i < fs.size:=by
  rcases Nat.lt_or_ge i fs.size with g | g
  ·exact g
  ·rw [Array.getElem?_eq_none g] at hf; cases hf
 rw [ho,hc,List.drop_eq_getElem_cons hi,List.getElem?_eq_getElem (by omega)] at h1
 have h2:DataW.trod enc P w base spare held m f.type [cs[i]]=some (ys[i]'(by omega)):=h1
 refine⟨cs[i],ys[i]'(by omega),m,List.getElem?_eq_getElem hi,h2,?_⟩
 rw [hxe] at hx
 exact zoH ht hx hf (List.getElem?_eq_getElem (by omega))
theorem zh1 {t:TypeId} {fs:Array Field} {fuel:Nat} {cs:List Value} {x:DataW H×List MemPlace} (ht:P.underlying t=some (.struct fs)) (h:DataW.trod enc P w base spare held fuel t cs=some x) (hx:WOk P t x.1) (i:Nat) (f:Field) (hf:fs[i]?=some f) (ho:f.offset=i) (hc:P.cellsOf f.type=1) (hi:i < cs.length)
  (hu:P.underlying f.type=some .string):∃ s:ByteArray,cs[i]?=some (.string s)∧Fits s.size:=by
 obtain⟨v,y,m,hv,hy,hw⟩:=zfs ht h hx i f hf ho hc hi
 obtain⟨s,e,ey,_⟩:=DataW.trod_string hu hy
 simp only [List.cons.injEq,and_true] at e
 subst e; subst ey
 refine⟨s,hv,?_⟩
 have:=hw s.size (by rw [DataW.weights]; simp)
 unfold reachBytes at this
 unfold Fits
 omega
theorem zbA {t:TypeId} {fs:Array Field} {fuel:Nat} {cs:List Value} {x:DataW H×List MemPlace} (ht:P.underlying t=some (.struct fs)) (h:DataW.trod enc P w base spare held fuel t cs=some x) (hx:WOk P t x.1) (i:Nat) (f:Field) (hf:fs[i]?=some f) (ho:f.offset=i) (hc:P.cellsOf f.type=1) (hi:i < cs.length)
  {k:IntKind} (hu:P.underlying f.type=some (.int k)):∃ n:Int,cs[i]?=some (.int k n)∧(Lit.int k n).wf=true:=by
 obtain⟨v,y,m,hv,hy,hw⟩:=zfs ht h hx i f hf ho hc hi
 obtain⟨n,e,ey,hwf⟩:=DataW.trod_int hu hy
 simp only [List.cons.injEq,and_true] at e
 subst e
 exact⟨n,hv,hwf⟩
theorem zfD {α:Type} {enc':α→List Value} {n:Nat} {Q:α→Prop} {t e:TypeId} {fs:Array Field} {fuel:Nat} {cs:List Value} {x:DataW H×List MemPlace} (ht:P.underlying t=some (.struct fs)) (h:DataW.trod enc P w base spare held fuel t cs=some x) (hx:WOk P t x.1) (i:Nat) (f:Field) (hf:fs[i]?=some f) (ho:f.offset=i) (hc:P.cellsOf f.type=1) (hi:i < cs.length)
  (hu:P.underlying f.type=some (.slice e)) (hce:P.cellsOf e=n) (hn:Enc n enc') (hel:∀ (fuel:Nat) (cs:List Value) (y:DataW H×List MemPlace),DataW.trod enc P w base spare held fuel e cs=some y→WOk P e y.1→∃ z,Q z∧cs=enc' z) :
  ∃ (a:Option Addr) (L:List α) (cap:Nat),cs[i]?=some (.slice a L.length cap)∧Has w (zaW a n enc' L)∧L.length≤cap∧(∀ z∈L,Q z)∧L.length*P.bytesOf e≤reachBytes:=by
 obtain⟨v,y,m,hv,hy,hw⟩:=zfs ht h hx i f hf ho hc hi
 obtain⟨a,L,cap,e1,h1,h2,h3,h4⟩:=zop hu hce hn hel hy hw
 simp only [List.cons.injEq,and_true] at e1
 subst e1
 exact⟨a,L,cap,hv,h1,h2,h3,h4⟩
end
section
variable {H:Type} {enc:TypeId×Value→H} {w:World} {base:Nat} {spare:Nat→Bool} {held:Bool}
theorem zfH {P:Program} {t:TypeId} {fs:Array Field} {fuel n:Nat} {cs:List Value} {x:DataW H×List MemPlace} (ht:P.underlying t=some (.struct fs)) (hc:P.cellsOf t=n) (h:DataW.trod enc P w base spare held fuel t cs=some x):cs.length=n:=by
 obtain⟨_,_,_,_,hl,_⟩:=DataW.trod_struct ht h
 rw [hl,hc]
theorem h3 {n:Nat} (h:n*Tryz.prog.bytesOf 3≤reachBytes):n≤17592186044416:=by
 rw [show Tryz.prog.bytesOf 3=8 by kernel_rfl] at h
 unfold reachBytes at h
 omega
theorem hopn {n:Nat} (h:n*Tryz.prog.bytesOf 138≤reachBytes):n≤3518437208883:=by
 rw [show Tryz.prog.bytesOf 138=40 by kernel_rfl] at h
 unfold reachBytes at h
 omega
theorem hsht {n:Nat} (h:n*Tryz.prog.bytesOf 135≤reachBytes):n≤764877654104:=by
 rw [show Tryz.prog.bytesOf 135=184 by kernel_rfl] at h
 unfold reachBytes at h
 omega
theorem hwll {n:Nat} (h:n*Tryz.prog.bytesOf 134≤reachBytes):n≤2199023255552:=by
 rw [show Tryz.prog.bytesOf 134=64 by kernel_rfl] at h
 unfold reachBytes at h
 omega
theorem hcel {n:Nat} (h:n*Tryz.prog.bytesOf 9≤reachBytes):n≤8796093022208:=by
 rw [show Tryz.prog.bytesOf 9=16 by kernel_rfl] at h
 unfold reachBytes at h
 omega
theorem hbdr {n:Nat} (h:n*Tryz.prog.bytesOf 100≤reachBytes):n≤2513169434915:=by
 rw [show Tryz.prog.bytesOf 100=56 by kernel_rfl] at h
 unfold reachBytes at h
 omega
theorem zrX {fuel:Nat} {cs:List Value} {y:DataW H×List MemPlace} (h:DataW.trod enc Tryz.prog w base spare held fuel 3 cs=some y) (_:WOk Tryz.prog 3 y.1):∃ n:Int,True∧cs=Go.Stn.encI n:=by
 obtain⟨n,e,_,_⟩:=DataW.trod_int Tryz.underlying3 h
 exact⟨n,trivial,e⟩
theorem zrY {fuel:Nat} {cs:List Value} {y:DataW H×List MemPlace} (h:DataW.trod enc Tryz.prog w base spare held fuel 138 cs=some y) (hx:WOk Tryz.prog 138 y.1) :
  ∃ o:Opn,Knd o∧cs=zba o:=by
 have hl:cs.length=5:=zfH Tryz.underlying138 (by kernel_rfl) h
 obtain⟨f0,e0,q0⟩:=zbA Tryz.underlying138 h hx 0 _ rfl rfl (by kernel_rfl) (by omega) Tryz.underlying5
 obtain⟨f1,e1,q1⟩:=zbA Tryz.underlying138 h hx 1 _ rfl rfl (by kernel_rfl) (by omega) Tryz.underlying3
 obtain⟨f2,e2,q2⟩:=zbA Tryz.underlying138 h hx 2 _ rfl rfl (by kernel_rfl) (by omega) Tryz.underlying3
 obtain⟨f3,e3,q3⟩:=zbA Tryz.underlying138 h hx 3 _ rfl rfl (by kernel_rfl) (by omega) Tryz.underlying3
 obtain⟨f4,e4,q4⟩:=zbA Tryz.underlying138 h hx 4 _ rfl rfl (by kernel_rfl) (by omega) Tryz.underlying3
 match cs,hl with
 | [c0,c1,c2,c3,c4],_=>
  simp only [List.getElem?_cons_zero,List.getElem?_cons_succ,Option.some.injEq] at e0 e1 e2 e3 e4
  subst e0; subst e1; subst e2; subst e3; subst e4
  exact⟨⟨f0,f1,f2,f3,f4⟩,bounds_u8 q0,rfl⟩
structure ShIn (w:World) (z:ShC):Prop where
 hts:Has w (Ints z.a z.s.heights)
 cap:z.s.heights.length≤z.cap
 fits:Fits z.s.name.size
 cope:0≤z.s.cope
 cope2:z.s.cope≤255
 num:z.s.heights.length≤17592186044416
structure WlIn (w:World) (z:WlC):Prop where
 ops:Has w (zaW z.a 5 zba z.s.opens)
 cap:z.s.opens.length≤z.cap
 knd:∀ o∈z.s.opens,Knd o
 fits:Fits z.s.name.size
 fits2:Fits z.s.sheet.size
 num:z.s.opens.length≤3518437208883
theorem zr0 {fuel:Nat} {cs:List Value} {y:DataW H×List MemPlace} (h:DataW.trod enc Tryz.prog w base spare held fuel 135 cs=some y) (hx:WOk Tryz.prog 135 y.1) :
  ∃ z:ShC,ShIn w z∧cs=zbH z:=by
 have hl:cs.length=20:=zfH Tryz.underlying135 (by kernel_rfl) h
 obtain⟨f0,e0,q0⟩:=zh1 Tryz.underlying135 h hx 0 _ rfl rfl (by kernel_rfl) (by omega) Tryz.underlying9
 obtain⟨f1,e1,q1⟩:=zbA Tryz.underlying135 h hx 1 _ rfl rfl (by kernel_rfl) (by omega) Tryz.underlying3
 obtain⟨f2,e2,q2⟩:=zbA Tryz.underlying135 h hx 2 _ rfl rfl (by kernel_rfl) (by omega) Tryz.underlying3
 obtain⟨f3,e3,q3⟩:=zbA Tryz.underlying135 h hx 3 _ rfl rfl (by kernel_rfl) (by omega) Tryz.underlying3
 obtain⟨f4,e4,q4⟩:=zbA Tryz.underlying135 h hx 4 _ rfl rfl (by kernel_rfl) (by omega) Tryz.underlying3
 obtain⟨a5,f5,k5,e5,q5,r5,s5,b5⟩:=zfD (Q:=fun _=>True) Tryz.underlying135 h hx 5 _ rfl rfl (by kernel_rfl) (by omega) Tryz.underlying45 (by kernel_rfl) Go.Stn.encI_ok (fun _ _ _ h1 h2=>zrX h1 h2)
 obtain⟨f6,e6,q6⟩:=zbA Tryz.underlying135 h hx 6 _ rfl rfl (by kernel_rfl) (by omega) Tryz.underlying3
 obtain⟨f7,e7,q7⟩:=zbA Tryz.underlying135 h hx 7 _ rfl rfl (by kernel_rfl) (by omega) Tryz.underlying3
 obtain⟨f8,e8,q8⟩:=zbA Tryz.underlying135 h hx 8 _ rfl rfl (by kernel_rfl) (by omega) Tryz.underlying3
 obtain⟨f9,e9,q9⟩:=zbA Tryz.underlying135 h hx 9 _ rfl rfl (by kernel_rfl) (by omega) Tryz.underlying3
 obtain⟨f10,e10,q10⟩:=zbA Tryz.underlying135 h hx 10 _ rfl rfl (by kernel_rfl) (by omega) Tryz.underlying3
 obtain⟨f11,e11,q11⟩:=zbA Tryz.underlying135 h hx 11 _ rfl rfl (by kernel_rfl) (by omega) Tryz.underlying3
 obtain⟨f12,e12,q12⟩:=zbA Tryz.underlying135 h hx 12 _ rfl rfl (by kernel_rfl) (by omega) Tryz.underlying3
 obtain⟨f13,e13,q13⟩:=zbA Tryz.underlying135 h hx 13 _ rfl rfl (by kernel_rfl) (by omega) Tryz.underlying5
 obtain⟨f14,e14,q14⟩:=zbA Tryz.underlying135 h hx 14 _ rfl rfl (by kernel_rfl) (by omega) Tryz.underlying3
 obtain⟨f15,e15,q15⟩:=zbA Tryz.underlying135 h hx 15 _ rfl rfl (by kernel_rfl) (by omega) Tryz.underlying3
 obtain⟨f16,e16,q16⟩:=zbA Tryz.underlying135 h hx 16 _ rfl rfl (by kernel_rfl) (by omega) Tryz.underlying3
 obtain⟨f17,e17,q17⟩:=zbA Tryz.underlying135 h hx 17 _ rfl rfl (by kernel_rfl) (by omega) Tryz.underlying3
 obtain⟨f18,e18,q18⟩:=zbA Tryz.underlying135 h hx 18 _ rfl rfl (by kernel_rfl) (by omega) Tryz.underlying3
 obtain⟨f19,e19,q19⟩:=zbA Tryz.underlying135 h hx 19 _ rfl rfl (by kernel_rfl) (by omega) Tryz.underlying3
 match cs,hl with
 | [c0,c1,c2,c3,c4,c5,c6,c7,c8,c9,c10,c11,c12,c13,c14,c15,c16,c17,c18,c19],_=>
  simp only [List.getElem?_cons_zero,List.getElem?_cons_succ,Option.some.injEq] at e0 e1 e2 e3 e4 e5 e6 e7 e8 e9 e10 e11 e12 e13 e14 e15 e16 e17 e18 e19
  subst e0; subst e1; subst e2; subst e3; subst e4; subst e5; subst e6; subst e7; subst e8; subst e9; subst e10; subst e11; subst e12; subst e13; subst e14; subst e15; subst e16; subst e17; subst e18; subst e19
  exact⟨⟨⟨f0,f1,f2,f3,f4,f5,f6,f7,f8,f9,f10,f11,f12,f13,f14,f15,f16,f17,f18,f19⟩,a5,k5⟩,⟨q5,r5,q0,(bounds_u8 q13).1,(bounds_u8 q13).2,h3 b5⟩,rfl⟩
theorem zr1 {fuel:Nat} {cs:List Value} {y:DataW H×List MemPlace} (h:DataW.trod enc Tryz.prog w base spare held fuel 134 cs=some y) (hx:WOk Tryz.prog 134 y.1) :
  ∃ z:WlC,WlIn w z∧cs=zbS z:=by
 have hl:cs.length=4:=zfH Tryz.underlying134 (by kernel_rfl) h
 obtain⟨f0,e0,q0⟩:=zh1 Tryz.underlying134 h hx 0 _ rfl rfl (by kernel_rfl) (by omega) Tryz.underlying9
 obtain⟨f1,e1,q1⟩:=zh1 Tryz.underlying134 h hx 1 _ rfl rfl (by kernel_rfl) (by omega) Tryz.underlying9
 obtain⟨f2,e2,q2⟩:=zbA Tryz.underlying134 h hx 2 _ rfl rfl (by kernel_rfl) (by omega) Tryz.underlying3
 obtain⟨a3,f3,k3,e3,q3,r3,s3,b3⟩:=zfD (Q:=Knd) Tryz.underlying134 h hx 3 _ rfl rfl (by kernel_rfl) (by omega) Tryz.underlying132 (by kernel_rfl) zyn (fun _ _ _ h1 h2=>zrY h1 h2)
 match cs,hl with
 | [c0,c1,c2,c3],_=>
  simp only [List.getElem?_cons_zero,List.getElem?_cons_succ,Option.some.injEq] at e0 e1 e2 e3
  subst e0; subst e1; subst e2; subst e3
  exact⟨⟨⟨f0,f1,f2,f3⟩,a3,k3⟩,⟨q3,r3,s3,q0,q1,hopn b3⟩,rfl⟩
structure zsA (w:World) (a:Option Addr) (cap:Nat) (S:List ShC) (b:Option Addr) (bcap:Nat) (V:List WlC):Prop where
 hl:Has w (zaW a 20 zbH S)
 hcS:S.length≤cap
 hS:∀ z∈S,ShIn w z
 hs:S.length≤764877654104
 hlw:Has w (zaW b 4 zbS V)
 hcV:V.length≤bcap
 hV:∀ z∈V,WlIn w z
 hsw:V.length≤2199023255552
theorem zrZ {fuel:Nat} {cs:List Value} {y:DataW H×List MemPlace} (h:DataW.trod enc Tryz.prog w base spare held fuel 25 cs=some y) (hx:WOk Tryz.prog 25 y.1) :
  ∃ (a:Option Addr) (cap:Nat) (S:List ShC) (b:Option Addr) (bcap:Nat) (V:List WlC),zsA w a cap S b bcap V∧cs=[.slice a S.length cap,.slice b V.length bcap]:=by
 have hl:cs.length=2:=zfH Tryz.underlying25 (by kernel_rfl) h
 obtain⟨a0,f0,k0,e0,q0,r0,s0,b0⟩:=zfD (Q:=ShIn w) Tryz.underlying25 h hx 0 _ rfl rfl (by kernel_rfl) (by omega) Tryz.underlying22 (by kernel_rfl) zbI (fun _ _ _ h1 h2=>zr0 h1 h2)
 obtain⟨a1,f1,k1,e1,q1,r1,s1,b1⟩:=zfD (Q:=WlIn w) Tryz.underlying25 h hx 1 _ rfl rfl (by kernel_rfl) (by omega) Tryz.underlying23 (by kernel_rfl) zbo (fun _ _ _ h1 h2=>zr1 h1 h2)
 match cs,hl with
 | [c0,c1],_=>
  simp only [List.getElem?_cons_zero,List.getElem?_cons_succ,Option.some.injEq] at e0 e1
  subst e0; subst e1
  exact⟨a0,k0,f0,a1,k1,f1,⟨q0,r0,s0,hsht b0,q1,r1,s1,hwll b1⟩,rfl⟩
theorem zE0 {fuel:Nat} {cs:List Value} {y:DataW H×List MemPlace} (h:DataW.trod enc Tryz.prog w base spare held fuel 9 cs=some y) (hx:WOk Tryz.prog 9 y.1):∃ s:ByteArray,Fits s.size∧cs=encS s:=by
 obtain⟨s,e,ey,_⟩:=DataW.trod_string Tryz.underlying9 h
 refine⟨s,?_,e⟩
 have:=hx s.size (by rw [ey,DataW.weights]; simp)
 unfold reachBytes at this
 unfold Fits
 omega
theorem zDc {t:TypeId} {fs:Array Field} {fuel:Nat} {cs:List Value} {x:DataW H×List MemPlace} (ht:Tryz.prog.underlying t=some (.struct fs)) (h:DataW.trod enc Tryz.prog w base spare held fuel t cs=some x) (hx:WOk Tryz.prog t x.1) (i:Nat) (f:Field) (hf:fs[i]?=some f) (ho:f.offset=i) (hc:Tryz.prog.cellsOf f.type=1) (hi:i < cs.length)
  (hu:Tryz.prog.underlying f.type=some .bool):∃ b:Bool,cs[i]?=some (.bool b):=by
 obtain⟨v,y,m,hv,hy,hw⟩:=zfs ht h hx i f hf ho hc hi
 obtain⟨b,e,_⟩:=DataW.trod_bool hu hy
 simp only [List.cons.injEq,and_true] at e
 subst e
 exact⟨b,hv⟩
theorem zEY {fuel:Nat} {cs:List Value} {y:DataW H×List MemPlace} (h:DataW.trod enc Tryz.prog w base spare held fuel 100 cs=some y) (hx:WOk Tryz.prog 100 y.1):∃ z:Bdr,True∧cs=zyr z:=by
 have hl:cs.length=6:=zfH Tryz.underlying100 (by kernel_rfl) h
 obtain⟨f0,e0,_⟩:=zbA Tryz.underlying100 h hx 0 _ rfl rfl (by kernel_rfl) (by omega) Tryz.underlying3
 obtain⟨f1,e1,_⟩:=zbA Tryz.underlying100 h hx 1 _ rfl rfl (by kernel_rfl) (by omega) Tryz.underlying3
 obtain⟨f2,e2,_⟩:=zh1 Tryz.underlying100 h hx 2 _ rfl rfl (by kernel_rfl) (by omega) Tryz.underlying9
 obtain⟨f3,e3,_⟩:=zbA Tryz.underlying100 h hx 3 _ rfl rfl (by kernel_rfl) (by omega) Tryz.underlying3
 obtain⟨f4,e4,_⟩:=zbA Tryz.underlying100 h hx 4 _ rfl rfl (by kernel_rfl) (by omega) Tryz.underlying3
 obtain⟨f5,e5⟩:=zDc Tryz.underlying100 h hx 5 _ rfl rfl (by kernel_rfl) (by omega) Tryz.underlying4
 match cs,hl with
 | [c0,c1,c2,c3,c4,c5],_=>
  simp only [List.getElem?_cons_zero,List.getElem?_cons_succ,Option.some.injEq] at e0 e1 e2 e3 e4 e5
  subst e0; subst e1; subst e2; subst e3; subst e4; subst e5
  exact⟨⟨f0,f1,f2,f3,f4,f5⟩,trivial,rfl⟩
structure zGO (w:World) (ca:Option Addr) (ccap:Nat) (cs:List ByteArray) (ba:Option Addr) (bcp:Nat) (bs:List Bdr):Prop where
 hc:Has w (zaW ca 1 encS cs)
 hcap:cs.length≤ccap
 hcf:∀ z∈cs,Fits z.size
 hcn:cs.length≤8796093022208
 hbd:Has w (zaW ba 6 zyr bs)
 hbn:bs.length≤2513169434915
theorem zEZ {fuel:Nat} {cs:List Value} {y:DataW H×List MemPlace} (h:DataW.trod enc Tryz.prog w base spare held fuel 29 cs=some y) (hx:WOk Tryz.prog 29 y.1) :
  ∃ (ca:Option Addr) (ccap:Nat) (C:List ByteArray) (ba:Option Addr) (bcp:Nat) (B:List Bdr),zGO w ca ccap C ba bcp B∧cs=[.slice ca C.length ccap,.slice ba B.length bcp]:=by
 have hl:cs.length=2:=zfH Tryz.underlying29 (by kernel_rfl) h
 obtain⟨a0,f0,k0,e0,q0,r0,s0,b0⟩:=zfD (Q:=fun z:ByteArray=>Fits z.size) Tryz.underlying29 h hx 0 _ rfl rfl (by kernel_rfl) (by omega) Tryz.underlying26 (by kernel_rfl) ztJ (fun _ _ _ h1 h2=>zE0 h1 h2)
 obtain⟨a1,f1,k1,e1,q1,r1,s1,b1⟩:=zfD (Q:=fun _=>True) Tryz.underlying29 h hx 1 _ rfl rfl (by kernel_rfl) (by omega) Tryz.underlying27 (by kernel_rfl) zyx (fun _ _ _ h1 h2=>zEY h1 h2)
 match cs,hl with
 | [c0,c1],_=>
  simp only [List.getElem?_cons_zero,List.getElem?_cons_succ,Option.some.injEq] at e0 e1
  subst e0; subst e1
  exact⟨a0,k0,f0,a1,k1,f1,⟨q0,r0,s0,hcel b0,q1,hbdr b1⟩,rfl⟩
theorem zEX {fuel:Nat} {cs:List Value} {y:DataW H×List MemPlace} (h:DataW.trod enc Tryz.prog w base spare held fuel 31 cs=some y) (hx:WOk Tryz.prog 31 y.1):∃ x:Anm,cs=zHc x:=by
 have hl:cs.length=5:=zfH Tryz.underlying31 (by kernel_rfl) h
 obtain⟨f0,e0,_⟩:=zbA Tryz.underlying31 h hx 0 _ rfl rfl (by kernel_rfl) (by omega) Tryz.underlying3
 obtain⟨f1,e1,_⟩:=zbA Tryz.underlying31 h hx 1 _ rfl rfl (by kernel_rfl) (by omega) Tryz.underlying3
 obtain⟨f2,e2,_⟩:=zbA Tryz.underlying31 h hx 2 _ rfl rfl (by kernel_rfl) (by omega) Tryz.underlying3
 obtain⟨f3,e3,_⟩:=zbA Tryz.underlying31 h hx 3 _ rfl rfl (by kernel_rfl) (by omega) Tryz.underlying3
 obtain⟨f4,e4,_⟩:=zbA Tryz.underlying31 h hx 4 _ rfl rfl (by kernel_rfl) (by omega) Tryz.underlying3
 match cs,hl with
 | [c0,c1,c2,c3,c4],_=>
  simp only [List.getElem?_cons_zero,List.getElem?_cons_succ,Option.some.injEq] at e0 e1 e2 e3 e4
  subst e0; subst e1; subst e2; subst e3; subst e4
  exact⟨⟨f0,f1,f2,f3,f4⟩,rfl⟩
theorem zzU {t:TypeId} {fs:Array Field} {fuel:Nat} {cs:List Value} {x:DataW H×List MemPlace} (ht:Tryz.prog.underlying t=some (.struct fs)) (h:DataW.trod enc Tryz.prog w base spare held fuel t cs=some x) (hx:WOk Tryz.prog t x.1) (i:Nat) (f:Field) (hf:fs[i]?=some f) :
  ∃ (y:DataW H×List MemPlace) (m:Nat),DataW.trod enc Tryz.prog w base spare held m f.type ((cs.drop f.offset).take (Tryz.prog.cellsOf f.type))=some y∧WOk Tryz.prog f.type y.1:=by
 obtain⟨ys,m,_,hxe,_,hyl,hg⟩:=DataW.trod_struct ht h
 have hfi:i < fs.size:=by
  rcases Nat.lt_or_ge i fs.size with g | g
  ·exact g
  ·rw [Array.getElem?_eq_none g] at hf; cases hf
 have h1:=hg i f hf
 rw [List.getElem?_eq_getElem (by omega)] at h1
 refine⟨ys[i]'(by omega),m,h1,?_⟩
 rw [hxe] at hx
 exact zoH ht hx hf (List.getElem?_eq_getElem (by omega))
theorem open_scene {r:Reach} {b0:Nat} {v:Value} {d:DataW H} {p:List MemPlace} (hv:Value.okWide Tryz.prog w r b0 33 v) (h:DataW.Trod enc Tryz.prog w base spare held 33 v d p) (hx:WOk Tryz.prog 33 d) :
  ∃ (a:Option Addr) (cap:Nat) (S:List ShC) (b:Option Addr) (bcap:Nat) (V:List WlC) (ca:Option Addr) (ccap:Nat) (cs:List ByteArray) (ba:Option Addr) (bcp:Nat) (bs:List Bdr) (x:Anm),zsA w a cap S b bcap V∧zGO w ca ccap cs ba bcp bs ∧
   v=.agg #[.slice a S.length cap,.slice b V.length bcap,.slice ca cs.length ccap,.slice ba bs.length bcp,.int .i64 x.wide,.int .i64 x.high,.int .i64 x.step,.int .i64 x.leap,.int .i64 x.reach]:=by
 obtain⟨ls0,rfl,hsz⟩:=okWide_struct Tryz.underlying33 hv
 obtain⟨fuel,hf⟩:=h
 obtain⟨ls⟩:=ls0
 have hl:ls.length=9:=zfH Tryz.underlying33 (by kernel_rfl) hf
 obtain⟨y0,m0,t0,w0⟩:=zzU (x:=(d,p)) Tryz.underlying33 hf hx 0 _ rfl
 obtain⟨y1,m1,t1,w1⟩:=zzU (x:=(d,p)) Tryz.underlying33 hf hx 1 _ rfl
 obtain⟨y2,m2,t2,w2⟩:=zzU (x:=(d,p)) Tryz.underlying33 hf hx 2 _ rfl
 obtain⟨a,cap,S,b,bcap,V,h1,e1⟩:=zrZ t0 w0
 obtain⟨ca,ccap,cs,ba,bcp,bs,h2,e2⟩:=zEZ t1 w1
 obtain⟨x,e3⟩:=zEX t2 w2
 refine⟨a,cap,S,b,bcap,V,ca,ccap,cs,ba,bcp,bs,x,h1,h2,?_⟩
 match ls,hl with
 | [c0,c1,c2,c3,c4,c5,c6,c7,c8],_=>
  have k1:Tryz.prog.cellsOf 25=2:=by kernel_rfl
  have k2:Tryz.prog.cellsOf 29=2:=by kernel_rfl
  have k3:Tryz.prog.cellsOf 31=5:=by kernel_rfl
  have e1:(([c0,c1,c2,c3,c4,c5,c6,c7,c8]:List Value).drop 0).take (Tryz.prog.cellsOf 25)=_:=e1
  have e2:(([c0,c1,c2,c3,c4,c5,c6,c7,c8]:List Value).drop 2).take (Tryz.prog.cellsOf 29)=_:=e2
  have e3:(([c0,c1,c2,c3,c4,c5,c6,c7,c8]:List Value).drop 4).take (Tryz.prog.cellsOf 31)=_:=e3
  rw [k1] at e1; rw [k2] at e2; rw [k3] at e3
  simp only [List.drop_zero,List.drop_succ_cons,List.take_succ_cons,List.take_zero,List.cons.injEq,and_true] at e1 e2 e3
  obtain⟨rfl,rfl⟩:=e1
  obtain⟨rfl,rfl⟩:=e2
  obtain⟨rfl,rfl,rfl,rfl,rfl⟩:=e3
  rfl
theorem open_i64 {r:Reach} {b0:Nat} {v:Value} {d:DataW H} {p:List MemPlace} (hv:Value.okWide Tryz.prog w r b0 3 v) (h:DataW.Trod enc Tryz.prog w base spare held 3 v d p):∃ n:Int,I64 n∧v=.int .i64 n:=by
 obtain⟨n,rfl⟩:=okWide_int Tryz.underlying3 hv
 obtain⟨fuel,hf⟩:=h
 obtain⟨n',e,_,hw⟩:=DataW.trod_int Tryz.underlying3 hf
 simp only [Value.cells,List.cons.injEq,Value.int.injEq,true_and,and_true] at e
 subst e
 exact⟨n,bounds_i64 hw,rfl⟩
theorem open_b {r:Reach} {b0:Nat} {v:Value} {d:DataW H} {p:List MemPlace} (hv:Value.okWide Tryz.prog w r b0 4 v) (_:DataW.Trod enc Tryz.prog w base spare held 4 v d p):∃ b:Bool,v=.bool b:=okWide_bool Tryz.underlying4 hv
end
end Go.Proofs.YteepmmghanbllaaGreatDoor
namespace Go.Proofs.YteepmmghanbllaaGreatDoor
open Go Go.K
theorem jf_maps:mapsRowed Tryz.prog=true:=by kernel_rfl
theorem jf_stops:(Tryz.prog.stops == [])=true:=by kernel_rfl
theorem jf_knobs:(Tryz.prog.stopKnobs == [])=true:=by kernel_rfl
theorem jf_keys:(Rows.fieldCrossesRow.plainKeys == Tryz.prog.plainKeys)=true:=by kernel_rfl
theorem jf_heard:Tryz.prog.stopsHeard=true:=by kernel_rfl
theorem jf_enter:Tryz.prog.mayEnter=true:=by kernel_rfl
theorem jf_final:(Rows.fieldCrossesRow.lifted == Tryz.prog.liftsFinal)=true:=by kernel_rfl
theorem jf_make:(Tryz.prog.make == some Rows.fieldCrossesRow.make)=true:=by kernel_rfl
theorem and_t {a b:Bool} (h1:a=true) (h2:b=true):(a&&b)=true:=by rw [h1,h2]; rfl
end Go.Proofs.YteepmmghanbllaaGreatDoor