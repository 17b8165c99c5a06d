/- What the proof of the root text leans on, part 7: the layer, plain facts and walks. No statement of the seat is proved in this text. -/
import Derived.ChangeSame
import Derived.Deep.Slices
import Derived.Handed
import Derived.HandedShaped
import Derived.LaidHandle
import Derived.LaidLaws
import Derived.LaidMore
import Derived.Lay
import Derived.Lib.LaidU8
import Derived.OpenShut
import Derived.ProofKit
import Derived.Shelf.Vars
import Derived.SizedLaws
import Derived.Stop.Joined
import Derived.Test.YtdcfcfhmkfkgmaaGreatDoorRows
import Derived.WideKeyArgs
import Derived.Test.YtdcfcfhmkfkgmaaGreatDoorPs6
namespace Go.Proofs.YtdcfcfhmkfkgmaaGreatDoor
open Go.K Go.Stn Go.Pln Go.RowKit
theorem en12:En Tryz.prog 12:=za7 Tryz.func12 (by kernel_rfl) (by kernel_rfl)
theorem en13:En Tryz.prog 13:=za7 Tryz.func13 (by kernel_rfl) (by kernel_rfl)
theorem en14:En Tryz.prog 14:=za7 Tryz.func14 (by kernel_rfl) (by kernel_rfl)
theorem en15:En Tryz.prog 15:=za7 Tryz.func15 (by kernel_rfl) (by kernel_rfl)
set_option maxRecDepth 100000 in
set_option maxHeartbeats 32000000 in
theorem PlanCourses_c (a:Option Addr) (cap:Nat) (S:List ShC) (b:Option Addr) (bcap:Nat) (V:List WlC) (n:ByteArray) (w:World) (hl:Has w (zaW a 20 zbH S)) (hs:zaP S.length) (_hcS:S.length≤cap) (hlw:Has w (zaW b 4 zbS V)) (hsw0:V.length≤4398046511104) (hsh:∀ z∈S,Has w (Ints z.a z.s.heights)) (hwo:∀ z∈V,Has w (zaW z.a 5 zba z.s.opens)) (hcpw:∀ z∈V,z.s.opens.length≤z.cap) (hkn:∀ z∈V,∀ o∈z.s.opens,Knd o) (hfS:∀ z∈S,Fits z.s.name.size) (hfV:∀ z∈V,Fits z.s.name.size) (hco:∀ z∈S,0≤z.s.cope) (hmx:Has w (IntV 2)) (hcp:Has w (zaW (some ⟨0,0,none⟩) 1 encS zeZ)) (hop:Has w (zaW (some ⟨1,0,none⟩) 1 encS opensW)) :
  Calls Tryz.prog 8 #[.agg #[.slice a S.length cap,.slice b V.length bcap],.string n] w (Pure (.bool true) w):=by
 refine zan (vs:=[_,_]) Tryz.func8 rfl rfl (Nat.le_of_ble_eq_true rfl) ?_
 refine zac ?_
 refine zaa ?_
 refine zaG rfl rfl (za3 (vs:=[_,_]) rfl rfl) fun b2=>?_
 refine gk_y rfl rfl (zad rfl) ?_
 refine zag (zae (T':=[(1,_),(2,_),(4,_)]) ⟨rfl,rfl,rfl,trivial⟩ ?_)
 refine zac ?_
 refine zac ?_
 refine zaa ?_
 refine gk_y rfl rfl (zat 0 tf25 rfl rfl (vs:=[_,_]) rfl rfl) ?_
 refine gk_y rfl rfl (zaJ en12 rfl (fun w hw=>zuI _ _ S _ _ V w (Rd.has (Has.rd hl) hw) hs (Rd.has (Has.rd hlw) hw) hsw0 hfS)) ?_
 refine gk_y rfl rfl (zbR rfl) ?_
 refine gk_y rfl rfl (zaf rfl) ?_
 refine zai rfl rfl rfl rfl (fun hg36=>?_) (fun hg36=>?_)
 ·replace hg36:_=false:=hg36
  try rw [hg36]
  refine gk_y rfl rfl (zat 0 tf25 rfl rfl (vs:=[_,_]) rfl rfl) ?_
  have hsm:=zmC (S:=S) (V:=V) (by simpa using hg36)
  obtain⟨hss,hsv,hsw,hS1,hV1⟩:=zjv hsm
  refine zai rfl rfl rfl rfl (fun _=>?_) (fun h=>absurd h (by decide))
  refine gk_y rfl rfl (zaJ en15 rfl (fun w hw=>zsf _ _ S _ _ V w (Rd.has (Has.rd hl) hw) hs (Rd.has (Has.rd hlw) hw) hsw (fun z hz=>(Rd.has (Has.rd (hsh z hz)) hw)) hss (fun z hz=>(Rd.has (Has.rd (hwo z hz)) hw)) hsv hcpw hkn hfS hfV hco)) ?_
  refine zai rfl rfl rfl rfl (fun _=>?_) (fun h=>absurd h (by decide))
  refine gk_y rfl rfl (zbR rfl) ?_
  refine gk_y rfl rfl (za5 rfl rfl rfl) ?_
  refine zag (zae (T':=[(1,_),(2,_),(4,_),(40,_)]) ⟨rfl,rfl,rfl,rfl,trivial⟩ ?_)
  refine zap rfl (fun hc40=>?_) (fun hc40=>?_)
  ·
   refine zac ?_
   refine zaa ?_
   refine gk_y rfl rfl (zaJ en13 rfl (fun w hw=>zkw w (Rd.has (Has.rd hmx) hw) (Rd.has (Has.rd hcp) hw) (Rd.has (Has.rd hop) hw))) ?_
   refine gk_y rfl rfl (zad rfl) ?_
   refine zag (zae (T':=[(1,_),(2,_),(4,_)]) ⟨rfl,rfl,rfl,trivial⟩ ?_)
   refine zaw ?_
   refine zay (zaC rfl (zau rfl)) ?_
   rfl
  ·have hP:zc4 S V=true:=by simpa using hc40
   refine zaq ?_
   refine zac ?_
   refine zaa ?_
   refine gk_y rfl rfl (zat 0 tf25 rfl rfl (vs:=[_,_]) rfl rfl) ?_
   refine zaG rfl rfl (zbm en14 rfl (fun w hw=>zue _ _ S _ _ V w (Rd.has (Has.rd hl) hw) hs (Rd.has (Has.rd hlw) hw) hsw (fun z hz=>(Rd.has (Has.rd (hsh z hz)) hw)) hss (fun z hz=>(Rd.has (Has.rd (hwo z hz)) hw)) hsv hS1 hV1)) fun p43=>?_
   refine zaG rfl rfl (zaL tf31 (zs:=[_,_]) rfl) fun b5=>?_
   refine zaA 0 tf31 rfl rfl (vs:=[_,_]) rfl rfl rfl rfl rfl ?_
   refine zag (zae (T':=[(1,_),(4,_),(5,_)]) ⟨rfl,rfl,rfl,trivial⟩ ?_)
   refine zao 1 rfl ?_
   obtain⟨⟨ra,rc,S2⟩,⟨rb,rd,V2⟩⟩:=p43
   refine zjk fun hS2 hV2=>?_
   have hS2:S2.map (·.s)=S.map (·.s):=hS2
   have hV2:V2.map (·.s)=V.map (·.s):=hV2
   obtain⟨l1,l2,y1,y2,y3,y4,ykn⟩:=zxG hsm hkn hS2 hV2
   refine za2 (R':=Box b5 [.slice ra S2.length rc,.slice rb V2.length rd] 31) 4 rfl (fun B w hA=>hA) ?_
   have hP2:zc4 S2 V2=true:=by rw [zmw hS2 hV2]; exact hP
   obtain⟨_,hsss⟩:=zxT (n:=n) y4 y3
   refine zac ?_
   refine zac ?_
   refine zaa ?_
   refine gk_y rfl rfl (zad rfl) ?_
   refine zag (zae (T':=[(1,_),(4,_),(5,_),(6,_)]) ⟨rfl,rfl,rfl,rfl,trivial⟩ ?_)
   refine zas ?_
   refine zbf (X:=Int) (fun(i:Int)=>[(1,.string n),(4,.bool false),(5,.pointer (some ⟨b5,0,none⟩)),(6,.int .i64 i)]) (fun(i:Int)=>[Row ra 20 rc 41 zbH S2,Go.K.Rows (rowH 3) S2,Row rb 4 rd 94 zbS V2,Go.K.Rows (rowO 98) V2,Box b5 [.slice ra S2.length rc,.slice rb V2.length rd] 31,Box b2 [.slice a S.length cap,.slice b V.length bcap] 25]) (fun(i:Int)=>(0≤i∧i≤S2.length)) (fun(i:Int)=>(S2.length - i).toNat) 0 ⟨rfl,rfl,rfl,rfl,trivial⟩ rfl ?_ ?_
   ·exact⟨by omega,by omega⟩
   ·rintro i hI
    obtain⟨g0,g1⟩:=hI
    refine zac ?_
    refine zac ?_
    refine zaa ?_
    refine gk_y rfl rfl (zaf rfl) ?_
    refine gk_y rfl rfl (zab zeo rfl) ?_
    refine gk_y rfl rfl (zah 4 tf28 rfl rfl rfl) ?_
    refine gk_y rfl rfl (zaV (Tryz.underlying28) rfl) ?_
    refine gk_y rfl rfl (zbw rfl rfl) ?_
    refine zag (zae (T':=[(1,_),(4,_),(5,_),(6,_),(48,_)]) ⟨rfl,rfl,rfl,rfl,rfl,trivial⟩ ?_)
    refine zap rfl (fun hc48=>?_) (fun hc48=>?_)
    ·have hc48:=of_decide_eq_true hc48
     have hspi:za4 (S2.getD i.toNat default).s=true:=zls hP2 _ (za0 (by omega))
     have hnmi:=zaZ hspi
     have htopi:=hnmi.height
     have hcki:zcX (S2.getD i.toNat default).s=0:=if_pos hspi
     have hcsi:(zfC (S2.getD i.toNat default).s)=zaj (S2.getD i.toNat default).s:=if_pos hspi
     obtain⟨f1,f2,f3,f4⟩:=zyp hspi
     have hlni:=hnmi.len
     have hnci:=zcv hspi
     have hhi:=fun(k:Int) h0 h1=>zyO hnmi (k:=k) h0 h1
     have hini:=fun(k:Int) h0 h1=>zpc hnmi (i:=k) h0 h1
     rw [←hcsi] at f1 f2 f3 f4 hnci hhi hini
     refine zaq ?_
     refine zac ?_
     refine zas ?_
     refine zac ?_
     refine zaa ?_
     refine gk_y rfl rfl (zab zeo rfl) ?_
     refine gk_y rfl rfl (zah 4 tf28 rfl rfl rfl) ?_
     refine gk_y rfl rfl (zaf rfl) ?_
     refine gk_y rfl rfl (zaE se28 rfl rfl (fun _ hw=>(zam zbI (hw.has (p:=0) rfl))) (by omega) (by omega)) ?_
     refine gk_y rfl rfl (zbv (vs:=[_,_,_,_,_,_,_,_,_,_,_,_,_,_,_,_,_,_,_,_]) tf41 rfl (fun _ hw=>(zam zbI (hw.has (p:=0) rfl))) (by omega) (by omega) rfl) ?_
     refine zaG rfl rfl (zaL tf41 (zs:=[_,_,_,_,_,_,_,_,_,_,_,_,_,_,_,_,_,_,_,_]) rfl) fun b7=>?_
     refine zbz 0 tf41 rfl rfl (vs:=[_,_,_,_,_,_,_,_,_,_,_,_,_,_,_,_,_,_,_,_]) rfl rfl rfl rfl rfl ?_
     refine zag (zae (T':=[(1,_),(4,_),(5,_),(6,_),(7,_)]) ⟨rfl,rfl,rfl,rfl,rfl,trivial⟩ ?_)
     refine zac ?_
     refine zaa ?_
     refine gk_y rfl rfl (zat 0 tf41 rfl rfl (vs:=[_,_,_,_,_,_,_,_,_,_,_,_,_,_,_,_,_,_,_,_]) rfl rfl) ?_
     refine zaG rfl rfl (zbm en17 rfl (fun w hw=>zoM _ _ (S2.getD i.toNat default).s w (zam Go.Stn.encI_ok (zbV (f:=rowH 3) (hw.has (p:=2) rfl) (za0 (by omega)))) (y3 _ (za0 (by omega))))) fun p58=>?_
     refine gk_y rfl rfl (zaf rfl) ?_
     refine gk_y rfl rfl (zaB rfl rfl) ?_
     refine gk_y rfl rfl (zaB rfl rfl) ?_
     refine gk_y rfl rfl (zad rfl) ?_
     refine gk_y rfl rfl (zad rfl) ?_
     refine zag (zae (T':=[(1,_),(4,_),(5,_),(6,_),(7,_),(8,_),(9,_)]) ⟨rfl,rfl,rfl,rfl,rfl,rfl,rfl,trivial⟩ ?_)
     refine zac ?_
     refine zac ?_
     refine zbb 26 (fun _=>mixed) (by kernel_rfl) ?_
     refine ph_y (zaf rfl) ?_
     refine ph_y (zdB (b':=false) (zcr rfl rfl) (by rw [hcki]; rfl)) ?_
     refine ph_y (zaf rfl) ?_
     refine ziw rfl rfl (zaf rfl) ?_
     refine ziw rfl rfl (zaV (Tryz.underlying38) rfl) ?_
     refine ziw rfl rfl (zdB (b':=false) (zbL rfl rfl) (by exact decide_eq_false (by omega))) ?_
     refine ph_y (zdB (b':=false) (zaR rfl rfl rfl) (by rfl)) ?_
     refine ph_y (zaf rfl) ?_
     refine ziw rfl rfl (zaf rfl) ?_
     refine ziw rfl rfl (zaE se38 rfl rfl (fun _ hw=>(zam zax (hw.has (p:=0) rfl))) (by omega) (by omega)) ?_
     refine ziw rfl rfl (zbh zne rfl (fun w hw=>zaO (i:=0) (zam zax (hw.has (p:=0) rfl)) (by omega) (by omega))) ?_
     refine ziw rfl rfl (zbn tf3 rfl (fun _ hw=>(zam zax (hw.has (p:=0) rfl))) (by omega) (by omega) rfl) ?_
     refine ziw rfl rfl (zdB (b':=false) (zcr rfl rfl) (by exact congrArg (fun b=>!b) (decide_eq_true (f2)))) ?_
     refine ph_y (zdB (b':=false) (zaR rfl rfl rfl) (by rfl)) ?_
     refine ph_y (zaf rfl) ?_
     refine ziw rfl rfl (zaf rfl) ?_
     refine ziw rfl rfl (zaf rfl) ?_
     refine ziw rfl rfl (zaV (Tryz.underlying38) rfl) ?_
     refine ziw rfl rfl (zfV rfl rfl (by omega) (by omega)) ?_
     refine ziw rfl rfl (zaE se38 rfl rfl (fun _ hw=>(zam zax (hw.has (p:=0) rfl))) (by omega) (by omega)) ?_
     refine ziw rfl rfl (zbh zpx rfl (fun w hw=>zaO (i:=(((zfC ((S2.getD (i).toNat default).s)).length:Int) - 1)) (zam zax (hw.has (p:=0) rfl)) (by omega) (by omega))) ?_
     refine ziw rfl rfl (zbn tf3 rfl (fun _ hw=>(zam zax (hw.has (p:=0) rfl))) (by omega) (by omega) rfl) ?_
     refine ziw rfl rfl (zab zep rfl) ?_
     refine ziw rfl rfl (zah 1 tf3 rfl rfl rfl) ?_
     refine ziw rfl rfl (zdB (b':=false) (zcr rfl rfl) (by exact congrArg (fun b=>!b) (decide_eq_true (f3)))) ?_
     refine ph_y (zaR rfl rfl rfl) ?_
     refine zag (zae (T':=[(1,_),(4,_),(5,_),(6,_),(7,_),(8,_),(86,_)]) ⟨rfl,rfl,rfl,rfl,rfl,rfl,rfl,trivial⟩ ?_)
     refine zd8 rfl ?_
     refine zaq ?_
     refine zac ?_
     refine zaa ?_
     refine gk_y rfl rfl (zab znc rfl) ?_
     refine gk_y rfl rfl (zah 1 tf3 rfl rfl rfl) ?_
     refine gk_y rfl rfl (zad rfl) ?_
     refine zag (zae (T':=[(1,_),(4,_),(5,_),(6,_),(7,_),(8,_),(10,_)]) ⟨rfl,rfl,rfl,rfl,rfl,rfl,rfl,trivial⟩ ?_)
     refine zac ?_
     refine zaa ?_
     refine gk_y rfl rfl (zad rfl) ?_
     refine zag (zae (T':=[(1,_),(4,_),(5,_),(6,_),(7,_),(8,_),(10,_),(11,_)]) ⟨rfl,rfl,rfl,rfl,rfl,rfl,rfl,rfl,trivial⟩ ?_)
     refine zas ?_
     refine zbf (X:=Int×Int) (fun⟨k,wl⟩=>[(1,.string n),(4,.bool false),(5,.pointer (some ⟨b5,0,none⟩)),(6,.int .i64 i),(7,.pointer (some ⟨b7,0,none⟩)),(8,.slice p58.1 (zfC ((S2.getD (i).toNat default).s)).length p58.2),(10,.int .i64 wl),(11,.int .i64 k)]) (fun⟨k,wl⟩=>[Row p58.1 2 p58.2 49 zbq (zfC ((S2.getD (i).toNat default).s)),Box b7 [.string (S2.getD (i).toNat default).s.name,.int .i64 ((S2.getD (i).toNat default).s.base),.int .i64 ((S2.getD (i).toNat default).s.batter),.int .i64 ((S2.getD (i).toNat default).s.height),.int .i64 ((S2.getD (i).toNat default).s.skin),.slice (S2.getD (i).toNat default).a (S2.getD (i).toNat default).s.heights.length (S2.getD (i).toNat default).cap,.int .i64 ((S2.getD (i).toNat default).s.least),.int .i64 ((S2.getD (i).toNat default).s.lap),.int .i64 ((S2.getD (i).toNat default).s.run),.int .i64 ((S2.getD (i).toNat default).s.every),.int .i64 ((S2.getD (i).toNat default).s.at_),.int .i64 ((S2.getD (i).toNat default).s.footing),.int .i64 ((S2.getD (i).toNat default).s.spread),.int .u8 (S2.getD (i).toNat default).s.cope,.int .i64 ((S2.getD (i).toNat default).s.tall),.int .i64 ((S2.getD (i).toNat default).s.short),.int .i64 ((S2.getD (i).toNat default).s.thick),.int .i64 ((S2.getD (i).toNat default).s.low),.int .i64 ((S2.getD (i).toNat default).s.high),.int .i64 ((S2.getD (i).toNat default).s.rood)] 41,Row ra 20 rc 41 zbH S2,Go.K.Rows (rowH 3) S2,Row rb 4 rd 94 zbS V2,Go.K.Rows (rowO 98) V2,Box b5 [.slice ra S2.length rc,.slice rb V2.length rd] 31,Box b2 [.slice a S.length cap,.slice b V.length bcap] 25]) (fun⟨k,wl⟩=>(0≤k∧k≤(zfC (S2.getD i.toNat default).s).length∧∃ y,0≤y∧y≤(S2.getD i.toNat default).s.height∧(k < ((zfC (S2.getD i.toNat default).s).length:Int)→y≤((zfC (S2.getD i.toNat default).s).getD k.toNat default).frm)∧wl=zb5 (S2.getD i.toNat default).s y)) (fun⟨k,wl⟩=>((zfC (S2.getD i.toNat default).s).length - k).toNat) (0,(S2.getD i.toNat default).s.base) ⟨rfl,rfl,rfl,rfl,rfl,rfl,rfl,rfl,trivial⟩ rfl ?_ ?_
     ·exact⟨by omega,by omega,0,by omega,by omega,fun h=>(hini 0 (by omega) h).1,by simp [zb5]⟩
     ·rintro ⟨k,wl⟩ hI
      obtain⟨k0,k1,k2⟩:=hI
      refine zac ?_
      refine zac ?_
      refine zaa ?_
      refine gk_y rfl rfl (zaf rfl) ?_
      refine gk_y rfl rfl (zaf rfl) ?_
      refine gk_y rfl rfl (zaV (Tryz.underlying38) rfl) ?_
      refine gk_y rfl rfl (zbw rfl rfl) ?_
      refine zag (zae (T':=[(1,_),(4,_),(5,_),(6,_),(7,_),(8,_),(10,_),(11,_),(92,_)]) ⟨rfl,rfl,rfl,rfl,rfl,rfl,rfl,rfl,rfl,trivial⟩ ?_)
      refine zap rfl (fun hc92=>?_) (fun hc92=>?_)
      ·have hc92:=of_decide_eq_true hc92
       obtain⟨z1,z2,z3⟩:=hini k k0 hc92
       have hwe:zlK (S2.getD i.toNat default).s ((zfC (S2.getD i.toNat default).s).getD k.toNat default).to=0:=by rw [zlK,if_pos hspi,if_pos (by omega)]
       have hws:zlL (S2.getD i.toNat default).s ((zfC (S2.getD i.toNat default).s).getD k.toNat default).to=zb5 (S2.getD i.toNat default).s ((zfC (S2.getD i.toNat default).s).getD k.toNat default).to:=by rw [zlL,if_pos ⟨hspi,by omega,by omega⟩]
       obtain⟨y,yy0,yy1,yy2,yy3⟩:=k2
       have hmo:zb5 (S2.getD i.toNat default).s ((zfC (S2.getD i.toNat default).s).getD k.toNat default).to≤zb5 (S2.getD i.toNat default).s y:=zyD hspi yy0 (by have:=yy2 hc92; omega)
       have hf4:=f4 (k+1)
       rcases Int.lt_or_le 0 k with hk0 | hk0
       ·
        refine zaq ?_
        refine zac ?_
        refine zas ?_
        refine zac ?_
        refine zbb 12 (fun _=>mixed) (by kernel_rfl) ?_
        refine ph_y (zat 1 tf41 rfl rfl (vs:=[_,_,_,_,_,_,_,_,_,_,_,_,_,_,_,_,_,_,_,_]) rfl rfl) ?_
        refine ph_y (zaf rfl) ?_
        refine ph_y (zaf rfl) ?_
        refine ph_y (zaE se38 rfl rfl (fun _ hw=>(zam zax (hw.has (p:=0) rfl))) (by omega) (by omega)) ?_
        refine ph_y (zbh zpx rfl (fun w hw=>zaO (i:=k) (zam zax (hw.has (p:=0) rfl)) (by omega) (by omega))) ?_
        refine ph_y (zbn tf3 rfl (fun _ hw=>(zam zax (hw.has (p:=0) rfl))) (by omega) (by omega) rfl) ?_
        refine ph_y (zaJ en18 rfl (fun w hw=>ztc _ _ (S2.getD i.toNat default).s _ w (zam Go.Stn.encI_ok (zbV (f:=rowH 3) (hw.has (p:=3) rfl) (za0 (by omega)))) (y3 _ (za0 (by omega))))) ?_
        refine ph_y (zaf rfl) ?_
        refine ph_y (zaB rfl rfl) ?_
        refine ph_y (zaB rfl rfl) ?_
        refine ph_y (zad rfl) ?_
        refine ph_y (zad rfl) ?_
        refine zag (zae (T':=[(1,_),(4,_),(5,_),(6,_),(7,_),(8,_),(10,_),(11,_),(12,_),(13,_)]) ⟨rfl,rfl,rfl,rfl,rfl,rfl,rfl,rfl,rfl,rfl,trivial⟩ ?_)
        refine zac ?_
        refine zac ?_
        refine zbb 38 (fun _=>mixed) (by kernel_rfl) ?_
        refine ph_y (zaf rfl) ?_
        refine ph_y (zdB (b':=false) (zcr rfl rfl) (by rw [hwe]; rfl)) ?_
        refine ph_y (zaf rfl) ?_
        refine ziw rfl rfl (zaf rfl) ?_
        refine ziw rfl rfl (zaf rfl) ?_
        refine ziw rfl rfl (zdB (b':=false) (zc6 rfl rfl) (by exact decide_eq_false (by rw [hws,yy3]; omega))) ?_
        refine ph_y (zdB (b':=false) (zaR rfl rfl rfl) (by rfl)) ?_
        refine ph_y (zaf rfl) ?_
        refine ziw rfl rfl (zaf rfl) ?_
        refine ziw rfl rfl (zaf rfl) ?_
        refine ziw rfl rfl (zaE se38 rfl rfl (fun _ hw=>(zam zax (hw.has (p:=0) rfl))) (by omega) (by omega)) ?_
        refine ziw rfl rfl (zbh zpx rfl (fun w hw=>zaO (i:=k) (zam zax (hw.has (p:=0) rfl)) (by omega) (by omega))) ?_
        refine ziw rfl rfl (zbn tf3 rfl (fun _ hw=>(zam zax (hw.has (p:=0) rfl))) (by omega) (by omega) rfl) ?_
        refine ziw rfl rfl (zaf rfl) ?_
        refine ziw rfl rfl (zaf rfl) ?_
        refine ziw rfl rfl (zaE se38 rfl rfl (fun _ hw=>(zam zax (hw.has (p:=0) rfl))) (by omega) (by omega)) ?_
        refine ziw rfl rfl (zbh zne rfl (fun w hw=>zaO (i:=k) (zam zax (hw.has (p:=0) rfl)) (by omega) (by omega))) ?_
        refine ziw rfl rfl (zbn tf3 rfl (fun _ hw=>(zam zax (hw.has (p:=0) rfl))) (by omega) (by omega) rfl) ?_
        refine ziw rfl rfl (zdB (b':=false) (zeT rfl rfl) (by exact decide_eq_false (by omega))) ?_
        refine ph_y (zdB (b':=false) (zaR rfl rfl rfl) (by rfl)) ?_
        refine ph_y (zaf rfl) ?_
        refine ziw rfl rfl (zaf rfl) ?_
        refine ziw rfl rfl (zbQ (zc6 rfl rfl) (by exact decide_eq_true hk0)) ?_
        refine ziw rfl rfl (zaf rfl) ?_
        refine ziw rfl rfl (zaf rfl) ?_
        refine ziw rfl rfl (zaf rfl) ?_
        refine ziw rfl rfl (zaE se38 rfl rfl (fun _ hw=>(zam zax (hw.has (p:=0) rfl))) (by omega) (by omega)) ?_
        refine ziw rfl rfl (zbh zne rfl (fun w hw=>zaO (i:=k) (zam zax (hw.has (p:=0) rfl)) (by omega) (by omega))) ?_
        refine ziw rfl rfl (zbn tf3 rfl (fun _ hw=>(zam zax (hw.has (p:=0) rfl))) (by omega) (by omega) rfl) ?_
        refine ziw rfl rfl (zaf rfl) ?_
        refine ziw rfl rfl (zaf rfl) ?_
        refine ziw rfl rfl (zfV rfl rfl (by omega) (by omega)) ?_
        refine ziw rfl rfl (zaE se38 rfl rfl (fun _ hw=>(zam zax (hw.has (p:=0) rfl))) (by omega) (by omega)) ?_
        refine ziw rfl rfl (zbh zpx rfl (fun w hw=>zaO (i:=(k - 1)) (zam zax (hw.has (p:=0) rfl)) (by omega) (by omega))) ?_
        refine ziw rfl rfl (zbn tf3 rfl (fun _ hw=>(zam zax (hw.has (p:=0) rfl))) (by omega) (by omega) rfl) ?_
        refine ziw rfl rfl (zdB (b':=false) (zcr rfl rfl) (by exact congrArg (fun b=>!b) (decide_eq_true (f4 k hk0 hc92)))) ?_
        refine ziw rfl rfl (za5 rfl rfl rfl) ?_
        refine ph_y (zaR rfl rfl rfl) ?_
        refine zag (zae (T':=[(1,_),(4,_),(5,_),(6,_),(7,_),(8,_),(10,_),(11,_),(12,_),(142,_)]) ⟨rfl,rfl,rfl,rfl,rfl,rfl,rfl,rfl,rfl,rfl,trivial⟩ ?_)
        refine zd8 rfl ?_
        refine zaq ?_
        refine zac ?_
        refine zac ?_
        refine zbb 29 (fun _=>mixed) (by kernel_rfl) ?_
        refine ph_y (zaf rfl) ?_
        refine ph_y (zaf rfl) ?_
        refine ph_y (zaV (Tryz.underlying38) rfl) ?_
        refine ph_y (zfV rfl rfl (by omega) (by omega)) ?_
        refine ph_y (zbw rfl rfl) ?_
        refine ph_y (zaf rfl) ?_
        refine zaH rfl rfl (fun hgd=>by(try rw [hgd]); have hgd2:=of_decide_eq_true hgd; exact(zaf rfl)) ?_
        refine zaH rfl rfl (fun hgd=>by(try rw [hgd]); have hgd2:=of_decide_eq_true hgd; exact(zaf rfl)) ?_
        refine zaH rfl rfl (fun hgd=>by(try rw [hgd]); have hgd2:=of_decide_eq_true hgd; exact(zaE se38 rfl rfl (fun _ hw=>(zam zax (hw.has (p:=0) rfl))) (by omega) (by omega))) ?_
        refine zaH rfl rfl (fun hgd=>by(try rw [hgd]); have hgd2:=of_decide_eq_true hgd; exact(zbh zpx rfl (fun w hw=>zaO (i:=k) (zam zax (hw.has (p:=0) rfl)) (by omega) (by omega)))) ?_
        refine zaH rfl rfl (fun hgd=>by(try rw [hgd]); have hgd2:=of_decide_eq_true hgd; exact(zbn tf3 rfl (fun _ hw=>(zam zax (hw.has (p:=0) rfl))) (by omega) (by omega) rfl)) ?_
        refine zaH rfl rfl (fun hgd=>by(try rw [hgd]); have hgd2:=of_decide_eq_true hgd; exact(zaf rfl)) ?_
        refine zaH rfl rfl (fun hgd=>by(try rw [hgd]); have hgd2:=of_decide_eq_true hgd; exact(zaf rfl)) ?_
        refine zaH rfl rfl (fun hgd=>by(try rw [hgd]); have hgd2:=of_decide_eq_true hgd; exact(zaE se38 rfl rfl (fun _ hw=>(zam zax (hw.has (p:=0) rfl))) (by omega) (by omega))) ?_
        refine zaH rfl rfl (fun hgd=>by(try rw [hgd]); have hgd2:=of_decide_eq_true hgd; exact(zbh zne rfl (fun w hw=>zaO (i:=k) (zam zax (hw.has (p:=0) rfl)) (by omega) (by omega)))) ?_
        refine zaH rfl rfl (fun hgd=>by(try rw [hgd]); have hgd2:=of_decide_eq_true hgd; exact(zbn tf3 rfl (fun _ hw=>(zam zax (hw.has (p:=0) rfl))) (by omega) (by omega) rfl)) ?_
        refine zaH rfl rfl (fun hgd=>by(try rw [hgd]); have hgd2:=of_decide_eq_true hgd; exact(zfV rfl rfl (by omega) (by omega))) ?_
        refine zaH rfl rfl (fun hgd=>by(try rw [hgd]); have hgd2:=of_decide_eq_true hgd; exact(zab zia rfl)) ?_
        refine zaH rfl rfl (fun hgd=>by(try rw [hgd]); have hgd2:=of_decide_eq_true hgd; exact(zah 1 tf35 rfl rfl rfl)) ?_
        refine zaH rfl rfl (fun hgd=>by(try rw [hgd]); have hgd2:=of_decide_eq_true hgd; exact(zaf rfl)) ?_
        refine zaH rfl rfl (fun hgd=>by(try rw [hgd]); have hgd2:=of_decide_eq_true hgd; exact(zab zia rfl)) ?_
        refine zaH rfl rfl (fun hgd=>by(try rw [hgd]); have hgd2:=of_decide_eq_true hgd; exact(zah 1 tf35 rfl rfl rfl)) ?_
        refine zaH rfl rfl (fun hgd=>by(try rw [hgd]); have hgd2:=of_decide_eq_true hgd; exact(zaV (Tryz.underlying35) rfl)) ?_
        refine zaH rfl rfl (fun hgd=>by(try rw [hgd]); have hgd2:=of_decide_eq_true hgd; exact(zfV rfl rfl (by omega) (by omega))) ?_
        refine zaH rfl rfl (fun hgd=>by(try rw [hgd]); have hgd2:=of_decide_eq_true hgd; exact(zsy rfl rfl)) ?_
        refine zaH rfl rfl (fun hgd=>by(try rw [hgd]); have hgd2:=of_decide_eq_true hgd; exact(zaE se35 rfl rfl (fun _ hw=>(zam Go.Stn.encI_ok (zbV (f:=rowH 3) (hw.has (p:=3) rfl) (za0 (by omega))))) (by omega) (by omega))) ?_
        refine zaH rfl rfl (fun hgd=>by(try rw [hgd]); have hgd2:=of_decide_eq_true hgd; exact(zcE tf3 rfl (fun _ hw=>(zam Go.Stn.encI_ok (zbV (f:=rowH 3) (hw.has (p:=3) rfl) (za0 (by omega))))) (by omega) (by omega) rfl)) ?_
        refine zaH rfl rfl (fun hgd=>by(try rw [hgd]); have hgd2:=of_decide_eq_true hgd; exact(zdB (b':=false) (zcr rfl rfl) (by exact congrArg (fun b=>!b) (decide_eq_true (hhi k k0 hgd2))))) ?_
        refine ph_y (zaX rfl rfl rfl) ?_
        refine zag (zae (T':=[(1,_),(4,_),(5,_),(6,_),(7,_),(8,_),(10,_),(11,_),(12,_),(171,_)]) ⟨rfl,rfl,rfl,rfl,rfl,rfl,rfl,rfl,rfl,rfl,trivial⟩ ?_)
        refine zap rfl (fun hc171=>?_) (fun hc171=>?_)
        ·exfalso; simp at hc171
        ·simp only [Bool.and_eq_false_iff,decide_eq_false_iff_not] at hc171
         refine zaq ?_
         refine zaa ?_
         refine gk_y rfl rfl (zaf rfl) ?_
         refine gk_y rfl rfl (zad rfl) ?_
         refine zag (zae (T':=[(1,_),(4,_),(5,_),(6,_),(7,_),(8,_),(10,_),(11,_)]) ⟨rfl,rfl,rfl,rfl,rfl,rfl,rfl,rfl,trivial⟩ ?_)
         refine zae (T':=[(1,_),(4,_),(5,_),(6,_),(7,_),(8,_),(10,.int .i64 (zb5 (S2.getD i.toNat default).s ((zfC (S2.getD i.toNat default).s).getD k.toNat default).to)),(11,_)]) ⟨rfl,rfl,rfl,rfl,rfl,rfl,(by show some (Value.int .i64 (zlL (S2.getD i.toNat default).s ((zfC (S2.getD i.toNat default).s).getD k.toNat default).to))=_; rw [hws]),rfl,trivial⟩ ?_
         refine zaa ?_
         refine gk_y rfl rfl (zaf rfl) ?_
         refine gk_y rfl rfl (zaY rfl rfl (by omega) (by omega)) ?_
         refine gk_y rfl rfl (zad rfl) ?_
         refine zag (zae (T':=[(1,_),(4,_),(5,_),(6,_),(7,_),(8,_),(10,_),(11,_)]) ⟨rfl,rfl,rfl,rfl,rfl,rfl,rfl,rfl,trivial⟩ ?_)
         exact za1 (k+1,zb5 (S2.getD i.toNat default).s ((zfC (S2.getD i.toNat default).s).getD k.toNat default).to) ⟨rfl,rfl,rfl,rfl,rfl,rfl,rfl,rfl,trivial⟩ rfl ⟨by omega,by omega,((zfC (S2.getD i.toNat default).s).getD k.toNat default).to,by omega,by omega,fun h=>by rw [hf4 (by omega) h,Int.add_sub_cancel]; exact Int.le_refl _,rfl⟩ (by simp only []; omega)
       ·
        refine zaq ?_
        refine zac ?_
        refine zas ?_
        refine zac ?_
        refine zbb 12 (fun _=>mixed) (by kernel_rfl) ?_
        refine ph_y (zat 1 tf41 rfl rfl (vs:=[_,_,_,_,_,_,_,_,_,_,_,_,_,_,_,_,_,_,_,_]) rfl rfl) ?_
        refine ph_y (zaf rfl) ?_
        refine ph_y (zaf rfl) ?_
        refine ph_y (zaE se38 rfl rfl (fun _ hw=>(zam zax (hw.has (p:=0) rfl))) (by omega) (by omega)) ?_
        refine ph_y (zbh zpx rfl (fun w hw=>zaO (i:=k) (zam zax (hw.has (p:=0) rfl)) (by omega) (by omega))) ?_
        refine ph_y (zbn tf3 rfl (fun _ hw=>(zam zax (hw.has (p:=0) rfl))) (by omega) (by omega) rfl) ?_
        refine ph_y (zaJ en18 rfl (fun w hw=>ztc _ _ (S2.getD i.toNat default).s _ w (zam Go.Stn.encI_ok (zbV (f:=rowH 3) (hw.has (p:=3) rfl) (za0 (by omega)))) (y3 _ (za0 (by omega))))) ?_
        refine ph_y (zaf rfl) ?_
        refine ph_y (zaB rfl rfl) ?_
        refine ph_y (zaB rfl rfl) ?_
        refine ph_y (zad rfl) ?_
        refine ph_y (zad rfl) ?_
        refine zag (zae (T':=[(1,_),(4,_),(5,_),(6,_),(7,_),(8,_),(10,_),(11,_),(12,_),(13,_)]) ⟨rfl,rfl,rfl,rfl,rfl,rfl,rfl,rfl,rfl,rfl,trivial⟩ ?_)
        refine zac ?_
        refine zac ?_
        refine zbb 38 (fun _=>mixed) (by kernel_rfl) ?_
        refine ph_y (zaf rfl) ?_
        refine ph_y (zdB (b':=false) (zcr rfl rfl) (by rw [hwe]; rfl)) ?_
        refine ph_y (zaf rfl) ?_
        refine ziw rfl rfl (zaf rfl) ?_
        refine ziw rfl rfl (zaf rfl) ?_
        refine ziw rfl rfl (zdB (b':=false) (zc6 rfl rfl) (by exact decide_eq_false (by rw [hws,yy3]; omega))) ?_
        refine ph_y (zdB (b':=false) (zaR rfl rfl rfl) (by rfl)) ?_
        refine ph_y (zaf rfl) ?_
        refine ziw rfl rfl (zaf rfl) ?_
        refine ziw rfl rfl (zaf rfl) ?_
        refine ziw rfl rfl (zaE se38 rfl rfl (fun _ hw=>(zam zax (hw.has (p:=0) rfl))) (by omega) (by omega)) ?_
        refine ziw rfl rfl (zbh zpx rfl (fun w hw=>zaO (i:=k) (zam zax (hw.has (p:=0) rfl)) (by omega) (by omega))) ?_
        refine ziw rfl rfl (zbn tf3 rfl (fun _ hw=>(zam zax (hw.has (p:=0) rfl))) (by omega) (by omega) rfl) ?_
        refine ziw rfl rfl (zaf rfl) ?_
        refine ziw rfl rfl (zaf rfl) ?_
        refine ziw rfl rfl (zaE se38 rfl rfl (fun _ hw=>(zam zax (hw.has (p:=0) rfl))) (by omega) (by omega)) ?_
        refine ziw rfl rfl (zbh zne rfl (fun w hw=>zaO (i:=k) (zam zax (hw.has (p:=0) rfl)) (by omega) (by omega))) ?_
        refine ziw rfl rfl (zbn tf3 rfl (fun _ hw=>(zam zax (hw.has (p:=0) rfl))) (by omega) (by omega) rfl) ?_
        refine ziw rfl rfl (zdB (b':=false) (zeT rfl rfl) (by exact decide_eq_false (by omega))) ?_
        refine ph_y (zdB (b':=false) (zaR rfl rfl rfl) (by rfl)) ?_
        refine ph_y (zaf rfl) ?_
        refine ziw rfl rfl (zaf rfl) ?_
        refine ziw rfl rfl (zdB (b':=false) (zc6 rfl rfl) (by exact decide_eq_false (by omega))) ?_
        refine ziw rfl rfl (zaf rfl) ?_
        refine zaH (v:=.bool false) rfl rfl (fun hgd=>absurd hgd (by decide)) ?_
        refine zaH (v:=.bool false) rfl rfl (fun hgd=>absurd hgd (by decide)) ?_
        refine zaH (v:=.bool false) rfl rfl (fun hgd=>absurd hgd (by decide)) ?_
        refine zaH (v:=.bool false) rfl rfl (fun hgd=>absurd hgd (by decide)) ?_
        refine zaH (v:=.bool false) rfl rfl (fun hgd=>absurd hgd (by decide)) ?_
        refine zaH (v:=.bool false) rfl rfl (fun hgd=>absurd hgd (by decide)) ?_
        refine zaH (v:=.bool false) rfl rfl (fun hgd=>absurd hgd (by decide)) ?_
        refine zaH (v:=.bool false) rfl rfl (fun hgd=>absurd hgd (by decide)) ?_
        refine zaH (v:=.bool false) rfl rfl (fun hgd=>absurd hgd (by decide)) ?_
        refine zaH (v:=.bool false) rfl rfl (fun hgd=>absurd hgd (by decide)) ?_
        refine zaH (v:=.bool false) rfl rfl (fun hgd=>absurd hgd (by decide)) ?_
        refine zaH (v:=.bool (!decide (((zfC ((S2.getD (i).toNat default).s)).getD (k).toNat default).frm=((zfC ((S2.getD (i).toNat default).s)).getD ((k - 1)).toNat default).to))) rfl rfl (fun hgd=>absurd hgd (by decide)) ?_
        refine ziw rfl rfl (zaX rfl rfl rfl) ?_
        refine ph_y (zaR rfl rfl rfl) ?_
        refine zag (zae (T':=[(1,_),(4,_),(5,_),(6,_),(7,_),(8,_),(10,_),(11,_),(12,_),(142,_)]) ⟨rfl,rfl,rfl,rfl,rfl,rfl,rfl,rfl,rfl,rfl,trivial⟩ ?_)
        refine zd8 rfl ?_
        refine zaq ?_
        refine zac ?_
        refine zac ?_
        refine zbb 29 (fun _=>mixed) (by kernel_rfl) ?_
        refine ph_y (zaf rfl) ?_
        refine ph_y (zaf rfl) ?_
        refine ph_y (zaV (Tryz.underlying38) rfl) ?_
        refine ph_y (zfV rfl rfl (by omega) (by omega)) ?_
        refine ph_y (zbw rfl rfl) ?_
        refine ph_y (zaf rfl) ?_
        refine zaH rfl rfl (fun hgd=>by(try rw [hgd]); have hgd2:=of_decide_eq_true hgd; exact(zaf rfl)) ?_
        refine zaH rfl rfl (fun hgd=>by(try rw [hgd]); have hgd2:=of_decide_eq_true hgd; exact(zaf rfl)) ?_
        refine zaH rfl rfl (fun hgd=>by(try rw [hgd]); have hgd2:=of_decide_eq_true hgd; exact(zaE se38 rfl rfl (fun _ hw=>(zam zax (hw.has (p:=0) rfl))) (by omega) (by omega))) ?_
        refine zaH rfl rfl (fun hgd=>by(try rw [hgd]); have hgd2:=of_decide_eq_true hgd; exact(zbh zpx rfl (fun w hw=>zaO (i:=k) (zam zax (hw.has (p:=0) rfl)) (by omega) (by omega)))) ?_
        refine zaH rfl rfl (fun hgd=>by(try rw [hgd]); have hgd2:=of_decide_eq_true hgd; exact(zbn tf3 rfl (fun _ hw=>(zam zax (hw.has (p:=0) rfl))) (by omega) (by omega) rfl)) ?_
        refine zaH rfl rfl (fun hgd=>by(try rw [hgd]); have hgd2:=of_decide_eq_true hgd; exact(zaf rfl)) ?_
        refine zaH rfl rfl (fun hgd=>by(try rw [hgd]); have hgd2:=of_decide_eq_true hgd; exact(zaf rfl)) ?_
        refine zaH rfl rfl (fun hgd=>by(try rw [hgd]); have hgd2:=of_decide_eq_true hgd; exact(zaE se38 rfl rfl (fun _ hw=>(zam zax (hw.has (p:=0) rfl))) (by omega) (by omega))) ?_
        refine zaH rfl rfl (fun hgd=>by(try rw [hgd]); have hgd2:=of_decide_eq_true hgd; exact(zbh zne rfl (fun w hw=>zaO (i:=k) (zam zax (hw.has (p:=0) rfl)) (by omega) (by omega)))) ?_
        refine zaH rfl rfl (fun hgd=>by(try rw [hgd]); have hgd2:=of_decide_eq_true hgd; exact(zbn tf3 rfl (fun _ hw=>(zam zax (hw.has (p:=0) rfl))) (by omega) (by omega) rfl)) ?_
        refine zaH rfl rfl (fun hgd=>by(try rw [hgd]); have hgd2:=of_decide_eq_true hgd; exact(zfV rfl rfl (by omega) (by omega))) ?_
        refine zaH rfl rfl (fun hgd=>by(try rw [hgd]); have hgd2:=of_decide_eq_true hgd; exact(zab zia rfl)) ?_
        refine zaH rfl rfl (fun hgd=>by(try rw [hgd]); have hgd2:=of_decide_eq_true hgd; exact(zah 1 tf35 rfl rfl rfl)) ?_
        refine zaH rfl rfl (fun hgd=>by(try rw [hgd]); have hgd2:=of_decide_eq_true hgd; exact(zaf rfl)) ?_
        refine zaH rfl rfl (fun hgd=>by(try rw [hgd]); have hgd2:=of_decide_eq_true hgd; exact(zab zia rfl)) ?_
        refine zaH rfl rfl (fun hgd=>by(try rw [hgd]); have hgd2:=of_decide_eq_true hgd; exact(zah 1 tf35 rfl rfl rfl)) ?_
        refine zaH rfl rfl (fun hgd=>by(try rw [hgd]); have hgd2:=of_decide_eq_true hgd; exact(zaV (Tryz.underlying35) rfl)) ?_
        refine zaH rfl rfl (fun hgd=>by(try rw [hgd]); have hgd2:=of_decide_eq_true hgd; exact(zfV rfl rfl (by omega) (by omega))) ?_
        refine zaH rfl rfl (fun hgd=>by(try rw [hgd]); have hgd2:=of_decide_eq_true hgd; exact(zsy rfl rfl)) ?_
        refine zaH rfl rfl (fun hgd=>by(try rw [hgd]); have hgd2:=of_decide_eq_true hgd; exact(zaE se35 rfl rfl (fun _ hw=>(zam Go.Stn.encI_ok (zbV (f:=rowH 3) (hw.has (p:=3) rfl) (za0 (by omega))))) (by omega) (by omega))) ?_
        refine zaH rfl rfl (fun hgd=>by(try rw [hgd]); have hgd2:=of_decide_eq_true hgd; exact(zcE tf3 rfl (fun _ hw=>(zam Go.Stn.encI_ok (zbV (f:=rowH 3) (hw.has (p:=3) rfl) (za0 (by omega))))) (by omega) (by omega) rfl)) ?_
        refine zaH rfl rfl (fun hgd=>by(try rw [hgd]); have hgd2:=of_decide_eq_true hgd; exact(zdB (b':=false) (zcr rfl rfl) (by exact congrArg (fun b=>!b) (decide_eq_true (hhi k k0 hgd2))))) ?_
        refine ph_y (zaX rfl rfl rfl) ?_
        refine zag (zae (T':=[(1,_),(4,_),(5,_),(6,_),(7,_),(8,_),(10,_),(11,_),(12,_),(171,_)]) ⟨rfl,rfl,rfl,rfl,rfl,rfl,rfl,rfl,rfl,rfl,trivial⟩ ?_)
        refine zap rfl (fun hc171=>?_) (fun hc171=>?_)
        ·exfalso; simp at hc171
        ·simp only [Bool.and_eq_false_iff,decide_eq_false_iff_not] at hc171
         refine zaq ?_
         refine zaa ?_
         refine gk_y rfl rfl (zaf rfl) ?_
         refine gk_y rfl rfl (zad rfl) ?_
         refine zag (zae (T':=[(1,_),(4,_),(5,_),(6,_),(7,_),(8,_),(10,_),(11,_)]) ⟨rfl,rfl,rfl,rfl,rfl,rfl,rfl,rfl,trivial⟩ ?_)
         refine zae (T':=[(1,_),(4,_),(5,_),(6,_),(7,_),(8,_),(10,.int .i64 (zb5 (S2.getD i.toNat default).s ((zfC (S2.getD i.toNat default).s).getD k.toNat default).to)),(11,_)]) ⟨rfl,rfl,rfl,rfl,rfl,rfl,(by show some (Value.int .i64 (zlL (S2.getD i.toNat default).s ((zfC (S2.getD i.toNat default).s).getD k.toNat default).to))=_; rw [hws]),rfl,trivial⟩ ?_
         refine zaa ?_
         refine gk_y rfl rfl (zaf rfl) ?_
         refine gk_y rfl rfl (zaY rfl rfl (by omega) (by omega)) ?_
         refine gk_y rfl rfl (zad rfl) ?_
         refine zag (zae (T':=[(1,_),(4,_),(5,_),(6,_),(7,_),(8,_),(10,_),(11,_)]) ⟨rfl,rfl,rfl,rfl,rfl,rfl,rfl,rfl,trivial⟩ ?_)
         exact za1 (k+1,zb5 (S2.getD i.toNat default).s ((zfC (S2.getD i.toNat default).s).getD k.toNat default).to) ⟨rfl,rfl,rfl,rfl,rfl,rfl,rfl,rfl,trivial⟩ rfl ⟨by omega,by omega,((zfC (S2.getD i.toNat default).s).getD k.toNat default).to,by omega,by omega,fun h=>by rw [hf4 (by omega) h,Int.add_sub_cancel]; exact Int.le_refl _,rfl⟩ (by simp only []; omega)
      ·
       refine za8 rfl ?_
       refine zaa ?_
       refine gk_y rfl rfl (zaf rfl) ?_
       refine gk_y rfl rfl (zaY rfl rfl (by omega) (by omega)) ?_
       refine gk_y rfl rfl (zad rfl) ?_
       refine zag (zae (T':=[(1,_),(4,_),(5,_),(6,_)]) ⟨rfl,rfl,rfl,rfl,trivial⟩ ?_)
       refine zaK 0 rfl ?_
       refine zaK 0 rfl ?_
       exact za1 (i+1) ⟨rfl,rfl,rfl,rfl,trivial⟩ rfl ⟨by omega,by omega⟩ (by omega)
    ·
     refine za8 rfl ?_
     refine zac ?_
     refine zaa ?_
     refine gk_y rfl rfl (zat 4 tf31 rfl rfl (vs:=[_,_]) rfl rfl) ?_
     refine gk_y rfl rfl (zaf rfl) ?_
     refine zaG rfl rfl (zbm en36 rfl (fun w hw=>zyh _ _ S2 _ _ V2 n w (zam zbI (hw.has (p:=0) rfl)) y1 (zcM (hw.has (p:=0) rfl)) (zam zbo (hw.has (p:=2) rfl)) y2 (fun z hz2=>zam Go.Stn.encI_ok (zbV (f:=rowH 3) (hw.has (p:=1) rfl) hz2)) y3 (fun z hz2=>zam encOpn_ok (zbV (f:=rowO 98) (hw.has (p:=3) rfl) hz2)) y4 (fun z hz2=>zcM (zbV (f:=rowO 98) (hw.has (p:=3) rfl) hz2)) ykn)) fun p176=>zbP ?_
     refine gk_y rfl rfl (zaf rfl) ?_
     refine gk_y rfl rfl (zaB rfl rfl) ?_
     refine gk_y rfl rfl (zaB rfl rfl) ?_
     refine gk_y rfl rfl (zaB rfl rfl) ?_
     refine zaG rfl rfl (zaL tf94 (zs:=[_,_,_,_]) rfl) fun b14=>?_
     refine zaG rfl rfl (zaL tf41 (zs:=[_,_,_,_,_,_,_,_,_,_,_,_,_,_,_,_,_,_,_,_]) rfl) fun b15=>?_
     refine zaA 1 tf94 rfl rfl (vs:=[_,_,_,_]) rfl rfl rfl rfl rfl ?_
     refine zbz 0 tf41 rfl rfl (vs:=[_,_,_,_,_,_,_,_,_,_,_,_,_,_,_,_,_,_,_,_]) rfl rfl rfl rfl rfl ?_
     refine gk_y rfl rfl (zad rfl) ?_
     refine zag (zae (T':=[(1,_),(4,_),(5,_),(14,_),(15,_),(16,_)]) ⟨rfl,rfl,rfl,rfl,rfl,rfl,trivial⟩ ?_)
     refine zac ?_
     refine zac ?_
     refine zaa ?_
     refine gk_y rfl rfl (zaf rfl) ?_
     refine gk_y rfl rfl (zcr rfl rfl) ?_
     refine zag (zae (T':=[(1,_),(4,_),(5,_),(14,_),(15,_),(16,_),(181,_)]) ⟨rfl,rfl,rfl,rfl,rfl,rfl,rfl,trivial⟩ ?_)
     refine zap rfl (fun hc181=>?_) (fun hc181=>?_)
     ·have hne:¬ zb6 S2 V2 n=0:=by simpa using hc181
      have hE6:zb6 S2 V2 n=6:=by by_cases h:0≤zaM V2 n <;> first | exact absurd (zpp hP2 h) hne | exact zkV hP2 h
      refine zac ?_
      refine zaa ?_
      refine gk_y rfl rfl (zaf rfl) ?_
      refine gk_y rfl rfl (zbQ (zbL rfl rfl) (by rw [hE6]; rfl)) ?_
      refine gk_y rfl rfl (zaf rfl) ?_
      refine zai rfl rfl rfl rfl (fun _=>?_) (fun h=>absurd h (by decide))
      refine gk_y rfl rfl (zaJ en13 rfl (fun w hw=>zkw w (Rd.has (Has.rd hmx) hw) (Rd.has (Has.rd hcp) hw) (Rd.has (Has.rd hop) hw))) ?_
      refine gk_y rfl rfl (za5 rfl rfl rfl) ?_
      refine gk_y rfl rfl (zad rfl) ?_
      refine zag (zae (T':=[(1,_),(4,_),(5,_),(14,_),(15,_)]) ⟨rfl,rfl,rfl,rfl,rfl,trivial⟩ ?_)
      refine zaw ?_
      refine zay (zaC rfl (zau rfl)) ?_
      rfl
     ·have hfe:zb6 S2 V2 n=0:=by simpa using hc181
      have hfe2:=zjR hfe
      obtain⟨_,_,hsp,hWF⟩:=zfu hfe
      have hwb:zd1 (zar S2 V2 n).s.height (zaN S2 V2 n).s=true:=by rw [zhF hfe,zhE hfe]; exact(zf8 hfe2.1 _ (zid hfe2.2)).2
      have hnm:=zaZ hsp
      have htop0:=hnm.height
      have hlen:=hWF.len
      have hck:zcX (zar S2 V2 n).s=0:=if_pos hsp
      have hcs:zfC (zar S2 V2 n).s=zaj (zar S2 V2 n).s:=if_pos hsp
      have hon:=hWF.num
      have hE0:∀ k:Int,0≤k→k < ((zfC (zar S2 V2 n).s).length:Int)→zhJ S2 V2 n k=0∧ziX S2 V2 n k=zbg (zaN S2 V2 n).s ((zfC (zar S2 V2 n).s).getD k.toNat default):=fun k h0 h1=>by rw [hcs] at h1 ⊢; exact zmT hfe (by omega)
      have hcf4:=zyp hsp
      rw [←hcs] at hcf4
      have hcl:((zfC (zar S2 V2 n).s).length:Int)≤100:=by rw [hcs]; have:=zcv hsp; omega
      have hci:∀ k:Int,0≤k→k < ((zfC (zar S2 V2 n).s).length:Int)→0≤((zfC (zar S2 V2 n).s).getD k.toNat default).frm∧((zfC (zar S2 V2 n).s).getD k.toNat default).frm < ((zfC (zar S2 V2 n).s).getD k.toNat default).to∧((zfC (zar S2 V2 n).s).getD k.toNat default).to≤(zar S2 V2 n).s.height:=fun k h0 h1=>by rw [hcs] at h1 ⊢; exact zpc hnm h0 h1
      have hap:=zyB (zaN S2 V2 n).s (zar S2 V2 n).s
      rw [←hcs] at hap
      have hale:=zyR hsp hwb
      have hlh:=zc7 (a:=(zaN S2 V2 n).s.length) (b:=(zar S2 V2 n).s.height) (x:=100000) (y:=3000) (by omega) (by omega) (by omega) (by omega)
      have hopa:∀ o∈(zaN S2 V2 n).s.opens,0≤opnA o:=fun o ho=>by have hfo:=hWF.fit o ho; have o2:=hfo.w; have o3:=hfo.h; exact Int.mul_nonneg (by omega) (by omega)
      have hos:=zyj hopa
      have hbay:∀ c∈(zfC (zar S2 V2 n).s),0≤sumB (bayA c) (zbg (zaN S2 V2 n).s c):=fun c hc=>by rw [zys]; have hx:=zlV (zhW hnm) c (by rw [←hcs]; exact hc); have hy:=(znP (show(0:Int)≤(zaN S2 V2 n).s.length by omega) (zdK hWF (zgu c))).1; exact Int.mul_nonneg (by omega) hy
      refine zaq ?_
      refine zac ?_
      refine zaa ?_
      refine gk_y rfl rfl (zat 0 tf41 rfl rfl (vs:=[_,_,_,_,_,_,_,_,_,_,_,_,_,_,_,_,_,_,_,_]) rfl rfl) ?_
      refine zaG rfl rfl (zbm en17 rfl (fun w hw=>zoM _ _ (zar S2 V2 n).s w (zam Go.Stn.encI_ok (hw.has (p:=3) rfl)) hsss)) fun p189=>?_
      refine gk_y rfl rfl (zaf rfl) ?_
      refine gk_y rfl rfl (zaB rfl rfl) ?_
      refine gk_y rfl rfl (zaB rfl rfl) ?_
      refine gk_y rfl rfl (zad rfl) ?_
      refine gk_y rfl rfl (zad rfl) ?_
      refine zag (zae (T':=[(1,_),(4,_),(5,_),(14,_),(15,_),(17,_),(18,_)]) ⟨rfl,rfl,rfl,rfl,rfl,rfl,rfl,trivial⟩ ?_)
      refine zac ?_
      refine zac ?_
      refine zaa ?_
      refine gk_y rfl rfl (zaf rfl) ?_
      refine gk_y rfl rfl (zdB (b':=false) (zcr rfl rfl) (by rw [hck]; rfl)) ?_
      refine zag (zae (T':=[(1,_),(4,_),(5,_),(14,_),(15,_),(17,_),(193,_)]) ⟨rfl,rfl,rfl,rfl,rfl,rfl,rfl,trivial⟩ ?_)
      refine zd8 rfl ?_
      refine zaq ?_
      refine zac ?_
      refine zaa ?_
      refine gk_y rfl rfl (zad rfl) ?_
      refine gk_y rfl rfl (zad rfl) ?_
      refine zag (zae (T':=[(1,_),(4,_),(5,_),(14,_),(15,_),(17,_),(19,_),(20,_)]) ⟨rfl,rfl,rfl,rfl,rfl,rfl,rfl,rfl,trivial⟩ ?_)
      refine zac ?_
      refine zac ?_
      refine zaa ?_
      refine gk_y rfl rfl (zad rfl) ?_
      refine zag (zae (T':=[(1,_),(4,_),(5,_),(14,_),(15,_),(17,_),(19,_),(20,_),(21,_)]) ⟨rfl,rfl,rfl,rfl,rfl,rfl,rfl,rfl,rfl,trivial⟩ ?_)
      refine zas ?_
      refine zbf (X:=Int×Int) (fun⟨k,ar⟩=>[(1,.string n),(4,.bool false),(5,.pointer (some ⟨b5,0,none⟩)),(14,.pointer (some ⟨b14,0,none⟩)),(15,.pointer (some ⟨b15,0,none⟩)),(17,.slice p189.1 (zfC ((zar S2 V2 n).s)).length p189.2),(19,.int .i64 ar),(20,.bool true),(21,.int .i64 k)]) (fun⟨k,ar⟩=>[Row p189.1 2 p189.2 49 zbq (zfC ((zar S2 V2 n).s)),Box b15 [.string (zar S2 V2 n).s.name,.int .i64 ((zar S2 V2 n).s.base),.int .i64 ((zar S2 V2 n).s.batter),.int .i64 ((zar S2 V2 n).s.height),.int .i64 ((zar S2 V2 n).s.skin),.slice p176.2.1 (zar S2 V2 n).s.heights.length p176.2.2,.int .i64 ((zar S2 V2 n).s.least),.int .i64 ((zar S2 V2 n).s.lap),.int .i64 ((zar S2 V2 n).s.run),.int .i64 ((zar S2 V2 n).s.every),.int .i64 ((zar S2 V2 n).s.at_),.int .i64 ((zar S2 V2 n).s.footing),.int .i64 ((zar S2 V2 n).s.spread),.int .u8 (zar S2 V2 n).s.cope,.int .i64 ((zar S2 V2 n).s.tall),.int .i64 ((zar S2 V2 n).s.short),.int .i64 ((zar S2 V2 n).s.thick),.int .i64 ((zar S2 V2 n).s.low),.int .i64 ((zar S2 V2 n).s.high),.int .i64 ((zar S2 V2 n).s.rood)] 41,Box b14 [.string (zaN S2 V2 n).s.name,.string (zaN S2 V2 n).s.sheet,.int .i64 ((zaN S2 V2 n).s.length),.slice p176.1.1 (zaN S2 V2 n).s.opens.length p176.1.2] 94,Row p176.1.1 5 p176.1.2 98 zba (zaN S2 V2 n).s.opens,Row p176.2.1 1 p176.2.2 3 Go.Stn.encI (zar S2 V2 n).s.heights,Row ra 20 rc 41 zbH S2,Go.K.Rows (rowH 3) S2,Row rb 4 rd 94 zbS V2,Go.K.Rows (rowO 98) V2,Box b5 [.slice ra S2.length rc,.slice rb V2.length rd] 31,Box b2 [.slice a S.length cap,.slice b V.length bcap] 25]) (fun⟨k,ar⟩=>(0≤k∧k≤(zfC (zar S2 V2 n).s).length∧0≤ar∧ar+sumB (fun c=>sumB (bayA c) (zbg (zaN S2 V2 n).s c)) ((zfC (zar S2 V2 n).s).drop k.toNat)=(sumB (fun c=>sumB (bayA c) (zbg (zaN S2 V2 n).s c)) (zfC (zar S2 V2 n).s)))) (fun⟨k,ar⟩=>((zfC (zar S2 V2 n).s).length - k).toNat) (0,0) ⟨rfl,rfl,rfl,rfl,rfl,rfl,rfl,rfl,rfl,trivial⟩ rfl ?_ ?_
      ·exact⟨by omega,by omega,by omega,Int.zero_add _⟩
      ·rintro ⟨k,ar⟩ hI
       obtain⟨g0,g1,g2,g3⟩:=hI
       refine zac ?_
       refine zac ?_
       refine zaa ?_
       refine gk_y rfl rfl (zaf rfl) ?_
       refine gk_y rfl rfl (zaf rfl) ?_
       refine gk_y rfl rfl (zaV (Tryz.underlying38) rfl) ?_
       refine gk_y rfl rfl (zbw rfl rfl) ?_
       refine zag (zae (T':=[(1,_),(4,_),(5,_),(14,_),(15,_),(17,_),(19,_),(20,_),(21,_),(197,_)]) ⟨rfl,rfl,rfl,rfl,rfl,rfl,rfl,rfl,rfl,rfl,trivial⟩ ?_)
       refine zap rfl (fun hc197=>?_) (fun hc197=>?_)
       ·have hc197:=of_decide_eq_true hc197
        obtain⟨eb1,eb2⟩:=hE0 k g0 hc197
        obtain⟨z1,z2,z3⟩:=hci k g0 hc197
        have hdr:=zdt (f:=(fun c=>sumB (bayA c) (zbg (zaN S2 V2 n).s c))) g0 hc197
        have hdn:0≤sumB (fun c=>sumB (bayA c) (zbg (zaN S2 V2 n).s c)) ((zfC (zar S2 V2 n).s).drop (k+1).toNat):=zeM fun c hc=>hbay c (zhy hc)
        have hbn:((ziX S2 V2 n k).length:Int)≤100000:=by rw [eb2]; exact zek hWF _
        have hbt:=fun(m:Int) h0 h1=>zyS hWF (c:=((zfC (zar S2 V2 n).s).getD k.toNat default)) (i:=m) h0 h1
        rw [←eb2] at hbt
        have hfk:0≤(sumB (bayA ((zfC (zar S2 V2 n).s).getD k.toNat default)) (zbg (zaN S2 V2 n).s ((zfC (zar S2 V2 n).s).getD k.toNat default))):=hbay _ (za0 (by omega))
        refine zaq ?_
        refine zac ?_
        refine zas ?_
        refine zac ?_
        refine zaa ?_
        refine gk_y rfl rfl (zat 9 tf31 rfl rfl (vs:=[_,_]) rfl rfl) ?_
        refine gk_y rfl rfl (zaf rfl) ?_
        refine gk_y rfl rfl (zaf rfl) ?_
        refine zaG rfl rfl (zbm en26 rfl (fun w hw=>zu1 _ _ S2 _ _ V2 n k w (zam zbI (hw.has (p:=5) rfl)) y1 (zcM (hw.has (p:=5) rfl)) (zam zbo (hw.has (p:=7) rfl)) y2 (fun z hz2=>zam Go.Stn.encI_ok (zbV (f:=rowH 3) (hw.has (p:=6) rfl) hz2)) y3 (fun z hz2=>zam encOpn_ok (zbV (f:=rowO 98) (hw.has (p:=8) rfl) hz2)) y4 (fun z hz2=>zcM (zbV (f:=rowO 98) (hw.has (p:=8) rfl) hz2)) ykn)) fun p204=>?_
        refine gk_y rfl rfl (zaf rfl) ?_
        refine gk_y rfl rfl (zaB rfl rfl) ?_
        refine gk_y rfl rfl (zaB rfl rfl) ?_
        refine gk_y rfl rfl (zad rfl) ?_
        refine gk_y rfl rfl (zad rfl) ?_
        refine zag (zae (T':=[(1,_),(4,_),(5,_),(14,_),(15,_),(17,_),(19,_),(20,_),(21,_),(22,_),(23,_)]) ⟨rfl,rfl,rfl,rfl,rfl,rfl,rfl,rfl,rfl,rfl,rfl,trivial⟩ ?_)
        refine zac ?_
        refine zac ?_
        refine zaa ?_
        refine gk_y rfl rfl (zaf rfl) ?_
        refine gk_y rfl rfl (zdB (b':=false) (zcr rfl rfl) (by rw [eb1]; rfl)) ?_
        refine zag (zae (T':=[(1,_),(4,_),(5,_),(14,_),(15,_),(17,_),(19,_),(20,_),(21,_),(22,_),(208,_)]) ⟨rfl,rfl,rfl,rfl,rfl,rfl,rfl,rfl,rfl,rfl,rfl,trivial⟩ ?_)
        refine zd8 rfl ?_
        refine zaq ?_
        refine zac ?_
        refine zaa ?_
        refine gk_y rfl rfl (zad rfl) ?_
        refine zag (zae (T':=[(1,_),(4,_),(5,_),(14,_),(15,_),(17,_),(19,_),(20,_),(21,_),(22,_),(24,_)]) ⟨rfl,rfl,rfl,rfl,rfl,rfl,rfl,rfl,rfl,rfl,rfl,trivial⟩ ?_)
        refine zac ?_
        refine zac ?_
        refine zaa ?_
        refine gk_y rfl rfl (zad rfl) ?_
        refine zag (zae (T':=[(1,_),(4,_),(5,_),(14,_),(15,_),(17,_),(19,_),(20,_),(21,_),(22,_),(24,_),(25,_)]) ⟨rfl,rfl,rfl,rfl,rfl,rfl,rfl,rfl,rfl,rfl,rfl,rfl,trivial⟩ ?_)
        refine zas ?_
        refine zbf (X:=Int×Bool) (fun⟨j,re⟩=>[(1,.string n),(4,.bool false),(5,.pointer (some ⟨b5,0,none⟩)),(14,.pointer (some ⟨b14,0,none⟩)),(15,.pointer (some ⟨b15,0,none⟩)),(17,.slice p189.1 (zfC ((zar S2 V2 n).s)).length p189.2),(19,.int .i64 ar),(20,.bool true),(21,.int .i64 k),(22,.slice p204.1 (ziX S2 V2 n k).length p204.2),(24,.bool re),(25,.int .i64 j)]) (fun⟨j,re⟩=>[Row p204.1 2 p204.2 69 zbq (ziX S2 V2 n k),Row p189.1 2 p189.2 49 zbq (zfC ((zar S2 V2 n).s)),Box b15 [.string (zar S2 V2 n).s.name,.int .i64 ((zar S2 V2 n).s.base),.int .i64 ((zar S2 V2 n).s.batter),.int .i64 ((zar S2 V2 n).s.height),.int .i64 ((zar S2 V2 n).s.skin),.slice p176.2.1 (zar S2 V2 n).s.heights.length p176.2.2,.int .i64 ((zar S2 V2 n).s.least),.int .i64 ((zar S2 V2 n).s.lap),.int .i64 ((zar S2 V2 n).s.run),.int .i64 ((zar S2 V2 n).s.every),.int .i64 ((zar S2 V2 n).s.at_),.int .i64 ((zar S2 V2 n).s.footing),.int .i64 ((zar S2 V2 n).s.spread),.int .u8 (zar S2 V2 n).s.cope,.int .i64 ((zar S2 V2 n).s.tall),.int .i64 ((zar S2 V2 n).s.short),.int .i64 ((zar S2 V2 n).s.thick),.int .i64 ((zar S2 V2 n).s.low),.int .i64 ((zar S2 V2 n).s.high),.int .i64 ((zar S2 V2 n).s.rood)] 41,Box b14 [.string (zaN S2 V2 n).s.name,.string (zaN S2 V2 n).s.sheet,.int .i64 ((zaN S2 V2 n).s.length),.slice p176.1.1 (zaN S2 V2 n).s.opens.length p176.1.2] 94,Row p176.1.1 5 p176.1.2 98 zba (zaN S2 V2 n).s.opens,Row p176.2.1 1 p176.2.2 3 Go.Stn.encI (zar S2 V2 n).s.heights,Row ra 20 rc 41 zbH S2,Go.K.Rows (rowH 3) S2,Row rb 4 rd 94 zbS V2,Go.K.Rows (rowO 98) V2,Box b5 [.slice ra S2.length rc,.slice rb V2.length rd] 31,Box b2 [.slice a S.length cap,.slice b V.length bcap] 25]) (fun⟨j,re⟩=>(0≤j∧j≤(zaN S2 V2 n).s.opens.length∧re=((zaN S2 V2 n).s.opens.take j.toNat).any (zgu ((zfC (zar S2 V2 n).s).getD k.toNat default)))) (fun⟨j,re⟩=>((zaN S2 V2 n).s.opens.length - j).toNat) (0,false) ⟨rfl,rfl,rfl,rfl,rfl,rfl,rfl,rfl,rfl,rfl,rfl,rfl,trivial⟩ rfl ?_ ?_
        ·exact⟨by omega,by omega,rfl⟩
        ·rintro ⟨j,re⟩ hI
         obtain⟨j0,j1,j2⟩:=hI
         refine zac ?_
         refine zac ?_
         refine zaa ?_
         refine gk_y rfl rfl (zaf rfl) ?_
         refine gk_y rfl rfl (zab zhe rfl) ?_
         refine gk_y rfl rfl (zah 3 tf92 rfl rfl rfl) ?_
         refine gk_y rfl rfl (zaV (Tryz.underlying92) rfl) ?_
         refine gk_y rfl rfl (zbw rfl rfl) ?_
         refine zag (zae (T':=[(1,_),(4,_),(5,_),(14,_),(15,_),(17,_),(19,_),(20,_),(21,_),(22,_),(24,_),(25,_),(213,_)]) ⟨rfl,rfl,rfl,rfl,rfl,rfl,rfl,rfl,rfl,rfl,rfl,rfl,rfl,trivial⟩ ?_)
         refine zap rfl (fun hc213=>?_) (fun hc213=>?_)
         ·have hc213:=of_decide_eq_true hc213
          have hfo:=hWF.fit ((zaN S2 V2 n).s.opens.getD j.toNat default) (za0 (by omega))
          have o1:=hfo.a; have o2:=hfo.w; have o3:=hfo.h; have o4:=hfo.f
          have han:=zyN (p:=zgu ((zfC (zar S2 V2 n).s).getD k.toNat default)) j0 hc213
          cases re
          ·
           refine zaq ?_
           refine zac ?_
           refine zas ?_
           refine zac ?_
           refine zaa ?_
           refine gk_y rfl rfl (zab zhe rfl) ?_
           refine gk_y rfl rfl (zah 3 tf92 rfl rfl rfl) ?_
           refine gk_y rfl rfl (zaf rfl) ?_
           refine gk_y rfl rfl (zaE se92 rfl rfl (fun _ hw=>(zam encOpn_ok (hw.has (p:=4) rfl))) (by omega) (by omega)) ?_
           refine gk_y rfl rfl (zbv (vs:=[_,_,_,_,_]) tf98 rfl (fun _ hw=>(zam encOpn_ok (hw.has (p:=4) rfl))) (by omega) (by omega) rfl) ?_
           refine zaG rfl rfl (zaL tf98 (zs:=[_,_,_,_,_]) rfl) fun b26=>?_
           refine zaA 0 tf98 rfl rfl (vs:=[_,_,_,_,_]) rfl rfl rfl rfl rfl ?_
           refine zag (zae (T':=[(1,_),(4,_),(5,_),(14,_),(15,_),(17,_),(19,_),(20,_),(21,_),(22,_),(24,_),(25,_),(26,_)]) ⟨rfl,rfl,rfl,rfl,rfl,rfl,rfl,rfl,rfl,rfl,rfl,rfl,rfl,trivial⟩ ?_)
           refine zbb 25 (fun _=>mixed) (by kernel_rfl) ?_
           refine ph_y (zaf rfl) ?_
           refine ph_y (zaf rfl) ?_
           refine ziw rfl rfl (zab zfe rfl) ?_
           refine ziw rfl rfl (zah 0 tf3 rfl rfl rfl) ?_
           refine ziw rfl rfl (zaf rfl) ?_
           refine ziw rfl rfl (zaf rfl) ?_
           refine ziw rfl rfl (zaE se38 rfl rfl (fun _ hw=>(zam zax (hw.has (p:=2) rfl))) (by omega) (by omega)) ?_
           refine ziw rfl rfl (zbh zpx rfl (fun w hw=>zaO (i:=k) (zam zax (hw.has (p:=2) rfl)) (by omega) (by omega))) ?_
           refine ziw rfl rfl (zbn tf3 rfl (fun _ hw=>(zam zax (hw.has (p:=2) rfl))) (by omega) (by omega) rfl) ?_
           refine ziw rfl rfl (zbw rfl rfl) ?_
           refine ziw rfl rfl (zaf rfl) ?_
           refine zaH rfl rfl (fun hgd=>by(try rw [hgd]); exact(zab zfe rfl)) ?_
           refine zaH rfl rfl (fun hgd=>by(try rw [hgd]); exact(zah 0 tf3 rfl rfl rfl)) ?_
           refine zaH rfl rfl (fun hgd=>by(try rw [hgd]); exact(zab zhg rfl)) ?_
           refine zaH rfl rfl (fun hgd=>by(try rw [hgd]); exact(zah 0 tf3 rfl rfl rfl)) ?_
           refine zaH rfl rfl (fun hgd=>by(try rw [hgd]); exact(zaY rfl rfl (by omega) (by omega))) ?_
           refine zaH rfl rfl (fun hgd=>by(try rw [hgd]); exact(zaf rfl)) ?_
           refine zaH rfl rfl (fun hgd=>by(try rw [hgd]); exact(zaf rfl)) ?_
           refine zaH rfl rfl (fun hgd=>by(try rw [hgd]); exact(zaE se38 rfl rfl (fun _ hw=>(zam zax (hw.has (p:=2) rfl))) (by omega) (by omega))) ?_
           refine zaH rfl rfl (fun hgd=>by(try rw [hgd]); exact(zbh zne rfl (fun w hw=>zaO (i:=k) (zam zax (hw.has (p:=2) rfl)) (by omega) (by omega)))) ?_
           refine zaH rfl rfl (fun hgd=>by(try rw [hgd]); exact(zbn tf3 rfl (fun _ hw=>(zam zax (hw.has (p:=2) rfl))) (by omega) (by omega) rfl)) ?_
           refine zaH rfl rfl (fun hgd=>by(try rw [hgd]); exact(zc6 rfl rfl)) ?_
           refine ziw rfl rfl (zaX rfl rfl rfl) ?_
           refine ph_y (zaR rfl rfl rfl) ?_
           refine ph_y (zad rfl) ?_
           refine zag (zae (T':=[(1,_),(4,_),(5,_),(14,_),(15,_),(17,_),(19,_),(20,_),(21,_),(22,_),(24,_),(25,_)]) ⟨rfl,rfl,rfl,rfl,rfl,rfl,rfl,rfl,rfl,rfl,rfl,rfl,trivial⟩ ?_)
           refine zaa ?_
           refine gk_y rfl rfl (zaf rfl) ?_
           refine gk_y rfl rfl (zaY rfl rfl (by omega) (by omega)) ?_
           refine gk_y rfl rfl (zad rfl) ?_
           refine zag (zae (T':=[(1,_),(4,_),(5,_),(14,_),(15,_),(17,_),(19,_),(20,_),(21,_),(22,_),(24,_),(25,_)]) ⟨rfl,rfl,rfl,rfl,rfl,rfl,rfl,rfl,rfl,rfl,rfl,rfl,trivial⟩ ?_)
           refine zaK 0 rfl ?_
           exact za1 (j+1,_) ⟨rfl,rfl,rfl,rfl,rfl,rfl,rfl,rfl,rfl,rfl,rfl,rfl,trivial⟩ rfl ⟨by omega,by omega,by rw [han,←j2]; rfl⟩ (by simp only []; omega)
          ·
           refine zaq ?_
           refine zac ?_
           refine zas ?_
           refine zac ?_
           refine zaa ?_
           refine gk_y rfl rfl (zab zhe rfl) ?_
           refine gk_y rfl rfl (zah 3 tf92 rfl rfl rfl) ?_
           refine gk_y rfl rfl (zaf rfl) ?_
           refine gk_y rfl rfl (zaE se92 rfl rfl (fun _ hw=>(zam encOpn_ok (hw.has (p:=4) rfl))) (by omega) (by omega)) ?_
           refine gk_y rfl rfl (zbv (vs:=[_,_,_,_,_]) tf98 rfl (fun _ hw=>(zam encOpn_ok (hw.has (p:=4) rfl))) (by omega) (by omega) rfl) ?_
           refine zaG rfl rfl (zaL tf98 (zs:=[_,_,_,_,_]) rfl) fun b26=>?_
           refine zaA 0 tf98 rfl rfl (vs:=[_,_,_,_,_]) rfl rfl rfl rfl rfl ?_
           refine zag (zae (T':=[(1,_),(4,_),(5,_),(14,_),(15,_),(17,_),(19,_),(20,_),(21,_),(22,_),(24,_),(25,_),(26,_)]) ⟨rfl,rfl,rfl,rfl,rfl,rfl,rfl,rfl,rfl,rfl,rfl,rfl,rfl,trivial⟩ ?_)
           refine zbb 25 (fun _=>mixed) (by kernel_rfl) ?_
           refine ph_y (zaf rfl) ?_
           refine ph_y (zaf rfl) ?_
           refine zaz (v:=.bool false) rfl rfl (fun hgd=>absurd hgd (by decide)) ?_
           refine zaz (v:=.bool false) rfl rfl (fun hgd=>absurd hgd (by decide)) ?_
           refine zaz (v:=.bool false) rfl rfl (fun hgd=>absurd hgd (by decide)) ?_
           refine zaz (v:=.bool false) rfl rfl (fun hgd=>absurd hgd (by decide)) ?_
           refine zaz (v:=.bool false) rfl rfl (fun hgd=>absurd hgd (by decide)) ?_
           refine zaz (v:=.bool false) rfl rfl (fun hgd=>absurd hgd (by decide)) ?_
           refine zaz (v:=.bool false) rfl rfl (fun hgd=>absurd hgd (by decide)) ?_
           refine zaz (v:=.bool (decide (((zaN S2 V2 n).s.opens.getD (j).toNat default).frm < ((zfC ((zar S2 V2 n).s)).getD (k).toNat default).to))) rfl rfl (fun hgd=>absurd hgd (by decide)) ?_
           refine zaz (v:=.bool (decide (((zaN S2 V2 n).s.opens.getD (j).toNat default).frm < ((zfC ((zar S2 V2 n).s)).getD (k).toNat default).to))) rfl rfl (fun hgd=>absurd hgd (by decide)) ?_
           refine zdr (v:=.bool false) rfl rfl (fun hgd=>absurd hgd (by simp)) ?_
           refine zdr (v:=.bool false) rfl rfl (fun hgd=>absurd hgd (by simp)) ?_
           refine zdr (v:=.bool false) rfl rfl (fun hgd=>absurd hgd (by simp)) ?_
           refine zdr (v:=.bool false) rfl rfl (fun hgd=>absurd hgd (by simp)) ?_
           refine zdr (v:=.bool false) rfl rfl (fun hgd=>absurd hgd (by simp)) ?_
           refine zdr (v:=.bool false) rfl rfl (fun hgd=>absurd hgd (by simp)) ?_
           refine zdr (v:=.bool false) rfl rfl (fun hgd=>absurd hgd (by simp)) ?_
           refine zdr (v:=.bool false) rfl rfl (fun hgd=>absurd hgd (by simp)) ?_
           refine zdr (v:=.bool false) rfl rfl (fun hgd=>absurd hgd (by simp)) ?_
           refine zdr (v:=.bool false) rfl rfl (fun hgd=>absurd hgd (by simp)) ?_
           refine zdr (v:=.bool (decide (((zfC ((zar S2 V2 n).s)).getD (k).toNat default).frm < (((zaN S2 V2 n).s.opens.getD (j).toNat default).frm+((zaN S2 V2 n).s.opens.getD (j).toNat default).high)))) rfl rfl (fun hgd=>absurd hgd (by simp)) ?_
           refine zaz (v:=.bool ((decide (((zaN S2 V2 n).s.opens.getD (j).toNat default).frm < ((zfC ((zar S2 V2 n).s)).getD (k).toNat default).to))&&(decide (((zfC ((zar S2 V2 n).s)).getD (k).toNat default).frm < (((zaN S2 V2 n).s.opens.getD (j).toNat default).frm+((zaN S2 V2 n).s.opens.getD (j).toNat default).high))))) rfl rfl (fun hgd=>absurd hgd (by decide)) ?_
           refine ph_y (za5 rfl rfl rfl) ?_
           refine ph_y (zad rfl) ?_
           refine zag (zae (T':=[(1,_),(4,_),(5,_),(14,_),(15,_),(17,_),(19,_),(20,_),(21,_),(22,_),(24,_),(25,_)]) ⟨rfl,rfl,rfl,rfl,rfl,rfl,rfl,rfl,rfl,rfl,rfl,rfl,trivial⟩ ?_)
           refine zaa ?_
           refine gk_y rfl rfl (zaf rfl) ?_
           refine gk_y rfl rfl (zaY rfl rfl (by omega) (by omega)) ?_
           refine gk_y rfl rfl (zad rfl) ?_
           refine zag (zae (T':=[(1,_),(4,_),(5,_),(14,_),(15,_),(17,_),(19,_),(20,_),(21,_),(22,_),(24,_),(25,_)]) ⟨rfl,rfl,rfl,rfl,rfl,rfl,rfl,rfl,rfl,rfl,rfl,rfl,trivial⟩ ?_)
           refine zaK 0 rfl ?_
           exact za1 (j+1,_) ⟨rfl,rfl,rfl,rfl,rfl,rfl,rfl,rfl,rfl,rfl,rfl,rfl,trivial⟩ rfl ⟨by omega,by omega,by rw [han,←j2]; rfl⟩ (by simp only []; omega)
         ·have hc213:=of_decide_eq_false hc213
          rw [zyM hc213] at j2
          cases re
          ·
           have hb1:(ziX S2 V2 n k)=[⟨0,(zaN S2 V2 n).s.length⟩]:=by rw [eb2]; exact zyC hWF j2.symm
           have hb1l:(ziX S2 V2 n k).length=1:=by rw [hb1]; rfl
           refine za8 rfl ?_
           refine zac ?_
           refine zac ?_
           refine zbb 16 (fun _=>mixed) (by kernel_rfl) ?_
           refine ph_y (zaf rfl) ?_
           refine ph_y (zbQ (zbR rfl) (by rfl)) ?_
           refine ph_y (zaf rfl) ?_
           refine ziw rfl rfl (zaf rfl) ?_
           refine ziw rfl rfl (zaV (Tryz.underlying59) rfl) ?_
           refine ziw rfl rfl (zdB (b':=false) (zcr rfl rfl) (by rw [hb1]; rfl)) ?_
           refine ziw rfl rfl (zaf rfl) ?_
           refine ziw rfl rfl (zaf rfl) ?_
           refine ziw rfl rfl (zaE se59 rfl rfl (fun _ hw=>(zam zax (hw.has (p:=0) rfl))) (by omega) (by omega)) ?_
           refine ziw rfl rfl (zbv (vs:=[_,_]) tf69 rfl (fun _ hw=>(zam zax (hw.has (p:=0) rfl))) (by omega) (by omega) rfl) ?_
           refine ziw rfl rfl (zab zgo rfl) ?_
           refine ziw rfl rfl (zah 3 tf3 rfl rfl rfl) ?_
           refine ziw rfl rfl (zaI rfl (zi7 _ _)) ?_
           refine ziw rfl rfl (zdB (b':=false) (zyT rfl rfl) (by rw [hb1]; simp)) ?_
           refine ziw rfl rfl (zaR rfl rfl rfl) ?_
           refine ph_y (za5 rfl rfl rfl) ?_
           refine zag (zae (T':=[(1,_),(4,_),(5,_),(14,_),(15,_),(17,_),(19,_),(20,_),(21,_),(22,_),(260,_)]) ⟨rfl,rfl,rfl,rfl,rfl,rfl,rfl,rfl,rfl,rfl,rfl,trivial⟩ ?_)
           refine zd8 rfl ?_
           refine zaq ?_
           refine zac ?_
           refine zaa ?_
           refine gk_y rfl rfl (zad rfl) ?_
           refine zag (zae (T':=[(1,_),(4,_),(5,_),(14,_),(15,_),(17,_),(19,_),(20,_),(21,_),(22,_),(27,_)]) ⟨rfl,rfl,rfl,rfl,rfl,rfl,rfl,rfl,rfl,rfl,rfl,trivial⟩ ?_)
           refine zas ?_
           refine zbf (X:=Int×Int) (fun⟨m,ar2⟩=>[(1,.string n),(4,.bool false),(5,.pointer (some ⟨b5,0,none⟩)),(14,.pointer (some ⟨b14,0,none⟩)),(15,.pointer (some ⟨b15,0,none⟩)),(17,.slice p189.1 (zfC ((zar S2 V2 n).s)).length p189.2),(19,.int .i64 ar2),(20,.bool true),(21,.int .i64 k),(22,.slice p204.1 (ziX S2 V2 n k).length p204.2),(27,.int .i64 m)]) (fun⟨m,ar2⟩=>[Row p204.1 2 p204.2 69 zbq (ziX S2 V2 n k),Row p189.1 2 p189.2 49 zbq (zfC ((zar S2 V2 n).s)),Box b15 [.string (zar S2 V2 n).s.name,.int .i64 ((zar S2 V2 n).s.base),.int .i64 ((zar S2 V2 n).s.batter),.int .i64 ((zar S2 V2 n).s.height),.int .i64 ((zar S2 V2 n).s.skin),.slice p176.2.1 (zar S2 V2 n).s.heights.length p176.2.2,.int .i64 ((zar S2 V2 n).s.least),.int .i64 ((zar S2 V2 n).s.lap),.int .i64 ((zar S2 V2 n).s.run),.int .i64 ((zar S2 V2 n).s.every),.int .i64 ((zar S2 V2 n).s.at_),.int .i64 ((zar S2 V2 n).s.footing),.int .i64 ((zar S2 V2 n).s.spread),.int .u8 (zar S2 V2 n).s.cope,.int .i64 ((zar S2 V2 n).s.tall),.int .i64 ((zar S2 V2 n).s.short),.int .i64 ((zar S2 V2 n).s.thick),.int .i64 ((zar S2 V2 n).s.low),.int .i64 ((zar S2 V2 n).s.high),.int .i64 ((zar S2 V2 n).s.rood)] 41,Box b14 [.string (zaN S2 V2 n).s.name,.string (zaN S2 V2 n).s.sheet,.int .i64 ((zaN S2 V2 n).s.length),.slice p176.1.1 (zaN S2 V2 n).s.opens.length p176.1.2] 94,Row p176.1.1 5 p176.1.2 98 zba (zaN S2 V2 n).s.opens,Row p176.2.1 1 p176.2.2 3 Go.Stn.encI (zar S2 V2 n).s.heights,Row ra 20 rc 41 zbH S2,Go.K.Rows (rowH 3) S2,Row rb 4 rd 94 zbS V2,Go.K.Rows (rowO 98) V2,Box b5 [.slice ra S2.length rc,.slice rb V2.length rd] 31,Box b2 [.slice a S.length cap,.slice b V.length bcap] 25]) (fun⟨m,ar2⟩=>(0≤m∧m≤(ziX S2 V2 n k).length∧0≤ar2∧ar2+sumB (bayA ((zfC (zar S2 V2 n).s).getD k.toNat default)) ((ziX S2 V2 n k).drop m.toNat)=ar+(sumB (bayA ((zfC (zar S2 V2 n).s).getD k.toNat default)) (zbg (zaN S2 V2 n).s ((zfC (zar S2 V2 n).s).getD k.toNat default))))) (fun⟨m,ar2⟩=>((ziX S2 V2 n k).length - m).toNat) (0,ar) ⟨rfl,rfl,rfl,rfl,rfl,rfl,rfl,rfl,rfl,rfl,rfl,trivial⟩ rfl ?_ ?_
           ·exact⟨by omega,by omega,g2,by rw [eb2]; rfl⟩
           ·rintro ⟨m,ar2⟩ hI
            obtain⟨m0,m1,m2,m3⟩:=hI
            refine zac ?_
            refine zac ?_
            refine zaa ?_
            refine gk_y rfl rfl (zaf rfl) ?_
            refine gk_y rfl rfl (zaf rfl) ?_
            refine gk_y rfl rfl (zaV (Tryz.underlying59) rfl) ?_
            refine gk_y rfl rfl (zbw rfl rfl) ?_
            refine zag (zae (T':=[(1,_),(4,_),(5,_),(14,_),(15,_),(17,_),(19,_),(20,_),(21,_),(22,_),(27,_),(264,_)]) ⟨rfl,rfl,rfl,rfl,rfl,rfl,rfl,rfl,rfl,rfl,rfl,rfl,trivial⟩ ?_)
            refine zap rfl (fun hc264=>?_) (fun hc264=>?_)
            ·have hc264:=of_decide_eq_true hc264
             obtain⟨⟨q1,q2,q3⟩,q4⟩:=hbt m m0 hc264
             have hbd:=zdt (f:=bayA ((zfC (zar S2 V2 n).s).getD k.toNat default)) m0 hc264
             have hmu:=zc7 (a:=((ziX S2 V2 n k).getD m.toNat default).to - ((ziX S2 V2 n k).getD m.toNat default).frm) (b:=((zfC (zar S2 V2 n).s).getD k.toNat default).to - ((zfC (zar S2 V2 n).s).getD k.toNat default).frm) (x:=100000) (y:=3000) (by omega) (by omega) (by omega) (by omega)
             have hmb:0≤bayA ((zfC (zar S2 V2 n).s).getD k.toNat default) ((ziX S2 V2 n k).getD m.toNat default):=hmu.1
             have hmr:0≤sumB (bayA ((zfC (zar S2 V2 n).s).getD k.toNat default)) ((ziX S2 V2 n k).drop (m+1).toNat):=zeM fun c hc=>by have:=hbt; rw [eb2] at hc; have hx:=zeK (zdK hWF (zgu ((zfC (zar S2 V2 n).s).getD k.toNat default))) c (zhy hc); exact Int.mul_nonneg (by omega) (by omega)
             rcases Int.lt_or_le 0 m with hm0 | hm0
             ·
              have q5:=q4 hm0
              refine zaq ?_
              refine zac ?_
              refine zas ?_
              refine zac ?_
              refine zac ?_
              refine zbb 29 (fun _=>mixed) (by kernel_rfl) ?_
              refine ph_y (zaf rfl) ?_
              refine ph_y (zaf rfl) ?_
              refine ph_y (zaE se59 rfl rfl (fun _ hw=>(zam zax (hw.has (p:=0) rfl))) (by omega) (by omega)) ?_
              refine ph_y (zbh zng rfl (fun w hw=>zaO (i:=m) (zam zax (hw.has (p:=0) rfl)) (by omega) (by omega))) ?_
              refine ph_y (zbn tf3 rfl (fun _ hw=>(zam zax (hw.has (p:=0) rfl))) (by omega) (by omega) rfl) ?_
              refine ph_y (zaf rfl) ?_
              refine ph_y (zaf rfl) ?_
              refine ph_y (zaE se59 rfl rfl (fun _ hw=>(zam zax (hw.has (p:=0) rfl))) (by omega) (by omega)) ?_
              refine ph_y (zbh zpz rfl (fun w hw=>zaO (i:=m) (zam zax (hw.has (p:=0) rfl)) (by omega) (by omega))) ?_
              refine ph_y (zbn tf3 rfl (fun _ hw=>(zam zax (hw.has (p:=0) rfl))) (by omega) (by omega) rfl) ?_
              refine ph_y (zdB (b':=false) (zeT rfl rfl) (by exact decide_eq_false (by omega))) ?_
              refine ph_y (zaf rfl) ?_
              refine ziw rfl rfl (zaf rfl) ?_
              refine ziw rfl rfl (zbQ (zc6 rfl rfl) (by exact decide_eq_true hm0)) ?_
              refine ziw rfl rfl (zaf rfl) ?_
              refine ziw rfl rfl (zaf rfl) ?_
              refine ziw rfl rfl (zaf rfl) ?_
              refine ziw rfl rfl (zaE se59 rfl rfl (fun _ hw=>(zam zax (hw.has (p:=0) rfl))) (by omega) (by omega)) ?_
              refine ziw rfl rfl (zbh zpz rfl (fun w hw=>zaO (i:=m) (zam zax (hw.has (p:=0) rfl)) (by omega) (by omega))) ?_
              refine ziw rfl rfl (zbn tf3 rfl (fun _ hw=>(zam zax (hw.has (p:=0) rfl))) (by omega) (by omega) rfl) ?_
              refine ziw rfl rfl (zaf rfl) ?_
              refine ziw rfl rfl (zaf rfl) ?_
              refine ziw rfl rfl (zfV rfl rfl (by omega) (by omega)) ?_
              refine ziw rfl rfl (zaE se59 rfl rfl (fun _ hw=>(zam zax (hw.has (p:=0) rfl))) (by omega) (by omega)) ?_
              refine ziw rfl rfl (zbh zng rfl (fun w hw=>zaO (i:=(m - 1)) (zam zax (hw.has (p:=0) rfl)) (by omega) (by omega))) ?_
              refine ziw rfl rfl (zbn tf3 rfl (fun _ hw=>(zam zax (hw.has (p:=0) rfl))) (by omega) (by omega) rfl) ?_
              refine ziw rfl rfl (zdB (b':=false) (zeT rfl rfl) (by exact decide_eq_false (by omega))) ?_
              refine ziw rfl rfl (za5 rfl rfl rfl) ?_
              refine ph_y (zaR rfl rfl rfl) ?_
              refine zag (zae (T':=[(1,_),(4,_),(5,_),(14,_),(15,_),(17,_),(19,_),(20,_),(21,_),(22,_),(27,_),(295,_)]) ⟨rfl,rfl,rfl,rfl,rfl,rfl,rfl,rfl,rfl,rfl,rfl,rfl,trivial⟩ ?_)
              refine zd8 rfl ?_
              refine zaq ?_
              refine zbb 26 (fun _=>mixed) (by kernel_rfl) ?_
              refine ph_y (zaf rfl) ?_
              refine ph_y (zaf rfl) ?_
              refine ph_y (zaf rfl) ?_
              refine ph_y (zaE se59 rfl rfl (fun _ hw=>(zam zax (hw.has (p:=0) rfl))) (by omega) (by omega)) ?_
              refine ph_y (zbh zng rfl (fun w hw=>zaO (i:=m) (zam zax (hw.has (p:=0) rfl)) (by omega) (by omega))) ?_
              refine ph_y (zbn tf3 rfl (fun _ hw=>(zam zax (hw.has (p:=0) rfl))) (by omega) (by omega) rfl) ?_
              refine ph_y (zaf rfl) ?_
              refine ph_y (zaf rfl) ?_
              refine ph_y (zaE se59 rfl rfl (fun _ hw=>(zam zax (hw.has (p:=0) rfl))) (by omega) (by omega)) ?_
              refine ph_y (zbh zpz rfl (fun w hw=>zaO (i:=m) (zam zax (hw.has (p:=0) rfl)) (by omega) (by omega))) ?_
              refine ph_y (zbn tf3 rfl (fun _ hw=>(zam zax (hw.has (p:=0) rfl))) (by omega) (by omega) rfl) ?_
              refine ph_y (zfV rfl rfl (by omega) (by omega)) ?_
              refine ph_y (zaf rfl) ?_
              refine ph_y (zaf rfl) ?_
              refine ph_y (zaE se38 rfl rfl (fun _ hw=>(zam zax (hw.has (p:=1) rfl))) (by omega) (by omega)) ?_
              refine ph_y (zbh zpx rfl (fun w hw=>zaO (i:=k) (zam zax (hw.has (p:=1) rfl)) (by omega) (by omega))) ?_
              refine ph_y (zbn tf3 rfl (fun _ hw=>(zam zax (hw.has (p:=1) rfl))) (by omega) (by omega) rfl) ?_
              refine ph_y (zaf rfl) ?_
              refine ph_y (zaf rfl) ?_
              refine ph_y (zaE se38 rfl rfl (fun _ hw=>(zam zax (hw.has (p:=1) rfl))) (by omega) (by omega)) ?_
              refine ph_y (zbh zne rfl (fun w hw=>zaO (i:=k) (zam zax (hw.has (p:=1) rfl)) (by omega) (by omega))) ?_
              refine ph_y (zbn tf3 rfl (fun _ hw=>(zam zax (hw.has (p:=1) rfl))) (by omega) (by omega) rfl) ?_
              refine ph_y (zfV rfl rfl (by omega) (by omega)) ?_
              refine ph_y (zq0 rfl rfl (by omega) (by omega)) ?_
              refine ph_y (zaY rfl rfl (by omega) (by omega)) ?_
              refine ph_y (zad rfl) ?_
              refine zag (zae (T':=[(1,_),(4,_),(5,_),(14,_),(15,_),(17,_),(19,_),(20,_),(21,_),(22,_),(27,_)]) ⟨rfl,rfl,rfl,rfl,rfl,rfl,rfl,rfl,rfl,rfl,rfl,trivial⟩ ?_)
              refine zaa ?_
              refine gk_y rfl rfl (zaf rfl) ?_
              refine gk_y rfl rfl (zaY rfl rfl (by omega) (by omega)) ?_
              refine gk_y rfl rfl (zad rfl) ?_
              refine zag (zae (T':=[(1,_),(4,_),(5,_),(14,_),(15,_),(17,_),(19,_),(20,_),(21,_),(22,_),(27,_)]) ⟨rfl,rfl,rfl,rfl,rfl,rfl,rfl,rfl,rfl,rfl,rfl,trivial⟩ ?_)
              exact za1 (m+1,ar2+bayA ((zfC (zar S2 V2 n).s).getD k.toNat default) ((ziX S2 V2 n k).getD m.toNat default)) ⟨rfl,rfl,rfl,rfl,rfl,rfl,rfl,rfl,rfl,rfl,rfl,trivial⟩ rfl ⟨by omega,by omega,by omega,by omega⟩ (by simp only []; omega)
             ·
              refine zaq ?_
              refine zac ?_
              refine zas ?_
              refine zac ?_
              refine zac ?_
              refine zbb 29 (fun _=>mixed) (by kernel_rfl) ?_
              refine ph_y (zaf rfl) ?_
              refine ph_y (zaf rfl) ?_
              refine ph_y (zaE se59 rfl rfl (fun _ hw=>(zam zax (hw.has (p:=0) rfl))) (by omega) (by omega)) ?_
              refine ph_y (zbh zng rfl (fun w hw=>zaO (i:=m) (zam zax (hw.has (p:=0) rfl)) (by omega) (by omega))) ?_
              refine ph_y (zbn tf3 rfl (fun _ hw=>(zam zax (hw.has (p:=0) rfl))) (by omega) (by omega) rfl) ?_
              refine ph_y (zaf rfl) ?_
              refine ph_y (zaf rfl) ?_
              refine ph_y (zaE se59 rfl rfl (fun _ hw=>(zam zax (hw.has (p:=0) rfl))) (by omega) (by omega)) ?_
              refine ph_y (zbh zpz rfl (fun w hw=>zaO (i:=m) (zam zax (hw.has (p:=0) rfl)) (by omega) (by omega))) ?_
              refine ph_y (zbn tf3 rfl (fun _ hw=>(zam zax (hw.has (p:=0) rfl))) (by omega) (by omega) rfl) ?_
              refine ph_y (zdB (b':=false) (zeT rfl rfl) (by exact decide_eq_false (by omega))) ?_
              refine ph_y (zaf rfl) ?_
              refine ziw rfl rfl (zaf rfl) ?_
              refine ziw rfl rfl (zdB (b':=false) (zc6 rfl rfl) (by exact decide_eq_false (by omega))) ?_
              refine ziw rfl rfl (zaf rfl) ?_
              refine zaH (v:=.bool false) rfl rfl (fun hgd=>absurd hgd (by decide)) ?_
              refine zaH (v:=.bool false) rfl rfl (fun hgd=>absurd hgd (by decide)) ?_
              refine zaH (v:=.bool false) rfl rfl (fun hgd=>absurd hgd (by decide)) ?_
              refine zaH (v:=.bool false) rfl rfl (fun hgd=>absurd hgd (by decide)) ?_
              refine zaH (v:=.bool false) rfl rfl (fun hgd=>absurd hgd (by decide)) ?_
              refine zaH (v:=.bool false) rfl rfl (fun hgd=>absurd hgd (by decide)) ?_
              refine zaH (v:=.bool false) rfl rfl (fun hgd=>absurd hgd (by decide)) ?_
              refine zaH (v:=.bool false) rfl rfl (fun hgd=>absurd hgd (by decide)) ?_
              refine zaH (v:=.bool false) rfl rfl (fun hgd=>absurd hgd (by decide)) ?_
              refine zaH (v:=.bool false) rfl rfl (fun hgd=>absurd hgd (by decide)) ?_
              refine zaH (v:=.bool false) rfl rfl (fun hgd=>absurd hgd (by decide)) ?_
              refine zaH (v:=.bool (decide (((ziX S2 V2 n k).getD (m).toNat default).frm≤((ziX S2 V2 n k).getD ((m - 1)).toNat default).to))) rfl rfl (fun hgd=>absurd hgd (by decide)) ?_
              refine ziw rfl rfl (zaX rfl rfl rfl) ?_
              refine ph_y (zaR rfl rfl rfl) ?_
              refine zag (zae (T':=[(1,_),(4,_),(5,_),(14,_),(15,_),(17,_),(19,_),(20,_),(21,_),(22,_),(27,_),(295,_)]) ⟨rfl,rfl,rfl,rfl,rfl,rfl,rfl,rfl,rfl,rfl,rfl,rfl,trivial⟩ ?_)
              refine zd8 rfl ?_
              refine zaq ?_
              refine zbb 26 (fun _=>mixed) (by kernel_rfl) ?_
              refine ph_y (zaf rfl) ?_
              refine ph_y (zaf rfl) ?_
              refine ph_y (zaf rfl) ?_
              refine ph_y (zaE se59 rfl rfl (fun _ hw=>(zam zax (hw.has (p:=0) rfl))) (by omega) (by omega)) ?_
              refine ph_y (zbh zng rfl (fun w hw=>zaO (i:=m) (zam zax (hw.has (p:=0) rfl)) (by omega) (by omega))) ?_
              refine ph_y (zbn tf3 rfl (fun _ hw=>(zam zax (hw.has (p:=0) rfl))) (by omega) (by omega) rfl) ?_
              refine ph_y (zaf rfl) ?_
              refine ph_y (zaf rfl) ?_
              refine ph_y (zaE se59 rfl rfl (fun _ hw=>(zam zax (hw.has (p:=0) rfl))) (by omega) (by omega)) ?_
              refine ph_y (zbh zpz rfl (fun w hw=>zaO (i:=m) (zam zax (hw.has (p:=0) rfl)) (by omega) (by omega))) ?_
              refine ph_y (zbn tf3 rfl (fun _ hw=>(zam zax (hw.has (p:=0) rfl))) (by omega) (by omega) rfl) ?_
              refine ph_y (zfV rfl rfl (by omega) (by omega)) ?_
              refine ph_y (zaf rfl) ?_
              refine ph_y (zaf rfl) ?_
              refine ph_y (zaE se38 rfl rfl (fun _ hw=>(zam zax (hw.has (p:=1) rfl))) (by omega) (by omega)) ?_
              refine ph_y (zbh zpx rfl (fun w hw=>zaO (i:=k) (zam zax (hw.has (p:=1) rfl)) (by omega) (by omega))) ?_
              refine ph_y (zbn tf3 rfl (fun _ hw=>(zam zax (hw.has (p:=1) rfl))) (by omega) (by omega) rfl) ?_
              refine ph_y (zaf rfl) ?_
              refine ph_y (zaf rfl) ?_
              refine ph_y (zaE se38 rfl rfl (fun _ hw=>(zam zax (hw.has (p:=1) rfl))) (by omega) (by omega)) ?_
              refine ph_y (zbh zne rfl (fun w hw=>zaO (i:=k) (zam zax (hw.has (p:=1) rfl)) (by omega) (by omega))) ?_
              refine ph_y (zbn tf3 rfl (fun _ hw=>(zam zax (hw.has (p:=1) rfl))) (by omega) (by omega) rfl) ?_
              refine ph_y (zfV rfl rfl (by omega) (by omega)) ?_
              refine ph_y (zq0 rfl rfl (by omega) (by omega)) ?_
              refine ph_y (zaY rfl rfl (by omega) (by omega)) ?_
              refine ph_y (zad rfl) ?_
              refine zag (zae (T':=[(1,_),(4,_),(5,_),(14,_),(15,_),(17,_),(19,_),(20,_),(21,_),(22,_),(27,_)]) ⟨rfl,rfl,rfl,rfl,rfl,rfl,rfl,rfl,rfl,rfl,rfl,trivial⟩ ?_)
              refine zaa ?_
              refine gk_y rfl rfl (zaf rfl) ?_
              refine gk_y rfl rfl (zaY rfl rfl (by omega) (by omega)) ?_
              refine gk_y rfl rfl (zad rfl) ?_
              refine zag (zae (T':=[(1,_),(4,_),(5,_),(14,_),(15,_),(17,_),(19,_),(20,_),(21,_),(22,_),(27,_)]) ⟨rfl,rfl,rfl,rfl,rfl,rfl,rfl,rfl,rfl,rfl,rfl,trivial⟩ ?_)
              exact za1 (m+1,ar2+bayA ((zfC (zar S2 V2 n).s).getD k.toNat default) ((ziX S2 V2 n k).getD m.toNat default)) ⟨rfl,rfl,rfl,rfl,rfl,rfl,rfl,rfl,rfl,rfl,rfl,trivial⟩ rfl ⟨by omega,by omega,by omega,by omega⟩ (by simp only []; omega)
            ·have hc264:=of_decide_eq_false hc264
             rw [zds hc264,Int.add_zero] at m3
             refine za8 rfl ?_
             refine zaa ?_
             refine gk_y rfl rfl (zaf rfl) ?_
             refine gk_y rfl rfl (zaY rfl rfl (by omega) (by omega)) ?_
             refine gk_y rfl rfl (zad rfl) ?_
             refine zag (zae (T':=[(1,_),(4,_),(5,_),(14,_),(15,_),(17,_),(19,_),(20,_),(21,_)]) ⟨rfl,rfl,rfl,rfl,rfl,rfl,rfl,rfl,rfl,trivial⟩ ?_)
             refine zaK 0 rfl ?_
             exact za1 (k+1,ar2) ⟨rfl,rfl,rfl,rfl,rfl,rfl,rfl,rfl,rfl,trivial⟩ rfl ⟨by omega,by omega,m2,by omega⟩ (by simp only []; omega)
          ·
           refine za8 rfl ?_
           refine zac ?_
           refine zac ?_
           refine zbb 16 (fun _=>mixed) (by kernel_rfl) ?_
           refine ph_y (zaf rfl) ?_
           refine ph_y (zdB (b':=false) (zbR rfl) (by rfl)) ?_
           refine ph_y (zaf rfl) ?_
           refine zaH (v:=.bool false) rfl rfl (fun hgd=>absurd hgd (by decide)) ?_
           refine zaH (v:=.bool false) rfl rfl (fun hgd=>absurd hgd (by decide)) ?_
           refine zaH (v:=.bool (!decide (((ziX S2 V2 n k).length:Int)=1))) rfl rfl (fun hgd=>absurd hgd (by decide)) ?_
           refine zaH (v:=.bool (!decide (((ziX S2 V2 n k).length:Int)=1))) rfl rfl (fun hgd=>absurd hgd (by decide)) ?_
           refine zc0 (v:=.bool false) rfl rfl (fun hgd=>absurd hgd (by simp)) ?_
           refine zc0 (v:=.bool false) rfl rfl (fun hgd=>absurd hgd (by simp)) ?_
           refine zc0 (v:=.bool false) rfl rfl (fun hgd=>absurd hgd (by simp)) ?_
           refine zc0 (v:=.bool false) rfl rfl (fun hgd=>absurd hgd (by simp)) ?_
           refine zc0 (v:=.bool false) rfl rfl (fun hgd=>absurd hgd (by simp)) ?_
           refine zc0 (v:=.bool false) rfl rfl (fun hgd=>absurd hgd (by simp)) ?_
           refine zc0 (v:=.bool (!(decide (((ziX S2 V2 n k).getD (0:Int).toNat default).frm=0)&&decide (((ziX S2 V2 n k).getD (0:Int).toNat default).to=((zaN S2 V2 n).s.length))))) rfl rfl (fun hgd=>absurd hgd (by simp)) ?_
           refine zaH (v:=.bool ((!decide (((ziX S2 V2 n k).length:Int)=1))||(!(decide (((ziX S2 V2 n k).getD (0:Int).toNat default).frm=0)&&decide (((ziX S2 V2 n k).getD (0:Int).toNat default).to=((zaN S2 V2 n).s.length)))))) rfl rfl (fun hgd=>absurd hgd (by decide)) ?_
           refine ph_y (zaX rfl rfl rfl) ?_
           refine zag (zae (T':=[(1,_),(4,_),(5,_),(14,_),(15,_),(17,_),(19,_),(20,_),(21,_),(22,_),(260,_)]) ⟨rfl,rfl,rfl,rfl,rfl,rfl,rfl,rfl,rfl,rfl,rfl,trivial⟩ ?_)
           refine zd8 rfl ?_
           refine zaq ?_
           refine zac ?_
           refine zaa ?_
           refine gk_y rfl rfl (zad rfl) ?_
           refine zag (zae (T':=[(1,_),(4,_),(5,_),(14,_),(15,_),(17,_),(19,_),(20,_),(21,_),(22,_),(27,_)]) ⟨rfl,rfl,rfl,rfl,rfl,rfl,rfl,rfl,rfl,rfl,rfl,trivial⟩ ?_)
           refine zas ?_
           refine zbf (X:=Int×Int) (fun⟨m,ar2⟩=>[(1,.string n),(4,.bool false),(5,.pointer (some ⟨b5,0,none⟩)),(14,.pointer (some ⟨b14,0,none⟩)),(15,.pointer (some ⟨b15,0,none⟩)),(17,.slice p189.1 (zfC ((zar S2 V2 n).s)).length p189.2),(19,.int .i64 ar2),(20,.bool true),(21,.int .i64 k),(22,.slice p204.1 (ziX S2 V2 n k).length p204.2),(27,.int .i64 m)]) (fun⟨m,ar2⟩=>[Row p204.1 2 p204.2 69 zbq (ziX S2 V2 n k),Row p189.1 2 p189.2 49 zbq (zfC ((zar S2 V2 n).s)),Box b15 [.string (zar S2 V2 n).s.name,.int .i64 ((zar S2 V2 n).s.base),.int .i64 ((zar S2 V2 n).s.batter),.int .i64 ((zar S2 V2 n).s.height),.int .i64 ((zar S2 V2 n).s.skin),.slice p176.2.1 (zar S2 V2 n).s.heights.length p176.2.2,.int .i64 ((zar S2 V2 n).s.least),.int .i64 ((zar S2 V2 n).s.lap),.int .i64 ((zar S2 V2 n).s.run),.int .i64 ((zar S2 V2 n).s.every),.int .i64 ((zar S2 V2 n).s.at_),.int .i64 ((zar S2 V2 n).s.footing),.int .i64 ((zar S2 V2 n).s.spread),.int .u8 (zar S2 V2 n).s.cope,.int .i64 ((zar S2 V2 n).s.tall),.int .i64 ((zar S2 V2 n).s.short),.int .i64 ((zar S2 V2 n).s.thick),.int .i64 ((zar S2 V2 n).s.low),.int .i64 ((zar S2 V2 n).s.high),.int .i64 ((zar S2 V2 n).s.rood)] 41,Box b14 [.string (zaN S2 V2 n).s.name,.string (zaN S2 V2 n).s.sheet,.int .i64 ((zaN S2 V2 n).s.length),.slice p176.1.1 (zaN S2 V2 n).s.opens.length p176.1.2] 94,Row p176.1.1 5 p176.1.2 98 zba (zaN S2 V2 n).s.opens,Row p176.2.1 1 p176.2.2 3 Go.Stn.encI (zar S2 V2 n).s.heights,Row ra 20 rc 41 zbH S2,Go.K.Rows (rowH 3) S2,Row rb 4 rd 94 zbS V2,Go.K.Rows (rowO 98) V2,Box b5 [.slice ra S2.length rc,.slice rb V2.length rd] 31,Box b2 [.slice a S.length cap,.slice b V.length bcap] 25]) (fun⟨m,ar2⟩=>(0≤m∧m≤(ziX S2 V2 n k).length∧0≤ar2∧ar2+sumB (bayA ((zfC (zar S2 V2 n).s).getD k.toNat default)) ((ziX S2 V2 n k).drop m.toNat)=ar+(sumB (bayA ((zfC (zar S2 V2 n).s).getD k.toNat default)) (zbg (zaN S2 V2 n).s ((zfC (zar S2 V2 n).s).getD k.toNat default))))) (fun⟨m,ar2⟩=>((ziX S2 V2 n k).length - m).toNat) (0,ar) ⟨rfl,rfl,rfl,rfl,rfl,rfl,rfl,rfl,rfl,rfl,rfl,trivial⟩ rfl ?_ ?_
           ·exact⟨by omega,by omega,g2,by rw [eb2]; rfl⟩
           ·rintro ⟨m,ar2⟩ hI
            obtain⟨m0,m1,m2,m3⟩:=hI
            refine zac ?_
            refine zac ?_
            refine zaa ?_
            refine gk_y rfl rfl (zaf rfl) ?_
            refine gk_y rfl rfl (zaf rfl) ?_
            refine gk_y rfl rfl (zaV (Tryz.underlying59) rfl) ?_
            refine gk_y rfl rfl (zbw rfl rfl) ?_
            refine zag (zae (T':=[(1,_),(4,_),(5,_),(14,_),(15,_),(17,_),(19,_),(20,_),(21,_),(22,_),(27,_),(264,_)]) ⟨rfl,rfl,rfl,rfl,rfl,rfl,rfl,rfl,rfl,rfl,rfl,rfl,trivial⟩ ?_)
            refine zap rfl (fun hc264=>?_) (fun hc264=>?_)
            ·have hc264:=of_decide_eq_true hc264
             obtain⟨⟨q1,q2,q3⟩,q4⟩:=hbt m m0 hc264
             have hbd:=zdt (f:=bayA ((zfC (zar S2 V2 n).s).getD k.toNat default)) m0 hc264
             have hmu:=zc7 (a:=((ziX S2 V2 n k).getD m.toNat default).to - ((ziX S2 V2 n k).getD m.toNat default).frm) (b:=((zfC (zar S2 V2 n).s).getD k.toNat default).to - ((zfC (zar S2 V2 n).s).getD k.toNat default).frm) (x:=100000) (y:=3000) (by omega) (by omega) (by omega) (by omega)
             have hmb:0≤bayA ((zfC (zar S2 V2 n).s).getD k.toNat default) ((ziX S2 V2 n k).getD m.toNat default):=hmu.1
             have hmr:0≤sumB (bayA ((zfC (zar S2 V2 n).s).getD k.toNat default)) ((ziX S2 V2 n k).drop (m+1).toNat):=zeM fun c hc=>by have:=hbt; rw [eb2] at hc; have hx:=zeK (zdK hWF (zgu ((zfC (zar S2 V2 n).s).getD k.toNat default))) c (zhy hc); exact Int.mul_nonneg (by omega) (by omega)
             rcases Int.lt_or_le 0 m with hm0 | hm0
             ·
              have q5:=q4 hm0
              refine zaq ?_
              refine zac ?_
              refine zas ?_
              refine zac ?_
              refine zac ?_
              refine zbb 29 (fun _=>mixed) (by kernel_rfl) ?_
              refine ph_y (zaf rfl) ?_
              refine ph_y (zaf rfl) ?_
              refine ph_y (zaE se59 rfl rfl (fun _ hw=>(zam zax (hw.has (p:=0) rfl))) (by omega) (by omega)) ?_
              refine ph_y (zbh zng rfl (fun w hw=>zaO (i:=m) (zam zax (hw.has (p:=0) rfl)) (by omega) (by omega))) ?_
              refine ph_y (zbn tf3 rfl (fun _ hw=>(zam zax (hw.has (p:=0) rfl))) (by omega) (by omega) rfl) ?_
              refine ph_y (zaf rfl) ?_
              refine ph_y (zaf rfl) ?_
              refine ph_y (zaE se59 rfl rfl (fun _ hw=>(zam zax (hw.has (p:=0) rfl))) (by omega) (by omega)) ?_
              refine ph_y (zbh zpz rfl (fun w hw=>zaO (i:=m) (zam zax (hw.has (p:=0) rfl)) (by omega) (by omega))) ?_
              refine ph_y (zbn tf3 rfl (fun _ hw=>(zam zax (hw.has (p:=0) rfl))) (by omega) (by omega) rfl) ?_
              refine ph_y (zdB (b':=false) (zeT rfl rfl) (by exact decide_eq_false (by omega))) ?_
              refine ph_y (zaf rfl) ?_
              refine ziw rfl rfl (zaf rfl) ?_
              refine ziw rfl rfl (zbQ (zc6 rfl rfl) (by exact decide_eq_true hm0)) ?_
              refine ziw rfl rfl (zaf rfl) ?_
              refine ziw rfl rfl (zaf rfl) ?_
              refine ziw rfl rfl (zaf rfl) ?_
              refine ziw rfl rfl (zaE se59 rfl rfl (fun _ hw=>(zam zax (hw.has (p:=0) rfl))) (by omega) (by omega)) ?_
              refine ziw rfl rfl (zbh zpz rfl (fun w hw=>zaO (i:=m) (zam zax (hw.has (p:=0) rfl)) (by omega) (by omega))) ?_
              refine ziw rfl rfl (zbn tf3 rfl (fun _ hw=>(zam zax (hw.has (p:=0) rfl))) (by omega) (by omega) rfl) ?_
              refine ziw rfl rfl (zaf rfl) ?_
              refine ziw rfl rfl (zaf rfl) ?_
              refine ziw rfl rfl (zfV rfl rfl (by omega) (by omega)) ?_
              refine ziw rfl rfl (zaE se59 rfl rfl (fun _ hw=>(zam zax (hw.has (p:=0) rfl))) (by omega) (by omega)) ?_
              refine ziw rfl rfl (zbh zng rfl (fun w hw=>zaO (i:=(m - 1)) (zam zax (hw.has (p:=0) rfl)) (by omega) (by omega))) ?_
              refine ziw rfl rfl (zbn tf3 rfl (fun _ hw=>(zam zax (hw.has (p:=0) rfl))) (by omega) (by omega) rfl) ?_
              refine ziw rfl rfl (zdB (b':=false) (zeT rfl rfl) (by exact decide_eq_false (by omega))) ?_
              refine ziw rfl rfl (za5 rfl rfl rfl) ?_
              refine ph_y (zaR rfl rfl rfl) ?_
              refine zag (zae (T':=[(1,_),(4,_),(5,_),(14,_),(15,_),(17,_),(19,_),(20,_),(21,_),(22,_),(27,_),(295,_)]) ⟨rfl,rfl,rfl,rfl,rfl,rfl,rfl,rfl,rfl,rfl,rfl,rfl,trivial⟩ ?_)
              refine zd8 rfl ?_
              refine zaq ?_
              refine zbb 26 (fun _=>mixed) (by kernel_rfl) ?_
              refine ph_y (zaf rfl) ?_
              refine ph_y (zaf rfl) ?_
              refine ph_y (zaf rfl) ?_
              refine ph_y (zaE se59 rfl rfl (fun _ hw=>(zam zax (hw.has (p:=0) rfl))) (by omega) (by omega)) ?_
              refine ph_y (zbh zng rfl (fun w hw=>zaO (i:=m) (zam zax (hw.has (p:=0) rfl)) (by omega) (by omega))) ?_
              refine ph_y (zbn tf3 rfl (fun _ hw=>(zam zax (hw.has (p:=0) rfl))) (by omega) (by omega) rfl) ?_
              refine ph_y (zaf rfl) ?_
              refine ph_y (zaf rfl) ?_
              refine ph_y (zaE se59 rfl rfl (fun _ hw=>(zam zax (hw.has (p:=0) rfl))) (by omega) (by omega)) ?_
              refine ph_y (zbh zpz rfl (fun w hw=>zaO (i:=m) (zam zax (hw.has (p:=0) rfl)) (by omega) (by omega))) ?_
              refine ph_y (zbn tf3 rfl (fun _ hw=>(zam zax (hw.has (p:=0) rfl))) (by omega) (by omega) rfl) ?_
              refine ph_y (zfV rfl rfl (by omega) (by omega)) ?_
              refine ph_y (zaf rfl) ?_
              refine ph_y (zaf rfl) ?_
              refine ph_y (zaE se38 rfl rfl (fun _ hw=>(zam zax (hw.has (p:=1) rfl))) (by omega) (by omega)) ?_
              refine ph_y (zbh zpx rfl (fun w hw=>zaO (i:=k) (zam zax (hw.has (p:=1) rfl)) (by omega) (by omega))) ?_
              refine ph_y (zbn tf3 rfl (fun _ hw=>(zam zax (hw.has (p:=1) rfl))) (by omega) (by omega) rfl) ?_
              refine ph_y (zaf rfl) ?_
              refine ph_y (zaf rfl) ?_
              refine ph_y (zaE se38 rfl rfl (fun _ hw=>(zam zax (hw.has (p:=1) rfl))) (by omega) (by omega)) ?_
              refine ph_y (zbh zne rfl (fun w hw=>zaO (i:=k) (zam zax (hw.has (p:=1) rfl)) (by omega) (by omega))) ?_
              refine ph_y (zbn tf3 rfl (fun _ hw=>(zam zax (hw.has (p:=1) rfl))) (by omega) (by omega) rfl) ?_
              refine ph_y (zfV rfl rfl (by omega) (by omega)) ?_
              refine ph_y (zq0 rfl rfl (by omega) (by omega)) ?_
              refine ph_y (zaY rfl rfl (by omega) (by omega)) ?_
              refine ph_y (zad rfl) ?_
              refine zag (zae (T':=[(1,_),(4,_),(5,_),(14,_),(15,_),(17,_),(19,_),(20,_),(21,_),(22,_),(27,_)]) ⟨rfl,rfl,rfl,rfl,rfl,rfl,rfl,rfl,rfl,rfl,rfl,trivial⟩ ?_)
              refine zaa ?_
              refine gk_y rfl rfl (zaf rfl) ?_
              refine gk_y rfl rfl (zaY rfl rfl (by omega) (by omega)) ?_
              refine gk_y rfl rfl (zad rfl) ?_
              refine zag (zae (T':=[(1,_),(4,_),(5,_),(14,_),(15,_),(17,_),(19,_),(20,_),(21,_),(22,_),(27,_)]) ⟨rfl,rfl,rfl,rfl,rfl,rfl,rfl,rfl,rfl,rfl,rfl,trivial⟩ ?_)
              exact za1 (m+1,ar2+bayA ((zfC (zar S2 V2 n).s).getD k.toNat default) ((ziX S2 V2 n k).getD m.toNat default)) ⟨rfl,rfl,rfl,rfl,rfl,rfl,rfl,rfl,rfl,rfl,rfl,trivial⟩ rfl ⟨by omega,by omega,by omega,by omega⟩ (by simp only []; omega)
             ·
              refine zaq ?_
              refine zac ?_
              refine zas ?_
              refine zac ?_
              refine zac ?_
              refine zbb 29 (fun _=>mixed) (by kernel_rfl) ?_
              refine ph_y (zaf rfl) ?_
              refine ph_y (zaf rfl) ?_
              refine ph_y (zaE se59 rfl rfl (fun _ hw=>(zam zax (hw.has (p:=0) rfl))) (by omega) (by omega)) ?_
              refine ph_y (zbh zng rfl (fun w hw=>zaO (i:=m) (zam zax (hw.has (p:=0) rfl)) (by omega) (by omega))) ?_
              refine ph_y (zbn tf3 rfl (fun _ hw=>(zam zax (hw.has (p:=0) rfl))) (by omega) (by omega) rfl) ?_
              refine ph_y (zaf rfl) ?_
              refine ph_y (zaf rfl) ?_
              refine ph_y (zaE se59 rfl rfl (fun _ hw=>(zam zax (hw.has (p:=0) rfl))) (by omega) (by omega)) ?_
              refine ph_y (zbh zpz rfl (fun w hw=>zaO (i:=m) (zam zax (hw.has (p:=0) rfl)) (by omega) (by omega))) ?_
              refine ph_y (zbn tf3 rfl (fun _ hw=>(zam zax (hw.has (p:=0) rfl))) (by omega) (by omega) rfl) ?_
              refine ph_y (zdB (b':=false) (zeT rfl rfl) (by exact decide_eq_false (by omega))) ?_
              refine ph_y (zaf rfl) ?_
              refine ziw rfl rfl (zaf rfl) ?_
              refine ziw rfl rfl (zdB (b':=false) (zc6 rfl rfl) (by exact decide_eq_false (by omega))) ?_
              refine ziw rfl rfl (zaf rfl) ?_
              refine zaH (v:=.bool false) rfl rfl (fun hgd=>absurd hgd (by decide)) ?_
              refine zaH (v:=.bool false) rfl rfl (fun hgd=>absurd hgd (by decide)) ?_
              refine zaH (v:=.bool false) rfl rfl (fun hgd=>absurd hgd (by decide)) ?_
              refine zaH (v:=.bool false) rfl rfl (fun hgd=>absurd hgd (by decide)) ?_
              refine zaH (v:=.bool false) rfl rfl (fun hgd=>absurd hgd (by decide)) ?_
              refine zaH (v:=.bool false) rfl rfl (fun hgd=>absurd hgd (by decide)) ?_
              refine zaH (v:=.bool false) rfl rfl (fun hgd=>absurd hgd (by decide)) ?_
              refine zaH (v:=.bool false) rfl rfl (fun hgd=>absurd hgd (by decide)) ?_
              refine zaH (v:=.bool false) rfl rfl (fun hgd=>absurd hgd (by decide)) ?_
              refine zaH (v:=.bool false) rfl rfl (fun hgd=>absurd hgd (by decide)) ?_
              refine zaH (v:=.bool false) rfl rfl (fun hgd=>absurd hgd (by decide)) ?_
              refine zaH (v:=.bool (decide (((ziX S2 V2 n k).getD (m).toNat default).frm≤((ziX S2 V2 n k).getD ((m - 1)).toNat default).to))) rfl rfl (fun hgd=>absurd hgd (by decide)) ?_
              refine ziw rfl rfl (zaX rfl rfl rfl) ?_
              refine ph_y (zaR rfl rfl rfl) ?_
              refine zag (zae (T':=[(1,_),(4,_),(5,_),(14,_),(15,_),(17,_),(19,_),(20,_),(21,_),(22,_),(27,_),(295,_)]) ⟨rfl,rfl,rfl,rfl,rfl,rfl,rfl,rfl,rfl,rfl,rfl,rfl,trivial⟩ ?_)
              refine zd8 rfl ?_
              refine zaq ?_
              refine zbb 26 (fun _=>mixed) (by kernel_rfl) ?_
              refine ph_y (zaf rfl) ?_
              refine ph_y (zaf rfl) ?_
              refine ph_y (zaf rfl) ?_
              refine ph_y (zaE se59 rfl rfl (fun _ hw=>(zam zax (hw.has (p:=0) rfl))) (by omega) (by omega)) ?_
              refine ph_y (zbh zng rfl (fun w hw=>zaO (i:=m) (zam zax (hw.has (p:=0) rfl)) (by omega) (by omega))) ?_
              refine ph_y (zbn tf3 rfl (fun _ hw=>(zam zax (hw.has (p:=0) rfl))) (by omega) (by omega) rfl) ?_
              refine ph_y (zaf rfl) ?_
              refine ph_y (zaf rfl) ?_
              refine ph_y (zaE se59 rfl rfl (fun _ hw=>(zam zax (hw.has (p:=0) rfl))) (by omega) (by omega)) ?_
              refine ph_y (zbh zpz rfl (fun w hw=>zaO (i:=m) (zam zax (hw.has (p:=0) rfl)) (by omega) (by omega))) ?_
              refine ph_y (zbn tf3 rfl (fun _ hw=>(zam zax (hw.has (p:=0) rfl))) (by omega) (by omega) rfl) ?_
              refine ph_y (zfV rfl rfl (by omega) (by omega)) ?_
              refine ph_y (zaf rfl) ?_
              refine ph_y (zaf rfl) ?_
              refine ph_y (zaE se38 rfl rfl (fun _ hw=>(zam zax (hw.has (p:=1) rfl))) (by omega) (by omega)) ?_
              refine ph_y (zbh zpx rfl (fun w hw=>zaO (i:=k) (zam zax (hw.has (p:=1) rfl)) (by omega) (by omega))) ?_
              refine ph_y (zbn tf3 rfl (fun _ hw=>(zam zax (hw.has (p:=1) rfl))) (by omega) (by omega) rfl) ?_
              refine ph_y (zaf rfl) ?_
              refine ph_y (zaf rfl) ?_
              refine ph_y (zaE se38 rfl rfl (fun _ hw=>(zam zax (hw.has (p:=1) rfl))) (by omega) (by omega)) ?_
              refine ph_y (zbh zne rfl (fun w hw=>zaO (i:=k) (zam zax (hw.has (p:=1) rfl)) (by omega) (by omega))) ?_
              refine ph_y (zbn tf3 rfl (fun _ hw=>(zam zax (hw.has (p:=1) rfl))) (by omega) (by omega) rfl) ?_
              refine ph_y (zfV rfl rfl (by omega) (by omega)) ?_
              refine ph_y (zq0 rfl rfl (by omega) (by omega)) ?_
              refine ph_y (zaY rfl rfl (by omega) (by omega)) ?_
              refine ph_y (zad rfl) ?_
              refine zag (zae (T':=[(1,_),(4,_),(5,_),(14,_),(15,_),(17,_),(19,_),(20,_),(21,_),(22,_),(27,_)]) ⟨rfl,rfl,rfl,rfl,rfl,rfl,rfl,rfl,rfl,rfl,rfl,trivial⟩ ?_)
              refine zaa ?_
              refine gk_y rfl rfl (zaf rfl) ?_
              refine gk_y rfl rfl (zaY rfl rfl (by omega) (by omega)) ?_
              refine gk_y rfl rfl (zad rfl) ?_
              refine zag (zae (T':=[(1,_),(4,_),(5,_),(14,_),(15,_),(17,_),(19,_),(20,_),(21,_),(22,_),(27,_)]) ⟨rfl,rfl,rfl,rfl,rfl,rfl,rfl,rfl,rfl,rfl,rfl,trivial⟩ ?_)
              exact za1 (m+1,ar2+bayA ((zfC (zar S2 V2 n).s).getD k.toNat default) ((ziX S2 V2 n k).getD m.toNat default)) ⟨rfl,rfl,rfl,rfl,rfl,rfl,rfl,rfl,rfl,rfl,rfl,trivial⟩ rfl ⟨by omega,by omega,by omega,by omega⟩ (by simp only []; omega)
            ·have hc264:=of_decide_eq_false hc264
             rw [zds hc264,Int.add_zero] at m3
             refine za8 rfl ?_
             refine zaa ?_
             refine gk_y rfl rfl (zaf rfl) ?_
             refine gk_y rfl rfl (zaY rfl rfl (by omega) (by omega)) ?_
             refine gk_y rfl rfl (zad rfl) ?_
             refine zag (zae (T':=[(1,_),(4,_),(5,_),(14,_),(15,_),(17,_),(19,_),(20,_),(21,_)]) ⟨rfl,rfl,rfl,rfl,rfl,rfl,rfl,rfl,rfl,trivial⟩ ?_)
             refine zaK 0 rfl ?_
             exact za1 (k+1,ar2) ⟨rfl,rfl,rfl,rfl,rfl,rfl,rfl,rfl,rfl,trivial⟩ rfl ⟨by omega,by omega,m2,by omega⟩ (by simp only []; omega)
       ·have hc197:=of_decide_eq_false hc197
        rw [zds hc197,Int.add_zero] at g3
        refine za8 rfl ?_
        refine zac ?_
        refine zac ?_
        refine zaa ?_
        refine gk_y rfl rfl (zad rfl) ?_
        refine zag (zae (T':=[(4,_),(14,_),(15,_),(17,_),(19,_),(20,_),(28,_)]) ⟨rfl,rfl,rfl,rfl,rfl,rfl,rfl,trivial⟩ ?_)
        refine zas ?_
        refine zbf (X:=Int×Int×Bool) (fun⟨j,ar,ev⟩=>[(4,.bool false),(14,.pointer (some ⟨b14,0,none⟩)),(15,.pointer (some ⟨b15,0,none⟩)),(17,.slice p189.1 (zfC ((zar S2 V2 n).s)).length p189.2),(19,.int .i64 ar),(20,.bool ev),(28,.int .i64 j)]) (fun⟨j,ar,ev⟩=>[Row p189.1 2 p189.2 49 zbq (zfC ((zar S2 V2 n).s)),Box b15 [.string (zar S2 V2 n).s.name,.int .i64 ((zar S2 V2 n).s.base),.int .i64 ((zar S2 V2 n).s.batter),.int .i64 ((zar S2 V2 n).s.height),.int .i64 ((zar S2 V2 n).s.skin),.slice p176.2.1 (zar S2 V2 n).s.heights.length p176.2.2,.int .i64 ((zar S2 V2 n).s.least),.int .i64 ((zar S2 V2 n).s.lap),.int .i64 ((zar S2 V2 n).s.run),.int .i64 ((zar S2 V2 n).s.every),.int .i64 ((zar S2 V2 n).s.at_),.int .i64 ((zar S2 V2 n).s.footing),.int .i64 ((zar S2 V2 n).s.spread),.int .u8 (zar S2 V2 n).s.cope,.int .i64 ((zar S2 V2 n).s.tall),.int .i64 ((zar S2 V2 n).s.short),.int .i64 ((zar S2 V2 n).s.thick),.int .i64 ((zar S2 V2 n).s.low),.int .i64 ((zar S2 V2 n).s.high),.int .i64 ((zar S2 V2 n).s.rood)] 41,Box b14 [.string (zaN S2 V2 n).s.name,.string (zaN S2 V2 n).s.sheet,.int .i64 ((zaN S2 V2 n).s.length),.slice p176.1.1 (zaN S2 V2 n).s.opens.length p176.1.2] 94,Row p176.1.1 5 p176.1.2 98 zba (zaN S2 V2 n).s.opens,Row p176.2.1 1 p176.2.2 3 Go.Stn.encI (zar S2 V2 n).s.heights,Row ra 20 rc 41 zbH S2,Go.K.Rows (rowH 3) S2,Row rb 4 rd 94 zbS V2,Go.K.Rows (rowO 98) V2,Box b5 [.slice ra S2.length rc,.slice rb V2.length rd] 31,Box b2 [.slice a S.length cap,.slice b V.length bcap] 25]) (fun⟨j,ar,ev⟩=>(0≤j∧j≤(zaN S2 V2 n).s.opens.length∧0≤ar∧ar+sumO ((zaN S2 V2 n).s.opens.drop j.toNat)=(sumB (fun c=>sumB (bayA c) (zbg (zaN S2 V2 n).s c)) (zfC (zar S2 V2 n).s))+sumO (zaN S2 V2 n).s.opens∧(ev=true→∀ t:Nat,(t:Int) < j→((∃ c∈(zfC (zar S2 V2 n).s),c.frm=((zaN S2 V2 n).s.opens.getD t default).frm)∧∃ c∈(zfC (zar S2 V2 n).s),c.to=((zaN S2 V2 n).s.opens.getD t default).frm+((zaN S2 V2 n).s.opens.getD t default).high)))) (fun⟨j,ar,ev⟩=>((zaN S2 V2 n).s.opens.length - j).toNat) (0,ar,true) ⟨rfl,rfl,rfl,rfl,rfl,rfl,rfl,trivial⟩ rfl ?_ ?_
        ·exact⟨by omega,by omega,g2,by rw [g3]; rfl,fun _ t ht=>by omega⟩
        ·rintro ⟨j,ar,ev⟩ hI
         obtain⟨j0,j1,j5,j3,j4⟩:=hI
         refine zac ?_
         refine zac ?_
         refine zaa ?_
         refine gk_y rfl rfl (zaf rfl) ?_
         refine gk_y rfl rfl (zab zhe rfl) ?_
         refine gk_y rfl rfl (zah 2 tf92 rfl rfl rfl) ?_
         refine gk_y rfl rfl (zaV (Tryz.underlying92) rfl) ?_
         refine gk_y rfl rfl (zbw rfl rfl) ?_
         refine zag (zae (T':=[(4,_),(14,_),(15,_),(17,_),(19,_),(20,_),(28,_),(325,_)]) ⟨rfl,rfl,rfl,rfl,rfl,rfl,rfl,rfl,trivial⟩ ?_)
         refine zap rfl (fun hc325=>?_) (fun hc325=>?_)
         ·have hc325:=of_decide_eq_true hc325
          have hfo:=hWF.fit ((zaN S2 V2 n).s.opens.getD j.toNat default) (za0 (by omega))
          have o1:=hfo.a; have o2:=hfo.w; have o3:=hfo.h; have o4:=hfo.f
          have hod:=zyI j0 hc325
          have hon2:0≤sumO ((zaN S2 V2 n).s.opens.drop (j+1).toNat):=zyj fun o ho=>hopa o (List.mem_of_mem_drop ho)
          have hmo2:=zc7 (a:=((zaN S2 V2 n).s.opens.getD j.toNat default).width) (b:=((zaN S2 V2 n).s.opens.getD j.toNat default).high) (x:=100000) (y:=3000) (by omega) (by omega) (by omega) (by omega)
          have hob:0≤opnA ((zaN S2 V2 n).s.opens.getD j.toNat default):=hmo2.1
          refine zaq ?_
          refine zac ?_
          refine zas ?_
          refine zac ?_
          refine zaa ?_
          refine gk_y rfl rfl (zab zhe rfl) ?_
          refine gk_y rfl rfl (zah 2 tf92 rfl rfl rfl) ?_
          refine gk_y rfl rfl (zaf rfl) ?_
          refine gk_y rfl rfl (zaE se92 rfl rfl (fun _ hw=>(zam encOpn_ok (hw.has (p:=3) rfl))) (by omega) (by omega)) ?_
          refine gk_y rfl rfl (zbv (vs:=[_,_,_,_,_]) tf98 rfl (fun _ hw=>(zam encOpn_ok (hw.has (p:=3) rfl))) (by omega) (by omega) rfl) ?_
          refine zaG rfl rfl (zaL tf98 (zs:=[_,_,_,_,_]) rfl) fun b29=>?_
          refine zaA 0 tf98 rfl rfl (vs:=[_,_,_,_,_]) rfl rfl rfl rfl rfl ?_
          refine zag (zae (T':=[(4,_),(14,_),(15,_),(17,_),(19,_),(20,_),(28,_),(29,_)]) ⟨rfl,rfl,rfl,rfl,rfl,rfl,rfl,rfl,trivial⟩ ?_)
          refine zac ?_
          refine zaa ?_
          refine gk_y rfl rfl (zaf rfl) ?_
          refine gk_y rfl rfl (zab zji rfl) ?_
          refine gk_y rfl rfl (zah 0 tf3 rfl rfl rfl) ?_
          refine gk_y rfl rfl (zab zhg rfl) ?_
          refine gk_y rfl rfl (zah 0 tf3 rfl rfl rfl) ?_
          refine gk_y rfl rfl (zq0 rfl rfl (by omega) (by omega)) ?_
          refine gk_y rfl rfl (zaY rfl rfl (by omega) (by omega)) ?_
          refine gk_y rfl rfl (zad rfl) ?_
          refine zag (zae (T':=[(4,_),(14,_),(15,_),(17,_),(19,_),(20,_),(28,_),(29,_)]) ⟨rfl,rfl,rfl,rfl,rfl,rfl,rfl,rfl,trivial⟩ ?_)
          refine zac ?_
          refine zaa ?_
          refine gk_y rfl rfl (zad rfl) ?_
          refine gk_y rfl rfl (zad rfl) ?_
          refine zag (zae (T':=[(4,_),(14,_),(15,_),(17,_),(19,_),(20,_),(28,_),(29,_),(30,_),(31,_)]) ⟨rfl,rfl,rfl,rfl,rfl,rfl,rfl,rfl,rfl,rfl,trivial⟩ ?_)
          refine zac ?_
          refine zac ?_
          refine zaa ?_
          refine gk_y rfl rfl (zad rfl) ?_
          refine zag (zae (T':=[(4,_),(14,_),(15,_),(17,_),(19,_),(20,_),(28,_),(29,_),(30,_),(31,_),(32,_)]) ⟨rfl,rfl,rfl,rfl,rfl,rfl,rfl,rfl,rfl,rfl,rfl,trivial⟩ ?_)
          refine zas ?_
          refine zbf (X:=Int×Bool×Bool) (fun⟨q,ba,bb⟩=>[(4,.bool false),(14,.pointer (some ⟨b14,0,none⟩)),(15,.pointer (some ⟨b15,0,none⟩)),(17,.slice p189.1 (zfC ((zar S2 V2 n).s)).length p189.2),(19,.int .i64 (ar+(((zaN S2 V2 n).s.opens.getD (j).toNat default).width*((zaN S2 V2 n).s.opens.getD (j).toNat default).high))),(20,.bool ev),(28,.int .i64 j),(29,.pointer (some ⟨b29,0,none⟩)),(30,.bool ba),(31,.bool bb),(32,.int .i64 q)]) (fun⟨q,ba,bb⟩=>[Box b29 [.int .u8 ((zaN S2 V2 n).s.opens.getD (j).toNat default).kind,.int .i64 ((zaN S2 V2 n).s.opens.getD (j).toNat default).at_,.int .i64 ((zaN S2 V2 n).s.opens.getD (j).toNat default).width,.int .i64 ((zaN S2 V2 n).s.opens.getD (j).toNat default).frm,.int .i64 ((zaN S2 V2 n).s.opens.getD (j).toNat default).high] 98,Row p189.1 2 p189.2 49 zbq (zfC ((zar S2 V2 n).s)),Box b15 [.string (zar S2 V2 n).s.name,.int .i64 ((zar S2 V2 n).s.base),.int .i64 ((zar S2 V2 n).s.batter),.int .i64 ((zar S2 V2 n).s.height),.int .i64 ((zar S2 V2 n).s.skin),.slice p176.2.1 (zar S2 V2 n).s.heights.length p176.2.2,.int .i64 ((zar S2 V2 n).s.least),.int .i64 ((zar S2 V2 n).s.lap),.int .i64 ((zar S2 V2 n).s.run),.int .i64 ((zar S2 V2 n).s.every),.int .i64 ((zar S2 V2 n).s.at_),.int .i64 ((zar S2 V2 n).s.footing),.int .i64 ((zar S2 V2 n).s.spread),.int .u8 (zar S2 V2 n).s.cope,.int .i64 ((zar S2 V2 n).s.tall),.int .i64 ((zar S2 V2 n).s.short),.int .i64 ((zar S2 V2 n).s.thick),.int .i64 ((zar S2 V2 n).s.low),.int .i64 ((zar S2 V2 n).s.high),.int .i64 ((zar S2 V2 n).s.rood)] 41,Box b14 [.string (zaN S2 V2 n).s.name,.string (zaN S2 V2 n).s.sheet,.int .i64 ((zaN S2 V2 n).s.length),.slice p176.1.1 (zaN S2 V2 n).s.opens.length p176.1.2] 94,Row p176.1.1 5 p176.1.2 98 zba (zaN S2 V2 n).s.opens,Row p176.2.1 1 p176.2.2 3 Go.Stn.encI (zar S2 V2 n).s.heights,Row ra 20 rc 41 zbH S2,Go.K.Rows (rowH 3) S2,Row rb 4 rd 94 zbS V2,Go.K.Rows (rowO 98) V2,Box b5 [.slice ra S2.length rc,.slice rb V2.length rd] 31,Box b2 [.slice a S.length cap,.slice b V.length bcap] 25]) (fun⟨q,ba,bb⟩=>(0≤q∧q≤(zfC (zar S2 V2 n).s).length∧(ba=true→∃ c∈(zfC (zar S2 V2 n).s),c.frm=((zaN S2 V2 n).s.opens.getD j.toNat default).frm)∧(bb=true→∃ c∈(zfC (zar S2 V2 n).s),c.to=((zaN S2 V2 n).s.opens.getD j.toNat default).frm+((zaN S2 V2 n).s.opens.getD j.toNat default).high))) (fun⟨q,ba,bb⟩=>((zfC (zar S2 V2 n).s).length - q).toNat) (0,false,false) ⟨rfl,rfl,rfl,rfl,rfl,rfl,rfl,rfl,rfl,rfl,rfl,trivial⟩ rfl ?_ ?_
          ·exact⟨by omega,by omega,fun h=>absurd h (by decide),fun h=>absurd h (by decide)⟩
          ·rintro ⟨q,ba,bb⟩ hI
           obtain⟨q0,q1,q2,q3⟩:=hI
           refine zac ?_
           refine zac ?_
           refine zaa ?_
           refine gk_y rfl rfl (zaf rfl) ?_
           refine gk_y rfl rfl (zaf rfl) ?_
           refine gk_y rfl rfl (zaV (Tryz.underlying38) rfl) ?_
           refine gk_y rfl rfl (zbw rfl rfl) ?_
           refine zag (zae (T':=[(4,_),(14,_),(15,_),(17,_),(19,_),(20,_),(28,_),(29,_),(30,_),(31,_),(32,_),(343,_)]) ⟨rfl,rfl,rfl,rfl,rfl,rfl,rfl,rfl,rfl,rfl,rfl,rfl,trivial⟩ ?_)
           refine zap rfl (fun hc343=>?_) (fun hc343=>?_)
           ·have hc343:=of_decide_eq_true hc343
            cases ba <;> cases bb
            ·
             refine zaq ?_
             refine zac ?_
             refine zas ?_
             refine zbb 27 (fun _=>mixed) (by kernel_rfl) ?_
             refine ph_y (zaf rfl) ?_
             refine ph_y (zaf rfl) ?_
             refine ziw rfl rfl (zaf rfl) ?_
             refine ziw rfl rfl (zaf rfl) ?_
             refine ziw rfl rfl (zaE se38 rfl rfl (fun _ hw=>(zam zax (hw.has (p:=1) rfl))) (by omega) (by omega)) ?_
             refine ziw rfl rfl (zbh zne rfl (fun w hw=>zaO (i:=q) (zam zax (hw.has (p:=1) rfl)) (by omega) (by omega))) ?_
             refine ziw rfl rfl (zbn tf3 rfl (fun _ hw=>(zam zax (hw.has (p:=1) rfl))) (by omega) (by omega) rfl) ?_
             refine ziw rfl rfl (zab zfe rfl) ?_
             refine ziw rfl rfl (zah 0 tf3 rfl rfl rfl) ?_
             refine ziw rfl rfl (zbL rfl rfl) ?_
             refine ph_y (zaR rfl rfl rfl) ?_
             refine ph_y (zaf rfl) ?_
             refine ph_y (zaf rfl) ?_
             refine ziw rfl rfl (zaf rfl) ?_
             refine ziw rfl rfl (zaf rfl) ?_
             refine ziw rfl rfl (zaE se38 rfl rfl (fun _ hw=>(zam zax (hw.has (p:=1) rfl))) (by omega) (by omega)) ?_
             refine ziw rfl rfl (zbh zpx rfl (fun w hw=>zaO (i:=q) (zam zax (hw.has (p:=1) rfl)) (by omega) (by omega))) ?_
             refine ziw rfl rfl (zbn tf3 rfl (fun _ hw=>(zam zax (hw.has (p:=1) rfl))) (by omega) (by omega) rfl) ?_
             refine ziw rfl rfl (zab zfe rfl) ?_
             refine ziw rfl rfl (zah 0 tf3 rfl rfl rfl) ?_
             refine ziw rfl rfl (zab zhg rfl) ?_
             refine ziw rfl rfl (zah 0 tf3 rfl rfl rfl) ?_
             refine ziw rfl rfl (zaY rfl rfl (by omega) (by omega)) ?_
             refine ziw rfl rfl (zbL rfl rfl) ?_
             refine ph_y (zaR rfl rfl rfl) ?_
             refine ph_y (zad rfl) ?_
             refine ph_y (zad rfl) ?_
             refine zag (zae (T':=[(4,_),(14,_),(15,_),(17,_),(19,_),(20,_),(28,_),(29,_),(30,_),(31,_),(32,_)]) ⟨rfl,rfl,rfl,rfl,rfl,rfl,rfl,rfl,rfl,rfl,rfl,trivial⟩ ?_)
             refine zaa ?_
             refine gk_y rfl rfl (zaf rfl) ?_
             refine gk_y rfl rfl (zaY rfl rfl (by omega) (by omega)) ?_
             refine gk_y rfl rfl (zad rfl) ?_
             refine zag (zae (T':=[(4,_),(14,_),(15,_),(17,_),(19,_),(20,_),(28,_),(29,_),(30,_),(31,_),(32,_)]) ⟨rfl,rfl,rfl,rfl,rfl,rfl,rfl,rfl,rfl,rfl,rfl,trivial⟩ ?_)
             exact za1 (q+1,_,_) ⟨rfl,rfl,rfl,rfl,rfl,rfl,rfl,rfl,rfl,rfl,rfl,trivial⟩ rfl ⟨by omega,by omega,fun h=>by first | exact q2 rfl | exact⟨((zfC (zar S2 V2 n).s).getD q.toNat default),za0 (by omega),by simpa using h⟩,fun h=>by first | exact q3 rfl | exact⟨((zfC (zar S2 V2 n).s).getD q.toNat default),za0 (by omega),by simpa using h⟩⟩ (by simp only []; omega)
            ·
             refine zaq ?_
             refine zac ?_
             refine zas ?_
             refine zbb 27 (fun _=>mixed) (by kernel_rfl) ?_
             refine ph_y (zaf rfl) ?_
             refine ph_y (zaf rfl) ?_
             refine ziw rfl rfl (zaf rfl) ?_
             refine ziw rfl rfl (zaf rfl) ?_
             refine ziw rfl rfl (zaE se38 rfl rfl (fun _ hw=>(zam zax (hw.has (p:=1) rfl))) (by omega) (by omega)) ?_
             refine ziw rfl rfl (zbh zne rfl (fun w hw=>zaO (i:=q) (zam zax (hw.has (p:=1) rfl)) (by omega) (by omega))) ?_
             refine ziw rfl rfl (zbn tf3 rfl (fun _ hw=>(zam zax (hw.has (p:=1) rfl))) (by omega) (by omega) rfl) ?_
             refine ziw rfl rfl (zab zfe rfl) ?_
             refine ziw rfl rfl (zah 0 tf3 rfl rfl rfl) ?_
             refine ziw rfl rfl (zbL rfl rfl) ?_
             refine ph_y (zaR rfl rfl rfl) ?_
             refine ph_y (zaf rfl) ?_
             refine ph_y (zaf rfl) ?_
             refine zaz (v:=.bool false) rfl rfl (fun hgd=>absurd hgd (by decide)) ?_
             refine zaz (v:=.bool false) rfl rfl (fun hgd=>absurd hgd (by decide)) ?_
             refine zaz (v:=.bool false) rfl rfl (fun hgd=>absurd hgd (by decide)) ?_
             refine zaz (v:=.bool false) rfl rfl (fun hgd=>absurd hgd (by decide)) ?_
             refine zaz (v:=.bool false) rfl rfl (fun hgd=>absurd hgd (by decide)) ?_
             refine zaz (v:=.bool false) rfl rfl (fun hgd=>absurd hgd (by decide)) ?_
             refine zaz (v:=.bool false) rfl rfl (fun hgd=>absurd hgd (by decide)) ?_
             refine zaz (v:=.bool false) rfl rfl (fun hgd=>absurd hgd (by decide)) ?_
             refine zaz (v:=.bool false) rfl rfl (fun hgd=>absurd hgd (by decide)) ?_
             refine zaz (v:=.bool false) rfl rfl (fun hgd=>absurd hgd (by decide)) ?_
             refine zaz (v:=.bool (decide (((zfC ((zar S2 V2 n).s)).getD (q).toNat default).to=(((zaN S2 V2 n).s.opens.getD (j).toNat default).frm+((zaN S2 V2 n).s.opens.getD (j).toNat default).high)))) rfl rfl (fun hgd=>absurd hgd (by decide)) ?_
             refine ph_y (za5 rfl rfl rfl) ?_
             refine ph_y (zad rfl) ?_
             refine ph_y (zad rfl) ?_
             refine zag (zae (T':=[(4,_),(14,_),(15,_),(17,_),(19,_),(20,_),(28,_),(29,_),(30,_),(31,_),(32,_)]) ⟨rfl,rfl,rfl,rfl,rfl,rfl,rfl,rfl,rfl,rfl,rfl,trivial⟩ ?_)
             refine zaa ?_
             refine gk_y rfl rfl (zaf rfl) ?_
             refine gk_y rfl rfl (zaY rfl rfl (by omega) (by omega)) ?_
             refine gk_y rfl rfl (zad rfl) ?_
             refine zag (zae (T':=[(4,_),(14,_),(15,_),(17,_),(19,_),(20,_),(28,_),(29,_),(30,_),(31,_),(32,_)]) ⟨rfl,rfl,rfl,rfl,rfl,rfl,rfl,rfl,rfl,rfl,rfl,trivial⟩ ?_)
             exact za1 (q+1,_,_) ⟨rfl,rfl,rfl,rfl,rfl,rfl,rfl,rfl,rfl,rfl,rfl,trivial⟩ rfl ⟨by omega,by omega,fun h=>by first | exact q2 rfl | exact⟨((zfC (zar S2 V2 n).s).getD q.toNat default),za0 (by omega),by simpa using h⟩,fun h=>by first | exact q3 rfl | exact⟨((zfC (zar S2 V2 n).s).getD q.toNat default),za0 (by omega),by simpa using h⟩⟩ (by simp only []; omega)
            ·
             refine zaq ?_
             refine zac ?_
             refine zas ?_
             refine zbb 27 (fun _=>mixed) (by kernel_rfl) ?_
             refine ph_y (zaf rfl) ?_
             refine ph_y (zaf rfl) ?_
             refine zaz (v:=.bool false) rfl rfl (fun hgd=>absurd hgd (by decide)) ?_
             refine zaz (v:=.bool false) rfl rfl (fun hgd=>absurd hgd (by decide)) ?_
             refine zaz (v:=.bool false) rfl rfl (fun hgd=>absurd hgd (by decide)) ?_
             refine zaz (v:=.bool false) rfl rfl (fun hgd=>absurd hgd (by decide)) ?_
             refine zaz (v:=.bool false) rfl rfl (fun hgd=>absurd hgd (by decide)) ?_
             refine zaz (v:=.bool false) rfl rfl (fun hgd=>absurd hgd (by decide)) ?_
             refine zaz (v:=.bool false) rfl rfl (fun hgd=>absurd hgd (by decide)) ?_
             refine zaz (v:=.bool (decide (((zfC ((zar S2 V2 n).s)).getD (q).toNat default).frm=((zaN S2 V2 n).s.opens.getD (j).toNat default).frm))) rfl rfl (fun hgd=>absurd hgd (by decide)) ?_
             refine ph_y (za5 rfl rfl rfl) ?_
             refine ph_y (zaf rfl) ?_
             refine ph_y (zaf rfl) ?_
             refine ziw rfl rfl (zaf rfl) ?_
             refine ziw rfl rfl (zaf rfl) ?_
             refine ziw rfl rfl (zaE se38 rfl rfl (fun _ hw=>(zam zax (hw.has (p:=1) rfl))) (by omega) (by omega)) ?_
             refine ziw rfl rfl (zbh zpx rfl (fun w hw=>zaO (i:=q) (zam zax (hw.has (p:=1) rfl)) (by omega) (by omega))) ?_
             refine ziw rfl rfl (zbn tf3 rfl (fun _ hw=>(zam zax (hw.has (p:=1) rfl))) (by omega) (by omega) rfl) ?_
             refine ziw rfl rfl (zab zfe rfl) ?_
             refine ziw rfl rfl (zah 0 tf3 rfl rfl rfl) ?_
             refine ziw rfl rfl (zab zhg rfl) ?_
             refine ziw rfl rfl (zah 0 tf3 rfl rfl rfl) ?_
             refine ziw rfl rfl (zaY rfl rfl (by omega) (by omega)) ?_
             refine ziw rfl rfl (zbL rfl rfl) ?_
             refine ph_y (zaR rfl rfl rfl) ?_
             refine ph_y (zad rfl) ?_
             refine ph_y (zad rfl) ?_
             refine zag (zae (T':=[(4,_),(14,_),(15,_),(17,_),(19,_),(20,_),(28,_),(29,_),(30,_),(31,_),(32,_)]) ⟨rfl,rfl,rfl,rfl,rfl,rfl,rfl,rfl,rfl,rfl,rfl,trivial⟩ ?_)
             refine zaa ?_
             refine gk_y rfl rfl (zaf rfl) ?_
             refine gk_y rfl rfl (zaY rfl rfl (by omega) (by omega)) ?_
             refine gk_y rfl rfl (zad rfl) ?_
             refine zag (zae (T':=[(4,_),(14,_),(15,_),(17,_),(19,_),(20,_),(28,_),(29,_),(30,_),(31,_),(32,_)]) ⟨rfl,rfl,rfl,rfl,rfl,rfl,rfl,rfl,rfl,rfl,rfl,trivial⟩ ?_)
             exact za1 (q+1,_,_) ⟨rfl,rfl,rfl,rfl,rfl,rfl,rfl,rfl,rfl,rfl,rfl,trivial⟩ rfl ⟨by omega,by omega,fun h=>by first | exact q2 rfl | exact⟨((zfC (zar S2 V2 n).s).getD q.toNat default),za0 (by omega),by simpa using h⟩,fun h=>by first | exact q3 rfl | exact⟨((zfC (zar S2 V2 n).s).getD q.toNat default),za0 (by omega),by simpa using h⟩⟩ (by simp only []; omega)
            ·
             refine zaq ?_
             refine zac ?_
             refine zas ?_
             refine zbb 27 (fun _=>mixed) (by kernel_rfl) ?_
             refine ph_y (zaf rfl) ?_
             refine ph_y (zaf rfl) ?_
             refine zaz (v:=.bool false) rfl rfl (fun hgd=>absurd hgd (by decide)) ?_
             refine zaz (v:=.bool false) rfl rfl (fun hgd=>absurd hgd (by decide)) ?_
             refine zaz (v:=.bool false) rfl rfl (fun hgd=>absurd hgd (by decide)) ?_
             refine zaz (v:=.bool false) rfl rfl (fun hgd=>absurd hgd (by decide)) ?_
             refine zaz (v:=.bool false) rfl rfl (fun hgd=>absurd hgd (by decide)) ?_
             refine zaz (v:=.bool false) rfl rfl (fun hgd=>absurd hgd (by decide)) ?_
             refine zaz (v:=.bool false) rfl rfl (fun hgd=>absurd hgd (by decide)) ?_
             refine zaz (v:=.bool (decide (((zfC ((zar S2 V2 n).s)).getD (q).toNat default).frm=((zaN S2 V2 n).s.opens.getD (j).toNat default).frm))) rfl rfl (fun hgd=>absurd hgd (by decide)) ?_
             refine ph_y (za5 rfl rfl rfl) ?_
             refine ph_y (zaf rfl) ?_
             refine ph_y (zaf rfl) ?_
             refine zaz (v:=.bool false) rfl rfl (fun hgd=>absurd hgd (by decide)) ?_
             refine zaz (v:=.bool false) rfl rfl (fun hgd=>absurd hgd (by decide)) ?_
             refine zaz (v:=.bool false) rfl rfl (fun hgd=>absurd hgd (by decide)) ?_
             refine zaz (v:=.bool false) rfl rfl (fun hgd=>absurd hgd (by decide)) ?_
             refine zaz (v:=.bool false) rfl rfl (fun hgd=>absurd hgd (by decide)) ?_
             refine zaz (v:=.bool false) rfl rfl (fun hgd=>absurd hgd (by decide)) ?_
             refine zaz (v:=.bool false) rfl rfl (fun hgd=>absurd hgd (by decide)) ?_
             refine zaz (v:=.bool false) rfl rfl (fun hgd=>absurd hgd (by decide)) ?_
             refine zaz (v:=.bool false) rfl rfl (fun hgd=>absurd hgd (by decide)) ?_
             refine zaz (v:=.bool false) rfl rfl (fun hgd=>absurd hgd (by decide)) ?_
             refine zaz (v:=.bool (decide (((zfC ((zar S2 V2 n).s)).getD (q).toNat default).to=(((zaN S2 V2 n).s.opens.getD (j).toNat default).frm+((zaN S2 V2 n).s.opens.getD (j).toNat default).high)))) rfl rfl (fun hgd=>absurd hgd (by decide)) ?_
             refine ph_y (za5 rfl rfl rfl) ?_
             refine ph_y (zad rfl) ?_
             refine ph_y (zad rfl) ?_
             refine zag (zae (T':=[(4,_),(14,_),(15,_),(17,_),(19,_),(20,_),(28,_),(29,_),(30,_),(31,_),(32,_)]) ⟨rfl,rfl,rfl,rfl,rfl,rfl,rfl,rfl,rfl,rfl,rfl,trivial⟩ ?_)
             refine zaa ?_
             refine gk_y rfl rfl (zaf rfl) ?_
             refine gk_y rfl rfl (zaY rfl rfl (by omega) (by omega)) ?_
             refine gk_y rfl rfl (zad rfl) ?_
             refine zag (zae (T':=[(4,_),(14,_),(15,_),(17,_),(19,_),(20,_),(28,_),(29,_),(30,_),(31,_),(32,_)]) ⟨rfl,rfl,rfl,rfl,rfl,rfl,rfl,rfl,rfl,rfl,rfl,trivial⟩ ?_)
             exact za1 (q+1,_,_) ⟨rfl,rfl,rfl,rfl,rfl,rfl,rfl,rfl,rfl,rfl,rfl,trivial⟩ rfl ⟨by omega,by omega,fun h=>by first | exact q2 rfl | exact⟨((zfC (zar S2 V2 n).s).getD q.toNat default),za0 (by omega),by simpa using h⟩,fun h=>by first | exact q3 rfl | exact⟨((zfC (zar S2 V2 n).s).getD q.toNat default),za0 (by omega),by simpa using h⟩⟩ (by simp only []; omega)
           ·
            refine za8 rfl ?_
            refine zaa ?_
            refine gk_y rfl rfl (zaf rfl) ?_
            refine gk_y rfl rfl (zaf rfl) ?_
            refine zai rfl rfl rfl rfl (fun hg372=>?_) (fun hg372=>?_)
            ·replace hg372:_=true:=hg372
             try rw [hg372]
             refine gk_y rfl rfl (zaf rfl) ?_
             refine gk_y rfl rfl (za5 rfl rfl rfl) ?_
             refine gk_y rfl rfl (zaf rfl) ?_
             refine zai rfl rfl rfl rfl (fun hg375=>?_) (fun hg375=>?_)
             ·replace hg375:_=true:=hg375
              try rw [hg375]
              refine gk_y rfl rfl (zaf rfl) ?_
              refine gk_y rfl rfl (za5 rfl rfl rfl) ?_
              refine gk_y rfl rfl (zad rfl) ?_
              refine zag (zae (T':=[(4,_),(14,_),(15,_),(17,_),(19,_),(20,_),(28,_)]) ⟨rfl,rfl,rfl,rfl,rfl,rfl,rfl,trivial⟩ ?_)
              refine zaa ?_
              refine gk_y rfl rfl (zaf rfl) ?_
              refine gk_y rfl rfl (zaY rfl rfl (by omega) (by omega)) ?_
              refine gk_y rfl rfl (zad rfl) ?_
              refine zag (zae (T':=[(4,_),(14,_),(15,_),(17,_),(19,_),(20,_),(28,_)]) ⟨rfl,rfl,rfl,rfl,rfl,rfl,rfl,trivial⟩ ?_)
              refine zaK 0 rfl ?_
              exact za1 (j+1,ar+opnA ((zaN S2 V2 n).s.opens.getD j.toNat default),_) ⟨rfl,rfl,rfl,rfl,rfl,rfl,rfl,trivial⟩ rfl ⟨by omega,by omega,by omega,by omega,fun h t ht=>by first | exact absurd h (by decide) | (rcases Int.lt_or_eq_of_le (show(t:Int)≤j by omega) with hlt | heq <;> first | exact j4 (by assumption) t hlt | (have e:t=j.toNat:=(by omega); rw [e]; exact⟨q2 (by assumption),q3 h⟩))⟩ (by simp only []; omega)
             ·replace hg375:_=false:=hg375
              try rw [hg375]
              refine gk_y rfl rfl (za5 rfl rfl rfl) ?_
              refine gk_y rfl rfl (zad rfl) ?_
              refine zag (zae (T':=[(4,_),(14,_),(15,_),(17,_),(19,_),(20,_),(28,_)]) ⟨rfl,rfl,rfl,rfl,rfl,rfl,rfl,trivial⟩ ?_)
              refine zaa ?_
              refine gk_y rfl rfl (zaf rfl) ?_
              refine gk_y rfl rfl (zaY rfl rfl (by omega) (by omega)) ?_
              refine gk_y rfl rfl (zad rfl) ?_
              refine zag (zae (T':=[(4,_),(14,_),(15,_),(17,_),(19,_),(20,_),(28,_)]) ⟨rfl,rfl,rfl,rfl,rfl,rfl,rfl,trivial⟩ ?_)
              refine zaK 0 rfl ?_
              exact za1 (j+1,ar+opnA ((zaN S2 V2 n).s.opens.getD j.toNat default),_) ⟨rfl,rfl,rfl,rfl,rfl,rfl,rfl,trivial⟩ rfl ⟨by omega,by omega,by omega,by omega,fun h t ht=>by first | exact absurd h (by decide) | (rcases Int.lt_or_eq_of_le (show(t:Int)≤j by omega) with hlt | heq <;> first | exact j4 (by assumption) t hlt | (have e:t=j.toNat:=(by omega); rw [e]; exact⟨q2 (by assumption),q3 h⟩))⟩ (by simp only []; omega)
            ·replace hg372:_=false:=hg372
             try rw [hg372]
             refine gk_y rfl rfl (za5 rfl rfl rfl) ?_
             refine gk_y rfl rfl (zaf rfl) ?_
             refine zai rfl rfl rfl rfl (fun h=>absurd h (by decide)) (fun _=>?_)
             refine gk_y rfl rfl (za5 rfl rfl rfl) ?_
             refine gk_y rfl rfl (zad rfl) ?_
             refine zag (zae (T':=[(4,_),(14,_),(15,_),(17,_),(19,_),(20,_),(28,_)]) ⟨rfl,rfl,rfl,rfl,rfl,rfl,rfl,trivial⟩ ?_)
             refine zaa ?_
             refine gk_y rfl rfl (zaf rfl) ?_
             refine gk_y rfl rfl (zaY rfl rfl (by omega) (by omega)) ?_
             refine gk_y rfl rfl (zad rfl) ?_
             refine zag (zae (T':=[(4,_),(14,_),(15,_),(17,_),(19,_),(20,_),(28,_)]) ⟨rfl,rfl,rfl,rfl,rfl,rfl,rfl,trivial⟩ ?_)
             refine zaK 0 rfl ?_
             exact za1 (j+1,ar+opnA ((zaN S2 V2 n).s.opens.getD j.toNat default),_) ⟨rfl,rfl,rfl,rfl,rfl,rfl,rfl,trivial⟩ rfl ⟨by omega,by omega,by omega,by omega,fun h t ht=>by first | exact absurd h (by decide) | (rcases Int.lt_or_eq_of_le (show(t:Int)≤j by omega) with hlt | heq <;> first | exact j4 (by assumption) t hlt | (have e:t=j.toNat:=(by omega); rw [e]; exact⟨q2 (by assumption),q3 h⟩))⟩ (by simp only []; omega)
         ·have hc325:=of_decide_eq_false hc325
          rw [zyH hc325,Int.add_zero] at j3
          have hev2:ev=true→(zaN S2 V2 n).s.length*(zar S2 V2 n).s.height=ar:=fun h=>by rw [←zyr hsp hwb (zyP hsp (by rw [←hcs]; exact fun o ho=>by obtain⟨t,ht,rfl⟩:=List.getElem_of_mem ho; have:=j4 h t (by omega); rw [Zgg ht] at this; exact this))]; omega
          refine za8 rfl ?_
          refine zac ?_
          refine zaa ?_
          refine gk_y rfl rfl (zaf rfl) ?_
          refine gk_y rfl rfl (zab zgo rfl) ?_
          refine gk_y rfl rfl (zah 2 tf3 rfl rfl rfl) ?_
          refine gk_y rfl rfl (zab zep rfl) ?_
          refine gk_y rfl rfl (zah 1 tf3 rfl rfl rfl) ?_
          refine gk_y rfl rfl (zq0 rfl rfl (by omega) (by omega)) ?_
          refine gk_y rfl rfl (zbQ (zeT rfl rfl) (by exact decide_eq_true (by omega))) ?_
          refine gk_y rfl rfl (zaf rfl) ?_
          refine zai rfl rfl rfl rfl (fun _=>?_) (fun h=>absurd h (by decide))
          refine gk_y rfl rfl (zaf rfl) ?_
          refine zai rfl rfl rfl rfl (fun _=>?_) (fun h=>absurd h (by decide))
          refine gk_y rfl rfl (zbR rfl) ?_
          refine zai rfl rfl rfl rfl (fun _=>?_) (fun h=>absurd h (by decide))
          refine gk_y rfl rfl (zaf rfl) ?_
          refine zai rfl rfl rfl rfl (fun hg388=>?_) (fun hg388=>?_)
          ·replace hg388:_=false:=hg388
           try rw [hg388]
           refine gk_y rfl rfl (zaf rfl) ?_
           refine zai rfl rfl rfl rfl (fun _=>?_) (fun h=>absurd h (by decide))
           refine gk_y rfl rfl (zab zgo rfl) ?_
           refine zai rfl rfl rfl rfl (fun _=>?_) (fun h=>absurd h (by decide))
           refine gk_y rfl rfl (zah 2 tf3 rfl rfl rfl) ?_
           refine zai rfl rfl rfl rfl (fun _=>?_) (fun h=>absurd h (by decide))
           refine gk_y rfl rfl (zab zep rfl) ?_
           refine zai rfl rfl rfl rfl (fun _=>?_) (fun h=>absurd h (by decide))
           refine gk_y rfl rfl (zah 1 tf3 rfl rfl rfl) ?_
           refine zai rfl rfl rfl rfl (fun _=>?_) (fun h=>absurd h (by decide))
           refine gk_y rfl rfl (zq0 rfl rfl (by omega) (by omega)) ?_
           refine zai rfl rfl rfl rfl (fun _=>?_) (fun h=>absurd h (by decide))
           refine gk_y rfl rfl (zbQ (zbL rfl rfl) (by exact decide_eq_true (hev2 (by simpa using hg388)).symm)) ?_
           refine zai rfl rfl rfl rfl (fun _=>?_) (fun h=>absurd h (by decide))
           refine gk_y rfl rfl (za5 rfl rfl rfl) ?_
           refine gk_y rfl rfl (za5 rfl rfl rfl) ?_
           refine gk_y rfl rfl (zaf rfl) ?_
           refine zai rfl rfl rfl rfl (fun _=>?_) (fun h=>absurd h (by decide))
           refine gk_y rfl rfl (zaJ en13 rfl (fun w hw=>zkw w (Rd.has (Has.rd hmx) hw) (Rd.has (Has.rd hcp) hw) (Rd.has (Has.rd hop) hw))) ?_
           refine gk_y rfl rfl (za5 rfl rfl rfl) ?_
           refine gk_y rfl rfl (zad rfl) ?_
           refine zag (zae (T':=[(4,_)]) ⟨rfl,trivial⟩ ?_)
           refine zaw ?_
           refine zay (zaC rfl (zau rfl)) ?_
           rfl
          ·replace hg388:_=true:=hg388
           try rw [hg388]
           refine zai rfl rfl rfl rfl (fun h=>absurd h (by decide)) (fun _=>?_)
           refine zai rfl rfl rfl rfl (fun h=>absurd h (by decide)) (fun _=>?_)
           refine zai rfl rfl rfl rfl (fun h=>absurd h (by decide)) (fun _=>?_)
           refine zai rfl rfl rfl rfl (fun h=>absurd h (by decide)) (fun _=>?_)
           refine zai rfl rfl rfl rfl (fun h=>absurd h (by decide)) (fun _=>?_)
           refine zai rfl rfl rfl rfl (fun h=>absurd h (by decide)) (fun _=>?_)
           refine zai rfl rfl rfl rfl (fun _=>?_) (fun h=>absurd h (by decide))
           refine gk_y rfl rfl (za5 rfl rfl rfl) ?_
           refine gk_y rfl rfl (za5 rfl rfl rfl) ?_
           refine gk_y rfl rfl (zaf rfl) ?_
           refine zai rfl rfl rfl rfl (fun _=>?_) (fun h=>absurd h (by decide))
           refine gk_y rfl rfl (zaJ en13 rfl (fun w hw=>zkw w (Rd.has (Has.rd hmx) hw) (Rd.has (Has.rd hcp) hw) (Rd.has (Has.rd hop) hw))) ?_
           refine gk_y rfl rfl (za5 rfl rfl rfl) ?_
           refine gk_y rfl rfl (zad rfl) ?_
           refine zag (zae (T':=[(4,_)]) ⟨rfl,trivial⟩ ?_)
           refine zaw ?_
           refine zay (zaC rfl (zau rfl)) ?_
           rfl
 ·replace hg36:_=true:=hg36
  try rw [hg36]
  refine zai rfl rfl rfl rfl (fun h=>absurd h (by decide)) (fun _=>?_)
  refine zai rfl rfl rfl rfl (fun h=>absurd h (by decide)) (fun _=>?_)
  refine gk_y rfl rfl (za5 rfl rfl rfl) ?_
  refine zag (zae (T':=[(1,_),(2,_),(4,_),(40,_)]) ⟨rfl,rfl,rfl,rfl,trivial⟩ ?_)
  refine zdg rfl ?_
  refine zac ?_
  refine zaa ?_
  refine gk_y rfl rfl (zaJ en13 rfl (fun w hw=>zkw w (Rd.has (Has.rd hmx) hw) (Rd.has (Has.rd hcp) hw) (Rd.has (Has.rd hop) hw))) ?_
  refine gk_y rfl rfl (zad rfl) ?_
  refine zag (zae (T':=[(1,_),(2,_),(4,_)]) ⟨rfl,rfl,rfl,trivial⟩ ?_)
  refine zaw ?_
  refine zay (zaC rfl (zau rfl)) ?_
  rfl
end Go.Proofs.YtdcfcfhmkfkgmaaGreatDoor
namespace Go.K
open Go Go.Stn Go.ChangeShapes Go.WideShapes Go.ChangeAt Go.WideElems Go.RowKit
theorem zp6 {α:Type} {Q:Nat→α→Prop}:∀ n,(∀ i,i < n→∃ x,Q i x)→∃ l:List α,l.length=n∧∀ i x,l[i]?=some x→Q i x
 | 0,_=>⟨[],rfl,fun i x h=>by simp at h⟩
 | n+1,h=>by
  obtain⟨l,hl,hq⟩:=zp6 n (fun i hi=>h i (by omega))
  obtain⟨x,hx⟩:=h n (by omega)
  refine⟨l++[x],by simp [hl],fun i y hy=>?_⟩
  rcases Nat.lt_or_ge i n with hi | hi
  ·rw [List.getElem?_append_left (by omega)] at hy; exact hq i y hy
  ·rw [List.getElem?_append_right (by omega),hl] at hy
   have:i=n:=by
    rcases Nat.lt_or_ge n i with g | g
    ·rw [List.getElem?_eq_none (by simp; omega)] at hy; cases hy
    ·omega
   subst this
   simp at hy
   subst hy; exact hx
section
variable {H:Type} {enc:TypeId×Value→H} {P:Program}
theorem zgK (hl:laidOutB P=true) {W W':World} {sp':Nat→Bool}:∀ (ts:List TypeId) (vs:List Value) (ds:List (DataW H)) (ps:List MemPlace),(∀ t∈ts,P.readableRec t=true∧t < P.types.size) →
  DataW.TrodAll enc P W 0 (fun _=>true) true ts vs ds ps→(∀ p∈ps,W.sameAt W' p)→(∀ p∈ps,sp' p.block=true)→DataW.TrodAll enc P W' 0 sp' true ts vs ds ps
 | [],[],[],ps,_,h,_,_=>h
 | t :: ts,v :: vs,d :: ds,ps,hr,⟨p,q,h1,h2,he⟩,hs,hsp=>by
  subst he
  exact⟨p,q,Trod_stays hl (hr t (List.mem_cons_self ..)).1 (hr t (List.mem_cons_self ..)).2 h1 (fun x hx=>hs x (List.mem_append_left _ hx)) (fun x hx=>hsp x (List.mem_append_left _ hx)),
   zgK hl ts vs ds q (fun x hx=>hr x (List.mem_cons_of_mem _ hx)) h2 (fun x hx=>hs x (List.mem_append_right _ hx)) (fun x hx=>hsp x (List.mem_append_right _ hx)),rfl⟩
 | [],[],_ :: _,_,_,h,_,_=>h.elim
 | [],_ :: _,_,_,_,h,_,_=>h.elim
 | _ :: _,[],_,_,_,h,_,_=>h.elim
 | _ :: _,_ :: _,[],_,_,h,_,_=>h.elim
theorem law_post {f:Func} {s:ChangeSpec} {apart fresh handsOn again:Bool} {W W':World} {args:Array Value} {ds:List (DataW H)} {before:List MemPlace} {tb:TypeId} (hl:laidOutB P=true)
  (hW:DataW.Whole enc P f.params.toList s.vars apart W args.toList ds [] before) (hvars:s.vars=[]) (hread:f.params.toList.all (fun t=>P.readableRec t&&decide (t < P.types.size))=true)
  (hfn:s.fn H (ds++[])={ results:=[.lit (.bool true)],args:=ds }) (hrt:f.resultTypes=#[tb]) (htb:P.underlying tb=some .bool) (hb:Ext W W'):s.post enc P f apart fresh handsOn again W args (.bool true) W':=by
 have hlt:∀ p∈before,p.block < W.heap.size:=fun p hp=>hW.lt p hp
 have hold:∀ p∈before,(fun b=>decide (b < W.heap.size)) p.block=true:=fun p hp=>by simpa using hlt p hp
 have hW0:=hW
 obtain⟨p,q,hA,hV,hpq,hz,hn⟩:=hW
 rw [hvars] at hV
 obtain⟨_,rfl⟩:=trodVars_none hV
 rw [List.append_nil] at hpq
 subst hpq
 have hr:∀ t∈f.params.toList,P.readableRec t=true∧t < P.types.size:=fun t ht=>by
  have:=List.all_eq_true.1 hread t ht
  simpa using this
 have hsame:∀ x∈before,W.sameAt W' x:=fun x hx=>by
  have hlx:=hlt x hx
  cases x with
  | cell b off=>exact hb.below.cell (p:=⟨b,off,none⟩) hlx
  | map b=>exact hb.block b hlx
 have hargs:∀ sp:Nat→Bool,(∀ p∈before,sp p.block=true)→DataW.TrodAll enc P W' 0 sp true f.params.toList args.toList ds before:=fun sp hsp=>zgK hl _ _ _ _ hr hA hsame hsp
 have hres:∀ (b:Nat) (sp:Nat→Bool) (hd:Bool),DataW.TrodAll enc P W' b sp hd f.resultTypes.toList ((Value.bool true).resultList f.resultTypes.size) [.lit (.bool true)] []:=fun b sp hd=>by
  rw [hrt]
  exact⟨[],[],⟨1,by simp [DataW.trod,Value.cells,htb]⟩,rfl,rfl⟩
 refine⟨ds,[],before,[],before,[],hW0,?_,?_,?_,World.keptBut_mono (fun p hp=>⟨hp,Or.inr (Or.inl hp)⟩) (hb.below.frame (·∈before)),fun _=>?_⟩
 ·rw [hfn]; exact hres _ _ _
 ·rw [hfn]; exact hargs _ hold
 ·rw [hfn,hvars]; rfl
 ·refine⟨fun j t r ht hrr=>?_,ds.cons (.lit (.bool true)),[],before,⟨before,[],?_,by rw [hvars]; rfl,by simp,?_,?_⟩,fun x hx _=>hx⟩
  ·rw [hrt] at ht hrr
   have h0:t=tb:=by
    rcases j with _ | j
    ·simpa using ht.symm
    ·simp at ht
   have h1:r=.bool true:=by
    rcases j with _ | j
    ·simpa [Value.resultList] using hrr.symm
    ·simp at ht
   subst h0; subst h1
   exact okWide_bool_mk htb true
  ·have h1:=trodAll_append (hargs (fun _=>true) (fun _ _=>rfl)) (hres 0 (fun _=>true) true)
   simpa using h1
  ·intro b off hp
   rw [hb.below.frozen (hlt _ hp)]
   exact hz b off (by simpa using hp)
  ·intro ha
   have:=hn ha
   simpa using this
end
end Go.K
namespace Go.Proofs.YtdcfcfhmkfkgmaaGreatDoor
open Go Go.K Go.Stn Go.Pln Go.ChangeShapes Go.WideShapes Go.ChangeAt Go.RowKit
theorem own:ownKnob Tryz.prog.godebug=none:=by kernel_rfl
theorem laidOut:laidOutB Tryz.prog=true:=by kernel_rfl
abbrev laidR:List (String×DataW Unit):=Rows.planChecksRow.laid
noncomputable def worldR (os:Os):World:=(World.doorLaid Tryz.prog 400 os).layVars Tryz.prog [("unicode/utf8.first",Go.Pinned.utf8First)]
theorem worldR_os (os:Os):(worldR os).os=os:=World.layVars_os _ _ _
theorem door_metR (os:Os) (args:Array Value):laidMetH Tryz.prog laidR ((worldR os).forCall (fun _ _=>0) ⟨#[],args,[]⟩).memory:=
 laidMetH_of_parts3 (fuel:=8) (laidMet_of_run' 8 (by kernel_rfl) (by kernel_rfl)) (by kernel_rfl) (by kernel_rfl)
section
variable {H:Type} {enc:TypeId×Value→H}
theorem returnsInHanded_of_change_and_shaped {a:Assume} {C:Checked} {os:Os} {f:FuncId} {fn:Func} {s:ChangeSpec} {conds:List PathCond} {apart fresh handsOn again:Bool} {X:World→Array Value→Prop}
  (hX:∀ (w w':World) (args:Array Value),w.heap=w'.heap→X w args→X w' args)
  (own:ownKnob C.prog.godebug=none) (started:os.Started) (noInit:C.prog.inits.idxOf? f=none) (hfn:C.prog.funcs[f]?=some fn)
  (witness:∃ (w:World) (tape:Tape) (i:Input),w.os=os∧(w.forCall tape i).Shaped C.prog∧i.vars=[]∧Input.okWide C.prog (w.forCall tape i) .any w.heap.size f i ∧
   ((s.pre enc C.prog fn conds apart (w.forCall tape i).memory i.args∧X (w.forCall tape i).memory i.args)∧sizedMet enc C.prog fn (OpenSpec.ofChange s) apart (w.forCall tape i).memory i.args)∧a.holds C.prog (lone (Frame.enter C.prog f i.args .normal) [] (w.forCall tape i)))
  (contract:∀ (W:World) (base:Nat) (args:Array Value) (ds gs:List (DataW H)) (before:List MemPlace),
   (∀ (j:Nat) t v,fn.params[j]?=some t→args[j]?=some v→Value.okWide C.prog W .any base t v) →
   DataW.Whole enc C.prog fn.params.toList s.vars apart W args.toList ds gs before →
   conds.all (PathCond.test C.prog ⟨fn.params.toList,ds,s.plain.varTypes C.prog,gs⟩)=true →
   (DataW.weightsEach C.prog (fn.params.toList++s.plain.varTypes C.prog) (ds++gs)).all (·≤reachBytes)=true→X W args →
   W.ShapedOpen C.prog →
   Calls C.prog f args W fun e W'=>∃ v,e=.returned v∧s.post enc C.prog fn apart fresh handsOn again W args v W') :
  ReturnsInHanded a C os f .any (fun w args=>(s.pre enc C.prog fn conds apart w args∧X w args)∧sizedMet enc C.prog fn (OpenSpec.ofChange s) apart w args) (s.post enc C.prog fn apart fresh handsOn again):=by
 refine returnsInHanded_of_calls own started noInit witness ?_
 intro w tape i _ hsh _ hok hpre _
 obtain⟨_,_,_,fn',hfn',_,_,_,_,hval⟩:=hok
 have e:fn' = fn:=Option.some.inj (hfn'.symm.trans hfn)
 subst e
 obtain⟨⟨⟨ds,gs,before,hw,hc⟩,hx⟩,hz⟩:=hpre
 have hw':=DataW.Whole.of_heap (w':=w.forCall tape i) (by rfl) hw
 refine(contract (w.forCall tape i) w.heap.size i.args ds gs before hval hw' hc (hz.weights hw) (hX _ _ _ (by rfl) hx) hsh).mono fun e W' ⟨v,he,hp⟩=>?_
 subst he
 exact ChangeSpec.post_blind hp
end
theorem zo3 {W:World} {b o:Nat} {v:Value} (h:W.cell? ⟨b,o,none⟩=some v):b < W.heap.size:=by
 rcases Nat.lt_or_ge b W.heap.size with g | g
 ·exact g
 ·exfalso
  simp [World.cell?,Array.getElem?_eq_none g] at h
theorem int_of_shape {W:World} (h:W.ShapedOpen Tryz.prog):Has W (IntV 2):=by
 obtain⟨m,hm⟩:=cell_of_shapedOpen_int (P:=Tryz.prog) (g:=2) (t:=3) (zero:=#[.int .i64 0]) (k:=.i64) h (of_decide_eq_true (by kernel_rfl)) (by kernel_rfl) rfl (by kernel_rfl) (by kernel_rfl) Tryz.underlying3
 exact⟨(· = 2),fun k hk=>by rw [hk]; exact zo3 hm,fun _=>Iff.rfl,m,hm⟩
theorem zok {W:World} {l:List (String×DataW Unit)} (h:laidMetH Tryz.prog l W) {n:String} {d:DataW Unit} (hm:(n,d)∈l) (hd:d.handleName?.isNone=true):Lib.VarReads Tryz.prog W n d:=by
 unfold laidMetH at h
 split at h
 ·exact Lib.laidMet.reads h hm
 ·exact Lib.laidMet.reads h.1 (List.mem_filter.2 ⟨hm,hd⟩)
theorem zlF {t:TypeId} {k:Nat} {W:World} {fuel:Nat} {l:List Value} {L:List ByteArray} {p:List MemPlace} (ht:Tryz.prog.underlying t=some (.array k 9)) (hct:Tryz.prog.cellsOf t=k) (hk:k=L.length)
  (h:DataW.trod (fun _=>()) Tryz.prog W 0 (fun _=>true) false fuel t l=some (.agg (L.map fun s=>.lit (.string s.data.toList)),p)):l=L.map fun s=>.string s:=by
 obtain⟨xs,m,_,hx,hlen,hn,hel⟩:=DataW.trod_array ht h
 have c9:Tryz.prog.cellsOf 9=1:=by kernel_rfl
 rw [c9] at hel
 simp only [Prod.mk.injEq,DataW.agg.injEq] at hx
 have hc:l.length=k:=by rw [hlen,hct]
 refine List.ext_getElem? fun i=>?_
 rw [List.getElem?_map]
 rcases Nat.lt_or_ge i k with hi | hi
 ·have he:=hel i hi
  have hli:i < l.length:=by omega
  have hLi:i < L.length:=by omega
  have hxi:i < xs.length:=by omega
  rw [Nat.mul_one,List.drop_eq_getElem_cons hli,List.getElem?_eq_getElem hxi] at he
  have he1:DataW.trod (fun _=>()) Tryz.prog W 0 (fun _=>true) false m 9 [l[i]]=some xs[i]:=he
  obtain⟨s,e0,ey,_⟩:=DataW.trod_string Tryz.underlying9 he1
  have h1:(L.map fun s=>(DataW.lit (Lit.string s.data.toList):DataW Unit))[i]?=(xs.map (·.1))[i]?:=by rw [hx.1]
  rw [List.getElem?_map,List.getElem?_map,List.getElem?_eq_getElem hLi,List.getElem?_eq_getElem hxi,ey] at h1
  simp only [Option.map_some,Option.some.injEq,DataW.lit.injEq,Lit.string.injEq] at h1
  have h2:L[i]=s:=by
   have:=Array.toList_inj.1 h1
   exact ByteArray.ext this
  simp only [List.cons.injEq,and_true] at e0
  rw [List.getElem?_eq_getElem hli,List.getElem?_eq_getElem hLi,e0,h2]
  rfl
 ·rw [List.getElem?_eq_none (by omega),List.getElem?_eq_none (by omega)]; rfl
theorem znT {W:World} {g:Nat} {nm:String} {t:TypeId} {k:Nat} {L:List ByteArray} {l:List (String×DataW Unit)} (h:laidMetH Tryz.prog l W) (hm:(nm,.agg (L.map fun s=>.lit (.string s.data.toList)))∈l)
  (hd:(DataW.agg (L.map fun s=>.lit (.string s.data.toList)):DataW Unit).handleName?.isNone=true)
  (hg:Tryz.prog.globalNamed nm=some g) (htg:(Tryz.prog.globals[g]?).map (·.type)=some t) (ht:Tryz.prog.underlying t=some (.array k 9)) (hct:Tryz.prog.cellsOf t=k) (hk:k=L.length) (h0:0 < k):Has W (zaW (some ⟨g,0,none⟩) 1 encS L):=by
 obtain⟨g',t',cs,fuel,p,hg',ht',hv,hd'⟩:=zok h hm hd
 obtain rfl:=Option.some.inj (hg.symm.trans hg')
 obtain rfl:=Option.some.inj (htg.symm.trans ht')
 have hcs:=zlF ht hct hk hd'
 have hc:=World.var?_cell hg hv
 have hcell:∀ i x,L[i]?=some x→W.cell? ⟨g,i,none⟩=some (.string x):=fun i x hi=>by
  rw [hc i]
  obtain⟨lc⟩:=cs
  have h1:lc=_:=hcs
  rw [h1]
  simp [hi]
 refine⟨(· = g),fun b hb=>?_,.inr ⟨g,0,rfl,fun _=>Iff.rfl,fun i x hi=>⟨?_,trivial⟩⟩⟩
 ·rw [hb]
  match L,hk with
  | x :: r,_=>exact zo3 (hcell 0 x rfl)
  | [],hk=>exact absurd hk (by simp; omega)
 ·rw [Nat.zero_add,Nat.mul_one]; exact hcell i x hi
theorem copes_of_laid {W:World} {l:List (String×DataW Unit)} (h:laidMetH Tryz.prog l W) (hm:("copestone/plan.copes",Rows.laid_copestone_plan_copes)∈l):Has W (zaW (some ⟨0,0,none⟩) 1 encS zeZ):=
 znT (t:=137) (k:=4) h hm (by kernel_rfl) (by kernel_rfl) (by kernel_rfl) Tryz.underlying137 (by kernel_rfl) rfl (by decide)
theorem opens_of_laid {W:World} {l:List (String×DataW Unit)} (h:laidMetH Tryz.prog l W) (hm:("copestone/plan.openings",Rows.laid_copestone_plan_openings)∈l):Has W (zaW (some ⟨1,0,none⟩) 1 encS opensW):=
 znT (t:=138) (k:=5) h hm (by kernel_rfl) (by kernel_rfl) (by kernel_rfl) Tryz.underlying138 (by kernel_rfl) rfl (by decide)
end Go.Proofs.YtdcfcfhmkfkgmaaGreatDoor
namespace Go.Proofs.YtdcfcfhmkfkgmaaGreatDoor
open Go Go.K Go.Stn Go.Pln Go.ChangeShapes Go.WideShapes Go.ChangeAt Go.WideElems Go.RowKit
section
variable {H:Type} {enc:TypeId×Value→H} {P:Program} {w:World} {base:Nat} {spare:Nat→Bool} {held:Bool}
theorem ziT {e:TypeId} {d:DataW H}:∀ {l:List (DataW H)},d∈l→∀ n∈d.weights P e,n∈DataW.weightsAll P e l
 | [],h,_,_=>by cases h
 | x :: r,h,n,hn=>by
  rw [DataW.weightsAll]
  rcases List.mem_cons.1 h with rfl | h
  ·exact List.mem_append_left _ hn
  ·exact List.mem_append_right _ (ziT h n hn)
def WOk (P:Program) (t:TypeId) (d:DataW H):Prop:=∀ n∈d.weights P t,n≤reachBytes
theorem wok_each:∀ {ts:List TypeId} {ds:List (DataW H)},(∀ n∈DataW.weightsEach P ts ds,n≤reachBytes)→∀ (i:Nat) t d,ts[i]?=some t→ds[i]?=some d→WOk P t d
 | [],_,_,i,t,d,h1,_=>by simp at h1
 | _ :: _,[],_,i,t,d,_,h2=>by simp at h2
 | t0 :: ts,d0 :: ds,h,i,t,d,h1,h2=>by
  rw [DataW.weightsEach] at h
  cases i with
  | zero=>
   simp only [List.getElem?_cons_zero,Option.some.injEq] at h1 h2
   subst h1; subst h2
   exact fun n hn=>h n (List.mem_append_left _ hn)
  | succ i=>
   simp only [List.getElem?_cons_succ] at h1 h2
   exact wok_each (fun n hn=>h n (List.mem_append_right _ hn)) i t d h1 h2
theorem zoH {t:TypeId} {fs:Array Field} (ht:P.underlying t=some (.struct fs)) {ys:List (DataW H×List MemPlace)} (h:WOk P t (.agg (ys.map (·.1)))) {i:Nat} {f:Field} {y:DataW H×List MemPlace} (hf:fs[i]?=some f) (hy:ys[i]?=some y):WOk P f.type y.1:=by
 have h':∀ n∈DataW.weightsEach P (fs.toList.map (·.type)) (ys.map (·.1)),n≤reachBytes:=fun n hn=>h n (by rw [DataW.weights,ht]; exact hn)
 refine wok_each h' i f.type y.1 ?_ ?_
 ·rw [List.getElem?_map,Array.getElem?_toList,hf]; rfl
 ·rw [List.getElem?_map,hy]; rfl
theorem zop {α:Type} {enc':α→List Value} {n:Nat} {Q:α→Prop} {t e:TypeId} {fuel:Nat} {cs:List Value} {x:DataW H×List MemPlace} (ht:P.underlying t=some (.slice e)) (hc:P.cellsOf e=n) (hn:Enc n enc')
  (hel:∀ (fuel:Nat) (cs:List Value) (y:DataW H×List MemPlace),DataW.trod enc P w base spare held fuel e cs=some y→WOk P e y.1→∃ z,Q z∧cs=enc' z)
  (h:DataW.trod enc P w base spare held fuel t cs=some x) (hx:WOk P t x.1) :
  ∃ (a:Option Addr) (L:List α) (cap:Nat),cs=[.slice a L.length cap]∧Has w (zaW a n enc' L)∧L.length≤cap∧(∀ z∈L,Q z)∧L.length*P.bytesOf e≤reachBytes:=by
 rcases Go.Deep.open_slice ht h with ⟨rfl,_⟩ | ⟨a,len,cap,m,k,D,Pl,rfl,hb,hl,hm,hmm,hxe,hi⟩
 ·exact⟨none,[],0,rfl,⟨fun _=>False,fun _ h=>h.elim,.inl rfl⟩,Nat.le_refl _,by simp,by simp⟩
 ·have hlm:len≤m:=by rw [hmm]; split <;> omega
  have hw:∀ v∈(len+(m - len))*P.bytesOf e :: (DataW.weightsAll P e ((List.range len).map D)++DataW.weightsAll P e ((List.range (m - len)).map fun j=>D (len+j))),v≤reachBytes:=fun v hv=>by
   refine hx v ?_
   rw [hxe,DataW.weights,ht]
   simpa using hv
  obtain⟨L,hll,hq⟩:=zp6 (Q:=fun i (z:α)=>Q z∧∀ j v,(enc' z)[j]?=some v→w.cell? (a.add (i*n+j))=some v) len (fun i hil=>by
   obtain⟨cs',hcs,ht'⟩:=hi i (by omega)
   obtain⟨z,hz,rfl⟩:=hel _ _ _ ht' (fun v hv=>hw v (List.mem_cons_of_mem _ (List.mem_append_left _ (ziT (List.mem_map.2 ⟨i,List.mem_range.2 hil,rfl⟩) v hv))))
   rw [hc] at hcs
   obtain⟨_,_,hat⟩:=World.cells?_some hcs
   refine⟨z,hz,fun j v hj=>?_⟩
   have hjn:j < n:=by
    have:=(List.getElem?_eq_some_iff.1 hj).1
    rw [hn.len] at this; exact this
   have h0:=hat j hjn
   rw [Go.Deep.add_add] at h0
   rw [h0]; exact hj)
  refine⟨some a,L,cap,by rw [hll],?_,by omega,fun z hz=>?_,?_⟩
  ·cases L with
   | nil=>exact⟨fun _=>False,fun _ h=>h.elim,.inl rfl⟩
   | cons z0 r=>
    obtain⟨v0,hv0⟩:∃ v0,(enc' z0)[0]?=some v0:=by
     have:0 < (enc' z0).length:=by rw [hn.len]; exact hn.pos
     exact⟨_,List.getElem?_eq_getElem this⟩
    have hc0:=(hq 0 z0 rfl).2 0 _ hv0
    obtain⟨b,off,sp⟩:=a
    have hsp:sp=none:=by
     cases sp with
     | none=>rfl
     | some s=>
      exfalso
      simp only [World.cell?,Addr.add] at hc0
      split at hc0 <;> simp_all
    subst hsp
    have hbs:b < w.heap.size:=by
     rcases Nat.lt_or_ge b w.heap.size with h | h
     ·exact h
     ·exfalso
      rw [zb2] at hc0
      simp [World.cell?,Array.getElem?_eq_none h] at hc0
    refine⟨(· = b),fun k hk=>by rw [hk]; exact hbs,.inr ⟨b,off,rfl,fun _=>Iff.rfl,fun i z hz=>zfA _ _ fun j v hj=>?_⟩⟩
    have:=(hq i z hz).2 j v hj
    rw [zb2] at this
    rw [Nat.add_assoc]; exact this
  ·obtain⟨i,hi',rfl⟩:=List.getElem_of_mem hz
   exact(hq i _ (by simp [hi'])).1
  ·have h1:=hw _ (List.mem_cons_self ..)
   rw [hll]
   refine Nat.le_trans (Nat.mul_le_mul_right _ ?_) h1
   omega
theorem zfs {t:TypeId} {fs:Array Field} {fuel:Nat} {cs:List Value} {x:DataW H×List MemPlace} (ht:P.underlying t=some (.struct fs)) (h:DataW.trod enc P w base spare held fuel t cs=some x) (hx:WOk P t x.1) (i:Nat) (f:Field) (hf:fs[i]?=some f) (ho:f.offset=i) (hc:P.cellsOf f.type=1) (hi:i < cs.length) :
  ∃ (v:Value) (y:DataW H×List MemPlace) (m:Nat),cs[i]?=some v∧DataW.trod enc P w base spare held m f.type [v]=some y∧WOk P f.type y.1:=by
 obtain⟨ys,m,_,hxe,_,hyl,hg⟩:=DataW.trod_struct ht h
 have h1:=hg i f hf
 have hfi:i < fs.size:=by
  rcases Nat.lt_or_ge i fs.size with g | g
  ·exact g
  ·rw [Array.getElem?_eq_none g] at hf; cases hf
 rw [ho,hc,List.drop_eq_getElem_cons hi,List.getElem?_eq_getElem (by omega)] at h1
 have h2:DataW.trod enc P w base spare held m f.type [cs[i]]=some (ys[i]'(by omega)):=h1
 refine⟨cs[i],ys[i]'(by omega),m,List.getElem?_eq_getElem hi,h2,?_⟩
 rw [hxe] at hx
 exact zoH ht hx hf (List.getElem?_eq_getElem (by omega))
theorem zh1 {t:TypeId} {fs:Array Field} {fuel:Nat} {cs:List Value} {x:DataW H×List MemPlace} (ht:P.underlying t=some (.struct fs)) (h:DataW.trod enc P w base spare held fuel t cs=some x) (hx:WOk P t x.1) (i:Nat) (f:Field) (hf:fs[i]?=some f) (ho:f.offset=i) (hc:P.cellsOf f.type=1) (hi:i < cs.length)
  (hu:P.underlying f.type=some .string):∃ s:ByteArray,cs[i]?=some (.string s)∧Fits s.size:=by
 obtain⟨v,y,m,hv,hy,hw⟩:=zfs ht h hx i f hf ho hc hi
 obtain⟨s,e,ey,_⟩:=DataW.trod_string hu hy
 simp only [List.cons.injEq,and_true] at e
 subst e; subst ey
 refine⟨s,hv,?_⟩
 have:=hw s.size (by rw [DataW.weights]; simp)
 unfold reachBytes at this
 unfold Fits
 omega
theorem zbA {t:TypeId} {fs:Array Field} {fuel:Nat} {cs:List Value} {x:DataW H×List MemPlace} (ht:P.underlying t=some (.struct fs)) (h:DataW.trod enc P w base spare held fuel t cs=some x) (hx:WOk P t x.1) (i:Nat) (f:Field) (hf:fs[i]?=some f) (ho:f.offset=i) (hc:P.cellsOf f.type=1) (hi:i < cs.length)
  {k:IntKind} (hu:P.underlying f.type=some (.int k)):∃ n:Int,cs[i]?=some (.int k n)∧(Lit.int k n).wf=true:=by
 obtain⟨v,y,m,hv,hy,hw⟩:=zfs ht h hx i f hf ho hc hi
 obtain⟨n,e,ey,hwf⟩:=DataW.trod_int hu hy
 simp only [List.cons.injEq,and_true] at e
 subst e
 exact⟨n,hv,hwf⟩
theorem zfD {α:Type} {enc':α→List Value} {n:Nat} {Q:α→Prop} {t e:TypeId} {fs:Array Field} {fuel:Nat} {cs:List Value} {x:DataW H×List MemPlace} (ht:P.underlying t=some (.struct fs)) (h:DataW.trod enc P w base spare held fuel t cs=some x) (hx:WOk P t x.1) (i:Nat) (f:Field) (hf:fs[i]?=some f) (ho:f.offset=i) (hc:P.cellsOf f.type=1) (hi:i < cs.length)
  (hu:P.underlying f.type=some (.slice e)) (hce:P.cellsOf e=n) (hn:Enc n enc') (hel:∀ (fuel:Nat) (cs:List Value) (y:DataW H×List MemPlace),DataW.trod enc P w base spare held fuel e cs=some y→WOk P e y.1→∃ z,Q z∧cs=enc' z) :
  ∃ (a:Option Addr) (L:List α) (cap:Nat),cs[i]?=some (.slice a L.length cap)∧Has w (zaW a n enc' L)∧L.length≤cap∧(∀ z∈L,Q z)∧L.length*P.bytesOf e≤reachBytes:=by
 obtain⟨v,y,m,hv,hy,hw⟩:=zfs ht h hx i f hf ho hc hi
 obtain⟨a,L,cap,e1,h1,h2,h3,h4⟩:=zop hu hce hn hel hy hw
 simp only [List.cons.injEq,and_true] at e1
 subst e1
 exact⟨a,L,cap,hv,h1,h2,h3,h4⟩
end
section
variable {H:Type} {enc:TypeId×Value→H} {w:World} {base:Nat} {spare:Nat→Bool} {held:Bool}
theorem zfH {P:Program} {t:TypeId} {fs:Array Field} {fuel n:Nat} {cs:List Value} {x:DataW H×List MemPlace} (ht:P.underlying t=some (.struct fs)) (hc:P.cellsOf t=n) (h:DataW.trod enc P w base spare held fuel t cs=some x):cs.length=n:=by
 obtain⟨_,_,_,_,hl,_⟩:=DataW.trod_struct ht h
 rw [hl,hc]
theorem zrX {fuel:Nat} {cs:List Value} {y:DataW H×List MemPlace} (h:DataW.trod enc Tryz.prog w base spare held fuel 3 cs=some y) (_:WOk Tryz.prog 3 y.1):∃ n:Int,True∧cs=Go.Stn.encI n:=by
 obtain⟨n,e,_,_⟩:=DataW.trod_int Tryz.underlying3 h
 exact⟨n,trivial,e⟩
theorem zrY {fuel:Nat} {cs:List Value} {y:DataW H×List MemPlace} (h:DataW.trod enc Tryz.prog w base spare held fuel 139 cs=some y) (hx:WOk Tryz.prog 139 y.1) :
  ∃ o:Opn,Knd o∧cs=zba o:=by
 have hl:cs.length=5:=zfH Tryz.underlying139 (by kernel_rfl) h
 obtain⟨f0,e0,q0⟩:=zbA Tryz.underlying139 h hx 0 _ rfl rfl (by kernel_rfl) (by omega) Tryz.underlying5
 obtain⟨f1,e1,q1⟩:=zbA Tryz.underlying139 h hx 1 _ rfl rfl (by kernel_rfl) (by omega) Tryz.underlying3
 obtain⟨f2,e2,q2⟩:=zbA Tryz.underlying139 h hx 2 _ rfl rfl (by kernel_rfl) (by omega) Tryz.underlying3
 obtain⟨f3,e3,q3⟩:=zbA Tryz.underlying139 h hx 3 _ rfl rfl (by kernel_rfl) (by omega) Tryz.underlying3
 obtain⟨f4,e4,q4⟩:=zbA Tryz.underlying139 h hx 4 _ rfl rfl (by kernel_rfl) (by omega) Tryz.underlying3
 match cs,hl with
 | [c0,c1,c2,c3,c4],_=>
  simp only [List.getElem?_cons_zero,List.getElem?_cons_succ,Option.some.injEq] at e0 e1 e2 e3 e4
  subst e0; subst e1; subst e2; subst e3; subst e4
  exact⟨⟨f0,f1,f2,f3,f4⟩,bounds_u8 q0,rfl⟩
structure ShIn (w:World) (z:ShC):Prop where
 hts:Has w (Ints z.a z.s.heights)
 cap:z.s.heights.length≤z.cap
 fits:Fits z.s.name.size
 cope:0≤z.s.cope
 cope2:z.s.cope≤255
structure WlIn (w:World) (z:WlC):Prop where
 ops:Has w (zaW z.a 5 zba z.s.opens)
 cap:z.s.opens.length≤z.cap
 knd:∀ o∈z.s.opens,Knd o
 fits:Fits z.s.name.size
 fits2:Fits z.s.sheet.size
theorem zr0 {fuel:Nat} {cs:List Value} {y:DataW H×List MemPlace} (h:DataW.trod enc Tryz.prog w base spare held fuel 37 cs=some y) (hx:WOk Tryz.prog 37 y.1) :
  ∃ z:ShC,ShIn w z∧cs=zbH z:=by
 have hl:cs.length=20:=zfH Tryz.underlying37 (by kernel_rfl) h
 obtain⟨f0,e0,q0⟩:=zh1 Tryz.underlying37 h hx 0 _ rfl rfl (by kernel_rfl) (by omega) Tryz.underlying9
 obtain⟨f1,e1,q1⟩:=zbA Tryz.underlying37 h hx 1 _ rfl rfl (by kernel_rfl) (by omega) Tryz.underlying3
 obtain⟨f2,e2,q2⟩:=zbA Tryz.underlying37 h hx 2 _ rfl rfl (by kernel_rfl) (by omega) Tryz.underlying3
 obtain⟨f3,e3,q3⟩:=zbA Tryz.underlying37 h hx 3 _ rfl rfl (by kernel_rfl) (by omega) Tryz.underlying3
 obtain⟨f4,e4,q4⟩:=zbA Tryz.underlying37 h hx 4 _ rfl rfl (by kernel_rfl) (by omega) Tryz.underlying3
 obtain⟨a5,f5,k5,e5,q5,r5,s5,b5⟩:=zfD (Q:=fun _=>True) Tryz.underlying37 h hx 5 _ rfl rfl (by kernel_rfl) (by omega) Tryz.underlying35 (by kernel_rfl) Go.Stn.encI_ok (fun _ _ _ h1 h2=>zrX h1 h2)
 obtain⟨f6,e6,q6⟩:=zbA Tryz.underlying37 h hx 6 _ rfl rfl (by kernel_rfl) (by omega) Tryz.underlying3
 obtain⟨f7,e7,q7⟩:=zbA Tryz.underlying37 h hx 7 _ rfl rfl (by kernel_rfl) (by omega) Tryz.underlying3
 obtain⟨f8,e8,q8⟩:=zbA Tryz.underlying37 h hx 8 _ rfl rfl (by kernel_rfl) (by omega) Tryz.underlying3
 obtain⟨f9,e9,q9⟩:=zbA Tryz.underlying37 h hx 9 _ rfl rfl (by kernel_rfl) (by omega) Tryz.underlying3
 obtain⟨f10,e10,q10⟩:=zbA Tryz.underlying37 h hx 10 _ rfl rfl (by kernel_rfl) (by omega) Tryz.underlying3
 obtain⟨f11,e11,q11⟩:=zbA Tryz.underlying37 h hx 11 _ rfl rfl (by kernel_rfl) (by omega) Tryz.underlying3
 obtain⟨f12,e12,q12⟩:=zbA Tryz.underlying37 h hx 12 _ rfl rfl (by kernel_rfl) (by omega) Tryz.underlying3
 obtain⟨f13,e13,q13⟩:=zbA Tryz.underlying37 h hx 13 _ rfl rfl (by kernel_rfl) (by omega) Tryz.underlying5
 obtain⟨f14,e14,q14⟩:=zbA Tryz.underlying37 h hx 14 _ rfl rfl (by kernel_rfl) (by omega) Tryz.underlying3
 obtain⟨f15,e15,q15⟩:=zbA Tryz.underlying37 h hx 15 _ rfl rfl (by kernel_rfl) (by omega) Tryz.underlying3
 obtain⟨f16,e16,q16⟩:=zbA Tryz.underlying37 h hx 16 _ rfl rfl (by kernel_rfl) (by omega) Tryz.underlying3
 obtain⟨f17,e17,q17⟩:=zbA Tryz.underlying37 h hx 17 _ rfl rfl (by kernel_rfl) (by omega) Tryz.underlying3
 obtain⟨f18,e18,q18⟩:=zbA Tryz.underlying37 h hx 18 _ rfl rfl (by kernel_rfl) (by omega) Tryz.underlying3
 obtain⟨f19,e19,q19⟩:=zbA Tryz.underlying37 h hx 19 _ rfl rfl (by kernel_rfl) (by omega) Tryz.underlying3
 match cs,hl with
 | [c0,c1,c2,c3,c4,c5,c6,c7,c8,c9,c10,c11,c12,c13,c14,c15,c16,c17,c18,c19],_=>
  simp only [List.getElem?_cons_zero,List.getElem?_cons_succ,Option.some.injEq] at e0 e1 e2 e3 e4 e5 e6 e7 e8 e9 e10 e11 e12 e13 e14 e15 e16 e17 e18 e19
  subst e0; subst e1; subst e2; subst e3; subst e4; subst e5; subst e6; subst e7; subst e8; subst e9; subst e10; subst e11; subst e12; subst e13; subst e14; subst e15; subst e16; subst e17; subst e18; subst e19
  exact⟨⟨⟨f0,f1,f2,f3,f4,f5,f6,f7,f8,f9,f10,f11,f12,f13,f14,f15,f16,f17,f18,f19⟩,a5,k5⟩,⟨q5,r5,q0,(bounds_u8 q13).1,(bounds_u8 q13).2⟩,rfl⟩
theorem zr1 {fuel:Nat} {cs:List Value} {y:DataW H×List MemPlace} (h:DataW.trod enc Tryz.prog w base spare held fuel 65 cs=some y) (hx:WOk Tryz.prog 65 y.1) :
  ∃ z:WlC,WlIn w z∧cs=zbS z:=by
 have hl:cs.length=4:=zfH Tryz.underlying65 (by kernel_rfl) h
 obtain⟨f0,e0,q0⟩:=zh1 Tryz.underlying65 h hx 0 _ rfl rfl (by kernel_rfl) (by omega) Tryz.underlying9
 obtain⟨f1,e1,q1⟩:=zh1 Tryz.underlying65 h hx 1 _ rfl rfl (by kernel_rfl) (by omega) Tryz.underlying9
 obtain⟨f2,e2,q2⟩:=zbA Tryz.underlying65 h hx 2 _ rfl rfl (by kernel_rfl) (by omega) Tryz.underlying3
 obtain⟨a3,f3,k3,e3,q3,r3,s3,b3⟩:=zfD (Q:=Knd) Tryz.underlying65 h hx 3 _ rfl rfl (by kernel_rfl) (by omega) Tryz.underlying63 (by kernel_rfl) encOpn_ok (fun _ _ _ h1 h2=>zrY h1 h2)
 match cs,hl with
 | [c0,c1,c2,c3],_=>
  simp only [List.getElem?_cons_zero,List.getElem?_cons_succ,Option.some.injEq] at e0 e1 e2 e3
  subst e0; subst e1; subst e2; subst e3
  exact⟨⟨⟨f0,f1,f2,f3⟩,a3,k3⟩,⟨q3,r3,s3,q0,q1⟩,rfl⟩
theorem h37 {n:Nat} (h:n*Tryz.prog.bytesOf 37≤reachBytes):zaP n:=by
 rw [show Tryz.prog.bytesOf 37=184 by kernel_rfl] at h
 unfold reachBytes at h
 unfold zaP
 omega
theorem h65 {n:Nat} (h:n*Tryz.prog.bytesOf 65≤reachBytes):n≤4398046511104:=by
 rw [show Tryz.prog.bytesOf 65=64 by kernel_rfl] at h
 unfold reachBytes at h
 omega
structure zsA (w:World) (a:Option Addr) (cap:Nat) (S:List ShC) (b:Option Addr) (bcap:Nat) (V:List WlC):Prop where
 hl:Has w (zaW a 20 zbH S)
 hcS:S.length≤cap
 hS:∀ z∈S,ShIn w z
 hs:zaP S.length
 hlw:Has w (zaW b 4 zbS V)
 hcV:V.length≤bcap
 hV:∀ z∈V,WlIn w z
 hsw:V.length≤4398046511104
theorem zrZ {fuel:Nat} {cs:List Value} {y:DataW H×List MemPlace} (h:DataW.trod enc Tryz.prog w base spare held fuel 25 cs=some y) (hx:WOk Tryz.prog 25 y.1) :
  ∃ (a:Option Addr) (cap:Nat) (S:List ShC) (b:Option Addr) (bcap:Nat) (V:List WlC),zsA w a cap S b bcap V∧cs=[.slice a S.length cap,.slice b V.length bcap]:=by
 have hl:cs.length=2:=zfH Tryz.underlying25 (by kernel_rfl) h
 obtain⟨a0,f0,k0,e0,q0,r0,s0,b0⟩:=zfD (Q:=ShIn w) Tryz.underlying25 h hx 0 _ rfl rfl (by kernel_rfl) (by omega) Tryz.underlying22 (by kernel_rfl) zbI (fun _ _ _ h1 h2=>zr0 h1 h2)
 obtain⟨a1,f1,k1,e1,q1,r1,s1,b1⟩:=zfD (Q:=WlIn w) Tryz.underlying25 h hx 1 _ rfl rfl (by kernel_rfl) (by omega) Tryz.underlying23 (by kernel_rfl) zbo (fun _ _ _ h1 h2=>zr1 h1 h2)
 match cs,hl with
 | [c0,c1],_=>
  simp only [List.getElem?_cons_zero,List.getElem?_cons_succ,Option.some.injEq] at e0 e1
  subst e0; subst e1
  exact⟨a0,k0,f0,a1,k1,f1,⟨q0,r0,s0,h37 b0,q1,r1,s1,h65 b1⟩,rfl⟩
set_option maxRecDepth 100000 in
theorem open_plan {r:Reach} {b0:Nat} {v:Value} {d:DataW H} {p:List MemPlace} (hv:Value.okWide Tryz.prog w r b0 25 v) (h:DataW.Trod enc Tryz.prog w base spare held 25 v d p) (hx:WOk Tryz.prog 25 d) :
  ∃ (a:Option Addr) (cap:Nat) (S:List ShC) (b:Option Addr) (bcap:Nat) (V:List WlC),zsA w a cap S b bcap V∧v=.agg #[.slice a S.length cap,.slice b V.length bcap]:=by
 obtain⟨cs,rfl,hsz⟩:=okWide_struct Tryz.underlying25 hv
 obtain⟨fuel,hf⟩:=h
 obtain⟨a,cap,S,b,bcap,V,h1,h2⟩:=zrZ (y:=(d,p)) hf hx
 refine⟨a,cap,S,b,bcap,V,h1,?_⟩
 obtain⟨ls⟩:=cs
 have h5:ls=_:=h2
 rw [h5]
set_option maxRecDepth 100000 in
theorem open_text {r:Reach} {b0:Nat} {v:Value} {d:DataW H} {p:List MemPlace} (hv:Value.okWide Tryz.prog w r b0 9 v) (h:DataW.Trod enc Tryz.prog w base spare held 9 v d p) (hx:WOk Tryz.prog 9 d):∃ s:ByteArray,Fits s.size∧v=.string s:=by
 obtain⟨s,rfl⟩:=okWide_string Tryz.underlying9 hv
 obtain⟨fuel,hf⟩:=h
 obtain⟨s',e,ey,_⟩:=DataW.trod_string Tryz.underlying9 hf
 simp only [Value.cells,List.cons.injEq,Value.string.injEq,and_true] at e
 subst e
 simp only [Prod.mk.injEq] at ey
 refine⟨s,?_,rfl⟩
 have:=hx s.size (by rw [ey.1,DataW.weights]; simp)
 unfold reachBytes at this
 unfold Fits
 omega
end
end Go.Proofs.YtdcfcfhmkfkgmaaGreatDoor