/- What the proof of the root text leans on, part 7: the layer, plain facts and walks. No statement of the seat is proved in this text. -/
import Derived.ChangeSame
import Derived.Deep.Slices
import Derived.Handed
import Derived.HandedShaped
import Derived.LaidHandle
import Derived.LaidLaws
import Derived.LaidMore
import Derived.Lay
import Derived.Lib.LaidU8
import Derived.OpenShut
import Derived.ProofKit
import Derived.Shelf.Vars
import Derived.SizedLaws
import Derived.Stop.Joined
import Derived.Test.YtdcfcfhmkfkgmaaGreatDoorRows
import Derived.WideKeyArgs
import Derived.Test.YtdcfcfhmkfkgmaaGreatDoorPr6
namespace Go.Proofs.YtdcfcfhmkfkgmaaGreatDoor
open Go.K Go.Stn Go.Pln Go.RowKit
theorem af73:AF Tryz.prog 73 87 3 24 [.int IntKind.i64 0,.int IntKind.i64 0,.int IntKind.i64 0]:=⟨Tryz.underlying73,by kernel_rfl,rfl⟩
theorem zwZ:En Tryz.prog 101:=za7 Tryz.func101 (by kernel_rfl) (by kernel_rfl)
theorem zgg (x0:Int) (x1:Int) (x2:Int) (w:World):(Instr.build 87 #[(0,.int .i64 x0),(1,.int .i64 x1),(2,.int .i64 x2)]).run Tryz.prog w=.ok (.agg #[.int .i64 x0,.int .i64 x1,.int .i64 x2]) w:=by kernel_rfl
theorem zvd (x0_0:Int) (x0_1:Int) (x0_2:Int) (w:World):(Instr.buildSlice 73 1 #[(0,.agg #[.int .i64 x0_0,.int .i64 x0_1,.int .i64 x0_2])]).run Tryz.prog w=.ok (.slice (some ⟨w.heap.size,0,none⟩) 1 1) (w.alloc (.cells (([⟨x0_0,x0_1,x0_2⟩]:List (Cpe)).flatMap zcm).toArray 87)):=by kernel_rfl
set_option maxRecDepth 100000 in
set_option maxHeartbeats 16000000 in
theorem zpb (b:Option Addr) (bcap:Nat) (v:Wll) (a:Option Addr) (cap:Nat) (s:Sht) (w:World) (hv:Has w (zaW b 5 zba v.opens)) (hF:WallF v s.height) (hsp:za4 s=true) :
  Calls Tryz.prog 66 #[.agg #[.string v.name,.string v.sheet,.int .i64 v.length,.slice b v.opens.length bcap],.agg #[.string s.name,.int .i64 s.base,.int .i64 s.batter,.int .i64 s.height,.int .i64 s.skin,.slice a s.heights.length cap,.int .i64 s.least,.int .i64 s.lap,.int .i64 s.run,.int .i64 s.every,.int .i64 s.at_,.int .i64 s.footing,.int .i64 s.spread,.int .u8 s.cope,.int .i64 s.tall,.int .i64 s.short,.int .i64 s.thick,.int .i64 s.low,.int .i64 s.high,.int .i64 s.rood]] w (zcU (fun z:Option Addr×Nat=>.slice z.1 (zbi v s).length z.2) (fun z=>Row z.1 3 z.2 87 zcm (zbi v s)) w):=by
 have hnm:=zaZ hsp
 have htop:=hnm.height
 have hlen:=hF.len
 have hcn:=zhV hF
 have hbn:((zbK v s).length:Int)≤100000:=zek hF (zj4 s.height)
 refine zan (vs:=[_,_]) Tryz.func66 rfl rfl (Nat.le_of_ble_eq_true rfl) ?_
 refine zac ?_
 refine zaa ?_
 refine zaG rfl rfl (za3 (vs:=[_,_,_,_]) rfl rfl) fun b2=>?_
 refine zaG rfl rfl (za3 (vs:=[_,_,_,_,_,_,_,_,_,_,_,_,_,_,_,_,_,_,_,_]) rfl rfl) fun b3=>?_
 refine gQ (zad rfl) ?_
 refine zag (zae (T':=[(2,_),(3,_),(4,_)]) ⟨rfl,rfl,rfl,trivial⟩ ?_)
 refine zac ?_
 refine zac ?_
 refine zaa ?_
 refine gQ (zab zjW rfl) ?_
 refine gQ (zah 0 tf5 rfl rfl rfl) ?_
 refine gQ (zbL rfl rfl) ?_
 refine zag (zae (T':=[(2,_),(3,_),(4,_),(13,_)]) ⟨rfl,rfl,rfl,rfl,trivial⟩ ?_)
 refine zap rfl (fun hc13=>?_) (fun hc13=>?_)
 ·have hno:s.cope=0:=by simpa using hc13
  have e1:zbi v s=[]:=if_pos hno
  refine zbB 87 zcm 3 ?_
  refine zac ?_
  refine zaa ?_
  refine gQ (zad rfl) ?_
  refine zag (zae (T':=[(2,_),(3,_),(4,_)]) ⟨rfl,rfl,rfl,trivial⟩ ?_)
  refine zaw ?_
  refine zbd (none,0) 0 (zaC rfl (zau rfl)) ?_ (by rw [e1]; rfl)
  rw [e1] <;> rfl
 ·have hno:¬ s.cope=0:=by simpa using hc13
  have e1:zbi v s=(zcP s (zbK v s)):=if_neg hno
  obtain⟨hth,htl,hoh⟩:=zlX hsp hno
  refine zaq ?_
  refine zac ?_
  refine zaa ?_
  refine gQ (zad rfl) ?_
  refine zag (zae (T':=[(2,_),(3,_),(4,_),(5,_)]) ⟨rfl,rfl,rfl,rfl,trivial⟩ ?_)
  refine zac ?_
  refine zac ?_
  refine zaa ?_
  refine gQ (zat 1 tf94 rfl rfl (vs:=[_,_,_,_]) rfl rfl) ?_
  refine gQ (zbO («as»:=[]) (bs:=[_]) rfl rfl) ?_
  refine zaG rfl rfl (zbm en95 rfl (fun w hw=>zlM _ _ v s.height (zno s.height) 101 [.pointer (some ⟨b3,0,none⟩)] zwZ (Box b3 [.string s.name,.int .i64 s.base,.int .i64 s.batter,.int .i64 s.height,.int .i64 s.skin,.slice a s.heights.length cap,.int .i64 s.least,.int .i64 s.lap,.int .i64 s.run,.int .i64 s.every,.int .i64 s.at_,.int .i64 s.footing,.int .i64 s.spread,.int .u8 s.cope,.int .i64 s.tall,.int .i64 s.short,.int .i64 s.thick,.int .i64 s.low,.int .i64 s.high,.int .i64 s.rood] 41) w (Rd.has (Has.rd hv) hw) hF (hw.has (p:=0) rfl) (fun o w' hm=>zrj o a cap s b3 w' hm))) fun p16=>?_
  refine gQ (zaV (Tryz.underlying59) rfl) ?_
  refine gQ (zaf rfl) ?_
  refine zag (zae (T':=[(3,_),(4,_),(5,_),(16,_),(17,_),(18,_)]) ⟨rfl,rfl,rfl,rfl,rfl,rfl,trivial⟩ ?_)
  refine za2 (R':=Row p16.1 2 p16.2 69 zbq (zbK v s)) 0 rfl (fun B w hA=>by rw [zjG hF (by omega)] at hA; exact hA) ?_
  refine zae (T':=[(3,_),(4,_),(5,_),(16,.slice p16.1 (zbK v s).length p16.2),(17,.int .i64 ((zbK v s).length:Int)),(18,_)]) ⟨rfl,rfl,rfl,(by rw [←zjG hF (by omega)]; rfl),(by rw [←zjG hF (by omega)]; rfl),rfl,trivial⟩ ?_
  refine zas ?_
  refine zbB 87 zcm 3 ?_
  refine zbf (X:=Int×Option Addr×Nat×List Cpe) (fun⟨i,ra,rc,M⟩=>[(3,.pointer (some ⟨b3,0,none⟩)),(4,.slice none 0 0),(5,.slice ra M.length rc),(16,.slice p16.1 (zbK v s).length p16.2),(17,.int .i64 ((zbK v s).length:Int)),(18,.int .i64 i)]) (fun⟨i,ra,rc,M⟩=>[Row ra 3 rc 87 zcm M,Row p16.1 2 p16.2 69 zbq (zbK v s),Box b3 [.string s.name,.int .i64 s.base,.int .i64 s.batter,.int .i64 s.height,.int .i64 s.skin,.slice a s.heights.length cap,.int .i64 s.least,.int .i64 s.lap,.int .i64 s.run,.int .i64 s.every,.int .i64 s.at_,.int .i64 s.footing,.int .i64 s.spread,.int .u8 s.cope,.int .i64 s.tall,.int .i64 s.short,.int .i64 s.thick,.int .i64 s.low,.int .i64 s.high,.int .i64 s.rood] 41,Box b2 [.string v.name,.string v.sheet,.int .i64 v.length,.slice b v.opens.length bcap] 94]) (fun⟨i,ra,rc,M⟩=>(0≤i∧i≤(zbK v s).length∧M++zcP s ((zbK v s).drop i.toNat)=(zcP s (zbK v s)))) (fun⟨i,ra,rc,M⟩=>((zbK v s).length - i).toNat) (0,none,0,[]) ⟨rfl,rfl,rfl,rfl,rfl,rfl,trivial⟩ rfl ?_ ?_
  ·exact⟨by omega,by omega,rfl⟩
  ·rintro ⟨i,ra,rc,M⟩ hI
   obtain⟨g0,g1,g2⟩:=hI
   refine zac ?_
   refine zaa ?_
   refine gQ (zbw rfl rfl) ?_
   refine zag (zae (T':=[(3,_),(4,_),(5,_),(16,_),(17,_),(18,_),(19,_)]) ⟨rfl,rfl,rfl,rfl,rfl,rfl,rfl,trivial⟩ ?_)
   refine zac ?_
   refine zap rfl (fun hc19=>?_) (fun hc19=>?_)
   ·have hc19:=of_decide_eq_true hc19
    obtain⟨q1,q2,q3⟩:0≤((zbK v s).getD i.toNat default).frm∧((zbK v s).getD i.toNat default).frm < ((zbK v s).getD i.toNat default).to∧((zbK v s).getD i.toNat default).to≤v.length:=zmS hF g0 hc19
    have hdr:=zhU (s:=s) g0 hc19
    refine zaq ?_
    refine zac ?_
    refine zas ?_
    refine zac ?_
    refine zaa ?_
    refine gQ (zaE se59 rfl rfl (fun _ hw=>(zam zax (hw.has (p:=1) rfl))) (by omega) (by omega)) ?_
    refine gQ (zbv (vs:=[_,_]) tf69 rfl (fun _ hw=>(zam zax (hw.has (p:=1) rfl))) (by omega) (by omega) rfl) ?_
    refine zaG rfl rfl (zaL tf69 (zs:=[_,_]) rfl) fun b7=>?_
    refine zaA 0 tf69 rfl rfl (vs:=[_,_]) rfl rfl rfl rfl rfl ?_
    refine zag (zae (T':=[(3,_),(4,_),(5,_),(7,_),(16,_),(17,_),(18,_)]) ⟨rfl,rfl,rfl,rfl,rfl,rfl,rfl,trivial⟩ ?_)
    refine zac ?_
    refine zbb 6 (fun _=>mixed) (by kernel_rfl) ?_
    refine ph_y (zab zfc rfl) ?_
    refine ph_y (zah 3 tf3 rfl rfl rfl) ?_
    refine ph_y (zab zfc rfl) ?_
    refine ph_y (zah 3 tf3 rfl rfl rfl) ?_
    refine ph_y (zad rfl) ?_
    refine ph_y (zad rfl) ?_
    refine zag (zae (T':=[(3,_),(4,_),(5,_),(7,_),(8,_),(9,_),(16,_),(17,_),(18,_)]) ⟨rfl,rfl,rfl,rfl,rfl,rfl,rfl,rfl,rfl,trivial⟩ ?_)
    refine zih (X:=Unit) (fun _=>[(3,.pointer (some ⟨b3,0,none⟩)),(4,.slice none 0 0),(5,.slice ra M.length rc),(7,.pointer (some ⟨b7,0,none⟩)),(8,.int .i64 s.tall),(9,.int .i64 (zdD s)),(16,.slice p16.1 (zbK v s).length p16.2),(17,.int .i64 ((zbK v s).length:Int)),(18,.int .i64 i)]) (fun _=>[Box b7 [.int .i64 ((zbK v s).getD (i).toNat default).frm,.int .i64 ((zbK v s).getD (i).toNat default).to] 69,Row ra 3 rc 87 zcm M,Row p16.1 2 p16.2 69 zbq (zbK v s),Box b3 [.string s.name,.int .i64 s.base,.int .i64 s.batter,.int .i64 s.height,.int .i64 s.skin,.slice a s.heights.length cap,.int .i64 s.least,.int .i64 s.lap,.int .i64 s.run,.int .i64 s.every,.int .i64 s.at_,.int .i64 s.footing,.int .i64 s.spread,.int .u8 s.cope,.int .i64 s.tall,.int .i64 s.short,.int .i64 s.thick,.int .i64 s.low,.int .i64 s.high,.int .i64 s.rood] 41,Box b2 [.string v.name,.string v.sheet,.int .i64 v.length,.slice b v.opens.length bcap] 94]) (fun _=>True) ?_ ?_
    ·
     refine zac ?_
     refine zaa ?_
     refine gQ (zab zjW rfl) ?_
     refine gQ (zah 3 tf5 rfl rfl rfl) ?_
     refine gQ (zbL rfl rfl) ?_
     refine zag (zae (T':=[(3,_),(4,_),(5,_),(7,_),(8,_),(9,_),(16,_),(17,_),(18,_),(28,_)]) ⟨rfl,rfl,rfl,rfl,rfl,rfl,rfl,rfl,rfl,rfl,trivial⟩ ?_)
     refine zap rfl (fun hc28=>?_) (fun hc28=>?_)
     ·have ho3:zdD s=s.short:=if_pos (by simpa using hc28)
      refine zaa ?_
      refine gQ (zab zf1 rfl) ?_
      refine gQ (zah 3 tf3 rfl rfl rfl) ?_
      refine gQ (zad rfl) ?_
      refine zag (zae (T':=[(3,_),(4,_),(5,_),(7,_),(8,_),(9,_),(16,_),(17,_),(18,_)]) ⟨rfl,rfl,rfl,rfl,rfl,rfl,rfl,rfl,rfl,trivial⟩ ?_)
      refine zae (T':=[(3,_),(4,_),(5,_),(7,_),(8,_),(9,.int .i64 (zdD s)),(16,_),(17,_),(18,_)]) ⟨rfl,rfl,rfl,rfl,rfl,(by rw [ho3]; rfl),rfl,rfl,rfl,trivial⟩ ?_
      exact zb9 () ⟨rfl,rfl,rfl,rfl,rfl,(by(first | rfl | (rw [ho3]; rfl))),rfl,rfl,rfl,trivial⟩ rfl trivial
     ·have ho3:zdD s=s.tall:=if_neg (by simpa using hc28)
      refine zaq ?_
      exact zb9 () ⟨rfl,rfl,rfl,rfl,rfl,(by(first | rfl | (rw [ho3]; rfl))),rfl,rfl,rfl,trivial⟩ rfl trivial
    ·rintro _ hJ
     refine zac ?_
     refine zaa ?_
     refine gQ (zab zpz rfl) ?_
     refine gQ (zah 0 tf3 rfl rfl rfl) ?_
     refine gQ (zad rfl) ?_
     refine zag (zae (T':=[(3,_),(4,_),(5,_),(7,_),(8,_),(9,_),(10,_),(16,_),(17,_),(18,_)]) ⟨rfl,rfl,rfl,rfl,rfl,rfl,rfl,rfl,rfl,rfl,trivial⟩ ?_)
     refine zas ?_
     refine zbf (X:=Int×Int×Int×Option Addr×Nat×List Cpe) (fun⟨x,hh,oo,ra2,rc2,M2⟩=>[(3,.pointer (some ⟨b3,0,none⟩)),(4,.slice none 0 0),(5,.slice ra2 M2.length rc2),(7,.pointer (some ⟨b7,0,none⟩)),(8,.int .i64 hh),(9,.int .i64 oo),(10,.int .i64 x),(16,.slice p16.1 (zbK v s).length p16.2),(17,.int .i64 ((zbK v s).length:Int)),(18,.int .i64 i)]) (fun⟨x,hh,oo,ra2,rc2,M2⟩=>[Box b7 [.int .i64 ((zbK v s).getD (i).toNat default).frm,.int .i64 ((zbK v s).getD (i).toNat default).to] 69,Row ra2 3 rc2 87 zcm M2,Row p16.1 2 p16.2 69 zbq (zbK v s),Box b3 [.string s.name,.int .i64 s.base,.int .i64 s.batter,.int .i64 s.height,.int .i64 s.skin,.slice a s.heights.length cap,.int .i64 s.least,.int .i64 s.lap,.int .i64 s.run,.int .i64 s.every,.int .i64 s.at_,.int .i64 s.footing,.int .i64 s.spread,.int .u8 s.cope,.int .i64 s.tall,.int .i64 s.short,.int .i64 s.thick,.int .i64 s.low,.int .i64 s.high,.int .i64 s.rood] 41,Box b2 [.string v.name,.string v.sheet,.int .i64 v.length,.slice b v.opens.length bcap] 94]) (fun⟨x,hh,oo,ra2,rc2,M2⟩=>(0≤x∧x≤200000∧M2++(copB s.thick ((zbK v s).getD i.toNat default).to x hh oo++zcP s ((zbK v s).drop (i+1).toNat))=(zcP s (zbK v s)))) (fun⟨x,hh,oo,ra2,rc2,M2⟩=>(((zbK v s).getD i.toNat default).to - x).toNat) (((zbK v s).getD i.toNat default).frm,s.tall,zdD s,ra,rc,M) ⟨rfl,rfl,rfl,rfl,rfl,rfl,rfl,rfl,rfl,rfl,trivial⟩ rfl ?_ ?_
     ·exact⟨by omega,by omega,by rw [←hdr]; exact g2⟩
     ·rintro ⟨x,hh,oo,ra2,rc2,M2⟩ hI
      obtain⟨k0,k1,k3⟩:=hI
      refine zac ?_
      refine zac ?_
      refine zaa ?_
      refine gQ (zaf rfl) ?_
      refine gQ (zab zng rfl) ?_
      refine gQ (zah 0 tf3 rfl rfl rfl) ?_
      refine gQ (zbw rfl rfl) ?_
      refine zag (zae (T':=[(3,_),(4,_),(5,_),(7,_),(8,_),(9,_),(10,_),(16,_),(17,_),(18,_),(36,_)]) ⟨rfl,rfl,rfl,rfl,rfl,rfl,rfl,rfl,rfl,rfl,rfl,trivial⟩ ?_)
      refine zap rfl (fun hc36=>?_) (fun hc36=>?_)
      ·have hc36:=of_decide_eq_true hc36
       have hst:=zkK (t:=s.thick) (to:=((zbK v s).getD i.toNat default).to) (x:=x) (h:=hh) (o:=oo) (by omega) hc36
       have hal:=zi6 k3
       refine zaq ?_
       refine zac ?_
       refine zas ?_
       refine zac ?_
       refine zaa ?_
       refine gQ (zaf rfl) ?_
       refine gQ (zaf rfl) ?_
       refine gQ (zab zfd rfl) ?_
       refine gQ (zah 3 tf3 rfl rfl rfl) ?_
       refine gQ (zab zng rfl) ?_
       refine gQ (zah 0 tf3 rfl rfl rfl) ?_
       refine gQ (zaf rfl) ?_
       refine gQ (zfV rfl rfl (by omega) (by omega)) ?_
       refine gQ (zsy rfl rfl) ?_
       refine gQ (zaf rfl) ?_
       refine gQ (zaI rfl (zgg _ _ _)) ?_
       refine zaG rfl rfl (zaD rfl (zvd _ _ _) zbc rfl) fun b52=>?_
       refine zb4 (m:=[(⟨x,(min s.thick (((zbK v s).getD (i).toNat default).to - x)),hh⟩:Cpe)]) 2 af73 zbc rfl rfl rfl rfl (fun _ hw=>(zam zbc (hw.has (p:=0) rfl))) (by first | omega | (simp only [List.length_cons,List.length_nil]; omega)) (by first | (unfold maxLen; omega) | (simp only [List.length_cons,List.length_nil,maxLen]; omega)) fun a53 c53=>?_
       refine gQ (zad rfl) ?_
       refine zag (zae (T':=[(3,_),(4,_),(5,_),(7,_),(8,_),(9,_),(10,_),(16,_),(17,_),(18,_)]) ⟨rfl,rfl,rfl,rfl,rfl,rfl,rfl,rfl,rfl,rfl,trivial⟩ ?_)
       refine zaa ?_
       refine gQ (zaf rfl) ?_
       refine gQ (zaf rfl) ?_
       refine gQ (zad rfl) ?_
       refine gQ (zad rfl) ?_
       refine zag (zae (T':=[(3,_),(4,_),(5,_),(7,_),(8,_),(9,_),(10,_),(16,_),(17,_),(18,_)]) ⟨rfl,rfl,rfl,rfl,rfl,rfl,rfl,rfl,rfl,rfl,trivial⟩ ?_)
       refine zaa ?_
       refine gQ (zaf rfl) ?_
       refine gQ (zab zfd rfl) ?_
       refine gQ (zah 4 tf3 rfl rfl rfl) ?_
       refine gQ (zaY rfl rfl (by omega) (by omega)) ?_
       refine gQ (zad rfl) ?_
       refine zag (zae (T':=[(3,_),(4,_),(5,_),(7,_),(8,_),(9,_),(10,_),(16,_),(17,_),(18,_)]) ⟨rfl,rfl,rfl,rfl,rfl,rfl,rfl,rfl,rfl,rfl,trivial⟩ ?_)
       refine zaK 0 rfl ?_
       exact za1 (x+s.thick,oo,hh,_,_,_) ⟨rfl,rfl,rfl,rfl,rfl,rfl,rfl,rfl,rfl,rfl,trivial⟩ rfl ⟨by omega,by omega,by rw [←k3,hst] <;> simp⟩ (by simp only []; omega)
      ·have hc36:=of_decide_eq_false hc36
       have hen2:=zm0 (t:=s.thick) (h:=hh) (o:=oo) hc36
       refine za8 rfl ?_
       refine zaa ?_
       refine gQ (zaY rfl rfl (by omega) (by omega)) ?_
       refine gQ (zaf rfl) ?_
       refine zag (zae (T':=[(3,_),(4,_),(5,_),(16,_),(17,_),(18,_)]) ⟨rfl,rfl,rfl,rfl,rfl,rfl,trivial⟩ ?_)
       refine zaK 0 rfl ?_
       exact za1 (i+1,_,_,_) ⟨rfl,rfl,rfl,rfl,rfl,rfl,trivial⟩ rfl ⟨by omega,by omega,by rw [←k3,hen2]; rfl⟩ (by simp only []; omega)
   ·have hc19:=of_decide_eq_false hc19
    have hdn:=zhT (s:=s) hc19
    refine za8 rfl ?_
    refine zac ?_
    refine zaa ?_
    refine gQ (zaf rfl) ?_
    refine gQ (zad rfl) ?_
    refine zag (zae (T':=[(4,_)]) ⟨rfl,trivial⟩ ?_)
    refine zaw ?_
    refine zbd (ra,rc) 0 (zaC rfl (zau rfl)) ?_ (by rw [e1,←g2,hdn,List.append_nil]; rfl)
    rw [e1,←g2,hdn,List.append_nil] <;> rfl
end Go.Proofs.YtdcfcfhmkfkgmaaGreatDoor
namespace Go.Pln
open Go Go.K Go.RowKit Go.Stn
def Chn (hi:Int):Int→List Crs→Prop
 | lo,[]=>lo=hi
 | lo,c :: r=>c.frm=lo∧lo < c.to∧Chn hi c.to r
theorem zhw {hi mid:Int} (hm:mid < hi):∀ {lo:Int} {l:List Crs},Chn mid lo l→Chn hi lo (l++[⟨mid,hi⟩])
 | _,[],h=>by
  subst h
  exact⟨rfl,hm,rfl⟩
 | _,c :: r,⟨h1,h2,h3⟩=>⟨h1,h2,zhw hm h3⟩
theorem zsF {hi:Int}:∀ {lo:Int} {l:List Crs},Chn hi lo l→lo≤hi
 | _,[],h=>Int.le_of_eq h
 | _,c :: r,⟨_,h2,h3⟩=>by have:=zsF h3; omega
theorem zlV {hi:Int}:∀ {lo:Int} {l:List Crs},Chn hi lo l→∀ c∈l,lo≤c.frm∧c.frm < c.to∧c.to≤hi
 | _,[],_,_,h=>by cases h
 | _,c :: r,⟨h1,h2,h3⟩,d,hd=>by
  rcases List.mem_cons.1 hd with rfl | hd
  ·have:=zsF h3; exact⟨by omega,by omega,this⟩
  ·have:=zlV h3 d hd
   omega
theorem zjM {s:Sht} (hn:Nums s):∀ n:Nat,Chn (zAt s n) 0 (crsN s n)
 | 0=>rfl
 | n+1=>by
  rw [ze7]
  refine zhw ?_ (zjM hn n)
  have:=(zeg hn n).1
  rw [zAt]; omega
theorem zre {s:Sht} (hn:Nums s):zc5 s (cnt s)=false∧∀ j,j < cnt s→zc5 s j=true:=by
 have hex:∃ n,zc5 s n=false:=⟨(s.height+1).toNat,by
  have h1:=zlP (s:=s) (fun i=>(zeg hn i).1) (s.height+1).toNat
  have h2:=(zeg hn (s.height+1).toNat).1
  have h3:=hn.height
  unfold zc5
  rw [decide_eq_false_iff_not]; omega⟩
 have least:∀ m,(∃ n,n < m∧zc5 s n=false)→∃ n,zc5 s n=false∧∀ j,j < n→zc5 s j=true:=by
  intro m
  induction m with
  | zero=>rintro ⟨n,h,_⟩; omega
  | succ m ih=>
   rintro ⟨n,h1,h2⟩
   by_cases h:∃ n,n < m∧zc5 s n=false
   ·exact ih h
   ·refine⟨n,h2,fun j hj=>?_⟩
    cases e:zc5 s j with
    | true=>rfl
    | false=>exact absurd ⟨j,by omega,e⟩ h
 obtain⟨n,hn1⟩:=hex
 obtain⟨m,h1,h2⟩:=least (n+1) ⟨n,Nat.lt_succ_self _,hn1⟩
 rw [zsH (fun i=>(zeg hn i).1) h1 h2]
 exact⟨h1,h2⟩
theorem zhW {s:Sht} (hn:Nums s):Chn s.height 0 (zaj s):=by
 obtain⟨h1,h2⟩:=zre hn
 have hh:=hn.height
 have hz:=zn7 (s:=s) (by omega) h2
 have hc:=zjM hn (cnt s)
 by_cases e1:s.height - zAt s (cnt s)=0
 ·rw [ze6 rfl e1,show s.height=zAt s (cnt s) from by omega]; exact hc
 ·by_cases e2:s.least≤s.height - zAt s (cnt s)∨cnt s=0
  ·rw [ze5 rfl e1 e2]
   exact zhw (by omega) hc
  ·rw [ze4 rfl e1 e2]
   obtain⟨m,hm⟩:∃ m,cnt s=m+1:=⟨cnt s - 1,by omega⟩
   rw [hm,Nat.add_sub_cancel,ze7]
   have e3:((crsN s m++[(⟨zAt s m,zAt s (m+1)⟩:Crs)]).getD m default).frm=zAt s m:=by
    rw [List.getD_eq_getElem?_getD,List.getElem?_append_right (by rw [zeC]; exact Nat.le_refl _),zeC,Nat.sub_self]; rfl
   have e4:(crsN s m++[(⟨zAt s m,zAt s (m+1)⟩:Crs)]).set m ⟨zAt s m,s.height⟩=crsN s m++[⟨zAt s m,s.height⟩]:=by
    rw [List.set_append_right _ _ (by rw [zeC]; exact Nat.le_refl _),zeC,Nat.sub_self]; rfl
   rw [e3,e4]
   refine zhw ?_ (zjM hn m)
   have h3:=h2 m (by omega)
   have h4:=(zeg hn m).1
   unfold zc5 at h3
   rw [decide_eq_true_eq] at h3
   omega
theorem zpc {s:Sht} (hn:Nums s) {i:Int} (h0:0≤i) (h1:i < ((zaj s).length:Int)):0≤((zaj s).getD i.toNat default).frm∧((zaj s).getD i.toNat default).frm < ((zaj s).getD i.toNat default).to∧((zaj s).getD i.toNat default).to≤s.height:=
 zlV (zhW hn) _ (za0 (l:=zaj s) (i:=i.toNat) (by omega))
theorem zgO {s:Sht} (h:za4 s=true) {z:Int} (h0:0≤z) (h1:z≤s.height):1≤zb5 s z∧zb5 s z≤3000:=by
 have hn:=zaZ h
 have hb:=hn.batter; have hbs:=hn.base; have hh:=hn.height
 have hw:=zlC h
 unfold zb5 at *
 have e1:0≤s.batter*z:=Int.mul_nonneg (by omega) h0
 have e2:s.batter*z≤s.batter*s.height:=Int.mul_le_mul_of_nonneg_left h1 (by omega)
 rw [Int.tdiv_eq_ediv_of_nonneg (by omega)] at hw
 rw [Int.tdiv_eq_ediv_of_nonneg e1]
 omega
theorem zeM {f:Crs→Int}:∀ {l:List Crs},(∀ c∈l,0≤f c)→0≤sumB f l
 | [],_=>Int.le_refl _
 | c :: r,h=>by
  rw [zft]
  have:=h c (List.mem_cons_self ..)
  have:=zeM (f:=f) (l:=r) (fun d hd=>h d (List.mem_cons_of_mem _ hd))
  omega
theorem zmE {f:Crs→Int} {k:Int}:∀ {l:List Crs},(∀ c∈l,f c≤k)→sumB f l≤l.length*k
 | [],_=>by simp [sumB]
 | c :: r,h=>by
  rw [zft,List.length_cons]
  have h1:=h c (List.mem_cons_self ..)
  have h2:=zmE (f:=f) (k:=k) (l:=r) (fun d hd=>h d (List.mem_cons_of_mem _ hd))
  have e:((r.length+1:Nat):Int)*k=r.length*k+k:=by rw [Int.natCast_add,Int.add_mul]; simp
  omega
theorem zdt {f:Crs→Int} {l:List Crs} {i:Int} (h0:0≤i) (h:i < (l.length:Int)):sumB f (l.drop i.toNat)=f (l.getD i.toNat default)+sumB f (l.drop (i+1).toNat):=by
 rw [show(i+1).toNat=i.toNat+1 from by omega,List.drop_eq_getElem_cons (by omega),zft,List.getD_eq_getElem?_getD,List.getElem?_eq_getElem (by omega)]; rfl
theorem zds {f:Crs→Int} {l:List Crs} {i:Int} (h:¬ i < (l.length:Int)):sumB f (l.drop i.toNat)=0:=by
 rw [List.drop_of_length_le (by omega)]; rfl
theorem zku {f:Crs→Int} (k:Int):∀ l:List Crs,sumB (fun c=>f c*k) l=sumB f l*k
 | []=>by simp [sumB]
 | c :: r=>by rw [zft,zft,zku k r,Int.add_mul]
theorem zrF (l:List Crs):lenL l=sumB (fun c=>c.to - c.frm) l:=rfl
theorem zq5 (c:Crs) (k:Int) (l:List Crs):sumB (fun b=>zcw c b*k) l=lenL l*(c.to - c.frm)*k:=by
 rw [zku,zrF]
 unfold zcw
 rw [zku]
theorem zc7 {a b x y:Int} (h0:0≤a) (h1:a≤x) (h2:0≤b) (h3:b≤y):0≤a*b∧a*b≤x*y:=by
 refine⟨Int.mul_nonneg h0 h2,Int.le_trans (Int.mul_le_mul_of_nonneg_right h1 h2) (Int.mul_le_mul_of_nonneg_left h3 (by omega))⟩
theorem zmR {v:Wll} {s:Sht} (hF:WallF v s.height) {c:Crs} (hc:0≤c.frm∧c.frm < c.to∧c.to≤3000) {k:Int} (hk:0≤k∧k≤3000):0≤sumB (fun b=>zcw c b*k) (zbg v c)∧sumB (fun b=>zcw c b*k) (zbg v c)≤900000000000:=by
 have hl:=hF.len
 have h1:=znP (by omega) (zdK hF (zgu c))
 rw [zq5]
 obtain⟨a1,a2⟩:=zc7 (x:=100000) (y:=3000) (b:=c.to - c.frm) h1.1 (by omega) (by omega) (by omega)
 exact zc7 (x:=300000000) (y:=3000) a1 a2 hk.1 hk.2
theorem zd5 {s:Sht} (h:za4 s=true) {c:Crs} (hc:0≤c.frm∧c.frm < c.to∧c.to≤s.height):0≤zcY s c∧zcY s c≤3000:=by
 have hw:=zgO h hc.1 (by omega)
 have hs:=(zaZ h).skin
 unfold zcY; omega
theorem zdV {s:Sht} (h:za4 s=true) {c:Crs} (hc:0≤c.frm∧c.frm < c.to∧c.to≤s.height):0≤zct s c∧zct s c≤3000:=by
 have hw:=zgO h hc.1 (by omega)
 have hs:=(zaZ h).skin
 unfold zct; omega
end Go.Pln
namespace Go.Pln
open Go Go.K Go.RowKit Go.Stn
theorem zhy {α:Type} {l:List α} {n:Nat} {x:α} (h:x∈l.drop n):x∈l:=List.mem_of_mem_drop h
theorem zjD {v:Wll} {s:Sht} (hF:WallF v s.height) {c:Crs} (hc:0≤c.frm∧c.frm < c.to∧c.to≤3000) {b:Crs} (hb:b∈zbg v c):0≤zcw c b∧zcw c b≤300000000:=by
 obtain⟨h1,h2,h3,_⟩:=zeK (zdK hF (zgu c)) b hb
 have hl:=hF.len
 unfold zcw
 exact zc7 (x:=100000) (y:=3000) (by omega) (by omega) (by omega) (by omega)
theorem zhv {v:Wll} {s:Sht} (hF:WallF v s.height) {c:Crs} (hc:0≤c.frm∧c.frm < c.to∧c.to≤3000) {k:Int} (hk:0≤k) (n:Nat):0≤sumB (fun b=>zcw c b*k) ((zbg v c).drop n):=
 zeM fun _b hb=>Int.mul_nonneg (zjD hF hc (zhy hb)).1 hk
theorem zpd {s:Sht} (hn:Nums s) {c:Crs} (h:c∈zaj s):0≤c.frm∧c.frm < c.to∧c.to≤s.height:=zlV (zhW hn) c h
theorem zm6 {v:Wll} {s:Sht} (hF:WallF v s.height) (hs:za4 s=true) {c:Crs} (h:c∈zaj s):0≤zh0 v s c∧zh0 v s c≤900000000000:=by
 have hn:=zaZ hs
 have hh:=hn.height
 have hc:=zpd hn h
 exact zmR hF (by omega) (zd5 hs hc)
theorem zk2 {v:Wll} {s:Sht} (hF:WallF v s.height) (hs:za4 s=true) {c:Crs} (h:c∈zaj s):0≤zfi v s c∧zfi v s c≤900000000000:=by
 have hn:=zaZ hs
 have hh:=hn.height
 have hc:=zpd hn h
 exact zmR hF (by omega) (zdV hs hc)
theorem zkT {v:Wll} {s:Sht} (hF:WallF v s.height) (hs:za4 s=true) (n:Nat):0≤sumB (zh0 v s) ((zaj s).drop n):=zeM fun _c hc=>(zm6 hF hs (zhy hc)).1
theorem zjl {v:Wll} {s:Sht} (hF:WallF v s.height) (hs:za4 s=true) (n:Nat):0≤sumB (zfi v s) ((zaj s).drop n):=zeM fun _c hc=>(zk2 hF hs (zhy hc)).1
theorem zm7 {v:Wll} {s:Sht} (hF:WallF v s.height) (hs:za4 s=true):zcJ v s≤90000000000000:=by
 have h1:=zmE (f:=zh0 v s) (k:=900000000000) (l:=zaj s) fun c hc=>(zm6 hF hs hc).2
 have h2:=zcv hs
 have h3:((zaj s).length:Int)*900000000000≤100*900000000000:=Int.mul_le_mul_of_nonneg_right (by omega) (by decide)
 unfold zcJ
 omega
theorem zk3 {v:Wll} {s:Sht} (hF:WallF v s.height) (hs:za4 s=true):zca v s≤90000000000000:=by
 have h1:=zmE (f:=zfi v s) (k:=900000000000) (l:=zaj s) fun c hc=>(zk2 hF hs hc).2
 have h2:=zcv hs
 have h3:((zaj s).length:Int)*900000000000≤100*900000000000:=Int.mul_le_mul_of_nonneg_right (by omega) (by decide)
 unfold zca
 omega
theorem zoT {c b:Crs} (hb:0≤b.frm∧b.frm < b.to∧b.to≤100000) (hc:0≤c.frm∧c.frm < c.to∧c.to≤3000):W (W (b.to - b.frm)*W (c.to - c.frm))=zcw c b:=by
 rw [zbr (n:=b.to - b.frm) (by omega) (by omega),zbr (n:=c.to - c.frm) (by omega) (by omega)]
 have:=zc7 (a:=b.to - b.frm) (b:=c.to - c.frm) (x:=100000) (y:=3000) (by omega) (by omega) (by omega) (by omega)
 exact zbr (by omega) (by omega)
theorem ztL {s:Sht} (hs:za4 s=true) {c:Crs} (hc:0≤c.frm∧c.frm < c.to∧c.to≤s.height) {f a:Int} (ha:0≤a∧a≤300000000) (h0:0≤f) (h1:f+a*zcY s c≤90000000000000) :
  W (f+W (a*min (W (2*s.skin)) (zb5 s c.frm)))=f+a*zcY s c:=by
 have hk:=(zaZ hs).skin
 have hw:=zd5 hs hc
 rw [zbr (n:=2*s.skin) (by omega) (by omega),show min (2*s.skin) (zb5 s c.frm)=zcY s c from rfl]
 have:=zc7 (x:=300000000) (y:=3000) ha.1 ha.2 hw.1 hw.2
 rw [zbr (n:=a*zcY s c) (by omega) (by omega)]
 exact zbr (by omega) (by omega)
theorem zrw {s:Sht} (hs:za4 s=true) {c:Crs} (hc:0≤c.frm∧c.frm < c.to∧c.to≤s.height) {f a:Int} (ha:0≤a∧a≤300000000) (h0:0≤f) (h1:f+a*zct s c≤90000000000000) :
  W (f+W (a*max (W (zb5 s c.frm - W (2*s.skin))) 0))=f+a*zct s c:=by
 have hk:=(zaZ hs).skin
 have hw:=zdV hs hc
 have hi:=zgO hs hc.1 (by omega)
 rw [zbr (n:=2*s.skin) (by omega) (by omega),zbr (n:=zb5 s c.frm - 2*s.skin) (by omega) (by omega),show max (zb5 s c.frm - 2*s.skin) 0=zct s c from rfl]
 have:=zc7 (x:=300000000) (y:=3000) ha.1 ha.2 hw.1 hw.2
 rw [zbr (n:=a*zct s c) (by omega) (by omega)]
 exact zbr (by omega) (by omega)
theorem zpH {v:Wll} {s:Sht} (hF:WallF v s.height) (hs:za4 s=true):W (W (v.length*s.footing)*W (s.base+W (2*s.spread)))=zdl v s:=by
 have hn:=zaZ hs
 have hl:=hF.len; have hb:=hn.base; have hf:=hn.foot
 obtain⟨a1,a2⟩:=zc7 (a:=v.length) (b:=s.footing) (x:=100000) (y:=1000) (by omega) (by omega) (by omega) (by omega)
 obtain⟨b1,b2⟩:=zc7 (a:=v.length*s.footing) (b:=s.base+2*s.spread) (x:=100000000) (y:=5000) a1 a2 (by omega) (by omega)
 rw [zbr (n:=v.length*s.footing) (by omega) (by omega),zbr (n:=2*s.spread) (by omega) (by omega),zbr (n:=s.base+2*s.spread) (by omega) (by omega)]
 exact zbr (by omega) (by omega)
theorem zuF {v:Wll} {s:Sht} (hF:WallF v s.height) (hs:za4 s=true):0≤zlt v s∧zlt v s≤10000000:=by
 have hl:=hF.len; have hr:=(zaZ hs).rood
 unfold zlt
 rw [Int.tdiv_eq_ediv_of_nonneg (by omega)]
 refine⟨Int.ediv_nonneg (by omega) (by omega),?_⟩
 exact Int.le_trans (Int.ediv_le_self _ (by omega)) (by omega)
theorem zqD {v:Wll} {s:Sht} (hF:WallF v s.height) (hs:za4 s=true):W (Int.tdiv (100*v.length) s.rood)=zlt v s:=by
 have:=zuF hF hs
 exact zbr (n:=zlt v s) (by omega) (by omega)
theorem zm2 {t to:Int} (ht:1≤t) {k:Cpe}:∀ {f:Nat} {x h o:Int},k∈copF t to f x h o→(1≤k.width∧k.width≤t)∧(k.high=h∨k.high=o)
 | 0,_,_,_,hk=>by cases hk
 | f+1,x,h,o,hk=>by
  rw [copF] at hk
  split at hk
  ·rcases List.mem_cons.1 hk with rfl | hk
   ·exact⟨⟨by simp only []; omega,by simp only []; omega⟩,.inl rfl⟩
   ·obtain⟨h1,h2⟩:=zm2 ht hk
    exact⟨h1,h2.symm⟩
  ·cases hk
theorem zri {v:Wll} {s:Sht} (hs:za4 s=true) {k:Cpe} (h:k∈zbi v s):(1≤k.width∧k.width≤1000)∧(1≤k.high∧k.high≤1000):=by
 unfold zbi at h
 split at h
 ·cases h
 ·rename_i hc
  obtain⟨h1,h2,h3⟩:=zlX hs hc
  obtain⟨b,_,hb⟩:=List.mem_flatMap.1 h
  obtain⟨h4,h5⟩:=zm2 h1.1 hb
  refine⟨by omega,?_⟩
  rcases h5 with h5 | h5 <;> omega
def topS (s:Sht) (l:List Cpe):Int:=(l.map (topF s)).sum
theorem zlJ {s:Sht} {l:List Cpe} {i:Int} (h0:0≤i) (h:i < (l.length:Int)):topS s (l.drop i.toNat)=topF s (l.getD i.toNat default)+topS s (l.drop (i+1).toNat):=by
 rw [show(i+1).toNat=i.toNat+1 from by omega,List.drop_eq_getElem_cons (by omega),List.getD_eq_getElem?_getD,List.getElem?_eq_getElem (by omega)]
 unfold topS
 rw [List.map_cons,List.sum_cons]; rfl
theorem zlI {s:Sht} {l:List Cpe} {i:Int} (h:¬ i < (l.length:Int)):topS s (l.drop i.toNat)=0:=by
 rw [List.drop_of_length_le (by omega)]; rfl
theorem zkv {v:Wll} {s:Sht} (hs:za4 s=true) {k:Cpe} (h:k∈zbi v s):(0≤k.width*k.high∧k.width*k.high≤1000000)∧0≤topF s k∧topF s k≤3000000000:=by
 obtain⟨h1,h2⟩:=zri hs h
 have hw:=zgO hs (z:=s.height) (by have:=(zaZ hs).height; omega) (Int.le_refl _)
 obtain⟨a1,a2⟩:=zc7 (x:=1000) (y:=1000) (a:=k.width) (b:=k.high) (by omega) h1.2 (by omega) h2.2
 refine⟨⟨a1,a2⟩,?_⟩
 exact zc7 (x:=1000000) (y:=3000) a1 a2 (by omega) hw.2
theorem zmH {v:Wll} {s:Sht} (hs:za4 s=true):∀ {l:List Cpe},(∀ k∈l,k∈zbi v s)→0≤topS s l∧topS s l≤l.length*3000000000
 | [],_=>by simp [topS]
 | k :: r,h=>by
  have h1:=zkv hs (h k (List.mem_cons_self ..))
  have h2:=zmH hs (l:=r) fun x hx=>h x (List.mem_cons_of_mem _ hx)
  unfold topS at *
  rw [List.map_cons,List.sum_cons,List.length_cons]
  have e:((r.length+1:Nat):Int)*3000000000=r.length*3000000000+3000000000:=by rw [Int.natCast_add,Int.add_mul]; simp
  omega
theorem znX {v:Wll} {s:Sht} (hs:za4 s=true) (n:Nat):0≤topS s ((zbi v s).drop n):=(zmH hs fun _ hk=>zhy hk).1
theorem zqT {v:Wll} {s:Sht} (hF:WallF v s.height) (hs:za4 s=true):topL v s≤300000000000000:=by
 have h1:=(zmH (v:=v) hs (l:=zbi v s) fun _ hk=>hk).2
 have h2:=zfB hF
 have h3:((zbi v s).length:Int)*3000000000≤100000*3000000000:=Int.mul_le_mul_of_nonneg_right h2 (by decide)
 show topS s (zbi v s)≤_
 omega
theorem ztb {s:Sht} {v:Wll} (hs:za4 s=true) {k:Cpe} (h:k∈zbi v s) {t:Int} (h0:0≤t) (h1:t+topF s k≤300000000000000):W (t+W (W (k.width*k.high)*zfv s s.height))=t+topF s k:=by
 have hn:=zaZ hs
 obtain⟨a,b⟩:=zkv hs h
 rw [zfM hn.batter hn.base (by have:=hn.height; omega) (by have:=hn.height; omega),zbr (n:=k.width*k.high) (by omega) (by omega),show k.width*k.high*zb5 s s.height=topF s k from rfl,zbr (n:=topF s k) (by omega) (by omega)]
 exact zbr (by omega) (by omega)
theorem zn1 {s:Sht} (hs:za4 s=true) {z:Int} (h0:0≤z) (h1:z≤s.height):zfv s z=zb5 s z:=by
 have hn:=zaZ hs
 exact zfM hn.batter hn.base h0 (by have:=hn.height; omega)
end Go.Pln
namespace Go.Proofs.YtdcfcfhmkfkgmaaGreatDoor
open Go.K Go.Stn Go.Pln Go.RowKit
theorem en65:En Tryz.prog 65:=za7 Tryz.func65 (by kernel_rfl) (by kernel_rfl)
theorem en66:En Tryz.prog 66:=za7 Tryz.func66 (by kernel_rfl) (by kernel_rfl)
set_option maxRecDepth 100000 in
set_option maxHeartbeats 8000000 in
theorem zi4 (a:Option Addr) (cap:Nat) (S:List ShC) (b:Option Addr) (bcap:Nat) (V:List WlC) (n:ByteArray) (w:World) (hl:Has w (zaW a 20 zbH S)) (hs:zaP S.length) (hcS:S.length≤cap) (hlw:Has w (zaW b 4 zbS V)) (hsw:zaP V.length) (hsh:∀ z∈S,Has w (Ints z.a z.s.heights)) (hss:∀ z∈S,zaP z.s.heights.length) (hwo:∀ z∈V,Has w (zaW z.a 5 zba z.s.opens)) (hsv:∀ z∈V,zaP z.s.opens.length) (hcp:∀ z∈V,z.s.opens.length≤z.cap) (hkn:∀ z∈V,∀ o∈z.s.opens,Knd o) :
  Calls Tryz.prog 30 #[.agg #[.slice a S.length cap,.slice b V.length bcap],.string n] w (zcU (fun z:Option Addr×Nat=>.tuple #[.int .i64 (ziJ S V n),.slice z.1 (zei S V n).length z.2,.int .i64 (zb6 S V n)]) (fun z=>Row z.1 1 z.2 3 Go.Stn.encI (zei S V n)) w):=by
 refine zan (vs:=[_,_]) Tryz.func30 rfl rfl (Nat.le_of_ble_eq_true rfl) ?_
 refine zac ?_
 refine zaa ?_
 refine zaG rfl rfl (za3 (vs:=[_,_]) rfl rfl) fun b2=>?_
 refine gQ (zad rfl) ?_
 refine gQ (zad rfl) ?_
 refine gQ (zad rfl) ?_
 refine zag (zae (T':=[(1,_),(2,_),(4,_),(5,_),(6,_)]) ⟨rfl,rfl,rfl,rfl,rfl,trivial⟩ ?_)
 refine zac ?_
 refine zaa ?_
 refine gQ (zat 0 tf31 rfl rfl (vs:=[_,_]) rfl rfl) ?_
 refine gQ (zaf rfl) ?_
 refine gQ (zaJ en62 rfl (fun w hw=>zm9 _ _ S _ _ V n w (Rd.has (Has.rd hl) hw) hs hcS (Rd.has (Has.rd hlw) hw) hsw (fun z hz=>(Rd.has (Has.rd (hsh z hz)) hw)) hss (fun z hz=>(Rd.has (Has.rd (hwo z hz)) hw)) hsv hcp hkn)) ?_
 refine gQ (zaf rfl) ?_
 refine gQ (zaB rfl rfl) ?_
 refine gQ (zaB rfl rfl) ?_
 refine gQ (zaB rfl rfl) ?_
 refine zaG rfl rfl (zaL tf94 (zs:=[_,_,_,_]) rfl) fun b7=>?_
 refine zaG rfl rfl (zaL tf41 (zs:=[_,_,_,_,_,_,_,_,_,_,_,_,_,_,_,_,_,_,_,_]) rfl) fun b8=>?_
 refine zaA 1 tf94 rfl rfl (vs:=[_,_,_,_]) rfl rfl rfl rfl rfl ?_
 refine zbz 0 tf41 rfl rfl (vs:=[_,_,_,_,_,_,_,_,_,_,_,_,_,_,_,_,_,_,_,_]) rfl rfl rfl rfl rfl ?_
 refine gQ (zad rfl) ?_
 refine zag (zae (T':=[(4,_),(5,_),(6,_),(7,_),(8,_)]) ⟨rfl,rfl,rfl,rfl,rfl,trivial⟩ ?_)
 refine zac ?_
 refine zac ?_
 refine zaa ?_
 refine gQ (zaf rfl) ?_
 refine gQ (zcr rfl rfl) ?_
 refine zag (zae (T':=[(4,_),(5,_),(6,_),(7,_),(8,_),(17,_)]) ⟨rfl,rfl,rfl,rfl,rfl,rfl,trivial⟩ ?_)
 refine zap rfl (fun hc17=>?_) (fun hc17=>?_)
 ·have hE:¬ zb6 S V n=0:=by simpa using hc17
  have e1:ziJ S V n=0:=if_neg hE
  have e2:zei S V n=[]:=if_neg hE
  refine zbB 3 Go.Stn.encI 1 ?_
  refine zac ?_
  refine zaa ?_
  refine gQ (zaf rfl) ?_
  refine gQ (zad rfl) ?_
  refine gQ (zad rfl) ?_
  refine gQ (zad rfl) ?_
  refine zag (zae (T':=[(4,_),(5,_),(6,_),(7,_),(8,_)]) ⟨rfl,rfl,rfl,rfl,rfl,trivial⟩ ?_)
  refine zaw ?_
  refine zbd (none,0) 0 (zdh rfl (zau rfl) (zau rfl) (zau rfl)) ?_ (by rw [e2]; rfl)
  rw [e1,e2] <;> rfl
 ·have hE:zb6 S V n=0:=by simpa using hc17
  obtain⟨m1,m2,hsp,hF⟩:=zfu hE
  have hnm:=zaZ hsp
  have htop:=hnm.height
  have e1:ziJ S V n=zi2 (zar S V n).s:=if_pos hE
  have e2:zei S V n=thrL (zaN S V n).s (zar S V n).s:=if_pos hE
  refine zaq ?_
  refine zac ?_
  refine zaa ?_
  refine gQ (zat 1 tf94 rfl rfl (vs:=[_,_,_,_]) rfl rfl) ?_
  refine gQ (zat 0 tf41 rfl rfl (vs:=[_,_,_,_,_,_,_,_,_,_,_,_,_,_,_,_,_,_,_,_]) rfl rfl) ?_
  refine zaG rfl rfl (zbm en65 rfl (fun w hw=>zjx _ _ (zaN S V n).s _ _ (zar S V n).s w (Rd.has (Has.rd (zfL hwo)) hw) (Rd.has (Has.rd (zhG hsh)) hw) hF hsp)) fun p22=>?_
  refine gQ (zaf rfl) ?_
  refine gQ (zaB rfl rfl) ?_
  refine gQ (zaB rfl rfl) ?_
  refine gQ (zad rfl) ?_
  refine gQ (zad rfl) ?_
  refine zag (zae (T':=[(4,_),(5,_),(6,_)]) ⟨rfl,rfl,rfl,trivial⟩ ?_)
  refine zac ?_
  refine zaa ?_
  refine gQ (zaf rfl) ?_
  refine gQ (zaf rfl) ?_
  refine gQ (zad rfl) ?_
  refine gQ (zad rfl) ?_
  refine gQ (zad rfl) ?_
  refine zag (zae (T':=[(4,_),(5,_),(6,_)]) ⟨rfl,rfl,rfl,trivial⟩ ?_)
  refine zaw ?_
  refine zbd p22 0 (zdh rfl (zau rfl) (zau rfl) (zau rfl)) ?_ (by rw [e2]; rfl)
  rw [e1,e2,hE] <;> rfl
set_option maxRecDepth 100000 in
set_option maxHeartbeats 8000000 in
theorem zoL (a:Option Addr) (cap:Nat) (S:List ShC) (b:Option Addr) (bcap:Nat) (V:List WlC) (n:ByteArray) (w:World) (hl:Has w (zaW a 20 zbH S)) (hs:zaP S.length) (hcS:S.length≤cap) (hlw:Has w (zaW b 4 zbS V)) (hsw:zaP V.length) (hsh:∀ z∈S,Has w (Ints z.a z.s.heights)) (hss:∀ z∈S,zaP z.s.heights.length) (hwo:∀ z∈V,Has w (zaW z.a 5 zba z.s.opens)) (hsv:∀ z∈V,zaP z.s.opens.length) (hcp:∀ z∈V,z.s.opens.length≤z.cap) (hkn:∀ z∈V,∀ o∈z.s.opens,Knd o) :
  Calls Tryz.prog 31 #[.agg #[.slice a S.length cap,.slice b V.length bcap],.string n] w (zcU (fun z:Option Addr×Nat=>.tuple #[.slice z.1 (zcF S V n).length z.2,.int .i64 (zb6 S V n)]) (fun z=>Row z.1 3 z.2 87 zcm (zcF S V n)) w):=by
 refine zan (vs:=[_,_]) Tryz.func31 rfl rfl (Nat.le_of_ble_eq_true rfl) ?_
 refine zac ?_
 refine zaa ?_
 refine zaG rfl rfl (za3 (vs:=[_,_]) rfl rfl) fun b2=>?_
 refine gQ (zad rfl) ?_
 refine gQ (zad rfl) ?_
 refine zag (zae (T':=[(1,_),(2,_),(4,_),(5,_)]) ⟨rfl,rfl,rfl,rfl,trivial⟩ ?_)
 refine zac ?_
 refine zaa ?_
 refine gQ (zat 0 tf31 rfl rfl (vs:=[_,_]) rfl rfl) ?_
 refine gQ (zaf rfl) ?_
 refine gQ (zaJ en62 rfl (fun w hw=>zm9 _ _ S _ _ V n w (Rd.has (Has.rd hl) hw) hs hcS (Rd.has (Has.rd hlw) hw) hsw (fun z hz=>(Rd.has (Has.rd (hsh z hz)) hw)) hss (fun z hz=>(Rd.has (Has.rd (hwo z hz)) hw)) hsv hcp hkn)) ?_
 refine gQ (zaf rfl) ?_
 refine gQ (zaB rfl rfl) ?_
 refine gQ (zaB rfl rfl) ?_
 refine gQ (zaB rfl rfl) ?_
 refine zaG rfl rfl (zaL tf94 (zs:=[_,_,_,_]) rfl) fun b6=>?_
 refine zaG rfl rfl (zaL tf41 (zs:=[_,_,_,_,_,_,_,_,_,_,_,_,_,_,_,_,_,_,_,_]) rfl) fun b7=>?_
 refine zaA 1 tf94 rfl rfl (vs:=[_,_,_,_]) rfl rfl rfl rfl rfl ?_
 refine zbz 0 tf41 rfl rfl (vs:=[_,_,_,_,_,_,_,_,_,_,_,_,_,_,_,_,_,_,_,_]) rfl rfl rfl rfl rfl ?_
 refine gQ (zad rfl) ?_
 refine zag (zae (T':=[(4,_),(5,_),(6,_),(7,_),(8,_)]) ⟨rfl,rfl,rfl,rfl,rfl,trivial⟩ ?_)
 refine zac ?_
 refine zac ?_
 refine zaa ?_
 refine gQ (zaf rfl) ?_
 refine gQ (zcr rfl rfl) ?_
 refine zag (zae (T':=[(4,_),(5,_),(6,_),(7,_),(8,_),(17,_)]) ⟨rfl,rfl,rfl,rfl,rfl,rfl,trivial⟩ ?_)
 refine zap rfl (fun hc17=>?_) (fun hc17=>?_)
 ·have hE:¬ zb6 S V n=0:=by simpa using hc17
  have e2:zcF S V n=[]:=if_neg hE
  refine zbB 87 zcm 3 ?_
  refine zac ?_
  refine zaa ?_
  refine gQ (zaf rfl) ?_
  refine gQ (zad rfl) ?_
  refine gQ (zad rfl) ?_
  refine zag (zae (T':=[(4,_),(5,_),(6,_),(7,_)]) ⟨rfl,rfl,rfl,rfl,trivial⟩ ?_)
  refine zaw ?_
  refine zbd (none,0) 0 (zc2 rfl (zau rfl) (zau rfl)) ?_ (by rw [e2]; rfl)
  rw [e2] <;> rfl
 ·have hE:zb6 S V n=0:=by simpa using hc17
  obtain⟨m1,m2,hsp,hF⟩:=zfu hE
  have hnm:=zaZ hsp
  have htop:=hnm.height
  have e2:zcF S V n=zbi (zaN S V n).s (zar S V n).s:=if_pos hE
  refine zaq ?_
  refine zac ?_
  refine zaa ?_
  refine gQ (zat 1 tf94 rfl rfl (vs:=[_,_,_,_]) rfl rfl) ?_
  refine gQ (zat 0 tf41 rfl rfl (vs:=[_,_,_,_,_,_,_,_,_,_,_,_,_,_,_,_,_,_,_,_]) rfl rfl) ?_
  refine zaG rfl rfl (zbm en66 rfl (fun w hw=>zpb _ _ (zaN S V n).s _ _ (zar S V n).s w (Rd.has (Has.rd (zfL hwo)) hw) hF hsp)) fun p21=>?_
  refine gQ (zad rfl) ?_
  refine gQ (zad rfl) ?_
  refine zag (zae (T':=[(4,_),(5,_)]) ⟨rfl,rfl,trivial⟩ ?_)
  refine zaw ?_
  refine zbd p21 0 (zc2 rfl (zau rfl) (zau rfl)) ?_ (by rw [e2]; rfl)
  rw [e2,hE] <;> rfl
end Go.Proofs.YtdcfcfhmkfkgmaaGreatDoor
namespace Go.Proofs.YtdcfcfhmkfkgmaaGreatDoor
open Go.K Go.Stn Go.Pln Go.RowKit
theorem tf2:TF Tryz.prog 2 false 1 (.int IntKind.i64 0):=⟨by kernel_rfl,by kernel_rfl⟩
theorem tf77:TF Tryz.prog 77 true 7 (.agg #[.int IntKind.i64 0,.int IntKind.i64 0,.int IntKind.i64 0,.int IntKind.i64 0,.int IntKind.i64 0,.int IntKind.i64 0,.int IntKind.i64 0]):=⟨by kernel_rfl,by kernel_rfl⟩
theorem tf87:TF Tryz.prog 87 true 3 (.agg #[.int IntKind.i64 0,.int IntKind.i64 0,.int IntKind.i64 0]):=⟨by kernel_rfl,by kernel_rfl⟩
theorem zpA:FO Tryz.prog 77 0 0:=⟨by kernel_rfl⟩
theorem zpB:FO Tryz.prog 77 1 1:=⟨by kernel_rfl⟩
theorem zsM:FO Tryz.prog 77 2 2:=⟨by kernel_rfl⟩
theorem zpC:FO Tryz.prog 77 3 3:=⟨by kernel_rfl⟩
theorem zsN:FO Tryz.prog 77 4 4:=⟨by kernel_rfl⟩
theorem zsO:FO Tryz.prog 77 5 5:=⟨by kernel_rfl⟩
theorem zpD:FO Tryz.prog 77 6 6:=⟨by kernel_rfl⟩
theorem zsT:FO Tryz.prog 87 1 1:=⟨by kernel_rfl⟩
theorem zsU:FO Tryz.prog 87 2 2:=⟨by kernel_rfl⟩
theorem se73:SE Tryz.prog 73 87 3:=⟨Tryz.underlying73,by kernel_rfl⟩
theorem zva  (w:World):(Instr.build 77 #[]).run Tryz.prog w=.ok (.agg #[.int IntKind.i64 0,.int IntKind.i64 0,.int IntKind.i64 0,.int IntKind.i64 0,.int IntKind.i64 0,.int IntKind.i64 0,.int IntKind.i64 0]) w:=by kernel_rfl
set_option maxRecDepth 100000 in
set_option maxHeartbeats 32000000 in
theorem zsB (a:Option Addr) (cap:Nat) (S:List ShC) (b:Option Addr) (bcap:Nat) (V:List WlC) (n:ByteArray) (w:World) (hl:Has w (zaW a 20 zbH S)) (hs:zaP S.length) (hcS:S.length≤cap) (hlw:Has w (zaW b 4 zbS V)) (hsw:zaP V.length) (hsh:∀ z∈S,Has w (Ints z.a z.s.heights)) (hss:∀ z∈S,zaP z.s.heights.length) (hwo:∀ z∈V,Has w (zaW z.a 5 zba z.s.opens)) (hsv:∀ z∈V,zaP z.s.opens.length) (hcp:∀ z∈V,z.s.opens.length≤z.cap) (hkn:∀ z∈V,∀ o∈z.s.opens,Knd o) :
  Calls Tryz.prog 32 #[.agg #[.slice a S.length cap,.slice b V.length bcap],.string n] w (Pure (.tuple #[.agg #[.int .i64 (zcx S V n).face,.int .i64 (zcx S V n).heart,.int .i64 (zcx S V n).foot,.int .i64 (zcx S V n).top,.int .i64 (zcx S V n).throughs,.int .i64 (zcx S V n).copes,.int .i64 (zcx S V n).roods],.int .i64 (zb6 S V n)]) w):=by
 refine zan (vs:=[_,_]) Tryz.func32 rfl rfl (Nat.le_of_ble_eq_true rfl) ?_
 refine zac ?_
 refine zaa ?_
 refine zaG rfl rfl (za3 (vs:=[_,_]) rfl rfl) fun b2=>?_
 refine zaG rfl rfl (zaL tf77 (zs:=[_,_,_,_,_,_,_]) rfl) fun b4=>?_
 refine gQ (zad rfl) ?_
 refine zag (zae (T':=[(1,_),(2,_),(4,_),(5,_)]) ⟨rfl,rfl,rfl,rfl,trivial⟩ ?_)
 refine zac ?_
 refine zaa ?_
 refine gQ (zat 1 tf31 rfl rfl (vs:=[_,_]) rfl rfl) ?_
 refine gQ (zaf rfl) ?_
 refine gQ (zaJ en62 rfl (fun w hw=>zm9 _ _ S _ _ V n w (Rd.has (Has.rd hl) hw) hs hcS (Rd.has (Has.rd hlw) hw) hsw (fun z hz=>(Rd.has (Has.rd (hsh z hz)) hw)) hss (fun z hz=>(Rd.has (Has.rd (hwo z hz)) hw)) hsv hcp hkn)) ?_
 refine gQ (zaf rfl) ?_
 refine gQ (zaB rfl rfl) ?_
 refine gQ (zaB rfl rfl) ?_
 refine gQ (zaB rfl rfl) ?_
 refine zaG rfl rfl (zaL tf94 (zs:=[_,_,_,_]) rfl) fun b6=>?_
 refine zaG rfl rfl (zaL tf41 (zs:=[_,_,_,_,_,_,_,_,_,_,_,_,_,_,_,_,_,_,_,_]) rfl) fun b7=>?_
 refine zaA 1 tf94 rfl rfl (vs:=[_,_,_,_]) rfl rfl rfl rfl rfl ?_
 refine zbz 0 tf41 rfl rfl (vs:=[_,_,_,_,_,_,_,_,_,_,_,_,_,_,_,_,_,_,_,_]) rfl rfl rfl rfl rfl ?_
 refine gQ (zad rfl) ?_
 refine zag (zae (T':=[(4,_),(5,_),(6,_),(7,_),(8,_)]) ⟨rfl,rfl,rfl,rfl,rfl,trivial⟩ ?_)
 refine zac ?_
 refine zac ?_
 refine zaa ?_
 refine gQ (zaf rfl) ?_
 refine gQ (zcr rfl rfl) ?_
 refine zag (zae (T':=[(4,_),(5,_),(6,_),(7,_),(8,_),(29,_)]) ⟨rfl,rfl,rfl,rfl,rfl,rfl,trivial⟩ ?_)
 refine zap rfl (fun hc29=>?_) (fun hc29=>?_)
 ·have hE:¬ zb6 S V n=0:=by simpa using hc29
  have e2:zcx S V n=⟨0,0,0,0,0,0,0⟩:=if_neg hE
  refine zac ?_
  refine zaa ?_
  refine gQ (zaI (parts:=[]) rfl zva) ?_
  refine gQ (zaf rfl) ?_
  refine zaA 2 tf77 rfl rfl (vs:=[_,_,_,_,_,_,_]) rfl rfl rfl rfl rfl ?_
  refine gQ (zad rfl) ?_
  refine zag (zae (T':=[(4,_),(5,_),(6,_),(7,_)]) ⟨rfl,rfl,rfl,rfl,trivial⟩ ?_)
  refine zaw ?_
  refine zay (zc2 rfl (zbU (i:=2) (vs:=[_,_,_,_,_,_,_]) tf77 rfl rfl rfl rfl) (zau rfl)) ?_
  rw [e2] <;> rfl
 ·have hE:zb6 S V n=0:=by simpa using hc29
  obtain⟨m1,m2,hsp,hF⟩:=zfu hE
  have hnm:=zaZ hsp
  have htop:=hnm.height
  have e2:zcx S V n=zdz (zaN S V n).s (zar S V n).s:=if_pos hE
  have hncr:=zcv hsp
  have hlen:=hF.len
  have hft:=zm7 hF hsp
  have hht:=zk3 hF hsp
  have htt:=zqT hF hsp
  have hcpn:=zfB hF
  refine zaq ?_
  refine zac ?_
  refine zaa ?_
  refine zaG rfl rfl (zaL tf77 (zs:=[_,_,_,_,_,_,_]) rfl) fun b9=>?_
  refine zag (zae (T':=[(4,_),(5,_),(6,_),(7,_),(9,_)]) ⟨rfl,rfl,rfl,rfl,rfl,trivial⟩ ?_)
  refine zac ?_
  refine zac ?_
  refine zaa ?_
  refine gQ (zat 1 tf41 rfl rfl (vs:=[_,_,_,_,_,_,_,_,_,_,_,_,_,_,_,_,_,_,_,_]) rfl rfl) ?_
  refine zaG rfl rfl (zbm en49 rfl (fun w hw=>ze3 ((zar S V n).a) ((zar S V n).cap) ((zar S V n).s) w (Rd.has (Has.rd (zhG hsh)) hw) hnm)) fun p33=>?_
  refine gQ (zaV (Tryz.underlying38) rfl) ?_
  refine gQ (zaf rfl) ?_
  refine zag (zae (T':=[(4,_),(5,_),(6,_),(7,_),(9,_),(33,_),(34,_),(35,_)]) ⟨rfl,rfl,rfl,rfl,rfl,rfl,rfl,rfl,trivial⟩ ?_)
  refine zas ?_
  refine zbf (X:=Int×Int×Int) (fun⟨i,fc,hc⟩=>[(4,.pointer (some ⟨b4,0,none⟩)),(5,.int .i64 0),(6,.pointer (some ⟨b6,0,none⟩)),(7,.pointer (some ⟨b7,0,none⟩)),(9,.pointer (some ⟨b9,0,none⟩)),(33,.slice p33.1 (zaj ((zar S V n).s)).length p33.2),(34,.int .i64 ((zaj ((zar S V n).s)).length:Int)),(35,.int .i64 i)]) (fun⟨i,fc,hc⟩=>[Row p33.1 2 p33.2 49 zbq (zaj ((zar S V n).s)),Box b9 [.int .i64 fc,.int .i64 hc,.int .i64 0,.int .i64 0,.int .i64 0,.int .i64 0,.int .i64 0] 77,Box b7 [.string (zar S V n).s.name,.int .i64 ((zar S V n).s.base),.int .i64 ((zar S V n).s.batter),.int .i64 ((zar S V n).s.height),.int .i64 ((zar S V n).s.skin),.slice (zar S V n).a (zar S V n).s.heights.length (zar S V n).cap,.int .i64 ((zar S V n).s.least),.int .i64 ((zar S V n).s.lap),.int .i64 ((zar S V n).s.run),.int .i64 ((zar S V n).s.every),.int .i64 ((zar S V n).s.at_),.int .i64 ((zar S V n).s.footing),.int .i64 ((zar S V n).s.spread),.int .u8 (zar S V n).s.cope,.int .i64 ((zar S V n).s.tall),.int .i64 ((zar S V n).s.short),.int .i64 ((zar S V n).s.thick),.int .i64 ((zar S V n).s.low),.int .i64 ((zar S V n).s.high),.int .i64 ((zar S V n).s.rood)] 41,Box b6 [.string (zaN S V n).s.name,.string (zaN S V n).s.sheet,.int .i64 ((zaN S V n).s.length),.slice (zaN S V n).a (zaN S V n).s.opens.length (zaN S V n).cap] 94,Box b4 [.int .i64 0,.int .i64 0,.int .i64 0,.int .i64 0,.int .i64 0,.int .i64 0,.int .i64 0] 77,Box b2 [.slice a S.length cap,.slice b V.length bcap] 31]) (fun⟨i,fc,hc⟩=>(0≤i∧i≤(zaj (zar S V n).s).length∧0≤fc∧0≤hc∧fc+sumB (zh0 (zaN S V n).s (zar S V n).s) ((zaj (zar S V n).s).drop i.toNat)=(zcJ (zaN S V n).s (zar S V n).s)∧hc+sumB (zfi (zaN S V n).s (zar S V n).s) ((zaj (zar S V n).s).drop i.toNat)=(zca (zaN S V n).s (zar S V n).s))) (fun⟨i,fc,hc⟩=>((zaj (zar S V n).s).length - i).toNat) (0,0,0) ⟨rfl,rfl,rfl,rfl,rfl,rfl,rfl,rfl,trivial⟩ rfl ?_ ?_
  ·exact⟨by omega,by omega,by omega,by omega,Int.zero_add _,Int.zero_add _⟩
  ·rintro ⟨i,fc,hc⟩ hI
   obtain⟨g0,g1,g2,g3,g4,g5⟩:=hI
   refine zac ?_
   refine zaa ?_
   refine gQ (zbw rfl rfl) ?_
   refine zag (zae (T':=[(4,_),(5,_),(6,_),(7,_),(9,_),(33,_),(34,_),(35,_),(36,_)]) ⟨rfl,rfl,rfl,rfl,rfl,rfl,rfl,rfl,rfl,trivial⟩ ?_)
   refine zac ?_
   refine zap rfl (fun hc36=>?_) (fun hc36=>?_)
   ·have hc36:=of_decide_eq_true hc36
    have hci:=zpc hnm g0 hc36
    have hfd:=zdt (f:=(zh0 (zaN S V n).s (zar S V n).s)) g0 hc36
    have hhd:=zdt (f:=(zfi (zaN S V n).s (zar S V n).s)) g0 hc36
    have hbn:((zbg (zaN S V n).s ((zaj (zar S V n).s).getD i.toNat default)).length:Int)≤100000:=zek hF (zgu ((zaj (zar S V n).s).getD i.toNat default))
    refine zaq ?_
    refine zac ?_
    refine zas ?_
    refine zac ?_
    refine zaa ?_
    refine gQ (zaE se38 rfl rfl (fun _ hw=>(zam zax (hw.has (p:=0) rfl))) (by omega) (by omega)) ?_
    refine gQ (zbv (vs:=[_,_]) tf49 rfl (fun _ hw=>(zam zax (hw.has (p:=0) rfl))) (by omega) (by omega) rfl) ?_
    refine zaG rfl rfl (zaL tf49 (zs:=[_,_]) rfl) fun b11=>?_
    refine zaA 0 tf49 rfl rfl (vs:=[_,_]) rfl rfl rfl rfl rfl ?_
    refine zag (zae (T':=[(4,_),(5,_),(6,_),(7,_),(9,_),(11,_),(33,_),(34,_),(35,_)]) ⟨rfl,rfl,rfl,rfl,rfl,rfl,rfl,rfl,rfl,trivial⟩ ?_)
    refine zac ?_
    refine zaa ?_
    refine gQ (zat 3 tf41 rfl rfl (vs:=[_,_,_,_,_,_,_,_,_,_,_,_,_,_,_,_,_,_,_,_]) rfl rfl) ?_
    refine gQ (zab zne rfl) ?_
    refine gQ (zah 0 tf3 rfl rfl rfl) ?_
    refine gQ (zaJ en50 rfl (fun w hw=>zkA ((zar S V n).a) ((zar S V n).cap) ((zar S V n).s) _ w)) ?_
    refine gQ (zad rfl) ?_
    refine zag (zae (T':=[(4,_),(5,_),(6,_),(7,_),(9,_),(11,_),(12,_),(33,_),(34,_),(35,_)]) ⟨rfl,rfl,rfl,rfl,rfl,rfl,rfl,rfl,rfl,rfl,trivial⟩ ?_)
    refine zae (T':=[(4,_),(5,_),(6,_),(7,_),(9,_),(11,_),(12,.int .i64 (zb5 (zar S V n).s ((zaj (zar S V n).s).getD i.toNat default).frm)),(33,_),(34,_),(35,_)]) ⟨rfl,rfl,rfl,rfl,rfl,rfl,(by show some (Value.int .i64 (zfv (zar S V n).s ((zaj (zar S V n).s).getD i.toNat default).frm))=_; rw [zn1 hsp (by omega) (by omega)]),rfl,rfl,rfl,trivial⟩ ?_
    refine zac ?_
    refine zaa ?_
    refine gQ (zat 4 tf94 rfl rfl (vs:=[_,_,_,_]) rfl rfl) ?_
    refine gQ (zat 0 tf49 rfl rfl (vs:=[_,_]) rfl rfl) ?_
    refine zaG rfl rfl (zbm en63 rfl (fun w hw=>zoZ _ _ (zaN S V n).s ((zaj (zar S V n).s).getD i.toNat default) _ w (Rd.has (Has.rd (zfL hwo)) hw) hF (by omega))) fun p45=>?_
    refine gQ (zaV (Tryz.underlying59) rfl) ?_
    refine gQ (zaf rfl) ?_
    refine zag (zae (T':=[(4,_),(5,_),(6,_),(7,_),(9,_),(11,_),(12,_),(33,_),(34,_),(35,_),(45,_),(46,_),(47,_)]) ⟨rfl,rfl,rfl,rfl,rfl,rfl,rfl,rfl,rfl,rfl,rfl,rfl,rfl,trivial⟩ ?_)
    refine zas ?_
    refine zbf (X:=Int×Int×Int) (fun⟨j,f2,h2⟩=>[(4,.pointer (some ⟨b4,0,none⟩)),(5,.int .i64 0),(6,.pointer (some ⟨b6,0,none⟩)),(7,.pointer (some ⟨b7,0,none⟩)),(9,.pointer (some ⟨b9,0,none⟩)),(11,.pointer (some ⟨b11,0,none⟩)),(12,.int .i64 (zb5 (zar S V n).s ((zaj (zar S V n).s).getD i.toNat default).frm)),(33,.slice p33.1 (zaj ((zar S V n).s)).length p33.2),(34,.int .i64 ((zaj ((zar S V n).s)).length:Int)),(35,.int .i64 i),(45,.slice p45.1 (zbg (zaN S V n).s ((zaj (zar S V n).s).getD i.toNat default)).length p45.2),(46,.int .i64 ((zbg (zaN S V n).s ((zaj (zar S V n).s).getD i.toNat default)).length:Int)),(47,.int .i64 j)]) (fun⟨j,f2,h2⟩=>[Row p45.1 2 p45.2 69 zbq (zbg (zaN S V n).s ((zaj (zar S V n).s).getD i.toNat default)),Box b11 [.int .i64 ((zaj ((zar S V n).s)).getD (i).toNat default).frm,.int .i64 ((zaj ((zar S V n).s)).getD (i).toNat default).to] 49,Row p33.1 2 p33.2 49 zbq (zaj ((zar S V n).s)),Box b9 [.int .i64 f2,.int .i64 h2,.int .i64 0,.int .i64 0,.int .i64 0,.int .i64 0,.int .i64 0] 77,Box b7 [.string (zar S V n).s.name,.int .i64 ((zar S V n).s.base),.int .i64 ((zar S V n).s.batter),.int .i64 ((zar S V n).s.height),.int .i64 ((zar S V n).s.skin),.slice (zar S V n).a (zar S V n).s.heights.length (zar S V n).cap,.int .i64 ((zar S V n).s.least),.int .i64 ((zar S V n).s.lap),.int .i64 ((zar S V n).s.run),.int .i64 ((zar S V n).s.every),.int .i64 ((zar S V n).s.at_),.int .i64 ((zar S V n).s.footing),.int .i64 ((zar S V n).s.spread),.int .u8 (zar S V n).s.cope,.int .i64 ((zar S V n).s.tall),.int .i64 ((zar S V n).s.short),.int .i64 ((zar S V n).s.thick),.int .i64 ((zar S V n).s.low),.int .i64 ((zar S V n).s.high),.int .i64 ((zar S V n).s.rood)] 41,Box b6 [.string (zaN S V n).s.name,.string (zaN S V n).s.sheet,.int .i64 ((zaN S V n).s.length),.slice (zaN S V n).a (zaN S V n).s.opens.length (zaN S V n).cap] 94,Box b4 [.int .i64 0,.int .i64 0,.int .i64 0,.int .i64 0,.int .i64 0,.int .i64 0,.int .i64 0] 77,Box b2 [.slice a S.length cap,.slice b V.length bcap] 31]) (fun⟨j,f2,h2⟩=>(0≤j∧j≤(zbg (zaN S V n).s ((zaj (zar S V n).s).getD i.toNat default)).length∧0≤f2∧0≤h2∧f2+(sumB (fun b=>zcw ((zaj (zar S V n).s).getD i.toNat default) b*zcY (zar S V n).s ((zaj (zar S V n).s).getD i.toNat default)) ((zbg (zaN S V n).s ((zaj (zar S V n).s).getD i.toNat default)).drop j.toNat)+sumB (zh0 (zaN S V n).s (zar S V n).s) ((zaj (zar S V n).s).drop (i+1).toNat))=(zcJ (zaN S V n).s (zar S V n).s)∧h2+(sumB (fun b=>zcw ((zaj (zar S V n).s).getD i.toNat default) b*zct (zar S V n).s ((zaj (zar S V n).s).getD i.toNat default)) ((zbg (zaN S V n).s ((zaj (zar S V n).s).getD i.toNat default)).drop j.toNat)+sumB (zfi (zaN S V n).s (zar S V n).s) ((zaj (zar S V n).s).drop (i+1).toNat))=(zca (zaN S V n).s (zar S V n).s))) (fun⟨j,f2,h2⟩=>((zbg (zaN S V n).s ((zaj (zar S V n).s).getD i.toNat default)).length - j).toNat) (0,fc,hc) ⟨rfl,rfl,rfl,rfl,rfl,rfl,rfl,rfl,rfl,rfl,rfl,rfl,rfl,trivial⟩ rfl ?_ ?_
    ·exact⟨by omega,by omega,g2,g3,by rw [←g4,hfd]; rfl,by rw [←g5,hhd]; rfl⟩
    ·rintro ⟨j,f2,h2⟩ hI
     obtain⟨k0,k1,k2,k3,k4,k5⟩:=hI
     refine zac ?_
     refine zaa ?_
     refine gQ (zbw rfl rfl) ?_
     refine zag (zae (T':=[(4,_),(5,_),(6,_),(7,_),(9,_),(11,_),(12,_),(33,_),(34,_),(35,_),(45,_),(46,_),(47,_),(48,_)]) ⟨rfl,rfl,rfl,rfl,rfl,rfl,rfl,rfl,rfl,rfl,rfl,rfl,rfl,rfl,trivial⟩ ?_)
     refine zac ?_
     refine zap rfl (fun hc48=>?_) (fun hc48=>?_)
     ·have hc48:=of_decide_eq_true hc48
      have hbi:0≤((zbg (zaN S V n).s ((zaj (zar S V n).s).getD i.toNat default)).getD j.toNat default).frm∧((zbg (zaN S V n).s ((zaj (zar S V n).s).getD i.toNat default)).getD j.toNat default).frm < ((zbg (zaN S V n).s ((zaj (zar S V n).s).getD i.toNat default)).getD j.toNat default).to∧((zbg (zaN S V n).s ((zaj (zar S V n).s).getD i.toNat default)).getD j.toNat default).to≤(zaN S V n).s.length:=zmS hF k0 hc48
      have hbm:=za0 (l:=(zbg (zaN S V n).s ((zaj (zar S V n).s).getD i.toNat default))) (i:=j.toNat) (by omega)
      have hai:=zjD hF (by omega) hbm
      have hfb:=zdt (f:=(fun b=>zcw ((zaj (zar S V n).s).getD i.toNat default) b*zcY (zar S V n).s ((zaj (zar S V n).s).getD i.toNat default))) k0 hc48
      have hhb:=zdt (f:=(fun b=>zcw ((zaj (zar S V n).s).getD i.toNat default) b*zct (zar S V n).s ((zaj (zar S V n).s).getD i.toNat default))) k0 hc48
      have hfr:=zhv hF (c:=((zaj (zar S V n).s).getD i.toNat default)) (by omega) (zd5 hsp hci).1 (j+1).toNat
      have hhr:=zhv hF (c:=((zaj (zar S V n).s).getD i.toNat default)) (by omega) (zdV hsp hci).1 (j+1).toNat
      have hfz:=zkT hF hsp (i+1).toNat
      have hhz:=zjl hF hsp (i+1).toNat
      have hfp:=Int.mul_nonneg hai.1 (zd5 hsp hci).1
      have hhp:=Int.mul_nonneg hai.1 (zdV hsp hci).1
      refine zaq ?_
      refine zac ?_
      refine zas ?_
      refine zac ?_
      refine zaa ?_
      refine gQ (zaE se59 rfl rfl (fun _ hw=>(zam zax (hw.has (p:=0) rfl))) (by omega) (by omega)) ?_
      refine gQ (zbv (vs:=[_,_]) tf69 rfl (fun _ hw=>(zam zax (hw.has (p:=0) rfl))) (by omega) (by omega) rfl) ?_
      refine zaG rfl rfl (zaL tf69 (zs:=[_,_]) rfl) fun b14=>?_
      refine zaA 0 tf69 rfl rfl (vs:=[_,_]) rfl rfl rfl rfl rfl ?_
      refine zag (zae (T':=[(4,_),(5,_),(6,_),(7,_),(9,_),(11,_),(12,_),(14,_),(33,_),(34,_),(35,_),(45,_),(46,_),(47,_)]) ⟨rfl,rfl,rfl,rfl,rfl,rfl,rfl,rfl,rfl,rfl,rfl,rfl,rfl,rfl,trivial⟩ ?_)
      refine zac ?_
      refine zaa ?_
      refine gQ (zab zng rfl) ?_
      refine gQ (zah 0 tf3 rfl rfl rfl) ?_
      refine gQ (zab zpz rfl) ?_
      refine gQ (zah 0 tf3 rfl rfl rfl) ?_
      refine gQ (ziW rfl rfl) ?_
      refine gQ (zab zpx rfl) ?_
      refine gQ (zah 2 tf3 rfl rfl rfl) ?_
      refine gQ (zab zne rfl) ?_
      refine gQ (zah 2 tf3 rfl rfl rfl) ?_
      refine gQ (ziW rfl rfl) ?_
      refine gQ (zdv rfl rfl) ?_
      refine gQ (zad rfl) ?_
      refine zag (zae (T':=[(4,_),(5,_),(6,_),(7,_),(9,_),(11,_),(12,_),(15,_),(33,_),(34,_),(35,_),(45,_),(46,_),(47,_)]) ⟨rfl,rfl,rfl,rfl,rfl,rfl,rfl,rfl,rfl,rfl,rfl,rfl,rfl,rfl,trivial⟩ ?_)
      refine zae (T':=[(4,_),(5,_),(6,_),(7,_),(9,_),(11,_),(12,_),(15,.int .i64 (zcw ((zaj (zar S V n).s).getD i.toNat default) ((zbg (zaN S V n).s ((zaj (zar S V n).s).getD i.toNat default)).getD j.toNat default))),(33,_),(34,_),(35,_),(45,_),(46,_),(47,_)]) ⟨rfl,rfl,rfl,rfl,rfl,rfl,rfl,(by show some (Value.int .i64 (W (W (((zbg (zaN S V n).s ((zaj (zar S V n).s).getD i.toNat default)).getD j.toNat default).to - ((zbg (zaN S V n).s ((zaj (zar S V n).s).getD i.toNat default)).getD j.toNat default).frm)*W (((zaj (zar S V n).s).getD i.toNat default).to - ((zaj (zar S V n).s).getD i.toNat default).frm))))=_; rw [zoT (by omega) (by omega)]),rfl,rfl,rfl,rfl,rfl,rfl,trivial⟩ ?_
      refine zac ?_
      refine zaa ?_
      refine gQ (zab zpA rfl) ?_
      refine gQ (zah 4 tf2 rfl rfl rfl) ?_
      refine gQ (zaf rfl) ?_
      refine gQ (zab znd rfl) ?_
      refine gQ (zah 5 tf3 rfl rfl rfl) ?_
      refine gQ (zdv rfl rfl) ?_
      refine gQ (zaf rfl) ?_
      refine gQ (zsy rfl rfl) ?_
      refine gQ (zdv rfl rfl) ?_
      refine gQ (zfw rfl rfl) ?_
      refine gQ (zab zpA rfl) ?_
      refine zaA 4 tf2 rfl rfl (vs:=[_]) rfl rfl rfl rfl rfl ?_
      refine zag (zae (T':=[(4,_),(5,_),(6,_),(7,_),(9,_),(11,_),(12,_),(15,_),(33,_),(34,_),(35,_),(45,_),(46,_),(47,_)]) ⟨rfl,rfl,rfl,rfl,rfl,rfl,rfl,rfl,rfl,rfl,rfl,rfl,rfl,rfl,trivial⟩ ?_)
      refine za2 (R':=Box b9 [.int .i64 (f2+(zcw ((zaj (zar S V n).s).getD i.toNat default) ((zbg (zaN S V n).s ((zaj (zar S V n).s).getD i.toNat default)).getD j.toNat default))*zcY (zar S V n).s ((zaj (zar S V n).s).getD i.toNat default)),.int .i64 h2,.int .i64 0,.int .i64 0,.int .i64 0,.int .i64 0,.int .i64 0] 77) 4 rfl (fun B w hA=>by rw [←ztL (s:=(zar S V n).s) hsp hci hai k2 (by omega)]; exact hA) ?_
      refine zaa ?_
      refine gQ (zab zpB rfl) ?_
      refine gQ (zah 4 tf2 rfl rfl rfl) ?_
      refine gQ (zaf rfl) ?_
      refine gQ (zaf rfl) ?_
      refine gQ (zab znd rfl) ?_
      refine gQ (zah 5 tf3 rfl rfl rfl) ?_
      refine gQ (zdv rfl rfl) ?_
      refine gQ (ziW rfl rfl) ?_
      refine gQ (zws rfl rfl) ?_
      refine gQ (zdv rfl rfl) ?_
      refine gQ (zfw rfl rfl) ?_
      refine gQ (zab zpB rfl) ?_
      refine zaA 4 tf2 rfl rfl (vs:=[_]) rfl rfl rfl rfl rfl ?_
      refine zag (zae (T':=[(4,_),(5,_),(6,_),(7,_),(9,_),(11,_),(12,_),(33,_),(34,_),(35,_),(45,_),(46,_),(47,_)]) ⟨rfl,rfl,rfl,rfl,rfl,rfl,rfl,rfl,rfl,rfl,rfl,rfl,rfl,trivial⟩ ?_)
      refine za2 (R':=Box b9 [.int .i64 (f2+(zcw ((zaj (zar S V n).s).getD i.toNat default) ((zbg (zaN S V n).s ((zaj (zar S V n).s).getD i.toNat default)).getD j.toNat default))*zcY (zar S V n).s ((zaj (zar S V n).s).getD i.toNat default)),.int .i64 (h2+(zcw ((zaj (zar S V n).s).getD i.toNat default) ((zbg (zaN S V n).s ((zaj (zar S V n).s).getD i.toNat default)).getD j.toNat default))*zct (zar S V n).s ((zaj (zar S V n).s).getD i.toNat default)),.int .i64 0,.int .i64 0,.int .i64 0,.int .i64 0,.int .i64 0] 77) 4 rfl (fun B w hA=>by rw [←zrw (s:=(zar S V n).s) hsp hci hai k3 (by omega)]; exact hA) ?_
      refine zaa ?_
      refine gQ (zaY rfl rfl (by omega) (by omega)) ?_
      refine gQ (zaf rfl) ?_
      refine zag (zae (T':=[(4,_),(5,_),(6,_),(7,_),(9,_),(11,_),(12,_),(33,_),(34,_),(35,_),(45,_),(46,_),(47,_)]) ⟨rfl,rfl,rfl,rfl,rfl,rfl,rfl,rfl,rfl,rfl,rfl,rfl,rfl,trivial⟩ ?_)
      refine zaK 0 rfl ?_
      exact za1 (j+1,f2+(zcw ((zaj (zar S V n).s).getD i.toNat default) ((zbg (zaN S V n).s ((zaj (zar S V n).s).getD i.toNat default)).getD j.toNat default))*zcY (zar S V n).s ((zaj (zar S V n).s).getD i.toNat default),h2+(zcw ((zaj (zar S V n).s).getD i.toNat default) ((zbg (zaN S V n).s ((zaj (zar S V n).s).getD i.toNat default)).getD j.toNat default))*zct (zar S V n).s ((zaj (zar S V n).s).getD i.toNat default)) ⟨rfl,rfl,rfl,rfl,rfl,rfl,rfl,rfl,rfl,rfl,rfl,rfl,rfl,trivial⟩ rfl ⟨by omega,by omega,by omega,by omega,by omega,by omega⟩ (by simp only []; omega)
     ·have hc48:=of_decide_eq_false hc48
      rw [zds hc48,Int.zero_add] at k4
      rw [zds hc48,Int.zero_add] at k5
      refine za8 rfl ?_
      refine zaa ?_
      refine gQ (zaY rfl rfl (by omega) (by omega)) ?_
      refine gQ (zaf rfl) ?_
      refine zag (zae (T':=[(4,_),(5,_),(6,_),(7,_),(9,_),(33,_),(34,_),(35,_)]) ⟨rfl,rfl,rfl,rfl,rfl,rfl,rfl,rfl,trivial⟩ ?_)
      refine zaK 0 rfl ?_
      refine zaK 0 rfl ?_
      exact za1 (i+1,f2,h2) ⟨rfl,rfl,rfl,rfl,rfl,rfl,rfl,rfl,trivial⟩ rfl ⟨by omega,by omega,k2,k3,k4,k5⟩ (by simp only []; omega)
   ·have hc36:=of_decide_eq_false hc36
    rw [zds hc36,Int.add_zero] at g4
    rw [zds hc36,Int.add_zero] at g5
    refine za8 rfl ?_
    refine zac ?_
    refine zaa ?_
    refine gQ (zab zgo rfl) ?_
    refine gQ (zah 3 tf3 rfl rfl rfl) ?_
    refine gQ (zab zl8 rfl) ?_
    refine gQ (zah 2 tf3 rfl rfl rfl) ?_
    refine gQ (zdv rfl rfl) ?_
    refine gQ (zab znc rfl) ?_
    refine gQ (zah 2 tf3 rfl rfl rfl) ?_
    refine gQ (zab zl9 rfl) ?_
    refine gQ (zah 2 tf3 rfl rfl rfl) ?_
    refine gQ (zdv rfl rfl) ?_
    refine gQ (zfw rfl rfl) ?_
    refine gQ (zdv rfl rfl) ?_
    refine gQ (zab zsM rfl) ?_
    refine zaA 1 tf2 rfl rfl (vs:=[_]) rfl rfl rfl rfl rfl ?_
    refine zag (zae (T':=[(4,_),(5,_),(6,_),(7,_),(9,_)]) ⟨rfl,rfl,rfl,rfl,rfl,trivial⟩ ?_)
    refine za2 (R':=Box b9 [.int .i64 (zcJ (zaN S V n).s (zar S V n).s),.int .i64 (zca (zaN S V n).s (zar S V n).s),.int .i64 (zdl (zaN S V n).s (zar S V n).s),.int .i64 0,.int .i64 0,.int .i64 0,.int .i64 0] 77) 1 rfl (fun B w hA=>by rw [←zpH hF hsp,←g4,←g5]; exact hA) ?_
    refine zac ?_
    refine zaa ?_
    refine gQ (zat 3 tf94 rfl rfl (vs:=[_,_,_,_]) rfl rfl) ?_
    refine gQ (zat 2 tf41 rfl rfl (vs:=[_,_,_,_,_,_,_,_,_,_,_,_,_,_,_,_,_,_,_,_]) rfl rfl) ?_
    refine zaG rfl rfl (zbm en66 rfl (fun w hw=>zpb _ _ (zaN S V n).s _ _ (zar S V n).s w (Rd.has (Has.rd (zfL hwo)) hw) hF hsp)) fun p102=>?_
    refine gQ (zad rfl) ?_
    refine zag (zae (T':=[(4,_),(5,_),(6,_),(7,_),(9,_),(16,_)]) ⟨rfl,rfl,rfl,rfl,rfl,rfl,trivial⟩ ?_)
    refine zac ?_
    refine zac ?_
    refine zaa ?_
    refine gQ (zaf rfl) ?_
    refine gQ (zaV (Tryz.underlying73) rfl) ?_
    refine gQ (zaf rfl) ?_
    refine zag (zae (T':=[(4,_),(5,_),(6,_),(7,_),(9,_),(16,_),(103,_),(104,_),(105,_)]) ⟨rfl,rfl,rfl,rfl,rfl,rfl,rfl,rfl,rfl,trivial⟩ ?_)
    refine zas ?_
    refine zbf (X:=Int×Int) (fun⟨k,tp⟩=>[(4,.pointer (some ⟨b4,0,none⟩)),(5,.int .i64 0),(6,.pointer (some ⟨b6,0,none⟩)),(7,.pointer (some ⟨b7,0,none⟩)),(9,.pointer (some ⟨b9,0,none⟩)),(16,.slice p102.1 (zbi (zaN S V n).s (zar S V n).s).length p102.2),(103,.slice p102.1 (zbi (zaN S V n).s (zar S V n).s).length p102.2),(104,.int .i64 ((zbi (zaN S V n).s (zar S V n).s).length:Int)),(105,.int .i64 k)]) (fun⟨k,tp⟩=>[Row p102.1 3 p102.2 87 zcm (zbi (zaN S V n).s (zar S V n).s),Row p33.1 2 p33.2 49 zbq (zaj ((zar S V n).s)),Box b9 [.int .i64 (zcJ (zaN S V n).s (zar S V n).s),.int .i64 (zca (zaN S V n).s (zar S V n).s),.int .i64 (zdl (zaN S V n).s (zar S V n).s),.int .i64 tp,.int .i64 0,.int .i64 0,.int .i64 0] 77,Box b7 [.string (zar S V n).s.name,.int .i64 ((zar S V n).s.base),.int .i64 ((zar S V n).s.batter),.int .i64 ((zar S V n).s.height),.int .i64 ((zar S V n).s.skin),.slice (zar S V n).a (zar S V n).s.heights.length (zar S V n).cap,.int .i64 ((zar S V n).s.least),.int .i64 ((zar S V n).s.lap),.int .i64 ((zar S V n).s.run),.int .i64 ((zar S V n).s.every),.int .i64 ((zar S V n).s.at_),.int .i64 ((zar S V n).s.footing),.int .i64 ((zar S V n).s.spread),.int .u8 (zar S V n).s.cope,.int .i64 ((zar S V n).s.tall),.int .i64 ((zar S V n).s.short),.int .i64 ((zar S V n).s.thick),.int .i64 ((zar S V n).s.low),.int .i64 ((zar S V n).s.high),.int .i64 ((zar S V n).s.rood)] 41,Box b6 [.string (zaN S V n).s.name,.string (zaN S V n).s.sheet,.int .i64 ((zaN S V n).s.length),.slice (zaN S V n).a (zaN S V n).s.opens.length (zaN S V n).cap] 94,Box b4 [.int .i64 0,.int .i64 0,.int .i64 0,.int .i64 0,.int .i64 0,.int .i64 0,.int .i64 0] 77,Box b2 [.slice a S.length cap,.slice b V.length bcap] 31]) (fun⟨k,tp⟩=>(0≤k∧k≤(zbi (zaN S V n).s (zar S V n).s).length∧0≤tp∧tp+topS (zar S V n).s ((zbi (zaN S V n).s (zar S V n).s).drop k.toNat)=topL (zaN S V n).s (zar S V n).s)) (fun⟨k,tp⟩=>((zbi (zaN S V n).s (zar S V n).s).length - k).toNat) (0,0) ⟨rfl,rfl,rfl,rfl,rfl,rfl,rfl,rfl,rfl,trivial⟩ rfl ?_ ?_
    ·exact⟨by omega,by omega,by omega,Int.zero_add _⟩
    ·rintro ⟨k,tp⟩ hI
     obtain⟨u0,u1,u2,u3⟩:=hI
     refine zac ?_
     refine zaa ?_
     refine gQ (zbw rfl rfl) ?_
     refine zag (zae (T':=[(4,_),(5,_),(6,_),(7,_),(9,_),(16,_),(103,_),(104,_),(105,_),(106,_)]) ⟨rfl,rfl,rfl,rfl,rfl,rfl,rfl,rfl,rfl,rfl,trivial⟩ ?_)
     refine zac ?_
     refine zap rfl (fun hc106=>?_) (fun hc106=>?_)
     ·have hc106:=of_decide_eq_true hc106
      have hkm:=za0 (l:=(zbi (zaN S V n).s (zar S V n).s)) (i:=k.toNat) (by omega)
      have htd:=zlJ (s:=(zar S V n).s) u0 hc106
      have htr:=znX (v:=(zaN S V n).s) hsp (k+1).toNat
      have hti:=(zkv hsp hkm).2
      refine zaq ?_
      refine zac ?_
      refine zas ?_
      refine zac ?_
      refine zaa ?_
      refine gQ (zaE se73 rfl rfl (fun _ hw=>(zam zbc (hw.has (p:=0) rfl))) (by omega) (by omega)) ?_
      refine gQ (zbv (vs:=[_,_,_]) tf87 rfl (fun _ hw=>(zam zbc (hw.has (p:=0) rfl))) (by omega) (by omega) rfl) ?_
      refine zaG rfl rfl (zaL tf87 (zs:=[_,_,_]) rfl) fun b18=>?_
      refine zaA 0 tf87 rfl rfl (vs:=[_,_,_]) rfl rfl rfl rfl rfl ?_
      refine zag (zae (T':=[(4,_),(5,_),(6,_),(7,_),(9,_),(16,_),(18,_),(103,_),(104,_),(105,_)]) ⟨rfl,rfl,rfl,rfl,rfl,rfl,rfl,rfl,rfl,rfl,trivial⟩ ?_)
      refine zbb 14 (fun _=>mixed) (by kernel_rfl) ?_
      refine ph_y (zab zpC rfl) ?_
      refine ph_y (zah 3 tf2 rfl rfl rfl) ?_
      refine ph_y (zab zsT rfl) ?_
      refine ph_y (zah 0 tf3 rfl rfl rfl) ?_
      refine ph_y (zab zsU rfl) ?_
      refine ph_y (zah 0 tf3 rfl rfl rfl) ?_
      refine ph_y (zdv rfl rfl) ?_
      refine ph_y (zat 4 tf41 rfl rfl (vs:=[_,_,_,_,_,_,_,_,_,_,_,_,_,_,_,_,_,_,_,_]) rfl rfl) ?_
      refine ph_y (zab zep rfl) ?_
      refine ph_y (zah 4 tf3 rfl rfl rfl) ?_
      refine ph_y (zaJ en50 rfl (fun w hw=>zkA ((zar S V n).a) ((zar S V n).cap) ((zar S V n).s) _ w)) ?_
      refine ph_y (zdv rfl rfl) ?_
      refine ph_y (zfw rfl rfl) ?_
      refine ph_y (zab zpC rfl) ?_
      refine zae (T':=[(4,_),(5,_),(6,_),(7,_),(9,_),(16,_),(103,_),(104,_),(105,_),(121,_),(122,_)]) ⟨rfl,rfl,rfl,rfl,rfl,rfl,rfl,rfl,rfl,rfl,rfl,trivial⟩ ?_
      refine zaA 3 tf2 rfl rfl (vs:=[_]) rfl rfl rfl rfl rfl ?_
      refine zag (zae (T':=[(4,_),(5,_),(6,_),(7,_),(9,_),(16,_),(103,_),(104,_),(105,_)]) ⟨rfl,rfl,rfl,rfl,rfl,rfl,rfl,rfl,rfl,trivial⟩ ?_)
      refine za2 (R':=Box b9 [.int .i64 (zcJ (zaN S V n).s (zar S V n).s),.int .i64 (zca (zaN S V n).s (zar S V n).s),.int .i64 (zdl (zaN S V n).s (zar S V n).s),.int .i64 (tp+topF (zar S V n).s ((zbi (zaN S V n).s (zar S V n).s).getD k.toNat default)),.int .i64 0,.int .i64 0,.int .i64 0] 77) 3 rfl (fun B w hA=>by rw [←ztb (s:=(zar S V n).s) hsp hkm u2 (by omega)]; exact hA) ?_
      refine zaa ?_
      refine gQ (zaY rfl rfl (by omega) (by omega)) ?_
      refine gQ (zaf rfl) ?_
      refine zag (zae (T':=[(4,_),(5,_),(6,_),(7,_),(9,_),(16,_),(103,_),(104,_),(105,_)]) ⟨rfl,rfl,rfl,rfl,rfl,rfl,rfl,rfl,rfl,trivial⟩ ?_)
      refine zaK 0 rfl ?_
      exact za1 (k+1,tp+topF (zar S V n).s ((zbi (zaN S V n).s (zar S V n).s).getD k.toNat default)) ⟨rfl,rfl,rfl,rfl,rfl,rfl,rfl,rfl,rfl,trivial⟩ rfl ⟨by omega,by omega,by omega,by omega⟩ (by simp only []; omega)
     ·have hc106:=of_decide_eq_false hc106
      rw [zlI hc106,Int.add_zero] at u3
      refine za8 rfl ?_
      refine zac ?_
      refine zaa ?_
      refine gQ (zat 4 tf94 rfl rfl (vs:=[_,_,_,_]) rfl rfl) ?_
      refine gQ (zat 3 tf41 rfl rfl (vs:=[_,_,_,_,_,_,_,_,_,_,_,_,_,_,_,_,_,_,_,_]) rfl rfl) ?_
      refine zaG rfl rfl (zbm en65 rfl (fun w hw=>zjx _ _ (zaN S V n).s _ _ (zar S V n).s w (Rd.has (Has.rd (zfL hwo)) hw) (Rd.has (Has.rd (zhG hsh)) hw) hF hsp)) fun p127=>?_
      refine gQ (zaf rfl) ?_
      refine gQ (zaB rfl rfl) ?_
      refine gQ (zaB rfl rfl) ?_
      refine gQ (zad rfl) ?_
      refine gQ (zad rfl) ?_
      refine zag (zae (T':=[(4,_),(5,_),(6,_),(7,_),(9,_),(16,_),(20,_)]) ⟨rfl,rfl,rfl,rfl,rfl,rfl,rfl,trivial⟩ ?_)
      refine zac ?_
      refine zao 3 rfl ?_
      refine zpM [Box b9 [.int .i64 (zcJ (zaN S V n).s (zar S V n).s),.int .i64 (zca (zaN S V n).s (zar S V n).s),.int .i64 (zdl (zaN S V n).s (zar S V n).s),.int .i64 tp,.int .i64 0,.int .i64 0,.int .i64 0] 77] (ch []) 1000 16 [0,1,0,4,0,16,48,0,128,496,3,1027,3087,7183,16383,32767] rfl (fun _=>mixed) (by kernel_rfl) (zjK _ trivial) ?_
      refine zdq (fun ρ=>zaf rfl) (fun ρ ρ' h=>by rfl) ?_
      refine zdq (fun ρ=>zaV (Tryz.underlying35) rfl) (fun ρ ρ' h=>by rfl) ?_
      refine zdq (fun ρ=>zaf rfl) (fun ρ ρ' h=>by rfl) ?_
      refine zdq (fun ρ=>zaV (Tryz.underlying73) rfl) (fun ρ ρ' h=>by rfl) ?_
      refine zdq (fun ρ=>zab zgo rfl) (fun ρ ρ' h=>by rfl) ?_
      refine zdq (fun ρ=>zah 4 tf3 rfl rfl rfl) (fun ρ ρ' h=>by rfl) ?_
      refine zdq (fun ρ=>zq0 rfl rfl (by omega) (by omega)) (fun ρ ρ' h=>by rfl) ?_
      refine zdq (fun ρ=>zab zmb rfl) (fun ρ ρ' h=>by rfl) ?_
      refine zdq (fun ρ=>zah 3 tf3 rfl rfl rfl) (fun ρ ρ' h=>by rfl) ?_
      refine zdq (fun ρ=>zoI rfl rfl (by have:=hnm.rood; omega)) (fun ρ ρ' h=>by rfl) ?_
      refine zdq (fun ρ=>zab zsN rfl) (fun ρ ρ' h=>by rfl) ?_
      refine zjr (R:=fun ρ=>Box b9 [.int .i64 (zcJ (zaN S V n).s (zar S V n).s),.int .i64 (zca (zaN S V n).s (zar S V n).s),.int .i64 (zdl (zaN S V n).s (zar S V n).s),.int .i64 tp,.int .i64 0,.int .i64 0,.int .i64 0] 77) (A:=fun ρ=>Box b9 [.int .i64 (zcJ (zaN S V n).s (zar S V n).s),.int .i64 (zca (zaN S V n).s (zar S V n).s),.int .i64 (zdl (zaN S V n).s (zar S V n).s),.int .i64 tp,.int .i64 ((thrL (zaN S V n).s (zar S V n).s).length:Int),.int .i64 0,.int .i64 0] 77) 1000 rfl (by kernel_rfl) (fun _=>by kernel_rfl) (fun ρ=>zex tf3 rfl rfl (vs:=[_]) rfl rfl rfl rfl rfl) (fun ρ ρ' h=>by rfl) ?_
      refine zdq (fun ρ=>zab zsO rfl) (fun ρ ρ' h=>by rfl) ?_
      refine zjr (R:=fun ρ=>Box b9 [.int .i64 (zcJ (zaN S V n).s (zar S V n).s),.int .i64 (zca (zaN S V n).s (zar S V n).s),.int .i64 (zdl (zaN S V n).s (zar S V n).s),.int .i64 tp,.int .i64 ((thrL (zaN S V n).s (zar S V n).s).length:Int),.int .i64 0,.int .i64 0] 77) (A:=fun ρ=>Box b9 [.int .i64 (zcJ (zaN S V n).s (zar S V n).s),.int .i64 (zca (zaN S V n).s (zar S V n).s),.int .i64 (zdl (zaN S V n).s (zar S V n).s),.int .i64 tp,.int .i64 ((thrL (zaN S V n).s (zar S V n).s).length:Int),.int .i64 ((zbi (zaN S V n).s (zar S V n).s).length:Int),.int .i64 0] 77) 1000 rfl (by kernel_rfl) (fun _=>by kernel_rfl) (fun ρ=>zex tf3 rfl rfl (vs:=[_]) rfl rfl rfl rfl rfl) (fun ρ ρ' h=>by rfl) ?_
      refine zdq (fun ρ=>zab zpD rfl) (fun ρ ρ' h=>by rfl) ?_
      refine zjr (R:=fun ρ=>Box b9 [.int .i64 (zcJ (zaN S V n).s (zar S V n).s),.int .i64 (zca (zaN S V n).s (zar S V n).s),.int .i64 (zdl (zaN S V n).s (zar S V n).s),.int .i64 tp,.int .i64 ((thrL (zaN S V n).s (zar S V n).s).length:Int),.int .i64 ((zbi (zaN S V n).s (zar S V n).s).length:Int),.int .i64 0] 77) (A:=fun ρ=>Box b9 [.int .i64 (zcJ (zaN S V n).s (zar S V n).s),.int .i64 (zca (zaN S V n).s (zar S V n).s),.int .i64 (zdl (zaN S V n).s (zar S V n).s),.int .i64 tp,.int .i64 ((thrL (zaN S V n).s (zar S V n).s).length:Int),.int .i64 ((zbi (zaN S V n).s (zar S V n).s).length:Int),.int .i64 (IntKind.i64.wrap (Int.tdiv (100*((zaN S V n).s.length)) ((zar S V n).s.rood)))] 77) 1000 rfl (by kernel_rfl) (fun _=>by kernel_rfl) (fun ρ=>zex tf3 rfl rfl (vs:=[_]) rfl rfl rfl rfl rfl) (fun ρ ρ' h=>by rfl) ?_
      refine fun ρ=>zag (zpT (T':=[(4,.pointer (some ⟨b4,0,none⟩)),(5,.int .i64 0),(9,.pointer (some ⟨b9,0,none⟩))]) (H':=[Box b9 [.int .i64 (zcJ (zaN S V n).s (zar S V n).s),.int .i64 (zca (zaN S V n).s (zar S V n).s),.int .i64 (zdl (zaN S V n).s (zar S V n).s),.int .i64 tp,.int .i64 ((thrL (zaN S V n).s (zar S V n).s).length:Int),.int .i64 ((zbi (zaN S V n).s (zar S V n).s).length:Int),.int .i64 (IntKind.i64.wrap (Int.tdiv (100*((zaN S V n).s.length)) ((zar S V n).s.rood)))] 77,Row p127.1 1 p127.2 3 Go.Stn.encI (thrL (zaN S V n).s (zar S V n).s),Row p102.1 3 p102.2 87 zcm (zbi (zaN S V n).s (zar S V n).s),Row p33.1 2 p33.2 49 zbq (zaj ((zar S V n).s)),Box b7 [.string (zar S V n).s.name,.int .i64 ((zar S V n).s.base),.int .i64 ((zar S V n).s.batter),.int .i64 ((zar S V n).s.height),.int .i64 ((zar S V n).s.skin),.slice (zar S V n).a (zar S V n).s.heights.length (zar S V n).cap,.int .i64 ((zar S V n).s.least),.int .i64 ((zar S V n).s.lap),.int .i64 ((zar S V n).s.run),.int .i64 ((zar S V n).s.every),.int .i64 ((zar S V n).s.at_),.int .i64 ((zar S V n).s.footing),.int .i64 ((zar S V n).s.spread),.int .u8 (zar S V n).s.cope,.int .i64 ((zar S V n).s.tall),.int .i64 ((zar S V n).s.short),.int .i64 ((zar S V n).s.thick),.int .i64 ((zar S V n).s.low),.int .i64 ((zar S V n).s.high),.int .i64 ((zar S V n).s.rood)] 41,Box b6 [.string (zaN S V n).s.name,.string (zaN S V n).s.sheet,.int .i64 ((zaN S V n).s.length),.slice (zaN S V n).a (zaN S V n).s.opens.length (zaN S V n).cap] 94,Box b4 [.int .i64 0,.int .i64 0,.int .i64 0,.int .i64 0,.int .i64 0,.int .i64 0,.int .i64 0] 77,Box b2 [.slice a S.length cap,.slice b V.length bcap] 31]) ⟨rfl,rfl,rfl,trivial⟩ rfl ?_)
      refine za2 (R':=Box b9 [.int .i64 (zcJ (zaN S V n).s (zar S V n).s),.int .i64 (zca (zaN S V n).s (zar S V n).s),.int .i64 (zdl (zaN S V n).s (zar S V n).s),.int .i64 (topL (zaN S V n).s (zar S V n).s),.int .i64 ((thrL (zaN S V n).s (zar S V n).s).length:Int),.int .i64 ((zbi (zaN S V n).s (zar S V n).s).length:Int),.int .i64 (zlt (zaN S V n).s (zar S V n).s)] 77) 0 rfl (fun B w hA=>by rw [←zqD hF hsp,←u3]; exact hA) ?_
      refine zac ?_
      refine zaa ?_
      refine gQ (zat 0 tf77 rfl rfl (vs:=[_,_,_,_,_,_,_]) rfl rfl) ?_
      refine zaA 6 tf77 rfl rfl (vs:=[_,_,_,_,_,_,_]) rfl rfl rfl rfl rfl ?_
      refine gQ (zad rfl) ?_
      refine zag (zae (T':=[(4,_),(5,_)]) ⟨rfl,rfl,trivial⟩ ?_)
      refine zaw ?_
      refine zay (zc2 rfl (zbU (i:=6) (vs:=[_,_,_,_,_,_,_]) tf77 rfl rfl rfl rfl) (zau rfl)) ?_
      rw [e2,hE] <;> rfl
end Go.Proofs.YtdcfcfhmkfkgmaaGreatDoor
namespace Go.Proofs.YtdcfcfhmkfkgmaaGreatDoor
open Go.K Go.Stn Go.Pln Go.RowKit
theorem zjk {c:Cx} {ds:List Deferred} {T:List (Nat×Value)} {H:List Res} {K:Act→World→Prop} {y:PTy} {ra:Option Addr} {rc:Nat} {S:List ShC} {rb:Option Addr} {rd:Nat} {V:List WlC} {q:Plan}
  (h:S.map (·.s)=q.S→V.map (·.s)=q.V→GK c ds K T (Row ra 20 rc y.s zbH S :: Go.K.Rows (rowH y.i) S :: Row rb 4 rd y.w zbS V :: Go.K.Rows (rowO y.o) V :: H)):GK c ds K T (PlR y ((ra,rc,S),(rb,rd,V)) q :: H):=by
 intro a w ha hw
 obtain⟨hb,B,hB,⟨h1,h2,h3⟩,hr⟩:=hw
 exact h h1 h2 a w ha (Hp.split (L:=[_,_,_,_]) ⟨hb,B,hB,h3,hr⟩)
theorem zp7 {α β:Type} {f:α→β} {l:List α} {x:β} (h:l.map f=[x]):∃ y,l=[y]∧f y=x:=by
 cases l with
 | nil=>cases h
 | cons y r=>
  cases r with
  | nil=>rw [List.map_cons,List.map_nil,List.cons.injEq] at h; exact⟨y,rfl,h.1⟩
  | cons z t=>rw [List.map_cons,List.map_cons] at h; cases h
section
variable {z0:ShC} {v0:WlC} (hz:z0.s=dSh) (hv:v0.s=dWl)
include hz hv
theorem zgd:zb6 [z0] [v0] (⟨#[110,111,114,116,104]⟩:ByteArray)=0:=by
 obtain⟨s,a,c⟩:=z0; obtain⟨v,b,d⟩:=v0
 simp only at hz hv; subst hz hv
 kernel_rfl
theorem zsw:zaN [z0] [v0] (⟨#[110,111,114,116,104]⟩:ByteArray)=v0:=by
 rw [zhF (zgd hz hv)]
 obtain⟨s,a,c⟩:=z0; obtain⟨v,b,d⟩:=v0
 simp only at hz hv; subst hz hv
 kernel_rfl
theorem zqX:zar [z0] [v0] (⟨#[110,111,114,116,104]⟩:ByteArray)=z0:=by
 rw [zhE (zgd hz hv)]
 obtain⟨s,a,c⟩:=z0; obtain⟨v,b,d⟩:=v0
 simp only at hz hv; subst hz hv
 kernel_rfl
end
theorem zgj:zaj dSh=[⟨0,200⟩,⟨200,380⟩,⟨380,560⟩,⟨560,740⟩,⟨740,920⟩,⟨920,1100⟩,⟨1100,1200⟩]:=by kernel_rfl
theorem zty:zbg dWl ⟨200,380⟩=[⟨0,1000⟩,⟨1250,3000⟩]:=by
 have h1:dWl.opens.filter (zgu ⟨200,380⟩)=[dOp]:=by kernel_rfl
 have h2:dWl.length=3000:=by kernel_rfl
 unfold zbg zcW
 rw [h1,h2]
 have hf:∀ x,zcH [dOp] x=true↔¬ (1000≤x∧x < 1250):=fun x=>by
  rw [zdU]
  exact⟨fun h hx=>h dOp (List.mem_singleton.2 rfl) ⟨hx.1,by show x < 1000+250; omega⟩,fun h o ho hx=>by
   rw [List.mem_singleton.1 ho] at hx
   have h1:(1000:Int)≤x:=hx.1
   have h2:x < 1000+250:=hx.2
   omega⟩
 have hn:∀ x,zcH [dOp] x=false↔1000≤x∧x < 1250:=fun x=>by
  cases e:zcH [dOp] x with
  | true=>have:=(hf x).1 e; simp; omega
  | false=>exact⟨fun _=>Classical.byContradiction fun h=>(by rw [(hf x).2 h] at e; cases e),fun _=>rfl⟩
 have hR:Runs (zcH [dOp]) 3000 0 [⟨0,1000⟩,⟨1250,3000⟩]:=⟨Int.le_refl _,by decide,by decide,fun x h1 h2=>by simp only at h2; omega,fun x h1 h2=>(hf x).2 (by simp only at h2; omega),.inr ((hn _).2 (by decide)),by decide,by decide,by decide,fun x h1 h2=>(hn x).2 ⟨h1,h2⟩,fun x h1 h2=>(hf x).2 (by simp only at h1; omega),.inl rfl,fun x h1 h2=>by simp only at h1; omega⟩
 exact(zjF (by decide) hR).symm
theorem znk (x:Int):zcH [] x=true:=rfl
theorem ztz:zbg dWl ⟨560,740⟩=[⟨0,3000⟩]:=by
 have h1:dWl.opens.filter (zgu ⟨560,740⟩)=[]:=by kernel_rfl
 have h2:dWl.length=3000:=by kernel_rfl
 unfold zbg zcW
 rw [h1,h2]
 exact(zjF (by decide) (znO (by decide) fun x _ _=>znk x)).symm
theorem zwy:zbK dWl dSh=[⟨0,3000⟩]:=by
 have h1:dWl.opens.filter (zj4 dSh.height)=[]:=by kernel_rfl
 have h2:dWl.length=3000:=by kernel_rfl
 unfold zbK zcW
 rw [h1,h2]
 exact(zjF (by decide) (znO (by decide) fun x _ _=>znk x)).symm
theorem zwx:thrL dWl dSh=[450,1350,2250]:=by
 have h1:zi3 dSh=false:=by kernel_rfl
 have h2:thrI dSh=3:=by kernel_rfl
 unfold thrL
 rw [if_neg (by rw [h1]; exact Bool.false_ne_true),h2,zgj]
 show thrX (zbg dWl ⟨560,740⟩) dWl.length dSh.every (dSh.every.tdiv 2)=_
 rw [ztz]
 kernel_rfl
theorem ztB:zi2 dSh=3:=by kernel_rfl
theorem zvk:(zdz dWl dSh).roods=50:=by kernel_rfl
theorem ztA:(zbi dWl dSh).length=20∧(zbi dWl dSh).getD 19 default=⟨2850,150,200⟩:=by
 have h1:¬ dSh.cope=0:=by decide +kernel
 unfold zbi
 rw [if_neg h1,zwy]
 exact⟨by kernel_rfl,by kernel_rfl⟩
section
variable {z0:ShC} {v0:WlC} (hz:z0.s=dSh) (hv:v0.s=dWl)
include hz hv
theorem zuQ:zhJ [z0] [v0] (⟨#[110,111,114,116,104]⟩:ByteArray) 1=0∧ziX [z0] [v0] (⟨#[110,111,114,116,104]⟩:ByteArray) 1=[⟨0,1000⟩,⟨1250,3000⟩]:=by
 have hE:=zgd hz hv
 have hk:¬ ((1:Int) < 0∨((zaj (zar [z0] [v0] (⟨#[110,111,114,116,104]⟩:ByteArray)).s).length:Int)≤1):=by
  rw [zqX hz hv,hz,zgj]; decide
 obtain⟨h1,h2⟩:=zmT hE hk
 refine⟨h1,?_⟩
 rw [h2,zsw hz hv,zqX hz hv,hz,hv,zgj]
 exact zty
theorem zwp:ziJ [z0] [v0] (⟨#[110,111,114,116,104]⟩:ByteArray)=3∧zei [z0] [v0] (⟨#[110,111,114,116,104]⟩:ByteArray)=[450,1350,2250]:=by
 have hE:=zgd hz hv
 unfold ziJ zei
 rw [if_pos hE,if_pos hE,zsw hz hv,zqX hz hv,hz,hv]
 exact⟨ztB,zwx⟩
theorem zsu:(zcF [z0] [v0] (⟨#[110,111,114,116,104]⟩:ByteArray)).length=20∧(zcF [z0] [v0] (⟨#[110,111,114,116,104]⟩:ByteArray)).getD 19 default=⟨2850,150,200⟩:=by
 have hE:=zgd hz hv
 unfold zcF
 rw [if_pos hE,zsw hz hv,zqX hz hv,hz,hv]
 exact ztA
theorem zuR:(zcx [z0] [v0] (⟨#[110,111,114,116,104]⟩:ByteArray)).roods=50:=by
 have hE:=zgd hz hv
 unfold zcx
 rw [if_pos hE,zsw hz hv,zqX hz hv,hz,hv]
 exact zvk
end
section
variable {z0:ShC} (hz:z0.s=dSh)
include hz
theorem zoE:zfC z0.s=[⟨0,200⟩,⟨200,380⟩,⟨380,560⟩,⟨560,740⟩,⟨740,920⟩,⟨920,1100⟩,⟨1100,1200⟩]∧zcX z0.s=0:=by
 rw [hz]
 exact⟨(if_pos zpj).trans zgj,zda.2 zpj⟩
theorem zn3:zlL z0.s 560=588∧zlK z0.s 560=0:=by
 rw [hz]
 exact⟨by kernel_rfl,by kernel_rfl⟩
theorem zjy:∀ z∈[z0],zaP z.s.heights.length:=fun z h=>by rw [List.mem_singleton.1 h,hz]; decide +kernel
end
theorem zn2 {v0:WlC} (hv:v0.s=dWl):∀ z∈[v0],zaP z.s.opens.length:=fun z h=>by rw [List.mem_singleton.1 h,hv]; decide +kernel
theorem zsv {v0:WlC} (hv:v0.s=dWl):∀ z∈[v0],∀ o∈z.s.opens,Knd o:=fun z h o ho=>by
 rw [List.mem_singleton.1 h,hv] at ho
 have:o=dOp:=List.mem_singleton.1 (show o∈[dOp] from ho)
 rw [this]; decide
end Go.Proofs.YtdcfcfhmkfkgmaaGreatDoor
namespace Go.Proofs.YtdcfcfhmkfkgmaaGreatDoor
open Go.K Go.Stn Go.Pln Go.RowKit
theorem af22:AF Tryz.prog 22 37 20 184 [.string ⟨#[]⟩,.int IntKind.i64 0,.int IntKind.i64 0,.int IntKind.i64 0,.int IntKind.i64 0,.slice none 0 0,.int IntKind.i64 0,.int IntKind.i64 0,.int IntKind.i64 0,.int IntKind.i64 0,.int IntKind.i64 0,.int IntKind.i64 0,.int IntKind.i64 0,.int IntKind.u8 0,.int IntKind.i64 0,.int IntKind.i64 0,.int IntKind.i64 0,.int IntKind.i64 0,.int IntKind.i64 0,.int IntKind.i64 0]:=⟨Tryz.underlying22,by kernel_rfl,rfl⟩
theorem af23:AF Tryz.prog 23 65 4 64 [.string ⟨#[]⟩,.string ⟨#[]⟩,.int IntKind.i64 0,.slice none 0 0]:=⟨Tryz.underlying23,by kernel_rfl,rfl⟩
theorem af63:AF Tryz.prog 63 139 5 40 [.int IntKind.u8 0,.int IntKind.i64 0,.int IntKind.i64 0,.int IntKind.i64 0,.int IntKind.i64 0]:=⟨Tryz.underlying63,by kernel_rfl,rfl⟩
theorem en92:En Tryz.prog 92:=za7 Tryz.func92 (by kernel_rfl) (by kernel_rfl)
theorem zzE (x0:ByteArray) (x1:ByteArray) (x2:Int) (w:World):(Instr.build 65 #[(0,.string x0),(1,.string x1),(2,.int .i64 x2)]).run Tryz.prog w=.ok (.agg #[.string x0,.string x1,.int .i64 x2,.slice none 0 0]) w:=by kernel_rfl
theorem zza (x0:Int) (x1:Int) (x2:Int) (x3:Int) (x4:Int) (w:World):(Instr.build 139 #[(0,.int .u8 x0),(1,.int .i64 x1),(2,.int .i64 x2),(3,.int .i64 x3),(4,.int .i64 x4)]).run Tryz.prog w=.ok (.agg #[.int .u8 x0,.int .i64 x1,.int .i64 x2,.int .i64 x3,.int .i64 x4]) w:=by kernel_rfl
theorem zBn (x0:ShC) (w:World):(Instr.buildSlice 22 1 #[(0,.agg #[.string x0.s.name,.int .i64 x0.s.base,.int .i64 x0.s.batter,.int .i64 x0.s.height,.int .i64 x0.s.skin,.slice x0.a x0.s.heights.length x0.cap,.int .i64 x0.s.least,.int .i64 x0.s.lap,.int .i64 x0.s.run,.int .i64 x0.s.every,.int .i64 x0.s.at_,.int .i64 x0.s.footing,.int .i64 x0.s.spread,.int .u8 x0.s.cope,.int .i64 x0.s.tall,.int .i64 x0.s.short,.int .i64 x0.s.thick,.int .i64 x0.s.low,.int .i64 x0.s.high,.int .i64 x0.s.rood])]).run Tryz.prog w=.ok (.slice (some ⟨w.heap.size,0,none⟩) 1 1) (w.alloc (.cells (([x0]:List (ShC)).flatMap zbH).toArray 37)):=by kernel_rfl
theorem zBo (x0:WlC) (w:World):(Instr.buildSlice 23 1 #[(0,.agg #[.string x0.s.name,.string x0.s.sheet,.int .i64 x0.s.length,.slice x0.a x0.s.opens.length x0.cap])]).run Tryz.prog w=.ok (.slice (some ⟨w.heap.size,0,none⟩) 1 1) (w.alloc (.cells (([x0]:List (WlC)).flatMap zbS).toArray 65)):=by kernel_rfl
theorem zBp (x0_0:Int) (x0_1:Int) (x0_2:Int) (x0_3:Int) (x0_4:Int) (w:World):(Instr.buildSlice 63 1 #[(0,.agg #[.int .u8 x0_0,.int .i64 x0_1,.int .i64 x0_2,.int .i64 x0_3,.int .i64 x0_4])]).run Tryz.prog w=.ok (.slice (some ⟨w.heap.size,0,none⟩) 1 1) (w.alloc (.cells (([⟨x0_0,x0_1,x0_2,x0_3,x0_4⟩]:List (Opn)).flatMap zba).toArray 139)):=by kernel_rfl
abbrev yR:PTy:=⟨25,37,65,3,139⟩
theorem zBt {c:Cx} {ds:List Deferred} {T:List (Nat×Value)} {H:List Res} {K:Act→World→Prop} {α:Type} {enc:α→List Value} {a:Option Addr} {k cap:Nat} {e:TypeId} {l:List α} (i:Nat) (hi:H[i]?=some (Row a k cap e enc l)) (h:l.length≤cap→GK c ds K T H):GK c ds K T H:=
 fun a w ha hw=>h (zcM (hw.has (p:=i) hi)) a w ha hw
theorem zzB {s x:ByteArray} {c:UInt8} (h:x∈zcn s c):x.size≤s.size:=by
 rw [zcT] at h
 obtain⟨p,hp,rfl⟩:=List.mem_map.1 h
 have:=zgi hp
 rw [znt]
 rwa [Array.length_toList] at this
theorem zAy {ws:List ByteArray} (h:(zyY ws).isSome=true):zyY ws=some (rdS ws):=by
 unfold rdS
 cases hr:zyY ws with
 | none=>rw [hr] at h; cases h
 | some s=>rfl
theorem zA6 {ws:List ByteArray} (h:(zyY ws).isSome=false):zyY ws=none:=by
 cases hr:zyY ws with
 | none=>rfl
 | some s=>rw [hr] at h; cases h
theorem zAO {ws:List ByteArray} (h:(zyY ws).isSome=true):0≤(rdS ws).cope∧(rdS ws).name=ws.getD 1 default∧(rdS ws).heights.length≤ws.length+1:=by
 have hr:=zAy h
 generalize rdS ws=s at *
 unfold zyY at hr
 split at hr
 ·cases hr
 ·split at hr
  ·obtain⟨a,ha,hr⟩:=Option.bind_eq_some_iff.1 hr
   obtain⟨u,hu,hr⟩:=Option.bind_eq_some_iff.1 hr
   obtain⟨b,hb,hr⟩:=Option.bind_eq_some_iff.1 hr
   split at hr
   ·cases hr
   ·obtain⟨c,hc,hr⟩:=Option.bind_eq_some_iff.1 hr
    split at hr
    ·split at hr
     ·cases hr
     ·cases hr
      refine⟨?_,rfl,?_⟩
      ·show 0≤Go.Pln.kindD _
       unfold Go.Pln.kindD
       split <;> omega
      ·have h1:=zhh _ _ (zz8 hu)
       have h2:=(zy6 _ _ _ ha).1
       rw [h2] at h1
       simp only [List.length_cons,List.length_nil,List.length_drop] at h1
       show u.1.length≤_
       omega
    ·cases hr
  ·cases hr
theorem zzg {q:Plan} {S:List ShC} {n:ByteArray} (hS:S.map (·.s)=q.S) (h:0≤zaS S n):(S.getD (zaS S n).toNat default).s=getS q.S n:=by
 have h1:=zf2 S n
 rw [hS] at h1
 rw [←h1]
 unfold zav
 rw [if_pos h]
theorem zAK {x:ByteArray} {k:Int} (h0:1≤k) (h1:k≤5) (h2:∀ j:Nat,1≤j→(j:Int) < k→((zy1 false j).toList == x.toList)=false) (h3:k=5∨((zy1 false k).toList == x.toList)=true):zzb x=k:=by
 have hw:∀ j:Int,0≤j→j < 4→(opensW.drop 1).getD j.toNat default=zy1 false (j+1):=fun j a b=>by
  obtain rfl | rfl | rfl | rfl:j=0∨j=1∨j=2∨j=3:=by omega
  all_goals rfl
 have hsym:∀ a b:ByteArray,(a.toList == b.toList)=(b.toList == a.toList):=fun a b=>by rw [Bool.eq_iff_iff,beqB,beqB]; exact eq_comm
 have h4:((opensW.drop 1).length:Int)=4:=rfl
 unfold zzb
 by_cases hk:k < 5
 ·have e:zbJ (fun y=>x.toList == y.toList) (opensW.drop 1)=k - 1:=zcs (by omega) (by omega) (fun j hj=>by have:=hw j (by omega) (by omega); rw [Int.toNat_natCast] at this; rw [this,hsym]; exact h2 (j+1) (by omega) (by omega)) (by rw [hw (k - 1) (by omega) (by omega),hsym,Int.sub_add_cancel]; exact h3.resolve_left (by omega))
  rw [e,if_neg (by omega)]; omega
 ·have e:zbJ (fun y=>x.toList == y.toList) (opensW.drop 1) = -1:=zck (fun j hj=>by have:=hw j (by omega) (by omega); rw [Int.toNat_natCast] at this; rw [this,hsym]; exact h2 (j+1) (by omega) (by omega))
  rw [e,if_pos (by omega)]; omega
theorem zA8 {ws:List ByteArray} (h:ws.length < 2):zzt ws=none:=by unfold zzt; rw [if_pos h]
theorem zA9 {ws:List ByteArray} (h1:¬ ws.length < 2) (h:tkB (ws.drop 2) patD=false∨0 < (tkR (ws.drop 2) patD).length∨zzb (ws.getD 1 default)=5):zzt ws=none:=by
 unfold zzt
 rw [if_neg h1]
 by_cases e:tkB (ws.drop 2) patD=true
 ·rw [zy4 e]
  show(if (tkR (ws.drop 2) patD).length=0 then _ else none)=none
  split
  ·rename_i h0
   rcases h with h | h | h
   ·rw [e] at h; cases h
   ·omega
   ·exact if_pos h
  ·rfl
 ·rw [zzJ (by simpa using e)]; rfl
theorem zAA {ws:List ByteArray} (h1:¬ ws.length < 2) (h2:tkB (ws.drop 2) patD=true) (h3:(tkR (ws.drop 2) patD).length=0) (h4:¬ zzb (ws.getD 1 default)=5):zzt ws=some (zzb (ws.getD 1 default),tkN (ws.drop 2) patD):=by
 unfold zzt
 rw [if_neg h1,zy4 h2]
 show(if (tkR (ws.drop 2) patD).length=0 then _ else none)=_
 rw [if_pos h3,if_neg h4]
theorem c72 {n:Nat} {b1 b2 b3:Bool} (h:((!decide ((n:Int)=4)||!b1)||!b2)=true):¬ (n=4∧b1=true∧b2=true∧b3=true):=by
 simp only [Bool.or_eq_true,Bool.not_eq_true',decide_eq_false_iff_not] at h
 rintro ⟨h1,h2,h3,_⟩
 rcases h with (h | h) | h
 ·omega
 ·rw [h2] at h; cases h
 ·rw [h3] at h; cases h
theorem c72f {n:Nat} {b1 b2:Bool} (h:((!decide ((n:Int)=4)||!b1)||!b2)=false):n=4∧b1=true∧b2=true:=by
 simp only [Bool.or_eq_false_iff,Bool.not_eq_false',decide_eq_true_eq] at h
 exact⟨by omega,h.1.2,h.2⟩
theorem zBD {k:Int} {x:ByteArray} (h:(decide (k < 5)&&((decide (k=4)&&!(x.toList == (⟨#[103,97,116,101]⟩:ByteArray).toList))||(decide (k < 4)&&!((zy1 false k).toList == x.toList))))=true):k < 5∧((zy1 false k).toList == x.toList)=false:=by
 simp only [Bool.and_eq_true,Bool.or_eq_true,decide_eq_true_eq,Bool.not_eq_true'] at h
 obtain⟨h1,h2⟩:=h
 refine⟨h1,?_⟩
 rcases h2 with ⟨h2,h3⟩ | ⟨h2,h3⟩
 ·rw [h2]
  rw [Bool.eq_false_iff] at *
  exact fun e=>h3 ((beqB _ _).2 ((beqB _ _).1 e).symm)
 ·exact h3
theorem zBC {k:Int} {x:ByteArray} (h0:k≤5) (h:(decide (k < 5)&&((decide (k=4)&&!(x.toList == (⟨#[103,97,116,101]⟩:ByteArray).toList))||(decide (k < 4)&&!((zy1 false k).toList == x.toList))))=false):k=5∨((zy1 false k).toList == x.toList)=true:=by
 simp only [Bool.and_eq_false_iff,Bool.or_eq_false_iff,decide_eq_false_iff_not,Bool.not_eq_false'] at h
 rcases h with h | ⟨h1,h2⟩
 ·exact .inl (by omega)
 ·by_cases h4:k=4
  ·rcases h1 with h1 | h1
   ·omega
   ·exact .inr (by rw [h4]; exact(beqB _ _).2 ((beqB _ _).1 h1).symm)
  ·rcases h2 with h2 | h2
   ·exact .inl (by omega)
   ·exact .inr h2
theorem zBF {q:Plan} {ws:List ByteArray} {k:Int} (hp:1≤ws.length) (hw2:¬ ws.length < 2) (hkd:zzb (ws.getD 1 default)=k) {m:Nat} (hm:m=q.V.length) (h:(((!tkB (ws.drop 2) patD||decide (0 < ((tkR (ws.drop 2) patD).length:Int)))||decide (k=5))||decide ((m:Int)=0))=true):zch q (ws.drop 1)=.error 4:=by
 by_cases hx:tkB (ws.drop 2) patD=false∨0 < (tkR (ws.drop 2) patD).length∨zzb (ws.getD 1 default)=5
 ·exact zzH hp (zA9 hw2 hx)
 ·rw [Bool.or_eq_true] at h
  rcases h with h | h
  ·exact absurd (by rw [hkd]; exact zBr h) hx
  ·have hb:tkB (ws.drop 2) patD=true:=by
    cases hb:tkB (ws.drop 2) patD with
    | true=>rfl
    | false=>exact absurd (.inl hb) hx
   have h2:¬ 0 < (tkR (ws.drop 2) patD).length:=fun e=>hx (.inr (.inl e))
   rw [zzq hp (zAA hw2 hb (by omega) (fun e=>hx (.inr (.inr e))))]
   have:=of_decide_eq_true h
   exact if_pos (by omega)
theorem zBE {b:Bool} {n m:Nat} {k:Int} (h:(((!b||decide (0 < (n:Int)))||decide (k=5))||decide ((m:Int)=0))=false):b=true∧n=0∧¬ k=5∧¬ m=0:=by
 rw [Bool.or_eq_false_iff] at h
 obtain⟨h1,h2,h3⟩:=zBq h.1
 have:=of_decide_eq_false h.2
 exact⟨h1,h2,h3,by omega⟩
set_option maxRecDepth 100000 in
set_option maxHeartbeats 16000000 in
theorem zBy (sa:Option Addr) (sc:Nat) (S:List ShC) (wa:Option Addr) (wc:Nat) (V:List WlC) (q:Plan) (t:ByteArray) (w:World) (B:Nat→Prop) (hB:∀ k,B k→k < w.heap.size) (hA:(PlR yR ((sa,sc,S),(wa,wc,V)) q).A B w) (hq:OkQ q) (hok:OkF q) (ht:t.size≤40000) :
  Calls Tryz.prog 61 #[.agg #[.slice sa S.length sc,.slice wa V.length wc],.string t] w (zho (fun z:(Option Addr×Nat×List ShC)×(Option Addr×Nat×List WlC)=>.tuple #[.agg #[.slice z.1.1 z.1.2.2.length z.1.2.1,.slice z.2.1 z.2.2.2.length z.2.2.1],.int .i64 (zkJ (zcu q t))]) (fun z=>PlR yR z (outQ q (zcu q t))) (fun _=>True) B w):=by
 refine zby hB hA (vs:=[_,_]) Tryz.func61 rfl rfl (Nat.le_of_ble_eq_true rfl) ?_
 refine zjk fun hS hV=>?_
 have hlS:S.length=q.S.length:=by rw [←hS,List.length_map]
 have hlV:V.length=q.V.length:=by rw [←hV,List.length_map]
 have hq20:=hq.ls
 have hq50:=hq.lv
 refine zac ?_
 refine zaa ?_
 refine zaG rfl rfl (za3 (vs:=[_,_]) rfl rfl) fun b2=>?_
 refine zaG rfl rfl (zaL tf25 (zs:=[_,_]) rfl) fun b4=>?_
 refine gQ (zad rfl) ?_
 refine zag (zae (T':=[(1,_),(2,_),(4,_),(5,_)]) ⟨rfl,rfl,rfl,rfl,trivial⟩ ?_)
 refine zac ?_
 refine zaa ?_
 refine gQ (zaf rfl) ?_
 refine zaG rfl rfl (zbm en60 rfl (fun w hw=>zAx t 32 w (by omega))) fun p18=>?_
 refine gQ (zad rfl) ?_
 refine zag (zae (T':=[(2,_),(4,_),(5,_),(6,_)]) ⟨rfl,rfl,rfl,rfl,trivial⟩ ?_)
 refine zBt 0 rfl fun hWc=>?_
 have hp:=(zjw t 32).1
 have hWn:=(zjw t 32).2
 have hWz:∀ x∈(zcn t 32),x.size≤1000000:=fun x hx=>by have:=zzB hx; omega
 refine zac ?_
 refine zac ?_
 refine zaa ?_
 refine gQ (zaf rfl) ?_
 refine gQ (zaE zqJ rfl rfl (fun _ hw=>(zam ztJ (hw.has (p:=0) rfl))) (by omega) (by omega)) ?_
 refine gQ (zcE tf9 rfl (fun _ hw=>(zam ztJ (hw.has (p:=0) rfl))) (by omega) (by omega) rfl) ?_
 refine zag (zae (T':=[(2,_),(4,_),(5,_),(6,_),(21,_)]) ⟨rfl,rfl,rfl,rfl,rfl,trivial⟩ ?_)
 refine zas ?_
 refine zac ?_
 refine zaa ?_
 refine gQ (zge rfl rfl) ?_
 refine gQ (zad rfl) ?_
 refine zag (zae (T':=[(2,_),(4,_),(5,_),(6,_),(21,_),(22,_)]) ⟨rfl,rfl,rfl,rfl,rfl,rfl,trivial⟩ ?_)
 refine zap rfl (fun hc22=>?_) (fun hc22=>?_)
 ·have hL:zcu q t=zb3 q ((zcn t 32).drop 1):=by rw [zy5]; exact zAb hc22
  refine zac ?_
  refine zaa ?_
  refine gQ (zaf rfl) ?_
  refine zaG rfl rfl (zbm en92 rfl (fun w hw=>zzV p18.1 p18.2 (zcn t 32) w (zam ztJ (hw.has (p:=0) rfl)) hWc (by omega) hWz)) fun p26=>?_
  refine gQ (zaf rfl) ?_
  refine gQ (zaB rfl rfl) ?_
  refine gQ (zaB rfl rfl) ?_
  refine zaG rfl rfl (zaL tf37 (zs:=[_,_,_,_,_,_,_,_,_,_,_,_,_,_,_,_,_,_,_,_]) rfl) fun b7=>?_
  refine zbz 0 tf37 rfl rfl (vs:=[_,_,_,_,_,_,_,_,_,_,_,_,_,_,_,_,_,_,_,_]) rfl rfl rfl rfl rfl ?_
  refine gQ (zad rfl) ?_
  refine zag (zae (T':=[(2,_),(4,_),(5,_),(7,_),(8,_)]) ⟨rfl,rfl,rfl,rfl,rfl,trivial⟩ ?_)
  refine zac ?_
  refine zac ?_
  refine zaa ?_
  refine gQ (zaf rfl) ?_
  refine gQ (zbR rfl) ?_
  refine zag (zae (T':=[(2,_),(4,_),(5,_),(7,_),(30,_)]) ⟨rfl,rfl,rfl,rfl,rfl,trivial⟩ ?_)
  refine zap rfl (fun hc30=>?_) (fun hc30=>?_)
  ·have hno:(zyY (zcn t 32)).isSome=false:=by simpa using hc30
   refine zac ?_
   refine zaa ?_
   refine gQ (zat 4 tf25 rfl rfl (vs:=[_,_]) rfl rfl) ?_
   refine zaA 3 tf25 rfl rfl (vs:=[_,_]) rfl rfl rfl rfl rfl ?_
   refine gQ (zad rfl) ?_
   refine zag (zae (T':=[(2,_),(4,_),(5,_),(7,_)]) ⟨rfl,rfl,rfl,rfl,trivial⟩ ?_)
   refine zaw ?_
   have hE:zcu q t=.error 4:=hL.trans (zzP hp (zA6 hno))
   refine zao 8 rfl ?_
   refine zao 8 rfl ?_
   refine zao 8 rfl ?_
   refine zao 8 rfl ?_
   refine zbT 4 ?_
   refine za2 (R':=PlR yR ((sa,sc,S),(wa,wc,V)) q) 0 rfl (fun B w hA=>⟨hS,hV,hA⟩) ?_
   exact zd9 ((sa,sc,S),(wa,wc,V)) 0 (zc2 rfl (zbU (i:=4) (vs:=[_,_]) tf25 rfl rfl rfl rfl) (zau rfl)) (by rw [hE]; rfl) (by rw [hE]; rfl) trivial
  ·have hyes:(zyY (zcn t 32)).isSome=true:=by simpa using hc30
   have hy:=zzw (q:=q) hp (zAy hyes)
   obtain⟨hf1,hf2,hf3⟩:=zAO hyes
   have hw2:¬ (zcn t 32).length < 2:=fun h=>by rw [zAz (.inl h)] at hyes; cases hyes
   refine zaq ?_
   refine zac ?_
   refine zac ?_
   refine zaa ?_
   refine gQ (zat 4 tf25 rfl rfl (vs:=[_,_]) rfl rfl) ?_
   refine gQ (zab zkW rfl) ?_
   refine gQ (zah 0 tf9 rfl rfl rfl) ?_
   refine gQ (zaJ en41 rfl (fun w hw=>zfq _ _ S _ _ _ _ w (zam zbI (hw.has (p:=5) rfl)) (by unfold zaP; omega))) ?_
   refine gQ (zfx rfl rfl) ?_
   refine zag (zae (T':=[(2,_),(4,_),(5,_),(7,_),(36,_)]) ⟨rfl,rfl,rfl,rfl,rfl,trivial⟩ ?_)
   refine zap rfl (fun hc36=>?_) (fun hc36=>?_)
   ·have h36:0≤zew q.S (rdS (zcn t 32)).name:=by have:=of_decide_eq_true hc36; rwa [zeL,hS] at this
    refine zac ?_
    refine zaa ?_
    refine gQ (zat 4 tf25 rfl rfl (vs:=[_,_]) rfl rfl) ?_
    refine zaA 3 tf25 rfl rfl (vs:=[_,_]) rfl rfl rfl rfl rfl ?_
    refine gQ (zad rfl) ?_
    refine zag (zae (T':=[(2,_),(4,_),(5,_),(7,_)]) ⟨rfl,rfl,rfl,rfl,trivial⟩ ?_)
    refine zaw ?_
    have hE:zcu q t=.error 7:=hL.trans (hy.trans (if_pos h36))
    refine zao 8 rfl ?_
    refine zao 8 rfl ?_
    refine zao 8 rfl ?_
    refine zao 8 rfl ?_
    refine zbT 4 ?_
    refine za2 (R':=PlR yR ((sa,sc,S),(wa,wc,V)) q) 0 rfl (fun B w hA=>⟨hS,hV,hA⟩) ?_
    exact zd9 ((sa,sc,S),(wa,wc,V)) 0 (zc2 rfl (zbU (i:=4) (vs:=[_,_]) tf25 rfl rfl rfl rfl) (zau rfl)) (by rw [hE]; rfl) (by rw [hE]; rfl) trivial
   ·have h36:¬ 0≤zew q.S (rdS (zcn t 32)).name:=by have:=of_decide_eq_false hc36; rwa [zeL,hS] at this
    refine zaq ?_
    refine zac ?_
    refine zac ?_
    refine zaa ?_
    refine gQ (zat 0 tf37 rfl rfl (vs:=[_,_,_,_,_,_,_,_,_,_,_,_,_,_,_,_,_,_,_,_]) rfl rfl) ?_
    refine gQ (zaJ en19 rfl (fun w hw=>zkm p26.1 p26.2 (rdS (zcn t 32)) w (zam Go.Stn.encI_ok (hw.has (p:=1) rfl)) (by unfold zaP; omega) hf1 (by unfold Fits; rw [hf2]; have:=hWz _ (za0 (l:=(zcn t 32)) (i:=1) (by omega)); omega))) ?_
    refine gQ (zbR rfl) ?_
    refine zag (zae (T':=[(2,_),(4,_),(5,_),(7,_),(40,_)]) ⟨rfl,rfl,rfl,rfl,rfl,trivial⟩ ?_)
    refine zap rfl (fun hc40=>?_) (fun hc40=>?_)
    ·have h40:¬ za4 (rdS (zcn t 32))=true:=by simpa using hc40
     refine zac ?_
     refine zaa ?_
     refine gQ (zat 4 tf25 rfl rfl (vs:=[_,_]) rfl rfl) ?_
     refine zaA 3 tf25 rfl rfl (vs:=[_,_]) rfl rfl rfl rfl rfl ?_
     refine gQ (zad rfl) ?_
     refine zag (zae (T':=[(2,_),(4,_),(5,_),(7,_)]) ⟨rfl,rfl,rfl,rfl,trivial⟩ ?_)
     refine zaw ?_
     have hE:zcu q t=.error 2:=hL.trans (hy.trans ((if_neg h36).trans (if_neg h40)))
     refine zao 8 rfl ?_
     refine zao 8 rfl ?_
     refine zao 8 rfl ?_
     refine zao 8 rfl ?_
     refine zbT 4 ?_
     refine za2 (R':=PlR yR ((sa,sc,S),(wa,wc,V)) q) 0 rfl (fun B w hA=>⟨hS,hV,hA⟩) ?_
     exact zd9 ((sa,sc,S),(wa,wc,V)) 0 (zc2 rfl (zbU (i:=4) (vs:=[_,_]) tf25 rfl rfl rfl rfl) (zau rfl)) (by rw [hE]; rfl) (by rw [hE]; rfl) trivial
    ·have h40:za4 (rdS (zcn t 32))=true:=by simpa using hc40
     refine zaq ?_
     refine zac ?_
     refine zac ?_
     refine zaa ?_
     refine gQ (zab zd6 rfl) ?_
     refine gQ (zah 4 tf22 rfl rfl rfl) ?_
     refine gQ (zaV (Tryz.underlying22) rfl) ?_
     refine gQ (zbL rfl rfl) ?_
     refine zag (zae (T':=[(2,_),(4,_),(5,_),(7,_),(45,_)]) ⟨rfl,rfl,rfl,rfl,rfl,trivial⟩ ?_)
     refine zap rfl (fun hc45=>?_) (fun hc45=>?_)
     ·have h45:q.S.length=20:=by have:=of_decide_eq_true hc45; omega
      refine zac ?_
      refine zaa ?_
      refine gQ (zat 4 tf25 rfl rfl (vs:=[_,_]) rfl rfl) ?_
      refine zaA 3 tf25 rfl rfl (vs:=[_,_]) rfl rfl rfl rfl rfl ?_
      refine gQ (zad rfl) ?_
      refine zag (zae (T':=[(2,_),(4,_),(5,_),(7,_)]) ⟨rfl,rfl,rfl,rfl,trivial⟩ ?_)
      refine zaw ?_
      have hE:zcu q t=.error 5:=hL.trans (hy.trans ((if_neg h36).trans ((if_pos h40).trans (if_pos h45))))
      refine zao 8 rfl ?_
      refine zao 8 rfl ?_
      refine zao 8 rfl ?_
      refine zao 8 rfl ?_
      refine zbT 4 ?_
      refine za2 (R':=PlR yR ((sa,sc,S),(wa,wc,V)) q) 0 rfl (fun B w hA=>⟨hS,hV,hA⟩) ?_
      exact zd9 ((sa,sc,S),(wa,wc,V)) 0 (zc2 rfl (zbU (i:=4) (vs:=[_,_]) tf25 rfl rfl rfl rfl) (zau rfl)) (by rw [hE]; rfl) (by rw [hE]; rfl) trivial
     ·have h45:¬ q.S.length=20:=by have:=of_decide_eq_false hc45; omega
      refine zaq ?_
      refine zac ?_
      refine zaa ?_
      refine gQ (zab zd6 rfl) ?_
      refine gQ (zah 4 tf22 rfl rfl rfl) ?_
      refine gQ (zat 0 tf37 rfl rfl (vs:=[_,_,_,_,_,_,_,_,_,_,_,_,_,_,_,_,_,_,_,_]) rfl rfl) ?_
      refine zaG rfl rfl (zaD rfl (zBn (⟨rdS (zcn t 32),p26.1,p26.2⟩:ShC)) zbI rfl) fun b50=>?_
      refine zb4 (m:=[(⟨rdS (zcn t 32),p26.1,p26.2⟩:ShC)]) 6 af22 zbI rfl rfl rfl rfl (fun _ hw=>(zam zbI (hw.has (p:=0) rfl))) (by first | omega | (simp only [List.length_cons,List.length_nil]; omega)) (by first | (unfold maxLen; omega) | (simp only [List.length_cons,List.length_nil,maxLen]; omega)) fun a51 c51=>?_
      refine gQ (zab zd6 rfl) ?_
      refine zaA 5 tf22 rfl rfl (vs:=[_]) rfl rfl rfl rfl rfl ?_
      refine zag (zae (T':=[(2,_),(4,_),(5,_)]) ⟨rfl,rfl,rfl,trivial⟩ ?_)
      refine zao 2 rfl ?_
      refine zao 7 rfl ?_
      refine zbT 2 ?_
      refine za2 (R':=Go.K.Rows (rowH 3) (S++[(⟨(rdS (zcn t 32)),p26.1,p26.2⟩:ShC)])) 0 rfl (fun B w hA=>zfr (f:=rowH 3) hA) ?_
      refine zac ?_
      refine zaa ?_
      refine gQ (zat 5 tf25 rfl rfl (vs:=[_,_]) rfl rfl) ?_
      refine zaA 4 tf25 rfl rfl (vs:=[_,_]) rfl rfl rfl rfl rfl ?_
      refine gQ (zad rfl) ?_
      refine zag (zae (T':=[(2,_),(4,_),(5,_)]) ⟨rfl,rfl,rfl,trivial⟩ ?_)
      refine zaw ?_
      have hE:zcu q t=.ok ⟨q.S++[(rdS (zcn t 32))],q.V⟩:=hL.trans (hy.trans ((if_neg h36).trans ((if_pos h40).trans (if_neg h45))))
      refine zao 8 rfl ?_
      refine zao 8 rfl ?_
      refine zao 2 rfl ?_
      refine zao 8 rfl ?_
      refine zbT 4 ?_
      refine za2 (R':=PlR yR ((a51,c51,(S++[(⟨(rdS (zcn t 32)),p26.1,p26.2⟩:ShC)])),(wa,wc,V)) ⟨q.S++[(rdS (zcn t 32))],q.V⟩) 0 rfl (fun B w hA=>⟨by rw [List.map_append,hS]; rfl,hV,hA⟩) ?_
      exact zd9 ((a51,c51,(S++[(⟨(rdS (zcn t 32)),p26.1,p26.2⟩:ShC)])),(wa,wc,V)) 0 (zc2 rfl (zbU (i:=4) (vs:=[_,_]) tf25 rfl rfl rfl rfl) (zau rfl)) (by rw [hE]; rfl) (by rw [hE]; rfl) trivial
 ·have hu1:=hc22
  refine zac ?_
  refine zaa ?_
  refine gQ (zge rfl rfl) ?_
  refine gQ (zad rfl) ?_
  refine zag (zae (T':=[(2,_),(4,_),(5,_),(6,_),(21,_),(54,_)]) ⟨rfl,rfl,rfl,rfl,rfl,rfl,trivial⟩ ?_)
  refine zap rfl (fun hc54=>?_) (fun hc54=>?_)
  ·have hL:zcu q t=zb1 q ((zcn t 32).drop 1):=by rw [zy5]; exact zAp hu1 hc54
   refine zac ?_
   refine zac ?_
   refine zbb 17 (fun _=>mixed) (by kernel_rfl) ?_
   refine ph_y (zaf rfl) ?_
   refine ph_y (zaV (Tryz.underlying124) rfl) ?_
   refine ph_y (zcr rfl rfl) ?_
   refine ph_y (zaf rfl) ?_
   refine zaz rfl rfl (fun hgd=>by(try rw [hgd]); have hgd0:=hgd; (try simp only [Bool.not_eq_true',Bool.not_eq_false',decide_eq_true_eq] at hgd0); exact(zaf rfl)) ?_
   refine zaz rfl rfl (fun hgd=>by(try rw [hgd]); have hgd0:=hgd; (try simp only [Bool.not_eq_true',Bool.not_eq_false',decide_eq_true_eq] at hgd0); exact(zaE zqJ rfl rfl (fun _ hw=>(zam ztJ (hw.has (p:=0) rfl))) (by omega) (by omega))) ?_
   refine zaz rfl rfl (fun hgd=>by(try rw [hgd]); have hgd0:=hgd; (try simp only [Bool.not_eq_true',Bool.not_eq_false',decide_eq_true_eq] at hgd0); exact(zcE tf9 rfl (fun _ hw=>(zam ztJ (hw.has (p:=0) rfl))) (by omega) (by omega) rfl)) ?_
   refine zaz rfl rfl (fun hgd=>by(try rw [hgd]); have hgd0:=hgd; (try simp only [Bool.not_eq_true',Bool.not_eq_false',decide_eq_true_eq] at hgd0); exact(zaJ (v:=.bool (zdY ((zcn t 32).getD (1:Int).toNat default))) en51 rfl (fun w hw=>znM ((zcn t 32).getD (1:Int).toNat default) w (by unfold Fits; have:=hWz _ (za0 (l:=(zcn t 32)) (i:=(1:Int).toNat) (by omega)); omega)))) ?_
   refine zaz rfl rfl (fun hgd=>by(try rw [hgd]); have hgd0:=hgd; (try simp only [Bool.not_eq_true',Bool.not_eq_false',decide_eq_true_eq] at hgd0); exact(zbR rfl)) ?_
   refine ph_y (zaR rfl rfl rfl) ?_
   refine ph_y (zaf rfl) ?_
   refine zaz rfl rfl (fun hgd=>by(try rw [hgd]); have hgd0:=hgd; (try simp only [Bool.not_eq_true',Bool.or_eq_false_iff,Bool.not_eq_false',decide_eq_true_eq] at hgd0); exact(zaf rfl)) ?_
   refine zaz rfl rfl (fun hgd=>by(try rw [hgd]); have hgd0:=hgd; (try simp only [Bool.not_eq_true',Bool.or_eq_false_iff,Bool.not_eq_false',decide_eq_true_eq] at hgd0); exact(zaE zqJ rfl rfl (fun _ hw=>(zam ztJ (hw.has (p:=0) rfl))) (by omega) (by omega))) ?_
   refine zaz rfl rfl (fun hgd=>by(try rw [hgd]); have hgd0:=hgd; (try simp only [Bool.not_eq_true',Bool.or_eq_false_iff,Bool.not_eq_false',decide_eq_true_eq] at hgd0); exact(zcE tf9 rfl (fun _ hw=>(zam ztJ (hw.has (p:=0) rfl))) (by omega) (by omega) rfl)) ?_
   refine zaz rfl rfl (fun hgd=>by(try rw [hgd]); have hgd0:=hgd; (try simp only [Bool.not_eq_true',Bool.or_eq_false_iff,Bool.not_eq_false',decide_eq_true_eq] at hgd0); exact(zaJ (v:=.bool (zdY ((zcn t 32).getD (2:Int).toNat default))) en51 rfl (fun w hw=>znM ((zcn t 32).getD (2:Int).toNat default) w (by unfold Fits; have:=hWz _ (za0 (l:=(zcn t 32)) (i:=(2:Int).toNat) (by omega)); omega)))) ?_
   refine zaz rfl rfl (fun hgd=>by(try rw [hgd]); have hgd0:=hgd; (try simp only [Bool.not_eq_true',Bool.or_eq_false_iff,Bool.not_eq_false',decide_eq_true_eq] at hgd0); exact(zbR rfl)) ?_
   refine ph_y (zaR rfl rfl rfl) ?_
   refine zag (zae (T':=[(2,_),(4,_),(5,_),(6,_),(72,_)]) ⟨rfl,rfl,rfl,rfl,rfl,trivial⟩ ?_)
   refine zap rfl (fun hc72=>?_) (fun hc72=>?_)
   ·have hbad:¬ ((zcn t 32).length=4∧zgx ((zcn t 32).getD 1 default)=true∧zgx ((zcn t 32).getD 2 default)=true∧numW ((zcn t 32).getD 3 default)=true):=by rw [znv,znv]; exact c72 hc72
    refine zac ?_
    refine zaa ?_
    refine gQ (zat 2 tf25 rfl rfl (vs:=[_,_]) rfl rfl) ?_
    refine zaA 1 tf25 rfl rfl (vs:=[_,_]) rfl rfl rfl rfl rfl ?_
    refine gQ (zad rfl) ?_
    refine zag (zae (T':=[(2,_),(4,_),(5,_),(6,_)]) ⟨rfl,rfl,rfl,rfl,trivial⟩ ?_)
    refine zaw ?_
    have hE:zcu q t=.error 4:=hL.trans (zzI hp hbad)
    refine zao 6 rfl ?_
    refine zao 6 rfl ?_
    refine zao 6 rfl ?_
    refine zao 6 rfl ?_
    refine zbT 4 ?_
    refine za2 (R':=PlR yR ((sa,sc,S),(wa,wc,V)) q) 0 rfl (fun B w hA=>⟨hS,hV,hA⟩) ?_
    exact zd9 ((sa,sc,S),(wa,wc,V)) 0 (zc2 rfl (zbU (i:=2) (vs:=[_,_]) tf25 rfl rfl rfl rfl) (zau rfl)) (by rw [hE]; rfl) (by rw [hE]; rfl) trivial
   ·obtain⟨h4,hn1,hn2⟩:=c72f hc72
    refine zaq ?_
    refine zac ?_
    refine zaa ?_
    refine gQ (zaf rfl) ?_
    refine gQ (zaE zqJ rfl rfl (fun _ hw=>(zam ztJ (hw.has (p:=0) rfl))) (by omega) (by omega)) ?_
    refine gQ (zcE tf9 rfl (fun _ hw=>(zam ztJ (hw.has (p:=0) rfl))) (by omega) (by omega) rfl) ?_
    refine gQ (zaJ en93 rfl (fun w hw=>zzp ((zcn t 32).getD (3:Int).toNat default) w (hWz _ (za0 (l:=(zcn t 32)) (i:=(3:Int).toNat) (by omega))))) ?_
    refine gQ (zaf rfl) ?_
    refine gQ (zaB rfl rfl) ?_
    refine gQ (zaB rfl rfl) ?_
    refine gQ (zad rfl) ?_
    refine gQ (zad rfl) ?_
    refine zag (zae (T':=[(2,_),(4,_),(5,_),(6,_),(9,_),(10,_)]) ⟨rfl,rfl,rfl,rfl,rfl,rfl,trivial⟩ ?_)
    refine zac ?_
    refine zac ?_
    refine zaa ?_
    refine gQ (zaf rfl) ?_
    refine gQ (zbR rfl) ?_
    refine zag (zae (T':=[(2,_),(4,_),(5,_),(6,_),(9,_),(82,_)]) ⟨rfl,rfl,rfl,rfl,rfl,rfl,trivial⟩ ?_)
    refine zap rfl (fun hc82=>?_) (fun hc82=>?_)
    ·have hnn:numW ((zcn t 32).getD 3 default)=false:=by have h:=hc82; simpa using h
     have hbad:¬ ((zcn t 32).length=4∧zgx ((zcn t 32).getD 1 default)=true∧zgx ((zcn t 32).getD 2 default)=true∧numW ((zcn t 32).getD 3 default)=true):=fun hx=>by rw [hnn] at hx; exact Bool.noConfusion hx.2.2.2
     refine zac ?_
     refine zaa ?_
     refine gQ (zat 2 tf25 rfl rfl (vs:=[_,_]) rfl rfl) ?_
     refine zaA 1 tf25 rfl rfl (vs:=[_,_]) rfl rfl rfl rfl rfl ?_
     refine gQ (zad rfl) ?_
     refine zag (zae (T':=[(2,_),(4,_),(5,_),(6,_),(9,_)]) ⟨rfl,rfl,rfl,rfl,rfl,trivial⟩ ?_)
     refine zaw ?_
     have hE:zcu q t=.error 4:=hL.trans (zzI hp hbad)
     refine zao 6 rfl ?_
     refine zao 6 rfl ?_
     refine zao 6 rfl ?_
     refine zao 6 rfl ?_
     refine zbT 4 ?_
     refine za2 (R':=PlR yR ((sa,sc,S),(wa,wc,V)) q) 0 rfl (fun B w hA=>⟨hS,hV,hA⟩) ?_
     exact zd9 ((sa,sc,S),(wa,wc,V)) 0 (zc2 rfl (zbU (i:=2) (vs:=[_,_]) tf25 rfl rfl rfl rfl) (zau rfl)) (by rw [hE]; rfl) (by rw [hE]; rfl) trivial
    ·have hnn:numW ((zcn t 32).getD 3 default)=true:=by have h:=hc82; simpa using h
     have hy:=zzQ (q:=q) h4 (by rw [znv]; exact hn1) (by rw [znv]; exact hn2) hnn
     refine zaq ?_
     refine zac ?_
     refine zbb 9 (fun _=>mixed) (by kernel_rfl) ?_
     refine ph_y (zaf rfl) ?_
     refine ph_y (zaE zqJ rfl rfl (fun _ hw=>(zam ztJ (hw.has (p:=0) rfl))) (by omega) (by omega)) ?_
     refine ph_y (zcE tf9 rfl (fun _ hw=>(zam ztJ (hw.has (p:=0) rfl))) (by omega) (by omega) rfl) ?_
     refine ph_y (zaf rfl) ?_
     refine ph_y (zaE zqJ rfl rfl (fun _ hw=>(zam ztJ (hw.has (p:=0) rfl))) (by omega) (by omega)) ?_
     refine ph_y (zcE tf9 rfl (fun _ hw=>(zam ztJ (hw.has (p:=0) rfl))) (by omega) (by omega) rfl) ?_
     refine ph_y (zaf rfl) ?_
     refine ph_y (zaI rfl (zzE _ _ _)) ?_
     refine zmr (zaL tf65 (zs:=[_,_,_,_]) rfl) ?_
     intro b11
     refine zae (T':=[(2,_),(4,_),(5,_),(11,_),(91,_)]) ⟨rfl,rfl,rfl,rfl,rfl,trivial⟩ ?_
     refine zaA 0 tf65 rfl rfl (vs:=[_,_,_,_]) rfl rfl rfl rfl rfl ?_
     refine zag (zae (T':=[(2,_),(4,_),(5,_),(11,_)]) ⟨rfl,rfl,rfl,rfl,trivial⟩ ?_)
     refine zac ?_
     refine zac ?_
     refine zaa ?_
     refine gQ (zat 3 tf25 rfl rfl (vs:=[_,_]) rfl rfl) ?_
     refine gQ (zab znf rfl) ?_
     refine gQ (zah 0 tf9 rfl rfl rfl) ?_
     refine gQ (zaJ en27 rfl (fun w hw=>zf9 _ _ _ _ _ V _ w (zam zbo (hw.has (p:=6) rfl)) (by unfold zaP; omega))) ?_
     refine gQ (zfx rfl rfl) ?_
     refine zag (zae (T':=[(2,_),(4,_),(5,_),(11,_),(96,_)]) ⟨rfl,rfl,rfl,rfl,rfl,trivial⟩ ?_)
     refine zap rfl (fun hc96=>?_) (fun hc96=>?_)
     ·have h96:0≤zss q.V ((zcn t 32).getD 1 default):=by have:=of_decide_eq_true hc96; rwa [zkx,hV] at this
      refine zac ?_
      refine zaa ?_
      refine gQ (zat 3 tf25 rfl rfl (vs:=[_,_]) rfl rfl) ?_
      refine zaA 2 tf25 rfl rfl (vs:=[_,_]) rfl rfl rfl rfl rfl ?_
      refine gQ (zad rfl) ?_
      refine zag (zae (T':=[(2,_),(4,_),(5,_),(11,_)]) ⟨rfl,rfl,rfl,rfl,trivial⟩ ?_)
      refine zaw ?_
      have hE:zcu q t=.error 7:=hL.trans (hy.trans (if_pos h96))
      refine zao 7 rfl ?_
      refine zao 7 rfl ?_
      refine zao 7 rfl ?_
      refine zao 7 rfl ?_
      refine zbT 4 ?_
      refine za2 (R':=PlR yR ((sa,sc,S),(wa,wc,V)) q) 0 rfl (fun B w hA=>⟨hS,hV,hA⟩) ?_
      exact zd9 ((sa,sc,S),(wa,wc,V)) 0 (zc2 rfl (zbU (i:=3) (vs:=[_,_]) tf25 rfl rfl rfl rfl) (zau rfl)) (by rw [hE]; rfl) (by rw [hE]; rfl) trivial
     ·have h96:¬ 0≤zss q.V ((zcn t 32).getD 1 default):=by have:=of_decide_eq_false hc96; rwa [zkx,hV] at this
      refine zaq ?_
      refine zac ?_
      refine zac ?_
      refine zaa ?_
      refine gQ (zat 3 tf25 rfl rfl (vs:=[_,_]) rfl rfl) ?_
      refine gQ (zab zpy rfl) ?_
      refine gQ (zah 0 tf9 rfl rfl rfl) ?_
      refine gQ (zaJ en41 rfl (fun w hw=>zfq _ _ S _ _ _ _ w (zam zbI (hw.has (p:=4) rfl)) (by unfold zaP; omega))) ?_
      refine gQ (zbw rfl rfl) ?_
      refine zag (zae (T':=[(2,_),(4,_),(5,_),(11,_),(102,_)]) ⟨rfl,rfl,rfl,rfl,rfl,trivial⟩ ?_)
      refine zap rfl (fun hc102=>?_) (fun hc102=>?_)
      ·have h102:¬ 0≤zew q.S ((zcn t 32).getD 2 default):=by have:=of_decide_eq_true hc102; rw [zeL,hS] at this; exact fun h=>absurd (show zew q.S ((zcn t 32).getD 2 default) < 0 from this) (by omega)
       refine zac ?_
       refine zaa ?_
       refine gQ (zat 3 tf25 rfl rfl (vs:=[_,_]) rfl rfl) ?_
       refine zaA 2 tf25 rfl rfl (vs:=[_,_]) rfl rfl rfl rfl rfl ?_
       refine gQ (zad rfl) ?_
       refine zag (zae (T':=[(2,_),(4,_),(5,_),(11,_)]) ⟨rfl,rfl,rfl,rfl,trivial⟩ ?_)
       refine zaw ?_
       have hE:zcu q t=.error 6:=hL.trans (hy.trans ((if_neg h96).trans (if_neg h102)))
       refine zao 7 rfl ?_
       refine zao 7 rfl ?_
       refine zao 7 rfl ?_
       refine zao 7 rfl ?_
       refine zbT 4 ?_
       refine za2 (R':=PlR yR ((sa,sc,S),(wa,wc,V)) q) 0 rfl (fun B w hA=>⟨hS,hV,hA⟩) ?_
       exact zd9 ((sa,sc,S),(wa,wc,V)) 0 (zc2 rfl (zbU (i:=3) (vs:=[_,_]) tf25 rfl rfl rfl rfl) (zau rfl)) (by rw [hE]; rfl) (by rw [hE]; rfl) trivial
      ·have h102i:0≤zaS S ((zcn t 32).getD (2:Int).toNat default):=by have:=of_decide_eq_false hc102; exact Int.not_lt.1 this
       have h102:0≤zew q.S ((zcn t 32).getD 2 default):=by have h:=h102i; rwa [zeL,hS] at h
       have hslt:=ziE (S:=S) (n:=((zcn t 32).getD (2:Int).toNat default)) h102i
       refine zaq ?_
       refine zac ?_
       refine zac ?_
       refine zf3 (ch []) 11 [0,0,2,0,0,16,56,126,254,511,1023] (fun _=>mixed) (by kernel_rfl) (zjK _ trivial) ?_
       refine zbD (fun ρ=>zat 0 tf65 rfl rfl (vs:=[_,_,_,_]) rfl rfl) (fun ρ ρ' h=>by rfl) ?_
       refine zbD (fun ρ=>zab zd6 rfl) (fun ρ ρ' h=>by rfl) ?_
       refine zbD (fun ρ=>zah 3 tf22 rfl rfl rfl) (fun ρ ρ' h=>by rfl) ?_
       refine zbD (fun ρ=>zat 3 tf25 rfl rfl (vs:=[_,_]) rfl rfl) (fun ρ ρ' h=>by rfl) ?_
       refine zbD (fun ρ=>zab zpy rfl) (fun ρ ρ' h=>by rfl) ?_
       refine zbD (fun ρ=>zah 0 tf9 rfl rfl rfl) (fun ρ ρ' h=>by rfl) ?_
       refine zbD (fun ρ=>zaJ en41 rfl (fun w hw=>zfq _ _ S _ _ _ _ w (zam zbI (hw.has (p:=4) rfl)) (by unfold zaP; omega))) (fun ρ ρ' h=>by rfl) ?_
       refine zbD (fun ρ=>zaE se22 rfl rfl (fun _ hw=>(zam zbI (hw.has (p:=4) rfl))) (by omega) (by omega)) (fun ρ ρ' h=>by rfl) ?_
       refine zbD (fun ρ=>zbv (vs:=[_,_,_,_,_,_,_,_,_,_,_,_,_,_,_,_,_,_,_,_]) tf37 rfl (fun _ hw=>(zam zbI (hw.has (p:=4) rfl))) (by omega) (by omega) rfl) (fun ρ ρ' h=>by rfl) ?_
       refine zbD (fun ρ=>zaJ en45 rfl (fun w hw=>zlx none 0 (⟨((zcn t 32).getD 1 default),((zcn t 32).getD 2 default),zyZ ((zcn t 32).getD 3 default),[]⟩:Wll) _ _ (S.getD (zaS S ((zcn t 32).getD (2:Int).toNat default)).toNat default).s w ⟨fun _=>False,fun _ h=>h.elim,.inl rfl⟩ (by simp [zaP]) (by intro o ho; cases ho) (by rw [zzg hS h102i]; exact zqi hq _) (show Fits ((zcn t 32).getD 1 default).size by unfold Fits; have:=hWz _ (za0 (l:=(zcn t 32)) (i:=1) (by omega)); omega))) (fun ρ ρ' h=>by rfl) ?_
       refine zbD (fun ρ=>zbR rfl) (fun ρ ρ' h=>by rfl) ?_
       refine fun ρ=>zag (zae (T':=[(2,_),(4,_),(5,_),(11,_),(114,_)]) ⟨rfl,rfl,rfl,rfl,rfl,trivial⟩ ?_)
       refine zap rfl (fun hc114=>?_) (fun hc114=>?_)
       ·have h114:¬ zd1 (getS q.S ((zcn t 32).getD 2 default)).height (⟨((zcn t 32).getD 1 default),((zcn t 32).getD 2 default),zyZ ((zcn t 32).getD 3 default),[]⟩:Wll)=true:=by have h:=hc114; rw [zzg hS h102i,Bool.not_eq_true'] at h; intro e; exact Bool.noConfusion (e.symm.trans h)
        refine zac ?_
        refine zaa ?_
        refine gQ (zat 3 tf25 rfl rfl (vs:=[_,_]) rfl rfl) ?_
        refine zaA 2 tf25 rfl rfl (vs:=[_,_]) rfl rfl rfl rfl rfl ?_
        refine gQ (zad rfl) ?_
        refine zag (zae (T':=[(2,_),(4,_),(5,_),(11,_)]) ⟨rfl,rfl,rfl,rfl,trivial⟩ ?_)
        refine zaw ?_
        have hE:zcu q t=.error 2:=hL.trans (hy.trans ((if_neg h96).trans ((if_pos h102).trans (if_neg h114))))
        refine zao 7 rfl ?_
        refine zao 7 rfl ?_
        refine zao 7 rfl ?_
        refine zao 7 rfl ?_
        refine zbT 4 ?_
        refine za2 (R':=PlR yR ((sa,sc,S),(wa,wc,V)) q) 0 rfl (fun B w hA=>⟨hS,hV,hA⟩) ?_
        exact zd9 ((sa,sc,S),(wa,wc,V)) 0 (zc2 rfl (zbU (i:=3) (vs:=[_,_]) tf25 rfl rfl rfl rfl) (zau rfl)) (by rw [hE]; rfl) (by rw [hE]; rfl) trivial
       ·have h114:zd1 (getS q.S ((zcn t 32).getD 2 default)).height (⟨((zcn t 32).getD 1 default),((zcn t 32).getD 2 default),zyZ ((zcn t 32).getD 3 default),[]⟩:Wll)=true:=by have h:=hc114; rw [zzg hS h102i,Bool.not_eq_false'] at h; exact h
        refine zaq ?_
        refine zac ?_
        refine zac ?_
        refine zaa ?_
        refine gQ (zab zdT rfl) ?_
        refine gQ (zah 3 tf23 rfl rfl rfl) ?_
        refine gQ (zaV (Tryz.underlying23) rfl) ?_
        refine gQ (zbL rfl rfl) ?_
        refine zag (zae (T':=[(2,_),(4,_),(5,_),(11,_),(119,_)]) ⟨rfl,rfl,rfl,rfl,rfl,trivial⟩ ?_)
        refine zap rfl (fun hc119=>?_) (fun hc119=>?_)
        ·have h119:q.V.length=50:=by have:=of_decide_eq_true hc119; omega
         refine zac ?_
         refine zaa ?_
         refine gQ (zat 3 tf25 rfl rfl (vs:=[_,_]) rfl rfl) ?_
         refine zaA 2 tf25 rfl rfl (vs:=[_,_]) rfl rfl rfl rfl rfl ?_
         refine gQ (zad rfl) ?_
         refine zag (zae (T':=[(2,_),(4,_),(5,_),(11,_)]) ⟨rfl,rfl,rfl,rfl,trivial⟩ ?_)
         refine zaw ?_
         have hE:zcu q t=.error 5:=hL.trans (hy.trans ((if_neg h96).trans ((if_pos h102).trans ((if_pos h114).trans (if_pos h119)))))
         refine zao 7 rfl ?_
         refine zao 7 rfl ?_
         refine zao 7 rfl ?_
         refine zao 7 rfl ?_
         refine zbT 4 ?_
         refine za2 (R':=PlR yR ((sa,sc,S),(wa,wc,V)) q) 0 rfl (fun B w hA=>⟨hS,hV,hA⟩) ?_
         exact zd9 ((sa,sc,S),(wa,wc,V)) 0 (zc2 rfl (zbU (i:=3) (vs:=[_,_]) tf25 rfl rfl rfl rfl) (zau rfl)) (by rw [hE]; rfl) (by rw [hE]; rfl) trivial
        ·have h119:¬ q.V.length=50:=by have:=of_decide_eq_false hc119; omega
         refine zaq ?_
         refine zac ?_
         refine zaa ?_
         refine gQ (zab zdT rfl) ?_
         refine gQ (zah 3 tf23 rfl rfl rfl) ?_
         refine gQ (zat 0 tf65 rfl rfl (vs:=[_,_,_,_]) rfl rfl) ?_
         refine zaG rfl rfl (zaD rfl (zBo (⟨⟨((zcn t 32).getD (1:Int).toNat default),((zcn t 32).getD (2:Int).toNat default),(zyZ ((zcn t 32).getD (3:Int).toNat default)),[]⟩,none,0⟩:WlC)) zbo rfl) fun b124=>?_
         refine zb4 (m:=[(⟨⟨((zcn t 32).getD (1:Int).toNat default),((zcn t 32).getD (2:Int).toNat default),(zyZ ((zcn t 32).getD (3:Int).toNat default)),[]⟩,none,0⟩:WlC)]) 7 af23 zbo rfl rfl rfl rfl (fun _ hw=>(zam zbo (hw.has (p:=0) rfl))) (by first | omega | (simp only [List.length_cons,List.length_nil]; omega)) (by first | (unfold maxLen; omega) | (simp only [List.length_cons,List.length_nil,maxLen]; omega)) fun a125 c125=>?_
         refine gQ (zab zdT rfl) ?_
         refine zaA 4 tf23 rfl rfl (vs:=[_]) rfl rfl rfl rfl rfl ?_
         refine zag (zae (T':=[(2,_),(4,_),(5,_)]) ⟨rfl,rfl,rfl,trivial⟩ ?_)
         refine zbB 139 zba 5 ?_
         refine zao 9 rfl ?_
         refine zbT 2 ?_
         refine za2 (R':=Go.K.Rows (rowO 139) (V++[(⟨(⟨((zcn t 32).getD 1 default),((zcn t 32).getD 2 default),zyZ ((zcn t 32).getD 3 default),[]⟩:Wll),none,0⟩:WlC)])) 0 rfl (fun B w hA=>zfr (f:=rowO 139) hA) ?_
         refine zac ?_
         refine zaa ?_
         refine gQ (zat 5 tf25 rfl rfl (vs:=[_,_]) rfl rfl) ?_
         refine zaA 4 tf25 rfl rfl (vs:=[_,_]) rfl rfl rfl rfl rfl ?_
         refine gQ (zad rfl) ?_
         refine zag (zae (T':=[(2,_),(4,_),(5,_)]) ⟨rfl,rfl,rfl,trivial⟩ ?_)
         refine zaw ?_
         have hE:zcu q t=.ok ⟨q.S,q.V++[(⟨((zcn t 32).getD 1 default),((zcn t 32).getD 2 default),zyZ ((zcn t 32).getD 3 default),[]⟩:Wll)]⟩:=hL.trans (hy.trans ((if_neg h96).trans ((if_pos h102).trans ((if_pos h114).trans (if_neg h119)))))
         refine zao 8 rfl ?_
         refine zao 8 rfl ?_
         refine zao 8 rfl ?_
         refine zbT 4 ?_
         refine za2 (R':=PlR yR ((sa,sc,S),(a125,c125,(V++[(⟨(⟨((zcn t 32).getD 1 default),((zcn t 32).getD 2 default),zyZ ((zcn t 32).getD 3 default),[]⟩:Wll),none,0⟩:WlC)]))) ⟨q.S,q.V++[(⟨((zcn t 32).getD 1 default),((zcn t 32).getD 2 default),zyZ ((zcn t 32).getD 3 default),[]⟩:Wll)]⟩) 0 rfl (fun B w hA=>⟨hS,by rw [List.map_append,hV]; rfl,hA⟩) ?_
         exact zd9 ((sa,sc,S),(a125,c125,(V++[(⟨(⟨((zcn t 32).getD 1 default),((zcn t 32).getD 2 default),zyZ ((zcn t 32).getD 3 default),[]⟩:Wll),none,0⟩:WlC)]))) 0 (zc2 rfl (zbU (i:=4) (vs:=[_,_]) tf25 rfl rfl rfl rfl) (zau rfl)) (by rw [hE]; rfl) (by rw [hE]; rfl) trivial
  ·have hu2:=hc54
   refine zac ?_
   refine zaa ?_
   refine gQ (zge rfl rfl) ?_
   refine gQ (zad rfl) ?_
   refine zag (zae (T':=[(2,_),(4,_),(5,_),(6,_),(128,_)]) ⟨rfl,rfl,rfl,rfl,rfl,trivial⟩ ?_)
   refine zap rfl (fun hc128=>?_) (fun hc128=>?_)
   ·have hL:zcu q t=zch q ((zcn t 32).drop 1):=by rw [zy5]; exact zAo hu1 hu2 hc128
    refine zac ?_
    refine zac ?_
    refine zaa ?_
    refine gQ (zaf rfl) ?_
    refine gQ (zaV (Tryz.underlying124) rfl) ?_
    refine gQ (zbw rfl rfl) ?_
    refine zag (zae (T':=[(2,_),(4,_),(5,_),(6,_),(132,_)]) ⟨rfl,rfl,rfl,rfl,rfl,trivial⟩ ?_)
    refine zap rfl (fun hc132=>?_) (fun hc132=>?_)
    ·have hw2:(zcn t 32).length < 2:=by have:=of_decide_eq_true hc132; omega
     refine zac ?_
     refine zaa ?_
     refine gQ (zat 2 tf25 rfl rfl (vs:=[_,_]) rfl rfl) ?_
     refine zaA 1 tf25 rfl rfl (vs:=[_,_]) rfl rfl rfl rfl rfl ?_
     refine gQ (zad rfl) ?_
     refine zag (zae (T':=[(2,_),(4,_),(5,_),(6,_)]) ⟨rfl,rfl,rfl,rfl,trivial⟩ ?_)
     refine zaw ?_
     have hE:zcu q t=.error 4:=hL.trans (zzH hp (zA8 hw2))
     refine zao 6 rfl ?_
     refine zao 6 rfl ?_
     refine zao 6 rfl ?_
     refine zao 6 rfl ?_
     refine zbT 4 ?_
     refine za2 (R':=PlR yR ((sa,sc,S),(wa,wc,V)) q) 0 rfl (fun B w hA=>⟨hS,hV,hA⟩) ?_
     exact zd9 ((sa,sc,S),(wa,wc,V)) 0 (zc2 rfl (zbU (i:=2) (vs:=[_,_]) tf25 rfl rfl rfl rfl) (zau rfl)) (by rw [hE]; rfl) (by rw [hE]; rfl) trivial
    ·have hw2:¬ (zcn t 32).length < 2:=by have:=of_decide_eq_false hc132; omega
     refine zaq ?_
     refine zac ?_
     refine zaa ?_
     refine gQ (zad rfl) ?_
     refine zag (zae (T':=[(2,_),(4,_),(5,_),(6,_),(12,_)]) ⟨rfl,rfl,rfl,rfl,rfl,trivial⟩ ?_)
     refine zac ?_
     refine zas ?_
     refine zbf (X:=Int) (fun(k:Int)=>[(2,.pointer (some ⟨b2,0,none⟩)),(4,.pointer (some ⟨b4,0,none⟩)),(5,.int .i64 0),(6,.slice p18.1 (zcn t 32).length p18.2),(12,.int .u8 k)]) (fun(k:Int)=>[Row p18.1 1 p18.2 9 encS (zcn t 32),Box b4 [.slice none 0 0,.slice none 0 0] 25,Box b2 [.slice sa S.length sc,.slice wa V.length wc] 25,Row sa 20 sc 37 zbH S,Go.K.Rows (rowH 3) S,Row wa 4 wc 65 zbS V,Go.K.Rows (rowO 139) V]) (fun(k:Int)=>(1≤k∧k≤5∧∀ j:Nat,1≤j→(j:Int) < k→((zy1 false j).toList == ((zcn t 32).getD 1 default).toList)=false)) (fun(k:Int)=>(5 - k).toNat) 1 ⟨rfl,rfl,rfl,rfl,rfl,trivial⟩ rfl ?_ ?_
     ·exact⟨by omega,by omega,fun j hj hj2=>by omega⟩
     ·rintro k hI
      obtain⟨k0,k1,k2⟩:=hI
      refine zac ?_
      refine zac ?_
      refine zbb 24 (fun _=>mixed) (by kernel_rfl) ?_
      refine ph_y (zaf rfl) ?_
      refine ph_y (zbw rfl rfl) ?_
      refine ph_y (zaf rfl) ?_
      refine zaH rfl rfl (fun hgd=>by(try rw [hgd]); have hgd0:=hgd; (try simp only [decide_eq_true_eq] at hgd0); exact(zaf rfl)) ?_
      refine zaH rfl rfl (fun hgd=>by(try rw [hgd]); have hgd0:=hgd; (try simp only [decide_eq_true_eq] at hgd0); exact(zbL rfl rfl)) ?_
      refine zaH rfl rfl (fun hgd=>by(try rw [hgd]); have hgd0:=hgd; (try simp only [decide_eq_true_eq] at hgd0); exact(zaf rfl)) ?_
      refine zdr rfl rfl (fun hgd=>by(try rw [hgd]); have hgd0:=hgd; (try simp only [Bool.and_eq_true,decide_eq_true_eq] at hgd0); exact(zaf rfl)) ?_
      refine zdr rfl rfl (fun hgd=>by(try rw [hgd]); have hgd0:=hgd; (try simp only [Bool.and_eq_true,decide_eq_true_eq] at hgd0); exact(zaE zqJ rfl rfl (fun _ hw=>(zam ztJ (hw.has (p:=0) rfl))) (by omega) (by omega))) ?_
      refine zdr rfl rfl (fun hgd=>by(try rw [hgd]); have hgd0:=hgd; (try simp only [Bool.and_eq_true,decide_eq_true_eq] at hgd0); exact(zcE tf9 rfl (fun _ hw=>(zam ztJ (hw.has (p:=0) rfl))) (by omega) (by omega) rfl)) ?_
      refine zdr rfl rfl (fun hgd=>by(try rw [hgd]); have hgd0:=hgd; (try simp only [Bool.and_eq_true,decide_eq_true_eq] at hgd0); exact(ziV rfl rfl)) ?_
      refine zaH rfl rfl (fun hgd=>by(try rw [hgd]); have hgd0:=hgd; (try simp only [decide_eq_true_eq] at hgd0); exact(zaX rfl rfl rfl)) ?_
      refine zaH rfl rfl (fun hgd=>by(try rw [hgd]); have hgd0:=hgd; (try simp only [decide_eq_true_eq] at hgd0); exact(zaf rfl)) ?_
      refine zc0 rfl rfl (fun hgd=>by(try rw [hgd]); have hgd0:=hgd; (try simp only [Bool.not_eq_true',Bool.and_eq_true,decide_eq_true_eq] at hgd0); exact(zaf rfl)) ?_
      refine zc0 rfl rfl (fun hgd=>by(try rw [hgd]); have hgd0:=hgd; (try simp only [Bool.not_eq_true',Bool.and_eq_true,decide_eq_true_eq] at hgd0); exact(zbw rfl rfl)) ?_
      refine zc0 rfl rfl (fun hgd=>by(try rw [hgd]); have hgd0:=hgd; (try simp only [Bool.not_eq_true',Bool.and_eq_true,decide_eq_true_eq] at hgd0); exact(zaf rfl)) ?_
      refine zdr rfl rfl (fun hgd=>by(try rw [hgd]); have hgd0:=hgd; (try simp only [Bool.not_eq_true',Bool.and_eq_true,decide_eq_true_eq] at hgd0); exact(zaf rfl)) ?_
      refine zdr rfl rfl (fun hgd=>by(try rw [hgd]); have hgd0:=hgd; (try simp only [Bool.not_eq_true',Bool.and_eq_true,decide_eq_true_eq] at hgd0); exact(zaJ (v:=.string (zy1 false k)) en72 rfl (fun w hw=>zAW false k w))) ?_
      refine zdr rfl rfl (fun hgd=>by(try rw [hgd]); have hgd0:=hgd; (try simp only [Bool.not_eq_true',Bool.and_eq_true,decide_eq_true_eq] at hgd0); exact(zaf rfl)) ?_
      refine zdr rfl rfl (fun hgd=>by(try rw [hgd]); have hgd0:=hgd; (try simp only [Bool.not_eq_true',Bool.and_eq_true,decide_eq_true_eq] at hgd0); exact(zaE zqJ rfl rfl (fun _ hw=>(zam ztJ (hw.has (p:=0) rfl))) (by omega) (by omega))) ?_
      refine zdr rfl rfl (fun hgd=>by(try rw [hgd]); have hgd0:=hgd; (try simp only [Bool.not_eq_true',Bool.and_eq_true,decide_eq_true_eq] at hgd0); exact(zcE tf9 rfl (fun _ hw=>(zam ztJ (hw.has (p:=0) rfl))) (by omega) (by omega) rfl)) ?_
      refine zdr rfl rfl (fun hgd=>by(try rw [hgd]); have hgd0:=hgd; (try simp only [Bool.not_eq_true',Bool.and_eq_true,decide_eq_true_eq] at hgd0); exact(ziV rfl rfl)) ?_
      refine zc0 rfl rfl (fun hgd=>by(try rw [hgd]); have hgd0:=hgd; (try simp only [Bool.not_eq_true',Bool.and_eq_true,decide_eq_true_eq] at hgd0); exact(zaX rfl rfl rfl)) ?_
      refine zaH rfl rfl (fun hgd=>by(try rw [hgd]); have hgd0:=hgd; (try simp only [decide_eq_true_eq] at hgd0); exact(zaR rfl rfl rfl)) ?_
      refine ph_y (zaX rfl rfl rfl) ?_
      refine zag (zae (T':=[(2,_),(4,_),(5,_),(6,_),(12,_),(157,_)]) ⟨rfl,rfl,rfl,rfl,rfl,rfl,trivial⟩ ?_)
      refine zap rfl (fun hc157=>?_) (fun hc157=>?_)
      ·obtain⟨k4,hkw⟩:k < 5∧((zy1 false k).toList == ((zcn t 32).getD 1 default).toList)=false:=zBD hc157
       refine zaq ?_
       refine zas ?_
       refine zaa ?_
       refine gQ (zaf rfl) ?_
       refine gQ (zfw rfl rfl) ?_
       refine gQ (zad rfl) ?_
       refine zag (zae (T':=[(2,_),(4,_),(5,_),(6,_),(12,_)]) ⟨rfl,rfl,rfl,rfl,rfl,trivial⟩ ?_)
       refine zae (T':=[(2,_),(4,_),(5,_),(6,_),(12,.int .u8 (k+1))]) ⟨rfl,rfl,rfl,rfl,(by show some (Value.int .u8 (IntKind.u8.wrap (k+1)))=_; rw [zwr (by omega) (by omega)]),trivial⟩ ?_
       exact za1 (k+1) ⟨rfl,rfl,rfl,rfl,rfl,trivial⟩ rfl ⟨by omega,by omega,fun j hj hj2=>if h:(j:Int) < k then k2 j hj h else(by rw [show(j:Int)=k from by omega]; exact hkw)⟩ (by omega)
      ·have hkd:(zzb ((zcn t 32).getD 1 default))=k:=zAK k0 k1 k2 (zBC k1 hc157)
       refine za8 rfl ?_
       refine zac ?_
       refine zaa ?_
       refine gQ (zaf rfl) ?_
       refine gQ (zg9 zqJ rfl rfl (by omega) (by omega)) ?_
       refine zaG rfl rfl (zbm en94 rfl (fun w hw=>zsd (subA p18.1 1 2 p18.2) (p18.2 - 2) ((zcn t 32).drop 2) patD w (zoc (zam ztJ (hw.has (p:=0) rfl)) hWc (by omega)) (by rw [List.length_drop]; omega) (by rw [List.length_drop]; omega) (fun x hx=>hWz x (List.mem_of_mem_drop hx)) (by decide))) fun p163=>?_
       refine gQ (zaf rfl) ?_
       refine gQ (zaB rfl rfl) ?_
       refine gQ (zaB rfl rfl) ?_
       refine gQ (zaB rfl rfl) ?_
       refine gQ (zad rfl) ?_
       refine gQ (zad rfl) ?_
       refine gQ (zad rfl) ?_
       refine zag (zae (T':=[(2,_),(4,_),(5,_),(12,_),(13,_),(14,_),(15,_)]) ⟨rfl,rfl,rfl,rfl,rfl,rfl,rfl,trivial⟩ ?_)
       refine zac ?_
       refine zac ?_
       refine zbb 17 (fun _=>mixed) (by kernel_rfl) ?_
       refine ph_y (zaf rfl) ?_
       refine ph_y (zbR rfl) ?_
       refine ph_y (zaf rfl) ?_
       refine zaz rfl rfl (fun hgd=>by(try rw [hgd]); have hgd0:=hgd; (try simp only [Bool.not_eq_true',Bool.not_eq_false'] at hgd0); exact(zaf rfl)) ?_
       refine zaz rfl rfl (fun hgd=>by(try rw [hgd]); have hgd0:=hgd; (try simp only [Bool.not_eq_true',Bool.not_eq_false'] at hgd0); exact(zaV (Tryz.underlying124) rfl)) ?_
       refine zaz rfl rfl (fun hgd=>by(try rw [hgd]); have hgd0:=hgd; (try simp only [Bool.not_eq_true',Bool.not_eq_false'] at hgd0); exact(zc6 rfl rfl)) ?_
       refine ph_y (zaR rfl rfl rfl) ?_
       refine ph_y (zaf rfl) ?_
       refine zaz rfl rfl (fun hgd=>by(try rw [hgd]); have hgd0:=hgd; (try simp only [Bool.not_eq_true',Bool.or_eq_false_iff,Bool.not_eq_false',decide_eq_false_iff_not] at hgd0); exact(zaf rfl)) ?_
       refine zaz rfl rfl (fun hgd=>by(try rw [hgd]); have hgd0:=hgd; (try simp only [Bool.not_eq_true',Bool.or_eq_false_iff,Bool.not_eq_false',decide_eq_false_iff_not] at hgd0); exact(zbL rfl rfl)) ?_
       refine ph_y (zaR rfl rfl rfl) ?_
       refine ph_y (zaf rfl) ?_
       refine zaz rfl rfl (fun hgd=>by(try rw [hgd]); have hgd0:=hgd; (try simp only [Bool.not_eq_true',Bool.or_eq_false_iff,Bool.not_eq_false',decide_eq_false_iff_not] at hgd0); exact(zab zdT rfl)) ?_
       refine zaz rfl rfl (fun hgd=>by(try rw [hgd]); have hgd0:=hgd; (try simp only [Bool.not_eq_true',Bool.or_eq_false_iff,Bool.not_eq_false',decide_eq_false_iff_not] at hgd0); exact(zah 3 tf23 rfl rfl rfl)) ?_
       refine zaz rfl rfl (fun hgd=>by(try rw [hgd]); have hgd0:=hgd; (try simp only [Bool.not_eq_true',Bool.or_eq_false_iff,Bool.not_eq_false',decide_eq_false_iff_not] at hgd0); exact(zaV (Tryz.underlying23) rfl)) ?_
       refine zaz rfl rfl (fun hgd=>by(try rw [hgd]); have hgd0:=hgd; (try simp only [Bool.not_eq_true',Bool.or_eq_false_iff,Bool.not_eq_false',decide_eq_false_iff_not] at hgd0); exact(zbL rfl rfl)) ?_
       refine ph_y (zaR rfl rfl rfl) ?_
       refine zag (zae (T':=[(2,_),(4,_),(5,_),(12,_),(13,_),(183,_)]) ⟨rfl,rfl,rfl,rfl,rfl,rfl,trivial⟩ ?_)
       refine zap rfl (fun hc183=>?_) (fun hc183=>?_)
       ·have h183:zch q ((zcn t 32).drop 1)=.error 4:=zBF hp hw2 hkd hlV hc183
        refine zac ?_
        refine zaa ?_
        refine gQ (zat 3 tf25 rfl rfl (vs:=[_,_]) rfl rfl) ?_
        refine zaA 2 tf25 rfl rfl (vs:=[_,_]) rfl rfl rfl rfl rfl ?_
        refine gQ (zad rfl) ?_
        refine zag (zae (T':=[(2,_),(4,_),(5,_),(12,_),(13,_)]) ⟨rfl,rfl,rfl,rfl,rfl,trivial⟩ ?_)
        refine zaw ?_
        have hE:zcu q t=.error 4:=hL.trans h183
        refine zao 7 rfl ?_
        refine zao 7 rfl ?_
        refine zao 7 rfl ?_
        refine zao 7 rfl ?_
        refine zbT 4 ?_
        refine za2 (R':=PlR yR ((sa,sc,S),(wa,wc,V)) q) 0 rfl (fun B w hA=>⟨hS,hV,hA⟩) ?_
        exact zd9 ((sa,sc,S),(wa,wc,V)) 0 (zc2 rfl (zbU (i:=3) (vs:=[_,_]) tf25 rfl rfl rfl rfl) (zau rfl)) (by rw [hE]; rfl) (by rw [hE]; rfl) trivial
       ·obtain⟨hD1,hD2,hD3,hD4⟩:=zBE hc183
        have hy:=zzq (q:=q) hp (zAA hw2 hD1 hD2 (by rw [hkd]; exact hD3))
        rw [hkd] at hy
        have h0:¬ q.V.length=0:=by omega
        have hDn:(tkN ((zcn t 32).drop 2) patD).length=4:=(zz6 hD1).trans zBJ
        have hi0:((V.length:Int) - 1).toNat+1=V.length:=by omega
        have hlo:=(zmh hq hV hi0).1
        have hknd:Knd (⟨k,(tkN ((zcn t 32).drop 2) patD).getD 0 0,(tkN ((zcn t 32).drop 2) patD).getD 1 0,(tkN ((zcn t 32).drop 2) patD).getD 2 0,(tkN ((zcn t 32).drop 2) patD).getD 3 0⟩:Opn):=⟨by dsimp only; omega,by dsimp only; omega⟩
        have hshi:0≤zaS S (V.getD ((V.length:Int) - 1).toNat default).s.sheet:=by rw [zeL,hS,zsY hV hi0]; exact(hok _ (za0 (by omega))).1
        have hslt:=ziE (S:=S) (n:=(V.getD ((V.length:Int) - 1).toNat default).s.sheet) hshi
        have hfitn:Fits (V.getD ((V.length:Int) - 1).toNat default).s.name.size:=by have:=(hok _ (za0 (l:=q.V) (i:=q.V.length - 1) (by omega))).2; rw [←zsY hV hi0] at this; unfold Fits; omega
        refine zaq ?_
        refine zac ?_
        refine zaa ?_
        refine gQ (zab zdT rfl) ?_
        refine gQ (zah 3 tf23 rfl rfl rfl) ?_
        refine gQ (zab zdT rfl) ?_
        refine gQ (zah 3 tf23 rfl rfl rfl) ?_
        refine gQ (zaV (Tryz.underlying23) rfl) ?_
        refine gQ (zfV rfl rfl (by omega) (by omega)) ?_
        refine gQ (zaE se23 rfl rfl (fun _ hw=>(zam zbo (hw.has (p:=6) rfl))) (by omega) (by omega)) ?_
        refine gQ (zbv (vs:=[_,_,_,_]) tf65 rfl (fun _ hw=>(zam zbo (hw.has (p:=6) rfl))) (by omega) (by omega) rfl) ?_
        refine zaG rfl rfl (zaL tf65 (zs:=[_,_,_,_]) rfl) fun b16=>?_
        refine zaA 0 tf65 rfl rfl (vs:=[_,_,_,_]) rfl rfl rfl rfl rfl ?_
        refine zag (zae (T':=[(2,_),(4,_),(5,_),(12,_),(13,_),(16,_)]) ⟨rfl,rfl,rfl,rfl,rfl,rfl,trivial⟩ ?_)
        refine zac ?_
        refine zf3 (ch [(2,(Option Addr×Nat)),(17,Nat)]) 18 [0,1,3,0,0,16,48,0,128,384,0,1024,3072,0,8192,24576,65528,131064,262143,524287,1048575] (fun _=>mixed) (by kernel_rfl) (zjK _ ⟨inferInstance,inferInstance,trivial⟩) ?_
        refine zbD (fun ρ=>zab zgn rfl) (fun ρ ρ' h=>by rfl) ?_
        refine zbD (fun ρ=>zah 0 tf63 rfl rfl rfl) (fun ρ ρ' h=>by rfl) ?_
        refine zgB (fun ρ=>zoJ (m:=(V.getD (((V.length:Int) - 1)).toNat default).s.opens) af63 encOpn_ok rfl rfl (fun _ hw=>(zam encOpn_ok (zbV (f:=rowO 139) (hw.has (p:=8) rfl) (za0 (by omega))))) (by omega) (by unfold maxLen; omega)) (fun ρ ρ' h=>⟨by rfl,by rfl⟩) ?_
        refine zbD (fun ρ=>zaf rfl) (fun ρ ρ' h=>by rfl) ?_
        refine zbD (fun ρ=>zaf rfl) (fun ρ ρ' h=>by rfl) ?_
        refine zbD (fun ρ=>zaE se35 rfl rfl (fun _ hw=>(zam Go.Stn.encI_ok (hw.has (p:=1) (R:=Row p163.1 1 p163.2 3 Go.Stn.encI (tkN ((zcn t 32).drop 2) patD)) (by simp only [zeS,tIs,okSt,rcf,zbe]; rfl)))) (by omega) (by omega)) (fun ρ ρ' h=>by rfl) ?_
        refine zbD (fun ρ=>zcE tf3 rfl (fun _ hw=>(zam Go.Stn.encI_ok (hw.has (p:=1) (R:=Row p163.1 1 p163.2 3 Go.Stn.encI (tkN ((zcn t 32).drop 2) patD)) (by simp only [zeS,tIs,okSt,rcf,zbe]; rfl)))) (by omega) (by omega) rfl) (fun ρ ρ' h=>by rfl) ?_
        refine zbD (fun ρ=>zaf rfl) (fun ρ ρ' h=>by rfl) ?_
        refine zbD (fun ρ=>zaE se35 rfl rfl (fun _ hw=>(zam Go.Stn.encI_ok (hw.has (p:=1) (R:=Row p163.1 1 p163.2 3 Go.Stn.encI (tkN ((zcn t 32).drop 2) patD)) (by simp only [zeS,tIs,okSt,rcf,zbe]; rfl)))) (by omega) (by omega)) (fun ρ ρ' h=>by rfl) ?_
        refine zbD (fun ρ=>zcE tf3 rfl (fun _ hw=>(zam Go.Stn.encI_ok (hw.has (p:=1) (R:=Row p163.1 1 p163.2 3 Go.Stn.encI (tkN ((zcn t 32).drop 2) patD)) (by simp only [zeS,tIs,okSt,rcf,zbe]; rfl)))) (by omega) (by omega) rfl) (fun ρ ρ' h=>by rfl) ?_
        refine zbD (fun ρ=>zaf rfl) (fun ρ ρ' h=>by rfl) ?_
        refine zbD (fun ρ=>zaE se35 rfl rfl (fun _ hw=>(zam Go.Stn.encI_ok (hw.has (p:=1) (R:=Row p163.1 1 p163.2 3 Go.Stn.encI (tkN ((zcn t 32).drop 2) patD)) (by simp only [zeS,tIs,okSt,rcf,zbe]; rfl)))) (by omega) (by omega)) (fun ρ ρ' h=>by rfl) ?_
        refine zbD (fun ρ=>zcE tf3 rfl (fun _ hw=>(zam Go.Stn.encI_ok (hw.has (p:=1) (R:=Row p163.1 1 p163.2 3 Go.Stn.encI (tkN ((zcn t 32).drop 2) patD)) (by simp only [zeS,tIs,okSt,rcf,zbe]; rfl)))) (by omega) (by omega) rfl) (fun ρ ρ' h=>by rfl) ?_
        refine zbD (fun ρ=>zaf rfl) (fun ρ ρ' h=>by rfl) ?_
        refine zbD (fun ρ=>zaE se35 rfl rfl (fun _ hw=>(zam Go.Stn.encI_ok (hw.has (p:=1) (R:=Row p163.1 1 p163.2 3 Go.Stn.encI (tkN ((zcn t 32).drop 2) patD)) (by simp only [zeS,tIs,okSt,rcf,zbe]; rfl)))) (by omega) (by omega)) (fun ρ ρ' h=>by rfl) ?_
        refine zbD (fun ρ=>zcE tf3 rfl (fun _ hw=>(zam Go.Stn.encI_ok (hw.has (p:=1) (R:=Row p163.1 1 p163.2 3 Go.Stn.encI (tkN ((zcn t 32).drop 2) patD)) (by simp only [zeS,tIs,okSt,rcf,zbe]; rfl)))) (by omega) (by omega) rfl) (fun ρ ρ' h=>by rfl) ?_
        refine zbD (fun ρ=>zaI rfl (zza _ _ _ _ _)) (fun ρ ρ' h=>by rfl) ?_
        refine zgB (fun ρ=>zaD rfl (zBp _ _ _ _ _) encOpn_ok rfl) (fun ρ ρ' h=>⟨by rfl,by rfl⟩) ?_
        refine fun ρ=>zf4 (X:=(Option Addr×Nat)×Nat) (ρ 2,ρ 17) (fun⟨z195,b210⟩=>[(2,.pointer (some ⟨b2,0,none⟩)),(4,.pointer (some ⟨b4,0,none⟩)),(5,.int .i64 0),(16,.pointer (some ⟨b16,0,none⟩)),(195,.slice z195.1 (V.getD (((V.length:Int) - 1)).toNat default).s.opens.length z195.2),(210,.slice (some ⟨b210,0,none⟩) 1 1)]) (fun⟨z195,b210⟩=>[Row (some ⟨b210,0,none⟩) 5 1 139 zba [(⟨k,((tkN ((zcn t 32).drop 2) patD).getD (0:Int).toNat default),((tkN ((zcn t 32).drop 2) patD).getD (1:Int).toNat default),((tkN ((zcn t 32).drop 2) patD).getD (2:Int).toNat default),((tkN ((zcn t 32).drop 2) patD).getD (3:Int).toNat default)⟩:Opn)],Row z195.1 5 z195.2 139 zba (V.getD (((V.length:Int) - 1)).toNat default).s.opens,Box b16 [.string (V.getD (((V.length:Int) - 1)).toNat default).s.name,.string (V.getD (((V.length:Int) - 1)).toNat default).s.sheet,.int .i64 ((V.getD (((V.length:Int) - 1)).toNat default).s.length),.slice (V.getD (((V.length:Int) - 1)).toNat default).a (V.getD (((V.length:Int) - 1)).toNat default).s.opens.length (V.getD (((V.length:Int) - 1)).toNat default).cap] 65,Row p163.1 1 p163.2 3 Go.Stn.encI (tkN ((zcn t 32).drop 2) patD),Row p18.1 1 p18.2 9 encS (zcn t 32),Box b4 [.slice none 0 0,.slice none 0 0] 25,Box b2 [.slice sa S.length sc,.slice wa V.length wc] 25,Row sa 20 sc 37 zbH S,Go.K.Rows (rowH 3) S,Row wa 4 wc 65 zbS V,Go.K.Rows (rowO 139) V]) ⟨rfl,rfl,rfl,rfl,rfl,rfl,trivial⟩ rfl ?_
        rintro ⟨z195,b210⟩
        refine zb4 (m:=[(⟨k,((tkN ((zcn t 32).drop 2) patD).getD (0:Int).toNat default),((tkN ((zcn t 32).drop 2) patD).getD (1:Int).toNat default),((tkN ((zcn t 32).drop 2) patD).getD (2:Int).toNat default),((tkN ((zcn t 32).drop 2) patD).getD (3:Int).toNat default)⟩:Opn)]) 1 af63 encOpn_ok rfl rfl rfl rfl (fun _ hw=>(zam encOpn_ok (hw.has (p:=0) (R:=Row (some ⟨b210,0,none⟩) 5 1 139 zba [(⟨k,((tkN ((zcn t 32).drop 2) patD).getD (0:Int).toNat default),((tkN ((zcn t 32).drop 2) patD).getD (1:Int).toNat default),((tkN ((zcn t 32).drop 2) patD).getD (2:Int).toNat default),((tkN ((zcn t 32).drop 2) patD).getD (3:Int).toNat default)⟩:Opn)]) (by simp only []; rfl)))) (by first | omega | (simp only [List.length_cons,List.length_nil]; omega)) (by first | (unfold maxLen; omega) | (simp only [List.length_cons,List.length_nil,maxLen]; omega)) fun a211 c211=>?_
        refine gQ (zab zgn rfl) ?_
        refine zaA 2 tf63 rfl rfl (vs:=[_]) rfl rfl rfl rfl rfl ?_
        refine zag (zae (T':=[(2,_),(4,_),(5,_),(16,_)]) ⟨rfl,rfl,rfl,rfl,trivial⟩ ?_)
        refine zac ?_
        refine zac ?_
        refine zf3 (ch []) 11 [0,0,2,0,0,16,56,126,254,511,1023] (fun _=>mixed) (by kernel_rfl) (zjK _ trivial) ?_
        refine zbD (fun ρ=>zat 2 tf65 rfl rfl (vs:=[_,_,_,_]) rfl rfl) (fun ρ ρ' h=>by rfl) ?_
        refine zbD (fun ρ=>zab zd6 rfl) (fun ρ ρ' h=>by rfl) ?_
        refine zbD (fun ρ=>zah 6 tf22 rfl rfl rfl) (fun ρ ρ' h=>by rfl) ?_
        refine zbD (fun ρ=>zat 6 tf25 rfl rfl (vs:=[_,_]) rfl rfl) (fun ρ ρ' h=>by rfl) ?_
        refine zbD (fun ρ=>zab zpy rfl) (fun ρ ρ' h=>by rfl) ?_
        refine zbD (fun ρ=>zah 2 tf9 rfl rfl rfl) (fun ρ ρ' h=>by rfl) ?_
        refine zbD (fun ρ=>zaJ en41 rfl (fun w hw=>zfq _ _ S _ _ _ _ w (zam zbI (hw.has (p:=7) rfl)) (by unfold zaP; omega))) (fun ρ ρ' h=>by rfl) ?_
        refine zbD (fun ρ=>zaE se22 rfl rfl (fun _ hw=>(zam zbI (hw.has (p:=7) rfl))) (by omega) (by omega)) (fun ρ ρ' h=>by rfl) ?_
        refine zbD (fun ρ=>zbv (vs:=[_,_,_,_,_,_,_,_,_,_,_,_,_,_,_,_,_,_,_,_]) tf37 rfl (fun _ hw=>(zam zbI (hw.has (p:=7) rfl))) (by omega) (by omega) rfl) (fun ρ ρ' h=>by rfl) ?_
        refine zbD (fun ρ=>zaJ en45 rfl (fun w hw=>zlx a211 c211 (more (V.getD ((V.length:Int) - 1).toNat default).s (⟨k,(tkN ((zcn t 32).drop 2) patD).getD 0 0,(tkN ((zcn t 32).drop 2) patD).getD 1 0,(tkN ((zcn t 32).drop 2) patD).getD 2 0,(tkN ((zcn t 32).drop 2) patD).getD 3 0⟩:Opn)) _ _ (S.getD (zaS S (V.getD ((V.length:Int) - 1).toNat default).s.sheet).toNat default).s w (zam encOpn_ok (hw.has (p:=1) rfl)) (by unfold zaP more; simp only [List.length_append,List.length_cons,List.length_nil]; omega) (zrI (zmh hq hV hi0).2 hknd) (by rw [zzg hS hshi]; exact zqi hq _) hfitn)) (fun ρ ρ' h=>by rfl) ?_
        refine zbD (fun ρ=>zbR rfl) (fun ρ ρ' h=>by rfl) ?_
        refine fun ρ=>zag (zae (T':=[(2,_),(4,_),(5,_),(16,_),(223,_)]) ⟨rfl,rfl,rfl,rfl,rfl,trivial⟩ ?_)
        refine zap rfl (fun hc223=>?_) (fun hc223=>?_)
        ·have h223:¬ zd1 (getS q.S (q.V.getD (q.V.length - 1) default).sheet).height (more (q.V.getD (q.V.length - 1) default) (⟨k,(tkN ((zcn t 32).drop 2) patD).getD 0 0,(tkN ((zcn t 32).drop 2) patD).getD 1 0,(tkN ((zcn t 32).drop 2) patD).getD 2 0,(tkN ((zcn t 32).drop 2) patD).getD 3 0⟩:Opn))=true:=by have h:=hc223; rw [zzg hS hshi,zsY hV hi0] at h; simpa using h
         refine zac ?_
         refine zaa ?_
         refine gQ (zat 6 tf25 rfl rfl (vs:=[_,_]) rfl rfl) ?_
         refine zaA 5 tf25 rfl rfl (vs:=[_,_]) rfl rfl rfl rfl rfl ?_
         refine gQ (zad rfl) ?_
         refine zag (zae (T':=[(2,_),(4,_),(5,_),(16,_)]) ⟨rfl,rfl,rfl,rfl,trivial⟩ ?_)
         refine zaw ?_
         have hE:zcu q t=.error 2:=hL.trans (hy.trans ((if_neg h0).trans (if_neg h223)))
         refine zao 10 rfl ?_
         refine zao 10 rfl ?_
         refine zao 10 rfl ?_
         refine zao 10 rfl ?_
         refine zbT 4 ?_
         refine za2 (R':=PlR yR ((sa,sc,S),(wa,wc,V)) q) 0 rfl (fun B w hA=>⟨hS,hV,hA⟩) ?_
         exact zd9 ((sa,sc,S),(wa,wc,V)) 0 (zc2 rfl (zbU (i:=6) (vs:=[_,_]) tf25 rfl rfl rfl rfl) (zau rfl)) (by rw [hE]; rfl) (by rw [hE]; rfl) trivial
        ·have h223:zd1 (getS q.S (q.V.getD (q.V.length - 1) default).sheet).height (more (q.V.getD (q.V.length - 1) default) (⟨k,(tkN ((zcn t 32).drop 2) patD).getD 0 0,(tkN ((zcn t 32).drop 2) patD).getD 1 0,(tkN ((zcn t 32).drop 2) patD).getD 2 0,(tkN ((zcn t 32).drop 2) patD).getD 3 0⟩:Opn))=true:=by have h:=hc223; rw [zzg hS hshi,zsY hV hi0] at h; simpa using h
         refine zaq ?_
         refine zac ?_
         refine zaa ?_
         refine gQ (zab zdT rfl) ?_
         refine gQ (zah 6 tf23 rfl rfl rfl) ?_
         refine gQ (zab zdT rfl) ?_
         refine gQ (zah 6 tf23 rfl rfl rfl) ?_
         refine gQ (zaV (Tryz.underlying23) rfl) ?_
         refine gQ (zfV rfl rfl (by omega) (by omega)) ?_
         refine gQ (zat 2 tf65 rfl rfl (vs:=[_,_,_,_]) rfl rfl) ?_
         refine gQ (zaE se23 rfl rfl (fun _ hw=>(zam zbo (hw.has (p:=9) rfl))) (by omega) (by omega)) ?_
         refine zpR (x':=(⟨more (V.getD ((V.length:Int) - 1).toNat default).s (⟨k,(tkN ((zcn t 32).drop 2) patD).getD 0 0,(tkN ((zcn t 32).drop 2) patD).getD 1 0,(tkN ((zcn t 32).drop 2) patD).getD 2 0,(tkN ((zcn t 32).drop 2) patD).getD 3 0⟩:Opn),a211,c211⟩:WlC)) 9 zbo tf65 rfl rfl (vs:=[_,_,_,_]) rfl rfl rfl (by omega) (by omega) ?_
         refine zag (zae (T':=[(2,_),(4,_),(5,_)]) ⟨rfl,rfl,rfl,trivial⟩ ?_)
         refine zao 10 rfl ?_
         refine za2 (R':=SepR [Go.K.Rows (rowO 139) (V.take ((V.length:Int) - 1).toNat),Row (V.getD ((V.length:Int) - 1).toNat default).a 5 (V.getD ((V.length:Int) - 1).toNat default).cap 139 zba (V.getD ((V.length:Int) - 1).toNat default).s.opens]) 0 rfl (fun B w hA=>zot (f:=rowO 139) hi0 hA) ?_
         refine zbP ?_
         refine zaK 1 rfl ?_
         refine zao 2 rfl ?_
         refine zao 1 rfl ?_
         refine zbT 2 ?_
         refine za2 (R':=Go.K.Rows (rowO 139) (V.set ((V.length:Int) - 1).toNat (⟨more (V.getD ((V.length:Int) - 1).toNat default).s (⟨k,(tkN ((zcn t 32).drop 2) patD).getD 0 0,(tkN ((zcn t 32).drop 2) patD).getD 1 0,(tkN ((zcn t 32).drop 2) patD).getD 2 0,(tkN ((zcn t 32).drop 2) patD).getD 3 0⟩:Opn),a211,c211⟩:WlC))) 0 rfl (fun B w hA=>zqF (f:=rowO 139) hi0 hA) ?_
         refine zac ?_
         refine zaa ?_
         refine gQ (zat 6 tf25 rfl rfl (vs:=[_,_]) rfl rfl) ?_
         refine zaA 5 tf25 rfl rfl (vs:=[_,_]) rfl rfl rfl rfl rfl ?_
         refine gQ (zad rfl) ?_
         refine zag (zae (T':=[(2,_),(4,_),(5,_)]) ⟨rfl,rfl,rfl,trivial⟩ ?_)
         refine zaw ?_
         have hE:zcu q t=.ok ⟨q.S,q.V.set (q.V.length - 1) (more (q.V.getD (q.V.length - 1) default) (⟨k,(tkN ((zcn t 32).drop 2) patD).getD 0 0,(tkN ((zcn t 32).drop 2) patD).getD 1 0,(tkN ((zcn t 32).drop 2) patD).getD 2 0,(tkN ((zcn t 32).drop 2) patD).getD 3 0⟩:Opn))⟩:=hL.trans (hy.trans ((if_neg h0).trans (if_pos h223)))
         refine zao 9 rfl ?_
         refine zao 9 rfl ?_
         refine zao 9 rfl ?_
         refine zbT 4 ?_
         refine za2 (R':=PlR yR ((sa,sc,S),(wa,wc,(V.set ((V.length:Int) - 1).toNat (⟨more (V.getD ((V.length:Int) - 1).toNat default).s (⟨k,(tkN ((zcn t 32).drop 2) patD).getD 0 0,(tkN ((zcn t 32).drop 2) patD).getD 1 0,(tkN ((zcn t 32).drop 2) patD).getD 2 0,(tkN ((zcn t 32).drop 2) patD).getD 3 0⟩:Opn),a211,c211⟩:WlC)))) ⟨q.S,q.V.set (q.V.length - 1) (more (q.V.getD (q.V.length - 1) default) (⟨k,(tkN ((zcn t 32).drop 2) patD).getD 0 0,(tkN ((zcn t 32).drop 2) patD).getD 1 0,(tkN ((zcn t 32).drop 2) patD).getD 2 0,(tkN ((zcn t 32).drop 2) patD).getD 3 0⟩:Opn))⟩) 0 rfl (fun B w hA=>⟨hS,zxy hV hi0 _ _ _,hA⟩) ?_
         exact zd9 ((sa,sc,S),(wa,wc,(V.set ((V.length:Int) - 1).toNat (⟨more (V.getD ((V.length:Int) - 1).toNat default).s (⟨k,(tkN ((zcn t 32).drop 2) patD).getD 0 0,(tkN ((zcn t 32).drop 2) patD).getD 1 0,(tkN ((zcn t 32).drop 2) patD).getD 2 0,(tkN ((zcn t 32).drop 2) patD).getD 3 0⟩:Opn),a211,c211⟩:WlC)))) 0 (zc2 rfl (zbU (i:=5) (vs:=[_,_]) tf25 rfl rfl rfl rfl) (zau rfl)) (by rw [hE]; show Value.tuple #[.agg #[.slice sa S.length sc,.slice wa V.length wc],.int .i64 0]=.tuple #[.agg #[.slice sa S.length sc,.slice wa (V.set _ _).length wc],.int .i64 0]; rw [List.length_set]) (by rw [hE]; rfl) trivial
   ·have hu3:=hc128
    refine zaq ?_
    refine zac ?_
    refine zaa ?_
    refine gQ (zat 2 tf25 rfl rfl (vs:=[_,_]) rfl rfl) ?_
    refine zaA 1 tf25 rfl rfl (vs:=[_,_]) rfl rfl rfl rfl rfl ?_
    refine gQ (zad rfl) ?_
    refine zag (zae (T':=[(4,_),(5,_)]) ⟨rfl,rfl,trivial⟩ ?_)
    refine zaw ?_
    have hE:zcu q t=.error 4:=by rw [zy5]; exact zAa hu1 hu2 hu3
    refine zao 6 rfl ?_
    refine zao 6 rfl ?_
    refine zao 6 rfl ?_
    refine zao 6 rfl ?_
    refine zbT 4 ?_
    refine za2 (R':=PlR yR ((sa,sc,S),(wa,wc,V)) q) 0 rfl (fun B w hA=>⟨hS,hV,hA⟩) ?_
    exact zd9 ((sa,sc,S),(wa,wc,V)) 0 (zc2 rfl (zbU (i:=2) (vs:=[_,_]) tf25 rfl rfl rfl rfl) (zau rfl)) (by rw [hE]; rfl) (by rw [hE]; rfl) trivial
end Go.Proofs.YtdcfcfhmkfkgmaaGreatDoor
namespace Go.Proofs.YtdcfcfhmkfkgmaaGreatDoor
open Go.K Go.Stn Go.Pln Go.RowKit
theorem en61:En Tryz.prog 61:=za7 Tryz.func61 (by kernel_rfl) (by kernel_rfl)
theorem zBm  (w:World):(Instr.build 25 #[]).run Tryz.prog w=.ok (.agg #[.slice none 0 0,.slice none 0 0]) w:=by kernel_rfl
set_option maxRecDepth 100000 in
set_option maxHeartbeats 8000000 in
theorem zAQ (t:ByteArray) (w:World)  :
  Calls Tryz.prog 25 #[.string t] w (zcU (fun z:(Option Addr×Nat×List ShC)×(Option Addr×Nat×List WlC)=>.tuple #[.agg #[.slice z.1.1 z.1.2.2.length z.1.2.1,.slice z.2.1 z.2.2.2.length z.2.2.1],.int .i64 (zgA t).2.1,.int .i64 (zgA t).2.2]) (fun z=>PlR yR z (zgA t).1) w):=by
 refine zan (vs:=[_]) Tryz.func25 rfl rfl (Nat.le_of_ble_eq_true rfl) ?_
 refine zac ?_
 refine zaa ?_
 refine zaG rfl rfl (zaL tf25 (zs:=[_,_]) rfl) fun b2=>?_
 refine gQ (zad rfl) ?_
 refine gQ (zad rfl) ?_
 refine zag (zae (T':=[(0,_),(2,_),(3,_),(4,_)]) ⟨rfl,rfl,rfl,rfl,trivial⟩ ?_)
 refine zac ?_
 refine zac ?_
 refine zaa ?_
 refine gQ (zaf rfl) ?_
 refine gQ (zeO (Tryz.underlying9) rfl) ?_
 refine gQ (zc6 rfl rfl) ?_
 refine zag (zae (T':=[(0,_),(2,_),(3,_),(4,_),(12,_)]) ⟨rfl,rfl,rfl,rfl,rfl,trivial⟩ ?_)
 refine zap rfl (fun hc12=>?_) (fun hc12=>?_)
 ·
  refine zac ?_
  refine zaa ?_
  refine gQ (zaI (parts:=[]) rfl zBm) ?_
  refine zaA 0 tf25 rfl rfl (vs:=[_,_]) rfl rfl rfl rfl rfl ?_
  refine gQ (zad rfl) ?_
  refine gQ (zad rfl) ?_
  refine zag (zae (T':=[(0,_),(2,_),(3,_),(4,_)]) ⟨rfl,rfl,rfl,rfl,trivial⟩ ?_)
  refine zaw ?_
  refine zpO yR ?_
  exact zbd ((none,0,[]),(none,0,[])) 0 (zdh rfl (zbU (i:=1) (vs:=[_,_]) tf25 rfl rfl rfl rfl) (zau rfl) (zau rfl)) (by rw [zjq (by have:=of_decide_eq_true hc12; omega)] <;> rfl) (by rw [zjq (by have:=of_decide_eq_true hc12; omega)] <;> rfl)
 ·have hlong:¬ t.size > 40000:=by have:=of_decide_eq_false hc12; omega
  have hRn:=(zjw t 10).2
  refine zaq ?_
  refine zac ?_
  refine zaa ?_
  refine gQ (zaf rfl) ?_
  refine zaG rfl rfl (zbm en60 rfl (fun w hw=>zAx t 10 w (by omega))) fun p15=>?_
  refine gQ (zad rfl) ?_
  refine zag (zae (T':=[(2,_),(3,_),(4,_),(5,_)]) ⟨rfl,rfl,rfl,rfl,trivial⟩ ?_)
  refine zac ?_
  refine zaa ?_
  refine zaG rfl rfl (zaL tf25 (zs:=[_,_]) rfl) fun b6=>?_
  refine zag (zae (T':=[(2,_),(3,_),(4,_),(5,_),(6,_)]) ⟨rfl,rfl,rfl,rfl,rfl,trivial⟩ ?_)
  refine zpO yR ?_
  refine zac ?_
  refine zac ?_
  refine zaa ?_
  refine gQ (zad rfl) ?_
  refine zag (zae (T':=[(2,_),(3,_),(4,_),(5,_),(6,_),(7,_)]) ⟨rfl,rfl,rfl,rfl,rfl,rfl,trivial⟩ ?_)
  refine zas ?_
  refine zbf (X:=Int×((Option Addr×Nat×List ShC)×(Option Addr×Nat×List WlC))×Plan) (fun⟨i,z,q⟩=>[(2,.pointer (some ⟨b2,0,none⟩)),(3,.int .i64 0),(4,.int .i64 0),(5,.slice p15.1 (zcn t 10).length p15.2),(6,.pointer (some ⟨b6,0,none⟩)),(7,.int .i64 i)]) (fun⟨i,z,q⟩=>[PlR yR z q,Box b6 [.slice z.1.1 z.1.2.2.length z.1.2.1,.slice z.2.1 z.2.2.2.length z.2.2.1] 25,Row p15.1 1 p15.2 9 encS (zcn t 10),Box b2 [.slice none 0 0,.slice none 0 0] 25]) (fun⟨i,z,q⟩=>(0≤i∧i≤(zcn t 10).length∧OkQ q∧OkF q∧zdo ⟨[],[]⟩ 1 (zcn t 10)=zdo q (1+i) ((zcn t 10).drop i.toNat))) (fun⟨i,z,q⟩=>((zcn t 10).length - i).toNat) (0,((none,0,[]),(none,0,[])),⟨[],[]⟩) ⟨rfl,rfl,rfl,rfl,rfl,rfl,trivial⟩ rfl ?_ ?_
  ·exact⟨by omega,by omega,zup,zA5,rfl⟩
  ·rintro ⟨i,z,q⟩ hI
   obtain⟨g0,g1,hq,hok,hle⟩:=hI
   refine zac ?_
   refine zac ?_
   refine zaa ?_
   refine gQ (zaf rfl) ?_
   refine gQ (zaf rfl) ?_
   refine gQ (zaV (Tryz.underlying124) rfl) ?_
   refine gQ (zbw rfl rfl) ?_
   refine zag (zae (T':=[(2,_),(3,_),(4,_),(5,_),(6,_),(7,_),(19,_)]) ⟨rfl,rfl,rfl,rfl,rfl,rfl,rfl,trivial⟩ ?_)
   refine zap rfl (fun hc19=>?_) (fun hc19=>?_)
   ·have hc19:=of_decide_eq_true hc19
    have hus:((zcn t 10).getD i.toNat default).size≤40000:=by have:=zzB (za0 (l:=(zcn t 10)) (i:=i.toNat) (by omega)); omega
    refine zaq ?_
    refine zac ?_
    refine zas ?_
    refine zac ?_
    refine zac ?_
    refine zbb 13 (fun _=>mixed) (by kernel_rfl) ?_
    refine ph_y (zaf rfl) ?_
    refine ph_y (zaf rfl) ?_
    refine ph_y (zaE zqJ rfl rfl (fun _ hw=>(zam ztJ (hw.has (p:=2) rfl))) (by omega) (by omega)) ?_
    refine ph_y (zcE tf9 rfl (fun _ hw=>(zam ztJ (hw.has (p:=2) rfl))) (by omega) (by omega) rfl) ?_
    refine ph_y (zge rfl rfl) ?_
    refine ph_y (zaf rfl) ?_
    refine zaz rfl rfl (fun hgd=>by(try rw [hgd]); (try have hgd2:=zj3 hgd); exact(zaf rfl)) ?_
    refine zaz rfl rfl (fun hgd=>by(try rw [hgd]); (try have hgd2:=zj3 hgd); exact(zaf rfl)) ?_
    refine zaz rfl rfl (fun hgd=>by(try rw [hgd]); (try have hgd2:=zj3 hgd); exact(zaE zqJ rfl rfl (fun _ hw=>(zam ztJ (hw.has (p:=2) rfl))) (by omega) (by omega))) ?_
    refine zaz rfl rfl (fun hgd=>by(try rw [hgd]); (try have hgd2:=zj3 hgd); exact(zcE tf9 rfl (fun _ hw=>(zam ztJ (hw.has (p:=2) rfl))) (by omega) (by omega) rfl)) ?_
    refine zaz rfl rfl (fun hgd=>by(try rw [hgd]); (try have hgd2:=zj3 hgd); exact(zdM (Tryz.underlying9) rfl rfl (by omega) (by omega))) ?_
    refine zaz rfl rfl (fun hgd=>by(try rw [hgd]); (try have hgd2:=zj3 hgd); exact(zbL rfl rfl)) ?_
    refine ph_y (zaR rfl rfl rfl) ?_
    refine zag (zae (T':=[(2,_),(3,_),(4,_),(5,_),(6,_),(7,_),(34,_)]) ⟨rfl,rfl,rfl,rfl,rfl,rfl,rfl,trivial⟩ ?_)
    refine zap rfl (fun hc34=>?_) (fun hc34=>?_)
    ·have hid:=zt3 hc34
     refine za8 rfl ?_
     refine zaa ?_
     refine gQ (zaf rfl) ?_
     refine gQ (zaY rfl rfl (by omega) (by omega)) ?_
     refine gQ (zad rfl) ?_
     refine zag (zae (T':=[(2,_),(3,_),(4,_),(5,_),(6,_),(7,_)]) ⟨rfl,rfl,rfl,rfl,rfl,rfl,trivial⟩ ?_)
     exact za1 (i+1,z,q) ⟨rfl,rfl,rfl,rfl,rfl,rfl,trivial⟩ rfl ⟨by omega,by omega,hq,hok,by rw [hle,zyX g0 hc19,zoq hid,show(1:Int)+i+1=1+(i+1) from by omega]⟩ (by simp only []; omega)
    ·have hid:=zrz hc34
     refine zaq ?_
     refine zac ?_
     refine zpM [PlR yR z q] (ch [(9,Nat),(5,((Option Addr×Nat×List ShC)×(Option Addr×Nat×List WlC)))]) 1000 12 [0,0,0,6,14,31,63,127,127,0,767,2047] rfl (fun _=>mixed) (by kernel_rfl) (zjK _ ⟨inferInstance,inferInstance,trivial⟩) ?_
     refine zdq (fun ρ=>zat 0 tf25 rfl rfl (vs:=[_,_]) rfl rfl) (fun ρ ρ' h=>by rfl) ?_
     refine zdq (fun ρ=>zaf rfl) (fun ρ ρ' h=>by rfl) ?_
     refine zdq (fun ρ=>zaf rfl) (fun ρ ρ' h=>by rfl) ?_
     refine zdq (fun ρ=>zaE zqJ rfl rfl (fun _ hw=>(zam ztJ (hw.has (p:=1) rfl))) (by omega) (by omega)) (fun ρ ρ' h=>by rfl) ?_
     refine zdq (fun ρ=>zcE tf9 rfl (fun _ hw=>(zam ztJ (hw.has (p:=1) rfl))) (by omega) (by omega) rfl) (fun ρ ρ' h=>by rfl) ?_
     refine zBw (R:=fun ρ=>PlR yR z q) (fun z41=>.tuple #[.agg #[.slice z41.1.1 z41.1.2.2.length z41.1.2.1,.slice z41.2.1 z41.2.2.2.length z41.2.2.1],.int .i64 (zkJ (zcu q ((zcn t 10).getD i.toNat default)))]) (fun z41=>PlR yR z41 (outQ q (zcu q ((zcn t 10).getD i.toNat default)))) 1000 rfl (by kernel_rfl) (fun _=>by kernel_rfl) (fun ρ=>zBk en61 rfl (fun w B hw hB hA=>zBy z.1.1 z.1.2.1 z.1.2.2 z.2.1 z.2.2.1 z.2.2.2 q ((zcn t 10).getD i.toNat default) w B hB hA hq hok hus)) ?_
     refine zdq (fun ρ=>zaf rfl) (fun ρ ρ' h=>by(first | rfl | (simp only [h 5 rfl]; done) | (simp only [h 5 rfl]; rfl))) ?_
     refine zdq (fun ρ=>zaB rfl rfl) (fun ρ ρ' h=>by(first | rfl | (simp only [h 5 rfl]; done) | (simp only [h 5 rfl]; rfl))) ?_
     refine zdq (fun ρ=>zaB rfl rfl) (fun ρ ρ' h=>by rfl) ?_
     refine zBx (fun ρ=>zaL tf25 (zs:=[_,_]) rfl) (fun ρ ρ' h=>⟨by rfl,by rfl⟩) ?_
     refine zBv (R:=fun ρ=>Box (ρ 9) [.slice none 0 0,.slice none 0 0] 25) (A:=fun ρ=>Box (ρ 9) [.slice (ρ 5).1.1 (ρ 5).1.2.2.length (ρ 5).1.2.1,.slice (ρ 5).2.1 (ρ 5).2.2.2.length (ρ 5).2.2.1] 25) 9 rfl rfl (fun _=>rfl) (fun ρ=>zex tf25 rfl rfl (vs:=[_,_]) rfl rfl rfl rfl rfl) (fun ρ ρ' h=>by(first | rfl | (simp only [h 5 rfl,h 9 rfl]; done) | (simp only [h 5 rfl,h 9 rfl]; rfl))) ?_
     refine zdq (fun ρ=>zad rfl) (fun ρ ρ' h=>by rfl) ?_
     refine fun ρ=>zag (zf4 (X:=Nat×((Option Addr×Nat×List ShC)×(Option Addr×Nat×List WlC))) (ρ 9,ρ 5) (fun⟨b8,z41⟩=>[(2,.pointer (some ⟨b2,0,none⟩)),(3,.int .i64 0),(4,.int .i64 0),(5,.slice p15.1 (zcn t 10).length p15.2),(6,.pointer (some ⟨b6,0,none⟩)),(7,.int .i64 i),(8,.pointer (some ⟨b8,0,none⟩)),(9,.int .i64 (zkJ (zcu q ((zcn t 10).getD i.toNat default))))]) (fun⟨b8,z41⟩=>[Box b8 [.slice z41.1.1 z41.1.2.2.length z41.1.2.1,.slice z41.2.1 z41.2.2.2.length z41.2.2.1] 25,PlR yR z41 (outQ q (zcu q ((zcn t 10).getD i.toNat default))),Box b6 [.slice z.1.1 z.1.2.2.length z.1.2.1,.slice z.2.1 z.2.2.2.length z.2.2.1] 25,Row p15.1 1 p15.2 9 encS (zcn t 10),Box b2 [.slice none 0 0,.slice none 0 0] 25]) ⟨rfl,rfl,rfl,rfl,rfl,rfl,rfl,rfl,trivial⟩ rfl ?_)
     rintro ⟨b8,z41⟩
     refine zac ?_
     refine zac ?_
     refine zaa ?_
     refine gQ (zaf rfl) ?_
     refine gQ (zcr rfl rfl) ?_
     refine zag (zae (T':=[(2,_),(3,_),(4,_),(5,_),(6,_),(7,_),(8,_),(9,_),(45,_)]) ⟨rfl,rfl,rfl,rfl,rfl,rfl,rfl,rfl,rfl,trivial⟩ ?_)
     refine zap rfl (fun hc45=>?_) (fun hc45=>?_)
     ·have hk:=zrg (q:=q) (t:=((zcn t 10).getD i.toNat default)) (by simpa using hc45)
      refine zac ?_
      refine zaa ?_
      refine gQ (zaI (parts:=[]) rfl zBm) ?_
      refine gQ (zaf rfl) ?_
      refine gQ (zaY rfl rfl (by omega) (by omega)) ?_
      refine gQ (zaf rfl) ?_
      refine zaA 4 tf25 rfl rfl (vs:=[_,_]) rfl rfl rfl rfl rfl ?_
      refine gQ (zad rfl) ?_
      refine gQ (zad rfl) ?_
      refine zag (zae (T':=[(2,_),(3,_),(4,_),(5,_),(6,_),(7,_),(8,_)]) ⟨rfl,rfl,rfl,rfl,rfl,rfl,rfl,trivial⟩ ?_)
      refine zaw ?_
      refine zpO yR ?_
      have hfin:zdo ⟨[],[]⟩ 1 (zcn t 10)=.error (1+i,zkJ (zcu q ((zcn t 10).getD i.toNat default))):=by rw [hle,zyX g0 hc19,zqr hid hk]
      exact zbd ((none,0,[]),(none,0,[])) 0 (zdh rfl (zbU (i:=5) (vs:=[_,_]) tf25 rfl rfl rfl rfl) (zau rfl) (zau rfl)) (by rw [zlq hlong (by unfold zcb; rw [zy0 ⟨[],[]⟩]; exact hfin)]; rw [Int.add_comm 1 i] <;> rfl) (by rw [zlq hlong (by unfold zcb; rw [zy0 ⟨[],[]⟩]; exact hfin)] <;> rfl)
     ·obtain⟨q',hq'⟩:=ztu (q:=q) (t:=((zcn t 10).getD i.toNat default)) (by simpa using hc45)
      refine za2 (R':=PlR yR z41 q') 1 rfl (fun B w hA=>by rw [hq'] at hA; exact hA) ?_
      refine zaq ?_
      refine zaa ?_
      refine gQ (zat 0 tf25 rfl rfl (vs:=[_,_]) rfl rfl) ?_
      refine zaA 2 tf25 rfl rfl (vs:=[_,_]) rfl rfl rfl rfl rfl ?_
      refine zag (zae (T':=[(2,_),(3,_),(4,_),(5,_),(6,_),(7,_)]) ⟨rfl,rfl,rfl,rfl,rfl,rfl,trivial⟩ ?_)
      refine zaa ?_
      refine gQ (zaf rfl) ?_
      refine gQ (zaY rfl rfl (by omega) (by omega)) ?_
      refine gQ (zad rfl) ?_
      refine zag (zae (T':=[(2,_),(3,_),(4,_),(5,_),(6,_),(7,_)]) ⟨rfl,rfl,rfl,rfl,rfl,rfl,trivial⟩ ?_)
      refine zaK 0 rfl ?_
      exact za1 (i+1,z41,q') ⟨rfl,rfl,rfl,rfl,rfl,rfl,trivial⟩ rfl ⟨by omega,by omega,zrS hq hq',zAM hok hq',by rw [hle,zyX g0 hc19,zhB hid hq',show(1:Int)+i+1=1+(i+1) from by omega]⟩ (by simp only []; omega)
   ·have hc19:=of_decide_eq_false hc19
    refine za8 rfl ?_
    refine zac ?_
    refine zaa ?_
    refine gQ (zat 1 tf25 rfl rfl (vs:=[_,_]) rfl rfl) ?_
    refine zaA 3 tf25 rfl rfl (vs:=[_,_]) rfl rfl rfl rfl rfl ?_
    refine gQ (zad rfl) ?_
    refine gQ (zad rfl) ?_
    refine zag (zae (T':=[(2,_),(3,_),(4,_)]) ⟨rfl,rfl,rfl,trivial⟩ ?_)
    refine zaw ?_
    have hfin:zdo ⟨[],[]⟩ 1 (zcn t 10)=.ok q:=by rw [hle,List.drop_of_length_le (by omega),zdo]
    exact zbd z 0 (zdh rfl (zbU (i:=3) (vs:=[_,_]) tf25 rfl rfl rfl rfl) (zau rfl) (zau rfl)) (by rw [zkf hlong (by unfold zcb; rw [zy0 ⟨[],[]⟩]; exact hfin)] <;> rfl) (by rw [zkf hlong (by unfold zcb; rw [zy0 ⟨[],[]⟩]; exact hfin)] <;> rfl)
end Go.Proofs.YtdcfcfhmkfkgmaaGreatDoor
namespace Go.Proofs.YtdcfcfhmkfkgmaaGreatDoor
open Go.K Go.Stn Go.Pln Go.RowKit
theorem en17:En Tryz.prog 17:=za7 Tryz.func17 (by kernel_rfl) (by kernel_rfl)
theorem en18:En Tryz.prog 18:=za7 Tryz.func18 (by kernel_rfl) (by kernel_rfl)
theorem en24:En Tryz.prog 24:=za7 Tryz.func24 (by kernel_rfl) (by kernel_rfl)
theorem en26:En Tryz.prog 26:=za7 Tryz.func26 (by kernel_rfl) (by kernel_rfl)
theorem en30:En Tryz.prog 30:=za7 Tryz.func30 (by kernel_rfl) (by kernel_rfl)
theorem en31:En Tryz.prog 31:=za7 Tryz.func31 (by kernel_rfl) (by kernel_rfl)
theorem en32:En Tryz.prog 32:=za7 Tryz.func32 (by kernel_rfl) (by kernel_rfl)
theorem en42:En Tryz.prog 42:=za7 Tryz.func42 (by kernel_rfl) (by kernel_rfl)
set_option maxRecDepth 100000 in
theorem zuV {c:Cx} {ds:List Deferred} {H:List Res} {T:List (Nat×Value)} {d:Option Nat} {ty:TypeId} {ps:String} {af:Array Edge} {g:Option (Nat×Bool)} {x y:Operand} {t':TypeId} {a0 a1 c0 c1:Int}
  (hx:evo T x=some (.agg #[.int .i64 a0,.int .i64 a1])) (hy:evo T y=some (.agg #[.int .i64 c0,.int .i64 c1])) (hP:c.P=Tryz.prog:=by rfl):Y c ds H T ⟨d,.binOp .eql 49 x y t',ty,ps,af,g⟩ (.bool ((decide (a0=c0)&&decide (a1=c1)))):=by
 refine⟨fun a w ha _=>?_⟩
 unfold Yld
 simp only [execOp,ha.eval hx,ha.eval hy]
 rw [hP]
 by_cases h0:a0=c0
 ·subst h0
  by_cases h1:a1=c1
  ·subst h1
   (go_simp; try exact Ext.rfl)
  ·(go_simp; try exact Ext.rfl)
 ·(go_simp; try exact Ext.rfl)
set_option maxRecDepth 100000 in
theorem zuW {c:Cx} {ds:List Deferred} {H:List Res} {T:List (Nat×Value)} {d:Option Nat} {ty:TypeId} {ps:String} {af:Array Edge} {g:Option (Nat×Bool)} {x y:Operand} {t':TypeId} {a0 a1 c0 c1:Int}
  (hx:evo T x=some (.agg #[.int .i64 a0,.int .i64 a1])) (hy:evo T y=some (.agg #[.int .i64 c0,.int .i64 c1])) (hP:c.P=Tryz.prog:=by rfl):Y c ds H T ⟨d,.binOp .eql 69 x y t',ty,ps,af,g⟩ (.bool ((decide (a0=c0)&&decide (a1=c1)))):=by
 refine⟨fun a w ha _=>?_⟩
 unfold Yld
 simp only [execOp,ha.eval hx,ha.eval hy]
 rw [hP]
 by_cases h0:a0=c0
 ·subst h0
  by_cases h1:a1=c1
  ·subst h1
   (go_simp; try exact Ext.rfl)
  ·(go_simp; try exact Ext.rfl)
 ·(go_simp; try exact Ext.rfl)
set_option maxRecDepth 100000 in
theorem zuY {c:Cx} {ds:List Deferred} {H:List Res} {T:List (Nat×Value)} {d:Option Nat} {ty:TypeId} {ps:String} {af:Array Edge} {g:Option (Nat×Bool)} {x y:Operand} {t':TypeId} {a0 a1 a2 c0 c1 c2:Int}
  (hx:evo T x=some (.agg #[.int .i64 a0,.int .i64 a1,.int .i64 a2])) (hy:evo T y=some (.agg #[.int .i64 c0,.int .i64 c1,.int .i64 c2])) (hP:c.P=Tryz.prog:=by rfl):Y c ds H T ⟨d,.binOp .eql 87 x y t',ty,ps,af,g⟩ (.bool ((decide (a0=c0)&&decide (a1=c1)&&decide (a2=c2)))):=by
 refine⟨fun a w ha _=>?_⟩
 unfold Yld
 simp only [execOp,ha.eval hx,ha.eval hy]
 rw [hP]
 by_cases h0:a0=c0
 ·subst h0
  by_cases h1:a1=c1
  ·subst h1
   by_cases h2:a2=c2
   ·subst h2
    (go_simp; try exact Ext.rfl)
   ·(go_simp; try exact Ext.rfl)
  ·(go_simp; try exact Ext.rfl)
 ·(go_simp; try exact Ext.rfl)
theorem zdB {c:Cx} {ds:List Deferred} {H:List Res} {T:List (Nat×Value)} {o:Oper} {b b':Bool} (h:Y c ds H T o (.bool b)) (hb:b=b'):Y c ds H T o (.bool b'):=by subst hb; exact h
set_option maxRecDepth 100000 in
set_option maxHeartbeats 16000000 in
theorem zkw  (w:World) (hmx:Has w (IntV 2)) (hcp:Has w (zaW (some ⟨0,0,none⟩) 1 encS copesW)) (hop:Has w (zaW (some ⟨1,0,none⟩) 1 encS opensW)) :
  Calls Tryz.prog 13 #[] w (Pure (.bool true) w):=by
 refine zan (vs:=[]) Tryz.func13 rfl rfl (Nat.le_of_ble_eq_true rfl) ?_
 refine zac ?_
 refine zaa ?_
 refine gQ (zad rfl) ?_
 refine zag (zae (T':=[(0,_)]) ⟨rfl,trivial⟩ ?_)
 refine zac ?_
 refine zaa ?_
 refine gQ (zaJ en42 rfl (fun w hw=>zvl w)) ?_
 refine zaG rfl rfl (zbm en24 rfl (fun w hw=>zus daleT w (Rd.has (Has.rd hmx) hw) (Rd.has (Has.rd hcp) hw) (Rd.has (Has.rd hop) hw))) fun p19=>?_
 refine gQ (zaf rfl) ?_
 refine gQ (zaB rfl rfl) ?_
 refine gQ (zaB rfl rfl) ?_
 refine gQ (zaB rfl rfl) ?_
 refine zaG rfl rfl (zaL tf31 (zs:=[_,_]) rfl) fun b1=>?_
 refine zaA 0 tf31 rfl rfl (vs:=[_,_]) rfl rfl rfl rfl rfl ?_
 refine gQ (zad rfl) ?_
 refine gQ (zad rfl) ?_
 refine zag (zae (T':=[(0,_),(1,_),(2,_),(3,_)]) ⟨rfl,rfl,rfl,rfl,trivial⟩ ?_)
 refine zao 1 rfl ?_
 obtain⟨⟨ra,rc,S⟩,⟨rb,rd,V⟩⟩:=p19
 refine za2 (R':=PlR yP ((ra,rc,S),(rb,rd,V)) ⟨[dSh],[dWl]⟩) 0 rfl (fun B w hA=>by rw [zgT] at hA; exact hA) ?_
 refine zjk fun hS hV=>?_
 obtain⟨z0,rfl,hz⟩:=zp7 hS
 obtain⟨v0,rfl,hv⟩:=zp7 hV
 have hl1:([z0]:List ShC).length=1:=rfl
 have hl2:([v0]:List WlC).length=1:=rfl
 obtain⟨hcs,hck⟩:=zoE hz
 have hcl:(zfC z0.s).length=7:=by rw [hcs]; rfl
 obtain⟨hbe,hba⟩:=zuQ hz hv
 have hbl:(ziX [z0] [v0] (⟨#[110,111,114,116,104]⟩:ByteArray) 1).length=2:=by rw [hba]; rfl
 obtain⟨hta,htl⟩:=zwp hz hv
 have htn:(zei [z0] [v0] (⟨#[110,111,114,116,104]⟩:ByteArray)).length=3:=by rw [htl]; rfl
 obtain⟨hkl,hka⟩:=zsu hz hv
 have hfe:=zgd hz hv
 refine za2 (R':=Box b1 [.slice ra 1 rc,.slice rb 1 rd] 31) 4 rfl (fun B w hA=>hA) ?_
 refine zae (T':=[(0,_),(1,_),(2,.int .i64 0),(3,.int .i64 0)]) ⟨rfl,rfl,(by rw [zgT]; rfl),(by rw [zgT]; rfl),trivial⟩ ?_
 refine zac ?_
 refine zac ?_
 refine zaa ?_
 refine gQ (zaf rfl) ?_
 refine gQ (zcr rfl rfl) ?_
 refine gQ (zaf rfl) ?_
 refine zai rfl rfl rfl rfl (fun _=>?_) (fun h=>absurd h (by decide))
 refine gQ (zaf rfl) ?_
 refine zai rfl rfl rfl rfl (fun _=>?_) (fun h=>absurd h (by decide))
 refine gQ (zcr rfl rfl) ?_
 refine gQ (za5 rfl rfl rfl) ?_
 refine gQ (zaf rfl) ?_
 refine zai rfl rfl rfl rfl (fun _=>?_) (fun h=>absurd h (by decide))
 refine gQ (zab zeo rfl) ?_
 refine zai rfl rfl rfl rfl (fun _=>?_) (fun h=>absurd h (by decide))
 refine gQ (zah 4 tf28 rfl rfl rfl) ?_
 refine zai rfl rfl rfl rfl (fun _=>?_) (fun h=>absurd h (by decide))
 refine gQ (zaV (Tryz.underlying28) rfl) ?_
 refine zai rfl rfl rfl rfl (fun _=>?_) (fun h=>absurd h (by decide))
 refine gQ (zdB (b':=false) (zcr rfl rfl) (by rfl)) ?_
 refine gQ (za5 rfl rfl rfl) ?_
 refine gQ (zaf rfl) ?_
 refine zai rfl rfl rfl rfl (fun _=>?_) (fun h=>absurd h (by decide))
 refine gQ (zab zd7 rfl) ?_
 refine zai rfl rfl rfl rfl (fun _=>?_) (fun h=>absurd h (by decide))
 refine gQ (zah 4 tf29 rfl rfl rfl) ?_
 refine zai rfl rfl rfl rfl (fun _=>?_) (fun h=>absurd h (by decide))
 refine gQ (zaV (Tryz.underlying29) rfl) ?_
 refine zai rfl rfl rfl rfl (fun _=>?_) (fun h=>absurd h (by decide))
 refine gQ (zdB (b':=false) (zcr rfl rfl) (by rfl)) ?_
 refine gQ (za5 rfl rfl rfl) ?_
 refine zag (zae (T':=[(0,_),(1,_),(40,_)]) ⟨rfl,rfl,rfl,trivial⟩ ?_)
 refine zd8 rfl ?_
 refine zaq ?_
 refine zac ?_
 refine zaa ?_
 refine gQ (zab zeo rfl) ?_
 refine gQ (zah 4 tf28 rfl rfl rfl) ?_
 refine gQ (zaE se28 rfl rfl (fun _ hw=>(zam zbI (hw.has (p:=0) rfl))) (by decide) (by omega)) ?_
 refine gQ (zbv (vs:=[_,_,_,_,_,_,_,_,_,_,_,_,_,_,_,_,_,_,_,_]) tf41 rfl (fun _ hw=>(zam zbI (hw.has (p:=0) rfl))) (by omega) (by omega) rfl) ?_
 refine zaG rfl rfl (zbm en17 rfl (fun w hw=>zoM _ _ z0.s w (zam Go.Stn.encI_ok (zbV (hw.has (p:=1) rfl) (List.mem_singleton.2 rfl))) (zjy hz z0 (List.mem_singleton.2 rfl)))) fun p46=>?_
 refine gQ (zaf rfl) ?_
 refine gQ (zaB rfl rfl) ?_
 refine gQ (zaB rfl rfl) ?_
 refine gQ (zad rfl) ?_
 refine gQ (zad rfl) ?_
 refine zag (zae (T':=[(0,_),(1,_),(4,_),(5,_)]) ⟨rfl,rfl,rfl,rfl,trivial⟩ ?_)
 refine zac ?_
 refine zaa ?_
 refine gQ (zab zeo rfl) ?_
 refine gQ (zah 5 tf28 rfl rfl rfl) ?_
 refine gQ (zaE se28 rfl rfl (fun _ hw=>(zam zbI (hw.has (p:=1) rfl))) (by decide) (by omega)) ?_
 refine gQ (zbv (vs:=[_,_,_,_,_,_,_,_,_,_,_,_,_,_,_,_,_,_,_,_]) tf41 rfl (fun _ hw=>(zam zbI (hw.has (p:=1) rfl))) (by omega) (by omega) rfl) ?_
 refine gQ (zaJ en18 rfl (fun w hw=>ztc _ _ z0.s 560 w (zam Go.Stn.encI_ok (zbV (hw.has (p:=2) rfl) (List.mem_singleton.2 rfl))) (zjy hz z0 (List.mem_singleton.2 rfl)))) ?_
 refine gQ (zaf rfl) ?_
 refine gQ (zaB rfl rfl) ?_
 refine gQ (zaB rfl rfl) ?_
 refine gQ (zad rfl) ?_
 refine gQ (zad rfl) ?_
 refine zag (zae (T':=[(0,_),(1,_),(4,_),(5,_),(6,_),(7,_)]) ⟨rfl,rfl,rfl,rfl,rfl,rfl,trivial⟩ ?_)
 refine zac ?_
 refine zaa ?_
 refine gQ (zat 5 tf31 rfl rfl (vs:=[_,_]) rfl rfl) ?_
 refine zaG rfl rfl (zbm en26 rfl (fun w hw=>zu1 _ _ [z0] _ _ [v0] (⟨#[110,111,114,116,104]⟩:ByteArray) 1 w (zam zbI (hw.has (p:=1) rfl)) (show zaP 1 by decide) (zcM (hw.has (p:=1) rfl)) (zam zbo (hw.has (p:=3) rfl)) (show zaP 1 by decide) (fun z hz2=>zam Go.Stn.encI_ok (zbV (f:=rowH 3) (hw.has (p:=2) rfl) hz2)) (zjy hz) (fun z hz2=>zam encOpn_ok (zbV (f:=rowO 98) (hw.has (p:=4) rfl) hz2)) (zn2 hv) (fun z hz2=>zcM (zbV (f:=rowO 98) (hw.has (p:=4) rfl) hz2)) (zsv hv))) fun p59=>?_
 refine gQ (zaf rfl) ?_
 refine gQ (zaB rfl rfl) ?_
 refine gQ (zaB rfl rfl) ?_
 refine gQ (zad rfl) ?_
 refine gQ (zad rfl) ?_
 refine zag (zae (T':=[(0,_),(1,_),(4,_),(5,_),(6,_),(7,_),(8,_),(9,_)]) ⟨rfl,rfl,rfl,rfl,rfl,rfl,rfl,rfl,trivial⟩ ?_)
 refine zac ?_
 refine zaa ?_
 refine gQ (zat 6 tf31 rfl rfl (vs:=[_,_]) rfl rfl) ?_
 refine zaG rfl rfl (zbm en30 rfl (fun w hw=>zi4 _ _ [z0] _ _ [v0] (⟨#[110,111,114,116,104]⟩:ByteArray) w (zam zbI (hw.has (p:=2) rfl)) (show zaP 1 by decide) (zcM (hw.has (p:=2) rfl)) (zam zbo (hw.has (p:=4) rfl)) (show zaP 1 by decide) (fun z hz2=>zam Go.Stn.encI_ok (zbV (f:=rowH 3) (hw.has (p:=3) rfl) hz2)) (zjy hz) (fun z hz2=>zam encOpn_ok (zbV (f:=rowO 98) (hw.has (p:=5) rfl) hz2)) (zn2 hv) (fun z hz2=>zcM (zbV (f:=rowO 98) (hw.has (p:=5) rfl) hz2)) (zsv hv))) fun p64=>?_
 refine gQ (zaf rfl) ?_
 refine gQ (zaB rfl rfl) ?_
 refine gQ (zaB rfl rfl) ?_
 refine gQ (zaB rfl rfl) ?_
 refine gQ (zad rfl) ?_
 refine gQ (zad rfl) ?_
 refine gQ (zad rfl) ?_
 refine zag (zae (T':=[(0,_),(1,_),(4,_),(5,_),(6,_),(7,_),(8,_),(9,_),(10,_),(11,_),(12,_)]) ⟨rfl,rfl,rfl,rfl,rfl,rfl,rfl,rfl,rfl,rfl,rfl,trivial⟩ ?_)
 refine zac ?_
 refine zaa ?_
 refine gQ (zat 7 tf31 rfl rfl (vs:=[_,_]) rfl rfl) ?_
 refine zaG rfl rfl (zbm en31 rfl (fun w hw=>zoL _ _ [z0] _ _ [v0] (⟨#[110,111,114,116,104]⟩:ByteArray) w (zam zbI (hw.has (p:=3) rfl)) (show zaP 1 by decide) (zcM (hw.has (p:=3) rfl)) (zam zbo (hw.has (p:=5) rfl)) (show zaP 1 by decide) (fun z hz2=>zam Go.Stn.encI_ok (zbV (f:=rowH 3) (hw.has (p:=4) rfl) hz2)) (zjy hz) (fun z hz2=>zam encOpn_ok (zbV (f:=rowO 98) (hw.has (p:=6) rfl) hz2)) (zn2 hv) (fun z hz2=>zcM (zbV (f:=rowO 98) (hw.has (p:=6) rfl) hz2)) (zsv hv))) fun p70=>?_
 refine gQ (zaf rfl) ?_
 refine gQ (zaB rfl rfl) ?_
 refine gQ (zaB rfl rfl) ?_
 refine gQ (zad rfl) ?_
 refine gQ (zad rfl) ?_
 refine zag (zae (T':=[(0,_),(1,_),(4,_),(5,_),(6,_),(7,_),(8,_),(9,_),(10,_),(11,_),(12,_),(13,_),(14,_)]) ⟨rfl,rfl,rfl,rfl,rfl,rfl,rfl,rfl,rfl,rfl,rfl,rfl,rfl,trivial⟩ ?_)
 refine zac ?_
 refine zaa ?_
 refine gQ (zat 8 tf31 rfl rfl (vs:=[_,_]) rfl rfl) ?_
 refine gQ (zaJ en32 rfl (fun w hw=>zsB _ _ [z0] _ _ [v0] (⟨#[110,111,114,116,104]⟩:ByteArray) w (zam zbI (hw.has (p:=4) rfl)) (show zaP 1 by decide) (zcM (hw.has (p:=4) rfl)) (zam zbo (hw.has (p:=6) rfl)) (show zaP 1 by decide) (fun z hz2=>zam Go.Stn.encI_ok (zbV (f:=rowH 3) (hw.has (p:=5) rfl) hz2)) (zjy hz) (fun z hz2=>zam encOpn_ok (zbV (f:=rowO 98) (hw.has (p:=7) rfl) hz2)) (zn2 hv) (fun z hz2=>zcM (zbV (f:=rowO 98) (hw.has (p:=7) rfl) hz2)) (zsv hv))) ?_
 refine gQ (zaf rfl) ?_
 refine gQ (zaB rfl rfl) ?_
 refine gQ (zaB rfl rfl) ?_
 refine zaG rfl rfl (zaL tf77 (zs:=[_,_,_,_,_,_,_]) rfl) fun b15=>?_
 refine zaA 0 tf77 rfl rfl (vs:=[_,_,_,_,_,_,_]) rfl rfl rfl rfl rfl ?_
 refine gQ (zad rfl) ?_
 refine zag (zae (T':=[(0,_),(4,_),(5,_),(6,_),(7,_),(8,_),(9,_),(10,_),(11,_),(12,_),(13,_),(14,_),(15,_),(16,_)]) ⟨rfl,rfl,rfl,rfl,rfl,rfl,rfl,rfl,rfl,rfl,rfl,rfl,rfl,rfl,trivial⟩ ?_)
 refine zac ?_
 refine zaa ?_
 refine gQ (zaf rfl) ?_
 refine gQ (zbQ (zbL rfl rfl) (by exact decide_eq_true hck)) ?_
 refine gQ (zaf rfl) ?_
 refine zai rfl rfl rfl rfl (fun _=>?_) (fun h=>absurd h (by decide))
 refine gQ (zaf rfl) ?_
 refine zai rfl rfl rfl rfl (fun _=>?_) (fun h=>absurd h (by decide))
 refine gQ (zaV (Tryz.underlying38) rfl) ?_
 refine zai rfl rfl rfl rfl (fun _=>?_) (fun h=>absurd h (by decide))
 refine gQ (zbQ (zbL rfl rfl) (by rw [hcl]; rfl)) ?_
 refine gQ (za5 rfl rfl rfl) ?_
 refine gQ (zaf rfl) ?_
 refine zai rfl rfl rfl rfl (fun _=>?_) (fun h=>absurd h (by decide))
 refine gQ (zaf rfl) ?_
 refine zai rfl rfl rfl rfl (fun _=>?_) (fun h=>absurd h (by decide))
 refine gQ (zaE se38 rfl rfl (fun _ hw=>(zam zax (hw.has (p:=4) rfl))) (by omega) (by omega)) ?_
 refine zai rfl rfl rfl rfl (fun _=>?_) (fun h=>absurd h (by decide))
 refine gQ (zbv (vs:=[_,_]) tf49 rfl (fun _ hw=>(zam zax (hw.has (p:=4) rfl))) (by omega) (by omega) rfl) ?_
 refine zai rfl rfl rfl rfl (fun _=>?_) (fun h=>absurd h (by decide))
 refine gQ (zaI rfl (zgQ _ _)) ?_
 refine zai rfl rfl rfl rfl (fun _=>?_) (fun h=>absurd h (by decide))
 refine gQ (zbQ (zuV rfl rfl) (by rw [hcs]; rfl)) ?_
 refine gQ (za5 rfl rfl rfl) ?_
 refine gQ (zaf rfl) ?_
 refine zai rfl rfl rfl rfl (fun _=>?_) (fun h=>absurd h (by decide))
 refine gQ (zaf rfl) ?_
 refine zai rfl rfl rfl rfl (fun _=>?_) (fun h=>absurd h (by decide))
 refine gQ (zbQ (zbL rfl rfl) (by exact decide_eq_true (zn3 hz).2)) ?_
 refine gQ (za5 rfl rfl rfl) ?_
 refine gQ (zaf rfl) ?_
 refine zai rfl rfl rfl rfl (fun _=>?_) (fun h=>absurd h (by decide))
 refine gQ (zaf rfl) ?_
 refine zai rfl rfl rfl rfl (fun _=>?_) (fun h=>absurd h (by decide))
 refine gQ (zbQ (zbL rfl rfl) (by exact decide_eq_true (zn3 hz).1)) ?_
 refine gQ (za5 rfl rfl rfl) ?_
 refine gQ (zaf rfl) ?_
 refine zai rfl rfl rfl rfl (fun _=>?_) (fun h=>absurd h (by decide))
 refine gQ (zaf rfl) ?_
 refine zai rfl rfl rfl rfl (fun _=>?_) (fun h=>absurd h (by decide))
 refine gQ (zbQ (zbL rfl rfl) (by exact decide_eq_true hbe)) ?_
 refine gQ (za5 rfl rfl rfl) ?_
 refine gQ (zaf rfl) ?_
 refine zai rfl rfl rfl rfl (fun _=>?_) (fun h=>absurd h (by decide))
 refine gQ (zaf rfl) ?_
 refine zai rfl rfl rfl rfl (fun _=>?_) (fun h=>absurd h (by decide))
 refine gQ (zaV (Tryz.underlying59) rfl) ?_
 refine zai rfl rfl rfl rfl (fun _=>?_) (fun h=>absurd h (by decide))
 refine gQ (zbQ (zbL rfl rfl) (by rw [hbl]; rfl)) ?_
 refine gQ (za5 rfl rfl rfl) ?_
 refine gQ (zaf rfl) ?_
 refine zai rfl rfl rfl rfl (fun _=>?_) (fun h=>absurd h (by decide))
 refine gQ (zaf rfl) ?_
 refine zai rfl rfl rfl rfl (fun _=>?_) (fun h=>absurd h (by decide))
 refine gQ (zaE se59 rfl rfl (fun _ hw=>(zam zax (hw.has (p:=3) rfl))) (by omega) (by omega)) ?_
 refine zai rfl rfl rfl rfl (fun _=>?_) (fun h=>absurd h (by decide))
 refine gQ (zbv (vs:=[_,_]) tf69 rfl (fun _ hw=>(zam zax (hw.has (p:=3) rfl))) (by omega) (by omega) rfl) ?_
 refine zai rfl rfl rfl rfl (fun _=>?_) (fun h=>absurd h (by decide))
 refine gQ (zaI rfl (zi7 _ _)) ?_
 refine zai rfl rfl rfl rfl (fun _=>?_) (fun h=>absurd h (by decide))
 refine gQ (zbQ (zuW rfl rfl) (by rw [hba]; rfl)) ?_
 refine gQ (za5 rfl rfl rfl) ?_
 refine gQ (zaf rfl) ?_
 refine zai rfl rfl rfl rfl (fun _=>?_) (fun h=>absurd h (by decide))
 refine gQ (zaf rfl) ?_
 refine zai rfl rfl rfl rfl (fun _=>?_) (fun h=>absurd h (by decide))
 refine gQ (zbQ (zbL rfl rfl) (by exact decide_eq_true hfe)) ?_
 refine gQ (za5 rfl rfl rfl) ?_
 refine gQ (zaf rfl) ?_
 refine zai rfl rfl rfl rfl (fun _=>?_) (fun h=>absurd h (by decide))
 refine gQ (zaf rfl) ?_
 refine zai rfl rfl rfl rfl (fun _=>?_) (fun h=>absurd h (by decide))
 refine gQ (zbQ (zbL rfl rfl) (by exact decide_eq_true hta)) ?_
 refine gQ (za5 rfl rfl rfl) ?_
 refine gQ (zaf rfl) ?_
 refine zai rfl rfl rfl rfl (fun _=>?_) (fun h=>absurd h (by decide))
 refine gQ (zaf rfl) ?_
 refine zai rfl rfl rfl rfl (fun _=>?_) (fun h=>absurd h (by decide))
 refine gQ (zaV (Tryz.underlying35) rfl) ?_
 refine zai rfl rfl rfl rfl (fun _=>?_) (fun h=>absurd h (by decide))
 refine gQ (zbQ (zbL rfl rfl) (by rw [htn]; rfl)) ?_
 refine gQ (za5 rfl rfl rfl) ?_
 refine gQ (zaf rfl) ?_
 refine zai rfl rfl rfl rfl (fun _=>?_) (fun h=>absurd h (by decide))
 refine gQ (zaf rfl) ?_
 refine zai rfl rfl rfl rfl (fun _=>?_) (fun h=>absurd h (by decide))
 refine gQ (zaE se35 rfl rfl (fun _ hw=>(zam Go.Stn.encI_ok (hw.has (p:=2) rfl))) (by omega) (by omega)) ?_
 refine zai rfl rfl rfl rfl (fun _=>?_) (fun h=>absurd h (by decide))
 refine gQ (zcE tf3 rfl (fun _ hw=>(zam Go.Stn.encI_ok (hw.has (p:=2) rfl))) (by omega) (by omega) rfl) ?_
 refine zai rfl rfl rfl rfl (fun _=>?_) (fun h=>absurd h (by decide))
 refine gQ (zbQ (zbL rfl rfl) (by rw [htl]; rfl)) ?_
 refine gQ (za5 rfl rfl rfl) ?_
 refine gQ (zaf rfl) ?_
 refine zai rfl rfl rfl rfl (fun _=>?_) (fun h=>absurd h (by decide))
 refine gQ (zaf rfl) ?_
 refine zai rfl rfl rfl rfl (fun _=>?_) (fun h=>absurd h (by decide))
 refine gQ (zbQ (zbL rfl rfl) (by exact decide_eq_true hfe)) ?_
 refine gQ (za5 rfl rfl rfl) ?_
 refine gQ (zaf rfl) ?_
 refine zai rfl rfl rfl rfl (fun _=>?_) (fun h=>absurd h (by decide))
 refine gQ (zaf rfl) ?_
 refine zai rfl rfl rfl rfl (fun _=>?_) (fun h=>absurd h (by decide))
 refine gQ (zaV (Tryz.underlying73) rfl) ?_
 refine zai rfl rfl rfl rfl (fun _=>?_) (fun h=>absurd h (by decide))
 refine gQ (zbQ (zbL rfl rfl) (by rw [hkl]; rfl)) ?_
 refine gQ (za5 rfl rfl rfl) ?_
 refine gQ (zaf rfl) ?_
 refine zai rfl rfl rfl rfl (fun _=>?_) (fun h=>absurd h (by decide))
 refine gQ (zaf rfl) ?_
 refine zai rfl rfl rfl rfl (fun _=>?_) (fun h=>absurd h (by decide))
 refine gQ (zaE se73 rfl rfl (fun _ hw=>(zam zbc (hw.has (p:=1) rfl))) (by omega) (by omega)) ?_
 refine zai rfl rfl rfl rfl (fun _=>?_) (fun h=>absurd h (by decide))
 refine gQ (zbv (vs:=[_,_,_]) tf87 rfl (fun _ hw=>(zam zbc (hw.has (p:=1) rfl))) (by omega) (by omega) rfl) ?_
 refine zai rfl rfl rfl rfl (fun _=>?_) (fun h=>absurd h (by decide))
 refine gQ (zaI rfl (zgg _ _ _)) ?_
 refine zai rfl rfl rfl rfl (fun _=>?_) (fun h=>absurd h (by decide))
 refine gQ (zbQ (zuY rfl rfl) (by rw [show(19:Int).toNat=19 from rfl,hka]; rfl)) ?_
 refine gQ (za5 rfl rfl rfl) ?_
 refine gQ (zaf rfl) ?_
 refine zai rfl rfl rfl rfl (fun _=>?_) (fun h=>absurd h (by decide))
 refine gQ (zaf rfl) ?_
 refine zai rfl rfl rfl rfl (fun _=>?_) (fun h=>absurd h (by decide))
 refine gQ (zbQ (zbL rfl rfl) (by exact decide_eq_true hfe)) ?_
 refine gQ (za5 rfl rfl rfl) ?_
 refine gQ (zaf rfl) ?_
 refine zai rfl rfl rfl rfl (fun _=>?_) (fun h=>absurd h (by decide))
 refine gQ (zab zpD rfl) ?_
 refine zai rfl rfl rfl rfl (fun _=>?_) (fun h=>absurd h (by decide))
 refine gQ (zah 0 tf3 rfl rfl rfl) ?_
 refine zai rfl rfl rfl rfl (fun _=>?_) (fun h=>absurd h (by decide))
 refine gQ (zbQ (zbL rfl rfl) (by exact decide_eq_true (zuR hz hv))) ?_
 refine gQ (za5 rfl rfl rfl) ?_
 refine gQ (zad rfl) ?_
 refine zag (zae (T':=[(0,_)]) ⟨rfl,trivial⟩ ?_)
 refine zaw ?_
 refine zay (zaC rfl (zau rfl)) ?_
 rfl
end Go.Proofs.YtdcfcfhmkfkgmaaGreatDoor
namespace Go.Proofs.YtdcfcfhmkfkgmaaGreatDoor
open Go.K Go.Stn Go.Pln Go.RowKit
theorem en13:En Tryz.prog 13:=za7 Tryz.func13 (by kernel_rfl) (by kernel_rfl)
theorem en23:En Tryz.prog 23:=za7 Tryz.func23 (by kernel_rfl) (by kernel_rfl)
theorem en25:En Tryz.prog 25:=za7 Tryz.func25 (by kernel_rfl) (by kernel_rfl)
theorem zzn:∀ (l:List ByteArray) (q q':Plan) (n:Int),OkQ q→zdo q n l=.ok q'→OkQ q'
 | [],q,q',n,hq,h=>by rw [zdo] at h; cases h; exact hq
 | t :: r,q,q',n,hq,h=>by
  rw [zdo] at h
  split at h
  ·exact zzn r q q' _ hq h
  ·cases hl:zcu q t with
   | error k=>rw [hl] at h; cases h
   | ok q2=>rw [hl] at h; exact zzn r q2 q' _ (zrS hq hl) h
theorem zzM (t:ByteArray):OkQ (zgA t).1:=by
 unfold zgA
 split
 ·exact zup
 ·cases hl:zdo ⟨[],[]⟩ 1 (zcb t) with
  | error x=>exact zup
  | ok q=>exact zzn _ _ _ _ zup hl
theorem zzN {t:ByteArray} {S:List ShC} (h:S.map (·.s)=(zgA t).1.S):zaP S.length∧∀ z∈S,zaP z.s.heights.length:=by
 have hq:=zzM t
 constructor
 ·have:=hq.ls
  rw [←h,List.length_map] at this
  unfold zaP; omega
 ·intro z hz
  have:=(zaZ (hq.sh z.s (by rw [←h]; exact List.mem_map_of_mem hz))).len
  unfold zaP; omega
theorem zzO {t:ByteArray} {V:List WlC} (h:V.map (·.s)=(zgA t).1.V):zaP V.length∧∀ z∈V,zaP z.s.opens.length:=by
 have hq:=zzM t
 constructor
 ·have:=hq.lv
  rw [←h,List.length_map] at this
  unfold zaP; omega
 ·intro z hz
  have:=(hq.wv z.s (by rw [←h]; exact List.mem_map_of_mem hz)).1
  unfold zaP; omega
set_option maxRecDepth 100000 in
set_option maxHeartbeats 8000000 in
theorem PlanReads_c (t:ByteArray) (w:World) (hmx:Has w (IntV 2)) (hcp:Has w (zaW (some ⟨0,0,none⟩) 1 encS copesW)) (hop:Has w (zaW (some ⟨1,0,none⟩) 1 encS opensW)) :
  Calls Tryz.prog 4 #[.string t] w (Pure (.bool true) w):=by
 refine zan (vs:=[_]) Tryz.func4 rfl rfl (Nat.le_of_ble_eq_true rfl) ?_
 refine zac ?_
 refine zaa ?_
 refine gQ (zad rfl) ?_
 refine zag (zae (T':=[(0,_),(2,_)]) ⟨rfl,rfl,trivial⟩ ?_)
 refine zac ?_
 refine zac ?_
 refine zbb 8 (fun _=>mixed) (by kernel_rfl) ?_
 refine ph_y (zaf rfl) ?_
 refine ph_y (zeO (Tryz.underlying9) rfl) ?_
 refine ph_y (zc6 rfl rfl) ?_
 refine ph_y (zaf rfl) ?_
 refine zaH rfl rfl (fun hgd=>by(try rw [hgd]); exact(zaf rfl)) ?_
 refine zaH rfl rfl (fun hgd=>by(try rw [hgd]); exact(zeO (Tryz.underlying9) rfl)) ?_
 refine zaH rfl rfl (fun hgd=>by(try rw [hgd]); exact(zeT rfl rfl)) ?_
 refine ph_y (zaX rfl rfl rfl) ?_
 refine zag (zae (T':=[(0,_),(2,_),(16,_)]) ⟨rfl,rfl,rfl,trivial⟩ ?_)
 refine zap rfl (fun hc16=>?_) (fun hc16=>?_)
 ·
  refine zac ?_
  refine zaa ?_
  refine gQ (zaJ en13 rfl (fun w hw=>zkw w (Rd.has (Has.rd hmx) hw) (Rd.has (Has.rd hcp) hw) (Rd.has (Has.rd hop) hw))) ?_
  refine gQ (zad rfl) ?_
  refine zag (zae (T':=[(0,_),(2,_)]) ⟨rfl,rfl,trivial⟩ ?_)
  refine zaw ?_
  refine zay (zaC rfl (zau rfl)) ?_
  rfl
 ·
  refine zaq ?_
  refine zac ?_
  refine zaa ?_
  refine gQ (zaf rfl) ?_
  refine zaG rfl rfl (zbm en24 rfl (fun w hw=>zus t w (Rd.has (Has.rd hmx) hw) (Rd.has (Has.rd hcp) hw) (Rd.has (Has.rd hop) hw))) fun p20=>?_
  refine gQ (zaf rfl) ?_
  refine gQ (zaB rfl rfl) ?_
  refine gQ (zaB rfl rfl) ?_
  refine gQ (zaB rfl rfl) ?_
  refine zaG rfl rfl (zaL tf31 (zs:=[_,_]) rfl) fun b3=>?_
  refine zaA 0 tf31 rfl rfl (vs:=[_,_]) rfl rfl rfl rfl rfl ?_
  refine gQ (zad rfl) ?_
  refine gQ (zad rfl) ?_
  refine zag (zae (T':=[(0,_),(2,_),(3,_),(4,_),(5,_)]) ⟨rfl,rfl,rfl,rfl,rfl,trivial⟩ ?_)
  refine zao 1 rfl ?_
  refine zjk fun hS1 hV1=>?_
  refine zac ?_
  refine zaa ?_
  refine gQ (zaf rfl) ?_
  refine zaG rfl rfl (zbm en25 rfl (fun w hw=>zAQ t w)) fun p26=>?_
  refine gQ (zaf rfl) ?_
  refine gQ (zaB rfl rfl) ?_
  refine gQ (zaB rfl rfl) ?_
  refine gQ (zaB rfl rfl) ?_
  refine zaG rfl rfl (zaL tf25 (zs:=[_,_]) rfl) fun b6=>?_
  refine zaA 0 tf25 rfl rfl (vs:=[_,_]) rfl rfl rfl rfl rfl ?_
  refine gQ (zad rfl) ?_
  refine gQ (zad rfl) ?_
  refine zag (zae (T':=[(2,_),(3,_),(4,_),(5,_),(6,_),(7,_),(8,_)]) ⟨rfl,rfl,rfl,rfl,rfl,rfl,rfl,trivial⟩ ?_)
  refine zao 1 rfl ?_
  refine zjk fun hS2 hV2=>?_
  refine zac ?_
  refine zaa ?_
  refine gQ (zaf rfl) ?_
  refine gQ (zaf rfl) ?_
  refine gQ (zbQ (zbL rfl rfl) (by exact decide_eq_true rfl)) ?_
  refine gQ (zaf rfl) ?_
  refine zai rfl rfl rfl rfl (fun _=>?_) (fun h=>absurd h (by decide))
  refine gQ (zaf rfl) ?_
  refine zai rfl rfl rfl rfl (fun _=>?_) (fun h=>absurd h (by decide))
  refine gQ (zaf rfl) ?_
  refine zai rfl rfl rfl rfl (fun _=>?_) (fun h=>absurd h (by decide))
  refine gQ (zbQ (zbL rfl rfl) (by exact decide_eq_true rfl)) ?_
  refine gQ (za5 rfl rfl rfl) ?_
  refine gQ (zaf rfl) ?_
  refine zai rfl rfl rfl rfl (fun _=>?_) (fun h=>absurd h (by decide))
  refine gQ (zat 9 tf31 rfl rfl (vs:=[_,_]) rfl rfl) ?_
  refine zai rfl rfl rfl rfl (fun _=>?_) (fun h=>absurd h (by decide))
  refine gQ (zat 4 tf25 rfl rfl (vs:=[_,_]) rfl rfl) ?_
  refine zai rfl rfl rfl rfl (fun _=>?_) (fun h=>absurd h (by decide))
  refine gQ (zaJ en23 rfl (fun w hw=>zBz p20.1.1 p20.1.2.1 p20.1.2.2 p20.2.1 p20.2.2.1 p20.2.2.2 p26.1.1 p26.1.2.1 p26.1.2.2 p26.2.1 p26.2.2.1 p26.2.2.2 w (zam zbI (hw.has (p:=5) rfl)) (zzN hS1).1 (zam zbo (hw.has (p:=7) rfl)) (zzO hV1).1 (fun z hz=>zam Go.Stn.encI_ok (zbV (f:=rowH 3) (hw.has (p:=6) rfl) hz)) (zzN hS1).2 (fun z hz=>zam encOpn_ok (zbV (f:=rowO 98) (hw.has (p:=8) rfl) hz)) (zzO hV1).2 (zam zbI (hw.has (p:=0) rfl)) (zam zbo (hw.has (p:=2) rfl)) (fun z hz=>zam Go.Stn.encI_ok (zbV (f:=rowH 3) (hw.has (p:=1) rfl) hz)) (fun z hz=>zam encOpn_ok (zbV (f:=rowO 139) (hw.has (p:=3) rfl) hz)) (hS1.trans hS2.symm) (hV1.trans hV2.symm))) ?_
  refine gQ (za5 rfl rfl rfl) ?_
  refine gQ (zaf rfl) ?_
  refine zai rfl rfl rfl rfl (fun _=>?_) (fun h=>absurd h (by decide))
  refine gQ (zaJ en13 rfl (fun w hw=>zkw w (Rd.has (Has.rd hmx) hw) (Rd.has (Has.rd hcp) hw) (Rd.has (Has.rd hop) hw))) ?_
  refine gQ (za5 rfl rfl rfl) ?_
  refine gQ (zad rfl) ?_
  refine zag (zae (T':=[(2,_)]) ⟨rfl,trivial⟩ ?_)
  refine zaw ?_
  refine zay (zaC rfl (zau rfl)) ?_
  rfl
end Go.Proofs.YtdcfcfhmkfkgmaaGreatDoor
namespace Go.K
open Go Go.Stn Go.ChangeShapes Go.WideShapes Go.ChangeAt Go.WideElems Go.RowKit
section
variable {H:Type} {enc:TypeId×Value→H} {P:Program}
theorem zgK (hl:laidOutB P=true) {W W':World} {sp':Nat→Bool}:∀ (ts:List TypeId) (vs:List Value) (ds:List (DataW H)) (ps:List MemPlace),(∀ t∈ts,P.readableRec t=true∧t < P.types.size) →
  DataW.TrodAll enc P W 0 (fun _=>true) true ts vs ds ps→(∀ p∈ps,W.sameAt W' p)→(∀ p∈ps,sp' p.block=true)→DataW.TrodAll enc P W' 0 sp' true ts vs ds ps
 | [],[],[],ps,_,h,_,_=>h
 | t :: ts,v :: vs,d :: ds,ps,hr,⟨p,q,h1,h2,he⟩,hs,hsp=>by
  subst he
  exact⟨p,q,Trod_stays hl (hr t (List.mem_cons_self ..)).1 (hr t (List.mem_cons_self ..)).2 h1 (fun x hx=>hs x (List.mem_append_left _ hx)) (fun x hx=>hsp x (List.mem_append_left _ hx)),
   zgK hl ts vs ds q (fun x hx=>hr x (List.mem_cons_of_mem _ hx)) h2 (fun x hx=>hs x (List.mem_append_right _ hx)) (fun x hx=>hsp x (List.mem_append_right _ hx)),rfl⟩
 | [],[],_ :: _,_,_,h,_,_=>h.elim
 | [],_ :: _,_,_,_,h,_,_=>h.elim
 | _ :: _,[],_,_,_,h,_,_=>h.elim
 | _ :: _,_ :: _,[],_,_,h,_,_=>h.elim
theorem law_post {f:Func} {s:ChangeSpec} {apart fresh handsOn again:Bool} {W W':World} {args:Array Value} {ds:List (DataW H)} {before:List MemPlace} {tb:TypeId} (hl:laidOutB P=true)
  (hW:DataW.Whole enc P f.params.toList s.vars apart W args.toList ds [] before) (hvars:s.vars=[]) (hread:f.params.toList.all (fun t=>P.readableRec t&&decide (t < P.types.size))=true)
  (hfn:s.fn H (ds++[])={ results:=[.lit (.bool true)],args:=ds }) (hrt:f.resultTypes=#[tb]) (htb:P.underlying tb=some .bool) (hb:Ext W W'):s.post enc P f apart fresh handsOn again W args (.bool true) W':=by
 have hlt:∀ p∈before,p.block < W.heap.size:=fun p hp=>hW.lt p hp
 have hold:∀ p∈before,(fun b=>decide (b < W.heap.size)) p.block=true:=fun p hp=>by simpa using hlt p hp
 have hW0:=hW
 obtain⟨p,q,hA,hV,hpq,hz,hn⟩:=hW
 rw [hvars] at hV
 obtain⟨_,rfl⟩:=trodVars_none hV
 rw [List.append_nil] at hpq
 subst hpq
 have hr:∀ t∈f.params.toList,P.readableRec t=true∧t < P.types.size:=fun t ht=>by
  have:=List.all_eq_true.1 hread t ht
  simpa using this
 have hsame:∀ x∈before,W.sameAt W' x:=fun x hx=>by
  have hlx:=hlt x hx
  cases x with
  | cell b off=>exact hb.below.cell (p:=⟨b,off,none⟩) hlx
  | map b=>exact hb.block b hlx
 have hargs:∀ sp:Nat→Bool,(∀ p∈before,sp p.block=true)→DataW.TrodAll enc P W' 0 sp true f.params.toList args.toList ds before:=fun sp hsp=>zgK hl _ _ _ _ hr hA hsame hsp
 have hres:∀ (b:Nat) (sp:Nat→Bool) (hd:Bool),DataW.TrodAll enc P W' b sp hd f.resultTypes.toList ((Value.bool true).resultList f.resultTypes.size) [.lit (.bool true)] []:=fun b sp hd=>by
  rw [hrt]
  exact⟨[],[],⟨1,by simp [DataW.trod,Value.cells,htb]⟩,rfl,rfl⟩
 refine⟨ds,[],before,[],before,[],hW0,?_,?_,?_,World.keptBut_mono (fun p hp=>⟨hp,Or.inr (Or.inl hp)⟩) (hb.below.frame (·∈before)),fun _=>?_⟩
 ·rw [hfn]; exact hres _ _ _
 ·rw [hfn]; exact hargs _ hold
 ·rw [hfn,hvars]; rfl
 ·refine⟨fun j t r ht hrr=>?_,ds.cons (.lit (.bool true)),[],before,⟨before,[],?_,by rw [hvars]; rfl,by simp,?_,?_⟩,fun x hx _=>hx⟩
  ·rw [hrt] at ht hrr
   have h0:t=tb:=by
    rcases j with _ | j
    ·simpa using ht.symm
    ·simp at ht
   have h1:r=.bool true:=by
    rcases j with _ | j
    ·simpa [Value.resultList] using hrr.symm
    ·simp at ht
   subst h0; subst h1
   exact okWide_bool_mk htb true
  ·have h1:=trodAll_append (hargs (fun _=>true) (fun _ _=>rfl)) (hres 0 (fun _=>true) true)
   simpa using h1
  ·intro b off hp
   rw [hb.below.frozen (hlt _ hp)]
   exact hz b off (by simpa using hp)
  ·intro ha
   have:=hn ha
   simpa using this
end
end Go.K
namespace Go.Proofs.YtdcfcfhmkfkgmaaGreatDoor
open Go Go.K Go.Stn Go.Pln Go.ChangeShapes Go.WideShapes Go.ChangeAt Go.RowKit
theorem own:ownKnob Tryz.prog.godebug=none:=by kernel_rfl
theorem laidOut:laidOutB Tryz.prog=true:=by kernel_rfl
abbrev laidR:List (String×DataW Unit):=Rows.planChecksRow.laid
noncomputable def worldR (os:Os):World:=(World.doorLaid Tryz.prog 400 os).layVars Tryz.prog [("unicode/utf8.first",Go.Pinned.utf8First)]
theorem worldR_os (os:Os):(worldR os).os=os:=World.layVars_os _ _ _
theorem door_metR (os:Os) (args:Array Value):laidMetH Tryz.prog laidR ((worldR os).forCall (fun _ _=>0) ⟨#[],args,[]⟩).memory:=
 laidMetH_of_parts3 (fuel:=8) (laidMet_of_run' 8 (by kernel_rfl) (by kernel_rfl)) (by kernel_rfl) (by kernel_rfl)
section
variable {H:Type} {enc:TypeId×Value→H}
theorem returnsInHanded_of_change_and_shaped {a:Assume} {C:Checked} {os:Os} {f:FuncId} {fn:Func} {s:ChangeSpec} {conds:List PathCond} {apart fresh handsOn again:Bool} {X:World→Array Value→Prop}
  (hX:∀ (w w':World) (args:Array Value),w.heap=w'.heap→X w args→X w' args)
  (own:ownKnob C.prog.godebug=none) (started:os.Started) (noInit:C.prog.inits.idxOf? f=none) (hfn:C.prog.funcs[f]?=some fn)
  (witness:∃ (w:World) (tape:Tape) (i:Input),w.os=os∧(w.forCall tape i).Shaped C.prog∧i.vars=[]∧Input.okWide C.prog (w.forCall tape i) .any w.heap.size f i ∧
   ((s.pre enc C.prog fn conds apart (w.forCall tape i).memory i.args∧X (w.forCall tape i).memory i.args)∧sizedMet enc C.prog fn (OpenSpec.ofChange s) apart (w.forCall tape i).memory i.args)∧a.holds C.prog (lone (Frame.enter C.prog f i.args .normal) [] (w.forCall tape i)))
  (contract:∀ (W:World) (base:Nat) (args:Array Value) (ds gs:List (DataW H)) (before:List MemPlace),
   (∀ (j:Nat) t v,fn.params[j]?=some t→args[j]?=some v→Value.okWide C.prog W .any base t v) →
   DataW.Whole enc C.prog fn.params.toList s.vars apart W args.toList ds gs before →
   conds.all (PathCond.test C.prog ⟨fn.params.toList,ds,s.plain.varTypes C.prog,gs⟩)=true →
   (DataW.weightsEach C.prog (fn.params.toList++s.plain.varTypes C.prog) (ds++gs)).all (·≤reachBytes)=true→X W args →
   W.ShapedOpen C.prog →
   Calls C.prog f args W fun e W'=>∃ v,e=.returned v∧s.post enc C.prog fn apart fresh handsOn again W args v W') :
  ReturnsInHanded a C os f .any (fun w args=>(s.pre enc C.prog fn conds apart w args∧X w args)∧sizedMet enc C.prog fn (OpenSpec.ofChange s) apart w args) (s.post enc C.prog fn apart fresh handsOn again):=by
 refine returnsInHanded_of_calls own started noInit witness ?_
 intro w tape i _ hsh _ hok hpre _
 obtain⟨_,_,_,fn',hfn',_,_,_,_,hval⟩:=hok
 have e:fn' = fn:=Option.some.inj (hfn'.symm.trans hfn)
 subst e
 obtain⟨⟨⟨ds,gs,before,hw,hc⟩,hx⟩,hz⟩:=hpre
 have hw':=DataW.Whole.of_heap (w':=w.forCall tape i) (by rfl) hw
 refine(contract (w.forCall tape i) w.heap.size i.args ds gs before hval hw' hc (hz.weights hw) (hX _ _ _ (by rfl) hx) hsh).mono fun e W' ⟨v,he,hp⟩=>?_
 subst he
 exact ChangeSpec.post_blind hp
end
theorem zo3 {W:World} {b o:Nat} {v:Value} (h:W.cell? ⟨b,o,none⟩=some v):b < W.heap.size:=by
 rcases Nat.lt_or_ge b W.heap.size with g | g
 ·exact g
 ·exfalso
  simp [World.cell?,Array.getElem?_eq_none g] at h
theorem int_of_shape {W:World} (h:W.ShapedOpen Tryz.prog):Has W (IntV 2):=by
 obtain⟨m,hm⟩:=cell_of_shapedOpen_int (P:=Tryz.prog) (g:=2) (t:=3) (zero:=#[.int .i64 0]) (k:=.i64) h (of_decide_eq_true (by kernel_rfl)) (by kernel_rfl) rfl (by kernel_rfl) (by kernel_rfl) Tryz.underlying3
 exact⟨(· = 2),fun k hk=>by rw [hk]; exact zo3 hm,fun _=>Iff.rfl,m,hm⟩
theorem zok {W:World} {l:List (String×DataW Unit)} (h:laidMetH Tryz.prog l W) {n:String} {d:DataW Unit} (hm:(n,d)∈l) (hd:d.handleName?.isNone=true):Lib.VarReads Tryz.prog W n d:=by
 unfold laidMetH at h
 split at h
 ·exact Lib.laidMet.reads h hm
 ·exact Lib.laidMet.reads h.1 (List.mem_filter.2 ⟨hm,hd⟩)
theorem zlF {t:TypeId} {k:Nat} {W:World} {fuel:Nat} {l:List Value} {L:List ByteArray} {p:List MemPlace} (ht:Tryz.prog.underlying t=some (.array k 9)) (hct:Tryz.prog.cellsOf t=k) (hk:k=L.length)
  (h:DataW.trod (fun _=>()) Tryz.prog W 0 (fun _=>true) false fuel t l=some (.agg (L.map fun s=>.lit (.string s.data.toList)),p)):l=L.map fun s=>.string s:=by
 obtain⟨xs,m,_,hx,hlen,hn,hel⟩:=DataW.trod_array ht h
 have c9:Tryz.prog.cellsOf 9=1:=by kernel_rfl
 rw [c9] at hel
 simp only [Prod.mk.injEq,DataW.agg.injEq] at hx
 have hc:l.length=k:=by rw [hlen,hct]
 refine List.ext_getElem? fun i=>?_
 rw [List.getElem?_map]
 rcases Nat.lt_or_ge i k with hi | hi
 ·have he:=hel i hi
  have hli:i < l.length:=by omega
  have hLi:i < L.length:=by omega
  have hxi:i < xs.length:=by omega
  rw [Nat.mul_one,List.drop_eq_getElem_cons hli,List.getElem?_eq_getElem hxi] at he
  have he1:DataW.trod (fun _=>()) Tryz.prog W 0 (fun _=>true) false m 9 [l[i]]=some xs[i]:=he
  obtain⟨s,e0,ey,_⟩:=DataW.trod_string Tryz.underlying9 he1
  have h1:(L.map fun s=>(DataW.lit (Lit.string s.data.toList):DataW Unit))[i]?=(xs.map (·.1))[i]?:=by rw [hx.1]
  rw [List.getElem?_map,List.getElem?_map,List.getElem?_eq_getElem hLi,List.getElem?_eq_getElem hxi,ey] at h1
  simp only [Option.map_some,Option.some.injEq,DataW.lit.injEq,Lit.string.injEq] at h1
  have h2:L[i]=s:=by
   have:=Array.toList_inj.1 h1
   exact ByteArray.ext this
  simp only [List.cons.injEq,and_true] at e0
  rw [List.getElem?_eq_getElem hli,List.getElem?_eq_getElem hLi,e0,h2]
  rfl
 ·rw [List.getElem?_eq_none (by omega),List.getElem?_eq_none (by omega)]; rfl
theorem znT {W:World} {g:Nat} {nm:String} {t:TypeId} {k:Nat} {L:List ByteArray} {l:List (String×DataW Unit)} (h:laidMetH Tryz.prog l W) (hm:(nm,.agg (L.map fun s=>.lit (.string s.data.toList)))∈l)
  (hd:(DataW.agg (L.map fun s=>.lit (.string s.data.toList)):DataW Unit).handleName?.isNone=true)
  (hg:Tryz.prog.globalNamed nm=some g) (htg:(Tryz.prog.globals[g]?).map (·.type)=some t) (ht:Tryz.prog.underlying t=some (.array k 9)) (hct:Tryz.prog.cellsOf t=k) (hk:k=L.length) (h0:0 < k):Has W (zaW (some ⟨g,0,none⟩) 1 encS L):=by
 obtain⟨g',t',cs,fuel,p,hg',ht',hv,hd'⟩:=zok h hm hd
 obtain rfl:=Option.some.inj (hg.symm.trans hg')
 obtain rfl:=Option.some.inj (htg.symm.trans ht')
 have hcs:=zlF ht hct hk hd'
 have hc:=World.var?_cell hg hv
 have hcell:∀ i x,L[i]?=some x→W.cell? ⟨g,i,none⟩=some (.string x):=fun i x hi=>by
  rw [hc i]
  obtain⟨lc⟩:=cs
  have h1:lc=_:=hcs
  rw [h1]
  simp [hi]
 refine⟨(· = g),fun b hb=>?_,.inr ⟨g,0,rfl,fun _=>Iff.rfl,fun i x hi=>⟨?_,trivial⟩⟩⟩
 ·rw [hb]
  match L,hk with
  | x :: r,_=>exact zo3 (hcell 0 x rfl)
  | [],hk=>exact absurd hk (by simp; omega)
 ·rw [Nat.zero_add,Nat.mul_one]; exact hcell i x hi
theorem copes_of_laid {W:World} {l:List (String×DataW Unit)} (h:laidMetH Tryz.prog l W) (hm:("copestone/plan.copes",Rows.laid_copestone_plan_copes)∈l):Has W (zaW (some ⟨0,0,none⟩) 1 encS copesW):=
 znT (t:=137) (k:=4) h hm (by kernel_rfl) (by kernel_rfl) (by kernel_rfl) Tryz.underlying137 (by kernel_rfl) rfl (by decide)
theorem opens_of_laid {W:World} {l:List (String×DataW Unit)} (h:laidMetH Tryz.prog l W) (hm:("copestone/plan.openings",Rows.laid_copestone_plan_openings)∈l):Has W (zaW (some ⟨1,0,none⟩) 1 encS opensW):=
 znT (t:=138) (k:=5) h hm (by kernel_rfl) (by kernel_rfl) (by kernel_rfl) Tryz.underlying138 (by kernel_rfl) rfl (by decide)
end Go.Proofs.YtdcfcfhmkfkgmaaGreatDoor
namespace Go.Proofs.YtdcfcfhmkfkgmaaGreatDoor
open Go Go.K Go.Stn Go.Pln Go.ChangeShapes Go.WideShapes Go.ChangeAt Go.WideElems Go.RowKit
section
variable {H:Type} {enc:TypeId×Value→H} {P:Program} {w:World} {base:Nat} {spare:Nat→Bool} {held:Bool}
def WOk (P:Program) (t:TypeId) (d:DataW H):Prop:=∀ n∈d.weights P t,n≤reachBytes
theorem wok_each:∀ {ts:List TypeId} {ds:List (DataW H)},(∀ n∈DataW.weightsEach P ts ds,n≤reachBytes)→∀ (i:Nat) t d,ts[i]?=some t→ds[i]?=some d→WOk P t d
 | [],_,_,i,t,d,h1,_=>by simp at h1
 | _ :: _,[],_,i,t,d,_,h2=>by simp at h2
 | t0 :: ts,d0 :: ds,h,i,t,d,h1,h2=>by
  rw [DataW.weightsEach] at h
  cases i with
  | zero=>
   simp only [List.getElem?_cons_zero,Option.some.injEq] at h1 h2
   subst h1; subst h2
   exact fun n hn=>h n (List.mem_append_left _ hn)
  | succ i=>
   simp only [List.getElem?_cons_succ] at h1 h2
   exact wok_each (fun n hn=>h n (List.mem_append_right _ hn)) i t d h1 h2
end
section
variable {H:Type} {enc:TypeId×Value→H} {w:World} {base:Nat} {spare:Nat→Bool} {held:Bool}
set_option maxRecDepth 100000 in
theorem open_text {r:Reach} {b0:Nat} {v:Value} {d:DataW H} {p:List MemPlace} (hv:Value.okWide Tryz.prog w r b0 9 v) (h:DataW.Trod enc Tryz.prog w base spare held 9 v d p) (hx:WOk Tryz.prog 9 d):∃ s:ByteArray,Fits s.size∧v=.string s:=by
 obtain⟨s,rfl⟩:=okWide_string Tryz.underlying9 hv
 obtain⟨fuel,hf⟩:=h
 obtain⟨s',e,ey,_⟩:=DataW.trod_string Tryz.underlying9 hf
 simp only [Value.cells,List.cons.injEq,Value.string.injEq,and_true] at e
 subst e
 simp only [Prod.mk.injEq] at ey
 refine⟨s,?_,rfl⟩
 have:=hx s.size (by rw [ey.1,DataW.weights]; simp)
 unfold reachBytes at this
 unfold Fits
 omega
end
end Go.Proofs.YtdcfcfhmkfkgmaaGreatDoor