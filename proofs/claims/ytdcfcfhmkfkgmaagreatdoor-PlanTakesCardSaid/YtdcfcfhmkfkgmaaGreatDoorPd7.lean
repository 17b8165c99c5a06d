/- What the proof of the root text leans on, part 7: the layer, plain facts and walks. No statement of the seat is proved in this text. -/
import Derived.ChangeSame
import Derived.Deep.Slices
import Derived.Handed
import Derived.HandedShaped
import Derived.LaidHandle
import Derived.LaidLaws
import Derived.LaidMore
import Derived.Lay
import Derived.Lib.LaidU8
import Derived.OpenShut
import Derived.ProofKit
import Derived.Shelf.Vars
import Derived.SizedLaws
import Derived.Stop.Joined
import Derived.Test.YtdcfcfhmkfkgmaaGreatDoorRows
import Derived.WideKeyArgs
import Derived.Test.YtdcfcfhmkfkgmaaGreatDoorPd6
namespace Go.Proofs.YtdcfcfhmkfkgmaaGreatDoor
open Go.K Go.Stn Go.Pln Go.RowKit
theorem tf50:TF Tryz.prog 50 true 2 (.agg #[.int IntKind.i64 0,.int IntKind.i64 0]):=⟨by kernel_rfl,by kernel_rfl⟩
theorem zhd:FO Tryz.prog 50 0 0:=⟨by kernel_rfl⟩
theorem en64:En Tryz.prog 64:=za7 Tryz.func64 (by kernel_rfl) (by kernel_rfl)
set_option maxRecDepth 100000 in
set_option maxHeartbeats 4000000 in
theorem zuE (b:Option Addr) (bcap:Nat) (v:Wll) (a:Option Addr) (cap:Nat) (s:Sht) (c:Crs) (x:Int) (w:World) (hv:Has w (zaW b 5 zba v.opens)) (hF:WallF v s.height) (hh:0≤s.height∧s.height≤3000) :
  Calls Tryz.prog 64 #[.agg #[.string v.name,.string v.sheet,.int .i64 v.length,.slice b v.opens.length bcap],.agg #[.string s.name,.int .i64 s.base,.int .i64 s.batter,.int .i64 s.height,.int .i64 s.skin,.slice a s.heights.length cap,.int .i64 s.least,.int .i64 s.lap,.int .i64 s.run,.int .i64 s.every,.int .i64 s.at_,.int .i64 s.footing,.int .i64 s.spread,.int .u8 s.cope,.int .i64 s.tall,.int .i64 s.short,.int .i64 s.thick,.int .i64 s.low,.int .i64 s.high,.int .i64 s.rood],.agg #[.int .i64 c.frm,.int .i64 c.to],.int .i64 x] w (Pure (.bool ((zcH (v.opens.filter (rch c s.height))) x)) w):=by
 have hnm:=hF.num
 have hlen:=hF.len
 refine zan (vs:=[_,_,_,_]) Tryz.func64 rfl rfl (Nat.le_of_ble_eq_true rfl) ?_
 refine zac ?_
 refine zaa ?_
 refine zaG rfl rfl (za3 (vs:=[_,_,_,_]) rfl rfl) fun b4=>?_
 refine zaG rfl rfl (za3 (vs:=[_,_,_,_,_,_,_,_,_,_,_,_,_,_,_,_,_,_,_,_]) rfl rfl) fun b5=>?_
 refine zaG rfl rfl (za3 (vs:=[_,_]) rfl rfl) fun b6=>?_
 refine gk_y rfl rfl (zad rfl) ?_
 refine zag (zae (T':=[(3,_),(4,_),(5,_),(6,_),(8,_)]) ⟨rfl,rfl,rfl,rfl,rfl,trivial⟩ ?_)
 refine zac ?_
 refine zac ?_
 refine zaa ?_
 refine gk_y rfl rfl (zad rfl) ?_
 refine zag (zae (T':=[(3,_),(4,_),(5,_),(6,_),(8,_),(9,_)]) ⟨rfl,rfl,rfl,rfl,rfl,rfl,trivial⟩ ?_)
 refine zas ?_
 refine zbf (X:=Int) (fun(i:Int)=>[(3,.int .i64 x),(4,.pointer (some ⟨b4,0,none⟩)),(5,.pointer (some ⟨b5,0,none⟩)),(6,.pointer (some ⟨b6,0,none⟩)),(8,.bool false),(9,.int .i64 i)]) (fun(i:Int)=>[Box b6 [.int .i64 c.frm,.int .i64 c.to] 50,Box b5 [.string s.name,.int .i64 s.base,.int .i64 s.batter,.int .i64 s.height,.int .i64 s.skin,.slice a s.heights.length cap,.int .i64 s.least,.int .i64 s.lap,.int .i64 s.run,.int .i64 s.every,.int .i64 s.at_,.int .i64 s.footing,.int .i64 s.spread,.int .u8 s.cope,.int .i64 s.tall,.int .i64 s.short,.int .i64 s.thick,.int .i64 s.low,.int .i64 s.high,.int .i64 s.rood] 37,Box b4 [.string v.name,.string v.sheet,.int .i64 v.length,.slice b v.opens.length bcap] 65]) (fun(i:Int)=>(0≤i∧i≤v.opens.length∧∀ j:Nat,(j:Int) < i→hitB c s.height x (v.opens.getD j default)=false)) (fun(i:Int)=>(v.opens.length - i).toNat) 0 ⟨rfl,rfl,rfl,rfl,rfl,rfl,trivial⟩ rfl ?_ ?_
 ·exact⟨by omega,by omega,fun j hj=>by omega⟩
 ·rintro i hI
  obtain⟨g0,g1,g2⟩:=hI
  refine zac ?_
  refine zac ?_
  refine zaa ?_
  refine gk_y rfl rfl (zaf rfl) ?_
  refine gk_y rfl rfl (zab zgn rfl) ?_
  refine gk_y rfl rfl (zah 2 tf63 rfl rfl rfl) ?_
  refine gk_y rfl rfl (zaV (Tryz.underlying63) rfl) ?_
  refine gk_y rfl rfl (zbw rfl rfl) ?_
  refine zag (zae (T':=[(3,_),(4,_),(5,_),(6,_),(8,_),(9,_),(16,_)]) ⟨rfl,rfl,rfl,rfl,rfl,rfl,rfl,trivial⟩ ?_)
  refine zap rfl (fun hc16=>?_) (fun hc16=>?_)
  ·have hc16:=of_decide_eq_true hc16
   have hfo:=hF.fit (v.opens.getD (i).toNat default) (za0 (by omega))
   have q1:=hfo.a; have q2:=hfo.w; have q3:=hfo.h; have q4:=hfo.f
   refine zaq ?_
   refine zac ?_
   refine zas ?_
   refine zac ?_
   refine zaa ?_
   refine gk_y rfl rfl (zab zgn rfl) ?_
   refine gk_y rfl rfl (zah 2 tf63 rfl rfl rfl) ?_
   refine gk_y rfl rfl (zaf rfl) ?_
   refine gk_y rfl rfl (zaE se63 rfl rfl (fun _ hw=>(Rd.has (Has.rd hv) hw)) (by omega) (by omega)) ?_
   refine gk_y rfl rfl (zbv (vs:=[_,_,_,_,_]) zht rfl (fun _ hw=>(Rd.has (Has.rd hv) hw)) (by omega) (by omega) rfl) ?_
   refine zaG rfl rfl (zaL zht (zs:=[_,_,_,_,_]) rfl) fun b10=>?_
   refine zaA 0 zht rfl rfl (vs:=[_,_,_,_,_]) rfl rfl rfl rfl rfl ?_
   refine zag (zae (T':=[(3,_),(4,_),(5,_),(6,_),(8,_),(9,_),(10,_)]) ⟨rfl,rfl,rfl,rfl,rfl,rfl,rfl,trivial⟩ ?_)
   refine zac ?_
   refine zbb 16 (fun _=>mixed) (by kernel_rfl) ?_
   refine ph_y (zab zdx rfl) ?_
   refine ph_y (zah 0 tf3 rfl rfl rfl) ?_
   refine ph_y (zab zgm rfl) ?_
   refine ph_y (zah 1 tf3 rfl rfl rfl) ?_
   refine ph_y (zbw rfl rfl) ?_
   refine ph_y (zaf rfl) ?_
   refine zaH rfl rfl (fun hgd=>by(try rw [hgd]); exact(zab zdx rfl)) ?_
   refine zaH rfl rfl (fun hgd=>by(try rw [hgd]); exact(zah 0 tf3 rfl rfl rfl)) ?_
   refine zaH rfl rfl (fun hgd=>by(try rw [hgd]); exact(zab zfa rfl)) ?_
   refine zaH rfl rfl (fun hgd=>by(try rw [hgd]); exact(zah 0 tf3 rfl rfl rfl)) ?_
   refine zaH rfl rfl (fun hgd=>by(try rw [hgd]); exact(zaY rfl rfl (by omega) (by omega))) ?_
   refine zaH rfl rfl (fun hgd=>by(try rw [hgd]); exact(zab zhd rfl)) ?_
   refine zaH rfl rfl (fun hgd=>by(try rw [hgd]); exact(zah 1 tf3 rfl rfl rfl)) ?_
   refine zaH rfl rfl (fun hgd=>by(try rw [hgd]); exact(zc6 rfl rfl)) ?_
   refine ph_y (zaX rfl rfl rfl) ?_
   refine ph_y (zad rfl) ?_
   refine zag (zae (T':=[(3,_),(4,_),(5,_),(6,_),(8,_),(9,_),(10,_),(11,_)]) ⟨rfl,rfl,rfl,rfl,rfl,rfl,rfl,rfl,trivial⟩ ?_)
   refine zac ?_
   refine zac ?_
   refine zaa ?_
   refine gk_y rfl rfl (zab zhd rfl) ?_
   refine gk_y rfl rfl (zah 1 tf3 rfl rfl rfl) ?_
   refine gk_y rfl rfl (zab zdC rfl) ?_
   refine gk_y rfl rfl (zah 2 tf3 rfl rfl rfl) ?_
   refine gk_y rfl rfl (zfx rfl rfl) ?_
   refine zag (zae (T':=[(3,_),(4,_),(5,_),(6,_),(8,_),(9,_),(10,_),(11,_),(43,_)]) ⟨rfl,rfl,rfl,rfl,rfl,rfl,rfl,rfl,rfl,trivial⟩ ?_)
   refine zap rfl (fun hc43=>?_) (fun hc43=>?_)
   ·have hc43:s.height≤c.frm:=of_decide_eq_true hc43
    refine zaa ?_
    refine gk_y rfl rfl (zab zdx rfl) ?_
    refine gk_y rfl rfl (zah 0 tf3 rfl rfl rfl) ?_
    refine gk_y rfl rfl (zab zfa rfl) ?_
    refine gk_y rfl rfl (zah 0 tf3 rfl rfl rfl) ?_
    refine gk_y rfl rfl (zaY rfl rfl (by omega) (by omega)) ?_
    refine gk_y rfl rfl (zab zdC rfl) ?_
    refine gk_y rfl rfl (zah 2 tf3 rfl rfl rfl) ?_
    refine gk_y rfl rfl (zbL rfl rfl) ?_
    refine gk_y rfl rfl (zad rfl) ?_
    refine zag (zae (T':=[(3,_),(4,_),(5,_),(6,_),(8,_),(9,_),(10,_),(11,_)]) ⟨rfl,rfl,rfl,rfl,rfl,rfl,rfl,rfl,trivial⟩ ?_)
    refine zac ?_
    refine zbb 16 (fun _=>mixed) (by kernel_rfl) ?_
    refine ph_y (zaf rfl) ?_
    refine ph_y (zaf rfl) ?_
    refine zaH rfl rfl (fun hgd=>by(try rw [hgd]); exact(zab zdS rfl)) ?_
    refine zaH rfl rfl (fun hgd=>by(try rw [hgd]); exact(zah 0 tf3 rfl rfl rfl)) ?_
    refine zaH rfl rfl (fun hgd=>by(try rw [hgd]); exact(zaf rfl)) ?_
    refine zaH rfl rfl (fun hgd=>by(try rw [hgd]); exact(zeT rfl rfl)) ?_
    refine ph_y (zaX rfl rfl rfl) ?_
    refine ph_y (zaf rfl) ?_
    refine zaH rfl rfl (fun hgd=>by(try rw [hgd]); exact(zaf rfl)) ?_
    refine zaH rfl rfl (fun hgd=>by(try rw [hgd]); exact(zab zdS rfl)) ?_
    refine zaH rfl rfl (fun hgd=>by(try rw [hgd]); exact(zah 0 tf3 rfl rfl rfl)) ?_
    refine zaH rfl rfl (fun hgd=>by(try rw [hgd]); exact(zab zfZ rfl)) ?_
    refine zaH rfl rfl (fun hgd=>by(try rw [hgd]); exact(zah 0 tf3 rfl rfl rfl)) ?_
    refine zaH rfl rfl (fun hgd=>by(try rw [hgd]); exact(zaY rfl rfl (by omega) (by omega))) ?_
    refine zaH rfl rfl (fun hgd=>by(try rw [hgd]); exact(zbw rfl rfl)) ?_
    refine ph_y (zaX rfl rfl rfl) ?_
    refine zag (zae (T':=[(3,_),(4,_),(5,_),(6,_),(8,_),(9,_),(67,_)]) ⟨rfl,rfl,rfl,rfl,rfl,rfl,rfl,trivial⟩ ?_)
    refine zap rfl (fun hc67=>?_) (fun hc67=>?_)
    ·have hh:hitB c s.height x (v.opens.getD (i).toNat default)=true:=by first | (refine(zj2 (by assumption)).2 ?_; simp only [Bool.and_eq_true,decide_eq_true_eq] at hc67 ⊢; omega) | (refine(zj1 (by assumption)).2 ?_; simp only [Bool.and_eq_true,decide_eq_true_eq] at hc67 ⊢; omega)
     refine zac ?_
     refine zaa ?_
     refine gk_y rfl rfl (zad rfl) ?_
     refine zag (zae (T':=[(3,_),(4,_),(5,_),(6,_),(8,_),(9,_)]) ⟨rfl,rfl,rfl,rfl,rfl,rfl,trivial⟩ ?_)
     refine zaw ?_
     refine zay (zaC rfl (zau rfl)) ?_
     rw [zpI g0 hc16 hh]
    ·have hh:hitB c s.height x (v.opens.getD (i).toNat default)=false:=by rw [←Bool.not_eq_true]; intro hx; first | (have hx:=(zj2 (by assumption)).1 hx; simp only [Bool.and_eq_false_iff,decide_eq_false_iff_not] at hc67; omega) | (have hx:=(zj1 (by assumption)).1 hx; simp only [Bool.and_eq_false_iff,decide_eq_false_iff_not] at hc67; omega)
     refine zaq ?_
     refine zaa ?_
     refine gk_y rfl rfl (zaf rfl) ?_
     refine gk_y rfl rfl (zaY rfl rfl (by omega) (by omega)) ?_
     refine gk_y rfl rfl (zad rfl) ?_
     refine zag (zae (T':=[(3,_),(4,_),(5,_),(6,_),(8,_),(9,_)]) ⟨rfl,rfl,rfl,rfl,rfl,rfl,trivial⟩ ?_)
     refine zaK 0 rfl ?_
     exact za1 (i+1) ⟨rfl,rfl,rfl,rfl,rfl,rfl,trivial⟩ rfl ⟨by omega,by omega,zdP (f:=fun j=>hitB c s.height x (v.opens.getD j default)) g0 g2 hh⟩ (by omega)
   ·have hc43:¬ s.height≤c.frm:=of_decide_eq_false hc43
    refine zaq ?_
    refine zac ?_
    refine zbb 16 (fun _=>mixed) (by kernel_rfl) ?_
    refine ph_y (zaf rfl) ?_
    refine ph_y (zaf rfl) ?_
    refine zaH rfl rfl (fun hgd=>by(try rw [hgd]); exact(zab zdS rfl)) ?_
    refine zaH rfl rfl (fun hgd=>by(try rw [hgd]); exact(zah 0 tf3 rfl rfl rfl)) ?_
    refine zaH rfl rfl (fun hgd=>by(try rw [hgd]); exact(zaf rfl)) ?_
    refine zaH rfl rfl (fun hgd=>by(try rw [hgd]); exact(zeT rfl rfl)) ?_
    refine ph_y (zaX rfl rfl rfl) ?_
    refine ph_y (zaf rfl) ?_
    refine zaH rfl rfl (fun hgd=>by(try rw [hgd]); exact(zaf rfl)) ?_
    refine zaH rfl rfl (fun hgd=>by(try rw [hgd]); exact(zab zdS rfl)) ?_
    refine zaH rfl rfl (fun hgd=>by(try rw [hgd]); exact(zah 0 tf3 rfl rfl rfl)) ?_
    refine zaH rfl rfl (fun hgd=>by(try rw [hgd]); exact(zab zfZ rfl)) ?_
    refine zaH rfl rfl (fun hgd=>by(try rw [hgd]); exact(zah 0 tf3 rfl rfl rfl)) ?_
    refine zaH rfl rfl (fun hgd=>by(try rw [hgd]); exact(zaY rfl rfl (by omega) (by omega))) ?_
    refine zaH rfl rfl (fun hgd=>by(try rw [hgd]); exact(zbw rfl rfl)) ?_
    refine ph_y (zaX rfl rfl rfl) ?_
    refine zag (zae (T':=[(3,_),(4,_),(5,_),(6,_),(8,_),(9,_),(67,_)]) ⟨rfl,rfl,rfl,rfl,rfl,rfl,rfl,trivial⟩ ?_)
    refine zap rfl (fun hc67=>?_) (fun hc67=>?_)
    ·have hh:hitB c s.height x (v.opens.getD (i).toNat default)=true:=by first | (refine(zj2 (by assumption)).2 ?_; simp only [Bool.and_eq_true,decide_eq_true_eq] at hc67 ⊢; omega) | (refine(zj1 (by assumption)).2 ?_; simp only [Bool.and_eq_true,decide_eq_true_eq] at hc67 ⊢; omega)
     refine zac ?_
     refine zaa ?_
     refine gk_y rfl rfl (zad rfl) ?_
     refine zag (zae (T':=[(3,_),(4,_),(5,_),(6,_),(8,_),(9,_)]) ⟨rfl,rfl,rfl,rfl,rfl,rfl,trivial⟩ ?_)
     refine zaw ?_
     refine zay (zaC rfl (zau rfl)) ?_
     rw [zpI g0 hc16 hh]
    ·have hh:hitB c s.height x (v.opens.getD (i).toNat default)=false:=by rw [←Bool.not_eq_true]; intro hx; first | (have hx:=(zj2 (by assumption)).1 hx; simp only [Bool.and_eq_false_iff,decide_eq_false_iff_not] at hc67; omega) | (have hx:=(zj1 (by assumption)).1 hx; simp only [Bool.and_eq_false_iff,decide_eq_false_iff_not] at hc67; omega)
     refine zaq ?_
     refine zaa ?_
     refine gk_y rfl rfl (zaf rfl) ?_
     refine gk_y rfl rfl (zaY rfl rfl (by omega) (by omega)) ?_
     refine gk_y rfl rfl (zad rfl) ?_
     refine zag (zae (T':=[(3,_),(4,_),(5,_),(6,_),(8,_),(9,_)]) ⟨rfl,rfl,rfl,rfl,rfl,rfl,trivial⟩ ?_)
     refine zaK 0 rfl ?_
     exact za1 (i+1) ⟨rfl,rfl,rfl,rfl,rfl,rfl,trivial⟩ rfl ⟨by omega,by omega,zdP (f:=fun j=>hitB c s.height x (v.opens.getD j default)) g0 g2 hh⟩ (by omega)
  ·have hc16:=of_decide_eq_false hc16
   refine za8 rfl ?_
   refine zac ?_
   refine zaa ?_
   refine gk_y rfl rfl (zad rfl) ?_
   refine zag (zae (T':=[(8,_)]) ⟨rfl,trivial⟩ ?_)
   refine zaw ?_
   refine zay (zaC rfl (zau rfl)) ?_
   rw [zrr (fun j hj=>g2 j (by omega))]
set_option maxRecDepth 100000 in
set_option maxHeartbeats 4000000 in
theorem zuB (b:Option Addr) (bcap:Nat) (v:Wll) (a:Option Addr) (cap:Nat) (s:Sht) (c:Crs) (w:World) (hv:Has w (zaW b 5 zba v.opens)) (_hl:Has w (Ints a s.heights)) (hF:WallF v s.height) (hh:0≤s.height∧s.height≤3000) :
  Calls Tryz.prog 29 #[.agg #[.string v.name,.string v.sheet,.int .i64 v.length,.slice b v.opens.length bcap],.agg #[.string s.name,.int .i64 s.base,.int .i64 s.batter,.int .i64 s.height,.int .i64 s.skin,.slice a s.heights.length cap,.int .i64 s.least,.int .i64 s.lap,.int .i64 s.run,.int .i64 s.every,.int .i64 s.at_,.int .i64 s.footing,.int .i64 s.spread,.int .u8 s.cope,.int .i64 s.tall,.int .i64 s.short,.int .i64 s.thick,.int .i64 s.low,.int .i64 s.high,.int .i64 s.rood],.agg #[.int .i64 c.frm,.int .i64 c.to]] w (zcU (fun z:Option Addr×Nat=>.slice z.1 (zcW (rch c s.height) v).length z.2) (fun z=>Row z.1 2 z.2 50 zbq (zcW (rch c s.height) v)) w):=by
 have hlen:=hF.len
 refine zan (vs:=[_,_,_]) Tryz.func29 rfl rfl (Nat.le_of_ble_eq_true rfl) ?_
 refine zac ?_
 refine zaa ?_
 refine zaG rfl rfl (za3 (vs:=[_,_,_,_]) rfl rfl) fun b3=>?_
 refine zaG rfl rfl (za3 (vs:=[_,_,_,_,_,_,_,_,_,_,_,_,_,_,_,_,_,_,_,_]) rfl rfl) fun b4=>?_
 refine zaG rfl rfl (za3 (vs:=[_,_]) rfl rfl) fun b5=>?_
 refine gk_y rfl rfl (zad rfl) ?_
 refine zag (zae (T':=[(3,_),(4,_),(5,_),(6,_)]) ⟨rfl,rfl,rfl,rfl,trivial⟩ ?_)
 refine zac ?_
 refine zaa ?_
 refine gk_y rfl rfl (zad rfl) ?_
 refine zag (zae (T':=[(3,_),(4,_),(5,_),(6,_),(7,_)]) ⟨rfl,rfl,rfl,rfl,rfl,trivial⟩ ?_)
 refine zac ?_
 refine zac ?_
 refine zaa ?_
 refine gk_y rfl rfl (zad rfl) ?_
 refine zag (zae (T':=[(3,_),(4,_),(5,_),(6,_),(7,_),(8,_)]) ⟨rfl,rfl,rfl,rfl,rfl,rfl,trivial⟩ ?_)
 refine zas ?_
 refine zbB 50 zbq 2 ?_
 refine zbf (X:=Int×Option Addr×Nat×List Crs) (fun⟨x,rb,rc,L⟩=>[(3,.pointer (some ⟨b3,0,none⟩)),(4,.pointer (some ⟨b4,0,none⟩)),(5,.pointer (some ⟨b5,0,none⟩)),(6,.slice none 0 0),(7,.slice rb L.length rc),(8,.int .i64 x)]) (fun⟨x,rb,rc,L⟩=>[Row rb 2 rc 50 zbq L,Box b5 [.int .i64 c.frm,.int .i64 c.to] 50,Box b4 [.string s.name,.int .i64 s.base,.int .i64 s.batter,.int .i64 s.height,.int .i64 s.skin,.slice a s.heights.length cap,.int .i64 s.least,.int .i64 s.lap,.int .i64 s.run,.int .i64 s.every,.int .i64 s.at_,.int .i64 s.footing,.int .i64 s.spread,.int .u8 s.cope,.int .i64 s.tall,.int .i64 s.short,.int .i64 s.thick,.int .i64 s.low,.int .i64 s.high,.int .i64 s.rood] 37,Box b3 [.string v.name,.string v.sheet,.int .i64 v.length,.slice b v.opens.length bcap] 65]) (fun⟨x,rb,rc,L⟩=>(0≤x∧x≤v.length∧L=bayN (zcH (v.opens.filter (rch c s.height))) x.toNat∧L.length≤x.toNat)) (fun⟨x,rb,rc,L⟩=>(v.length - x).toNat) (0,none,0,[]) ⟨rfl,rfl,rfl,rfl,rfl,rfl,trivial⟩ rfl ?_ ?_
 ·exact⟨by omega,by omega,rfl,by simp⟩
 ·rintro ⟨x,rb,rc,L⟩ hI
  obtain⟨g0,g1,g2,g3⟩:=hI
  refine zac ?_
  refine zac ?_
  refine zaa ?_
  refine gk_y rfl rfl (zaf rfl) ?_
  refine gk_y rfl rfl (zab zfS rfl) ?_
  refine gk_y rfl rfl (zah 3 tf3 rfl rfl rfl) ?_
  refine gk_y rfl rfl (zbw rfl rfl) ?_
  refine zag (zae (T':=[(3,_),(4,_),(5,_),(6,_),(7,_),(8,_),(13,_)]) ⟨rfl,rfl,rfl,rfl,rfl,rfl,rfl,trivial⟩ ?_)
  refine zap rfl (fun hc13=>?_) (fun hc13=>?_)
  ·have hc13:=of_decide_eq_true hc13
   refine zaq ?_
   refine zac ?_
   refine zas ?_
   refine zac ?_
   refine zac ?_
   refine zaa ?_
   refine gk_y rfl rfl (zat 3 tf65 rfl rfl (vs:=[_,_,_,_]) rfl rfl) ?_
   refine gk_y rfl rfl (zat 2 tf37 rfl rfl (vs:=[_,_,_,_,_,_,_,_,_,_,_,_,_,_,_,_,_,_,_,_]) rfl rfl) ?_
   refine gk_y rfl rfl (zat 1 tf50 rfl rfl (vs:=[_,_]) rfl rfl) ?_
   refine gk_y rfl rfl (zaf rfl) ?_
   refine gk_y rfl rfl (zaJ en64 rfl (fun w hw=>zuE _ _ v _ _ s c x w (Rd.has (Has.rd hv) hw) hF hh)) ?_
   refine gk_y rfl rfl (zbR rfl) ?_
   refine zag (zae (T':=[(3,_),(4,_),(5,_),(6,_),(7,_),(8,_),(21,_)]) ⟨rfl,rfl,rfl,rfl,rfl,rfl,rfl,trivial⟩ ?_)
   refine zap rfl (fun hc21=>?_) (fun hc21=>?_)
   ·have hf:(zcH (v.opens.filter (rch c s.height))) x=false:=by simpa using hc21
    have hnx:bayN (zcH (v.opens.filter (rch c s.height))) (x+1).toNat=L:=by rw [zlR g0,←g2,zq9 hf]
    refine za8 rfl ?_
    refine zaa ?_
    refine gk_y rfl rfl (zaf rfl) ?_
    refine gk_y rfl rfl (zaY rfl rfl (by omega) (by omega)) ?_
    refine gk_y rfl rfl (zad rfl) ?_
    refine zag (zae (T':=[(3,_),(4,_),(5,_),(6,_),(7,_),(8,_)]) ⟨rfl,rfl,rfl,rfl,rfl,rfl,trivial⟩ ?_)
    exact za1 (x+1,_,_,_) ⟨rfl,rfl,rfl,rfl,rfl,rfl,trivial⟩ rfl ⟨by omega,by omega,hnx.symm,by first | omega | (rw [List.length_set]; omega) | (rw [List.length_append]; simp only [List.length_cons,List.length_nil]; omega)⟩ (by simp only []; omega)
   ·have hf:(zcH (v.opens.filter (rch c s.height))) x=true:=by simpa using hc21
    refine zaq ?_
    refine zac ?_
    refine zaa ?_
    refine gk_y rfl rfl (zaf rfl) ?_
    refine gk_y rfl rfl (zaV (Tryz.underlying46) rfl) ?_
    refine gk_y rfl rfl (zad rfl) ?_
    refine zag (zae (T':=[(3,_),(4,_),(5,_),(6,_),(7,_),(8,_),(9,_)]) ⟨rfl,rfl,rfl,rfl,rfl,rfl,rfl,trivial⟩ ?_)
    refine zac ?_
    refine zbb 12 (fun _=>mixed) (by kernel_rfl) ?_
    refine ph_y (zaf rfl) ?_
    refine ph_y (zc6 rfl rfl) ?_
    refine ph_y (zaf rfl) ?_
    refine zaH rfl rfl (fun hgd=>by(try rw [hgd]); have hgd2:=of_decide_eq_true hgd; exact(zaf rfl)) ?_
    refine zaH rfl rfl (fun hgd=>by(try rw [hgd]); have hgd2:=of_decide_eq_true hgd; exact(zaf rfl)) ?_
    refine zaH rfl rfl (fun hgd=>by(try rw [hgd]); have hgd2:=of_decide_eq_true hgd; exact(zfV rfl rfl (by omega) (by omega))) ?_
    refine zaH rfl rfl (fun hgd=>by(try rw [hgd]); have hgd2:=of_decide_eq_true hgd; exact(zaE se46 rfl rfl (fun _ hw=>(zam zax (hw.has (p:=0) rfl))) (by omega) (by omega))) ?_
    refine zaH rfl rfl (fun hgd=>by(try rw [hgd]); have hgd2:=of_decide_eq_true hgd; exact(zbh zgm rfl (fun w hw=>zaO (i:=((L.length:Int) - 1)) (zam zax (hw.has (p:=0) rfl)) (by omega) (by omega)))) ?_
    refine zaH rfl rfl (fun hgd=>by(try rw [hgd]); have hgd2:=of_decide_eq_true hgd; exact(zbn tf3 rfl (fun _ hw=>(zam zax (hw.has (p:=0) rfl))) (by omega) (by omega) rfl)) ?_
    refine zaH rfl rfl (fun hgd=>by(try rw [hgd]); have hgd2:=of_decide_eq_true hgd; exact(zaf rfl)) ?_
    refine zaH rfl rfl (fun hgd=>by(try rw [hgd]); have hgd2:=of_decide_eq_true hgd; exact(zbL rfl rfl)) ?_
    refine ph_y (zaX rfl rfl rfl) ?_
    refine zag (zae (T':=[(3,_),(4,_),(5,_),(6,_),(7,_),(8,_),(9,_),(35,_)]) ⟨rfl,rfl,rfl,rfl,rfl,rfl,rfl,rfl,trivial⟩ ?_)
    refine zap rfl (fun hc35=>?_) (fun hc35=>?_)
    ·simp only [Bool.and_eq_true,decide_eq_true_eq] at hc35
     have hnx:bayN (zcH (v.opens.filter (rch c s.height))) (x+1).toNat=L.set ((L.length:Int) - 1).toNat { (L.getD ((L.length:Int) - 1).toNat default) with to:=x+1 }:=by rw [zlR g0,←g2,zq8 hf (by omega) hc35.2]
     refine zaa ?_
     refine gk_y rfl rfl (zaf rfl) ?_
     refine gk_y rfl rfl (zaf rfl) ?_
     refine gk_y rfl rfl (zfV rfl rfl (by omega) (by omega)) ?_
     refine gk_y rfl rfl (zaf rfl) ?_
     refine gk_y rfl rfl (zaY rfl rfl (by omega) (by omega)) ?_
     refine gk_y rfl rfl (zaE se46 rfl rfl (fun _ hw=>(zam zax (hw.has (p:=0) rfl))) (by omega) (by omega)) ?_
     refine gk_y rfl rfl (zbh zgm rfl (fun w hw=>zaO (i:=((L.length:Int) - 1)) (zam zax (hw.has (p:=0) rfl)) (by omega) (by omega))) ?_
     refine zfG (x':=({ (L.getD (((L.length:Int) - 1)).toNat default) with to:=(x+1) }:Crs)) 0 zax tf3 rfl rfl (vs:=[_]) rfl rfl (by decide) rfl rfl (by omega) (by omega) ?_
     refine zag (zae (T':=[(3,_),(4,_),(5,_),(6,_),(7,_),(8,_)]) ⟨rfl,rfl,rfl,rfl,rfl,rfl,trivial⟩ ?_)
     refine zae (T':=[(3,_),(4,_),(5,_),(6,_),(7,.slice rb (L.set ((L.length:Int) - 1).toNat { (L.getD ((L.length:Int) - 1).toNat default) with to:=x+1 }).length rc),(8,_)]) ⟨rfl,rfl,rfl,rfl,(by rw [List.length_set]; rfl),rfl,trivial⟩ ?_
     refine zaa ?_
     refine gk_y rfl rfl (zaf rfl) ?_
     refine gk_y rfl rfl (zaY rfl rfl (by omega) (by omega)) ?_
     refine gk_y rfl rfl (zad rfl) ?_
     refine zag (zae (T':=[(3,_),(4,_),(5,_),(6,_),(7,_),(8,_)]) ⟨rfl,rfl,rfl,rfl,rfl,rfl,trivial⟩ ?_)
     exact za1 (x+1,rb,rc,(L.set ((L.length:Int) - 1).toNat { (L.getD ((L.length:Int) - 1).toNat default) with to:=x+1 })) ⟨rfl,rfl,rfl,rfl,rfl,rfl,trivial⟩ rfl ⟨by omega,by omega,hnx.symm,by first | omega | (rw [List.length_set]; omega) | (rw [List.length_append]; simp only [List.length_cons,List.length_nil]; omega)⟩ (by simp only []; omega)
    ·simp only [Bool.and_eq_false_iff,decide_eq_false_iff_not] at hc35
     have hnx:bayN (zcH (v.opens.filter (rch c s.height))) (x+1).toNat=L++[⟨x,x+1⟩]:=by rw [zlR g0,←g2,zti hf (fun h=>by rcases hc35 with h1 | h1 <;> first | exact h1 | omega)]
     refine zaa ?_
     refine gk_y rfl rfl (zaf rfl) ?_
     refine gk_y rfl rfl (zaf rfl) ?_
     refine gk_y rfl rfl (zaf rfl) ?_
     refine gk_y rfl rfl (zaY rfl rfl (by omega) (by omega)) ?_
     refine gk_y rfl rfl (zaI rfl (zfy _ _)) ?_
     refine zaG rfl rfl (zaD rfl (zo1 _ _) zax rfl) fun b48=>?_
     refine zb4 (m:=[(⟨x,(x+1)⟩:Crs)]) 1 af46 zax rfl rfl rfl rfl (fun _ hw=>(zam zax (hw.has (p:=0) rfl))) (by first | omega | (simp only [List.length_cons,List.length_nil]; omega)) (by first | (unfold maxLen; omega) | (simp only [List.length_cons,List.length_nil,maxLen]; omega)) fun a49 c49=>?_
     refine gk_y rfl rfl (zad rfl) ?_
     refine zag (zae (T':=[(3,_),(4,_),(5,_),(6,_),(7,_),(8,_)]) ⟨rfl,rfl,rfl,rfl,rfl,rfl,trivial⟩ ?_)
     refine zaa ?_
     refine gk_y rfl rfl (zaf rfl) ?_
     refine gk_y rfl rfl (zaY rfl rfl (by omega) (by omega)) ?_
     refine gk_y rfl rfl (zad rfl) ?_
     refine zag (zae (T':=[(3,_),(4,_),(5,_),(6,_),(7,_),(8,_)]) ⟨rfl,rfl,rfl,rfl,rfl,rfl,trivial⟩ ?_)
     refine zaK 0 rfl ?_
     exact za1 (x+1,_,_,_) ⟨rfl,rfl,rfl,rfl,rfl,rfl,trivial⟩ rfl ⟨by omega,by omega,hnx.symm,by first | omega | (rw [List.length_set]; omega) | (rw [List.length_append]; simp only [List.length_cons,List.length_nil]; omega)⟩ (by simp only []; omega)
  ·have hc13:=of_decide_eq_false hc13
   have hend:L=(zcW (rch c s.height) v):=by rw [g2,show x=v.length from by omega]; rfl
   refine za8 rfl ?_
   refine zac ?_
   refine zaa ?_
   refine gk_y rfl rfl (zaf rfl) ?_
   refine gk_y rfl rfl (zad rfl) ?_
   refine zag (zae (T':=[(6,_)]) ⟨rfl,trivial⟩ ?_)
   refine zaw ?_
   refine zbd (rb,rc) 0 (zaC rfl (zau rfl)) ?_ (by rw [hend]; rfl)
   rw [hend] <;> rfl
theorem zki (b:Option Addr) (bcap:Nat) (v:Wll) (a:Option Addr) (cap:Nat) (s:Sht) (c:Crs) (B:List Crs) (w:World) (hB:(zcW (rch c s.height) v)=B) (hv:Has w (zaW b 5 zba v.opens)) (hl:Has w (Ints a s.heights)) (hF:WallF v s.height) (hh:0≤s.height∧s.height≤3000) :
  Calls Tryz.prog 29 #[.agg #[.string v.name,.string v.sheet,.int .i64 v.length,.slice b v.opens.length bcap],.agg #[.string s.name,.int .i64 s.base,.int .i64 s.batter,.int .i64 s.height,.int .i64 s.skin,.slice a s.heights.length cap,.int .i64 s.least,.int .i64 s.lap,.int .i64 s.run,.int .i64 s.every,.int .i64 s.at_,.int .i64 s.footing,.int .i64 s.spread,.int .u8 s.cope,.int .i64 s.tall,.int .i64 s.short,.int .i64 s.thick,.int .i64 s.low,.int .i64 s.high,.int .i64 s.rood],.agg #[.int .i64 c.frm,.int .i64 c.to]] w (zcU (fun z:Option Addr×Nat=>.slice z.1 B.length z.2) (fun z=>Row z.1 2 z.2 50 zbq B) w):=by
 subst hB
 exact zuB b bcap v a cap s c w hv hl hF hh
end Go.Proofs.YtdcfcfhmkfkgmaaGreatDoor
namespace Go.Proofs.YtdcfcfhmkfkgmaaGreatDoor
open Go.K Go.Stn Go.Pln Go.RowKit
theorem zuT {c:Cx} {ds:List Deferred} {H:List Res} {T:List (Nat×Value)} {o:Oper} {k:IntKind} {n m:Int} (h:Y c ds H T o (.int k n)) (e:n=m):Y c ds H T o (.int k m):=by subst e; exact h
theorem ztY {n:Int} (h0:0≤n) (h1:n≤1000000):∃ q:Int,IntKind.i64.wrap (Int.tdiv n 2)=q∧q=Int.tdiv n 2∧0≤q∧q≤n:=by
 have h:=Int.tdiv_eq_ediv_of_nonneg (b:=2) h0
 have e:IntKind.i64.wrap (Int.tdiv n 2)=Int.tdiv n 2:=zeA (by omega) (by omega)
 exact⟨_,e,rfl,by omega,by omega⟩
end Go.Proofs.YtdcfcfhmkfkgmaaGreatDoor
namespace Go.Pln
open Go Go.K Go.RowKit Go.Stn
def insB (x:Int) (b:Crs):Bool:=decide (b.frm < x)&&decide (x < b.to)
def zgt (x:Int) (bs:List Crs):List Int:=bs.flatMap fun b=>if insB x b=true then [x] else []
theorem zk5 {x:Int}:∀ {m:List Crs},(∀ c∈m,x≤c.frm)→zgt x m=[]
 | [],_=>rfl
 | c :: r,h=>by
  have h1:insB x c=false:=by unfold insB; rw [decide_eq_false (by have:=h c (List.mem_cons_self ..); omega)]; rfl
  have h2:=zk5 (m:=r) fun d hd=>h d (List.mem_cons_of_mem _ hd)
  unfold zgt at h2 ⊢
  rw [List.flatMap_cons,h2,h1]; rfl
theorem zk6 {f:Int→Bool} {hi x:Int}:∀ {lo:Int} {m:List Crs},Runs f hi lo m→zgt x m=if thrT m x=true then [x] else []
 | _,[],_=>rfl
 | lo,c :: r,h=>by
  obtain⟨_,_,_,_,_,_,h7⟩:=h
  have ih:=zk6 (x:=x) h7
  have e:thrT (c :: r) x=(insB x c||thrT r x):=rfl
  have e2:zgt x (c :: r)=(if insB x c=true then [x] else [])++zgt x r:=rfl
  rw [e,e2]
  cases hc:insB x c with
  | false=>rw [Bool.false_or,ih]; rfl
  | true=>
   have hn:zgt x r=[]:=zk5 fun d hd=>by
    have h1:=(zeK h7 d hd).1
    unfold insB at hc
    simp only [Bool.and_eq_true,decide_eq_true_eq] at hc
    omega
   rw [hn]; rfl
theorem zpV {x j:Int} {m:List Crs} (h0:0≤j) (h:j < (m.length:Int)):zgt x (m.take (j+1).toNat)=zgt x (m.take j.toNat)++(if insB x (m.getD j.toNat default)=true then [x] else []):=by
 rw [show(j+1).toNat=j.toNat+1 from by omega,List.take_add_one,List.getElem?_eq_getElem (by omega),List.getD_eq_getElem?_getD,List.getElem?_eq_getElem (by omega)]
 unfold zgt
 rw [List.flatMap_append]
 simp
theorem znm (x:Int):∀ m:List Crs,(zgt x m).length≤m.length
 | []=>Nat.le_refl _
 | c :: r=>by
  have e2:zgt x (c :: r)=(if insB x c=true then [x] else [])++zgt x r:=rfl
  have:=znm x r
  rw [e2,List.length_append,List.length_cons]
  cases insB x c <;> simp <;> omega
theorem zuM {s:Sht} {i:Int} (h0:0≤i) (h1:i < ((zaj s).length:Int)) (hb:∀ j:Nat,(j:Int) < i→decide (s.at_≤((zaj s).getD j default).frm)=false) (hh:s.at_≤((zaj s).getD i.toNat default).frm):thrI s=i:=
 zcs h0 h1 hb (decide_eq_true hh)
theorem zso {s:Sht} (hb:∀ j:Nat,(j:Int) < ((zaj s).length:Int)→decide (s.at_≤((zaj s).getD j default).frm)=false):thrI s = -1:=
 zck fun j hj=>hb j (by omega)
def altH (s:Sht) (n:Int):Int:=if n % 2=1 then zdD s else s.tall
theorem zte (s:Sht) (n:Int):altH s (n+1+1)=altH s n:=by unfold altH; rw [show(n+1+1) % 2=n % 2 from by omega]
theorem zq4 (s:Sht):altH s 0=s.tall:=rfl
theorem ztd (s:Sht):altH s (0+1)=zdD s:=rfl
theorem zoR {s:Sht} {n:Int} (h:s.cope=3) (h2:n % 2=1):altH s n=s.short:=by unfold altH zdD; rw [if_pos h2,if_pos h]
theorem zq3 {s:Sht} {n:Int} (h:¬ (s.cope=3∧n % 2=1)):altH s n=s.tall:=by
 unfold altH zdD
 by_cases h2:n % 2=1
 ·rw [if_pos h2,if_neg (fun hq=>h ⟨hq,h2⟩)]
 ·rw [if_neg h2]
end Go.Pln
namespace Go.Pln
open Go Go.K Go.RowKit Go.Stn
theorem zoP {f a k:Int} (ha:0≤a∧a≤300000000) (hk:0≤k∧k≤3000) (h0:0≤f) (h1:f+a*k≤90000000000000):W (f+W (a*k))=f+a*k:=by
 have hm:=zc7 ha.1 ha.2 hk.1 hk.2
 rw [zbr (n:=a*k) (by omega) (by omega),zbr (by omega) (by omega)]
theorem zr6 {s:Sht} (hs:za4 s=true) {c:Crs} (hc:0≤c.frm∧c.frm < c.to∧c.to≤s.height) {f a:Int} (ha:0≤a∧a≤300000000) (h0:0≤f) (h1:f+a*zcY s c≤90000000000000) (hw:2*s.skin < zb5 s c.frm) :
  W (f+W (a*W (2*s.skin)))=f+a*zcY s c:=by
 have hk:=zd5 hs hc
 have hsk:=(zaZ hs).skin
 have e:zcY s c=2*s.skin:=by unfold zcY; omega
 rw [e] at h1 hk ⊢
 rw [zbr (n:=2*s.skin) (by omega) (by omega)]
 exact zoP ha hk h0 h1
theorem zqx {s:Sht} (hs:za4 s=true) {c:Crs} (hc:0≤c.frm∧c.frm < c.to∧c.to≤s.height) {h a:Int} (ha:0≤a∧a≤300000000) (h0:0≤h) (h1:h+a*zct s c≤90000000000000) (hw:2*s.skin < zb5 s c.frm) :
  W (h+W (a*W (zb5 s c.frm - W (2*s.skin))))=h+a*zct s c:=by
 have hk:=zdV hs hc
 have hsk:=(zaZ hs).skin
 have e:zct s c=zb5 s c.frm - 2*s.skin:=by unfold zct; omega
 rw [e] at h1 hk ⊢
 rw [zbr (n:=2*s.skin) (by omega) (by omega),zbr (n:=zb5 s c.frm - 2*s.skin) (by omega) (by omega)]
 exact zoP ha hk h0 h1
theorem zr7 {s:Sht} (hs:za4 s=true) {c:Crs} (hc:0≤c.frm∧c.frm < c.to∧c.to≤s.height) {f a:Int} (ha:0≤a∧a≤300000000) (h0:0≤f) (h1:f+a*zcY s c≤90000000000000) (hw:¬ 2*s.skin < zb5 s c.frm) :
  W (f+W (a*zb5 s c.frm))=f+a*zcY s c:=by
 have hk:=zd5 hs hc
 have e:zcY s c=zb5 s c.frm:=by unfold zcY; omega
 rw [e] at h1 hk ⊢
 exact zoP ha hk h0 h1
theorem zqy {s:Sht} {c:Crs} {h a:Int} (hw:¬ 2*s.skin < zb5 s c.frm):h=h+a*zct s c:=by
 have e:zct s c=0:=by unfold zct; omega
 rw [e,Int.mul_zero,Int.add_zero]
end Go.Pln
namespace Go.Proofs.YtdcfcfhmkfkgmaaGreatDoor
open Go.K Go.Stn Go.Pln Go.RowKit
theorem en29:En Tryz.prog 29:=za7 Tryz.func29 (by kernel_rfl) (by kernel_rfl)
set_option maxRecDepth 100000 in
set_option maxHeartbeats 8000000 in
theorem ziz (b:Option Addr) (bcap:Nat) (v:Wll) (a:Option Addr) (cap:Nat) (s:Sht) (w:World) (hv:Has w (zaW b 5 zba v.opens)) (hl:Has w (Ints a s.heights)) (hF:WallF v s.height) (hsp:za4 s=true) :
  Calls Tryz.prog 33 #[.agg #[.string v.name,.string v.sheet,.int .i64 v.length,.slice b v.opens.length bcap],.agg #[.string s.name,.int .i64 s.base,.int .i64 s.batter,.int .i64 s.height,.int .i64 s.skin,.slice a s.heights.length cap,.int .i64 s.least,.int .i64 s.lap,.int .i64 s.run,.int .i64 s.every,.int .i64 s.at_,.int .i64 s.footing,.int .i64 s.spread,.int .u8 s.cope,.int .i64 s.tall,.int .i64 s.short,.int .i64 s.thick,.int .i64 s.low,.int .i64 s.high,.int .i64 s.rood]] w (zcU (fun z:Option Addr×Nat=>.tuple #[.int .i64 (zi2 s),.slice z.1 (thrL v s).length z.2]) (fun z=>Row z.1 1 z.2 3 Go.Stn.encI (thrL v s)) w):=by
 have hnm:=zaZ hsp
 have htop:=hnm.height
 have hlen:=hF.len
 have hncr:=zcv hsp
 refine zan (vs:=[_,_]) Tryz.func33 rfl rfl (Nat.le_of_ble_eq_true rfl) ?_
 refine zac ?_
 refine zaa ?_
 refine zaG rfl rfl (za3 (vs:=[_,_,_,_]) rfl rfl) fun b2=>?_
 refine zaG rfl rfl (za3 (vs:=[_,_,_,_,_,_,_,_,_,_,_,_,_,_,_,_,_,_,_,_]) rfl rfl) fun b3=>?_
 refine gk_y rfl rfl (zad rfl) ?_
 refine gk_y rfl rfl (zad rfl) ?_
 refine zag (zae (T':=[(2,_),(3,_),(4,_),(5,_)]) ⟨rfl,rfl,rfl,rfl,trivial⟩ ?_)
 refine zac ?_
 refine zaa ?_
 refine gk_y rfl rfl (zat 0 tf37 rfl rfl (vs:=[_,_,_,_,_,_,_,_,_,_,_,_,_,_,_,_,_,_,_,_]) rfl rfl) ?_
 refine zaG rfl rfl (zbm en21 rfl (fun w hw=>zg2 _ _ s w (Rd.has (Has.rd hl) hw) hnm)) fun p13=>?_
 refine gk_y rfl rfl (zad rfl) ?_
 refine zag (zae (T':=[(2,_),(3,_),(4,_),(5,_),(6,_)]) ⟨rfl,rfl,rfl,rfl,rfl,trivial⟩ ?_)
 refine zac ?_
 refine zaa ?_
 refine gk_y rfl rfl (zad rfl) ?_
 refine zag (zae (T':=[(2,_),(3,_),(4,_),(5,_),(6,_),(7,_)]) ⟨rfl,rfl,rfl,rfl,rfl,rfl,trivial⟩ ?_)
 refine zac ?_
 refine zas ?_
 refine zbf (X:=Int) (fun(i:Int)=>[(2,.pointer (some ⟨b2,0,none⟩)),(3,.pointer (some ⟨b3,0,none⟩)),(4,.int .i64 0),(5,.slice none 0 0),(6,.slice p13.1 (zaj s).length p13.2),(7,.int .i64 i)]) (fun(i:Int)=>[Row p13.1 2 p13.2 50 zbq (zaj s),Box b3 [.string s.name,.int .i64 s.base,.int .i64 s.batter,.int .i64 s.height,.int .i64 s.skin,.slice a s.heights.length cap,.int .i64 s.least,.int .i64 s.lap,.int .i64 s.run,.int .i64 s.every,.int .i64 s.at_,.int .i64 s.footing,.int .i64 s.spread,.int .u8 s.cope,.int .i64 s.tall,.int .i64 s.short,.int .i64 s.thick,.int .i64 s.low,.int .i64 s.high,.int .i64 s.rood] 37,Box b2 [.string v.name,.string v.sheet,.int .i64 v.length,.slice b v.opens.length bcap] 65]) (fun(i:Int)=>(0≤i∧i≤(zaj s).length∧∀ j:Nat,(j:Int) < i→decide (s.at_≤((zaj s).getD j default).frm)=false)) (fun(i:Int)=>((zaj s).length - i).toNat) 0 ⟨rfl,rfl,rfl,rfl,rfl,rfl,trivial⟩ rfl ?_ ?_
 ·exact⟨by omega,by omega,fun j hj=>by omega⟩
 ·rintro i hI
  obtain⟨g0,g1,g2⟩:=hI
  refine zac ?_
  refine zac ?_
  refine zbb 14 (fun _=>mixed) (by kernel_rfl) ?_
  refine ph_y (zaf rfl) ?_
  refine ph_y (zaf rfl) ?_
  refine ph_y (zaV (Tryz.underlying46) rfl) ?_
  refine ph_y (zbw rfl rfl) ?_
  refine ph_y (zaf rfl) ?_
  refine zaH rfl rfl (fun hgd=>by(try rw [hgd]); have hgd2:=of_decide_eq_true hgd; exact(zaf rfl)) ?_
  refine zaH rfl rfl (fun hgd=>by(try rw [hgd]); have hgd2:=of_decide_eq_true hgd; exact(zaf rfl)) ?_
  refine zaH rfl rfl (fun hgd=>by(try rw [hgd]); have hgd2:=of_decide_eq_true hgd; exact(zaE se46 rfl rfl (fun _ hw=>(zam zax (hw.has (p:=0) rfl))) (by omega) (by omega))) ?_
  refine zaH rfl rfl (fun hgd=>by(try rw [hgd]); have hgd2:=of_decide_eq_true hgd; exact(zbh zhd rfl (fun w hw=>zaO (i:=i) (zam zax (hw.has (p:=0) rfl)) (by omega) (by omega)))) ?_
  refine zaH rfl rfl (fun hgd=>by(try rw [hgd]); have hgd2:=of_decide_eq_true hgd; exact(zbn tf3 rfl (fun _ hw=>(zam zax (hw.has (p:=0) rfl))) (by omega) (by omega) rfl)) ?_
  refine zaH rfl rfl (fun hgd=>by(try rw [hgd]); have hgd2:=of_decide_eq_true hgd; exact(zab zjU rfl)) ?_
  refine zaH rfl rfl (fun hgd=>by(try rw [hgd]); have hgd2:=of_decide_eq_true hgd; exact(zah 1 tf3 rfl rfl rfl)) ?_
  refine zaH rfl rfl (fun hgd=>by(try rw [hgd]); have hgd2:=of_decide_eq_true hgd; exact(zbw rfl rfl)) ?_
  refine ph_y (zaX rfl rfl rfl) ?_
  refine zag (zae (T':=[(2,_),(3,_),(4,_),(5,_),(6,_),(7,_),(27,_)]) ⟨rfl,rfl,rfl,rfl,rfl,rfl,rfl,trivial⟩ ?_)
  refine zap rfl (fun hc27=>?_) (fun hc27=>?_)
  ·simp only [Bool.and_eq_true,decide_eq_true_eq] at hc27
   have hbel:=zdP (f:=fun j=>decide (s.at_≤((zaj s).getD j default).frm)) g0 g2 (decide_eq_false (by omega))
   refine zaq ?_
   refine zas ?_
   refine zaa ?_
   refine gk_y rfl rfl (zaf rfl) ?_
   refine gk_y rfl rfl (zaY rfl rfl (by omega) (by omega)) ?_
   refine gk_y rfl rfl (zad rfl) ?_
   refine zag (zae (T':=[(2,_),(3,_),(4,_),(5,_),(6,_),(7,_)]) ⟨rfl,rfl,rfl,rfl,rfl,rfl,trivial⟩ ?_)
   exact za1 (i+1) ⟨rfl,rfl,rfl,rfl,rfl,rfl,trivial⟩ rfl ⟨by omega,by omega,hbel⟩ (by omega)
  ·simp only [Bool.and_eq_false_iff,decide_eq_false_iff_not] at hc27
   refine za8 rfl ?_
   refine zac ?_
   refine zac ?_
   refine zbb 9 (fun _=>mixed) (by kernel_rfl) ?_
   refine ph_y (zaf rfl) ?_
   refine ph_y (zaf rfl) ?_
   refine ph_y (zaV (Tryz.underlying46) rfl) ?_
   refine ph_y (zbL rfl rfl) ?_
   refine ph_y (zaf rfl) ?_
   refine zaz rfl rfl (fun hgd=>by(try rw [hgd]); exact(zab zjh rfl)) ?_
   refine zaz rfl rfl (fun hgd=>by(try rw [hgd]); exact(zah 1 tf3 rfl rfl rfl)) ?_
   refine zaz rfl rfl (fun hgd=>by(try rw [hgd]); exact(zbL rfl rfl)) ?_
   refine ph_y (zaR rfl rfl rfl) ?_
   refine zag (zae (T':=[(2,_),(3,_),(4,_),(5,_),(6,_),(7,_),(38,_)]) ⟨rfl,rfl,rfl,rfl,rfl,rfl,rfl,trivial⟩ ?_)
   refine zap rfl (fun hc38=>?_) (fun hc38=>?_)
   ·have hno:zi3 s=true:=by unfold zi3; simp only [Bool.or_eq_true,decide_eq_true_eq] at hc38 ⊢; rcases hc38 with h | h <;> first | (exact .inl h) | (exact .inr (by rw [zso fun j hj=>g2 j (by omega)]; decide))
    have e1:zi2 s = -1:=if_pos hno
    have e2:thrL v s=[]:=if_pos hno
    refine zbB 3 Go.Stn.encI 1 ?_
    refine zac ?_
    refine zaa ?_
    refine gk_y rfl rfl (zad rfl) ?_
    refine gk_y rfl rfl (zad rfl) ?_
    refine zag (zae (T':=[(2,_),(3,_),(4,_),(5,_),(6,_),(7,_)]) ⟨rfl,rfl,rfl,rfl,rfl,rfl,trivial⟩ ?_)
    refine zaw ?_
    refine zbd (none,0) 0 (zc2 rfl (zau rfl) (zau rfl)) ?_ (by rw [e2]; rfl)
    rw [e1,e2] <;> rfl
   ·simp only [Bool.or_eq_false_iff,decide_eq_false_iff_not] at hc38
    obtain⟨hil,hne⟩:=hc38
    have hti:thrI s=i:=zuM g0 (by omega) g2 (by omega)
    have hno:zi3 s=false:=by unfold zi3; rw [hti]; simp only [Bool.or_eq_false_iff,decide_eq_false_iff_not]; omega
    have e1:zi2 s=i:=(if_neg (by rw [hno]; exact Bool.false_ne_true)).trans hti
    have e2:thrL v s=thrX (zbg v ((zaj s).getD i.toNat default)) v.length s.every (s.every.tdiv 2):=by unfold thrL; rw [if_neg (by rw [hno]; exact Bool.false_ne_true),hti]
    have hbn:(((zbg v ((zaj s).getD i.toNat default))).length:Int)≤100000:=zek hF (zgu ((zaj s).getD i.toNat default))
    have hev:=zjQ hsp hne
    have hci:=zpc hnm g0 (by omega)
    have hBR:zcW (rch ((zaj s).getD i.toNat default) s.height) v=(zbg v ((zaj s).getD i.toNat default)):=zmU (by omega)
    obtain⟨q2,hq2,hq2e,hq20,hq21⟩:=ztY (n:=s.every) (by omega) (by omega)
    have hRun:Runs (zcH (v.opens.filter (zgu ((zaj s).getD i.toNat default)))) v.length 0 (zbg v ((zaj s).getD i.toNat default)):=zdK hF (zgu ((zaj s).getD i.toNat default))
    refine zaq ?_
    refine zac ?_
    refine zbb 7 (fun _=>mixed) (by kernel_rfl) ?_
    refine ph_y (zat 2 tf65 rfl rfl (vs:=[_,_,_,_]) rfl rfl) ?_
    refine ph_y (zat 1 tf37 rfl rfl (vs:=[_,_,_,_,_,_,_,_,_,_,_,_,_,_,_,_,_,_,_,_]) rfl rfl) ?_
    refine ph_y (zaf rfl) ?_
    refine ph_y (zaf rfl) ?_
    refine ph_y (zaE se46 rfl rfl (fun _ hw=>(zam zax (hw.has (p:=0) rfl))) (by omega) (by omega)) ?_
    refine ph_y (zbv (vs:=[_,_]) tf50 rfl (fun _ hw=>(zam zax (hw.has (p:=0) rfl))) (by omega) (by omega) rfl) ?_
    refine zmr (zbm en29 rfl (fun w hw=>zki _ _ v _ _ s ((zaj s).getD i.toNat default) (zbg v ((zaj s).getD i.toNat default)) w hBR (Rd.has (Has.rd hv) hw) (Rd.has (Has.rd hl) hw) hF (by omega))) ?_
    intro p45
    refine zae (T':=[(2,_),(3,_),(4,_),(5,_),(7,_),(45,_)]) ⟨rfl,rfl,rfl,rfl,rfl,rfl,trivial⟩ ?_
    refine gk_y rfl rfl (zad rfl) ?_
    refine zag (zae (T':=[(2,_),(3,_),(4,_),(5,_),(7,_),(8,_)]) ⟨rfl,rfl,rfl,rfl,rfl,rfl,trivial⟩ ?_)
    refine zac ?_
    refine zaa ?_
    refine gk_y rfl rfl (zad rfl) ?_
    refine zag (zae (T':=[(2,_),(3,_),(4,_),(5,_),(7,_),(8,_),(9,_)]) ⟨rfl,rfl,rfl,rfl,rfl,rfl,rfl,trivial⟩ ?_)
    refine zac ?_
    refine zac ?_
    refine zaa ?_
    refine gk_y rfl rfl (zab zjh rfl) ?_
    refine gk_y rfl rfl (zah 2 tf3 rfl rfl rfl) ?_
    refine gk_y rfl rfl (zuT (zoI rfl rfl (by omega)) (by exact hq2)) ?_
    refine gk_y rfl rfl (zad rfl) ?_
    refine zag (zae (T':=[(2,_),(3,_),(4,_),(5,_),(7,_),(8,_),(9,_),(10,_)]) ⟨rfl,rfl,rfl,rfl,rfl,rfl,rfl,rfl,trivial⟩ ?_)
    refine zas ?_
    refine zbB 3 Go.Stn.encI 1 ?_
    refine zbf (X:=Int×Option Addr×Nat×List Int) (fun⟨x,rb,rc,N⟩=>[(2,.pointer (some ⟨b2,0,none⟩)),(3,.pointer (some ⟨b3,0,none⟩)),(4,.int .i64 0),(5,.slice none 0 0),(7,.int .i64 i),(8,.slice p45.1 (zbg v ((zaj s).getD i.toNat default)).length p45.2),(9,.slice rb N.length rc),(10,.int .i64 x)]) (fun⟨x,rb,rc,N⟩=>[Row rb 1 rc 3 Go.Stn.encI N,Row p45.1 2 p45.2 50 zbq (zbg v ((zaj s).getD i.toNat default)),Row p13.1 2 p13.2 50 zbq (zaj s),Box b3 [.string s.name,.int .i64 s.base,.int .i64 s.batter,.int .i64 s.height,.int .i64 s.skin,.slice a s.heights.length cap,.int .i64 s.least,.int .i64 s.lap,.int .i64 s.run,.int .i64 s.every,.int .i64 s.at_,.int .i64 s.footing,.int .i64 s.spread,.int .u8 s.cope,.int .i64 s.tall,.int .i64 s.short,.int .i64 s.thick,.int .i64 s.low,.int .i64 s.high,.int .i64 s.rood] 37,Box b2 [.string v.name,.string v.sheet,.int .i64 v.length,.slice b v.opens.length bcap] 65]) (fun⟨x,rb,rc,N⟩=>(0≤x∧(N.length:Int)≤x∧x < 200001∧N++thrX (zbg v ((zaj s).getD i.toNat default)) v.length s.every x=thrL v s)) (fun⟨x,rb,rc,N⟩=>(v.length - x).toNat) (q2,none,0,[]) ⟨rfl,rfl,rfl,rfl,rfl,rfl,rfl,rfl,trivial⟩ rfl ?_ ?_
    ·exact⟨by omega,by simp; omega,by omega,by rw [e2,hq2e]; rfl⟩
    ·rintro ⟨x,rb,rc,N⟩ hI
     obtain⟨h0,h1,h2,h3⟩:=hI
     refine zac ?_
     refine zac ?_
     refine zaa ?_
     refine gk_y rfl rfl (zaf rfl) ?_
     refine gk_y rfl rfl (zab zfS rfl) ?_
     refine gk_y rfl rfl (zah 4 tf3 rfl rfl rfl) ?_
     refine gk_y rfl rfl (zbw rfl rfl) ?_
     refine zag (zae (T':=[(2,_),(3,_),(4,_),(5,_),(7,_),(8,_),(9,_),(10,_),(52,_)]) ⟨rfl,rfl,rfl,rfl,rfl,rfl,rfl,rfl,rfl,trivial⟩ ?_)
     refine zap rfl (fun hc52=>?_) (fun hc52=>?_)
     ·have hc52:=of_decide_eq_true hc52
      have hst:=zlH (bs:=(zbg v ((zaj s).getD i.toNat default))) (e:=s.every) hev.1 hc52
      refine zaq ?_
      refine zac ?_
      refine zas ?_
      refine zac ?_
      refine zaa ?_
      refine gk_y rfl rfl (zad rfl) ?_
      refine zag (zae (T':=[(2,_),(3,_),(4,_),(5,_),(7,_),(8,_),(9,_),(10,_),(11,_)]) ⟨rfl,rfl,rfl,rfl,rfl,rfl,rfl,rfl,rfl,trivial⟩ ?_)
      refine zas ?_
      refine zbf (X:=Int×Option Addr×Nat×List Int) (fun⟨j,rb2,rc2,M⟩=>[(2,.pointer (some ⟨b2,0,none⟩)),(3,.pointer (some ⟨b3,0,none⟩)),(4,.int .i64 0),(5,.slice none 0 0),(7,.int .i64 i),(8,.slice p45.1 (zbg v ((zaj s).getD i.toNat default)).length p45.2),(9,.slice rb2 M.length rc2),(10,.int .i64 x),(11,.int .i64 j)]) (fun⟨j,rb2,rc2,M⟩=>[Row rb2 1 rc2 3 Go.Stn.encI M,Row p45.1 2 p45.2 50 zbq (zbg v ((zaj s).getD i.toNat default)),Row p13.1 2 p13.2 50 zbq (zaj s),Box b3 [.string s.name,.int .i64 s.base,.int .i64 s.batter,.int .i64 s.height,.int .i64 s.skin,.slice a s.heights.length cap,.int .i64 s.least,.int .i64 s.lap,.int .i64 s.run,.int .i64 s.every,.int .i64 s.at_,.int .i64 s.footing,.int .i64 s.spread,.int .u8 s.cope,.int .i64 s.tall,.int .i64 s.short,.int .i64 s.thick,.int .i64 s.low,.int .i64 s.high,.int .i64 s.rood] 37,Box b2 [.string v.name,.string v.sheet,.int .i64 v.length,.slice b v.opens.length bcap] 65]) (fun⟨j,rb2,rc2,M⟩=>(0≤j∧j≤(zbg v ((zaj s).getD i.toNat default)).length∧M=N++(zgt x ((zbg v ((zaj s).getD i.toNat default)).take j.toNat))∧(M.length:Int)≤N.length+j)) (fun⟨j,rb2,rc2,M⟩=>((zbg v ((zaj s).getD i.toNat default)).length - j).toNat) (0,rb,rc,N) ⟨rfl,rfl,rfl,rfl,rfl,rfl,rfl,rfl,rfl,trivial⟩ rfl ?_ ?_
      ·exact⟨by omega,by omega,by simp [zgt],by omega⟩
      ·rintro ⟨j,rb2,rc2,M⟩ hI
       obtain⟨k0,k1,k2,k3⟩:=hI
       refine zac ?_
       refine zac ?_
       refine zaa ?_
       refine gk_y rfl rfl (zaf rfl) ?_
       refine gk_y rfl rfl (zaf rfl) ?_
       refine gk_y rfl rfl (zaV (Tryz.underlying46) rfl) ?_
       refine gk_y rfl rfl (zbw rfl rfl) ?_
       refine zag (zae (T':=[(2,_),(3,_),(4,_),(5,_),(7,_),(8,_),(9,_),(10,_),(11,_),(60,_)]) ⟨rfl,rfl,rfl,rfl,rfl,rfl,rfl,rfl,rfl,rfl,trivial⟩ ?_)
       refine zap rfl (fun hc60=>?_) (fun hc60=>?_)
       ·have hc60:=of_decide_eq_true hc60
        have hhs:=zpV (x:=x) k0 hc60
        have hhl:=znm x ((zbg v ((zaj s).getD i.toNat default)).take j.toNat)
        rw [List.length_take] at hhl
        refine zaq ?_
        refine zac ?_
        refine zas ?_
        refine zac ?_
        refine zbb 16 (fun _=>mixed) (by kernel_rfl) ?_
        refine ph_y (zaf rfl) ?_
        refine ph_y (zaf rfl) ?_
        refine ph_y (zaE se46 rfl rfl (fun _ hw=>(zam zax (hw.has (p:=1) rfl))) (by omega) (by omega)) ?_
        refine ph_y (zbh zhd rfl (fun w hw=>zaO (i:=j) (zam zax (hw.has (p:=1) rfl)) (by omega) (by omega))) ?_
        refine ph_y (zbn tf3 rfl (fun _ hw=>(zam zax (hw.has (p:=1) rfl))) (by omega) (by omega) rfl) ?_
        refine ph_y (zaf rfl) ?_
        refine ph_y (zbw rfl rfl) ?_
        refine ph_y (zaf rfl) ?_
        refine zaH rfl rfl (fun hgd=>by(try rw [hgd]); have hgd2:=of_decide_eq_true hgd; exact(zaf rfl)) ?_
        refine zaH rfl rfl (fun hgd=>by(try rw [hgd]); have hgd2:=of_decide_eq_true hgd; exact(zaf rfl)) ?_
        refine zaH rfl rfl (fun hgd=>by(try rw [hgd]); have hgd2:=of_decide_eq_true hgd; exact(zaf rfl)) ?_
        refine zaH rfl rfl (fun hgd=>by(try rw [hgd]); have hgd2:=of_decide_eq_true hgd; exact(zaE se46 rfl rfl (fun _ hw=>(zam zax (hw.has (p:=1) rfl))) (by omega) (by omega))) ?_
        refine zaH rfl rfl (fun hgd=>by(try rw [hgd]); have hgd2:=of_decide_eq_true hgd; exact(zbh zgm rfl (fun w hw=>zaO (i:=j) (zam zax (hw.has (p:=1) rfl)) (by omega) (by omega)))) ?_
        refine zaH rfl rfl (fun hgd=>by(try rw [hgd]); have hgd2:=of_decide_eq_true hgd; exact(zbn tf3 rfl (fun _ hw=>(zam zax (hw.has (p:=1) rfl))) (by omega) (by omega) rfl)) ?_
        refine zaH rfl rfl (fun hgd=>by(try rw [hgd]); have hgd2:=of_decide_eq_true hgd; exact(zbw rfl rfl)) ?_
        refine ph_y (zaX rfl rfl rfl) ?_
        refine zag (zae (T':=[(2,_),(3,_),(4,_),(5,_),(7,_),(8,_),(9,_),(10,_),(11,_),(78,_)]) ⟨rfl,rfl,rfl,rfl,rfl,rfl,rfl,rfl,rfl,rfl,trivial⟩ ?_)
        refine zap rfl (fun hc78=>?_) (fun hc78=>?_)
        ·have hc78:insB x ((zbg v ((zaj s).getD i.toNat default)).getD j.toNat default)=true:=hc78
         refine zaa ?_
         refine gk_y rfl rfl (zaf rfl) ?_
         refine gk_y rfl rfl (zaf rfl) ?_
         refine zaG rfl rfl (zaD rfl (zo0 _) Go.Stn.encI_ok rfl) fun b81=>?_
         refine zb4 (m:=[x]) 1 af35 Go.Stn.encI_ok rfl rfl rfl rfl (fun _ hw=>(zam Go.Stn.encI_ok (hw.has (p:=0) rfl))) (by first | omega | (simp only [List.length_cons,List.length_nil]; omega)) (by first | (unfold maxLen; omega) | (simp only [List.length_cons,List.length_nil,maxLen]; omega)) fun a82 c82=>?_
         refine gk_y rfl rfl (zad rfl) ?_
         refine zag (zae (T':=[(2,_),(3,_),(4,_),(5,_),(7,_),(8,_),(9,_),(10,_),(11,_)]) ⟨rfl,rfl,rfl,rfl,rfl,rfl,rfl,rfl,rfl,trivial⟩ ?_)
         refine zaa ?_
         refine gk_y rfl rfl (zaf rfl) ?_
         refine gk_y rfl rfl (zaY rfl rfl (by omega) (by omega)) ?_
         refine gk_y rfl rfl (zad rfl) ?_
         refine zag (zae (T':=[(2,_),(3,_),(4,_),(5,_),(7,_),(8,_),(9,_),(10,_),(11,_)]) ⟨rfl,rfl,rfl,rfl,rfl,rfl,rfl,rfl,rfl,trivial⟩ ?_)
         refine zaK 0 rfl ?_
         exact za1 (j+1,_,_,_) ⟨rfl,rfl,rfl,rfl,rfl,rfl,rfl,rfl,rfl,trivial⟩ rfl ⟨by omega,by omega,by rw [hhs,if_pos hc78,k2,List.append_assoc],by first | omega | (rw [List.length_append]; simp only [List.length_cons,List.length_nil]; omega)⟩ (by simp only []; omega)
        ·have hc78:insB x ((zbg v ((zaj s).getD i.toNat default)).getD j.toNat default)=false:=hc78
         refine zaq ?_
         refine zaa ?_
         refine gk_y rfl rfl (zaf rfl) ?_
         refine gk_y rfl rfl (zaY rfl rfl (by omega) (by omega)) ?_
         refine gk_y rfl rfl (zad rfl) ?_
         refine zag (zae (T':=[(2,_),(3,_),(4,_),(5,_),(7,_),(8,_),(9,_),(10,_),(11,_)]) ⟨rfl,rfl,rfl,rfl,rfl,rfl,rfl,rfl,rfl,trivial⟩ ?_)
         exact za1 (j+1,rb2,rc2,M) ⟨rfl,rfl,rfl,rfl,rfl,rfl,rfl,rfl,rfl,trivial⟩ rfl ⟨by omega,by omega,by rw [hhs,if_neg (by rw [hc78]; exact Bool.false_ne_true),k2,List.append_nil],by omega⟩ (by simp only []; omega)
       ·have hc60:=of_decide_eq_false hc60
        have hM:M=N++(if thrT (zbg v ((zaj s).getD i.toNat default)) x=true then [x] else []):=by rw [k2,List.take_of_length_le (by omega),zk6 hRun]
        have hMl:(M.length:Int)≤N.length+1:=by rw [hM,List.length_append]; cases thrT (zbg v ((zaj s).getD i.toNat default)) x <;> simp <;> omega
        refine za8 rfl ?_
        refine zaa ?_
        refine gk_y rfl rfl (zaf rfl) ?_
        refine gk_y rfl rfl (zab zjh rfl) ?_
        refine gk_y rfl rfl (zah 3 tf3 rfl rfl rfl) ?_
        refine gk_y rfl rfl (zaY rfl rfl (by omega) (by omega)) ?_
        refine gk_y rfl rfl (zad rfl) ?_
        refine zag (zae (T':=[(2,_),(3,_),(4,_),(5,_),(7,_),(8,_),(9,_),(10,_)]) ⟨rfl,rfl,rfl,rfl,rfl,rfl,rfl,rfl,trivial⟩ ?_)
        exact za1 (x+s.every,rb2,rc2,M) ⟨rfl,rfl,rfl,rfl,rfl,rfl,rfl,rfl,trivial⟩ rfl ⟨by omega,by omega,by omega,by rw [hM,←h3,hst]; cases thrT (zbg v ((zaj s).getD i.toNat default)) x <;> simp⟩ (by simp only []; omega)
     ·have hc52:=of_decide_eq_false hc52
      have hend:=znW (bs:=(zbg v ((zaj s).getD i.toNat default))) (e:=s.every) hc52
      refine za8 rfl ?_
      refine zac ?_
      refine zaa ?_
      refine gk_y rfl rfl (zaf rfl) ?_
      refine gk_y rfl rfl (zaf rfl) ?_
      refine gk_y rfl rfl (zad rfl) ?_
      refine gk_y rfl rfl (zad rfl) ?_
      refine zag (zae (T':=[(4,_),(5,_)]) ⟨rfl,rfl,trivial⟩ ?_)
      refine zaw ?_
      refine zbd (rb,rc) 0 (zc2 rfl (zau rfl) (zau rfl)) ?_ (by rw [←h3,hend,List.append_nil]; rfl)
      rw [e1,←h3,hend,List.append_nil] <;> rfl
end Go.Proofs.YtdcfcfhmkfkgmaaGreatDoor
namespace Go.Proofs.YtdcfcfhmkfkgmaaGreatDoor
open Go.K Go.Stn Go.Pln Go.RowKit
theorem af82:AF Tryz.prog 82 88 3 24 [.int IntKind.i64 0,.int IntKind.i64 0,.int IntKind.i64 0]:=⟨Tryz.underlying82,by kernel_rfl,rfl⟩
theorem en67:En Tryz.prog 67:=za7 Tryz.func67 (by kernel_rfl) (by kernel_rfl)
theorem zjH (x0:Int) (x1:Int) (x2:Int) (w:World):(Instr.build 88 #[(0,.int .i64 x0),(1,.int .i64 x1),(2,.int .i64 x2)]).run Tryz.prog w=.ok (.agg #[.int .i64 x0,.int .i64 x1,.int .i64 x2]) w:=by kernel_rfl
theorem zve (x0_0:Int) (x0_1:Int) (x0_2:Int) (w:World):(Instr.buildSlice 82 1 #[(0,.agg #[.int .i64 x0_0,.int .i64 x0_1,.int .i64 x0_2])]).run Tryz.prog w=.ok (.slice (some ⟨w.heap.size,0,none⟩) 1 1) (w.alloc (.cells (([⟨x0_0,x0_1,x0_2⟩]:List (Cpe)).flatMap zcm).toArray 88)):=by kernel_rfl
set_option maxRecDepth 100000 in
set_option maxHeartbeats 1000000 in
theorem zwi (a:Option Addr) (cap:Nat) (s:Sht) (w:World) (_hl:Has w (Ints a s.heights)) :
  Calls Tryz.prog 67 #[.agg #[.string s.name,.int .i64 s.base,.int .i64 s.batter,.int .i64 s.height,.int .i64 s.skin,.slice a s.heights.length cap,.int .i64 s.least,.int .i64 s.lap,.int .i64 s.run,.int .i64 s.every,.int .i64 s.at_,.int .i64 s.footing,.int .i64 s.spread,.int .u8 s.cope,.int .i64 s.tall,.int .i64 s.short,.int .i64 s.thick,.int .i64 s.low,.int .i64 s.high,.int .i64 s.rood]] w (Pure (.agg #[.int .i64 s.height,.int .i64 s.height]) w):=by
 refine zan (vs:=[_]) Tryz.func67 rfl rfl (Nat.le_of_ble_eq_true rfl) ?_
 refine zac ?_
 refine zaa ?_
 refine zaG rfl rfl (za3 (vs:=[_,_,_,_,_,_,_,_,_,_,_,_,_,_,_,_,_,_,_,_]) rfl rfl) fun b1=>?_
 refine zaG rfl rfl (zaL tf50 (zs:=[_,_]) rfl) fun b2=>?_
 refine zag (zae (T':=[(1,_),(2,_)]) ⟨rfl,rfl,trivial⟩ ?_)
 refine zac ?_
 refine zaa ?_
 refine gk_y rfl rfl (zab zdC rfl) ?_
 refine gk_y rfl rfl (zah 1 tf3 rfl rfl rfl) ?_
 refine gk_y rfl rfl (zab zdC rfl) ?_
 refine gk_y rfl rfl (zah 1 tf3 rfl rfl rfl) ?_
 refine gk_y rfl rfl (zaI rfl (zfy _ _)) ?_
 refine zaA 0 tf50 rfl rfl (vs:=[_,_]) rfl rfl rfl rfl rfl ?_
 refine zag (zae (T':=[(2,_)]) ⟨rfl,trivial⟩ ?_)
 refine zaw ?_
 refine zay (zaC rfl (zbU (i:=0) (vs:=[_,_]) tf50 rfl rfl rfl rfl)) ?_
 rfl
set_option maxRecDepth 100000 in
set_option maxHeartbeats 8000000 in
theorem znK (b:Option Addr) (bcap:Nat) (v:Wll) (a:Option Addr) (cap:Nat) (s:Sht) (w:World) (hv:Has w (zaW b 5 zba v.opens)) (hl:Has w (Ints a s.heights)) (hF:WallF v s.height) (hsp:za4 s=true) :
  Calls Tryz.prog 34 #[.agg #[.string v.name,.string v.sheet,.int .i64 v.length,.slice b v.opens.length bcap],.agg #[.string s.name,.int .i64 s.base,.int .i64 s.batter,.int .i64 s.height,.int .i64 s.skin,.slice a s.heights.length cap,.int .i64 s.least,.int .i64 s.lap,.int .i64 s.run,.int .i64 s.every,.int .i64 s.at_,.int .i64 s.footing,.int .i64 s.spread,.int .u8 s.cope,.int .i64 s.tall,.int .i64 s.short,.int .i64 s.thick,.int .i64 s.low,.int .i64 s.high,.int .i64 s.rood]] w (zcU (fun z:Option Addr×Nat=>.slice z.1 (zbi v s).length z.2) (fun z=>Row z.1 3 z.2 88 zcm (zbi v s)) w):=by
 have hnm:=zaZ hsp
 have htop:=hnm.height
 have hlen:=hF.len
 have hcn:=zhV hF
 have hbn:((zbK v s).length:Int)≤100000:=zek hF (zj4 s.height)
 have hBR:=zoY (v:=v) (s:=s)
 refine zan (vs:=[_,_]) Tryz.func34 rfl rfl (Nat.le_of_ble_eq_true rfl) ?_
 refine zac ?_
 refine zaa ?_
 refine zaG rfl rfl (za3 (vs:=[_,_,_,_]) rfl rfl) fun b2=>?_
 refine zaG rfl rfl (za3 (vs:=[_,_,_,_,_,_,_,_,_,_,_,_,_,_,_,_,_,_,_,_]) rfl rfl) fun b3=>?_
 refine gk_y rfl rfl (zad rfl) ?_
 refine zag (zae (T':=[(2,_),(3,_),(4,_)]) ⟨rfl,rfl,rfl,trivial⟩ ?_)
 refine zac ?_
 refine zaa ?_
 refine gk_y rfl rfl (zad rfl) ?_
 refine zag (zae (T':=[(2,_),(3,_),(4,_),(5,_)]) ⟨rfl,rfl,rfl,rfl,trivial⟩ ?_)
 refine zac ?_
 refine zac ?_
 refine zaa ?_
 refine gk_y rfl rfl (zab zfb rfl) ?_
 refine gk_y rfl rfl (zah 0 tf5 rfl rfl rfl) ?_
 refine gk_y rfl rfl (zbL rfl rfl) ?_
 refine zag (zae (T':=[(2,_),(3,_),(4,_),(5,_),(13,_)]) ⟨rfl,rfl,rfl,rfl,rfl,trivial⟩ ?_)
 refine zap rfl (fun hc13=>?_) (fun hc13=>?_)
 ·have hno:s.cope=0:=by simpa using hc13
  have e1:zbi v s=[]:=if_pos hno
  refine zbB 88 zcm 3 ?_
  refine zac ?_
  refine zaa ?_
  refine gk_y rfl rfl (zad rfl) ?_
  refine zag (zae (T':=[(2,_),(3,_),(4,_),(5,_)]) ⟨rfl,rfl,rfl,rfl,trivial⟩ ?_)
  refine zaw ?_
  refine zbd (none,0) 0 (zaC rfl (zau rfl)) ?_ (by rw [e1]; rfl)
  rw [e1] <;> rfl
 ·have hno:¬ s.cope=0:=by simpa using hc13
  have e1:zbi v s=(zcP s (zbK v s)):=if_neg hno
  obtain⟨hth,htl,hoh⟩:=zlX hsp hno
  refine zaq ?_
  refine zac ?_
  refine zbb 5 (fun _=>mixed) (by kernel_rfl) ?_
  refine ph_y (zat 1 tf65 rfl rfl (vs:=[_,_,_,_]) rfl rfl) ?_
  refine ph_y (zat 0 tf37 rfl rfl (vs:=[_,_,_,_,_,_,_,_,_,_,_,_,_,_,_,_,_,_,_,_]) rfl rfl) ?_
  refine ph_y (zat 0 tf37 rfl rfl (vs:=[_,_,_,_,_,_,_,_,_,_,_,_,_,_,_,_,_,_,_,_]) rfl rfl) ?_
  refine ph_y (zaJ en67 rfl (fun w hw=>zwi _ _ s w (Rd.has (Has.rd hl) hw))) ?_
  refine zmr (zbm en29 rfl (fun w hw=>zki _ _ v _ _ s ⟨s.height,s.height⟩ (zbK v s) w hBR (Rd.has (Has.rd hv) hw) (Rd.has (Has.rd hl) hw) hF (by omega))) ?_
  intro p18
  refine zae (T':=[(3,_),(4,_),(5,_),(18,_)]) ⟨rfl,rfl,rfl,rfl,trivial⟩ ?_
  refine gk_y rfl rfl (zad rfl) ?_
  refine zag (zae (T':=[(3,_),(4,_),(5,_),(6,_)]) ⟨rfl,rfl,rfl,rfl,trivial⟩ ?_)
  refine zac ?_
  refine zac ?_
  refine zaa ?_
  refine gk_y rfl rfl (zad rfl) ?_
  refine zag (zae (T':=[(3,_),(4,_),(5,_),(6,_),(7,_)]) ⟨rfl,rfl,rfl,rfl,rfl,trivial⟩ ?_)
  refine zas ?_
  refine zbB 88 zcm 3 ?_
  refine zbf (X:=Int×Option Addr×Nat×List Cpe) (fun⟨i,ra,rc,M⟩=>[(3,.pointer (some ⟨b3,0,none⟩)),(4,.slice none 0 0),(5,.slice ra M.length rc),(6,.slice p18.1 (zbK v s).length p18.2),(7,.int .i64 i)]) (fun⟨i,ra,rc,M⟩=>[Row ra 3 rc 88 zcm M,Row p18.1 2 p18.2 50 zbq (zbK v s),Box b3 [.string s.name,.int .i64 s.base,.int .i64 s.batter,.int .i64 s.height,.int .i64 s.skin,.slice a s.heights.length cap,.int .i64 s.least,.int .i64 s.lap,.int .i64 s.run,.int .i64 s.every,.int .i64 s.at_,.int .i64 s.footing,.int .i64 s.spread,.int .u8 s.cope,.int .i64 s.tall,.int .i64 s.short,.int .i64 s.thick,.int .i64 s.low,.int .i64 s.high,.int .i64 s.rood] 37,Box b2 [.string v.name,.string v.sheet,.int .i64 v.length,.slice b v.opens.length bcap] 65]) (fun⟨i,ra,rc,M⟩=>(0≤i∧i≤(zbK v s).length∧M++zcP s ((zbK v s).drop i.toNat)=(zcP s (zbK v s)))) (fun⟨i,ra,rc,M⟩=>((zbK v s).length - i).toNat) (0,none,0,[]) ⟨rfl,rfl,rfl,rfl,rfl,trivial⟩ rfl ?_ ?_
  ·exact⟨by omega,by omega,rfl⟩
  ·rintro ⟨i,ra,rc,M⟩ hI
   obtain⟨g0,g1,g2⟩:=hI
   refine zac ?_
   refine zac ?_
   refine zaa ?_
   refine gk_y rfl rfl (zaf rfl) ?_
   refine gk_y rfl rfl (zaf rfl) ?_
   refine gk_y rfl rfl (zaV (Tryz.underlying46) rfl) ?_
   refine gk_y rfl rfl (zbw rfl rfl) ?_
   refine zag (zae (T':=[(3,_),(4,_),(5,_),(6,_),(7,_),(22,_)]) ⟨rfl,rfl,rfl,rfl,rfl,rfl,trivial⟩ ?_)
   refine zap rfl (fun hc22=>?_) (fun hc22=>?_)
   ·have hc22:=of_decide_eq_true hc22
    obtain⟨q1,q2,q3⟩:0≤((zbK v s).getD i.toNat default).frm∧((zbK v s).getD i.toNat default).frm < ((zbK v s).getD i.toNat default).to∧((zbK v s).getD i.toNat default).to≤v.length:=zmS hF g0 hc22
    have hdr:=zhU (s:=s) g0 hc22
    refine zaq ?_
    refine zac ?_
    refine zas ?_
    refine zac ?_
    refine zaa ?_
    refine gk_y rfl rfl (zad rfl) ?_
    refine zag (zae (T':=[(3,_),(4,_),(5,_),(6,_),(7,_),(8,_)]) ⟨rfl,rfl,rfl,rfl,rfl,rfl,trivial⟩ ?_)
    refine zac ?_
    refine zaa ?_
    refine gk_y rfl rfl (zaf rfl) ?_
    refine gk_y rfl rfl (zaf rfl) ?_
    refine gk_y rfl rfl (zaE se46 rfl rfl (fun _ hw=>(zam zax (hw.has (p:=1) rfl))) (by omega) (by omega)) ?_
    refine gk_y rfl rfl (zbh zhd rfl (fun w hw=>zaO (i:=i) (zam zax (hw.has (p:=1) rfl)) (by omega) (by omega))) ?_
    refine gk_y rfl rfl (zbn tf3 rfl (fun _ hw=>(zam zax (hw.has (p:=1) rfl))) (by omega) (by omega) rfl) ?_
    refine gk_y rfl rfl (zad rfl) ?_
    refine zag (zae (T':=[(3,_),(4,_),(5,_),(6,_),(7,_),(8,_),(9,_)]) ⟨rfl,rfl,rfl,rfl,rfl,rfl,rfl,trivial⟩ ?_)
    refine zas ?_
    refine zbf (X:=Int×Int×Option Addr×Nat×List Cpe) (fun⟨x,n,ra2,rc2,M2⟩=>[(3,.pointer (some ⟨b3,0,none⟩)),(4,.slice none 0 0),(5,.slice ra2 M2.length rc2),(6,.slice p18.1 (zbK v s).length p18.2),(7,.int .i64 i),(8,.int .i64 n),(9,.int .i64 x)]) (fun⟨x,n,ra2,rc2,M2⟩=>[Row ra2 3 rc2 88 zcm M2,Row p18.1 2 p18.2 50 zbq (zbK v s),Box b3 [.string s.name,.int .i64 s.base,.int .i64 s.batter,.int .i64 s.height,.int .i64 s.skin,.slice a s.heights.length cap,.int .i64 s.least,.int .i64 s.lap,.int .i64 s.run,.int .i64 s.every,.int .i64 s.at_,.int .i64 s.footing,.int .i64 s.spread,.int .u8 s.cope,.int .i64 s.tall,.int .i64 s.short,.int .i64 s.thick,.int .i64 s.low,.int .i64 s.high,.int .i64 s.rood] 37,Box b2 [.string v.name,.string v.sheet,.int .i64 v.length,.slice b v.opens.length bcap] 65]) (fun⟨x,n,ra2,rc2,M2⟩=>(0≤n∧n≤x∧0≤x∧x≤200000∧M2++(copB s.thick ((zbK v s).getD i.toNat default).to x (altH s n) (altH s (n+1))++zcP s ((zbK v s).drop (i+1).toNat))=(zcP s (zbK v s)))) (fun⟨x,n,ra2,rc2,M2⟩=>(((zbK v s).getD i.toNat default).to - x).toNat) (((zbK v s).getD i.toNat default).frm,0,ra,rc,M) ⟨rfl,rfl,rfl,rfl,rfl,rfl,rfl,trivial⟩ rfl ?_ ?_
    ·exact⟨by omega,by omega,by omega,by omega,by rw [zq4,ztd,←hdr]; exact g2⟩
    ·rintro ⟨x,n,ra2,rc2,M2⟩ hI
     obtain⟨k0,k1,k2,k3,k4⟩:=hI
     refine zac ?_
     refine zac ?_
     refine zaa ?_
     refine gk_y rfl rfl (zaf rfl) ?_
     refine gk_y rfl rfl (zaf rfl) ?_
     refine gk_y rfl rfl (zaf rfl) ?_
     refine gk_y rfl rfl (zaE se46 rfl rfl (fun _ hw=>(zam zax (hw.has (p:=1) rfl))) (by omega) (by omega)) ?_
     refine gk_y rfl rfl (zbh zgm rfl (fun w hw=>zaO (i:=i) (zam zax (hw.has (p:=1) rfl)) (by omega) (by omega))) ?_
     refine gk_y rfl rfl (zbn tf3 rfl (fun _ hw=>(zam zax (hw.has (p:=1) rfl))) (by omega) (by omega) rfl) ?_
     refine gk_y rfl rfl (zbw rfl rfl) ?_
     refine zag (zae (T':=[(3,_),(4,_),(5,_),(6,_),(7,_),(8,_),(9,_),(36,_)]) ⟨rfl,rfl,rfl,rfl,rfl,rfl,rfl,rfl,trivial⟩ ?_)
     refine zap rfl (fun hc36=>?_) (fun hc36=>?_)
     ·have hc36:=of_decide_eq_true hc36
      have hst:=zkK (t:=s.thick) (to:=((zbK v s).getD i.toNat default).to) (x:=x) (h:=altH s n) (o:=altH s (n+1)) (by omega) hc36
      have hal:=zi6 k4
      have hrm:Int.tmod n 2=n % 2:=Int.tmod_eq_emod_of_nonneg k0
      refine zaq ?_
      refine zac ?_
      refine zas ?_
      refine zac ?_
      refine zaa ?_
      refine gk_y rfl rfl (zab zjV rfl) ?_
      refine gk_y rfl rfl (zah 2 tf3 rfl rfl rfl) ?_
      refine gk_y rfl rfl (zad rfl) ?_
      refine zag (zae (T':=[(3,_),(4,_),(5,_),(6,_),(7,_),(8,_),(9,_),(10,_)]) ⟨rfl,rfl,rfl,rfl,rfl,rfl,rfl,rfl,trivial⟩ ?_)
      refine zih (X:=Unit) (fun _=>[(3,.pointer (some ⟨b3,0,none⟩)),(4,.slice none 0 0),(5,.slice ra2 M2.length rc2),(6,.slice p18.1 (zbK v s).length p18.2),(7,.int .i64 i),(8,.int .i64 n),(9,.int .i64 x),(10,.int .i64 (altH s n))]) (fun _=>[Row ra2 3 rc2 88 zcm M2,Row p18.1 2 p18.2 50 zbq (zbK v s),Box b3 [.string s.name,.int .i64 s.base,.int .i64 s.batter,.int .i64 s.height,.int .i64 s.skin,.slice a s.heights.length cap,.int .i64 s.least,.int .i64 s.lap,.int .i64 s.run,.int .i64 s.every,.int .i64 s.at_,.int .i64 s.footing,.int .i64 s.spread,.int .u8 s.cope,.int .i64 s.tall,.int .i64 s.short,.int .i64 s.thick,.int .i64 s.low,.int .i64 s.high,.int .i64 s.rood] 37,Box b2 [.string v.name,.string v.sheet,.int .i64 v.length,.slice b v.opens.length bcap] 65]) (fun _=>True) ?_ ?_
      ·
       refine zac ?_
       refine zbb 8 (fun _=>mixed) (by kernel_rfl) ?_
       refine ph_y (zab zfb rfl) ?_
       refine ph_y (zah 2 tf5 rfl rfl rfl) ?_
       refine ph_y (zbL rfl rfl) ?_
       refine ph_y (zaf rfl) ?_
       refine zaH rfl rfl (fun hgd=>by(try rw [hgd]); exact(zaf rfl)) ?_
       refine zaH rfl rfl (fun hgd=>by(try rw [hgd]); exact(zxH rfl rfl (by decide))) ?_
       refine zaH rfl rfl (fun hgd=>by(try rw [hgd]); exact(zbL rfl rfl)) ?_
       refine ph_y (zaX rfl rfl rfl) ?_
       refine zag (zae (T':=[(3,_),(4,_),(5,_),(6,_),(7,_),(8,_),(9,_),(10,_),(50,_)]) ⟨rfl,rfl,rfl,rfl,rfl,rfl,rfl,rfl,rfl,trivial⟩ ?_)
       refine zap rfl (fun hc50=>?_) (fun hc50=>?_)
       ·have ha:altH s n=s.short:=by simp only [Bool.and_eq_true,decide_eq_true_eq] at hc50; exact zoR hc50.1 (by omega)
        refine zaa ?_
        refine gk_y rfl rfl (zab zh7 rfl) ?_
        refine gk_y rfl rfl (zah 2 tf3 rfl rfl rfl) ?_
        refine gk_y rfl rfl (zad rfl) ?_
        refine zag (zae (T':=[(3,_),(4,_),(5,_),(6,_),(7,_),(8,_),(9,_),(10,_)]) ⟨rfl,rfl,rfl,rfl,rfl,rfl,rfl,rfl,trivial⟩ ?_)
        exact zb9 () ⟨rfl,rfl,rfl,rfl,rfl,rfl,rfl,(by(rw [ha]; rfl)),trivial⟩ rfl trivial
       ·have ha:altH s n=s.tall:=by simp only [Bool.and_eq_false_iff,decide_eq_false_iff_not] at hc50; exact zq3 (by omega)
        refine zaq ?_
        exact zb9 () ⟨rfl,rfl,rfl,rfl,rfl,rfl,rfl,(by(rw [ha]; rfl)),trivial⟩ rfl trivial
      ·rintro _ hJ
       refine zac ?_
       refine zbb 15 (fun _=>mixed) (by kernel_rfl) ?_
       refine ph_y (zaf rfl) ?_
       refine ph_y (zaf rfl) ?_
       refine ph_y (zab zh8 rfl) ?_
       refine ph_y (zah 2 tf3 rfl rfl rfl) ?_
       refine ph_y (zaf rfl) ?_
       refine ph_y (zaf rfl) ?_
       refine ph_y (zaE se46 rfl rfl (fun _ hw=>(zam zax (hw.has (p:=1) rfl))) (by omega) (by omega)) ?_
       refine ph_y (zbh zgm rfl (fun w hw=>zaO (i:=i) (zam zax (hw.has (p:=1) rfl)) (by omega) (by omega))) ?_
       refine ph_y (zbn tf3 rfl (fun _ hw=>(zam zax (hw.has (p:=1) rfl))) (by omega) (by omega) rfl) ?_
       refine ph_y (zaf rfl) ?_
       refine ph_y (zfV rfl rfl (by omega) (by omega)) ?_
       refine ph_y (zsy rfl rfl) ?_
       refine ph_y (zaf rfl) ?_
       refine ph_y (zaI rfl (zjH _ _ _)) ?_
       refine zmr (zaD rfl (zve _ _ _) zbc rfl) ?_
       intro b67
       refine zae (T':=[(3,_),(4,_),(5,_),(6,_),(7,_),(8,_),(9,_),(53,_),(67,_)]) ⟨rfl,rfl,rfl,rfl,rfl,rfl,rfl,rfl,rfl,trivial⟩ ?_
       refine zb4 (m:=[(⟨x,(min s.thick (((zbK v s).getD (i).toNat default).to - x)),(altH s n)⟩:Cpe)]) 1 af82 zbc rfl rfl rfl rfl (fun _ hw=>(zam zbc (hw.has (p:=0) rfl))) (by first | omega | (simp only [List.length_cons,List.length_nil]; omega)) (by first | (unfold maxLen; omega) | (simp only [List.length_cons,List.length_nil,maxLen]; omega)) fun a68 c68=>?_
       refine gk_y rfl rfl (zad rfl) ?_
       refine zag (zae (T':=[(3,_),(4,_),(5,_),(6,_),(7,_),(8,_),(9,_)]) ⟨rfl,rfl,rfl,rfl,rfl,rfl,rfl,trivial⟩ ?_)
       refine zaa ?_
       refine gk_y rfl rfl (zaf rfl) ?_
       refine gk_y rfl rfl (zaY rfl rfl (by omega) (by omega)) ?_
       refine gk_y rfl rfl (zad rfl) ?_
       refine zag (zae (T':=[(3,_),(4,_),(5,_),(6,_),(7,_),(8,_),(9,_)]) ⟨rfl,rfl,rfl,rfl,rfl,rfl,rfl,trivial⟩ ?_)
       refine zaa ?_
       refine gk_y rfl rfl (zaf rfl) ?_
       refine gk_y rfl rfl (zab zh8 rfl) ?_
       refine gk_y rfl rfl (zah 3 tf3 rfl rfl rfl) ?_
       refine gk_y rfl rfl (zaY rfl rfl (by omega) (by omega)) ?_
       refine gk_y rfl rfl (zad rfl) ?_
       refine zag (zae (T':=[(3,_),(4,_),(5,_),(6,_),(7,_),(8,_),(9,_)]) ⟨rfl,rfl,rfl,rfl,rfl,rfl,rfl,trivial⟩ ?_)
       refine zaK 0 rfl ?_
       exact za1 (x+s.thick,n+1,_,_,_) ⟨rfl,rfl,rfl,rfl,rfl,rfl,rfl,trivial⟩ rfl ⟨by omega,by omega,by omega,by omega,by rw [←k4,hst,zte] <;> simp⟩ (by simp only []; omega)
     ·have hc36:=of_decide_eq_false hc36
      have hen2:=zm0 (t:=s.thick) (h:=altH s n) (o:=altH s (n+1)) hc36
      refine za8 rfl ?_
      refine zaa ?_
      refine gk_y rfl rfl (zaf rfl) ?_
      refine gk_y rfl rfl (zaY rfl rfl (by omega) (by omega)) ?_
      refine gk_y rfl rfl (zad rfl) ?_
      refine zag (zae (T':=[(3,_),(4,_),(5,_),(6,_),(7,_)]) ⟨rfl,rfl,rfl,rfl,rfl,trivial⟩ ?_)
      exact za1 (i+1,ra2,rc2,M2) ⟨rfl,rfl,rfl,rfl,rfl,trivial⟩ rfl ⟨by omega,by omega,by rw [←k4,hen2]; rfl⟩ (by simp only []; omega)
   ·have hc22:=of_decide_eq_false hc22
    have hdn:=zhT (s:=s) hc22
    refine za8 rfl ?_
    refine zac ?_
    refine zaa ?_
    refine gk_y rfl rfl (zaf rfl) ?_
    refine gk_y rfl rfl (zad rfl) ?_
    refine zag (zae (T':=[(4,_)]) ⟨rfl,trivial⟩ ?_)
    refine zaw ?_
    refine zbd (ra,rc) 0 (zaC rfl (zau rfl)) ?_ (by rw [e1,←g2,hdn,List.append_nil]; rfl)
    rw [e1,←g2,hdn,List.append_nil] <;> rfl
end Go.Proofs.YtdcfcfhmkfkgmaaGreatDoor
namespace Go.Proofs.YtdcfcfhmkfkgmaaGreatDoor
open Go.K Go.Stn Go.Pln Go.RowKit
theorem tf84:TF Tryz.prog 84 true 7 (.agg #[.int IntKind.i64 0,.int IntKind.i64 0,.int IntKind.i64 0,.int IntKind.i64 0,.int IntKind.i64 0,.int IntKind.i64 0,.int IntKind.i64 0]):=⟨by kernel_rfl,by kernel_rfl⟩
theorem zkY:FO Tryz.prog 84 0 0:=⟨by kernel_rfl⟩
theorem zpE:FO Tryz.prog 84 1 1:=⟨by kernel_rfl⟩
theorem zsP:FO Tryz.prog 84 2 2:=⟨by kernel_rfl⟩
theorem zpF:FO Tryz.prog 84 3 3:=⟨by kernel_rfl⟩
theorem zsQ:FO Tryz.prog 84 4 4:=⟨by kernel_rfl⟩
theorem zsR:FO Tryz.prog 84 5 5:=⟨by kernel_rfl⟩
theorem zsS:FO Tryz.prog 84 6 6:=⟨by kernel_rfl⟩
theorem zsV:FO Tryz.prog 88 1 1:=⟨by kernel_rfl⟩
theorem zsW:FO Tryz.prog 88 2 2:=⟨by kernel_rfl⟩
theorem se82:SE Tryz.prog 82 88 3:=⟨Tryz.underlying82,by kernel_rfl⟩
theorem en33:En Tryz.prog 33:=za7 Tryz.func33 (by kernel_rfl) (by kernel_rfl)
theorem en34:En Tryz.prog 34:=za7 Tryz.func34 (by kernel_rfl) (by kernel_rfl)
set_option maxRecDepth 100000 in
set_option maxHeartbeats 32000000 in
theorem zsd (b:Option Addr) (bcap:Nat) (v:Wll) (a:Option Addr) (cap:Nat) (s:Sht) (w:World) (hv:Has w (zaW b 5 zba v.opens)) (hl:Has w (Ints a s.heights)) (hF:WallF v s.height) (hsp:za4 s=true) :
  Calls Tryz.prog 35 #[.agg #[.string v.name,.string v.sheet,.int .i64 v.length,.slice b v.opens.length bcap],.agg #[.string s.name,.int .i64 s.base,.int .i64 s.batter,.int .i64 s.height,.int .i64 s.skin,.slice a s.heights.length cap,.int .i64 s.least,.int .i64 s.lap,.int .i64 s.run,.int .i64 s.every,.int .i64 s.at_,.int .i64 s.footing,.int .i64 s.spread,.int .u8 s.cope,.int .i64 s.tall,.int .i64 s.short,.int .i64 s.thick,.int .i64 s.low,.int .i64 s.high,.int .i64 s.rood]] w (Pure (.agg #[.int .i64 (zdz v s).face,.int .i64 (zdz v s).heart,.int .i64 (zdz v s).foot,.int .i64 (zdz v s).top,.int .i64 (zdz v s).throughs,.int .i64 (zdz v s).copes,.int .i64 (zdz v s).roods]) w):=by
 have hnm:=zaZ hsp
 have htop:=hnm.height
 have hlen:=hF.len
 have hncr:=zcv hsp
 have hft:=zm7 hF hsp
 have hht:=zk3 hF hsp
 have htt:=zqT hF hsp
 have hcpn:=zfB hF
 refine zan (vs:=[_,_]) Tryz.func35 rfl rfl (Nat.le_of_ble_eq_true rfl) ?_
 refine zac ?_
 refine zaa ?_
 refine zaG rfl rfl (za3 (vs:=[_,_,_,_]) rfl rfl) fun b2=>?_
 refine zaG rfl rfl (za3 (vs:=[_,_,_,_,_,_,_,_,_,_,_,_,_,_,_,_,_,_,_,_]) rfl rfl) fun b3=>?_
 refine zaG rfl rfl (zaL tf84 (zs:=[_,_,_,_,_,_,_]) rfl) fun b4=>?_
 refine zag (zae (T':=[(2,_),(3,_),(4,_)]) ⟨rfl,rfl,rfl,trivial⟩ ?_)
 refine zac ?_
 refine zaa ?_
 refine zaG rfl rfl (zaL tf84 (zs:=[_,_,_,_,_,_,_]) rfl) fun b5=>?_
 refine zag (zae (T':=[(2,_),(3,_),(4,_),(5,_)]) ⟨rfl,rfl,rfl,rfl,trivial⟩ ?_)
 refine zac ?_
 refine zaa ?_
 refine gk_y rfl rfl (zat 2 tf37 rfl rfl (vs:=[_,_,_,_,_,_,_,_,_,_,_,_,_,_,_,_,_,_,_,_]) rfl rfl) ?_
 refine zaG rfl rfl (zbm en21 rfl (fun w hw=>zg2 _ _ s w (Rd.has (Has.rd hl) hw) hnm)) fun p17=>?_
 refine gk_y rfl rfl (zad rfl) ?_
 refine zag (zae (T':=[(2,_),(3,_),(4,_),(5,_),(6,_)]) ⟨rfl,rfl,rfl,rfl,rfl,trivial⟩ ?_)
 refine zac ?_
 refine zac ?_
 refine zaa ?_
 refine gk_y rfl rfl (zad rfl) ?_
 refine zag (zae (T':=[(2,_),(3,_),(4,_),(5,_),(6,_),(7,_)]) ⟨rfl,rfl,rfl,rfl,rfl,rfl,trivial⟩ ?_)
 refine zas ?_
 refine zbf (X:=Int×Int×Int) (fun⟨i,fc,hc⟩=>[(2,.pointer (some ⟨b2,0,none⟩)),(3,.pointer (some ⟨b3,0,none⟩)),(4,.pointer (some ⟨b4,0,none⟩)),(5,.pointer (some ⟨b5,0,none⟩)),(6,.slice p17.1 (zaj s).length p17.2),(7,.int .i64 i)]) (fun⟨i,fc,hc⟩=>[Row p17.1 2 p17.2 50 zbq (zaj s),Box b5 [.int .i64 fc,.int .i64 hc,.int .i64 0,.int .i64 0,.int .i64 0,.int .i64 0,.int .i64 0] 84,Box b4 [.int .i64 0,.int .i64 0,.int .i64 0,.int .i64 0,.int .i64 0,.int .i64 0,.int .i64 0] 84,Box b3 [.string s.name,.int .i64 s.base,.int .i64 s.batter,.int .i64 s.height,.int .i64 s.skin,.slice a s.heights.length cap,.int .i64 s.least,.int .i64 s.lap,.int .i64 s.run,.int .i64 s.every,.int .i64 s.at_,.int .i64 s.footing,.int .i64 s.spread,.int .u8 s.cope,.int .i64 s.tall,.int .i64 s.short,.int .i64 s.thick,.int .i64 s.low,.int .i64 s.high,.int .i64 s.rood] 37,Box b2 [.string v.name,.string v.sheet,.int .i64 v.length,.slice b v.opens.length bcap] 65]) (fun⟨i,fc,hc⟩=>(0≤i∧i≤(zaj s).length∧0≤fc∧0≤hc∧fc+sumB (zh0 v s) ((zaj s).drop i.toNat)=(zcJ v s)∧hc+sumB (zfi v s) ((zaj s).drop i.toNat)=(zca v s))) (fun⟨i,fc,hc⟩=>((zaj s).length - i).toNat) (0,0,0) ⟨rfl,rfl,rfl,rfl,rfl,rfl,trivial⟩ rfl ?_ ?_
 ·exact⟨by omega,by omega,by omega,by omega,Int.zero_add _,Int.zero_add _⟩
 ·rintro ⟨i,fc,hc⟩ hI
  obtain⟨g0,g1,g2,g3,g4,g5⟩:=hI
  refine zac ?_
  refine zac ?_
  refine zaa ?_
  refine gk_y rfl rfl (zaf rfl) ?_
  refine gk_y rfl rfl (zaf rfl) ?_
  refine gk_y rfl rfl (zaV (Tryz.underlying46) rfl) ?_
  refine gk_y rfl rfl (zbw rfl rfl) ?_
  refine zag (zae (T':=[(2,_),(3,_),(4,_),(5,_),(6,_),(7,_),(21,_)]) ⟨rfl,rfl,rfl,rfl,rfl,rfl,rfl,trivial⟩ ?_)
  refine zap rfl (fun hc21=>?_) (fun hc21=>?_)
  ·have hc21:=of_decide_eq_true hc21
   have hci:=zpc hnm g0 hc21
   have hBR:zcW (rch ((zaj s).getD i.toNat default) s.height) v=(zbg v ((zaj s).getD i.toNat default)):=zmU (by omega)
   have hfd:=zdt (f:=(zh0 v s)) g0 hc21
   have hhd:=zdt (f:=(zfi v s)) g0 hc21
   have hbn:((zbg v ((zaj s).getD i.toNat default)).length:Int)≤100000:=zek hF (zgu ((zaj s).getD i.toNat default))
   refine zaq ?_
   refine zac ?_
   refine zas ?_
   refine zac ?_
   refine zbb 7 (fun _=>mixed) (by kernel_rfl) ?_
   refine ph_y (zat 4 tf65 rfl rfl (vs:=[_,_,_,_]) rfl rfl) ?_
   refine ph_y (zat 3 tf37 rfl rfl (vs:=[_,_,_,_,_,_,_,_,_,_,_,_,_,_,_,_,_,_,_,_]) rfl rfl) ?_
   refine ph_y (zaf rfl) ?_
   refine ph_y (zaf rfl) ?_
   refine ph_y (zaE se46 rfl rfl (fun _ hw=>(zam zax (hw.has (p:=0) rfl))) (by omega) (by omega)) ?_
   refine ph_y (zbv (vs:=[_,_]) tf50 rfl (fun _ hw=>(zam zax (hw.has (p:=0) rfl))) (by omega) (by omega) rfl) ?_
   refine zmr (zbm en29 rfl (fun w hw=>zki _ _ v _ _ s ((zaj s).getD i.toNat default) (zbg v ((zaj s).getD i.toNat default)) w hBR (Rd.has (Has.rd hv) hw) (Rd.has (Has.rd hl) hw) hF (by omega))) ?_
   intro p30
   refine zae (T':=[(2,_),(3,_),(4,_),(5,_),(6,_),(7,_),(30,_)]) ⟨rfl,rfl,rfl,rfl,rfl,rfl,rfl,trivial⟩ ?_
   refine gk_y rfl rfl (zad rfl) ?_
   refine zag (zae (T':=[(2,_),(3,_),(4,_),(5,_),(6,_),(7,_),(8,_)]) ⟨rfl,rfl,rfl,rfl,rfl,rfl,rfl,trivial⟩ ?_)
   refine zac ?_
   refine zbb 8 (fun _=>mixed) (by kernel_rfl) ?_
   refine ph_y (zat 4 tf37 rfl rfl (vs:=[_,_,_,_,_,_,_,_,_,_,_,_,_,_,_,_,_,_,_,_]) rfl rfl) ?_
   refine ph_y (zaf rfl) ?_
   refine ph_y (zaf rfl) ?_
   refine ph_y (zaE se46 rfl rfl (fun _ hw=>(zam zax (hw.has (p:=1) rfl))) (by omega) (by omega)) ?_
   refine ph_y (zbh zhd rfl (fun w hw=>zaO (i:=i) (zam zax (hw.has (p:=1) rfl)) (by omega) (by omega))) ?_
   refine ph_y (zbn tf3 rfl (fun _ hw=>(zam zax (hw.has (p:=1) rfl))) (by omega) (by omega) rfl) ?_
   refine ph_y (zaJ en22 rfl (fun w hw=>zkn a cap s _ w)) ?_
   refine ph_y (zad rfl) ?_
   refine zag (zae (T':=[(2,_),(3,_),(4,_),(5,_),(6,_),(7,_),(8,_),(9,_)]) ⟨rfl,rfl,rfl,rfl,rfl,rfl,rfl,rfl,trivial⟩ ?_)
   refine zae (T':=[(2,_),(3,_),(4,_),(5,_),(6,_),(7,_),(8,_),(9,.int .i64 (zb5 s ((zaj s).getD i.toNat default).frm))]) ⟨rfl,rfl,rfl,rfl,rfl,rfl,rfl,(by show some (Value.int .i64 (zfv s ((zaj s).getD i.toNat default).frm))=_; rw [zn1 hsp (by omega) (by omega)]),trivial⟩ ?_
   refine zac ?_
   refine zaa ?_
   refine gk_y rfl rfl (zad rfl) ?_
   refine zag (zae (T':=[(2,_),(3,_),(4,_),(5,_),(6,_),(7,_),(8,_),(9,_),(10,_)]) ⟨rfl,rfl,rfl,rfl,rfl,rfl,rfl,rfl,rfl,trivial⟩ ?_)
   refine zas ?_
   refine zbf (X:=Int×Int×Int) (fun⟨j,f2,h2⟩=>[(2,.pointer (some ⟨b2,0,none⟩)),(3,.pointer (some ⟨b3,0,none⟩)),(4,.pointer (some ⟨b4,0,none⟩)),(5,.pointer (some ⟨b5,0,none⟩)),(6,.slice p17.1 (zaj s).length p17.2),(7,.int .i64 i),(8,.slice p30.1 (zbg v ((zaj s).getD i.toNat default)).length p30.2),(9,.int .i64 (zb5 s ((zaj s).getD i.toNat default).frm)),(10,.int .i64 j)]) (fun⟨j,f2,h2⟩=>[Row p30.1 2 p30.2 50 zbq (zbg v ((zaj s).getD i.toNat default)),Row p17.1 2 p17.2 50 zbq (zaj s),Box b5 [.int .i64 f2,.int .i64 h2,.int .i64 0,.int .i64 0,.int .i64 0,.int .i64 0,.int .i64 0] 84,Box b4 [.int .i64 0,.int .i64 0,.int .i64 0,.int .i64 0,.int .i64 0,.int .i64 0,.int .i64 0] 84,Box b3 [.string s.name,.int .i64 s.base,.int .i64 s.batter,.int .i64 s.height,.int .i64 s.skin,.slice a s.heights.length cap,.int .i64 s.least,.int .i64 s.lap,.int .i64 s.run,.int .i64 s.every,.int .i64 s.at_,.int .i64 s.footing,.int .i64 s.spread,.int .u8 s.cope,.int .i64 s.tall,.int .i64 s.short,.int .i64 s.thick,.int .i64 s.low,.int .i64 s.high,.int .i64 s.rood] 37,Box b2 [.string v.name,.string v.sheet,.int .i64 v.length,.slice b v.opens.length bcap] 65]) (fun⟨j,f2,h2⟩=>(0≤j∧j≤(zbg v ((zaj s).getD i.toNat default)).length∧0≤f2∧0≤h2∧f2+(sumB (fun b=>zcw ((zaj s).getD i.toNat default) b*zcY s ((zaj s).getD i.toNat default)) ((zbg v ((zaj s).getD i.toNat default)).drop j.toNat)+sumB (zh0 v s) ((zaj s).drop (i+1).toNat))=(zcJ v s)∧h2+(sumB (fun b=>zcw ((zaj s).getD i.toNat default) b*zct s ((zaj s).getD i.toNat default)) ((zbg v ((zaj s).getD i.toNat default)).drop j.toNat)+sumB (zfi v s) ((zaj s).drop (i+1).toNat))=(zca v s))) (fun⟨j,f2,h2⟩=>((zbg v ((zaj s).getD i.toNat default)).length - j).toNat) (0,fc,hc) ⟨rfl,rfl,rfl,rfl,rfl,rfl,rfl,rfl,rfl,trivial⟩ rfl ?_ ?_
   ·exact⟨by omega,by omega,g2,g3,by rw [←g4,hfd]; rfl,by rw [←g5,hhd]; rfl⟩
   ·rintro ⟨j,f2,h2⟩ hI
    obtain⟨k0,k1,k2,k3,k4,k5⟩:=hI
    refine zac ?_
    refine zac ?_
    refine zaa ?_
    refine gk_y rfl rfl (zaf rfl) ?_
    refine gk_y rfl rfl (zaf rfl) ?_
    refine gk_y rfl rfl (zaV (Tryz.underlying46) rfl) ?_
    refine gk_y rfl rfl (zbw rfl rfl) ?_
    refine zag (zae (T':=[(2,_),(3,_),(4,_),(5,_),(6,_),(7,_),(8,_),(9,_),(10,_),(41,_)]) ⟨rfl,rfl,rfl,rfl,rfl,rfl,rfl,rfl,rfl,rfl,trivial⟩ ?_)
    refine zap rfl (fun hc41=>?_) (fun hc41=>?_)
    ·have hc41:=of_decide_eq_true hc41
     have hbi:0≤((zbg v ((zaj s).getD i.toNat default)).getD j.toNat default).frm∧((zbg v ((zaj s).getD i.toNat default)).getD j.toNat default).frm < ((zbg v ((zaj s).getD i.toNat default)).getD j.toNat default).to∧((zbg v ((zaj s).getD i.toNat default)).getD j.toNat default).to≤v.length:=zmS hF k0 hc41
     have hbm:=za0 (l:=(zbg v ((zaj s).getD i.toNat default))) (i:=j.toNat) (by omega)
     have hai:=zjD hF (by omega) hbm
     have hfb:=zdt (f:=(fun b=>zcw ((zaj s).getD i.toNat default) b*zcY s ((zaj s).getD i.toNat default))) k0 hc41
     have hhb:=zdt (f:=(fun b=>zcw ((zaj s).getD i.toNat default) b*zct s ((zaj s).getD i.toNat default))) k0 hc41
     have hfr:=zhv hF (c:=((zaj s).getD i.toNat default)) (by omega) (zd5 hsp hci).1 (j+1).toNat
     have hhr:=zhv hF (c:=((zaj s).getD i.toNat default)) (by omega) (zdV hsp hci).1 (j+1).toNat
     have hfz:=zkT hF hsp (i+1).toNat
     have hhz:=zjl hF hsp (i+1).toNat
     have hfp:=Int.mul_nonneg hai.1 (zd5 hsp hci).1
     have hhp:=Int.mul_nonneg hai.1 (zdV hsp hci).1
     have hwi:=zgO hsp hci.1 (by omega)
     have hsk:=hnm.skin
     refine zaq ?_
     refine zac ?_
     refine zas ?_
     refine zac ?_
     refine zbb 24 (fun _=>mixed) (by kernel_rfl) ?_
     refine ph_y (zaf rfl) ?_
     refine ph_y (zaf rfl) ?_
     refine ph_y (zaE se46 rfl rfl (fun _ hw=>(zam zax (hw.has (p:=0) rfl))) (by omega) (by omega)) ?_
     refine ph_y (zbh zgm rfl (fun w hw=>zaO (i:=j) (zam zax (hw.has (p:=0) rfl)) (by omega) (by omega))) ?_
     refine ph_y (zbn tf3 rfl (fun _ hw=>(zam zax (hw.has (p:=0) rfl))) (by omega) (by omega) rfl) ?_
     refine ph_y (zaf rfl) ?_
     refine ph_y (zaf rfl) ?_
     refine ph_y (zaE se46 rfl rfl (fun _ hw=>(zam zax (hw.has (p:=0) rfl))) (by omega) (by omega)) ?_
     refine ph_y (zbh zhd rfl (fun w hw=>zaO (i:=j) (zam zax (hw.has (p:=0) rfl)) (by omega) (by omega))) ?_
     refine ph_y (zbn tf3 rfl (fun _ hw=>(zam zax (hw.has (p:=0) rfl))) (by omega) (by omega) rfl) ?_
     refine ph_y (ziW rfl rfl) ?_
     refine ph_y (zaf rfl) ?_
     refine ph_y (zaf rfl) ?_
     refine ph_y (zaE se46 rfl rfl (fun _ hw=>(zam zax (hw.has (p:=1) rfl))) (by omega) (by omega)) ?_
     refine ph_y (zbh zgm rfl (fun w hw=>zaO (i:=i) (zam zax (hw.has (p:=1) rfl)) (by omega) (by omega))) ?_
     refine ph_y (zbn tf3 rfl (fun _ hw=>(zam zax (hw.has (p:=1) rfl))) (by omega) (by omega) rfl) ?_
     refine ph_y (zaf rfl) ?_
     refine ph_y (zaf rfl) ?_
     refine ph_y (zaE se46 rfl rfl (fun _ hw=>(zam zax (hw.has (p:=1) rfl))) (by omega) (by omega)) ?_
     refine ph_y (zbh zhd rfl (fun w hw=>zaO (i:=i) (zam zax (hw.has (p:=1) rfl)) (by omega) (by omega))) ?_
     refine ph_y (zbn tf3 rfl (fun _ hw=>(zam zax (hw.has (p:=1) rfl))) (by omega) (by omega) rfl) ?_
     refine ph_y (ziW rfl rfl) ?_
     refine ph_y (zdv rfl rfl) ?_
     refine ph_y (zad rfl) ?_
     refine zag (zae (T':=[(2,_),(3,_),(4,_),(5,_),(6,_),(7,_),(8,_),(9,_),(10,_),(11,_)]) ⟨rfl,rfl,rfl,rfl,rfl,rfl,rfl,rfl,rfl,rfl,trivial⟩ ?_)
     refine zae (T':=[(2,_),(3,_),(4,_),(5,_),(6,_),(7,_),(8,_),(9,_),(10,_),(11,.int .i64 (zcw ((zaj s).getD i.toNat default) ((zbg v ((zaj s).getD i.toNat default)).getD j.toNat default)))]) ⟨rfl,rfl,rfl,rfl,rfl,rfl,rfl,rfl,rfl,(by show some (Value.int .i64 (W (W (((zbg v ((zaj s).getD i.toNat default)).getD j.toNat default).to - ((zbg v ((zaj s).getD i.toNat default)).getD j.toNat default).frm)*W (((zaj s).getD i.toNat default).to - ((zaj s).getD i.toNat default).frm))))=_; rw [zoT (by omega) (by omega)]),trivial⟩ ?_
     refine zac ?_
     refine zaa ?_
     refine gk_y rfl rfl (zaf rfl) ?_
     refine gk_y rfl rfl (zab zkX rfl) ?_
     refine gk_y rfl rfl (zah 4 tf3 rfl rfl rfl) ?_
     refine gk_y rfl rfl (zq0 rfl rfl (by omega) (by omega)) ?_
     refine gk_y rfl rfl (zc6 rfl rfl) ?_
     refine zag (zae (T':=[(2,_),(3,_),(4,_),(5,_),(6,_),(7,_),(8,_),(9,_),(10,_),(11,_),(71,_)]) ⟨rfl,rfl,rfl,rfl,rfl,rfl,rfl,rfl,rfl,rfl,rfl,trivial⟩ ?_)
     refine zap rfl (fun hc71=>?_) (fun hc71=>?_)
     ·have hc71:=of_decide_eq_true hc71
      refine zac ?_
      refine zaa ?_
      refine gk_y rfl rfl (zab zkY rfl) ?_
      refine gk_y rfl rfl (zah 2 tf2 rfl rfl rfl) ?_
      refine gk_y rfl rfl (zaf rfl) ?_
      refine gk_y rfl rfl (zab zkX rfl) ?_
      refine gk_y rfl rfl (zah 4 tf3 rfl rfl rfl) ?_
      refine gk_y rfl rfl (zdv rfl rfl) ?_
      refine gk_y rfl rfl (zdv rfl rfl) ?_
      refine gk_y rfl rfl (zfw rfl rfl) ?_
      refine gk_y rfl rfl (zab zkY rfl) ?_
      refine zaA 2 tf2 rfl rfl (vs:=[_]) rfl rfl rfl rfl rfl ?_
      refine zag (zae (T':=[(2,_),(3,_),(4,_),(5,_),(6,_),(7,_),(8,_),(9,_),(10,_),(11,_)]) ⟨rfl,rfl,rfl,rfl,rfl,rfl,rfl,rfl,rfl,rfl,trivial⟩ ?_)
      refine za2 (R':=Box b5 [.int .i64 (f2+(zcw ((zaj s).getD i.toNat default) ((zbg v ((zaj s).getD i.toNat default)).getD j.toNat default))*zcY s ((zaj s).getD i.toNat default)),.int .i64 h2,.int .i64 0,.int .i64 0,.int .i64 0,.int .i64 0,.int .i64 0] 84) 2 rfl (fun B w hA=>by rw [←zr6 (s:=s) hsp hci hai k2 (by omega) hc71]; exact hA) ?_
      refine zaa ?_
      refine gk_y rfl rfl (zab zpE rfl) ?_
      refine gk_y rfl rfl (zah 2 tf2 rfl rfl rfl) ?_
      refine gk_y rfl rfl (zaf rfl) ?_
      refine gk_y rfl rfl (zaf rfl) ?_
      refine gk_y rfl rfl (zab zkX rfl) ?_
      refine gk_y rfl rfl (zah 4 tf3 rfl rfl rfl) ?_
      refine gk_y rfl rfl (zdv rfl rfl) ?_
      refine gk_y rfl rfl (ziW rfl rfl) ?_
      refine gk_y rfl rfl (zdv rfl rfl) ?_
      refine gk_y rfl rfl (zfw rfl rfl) ?_
      refine gk_y rfl rfl (zab zpE rfl) ?_
      refine zaA 2 tf2 rfl rfl (vs:=[_]) rfl rfl rfl rfl rfl ?_
      refine zag (zae (T':=[(2,_),(3,_),(4,_),(5,_),(6,_),(7,_),(8,_),(9,_),(10,_)]) ⟨rfl,rfl,rfl,rfl,rfl,rfl,rfl,rfl,rfl,trivial⟩ ?_)
      refine za2 (R':=Box b5 [.int .i64 (f2+(zcw ((zaj s).getD i.toNat default) ((zbg v ((zaj s).getD i.toNat default)).getD j.toNat default))*zcY s ((zaj s).getD i.toNat default)),.int .i64 (h2+(zcw ((zaj s).getD i.toNat default) ((zbg v ((zaj s).getD i.toNat default)).getD j.toNat default))*zct s ((zaj s).getD i.toNat default)),.int .i64 0,.int .i64 0,.int .i64 0,.int .i64 0,.int .i64 0] 84) 2 rfl (fun B w hA=>by rw [←zqx (s:=s) hsp hci hai k3 (by omega) hc71]; exact hA) ?_
      refine zaa ?_
      refine gk_y rfl rfl (zaf rfl) ?_
      refine gk_y rfl rfl (zaY rfl rfl (by omega) (by omega)) ?_
      refine gk_y rfl rfl (zad rfl) ?_
      refine zag (zae (T':=[(2,_),(3,_),(4,_),(5,_),(6,_),(7,_),(8,_),(9,_),(10,_)]) ⟨rfl,rfl,rfl,rfl,rfl,rfl,rfl,rfl,rfl,trivial⟩ ?_)
      exact za1 (j+1,f2+(zcw ((zaj s).getD i.toNat default) ((zbg v ((zaj s).getD i.toNat default)).getD j.toNat default))*zcY s ((zaj s).getD i.toNat default),h2+(zcw ((zaj s).getD i.toNat default) ((zbg v ((zaj s).getD i.toNat default)).getD j.toNat default))*zct s ((zaj s).getD i.toNat default)) ⟨rfl,rfl,rfl,rfl,rfl,rfl,rfl,rfl,rfl,trivial⟩ rfl ⟨by omega,by omega,by omega,by omega,by omega,by omega⟩ (by simp only []; omega)
     ·have hc71:=of_decide_eq_false hc71
      refine zaa ?_
      refine gk_y rfl rfl (zab zkY rfl) ?_
      refine gk_y rfl rfl (zah 2 tf2 rfl rfl rfl) ?_
      refine gk_y rfl rfl (zaf rfl) ?_
      refine gk_y rfl rfl (zaf rfl) ?_
      refine gk_y rfl rfl (zdv rfl rfl) ?_
      refine gk_y rfl rfl (zfw rfl rfl) ?_
      refine gk_y rfl rfl (zab zkY rfl) ?_
      refine zaA 2 tf2 rfl rfl (vs:=[_]) rfl rfl rfl rfl rfl ?_
      refine zag (zae (T':=[(2,_),(3,_),(4,_),(5,_),(6,_),(7,_),(8,_),(9,_),(10,_)]) ⟨rfl,rfl,rfl,rfl,rfl,rfl,rfl,rfl,rfl,trivial⟩ ?_)
      refine za2 (R':=Box b5 [.int .i64 (f2+(zcw ((zaj s).getD i.toNat default) ((zbg v ((zaj s).getD i.toNat default)).getD j.toNat default))*zcY s ((zaj s).getD i.toNat default)),.int .i64 h2,.int .i64 0,.int .i64 0,.int .i64 0,.int .i64 0,.int .i64 0] 84) 2 rfl (fun B w hA=>by rw [←zr7 (s:=s) hsp hci hai k2 (by omega) hc71]; exact hA) ?_
      refine za2 (R':=Box b5 [.int .i64 (f2+(zcw ((zaj s).getD i.toNat default) ((zbg v ((zaj s).getD i.toNat default)).getD j.toNat default))*zcY s ((zaj s).getD i.toNat default)),.int .i64 (h2+(zcw ((zaj s).getD i.toNat default) ((zbg v ((zaj s).getD i.toNat default)).getD j.toNat default))*zct s ((zaj s).getD i.toNat default)),.int .i64 0,.int .i64 0,.int .i64 0,.int .i64 0,.int .i64 0] 84) 2 rfl (fun B w hA=>by rw [←zqy (s:=s) (h:=h2) (a:=(zcw ((zaj s).getD i.toNat default) ((zbg v ((zaj s).getD i.toNat default)).getD j.toNat default))) hc71]; exact hA) ?_
      refine zaa ?_
      refine gk_y rfl rfl (zaf rfl) ?_
      refine gk_y rfl rfl (zaY rfl rfl (by omega) (by omega)) ?_
      refine gk_y rfl rfl (zad rfl) ?_
      refine zag (zae (T':=[(2,_),(3,_),(4,_),(5,_),(6,_),(7,_),(8,_),(9,_),(10,_)]) ⟨rfl,rfl,rfl,rfl,rfl,rfl,rfl,rfl,rfl,trivial⟩ ?_)
      exact za1 (j+1,f2+(zcw ((zaj s).getD i.toNat default) ((zbg v ((zaj s).getD i.toNat default)).getD j.toNat default))*zcY s ((zaj s).getD i.toNat default),h2+(zcw ((zaj s).getD i.toNat default) ((zbg v ((zaj s).getD i.toNat default)).getD j.toNat default))*zct s ((zaj s).getD i.toNat default)) ⟨rfl,rfl,rfl,rfl,rfl,rfl,rfl,rfl,rfl,trivial⟩ rfl ⟨by omega,by omega,by omega,by omega,by omega,by omega⟩ (by simp only []; omega)
    ·have hc41:=of_decide_eq_false hc41
     rw [zds hc41,Int.zero_add] at k4
     rw [zds hc41,Int.zero_add] at k5
     refine za8 rfl ?_
     refine zaa ?_
     refine gk_y rfl rfl (zaf rfl) ?_
     refine gk_y rfl rfl (zaY rfl rfl (by omega) (by omega)) ?_
     refine gk_y rfl rfl (zad rfl) ?_
     refine zag (zae (T':=[(2,_),(3,_),(4,_),(5,_),(6,_),(7,_)]) ⟨rfl,rfl,rfl,rfl,rfl,rfl,trivial⟩ ?_)
     refine zaK 0 rfl ?_
     exact za1 (i+1,f2,h2) ⟨rfl,rfl,rfl,rfl,rfl,rfl,trivial⟩ rfl ⟨by omega,by omega,k2,k3,k4,k5⟩ (by simp only []; omega)
  ·have hc21:=of_decide_eq_false hc21
   rw [zds hc21,Int.add_zero] at g4
   rw [zds hc21,Int.add_zero] at g5
   refine za8 rfl ?_
   refine zac ?_
   refine zaa ?_
   refine gk_y rfl rfl (zab zfS rfl) ?_
   refine gk_y rfl rfl (zah 4 tf3 rfl rfl rfl) ?_
   refine gk_y rfl rfl (zab zl4 rfl) ?_
   refine gk_y rfl rfl (zah 3 tf3 rfl rfl rfl) ?_
   refine gk_y rfl rfl (zdv rfl rfl) ?_
   refine gk_y rfl rfl (zab zna rfl) ?_
   refine gk_y rfl rfl (zah 3 tf3 rfl rfl rfl) ?_
   refine gk_y rfl rfl (zab zl5 rfl) ?_
   refine gk_y rfl rfl (zah 3 tf3 rfl rfl rfl) ?_
   refine gk_y rfl rfl (zdv rfl rfl) ?_
   refine gk_y rfl rfl (zfw rfl rfl) ?_
   refine gk_y rfl rfl (zdv rfl rfl) ?_
   refine gk_y rfl rfl (zab zsP rfl) ?_
   refine zaA 1 tf2 rfl rfl (vs:=[_]) rfl rfl rfl rfl rfl ?_
   refine zag (zae (T':=[(2,_),(3,_),(4,_),(5,_)]) ⟨rfl,rfl,rfl,rfl,trivial⟩ ?_)
   refine za2 (R':=Box b5 [.int .i64 (zcJ v s),.int .i64 (zca v s),.int .i64 (zdl v s),.int .i64 0,.int .i64 0,.int .i64 0,.int .i64 0] 84) 1 rfl (fun B w hA=>by rw [←zpH hF hsp,←g4,←g5]; exact hA) ?_
   refine zac ?_
   refine zaa ?_
   refine gk_y rfl rfl (zat 4 tf65 rfl rfl (vs:=[_,_,_,_]) rfl rfl) ?_
   refine gk_y rfl rfl (zat 3 tf37 rfl rfl (vs:=[_,_,_,_,_,_,_,_,_,_,_,_,_,_,_,_,_,_,_,_]) rfl rfl) ?_
   refine zaG rfl rfl (zbm en34 rfl (fun w hw=>znK _ _ v _ _ s w (Rd.has (Has.rd hv) hw) (Rd.has (Has.rd hl) hw) hF hsp)) fun p114=>?_
   refine gk_y rfl rfl (zad rfl) ?_
   refine zag (zae (T':=[(2,_),(3,_),(4,_),(5,_),(12,_)]) ⟨rfl,rfl,rfl,rfl,rfl,trivial⟩ ?_)
   refine zac ?_
   refine zac ?_
   refine zaa ?_
   refine gk_y rfl rfl (zad rfl) ?_
   refine zag (zae (T':=[(2,_),(3,_),(4,_),(5,_),(12,_),(13,_)]) ⟨rfl,rfl,rfl,rfl,rfl,rfl,trivial⟩ ?_)
   refine zas ?_
   refine zbf (X:=Int×Int) (fun⟨k,tp⟩=>[(2,.pointer (some ⟨b2,0,none⟩)),(3,.pointer (some ⟨b3,0,none⟩)),(4,.pointer (some ⟨b4,0,none⟩)),(5,.pointer (some ⟨b5,0,none⟩)),(12,.slice p114.1 (zbi v s).length p114.2),(13,.int .i64 k)]) (fun⟨k,tp⟩=>[Row p114.1 3 p114.2 88 zcm (zbi v s),Row p17.1 2 p17.2 50 zbq (zaj s),Box b5 [.int .i64 (zcJ v s),.int .i64 (zca v s),.int .i64 (zdl v s),.int .i64 tp,.int .i64 0,.int .i64 0,.int .i64 0] 84,Box b4 [.int .i64 0,.int .i64 0,.int .i64 0,.int .i64 0,.int .i64 0,.int .i64 0,.int .i64 0] 84,Box b3 [.string s.name,.int .i64 s.base,.int .i64 s.batter,.int .i64 s.height,.int .i64 s.skin,.slice a s.heights.length cap,.int .i64 s.least,.int .i64 s.lap,.int .i64 s.run,.int .i64 s.every,.int .i64 s.at_,.int .i64 s.footing,.int .i64 s.spread,.int .u8 s.cope,.int .i64 s.tall,.int .i64 s.short,.int .i64 s.thick,.int .i64 s.low,.int .i64 s.high,.int .i64 s.rood] 37,Box b2 [.string v.name,.string v.sheet,.int .i64 v.length,.slice b v.opens.length bcap] 65]) (fun⟨k,tp⟩=>(0≤k∧k≤(zbi v s).length∧0≤tp∧tp+topS s ((zbi v s).drop k.toNat)=topL v s)) (fun⟨k,tp⟩=>((zbi v s).length - k).toNat) (0,0) ⟨rfl,rfl,rfl,rfl,rfl,rfl,trivial⟩ rfl ?_ ?_
   ·exact⟨by omega,by omega,by omega,Int.zero_add _⟩
   ·rintro ⟨k,tp⟩ hI
    obtain⟨u0,u1,u2,u3⟩:=hI
    refine zac ?_
    refine zac ?_
    refine zaa ?_
    refine gk_y rfl rfl (zaf rfl) ?_
    refine gk_y rfl rfl (zaf rfl) ?_
    refine gk_y rfl rfl (zaV (Tryz.underlying82) rfl) ?_
    refine gk_y rfl rfl (zbw rfl rfl) ?_
    refine zag (zae (T':=[(2,_),(3,_),(4,_),(5,_),(12,_),(13,_),(118,_)]) ⟨rfl,rfl,rfl,rfl,rfl,rfl,rfl,trivial⟩ ?_)
    refine zap rfl (fun hc118=>?_) (fun hc118=>?_)
    ·have hc118:=of_decide_eq_true hc118
     have hkm:=za0 (l:=(zbi v s)) (i:=k.toNat) (by omega)
     have htd:=zlJ (s:=s) u0 hc118
     have htr:=znX (v:=v) hsp (k+1).toNat
     have hti:=(zkv hsp hkm).2
     refine zaq ?_
     refine zac ?_
     refine zas ?_
     refine zbb 20 (fun _=>mixed) (by kernel_rfl) ?_
     refine ph_y (zab zpF rfl) ?_
     refine ph_y (zah 2 tf2 rfl rfl rfl) ?_
     refine ph_y (zaf rfl) ?_
     refine ph_y (zaf rfl) ?_
     refine ph_y (zaE se82 rfl rfl (fun _ hw=>(zam zbc (hw.has (p:=0) rfl))) (by omega) (by omega)) ?_
     refine ph_y (zbh zsV rfl (fun w hw=>zaO (i:=k) (zam zbc (hw.has (p:=0) rfl)) (by omega) (by omega))) ?_
     refine ph_y (zbn tf3 rfl (fun _ hw=>(zam zbc (hw.has (p:=0) rfl))) (by omega) (by omega) rfl) ?_
     refine ph_y (zaf rfl) ?_
     refine ph_y (zaf rfl) ?_
     refine ph_y (zaE se82 rfl rfl (fun _ hw=>(zam zbc (hw.has (p:=0) rfl))) (by omega) (by omega)) ?_
     refine ph_y (zbh zsW rfl (fun w hw=>zaO (i:=k) (zam zbc (hw.has (p:=0) rfl)) (by omega) (by omega))) ?_
     refine ph_y (zbn tf3 rfl (fun _ hw=>(zam zbc (hw.has (p:=0) rfl))) (by omega) (by omega) rfl) ?_
     refine ph_y (zdv rfl rfl) ?_
     refine ph_y (zat 4 tf37 rfl rfl (vs:=[_,_,_,_,_,_,_,_,_,_,_,_,_,_,_,_,_,_,_,_]) rfl rfl) ?_
     refine ph_y (zab zdC rfl) ?_
     refine ph_y (zah 4 tf3 rfl rfl rfl) ?_
     refine ph_y (zaJ en22 rfl (fun w hw=>zkn a cap s _ w)) ?_
     refine ph_y (zdv rfl rfl) ?_
     refine ph_y (zfw rfl rfl) ?_
     refine ph_y (zab zpF rfl) ?_
     refine zae (T':=[(2,_),(3,_),(4,_),(5,_),(12,_),(13,_),(139,_),(140,_)]) ⟨rfl,rfl,rfl,rfl,rfl,rfl,rfl,rfl,trivial⟩ ?_
     refine zaA 2 tf2 rfl rfl (vs:=[_]) rfl rfl rfl rfl rfl ?_
     refine zag (zae (T':=[(2,_),(3,_),(4,_),(5,_),(12,_),(13,_)]) ⟨rfl,rfl,rfl,rfl,rfl,rfl,trivial⟩ ?_)
     refine za2 (R':=Box b5 [.int .i64 (zcJ v s),.int .i64 (zca v s),.int .i64 (zdl v s),.int .i64 (tp+topF s ((zbi v s).getD k.toNat default)),.int .i64 0,.int .i64 0,.int .i64 0] 84) 2 rfl (fun B w hA=>by rw [←ztb (s:=s) hsp hkm u2 (by omega)]; exact hA) ?_
     refine zaa ?_
     refine gk_y rfl rfl (zaf rfl) ?_
     refine gk_y rfl rfl (zaY rfl rfl (by omega) (by omega)) ?_
     refine gk_y rfl rfl (zad rfl) ?_
     refine zag (zae (T':=[(2,_),(3,_),(4,_),(5,_),(12,_),(13,_)]) ⟨rfl,rfl,rfl,rfl,rfl,rfl,trivial⟩ ?_)
     exact za1 (k+1,tp+topF s ((zbi v s).getD k.toNat default)) ⟨rfl,rfl,rfl,rfl,rfl,rfl,trivial⟩ rfl ⟨by omega,by omega,by omega,by omega⟩ (by simp only []; omega)
    ·have hc118:=of_decide_eq_false hc118
     rw [zlI hc118,Int.add_zero] at u3
     refine za8 rfl ?_
     refine zac ?_
     refine zaa ?_
     refine gk_y rfl rfl (zat 5 tf65 rfl rfl (vs:=[_,_,_,_]) rfl rfl) ?_
     refine gk_y rfl rfl (zat 4 tf37 rfl rfl (vs:=[_,_,_,_,_,_,_,_,_,_,_,_,_,_,_,_,_,_,_,_]) rfl rfl) ?_
     refine zaG rfl rfl (zbm en33 rfl (fun w hw=>ziz _ _ v _ _ s w (Rd.has (Has.rd hv) hw) (Rd.has (Has.rd hl) hw) hF hsp)) fun p144=>?_
     refine gk_y rfl rfl (zaf rfl) ?_
     refine gk_y rfl rfl (zaB rfl rfl) ?_
     refine gk_y rfl rfl (zaB rfl rfl) ?_
     refine gk_y rfl rfl (zad rfl) ?_
     refine gk_y rfl rfl (zad rfl) ?_
     refine zag (zae (T':=[(2,_),(3,_),(4,_),(5,_),(12,_),(15,_)]) ⟨rfl,rfl,rfl,rfl,rfl,rfl,trivial⟩ ?_)
     refine zac ?_
     refine zao 3 rfl ?_
     refine zpM [Box b5 [.int .i64 (zcJ v s),.int .i64 (zca v s),.int .i64 (zdl v s),.int .i64 tp,.int .i64 0,.int .i64 0,.int .i64 0] 84] (ch []) 1000 16 [0,1,0,4,0,16,48,0,128,496,3,1027,3087,7183,16383,32767] rfl (fun _=>mixed) (by kernel_rfl) (zjK _ trivial) ?_
     refine zdq (fun ρ=>zaf rfl) (fun ρ ρ' h=>by rfl) ?_
     refine zdq (fun ρ=>zaV (Tryz.underlying35) rfl) (fun ρ ρ' h=>by rfl) ?_
     refine zdq (fun ρ=>zaf rfl) (fun ρ ρ' h=>by rfl) ?_
     refine zdq (fun ρ=>zaV (Tryz.underlying82) rfl) (fun ρ ρ' h=>by rfl) ?_
     refine zdq (fun ρ=>zab zfS rfl) (fun ρ ρ' h=>by rfl) ?_
     refine zdq (fun ρ=>zah 5 tf3 rfl rfl rfl) (fun ρ ρ' h=>by rfl) ?_
     refine zdq (fun ρ=>zq0 rfl rfl (by omega) (by omega)) (fun ρ ρ' h=>by rfl) ?_
     refine zdq (fun ρ=>zab zl7 rfl) (fun ρ ρ' h=>by rfl) ?_
     refine zdq (fun ρ=>zah 4 tf3 rfl rfl rfl) (fun ρ ρ' h=>by rfl) ?_
     refine zdq (fun ρ=>zoI rfl rfl (by have:=hnm.rood; omega)) (fun ρ ρ' h=>by rfl) ?_
     refine zdq (fun ρ=>zab zsQ rfl) (fun ρ ρ' h=>by rfl) ?_
     refine zjr (R:=fun ρ=>Box b5 [.int .i64 (zcJ v s),.int .i64 (zca v s),.int .i64 (zdl v s),.int .i64 tp,.int .i64 0,.int .i64 0,.int .i64 0] 84) (A:=fun ρ=>Box b5 [.int .i64 (zcJ v s),.int .i64 (zca v s),.int .i64 (zdl v s),.int .i64 tp,.int .i64 ((thrL v s).length:Int),.int .i64 0,.int .i64 0] 84) 1000 rfl (by kernel_rfl) (fun _=>by kernel_rfl) (fun ρ=>zex tf3 rfl rfl (vs:=[_]) rfl rfl rfl rfl rfl) (fun ρ ρ' h=>by rfl) ?_
     refine zdq (fun ρ=>zab zsR rfl) (fun ρ ρ' h=>by rfl) ?_
     refine zjr (R:=fun ρ=>Box b5 [.int .i64 (zcJ v s),.int .i64 (zca v s),.int .i64 (zdl v s),.int .i64 tp,.int .i64 ((thrL v s).length:Int),.int .i64 0,.int .i64 0] 84) (A:=fun ρ=>Box b5 [.int .i64 (zcJ v s),.int .i64 (zca v s),.int .i64 (zdl v s),.int .i64 tp,.int .i64 ((thrL v s).length:Int),.int .i64 ((zbi v s).length:Int),.int .i64 0] 84) 1000 rfl (by kernel_rfl) (fun _=>by kernel_rfl) (fun ρ=>zex tf3 rfl rfl (vs:=[_]) rfl rfl rfl rfl rfl) (fun ρ ρ' h=>by rfl) ?_
     refine zdq (fun ρ=>zab zsS rfl) (fun ρ ρ' h=>by rfl) ?_
     refine zjr (R:=fun ρ=>Box b5 [.int .i64 (zcJ v s),.int .i64 (zca v s),.int .i64 (zdl v s),.int .i64 tp,.int .i64 ((thrL v s).length:Int),.int .i64 ((zbi v s).length:Int),.int .i64 0] 84) (A:=fun ρ=>Box b5 [.int .i64 (zcJ v s),.int .i64 (zca v s),.int .i64 (zdl v s),.int .i64 tp,.int .i64 ((thrL v s).length:Int),.int .i64 ((zbi v s).length:Int),.int .i64 (IntKind.i64.wrap (Int.tdiv (100*v.length) s.rood))] 84) 1000 rfl (by kernel_rfl) (fun _=>by kernel_rfl) (fun ρ=>zex tf3 rfl rfl (vs:=[_]) rfl rfl rfl rfl rfl) (fun ρ ρ' h=>by rfl) ?_
     refine fun ρ=>zag (zpT (T':=[(4,.pointer (some ⟨b4,0,none⟩)),(5,.pointer (some ⟨b5,0,none⟩))]) (H':=[Box b5 [.int .i64 (zcJ v s),.int .i64 (zca v s),.int .i64 (zdl v s),.int .i64 tp,.int .i64 ((thrL v s).length:Int),.int .i64 ((zbi v s).length:Int),.int .i64 (IntKind.i64.wrap (Int.tdiv (100*v.length) s.rood))] 84,Row p144.1 1 p144.2 3 Go.Stn.encI (thrL v s),Row p114.1 3 p114.2 88 zcm (zbi v s),Row p17.1 2 p17.2 50 zbq (zaj s),Box b4 [.int .i64 0,.int .i64 0,.int .i64 0,.int .i64 0,.int .i64 0,.int .i64 0,.int .i64 0] 84,Box b3 [.string s.name,.int .i64 s.base,.int .i64 s.batter,.int .i64 s.height,.int .i64 s.skin,.slice a s.heights.length cap,.int .i64 s.least,.int .i64 s.lap,.int .i64 s.run,.int .i64 s.every,.int .i64 s.at_,.int .i64 s.footing,.int .i64 s.spread,.int .u8 s.cope,.int .i64 s.tall,.int .i64 s.short,.int .i64 s.thick,.int .i64 s.low,.int .i64 s.high,.int .i64 s.rood] 37,Box b2 [.string v.name,.string v.sheet,.int .i64 v.length,.slice b v.opens.length bcap] 65]) ⟨rfl,rfl,trivial⟩ rfl ?_)
     refine za2 (R':=Box b5 [.int .i64 (zcJ v s),.int .i64 (zca v s),.int .i64 (zdl v s),.int .i64 (topL v s),.int .i64 ((thrL v s).length:Int),.int .i64 ((zbi v s).length:Int),.int .i64 (zlt v s)] 84) 0 rfl (fun B w hA=>by rw [←zqD hF hsp,←u3]; exact hA) ?_
     refine zac ?_
     refine zaa ?_
     refine gk_y rfl rfl (zat 0 tf84 rfl rfl (vs:=[_,_,_,_,_,_,_]) rfl rfl) ?_
     refine zaA 4 tf84 rfl rfl (vs:=[_,_,_,_,_,_,_]) rfl rfl rfl rfl rfl ?_
     refine zag (zae (T':=[(4,_)]) ⟨rfl,trivial⟩ ?_)
     refine zaw ?_
     refine zay (zaC rfl (zbU (i:=4) (vs:=[_,_,_,_,_,_,_]) tf84 rfl rfl rfl rfl)) ?_
     rfl
end Go.Proofs.YtdcfcfhmkfkgmaaGreatDoor
namespace Go.Proofs.YtdcfcfhmkfkgmaaGreatDoor
open Go.K Go.Stn Go.Pln Go.RowKit
theorem en28:En Tryz.prog 28:=za7 Tryz.func28 (by kernel_rfl) (by kernel_rfl)
def pkB (V:List WlC) (n:ByteArray):Bool:=decide (0≤zaM V n∧(V.getD (zaM V n).toNat default).s.length≤8000)
def pkW (V:List WlC) (n:ByteArray):WlC:=if pkB V n=true then V.getD (zaM V n).toNat default else default
def pkS (S:List ShC) (V:List WlC) (n:ByteArray):ShC:=if pkB V n=true then S.getD (zaS S (V.getD (zaM V n).toNat default).s.sheet).toNat default else default
theorem zuz (S:List ShC) (V:List WlC) (n:ByteArray):zqq S V n=.tuple #[.agg (zbS (pkW V n)).toArray,.agg (zbH (pkS S V n)).toArray,.bool (pkB V n)]:=by
 unfold zqq pkW pkS
 by_cases h:0≤zaM V n∧(V.getD (zaM V n).toNat default).s.length≤8000
 ·have hb:pkB V n=true:=decide_eq_true h
  rw [if_pos h,if_pos hb,if_pos hb,hb]
 ·have hb:pkB V n=false:=decide_eq_false h
  rw [if_neg h,if_neg (by rw [hb]; exact Bool.false_ne_true),if_neg (by rw [hb]; exact Bool.false_ne_true),hb]
theorem zuy (a:Option Addr) (cap:Nat) (S:List ShC) (b:Option Addr) (bcap:Nat) (V:List WlC) (n:ByteArray) (w:World) (hl:Has w (zaW a 20 zbH S)) (hs:zaP S.length) (hlw:Has w (zaW b 4 zbS V)) (hsw:zaP V.length) (hP:zc4 S V=true) :
  Calls Tryz.prog 28 #[.agg #[.slice a S.length cap,.slice b V.length bcap],.string n] w (Pure (.tuple #[.agg (zbS (pkW V n)).toArray,.agg (zbH (pkS S V n)).toArray,.bool (pkB V n)]) w):=by
 have h:=zwc a cap S b bcap V n w hl hs hlw hsw (fun z hz=>(zf8 hP z hz).1)
 rw [zuz] at h
 exact h
theorem zwd {S:List ShC} {V:List WlC} {n:ByteArray} (h:zb6 S V n=0) (hb:pkB V n=true):pkW V n=zaN S V n∧pkS S V n=zar S V n:=by
 obtain⟨h1,h2⟩:=zjR h
 rw [zhF h,zhE h]
 have e1:zhq V n=V.getD (zaM V n).toNat default:=if_pos h2
 have h3:=(zf8 h1 _ (zid h2)).1
 unfold pkW pkS
 rw [if_pos hb,if_pos hb]
 refine⟨e1.symm,?_⟩
 rw [e1] at h3 ⊢
 exact(if_pos h3).symm
end Go.Proofs.YtdcfcfhmkfkgmaaGreatDoor
namespace Go.Proofs.YtdcfcfhmkfkgmaaGreatDoor
open Go.K Go.Stn Go.Pln Go.RowKit
theorem zvX:FO Tryz.prog 87 0 0:=⟨by kernel_rfl⟩
theorem zvY:FO Tryz.prog 88 0 0:=⟨by kernel_rfl⟩
theorem en12:En Tryz.prog 12:=za7 Tryz.func12 (by kernel_rfl) (by kernel_rfl)
theorem en13:En Tryz.prog 13:=za7 Tryz.func13 (by kernel_rfl) (by kernel_rfl)
theorem en14:En Tryz.prog 14:=za7 Tryz.func14 (by kernel_rfl) (by kernel_rfl)
theorem en15:En Tryz.prog 15:=za7 Tryz.func15 (by kernel_rfl) (by kernel_rfl)
theorem en35:En Tryz.prog 35:=za7 Tryz.func35 (by kernel_rfl) (by kernel_rfl)
set_option maxRecDepth 100000 in
theorem zuX {c:Cx} {ds:List Deferred} {H:List Res} {T:List (Nat×Value)} {d:Option Nat} {ty:TypeId} {ps:String} {af:Array Edge} {g:Option (Nat×Bool)} {x y:Operand} {t':TypeId} {a0 a1 a2 a3 a4 a5 a6 c0 c1 c2 c3 c4 c5 c6:Int}
  (hx:evo T x=some (.agg #[.int .i64 a0,.int .i64 a1,.int .i64 a2,.int .i64 a3,.int .i64 a4,.int .i64 a5,.int .i64 a6])) (hy:evo T y=some (.agg #[.int .i64 c0,.int .i64 c1,.int .i64 c2,.int .i64 c3,.int .i64 c4,.int .i64 c5,.int .i64 c6])) (hP:c.P=Tryz.prog:=by rfl):Y c ds H T ⟨d,.binOp .eql 77 x y t',ty,ps,af,g⟩ (.bool ((decide (a0=c0)&&decide (a1=c1)&&decide (a2=c2)&&decide (a3=c3)&&decide (a4=c4)&&decide (a5=c5)&&decide (a6=c6)))):=by
 refine⟨fun a w ha _=>?_⟩
 unfold Yld
 simp only [execOp,ha.eval hx,ha.eval hy]
 rw [hP]
 by_cases h0:a0=c0
 ·subst h0
  by_cases h1:a1=c1
  ·subst h1
   by_cases h2:a2=c2
   ·subst h2
    by_cases h3:a3=c3
    ·subst h3
     by_cases h4:a4=c4
     ·subst h4
      by_cases h5:a5=c5
      ·subst h5
       by_cases h6:a6=c6
       ·subst h6
        (go_simp; try exact Ext.rfl)
       ·(go_simp; try exact Ext.rfl)
      ·(go_simp; try exact Ext.rfl)
     ·(go_simp; try exact Ext.rfl)
    ·(go_simp; try exact Ext.rfl)
   ·(go_simp; try exact Ext.rfl)
  ·(go_simp; try exact Ext.rfl)
 ·(go_simp; try exact Ext.rfl)
set_option maxRecDepth 100000 in
set_option maxHeartbeats 32000000 in
theorem PlanTakes_c (a:Option Addr) (cap:Nat) (S:List ShC) (b:Option Addr) (bcap:Nat) (V:List WlC) (n:ByteArray) (w:World) (hl:Has w (zaW a 20 zbH S)) (hs:zaP S.length) (_hcS:S.length≤cap) (hlw:Has w (zaW b 4 zbS V)) (hsw0:V.length≤4398046511104) (hsh:∀ z∈S,Has w (Ints z.a z.s.heights)) (hwo:∀ z∈V,Has w (zaW z.a 5 zba z.s.opens)) (hcpw:∀ z∈V,z.s.opens.length≤z.cap) (hkn:∀ z∈V,∀ o∈z.s.opens,Knd o) (hfS:∀ z∈S,Fits z.s.name.size) (hfV:∀ z∈V,Fits z.s.name.size) (hco:∀ z∈S,0≤z.s.cope) (hmx:Has w (IntV 2)) (hcp:Has w (zaW (some ⟨0,0,none⟩) 1 encS zeZ)) (hop:Has w (zaW (some ⟨1,0,none⟩) 1 encS opensW)) :
  Calls Tryz.prog 6 #[.agg #[.slice a S.length cap,.slice b V.length bcap],.string n] w (Pure (.bool true) w):=by
 refine zan (vs:=[_,_]) Tryz.func6 rfl rfl (Nat.le_of_ble_eq_true rfl) ?_
 refine zac ?_
 refine zaa ?_
 refine zaG rfl rfl (za3 (vs:=[_,_]) rfl rfl) fun b2=>?_
 refine gk_y rfl rfl (zad rfl) ?_
 refine zag (zae (T':=[(1,_),(2,_),(4,_)]) ⟨rfl,rfl,rfl,trivial⟩ ?_)
 refine zac ?_
 refine zac ?_
 refine zaa ?_
 refine gk_y rfl rfl (zat 0 tf25 rfl rfl (vs:=[_,_]) rfl rfl) ?_
 refine gk_y rfl rfl (zaJ en12 rfl (fun w hw=>zuI _ _ S _ _ V w (Rd.has (Has.rd hl) hw) hs (Rd.has (Has.rd hlw) hw) hsw0 hfS)) ?_
 refine gk_y rfl rfl (zbR rfl) ?_
 refine zag (zae (T':=[(1,_),(2,_),(4,_),(25,_)]) ⟨rfl,rfl,rfl,rfl,trivial⟩ ?_)
 refine zap rfl (fun hc25=>?_) (fun hc25=>?_)
 ·
  refine zac ?_
  refine zaa ?_
  refine gk_y rfl rfl (zaJ en13 rfl (fun w hw=>zkw w (Rd.has (Has.rd hmx) hw) (Rd.has (Has.rd hcp) hw) (Rd.has (Has.rd hop) hw))) ?_
  refine gk_y rfl rfl (zad rfl) ?_
  refine zag (zae (T':=[(1,_),(2,_),(4,_)]) ⟨rfl,rfl,rfl,trivial⟩ ?_)
  refine zaw ?_
  refine zay (zaC rfl (zau rfl)) ?_
  rfl
 ·have hsm:=zmC (S:=S) (V:=V) (by simpa using hc25)
  obtain⟨hss,hsv,hsw,hS1,hV1⟩:=zjv hsm
  refine zaq ?_
  refine zac ?_
  refine zaa ?_
  refine gk_y rfl rfl (zat 0 tf25 rfl rfl (vs:=[_,_]) rfl rfl) ?_
  refine zaG rfl rfl (zbm en14 rfl (fun w hw=>zue _ _ S _ _ V w (Rd.has (Has.rd hl) hw) hs (Rd.has (Has.rd hlw) hw) hsw (fun z hz=>(Rd.has (Has.rd (hsh z hz)) hw)) hss (fun z hz=>(Rd.has (Has.rd (hwo z hz)) hw)) hsv hS1 hV1)) fun p28=>?_
  refine zaG rfl rfl (zaL tf31 (zs:=[_,_]) rfl) fun b5=>?_
  refine zaA 0 tf31 rfl rfl (vs:=[_,_]) rfl rfl rfl rfl rfl ?_
  refine zag (zae (T':=[(1,_),(2,_),(4,_),(5,_)]) ⟨rfl,rfl,rfl,rfl,trivial⟩ ?_)
  refine zao 1 rfl ?_
  obtain⟨⟨ra,rc,S2⟩,⟨rb,rd,V2⟩⟩:=p28
  refine zjk fun hS2 hV2=>?_
  have hS2:S2.map (·.s)=S.map (·.s):=hS2
  have hV2:V2.map (·.s)=V.map (·.s):=hV2
  obtain⟨l1,l2,y1,y2,y3,y4,ykn⟩:=zxG hsm hkn hS2 hV2
  refine za2 (R':=Box b5 [.slice ra S2.length rc,.slice rb V2.length rd] 31) 4 rfl (fun B w hA=>hA) ?_
  have hEE:=zcK hS2 hV2 n
  refine zac ?_
  refine zaa ?_
  refine gk_y rfl rfl (zat 4 tf31 rfl rfl (vs:=[_,_]) rfl rfl) ?_
  refine gk_y rfl rfl (zaf rfl) ?_
  refine zaG rfl rfl (zbm en30 rfl (fun w hw=>zi4 _ _ S2 _ _ V2 n w (zam zbI (hw.has (p:=0) rfl)) y1 (zcM (hw.has (p:=0) rfl)) (zam zbo (hw.has (p:=2) rfl)) y2 (fun z hz2=>zam Go.Stn.encI_ok (zbV (f:=rowH 3) (hw.has (p:=1) rfl) hz2)) y3 (fun z hz2=>zam encOpn_ok (zbV (f:=rowO 98) (hw.has (p:=3) rfl) hz2)) y4 (fun z hz2=>zcM (zbV (f:=rowO 98) (hw.has (p:=3) rfl) hz2)) ykn)) fun p32=>?_
  refine gk_y rfl rfl (zaf rfl) ?_
  refine gk_y rfl rfl (zaB rfl rfl) ?_
  refine gk_y rfl rfl (zaB rfl rfl) ?_
  refine gk_y rfl rfl (zaB rfl rfl) ?_
  refine gk_y rfl rfl (zad rfl) ?_
  refine gk_y rfl rfl (zad rfl) ?_
  refine gk_y rfl rfl (zad rfl) ?_
  refine zag (zae (T':=[(1,_),(2,_),(4,_),(5,_),(6,_),(7,_),(8,_)]) ⟨rfl,rfl,rfl,rfl,rfl,rfl,rfl,trivial⟩ ?_)
  refine zac ?_
  refine zaa ?_
  refine gk_y rfl rfl (zat 5 tf31 rfl rfl (vs:=[_,_]) rfl rfl) ?_
  refine gk_y rfl rfl (zaf rfl) ?_
  refine zaG rfl rfl (zbm en31 rfl (fun w hw=>zoL _ _ S2 _ _ V2 n w (zam zbI (hw.has (p:=1) rfl)) y1 (zcM (hw.has (p:=1) rfl)) (zam zbo (hw.has (p:=3) rfl)) y2 (fun z hz2=>zam Go.Stn.encI_ok (zbV (f:=rowH 3) (hw.has (p:=2) rfl) hz2)) y3 (fun z hz2=>zam encOpn_ok (zbV (f:=rowO 98) (hw.has (p:=4) rfl) hz2)) y4 (fun z hz2=>zcM (zbV (f:=rowO 98) (hw.has (p:=4) rfl) hz2)) ykn)) fun p39=>?_
  refine gk_y rfl rfl (zaf rfl) ?_
  refine gk_y rfl rfl (zaB rfl rfl) ?_
  refine gk_y rfl rfl (zaB rfl rfl) ?_
  refine gk_y rfl rfl (zad rfl) ?_
  refine gk_y rfl rfl (zad rfl) ?_
  refine zag (zae (T':=[(1,_),(2,_),(4,_),(5,_),(6,_),(7,_),(8,_),(9,_),(10,_)]) ⟨rfl,rfl,rfl,rfl,rfl,rfl,rfl,rfl,rfl,trivial⟩ ?_)
  refine zac ?_
  refine zaa ?_
  refine gk_y rfl rfl (zat 6 tf31 rfl rfl (vs:=[_,_]) rfl rfl) ?_
  refine gk_y rfl rfl (zaf rfl) ?_
  refine gk_y rfl rfl (zaJ en32 rfl (fun w hw=>zsB _ _ S2 _ _ V2 n w (zam zbI (hw.has (p:=2) rfl)) y1 (zcM (hw.has (p:=2) rfl)) (zam zbo (hw.has (p:=4) rfl)) y2 (fun z hz2=>zam Go.Stn.encI_ok (zbV (f:=rowH 3) (hw.has (p:=3) rfl) hz2)) y3 (fun z hz2=>zam encOpn_ok (zbV (f:=rowO 98) (hw.has (p:=5) rfl) hz2)) y4 (fun z hz2=>zcM (zbV (f:=rowO 98) (hw.has (p:=5) rfl) hz2)) ykn)) ?_
  refine gk_y rfl rfl (zaf rfl) ?_
  refine gk_y rfl rfl (zaB rfl rfl) ?_
  refine gk_y rfl rfl (zaB rfl rfl) ?_
  refine zaG rfl rfl (zaL tf77 (zs:=[_,_,_,_,_,_,_]) rfl) fun b11=>?_
  refine zaA 0 tf77 rfl rfl (vs:=[_,_,_,_,_,_,_]) rfl rfl rfl rfl rfl ?_
  refine gk_y rfl rfl (zad rfl) ?_
  refine zag (zae (T':=[(1,_),(2,_),(4,_),(6,_),(7,_),(8,_),(9,_),(10,_),(11,_),(12,_)]) ⟨rfl,rfl,rfl,rfl,rfl,rfl,rfl,rfl,rfl,rfl,trivial⟩ ?_)
  refine zac ?_
  refine zaa ?_
  refine gk_y rfl rfl (zad rfl) ?_
  refine zag (zae (T':=[(1,_),(2,_),(4,_),(6,_),(7,_),(8,_),(9,_),(10,_),(11,_),(12,_),(13,_)]) ⟨rfl,rfl,rfl,rfl,rfl,rfl,rfl,rfl,rfl,rfl,rfl,trivial⟩ ?_)
  refine zih (X:=Unit) (fun _=>[(1,.string n),(2,.pointer (some ⟨b2,0,none⟩)),(4,.bool false),(6,.int .i64 (ziJ S2 V2 n)),(7,.slice p32.1 (zei S2 V2 n).length p32.2),(8,.int .i64 (zb6 S2 V2 n)),(9,.slice p39.1 (zcF S2 V2 n).length p39.2),(10,.int .i64 (zb6 S2 V2 n)),(11,.pointer (some ⟨b11,0,none⟩)),(12,.int .i64 (zb6 S2 V2 n)),(13,.int .i64 (zb6 S V n))]) (fun _=>[Box b11 [.int .i64 ((zcx S2 V2 n).face),.int .i64 ((zcx S2 V2 n).heart),.int .i64 ((zcx S2 V2 n).foot),.int .i64 ((zcx S2 V2 n).top),.int .i64 ((zcx S2 V2 n).throughs),.int .i64 ((zcx S2 V2 n).copes),.int .i64 ((zcx S2 V2 n).roods)] 77,Row p39.1 3 p39.2 87 zcm (zcF S2 V2 n),Row p32.1 1 p32.2 3 Go.Stn.encI (zei S2 V2 n),Row ra 20 rc 41 zbH S2,Go.K.Rows (rowH 3) S2,Row rb 4 rd 94 zbS V2,Go.K.Rows (rowO 98) V2,Box b5 [.slice ra S2.length rc,.slice rb V2.length rd] 31,Box b2 [.slice a S.length cap,.slice b V.length bcap] 25]) (fun _=>True) ?_ ?_
  ·
   refine zac ?_
   refine zaa ?_
   refine gk_y rfl rfl (zat 8 tf25 rfl rfl (vs:=[_,_]) rfl rfl) ?_
   refine gk_y rfl rfl (zaJ en15 rfl (fun w hw=>zsf _ _ S _ _ V w (Rd.has (Has.rd hl) hw) hs (Rd.has (Has.rd hlw) hw) hsw (fun z hz=>(Rd.has (Has.rd (hsh z hz)) hw)) hss (fun z hz=>(Rd.has (Has.rd (hwo z hz)) hw)) hsv hcpw hkn hfS hfV hco)) ?_
   refine gk_y rfl rfl (zbR rfl) ?_
   refine zag (zae (T':=[(1,_),(2,_),(4,_),(6,_),(7,_),(8,_),(9,_),(10,_),(11,_),(12,_),(13,_),(50,_)]) ⟨rfl,rfl,rfl,rfl,rfl,rfl,rfl,rfl,rfl,rfl,rfl,rfl,trivial⟩ ?_)
   refine zap rfl (fun hc50=>?_) (fun hc50=>?_)
   ·have hP:¬ zc4 S V=true:=by simpa using hc50
    have hfe:=zm8 (n:=n) hP
    refine zaa ?_
    refine gk_y rfl rfl (zad rfl) ?_
    refine zag (zae (T':=[(1,_),(2,_),(4,_),(6,_),(7,_),(8,_),(9,_),(10,_),(11,_),(12,_),(13,_)]) ⟨rfl,rfl,rfl,rfl,rfl,rfl,rfl,rfl,rfl,rfl,rfl,trivial⟩ ?_)
    exact zb9 () ⟨rfl,rfl,rfl,rfl,rfl,rfl,rfl,rfl,rfl,rfl,(by(rw [hfe]; rfl)),trivial⟩ rfl trivial
   ·have hP:zc4 S V=true:=by simpa using hc50
    refine zac ?_
    refine zaa ?_
    refine gk_y rfl rfl (zat 8 tf25 rfl rfl (vs:=[_,_]) rfl rfl) ?_
    refine gk_y rfl rfl (zaf rfl) ?_
    refine gk_y rfl rfl (zaJ en27 rfl (fun w hw=>zf9 _ _ _ _ _ V _ w (Rd.has (Has.rd hlw) hw) hsw)) ?_
    refine gk_y rfl rfl (zbw rfl rfl) ?_
    refine zag (zae (T':=[(1,_),(2,_),(4,_),(6,_),(7,_),(8,_),(9,_),(10,_),(11,_),(12,_),(13,_),(54,_)]) ⟨rfl,rfl,rfl,rfl,rfl,rfl,rfl,rfl,rfl,rfl,rfl,rfl,trivial⟩ ?_)
    refine zap rfl (fun hc54=>?_) (fun hc54=>?_)
    ·have hfe:=zkV hP (show ¬ 0≤zaM V n by have:=of_decide_eq_true hc54; omega)
     refine zaa ?_
     refine gk_y rfl rfl (zad rfl) ?_
     refine zag (zae (T':=[(1,_),(2,_),(4,_),(6,_),(7,_),(8,_),(9,_),(10,_),(11,_),(12,_),(13,_)]) ⟨rfl,rfl,rfl,rfl,rfl,rfl,rfl,rfl,rfl,rfl,rfl,trivial⟩ ?_)
     exact zb9 () ⟨rfl,rfl,rfl,rfl,rfl,rfl,rfl,rfl,rfl,rfl,(by(rw [hfe]; rfl)),trivial⟩ rfl trivial
    ·have hfe:=zpp hP (show 0≤zaM V n by have:=of_decide_eq_false hc54; omega)
     refine zaq ?_
     exact zb9 () ⟨rfl,rfl,rfl,rfl,rfl,rfl,rfl,rfl,rfl,rfl,(by(rw [hfe]; rfl)),trivial⟩ rfl trivial
  ·rintro _ hJ
   refine zac ?_
   refine zac ?_
   refine zaa ?_
   refine gk_y rfl rfl (zaf rfl) ?_
   refine gk_y rfl rfl (zcr rfl rfl) ?_
   refine zag (zae (T':=[(1,_),(2,_),(4,_),(6,_),(7,_),(8,_),(9,_),(10,_),(11,_),(12,_),(13,_),(56,_)]) ⟨rfl,rfl,rfl,rfl,rfl,rfl,rfl,rfl,rfl,rfl,rfl,rfl,trivial⟩ ?_)
   refine zap rfl (fun hc56=>?_) (fun hc56=>?_)
   ·have hne:¬ zb6 S V n=0:=by simpa using hc56
    have hz1:ziJ S2 V2 n=0:=by rw [ziK hS2 hV2]; exact if_neg hne
    have hz2:(zei S2 V2 n)=[]:=by rw [ziL hS2 hV2]; exact if_neg hne
    have hz3:(zcF S2 V2 n)=[]:=by rw [zhb hS2 hV2]; exact if_neg hne
    have hz4:zcx S2 V2 n=⟨0,0,0,0,0,0,0⟩:=by rw [ziH hS2 hV2]; exact if_neg hne
    have hl2:(zei S2 V2 n).length=0:=by rw [hz2]; rfl
    have hl3:(zcF S2 V2 n).length=0:=by rw [hz3]; rfl
    refine zac ?_
    refine zaa ?_
    refine gk_y rfl rfl (zaf rfl) ?_
    refine gk_y rfl rfl (zaf rfl) ?_
    refine gk_y rfl rfl (zbQ (zbL rfl rfl) (by exact decide_eq_true hEE)) ?_
    refine gk_y rfl rfl (zaf rfl) ?_
    refine zai rfl rfl rfl rfl (fun _=>?_) (fun h=>absurd h (by decide))
    refine gk_y rfl rfl (zaf rfl) ?_
    refine zai rfl rfl rfl rfl (fun _=>?_) (fun h=>absurd h (by decide))
    refine gk_y rfl rfl (zaf rfl) ?_
    refine zai rfl rfl rfl rfl (fun _=>?_) (fun h=>absurd h (by decide))
    refine gk_y rfl rfl (zbQ (zbL rfl rfl) (by exact decide_eq_true hEE)) ?_
    refine gk_y rfl rfl (za5 rfl rfl rfl) ?_
    refine gk_y rfl rfl (zaf rfl) ?_
    refine zai rfl rfl rfl rfl (fun _=>?_) (fun h=>absurd h (by decide))
    refine gk_y rfl rfl (zaf rfl) ?_
    refine zai rfl rfl rfl rfl (fun _=>?_) (fun h=>absurd h (by decide))
    refine gk_y rfl rfl (zaf rfl) ?_
    refine zai rfl rfl rfl rfl (fun _=>?_) (fun h=>absurd h (by decide))
    refine gk_y rfl rfl (zbQ (zbL rfl rfl) (by exact decide_eq_true hEE)) ?_
    refine gk_y rfl rfl (za5 rfl rfl rfl) ?_
    refine gk_y rfl rfl (zaf rfl) ?_
    refine zai rfl rfl rfl rfl (fun _=>?_) (fun h=>absurd h (by decide))
    refine gk_y rfl rfl (zaf rfl) ?_
    refine zai rfl rfl rfl rfl (fun _=>?_) (fun h=>absurd h (by decide))
    refine gk_y rfl rfl (zbQ (zbL rfl rfl) (by exact decide_eq_true hz1)) ?_
    refine gk_y rfl rfl (za5 rfl rfl rfl) ?_
    refine gk_y rfl rfl (zaf rfl) ?_
    refine zai rfl rfl rfl rfl (fun _=>?_) (fun h=>absurd h (by decide))
    refine gk_y rfl rfl (zaf rfl) ?_
    refine zai rfl rfl rfl rfl (fun _=>?_) (fun h=>absurd h (by decide))
    refine gk_y rfl rfl (zaV (Tryz.underlying35) rfl) ?_
    refine zai rfl rfl rfl rfl (fun _=>?_) (fun h=>absurd h (by decide))
    refine gk_y rfl rfl (zaf rfl) ?_
    refine zai rfl rfl rfl rfl (fun _=>?_) (fun h=>absurd h (by decide))
    refine gk_y rfl rfl (zaV (Tryz.underlying73) rfl) ?_
    refine zai rfl rfl rfl rfl (fun _=>?_) (fun h=>absurd h (by decide))
    refine gk_y rfl rfl (zaY rfl rfl (by omega) (by omega)) ?_
    refine zai rfl rfl rfl rfl (fun _=>?_) (fun h=>absurd h (by decide))
    refine gk_y rfl rfl (zbQ (zbL rfl rfl) (by exact decide_eq_true (by omega))) ?_
    refine gk_y rfl rfl (za5 rfl rfl rfl) ?_
    refine gk_y rfl rfl (zaf rfl) ?_
    refine zai rfl rfl rfl rfl (fun _=>?_) (fun h=>absurd h (by decide))
    refine gk_y rfl rfl (zat 0 tf77 rfl rfl (vs:=[_,_,_,_,_,_,_]) rfl rfl) ?_
    refine zai rfl rfl rfl rfl (fun _=>?_) (fun h=>absurd h (by decide))
    refine gk_y rfl rfl (zaI (parts:=[]) rfl zva) ?_
    refine zai rfl rfl rfl rfl (fun _=>?_) (fun h=>absurd h (by decide))
    refine gk_y rfl rfl (zbQ (zuX rfl rfl) (by rw [hz4]; rfl)) ?_
    refine gk_y rfl rfl (za5 rfl rfl rfl) ?_
    refine gk_y rfl rfl (zaf rfl) ?_
    refine zai rfl rfl rfl rfl (fun _=>?_) (fun h=>absurd h (by decide))
    refine gk_y rfl rfl (zaJ en13 rfl (fun w hw=>zkw w (Rd.has (Has.rd hmx) hw) (Rd.has (Has.rd hcp) hw) (Rd.has (Has.rd hop) hw))) ?_
    refine gk_y rfl rfl (za5 rfl rfl rfl) ?_
    refine gk_y rfl rfl (zad rfl) ?_
    refine zag (zae (T':=[(1,_),(2,_),(4,_),(6,_),(7,_),(8,_),(9,_),(10,_),(11,_),(12,_)]) ⟨rfl,rfl,rfl,rfl,rfl,rfl,rfl,rfl,rfl,rfl,trivial⟩ ?_)
    refine zaw ?_
    refine zay (zaC rfl (zau rfl)) ?_
    rfl
   ·have hfe:zb6 S V n=0:=by simpa using hc56
    have hP:=(zjR hfe).1
    refine zaq ?_
    refine zac ?_
    refine zaa ?_
    refine gk_y rfl rfl (zat 8 tf25 rfl rfl (vs:=[_,_]) rfl rfl) ?_
    refine gk_y rfl rfl (zaf rfl) ?_
    refine gk_y rfl rfl (zaJ en28 rfl (fun w hw=>zuy _ _ S _ _ V n w (Rd.has (Has.rd hl) hw) hs (Rd.has (Has.rd hlw) hw) hsw hP)) ?_
    refine gk_y rfl rfl (zaf rfl) ?_
    refine gk_y rfl rfl (zaB rfl rfl) ?_
    refine gk_y rfl rfl (zaB rfl rfl) ?_
    refine gk_y rfl rfl (zaB rfl rfl) ?_
    refine zaG rfl rfl (zaL tf65 (zs:=[_,_,_,_]) rfl) fun b14=>?_
    refine zaG rfl rfl (zaL tf37 (zs:=[_,_,_,_,_,_,_,_,_,_,_,_,_,_,_,_,_,_,_,_]) rfl) fun b15=>?_
    refine zaA 1 tf65 rfl rfl (vs:=[_,_,_,_]) rfl rfl rfl rfl rfl ?_
    refine zbz 0 tf37 rfl rfl (vs:=[_,_,_,_,_,_,_,_,_,_,_,_,_,_,_,_,_,_,_,_]) rfl rfl rfl rfl rfl ?_
    refine gk_y rfl rfl (zad rfl) ?_
    refine zag (zae (T':=[(4,_),(6,_),(7,_),(8,_),(9,_),(10,_),(11,_),(12,_),(14,_),(15,_),(16,_)]) ⟨rfl,rfl,rfl,rfl,rfl,rfl,rfl,rfl,rfl,rfl,rfl,trivial⟩ ?_)
    refine zac ?_
    refine zac ?_
    refine zaa ?_
    refine gk_y rfl rfl (zaf rfl) ?_
    refine gk_y rfl rfl (zbR rfl) ?_
    refine zag (zae (T':=[(4,_),(6,_),(7,_),(8,_),(9,_),(10,_),(11,_),(12,_),(14,_),(15,_),(98,_)]) ⟨rfl,rfl,rfl,rfl,rfl,rfl,rfl,rfl,rfl,rfl,rfl,trivial⟩ ?_)
    refine zap rfl (fun hc98=>?_) (fun hc98=>?_)
    ·
     refine zac ?_
     refine zaa ?_
     refine gk_y rfl rfl (zaJ en13 rfl (fun w hw=>zkw w (Rd.has (Has.rd hmx) hw) (Rd.has (Has.rd hcp) hw) (Rd.has (Has.rd hop) hw))) ?_
     refine gk_y rfl rfl (zad rfl) ?_
     refine zag (zae (T':=[(4,_),(6,_),(7,_),(8,_),(9,_),(10,_),(11,_),(12,_),(14,_),(15,_)]) ⟨rfl,rfl,rfl,rfl,rfl,rfl,rfl,rfl,rfl,rfl,trivial⟩ ?_)
     refine zaw ?_
     refine zay (zaC rfl (zau rfl)) ?_
     rfl
    ·have hpb:pkB V n=true:=by simpa using hc98
     obtain⟨hpw,hps⟩:=zwd hfe hpb
     obtain⟨hmw,hms,hsp,hWF⟩:=zfu hfe
     have hnm:=zaZ hsp
     have hpkW:Has w (zaW (pkW V n).a 5 zba (pkW V n).s.opens):=by rw [hpw]; exact hwo _ hmw
     have hpkS:Has w (Ints (pkS S V n).a (pkS S V n).s.heights):=by rw [hps]; exact hsh _ hms
     rw [←hps] at hnm hsp hWF
     rw [←hpw] at hWF
     have hT1:ziJ S2 V2 n=zi2 (pkS S V n).s:=by rw [ziK hS2 hV2,hps]; exact if_pos hfe
     have hT2:(zei S2 V2 n)=(thrL (pkW V n).s (pkS S V n).s):=by rw [ziL hS2 hV2,hps,hpw]; exact if_pos hfe
     have hT3:(zcF S2 V2 n)=(zbi (pkW V n).s (pkS S V n).s):=by rw [zhb hS2 hV2,hps,hpw]; exact if_pos hfe
     have hT4:zcx S2 V2 n=(zdz (pkW V n).s (pkS S V n).s):=by rw [ziH hS2 hV2,hps,hpw]; exact if_pos hfe
     have hev0:0≤(pkS S V n).s.every:=by by_cases h:(pkS S V n).s.every=0 <;> first | omega | (have:=zjQ hsp h; omega)
     have hq2:(zei S2 V2 n).length=(thrL (pkW V n).s (pkS S V n).s).length:=by rw [hT2]
     have hq3:(zcF S2 V2 n).length=(zbi (pkW V n).s (pkS S V n).s).length:=by rw [hT3]
     have hn2:=zsn hWF hev0
     have hn3:=zfB hWF
     refine zaq ?_
     refine zac ?_
     refine zaa ?_
     refine gk_y rfl rfl (zat 1 tf65 rfl rfl (vs:=[_,_,_,_]) rfl rfl) ?_
     refine gk_y rfl rfl (zat 0 tf37 rfl rfl (vs:=[_,_,_,_,_,_,_,_,_,_,_,_,_,_,_,_,_,_,_,_]) rfl rfl) ?_
     refine zaG rfl rfl (zbm en33 rfl (fun w hw=>ziz _ _ (pkW V n).s _ _ (pkS S V n).s w (Rd.has (Has.rd hpkW) hw) (Rd.has (Has.rd hpkS) hw) hWF hsp)) fun p103=>?_
     refine gk_y rfl rfl (zaf rfl) ?_
     refine gk_y rfl rfl (zaB rfl rfl) ?_
     refine gk_y rfl rfl (zaB rfl rfl) ?_
     refine gk_y rfl rfl (zad rfl) ?_
     refine gk_y rfl rfl (zad rfl) ?_
     refine zag (zae (T':=[(4,_),(6,_),(7,_),(8,_),(9,_),(10,_),(11,_),(12,_),(14,_),(15,_),(17,_),(18,_)]) ⟨rfl,rfl,rfl,rfl,rfl,rfl,rfl,rfl,rfl,rfl,rfl,rfl,trivial⟩ ?_)
     refine zac ?_
     refine zaa ?_
     refine gk_y rfl rfl (zat 2 tf65 rfl rfl (vs:=[_,_,_,_]) rfl rfl) ?_
     refine gk_y rfl rfl (zat 1 tf37 rfl rfl (vs:=[_,_,_,_,_,_,_,_,_,_,_,_,_,_,_,_,_,_,_,_]) rfl rfl) ?_
     refine zaG rfl rfl (zbm en34 rfl (fun w hw=>znK _ _ (pkW V n).s _ _ (pkS S V n).s w (Rd.has (Has.rd hpkW) hw) (Rd.has (Has.rd hpkS) hw) hWF hsp)) fun p108=>?_
     refine gk_y rfl rfl (zad rfl) ?_
     refine zag (zae (T':=[(4,_),(6,_),(7,_),(8,_),(9,_),(10,_),(11,_),(12,_),(14,_),(15,_),(17,_),(18,_),(19,_)]) ⟨rfl,rfl,rfl,rfl,rfl,rfl,rfl,rfl,rfl,rfl,rfl,rfl,rfl,trivial⟩ ?_)
     refine zac ?_
     refine zaa ?_
     refine gk_y rfl rfl (zat 3 tf65 rfl rfl (vs:=[_,_,_,_]) rfl rfl) ?_
     refine gk_y rfl rfl (zat 2 tf37 rfl rfl (vs:=[_,_,_,_,_,_,_,_,_,_,_,_,_,_,_,_,_,_,_,_]) rfl rfl) ?_
     refine gk_y rfl rfl (zaJ en35 rfl (fun w hw=>zsd _ _ (pkW V n).s _ _ (pkS S V n).s w (Rd.has (Has.rd hpkW) hw) (Rd.has (Has.rd hpkS) hw) hWF hsp)) ?_
     refine zaG rfl rfl (zaL tf84 (zs:=[_,_,_,_,_,_,_]) rfl) fun b20=>?_
     refine zaA 0 tf84 rfl rfl (vs:=[_,_,_,_,_,_,_]) rfl rfl rfl rfl rfl ?_
     refine zag (zae (T':=[(4,_),(6,_),(7,_),(8,_),(9,_),(10,_),(11,_),(12,_),(17,_),(18,_),(19,_),(20,_)]) ⟨rfl,rfl,rfl,rfl,rfl,rfl,rfl,rfl,rfl,rfl,rfl,rfl,trivial⟩ ?_)
     refine zac ?_
     refine zac ?_
     refine zaa ?_
     refine gk_y rfl rfl (zaf rfl) ?_
     refine gk_y rfl rfl (zdB (b':=false) (zcr rfl rfl) (by rw [hEE,hfe]; rfl)) ?_
     refine gk_y rfl rfl (zaf rfl) ?_
     refine zai rfl rfl rfl rfl (fun _=>?_) (fun h=>absurd h (by decide))
     refine gk_y rfl rfl (zaf rfl) ?_
     refine zai rfl rfl rfl rfl (fun _=>?_) (fun h=>absurd h (by decide))
     refine gk_y rfl rfl (zdB (b':=false) (zcr rfl rfl) (by rw [hEE,hfe]; rfl)) ?_
     refine gk_y rfl rfl (za5 rfl rfl rfl) ?_
     refine gk_y rfl rfl (zaf rfl) ?_
     refine zai rfl rfl rfl rfl (fun _=>?_) (fun h=>absurd h (by decide))
     refine gk_y rfl rfl (zaf rfl) ?_
     refine zai rfl rfl rfl rfl (fun _=>?_) (fun h=>absurd h (by decide))
     refine gk_y rfl rfl (zdB (b':=false) (zcr rfl rfl) (by rw [hEE,hfe]; rfl)) ?_
     refine gk_y rfl rfl (za5 rfl rfl rfl) ?_
     refine gk_y rfl rfl (zaf rfl) ?_
     refine zai rfl rfl rfl rfl (fun _=>?_) (fun h=>absurd h (by decide))
     refine gk_y rfl rfl (zaf rfl) ?_
     refine zai rfl rfl rfl rfl (fun _=>?_) (fun h=>absurd h (by decide))
     refine gk_y rfl rfl (zaf rfl) ?_
     refine zai rfl rfl rfl rfl (fun _=>?_) (fun h=>absurd h (by decide))
     refine gk_y rfl rfl (zdB (b':=false) (zcr rfl rfl) (by rw [hT1]; simp)) ?_
     refine gk_y rfl rfl (za5 rfl rfl rfl) ?_
     refine gk_y rfl rfl (zaf rfl) ?_
     refine zai rfl rfl rfl rfl (fun _=>?_) (fun h=>absurd h (by decide))
     refine gk_y rfl rfl (zaf rfl) ?_
     refine zai rfl rfl rfl rfl (fun _=>?_) (fun h=>absurd h (by decide))
     refine gk_y rfl rfl (zaV (Tryz.underlying35) rfl) ?_
     refine zai rfl rfl rfl rfl (fun _=>?_) (fun h=>absurd h (by decide))
     refine gk_y rfl rfl (zaf rfl) ?_
     refine zai rfl rfl rfl rfl (fun _=>?_) (fun h=>absurd h (by decide))
     refine gk_y rfl rfl (zaV (Tryz.underlying35) rfl) ?_
     refine zai rfl rfl rfl rfl (fun _=>?_) (fun h=>absurd h (by decide))
     refine gk_y rfl rfl (zdB (b':=false) (zcr rfl rfl) (by rw [hT2]; simp)) ?_
     refine gk_y rfl rfl (za5 rfl rfl rfl) ?_
     refine gk_y rfl rfl (zaf rfl) ?_
     refine zai rfl rfl rfl rfl (fun _=>?_) (fun h=>absurd h (by decide))
     refine gk_y rfl rfl (zaf rfl) ?_
     refine zai rfl rfl rfl rfl (fun _=>?_) (fun h=>absurd h (by decide))
     refine gk_y rfl rfl (zaV (Tryz.underlying73) rfl) ?_
     refine zai rfl rfl rfl rfl (fun _=>?_) (fun h=>absurd h (by decide))
     refine gk_y rfl rfl (zaf rfl) ?_
     refine zai rfl rfl rfl rfl (fun _=>?_) (fun h=>absurd h (by decide))
     refine gk_y rfl rfl (zaV (Tryz.underlying82) rfl) ?_
     refine zai rfl rfl rfl rfl (fun _=>?_) (fun h=>absurd h (by decide))
     refine gk_y rfl rfl (zdB (b':=false) (zcr rfl rfl) (by rw [hT3]; simp)) ?_
     refine gk_y rfl rfl (za5 rfl rfl rfl) ?_
     refine zag (zae (T':=[(4,_),(7,_),(9,_),(11,_),(18,_),(19,_),(20,_),(140,_)]) ⟨rfl,rfl,rfl,rfl,rfl,rfl,rfl,rfl,trivial⟩ ?_)
     refine zd8 rfl ?_
     refine zaq ?_
     refine zac ?_
     refine zac ?_
     refine zaa ?_
     refine gk_y rfl rfl (zad rfl) ?_
     refine zag (zae (T':=[(4,_),(7,_),(9,_),(11,_),(18,_),(19,_),(20,_),(21,_)]) ⟨rfl,rfl,rfl,rfl,rfl,rfl,rfl,rfl,trivial⟩ ?_)
     refine zas ?_
     refine zbf (X:=Int) (fun(i:Int)=>[(4,.bool false),(7,.slice p32.1 (zei S2 V2 n).length p32.2),(9,.slice p39.1 (zcF S2 V2 n).length p39.2),(11,.pointer (some ⟨b11,0,none⟩)),(18,.slice p103.1 (thrL (pkW V n).s (pkS S V n).s).length p103.2),(19,.slice p108.1 (zbi (pkW V n).s (pkS S V n).s).length p108.2),(20,.pointer (some ⟨b20,0,none⟩)),(21,.int .i64 i)]) (fun(i:Int)=>[Box b20 [.int .i64 ((zdz (pkW V n).s (pkS S V n).s).face),.int .i64 ((zdz (pkW V n).s (pkS S V n).s).heart),.int .i64 ((zdz (pkW V n).s (pkS S V n).s).foot),.int .i64 ((zdz (pkW V n).s (pkS S V n).s).top),.int .i64 ((zdz (pkW V n).s (pkS S V n).s).throughs),.int .i64 ((zdz (pkW V n).s (pkS S V n).s).copes),.int .i64 ((zdz (pkW V n).s (pkS S V n).s).roods)] 84,Row p108.1 3 p108.2 88 zcm (zbi (pkW V n).s (pkS S V n).s),Row p103.1 1 p103.2 3 Go.Stn.encI (thrL (pkW V n).s (pkS S V n).s),Box b15 [.string (pkS S V n).s.name,.int .i64 ((pkS S V n).s.base),.int .i64 ((pkS S V n).s.batter),.int .i64 ((pkS S V n).s.height),.int .i64 ((pkS S V n).s.skin),.slice (pkS S V n).a (pkS S V n).s.heights.length (pkS S V n).cap,.int .i64 ((pkS S V n).s.least),.int .i64 ((pkS S V n).s.lap),.int .i64 ((pkS S V n).s.run),.int .i64 ((pkS S V n).s.every),.int .i64 ((pkS S V n).s.at_),.int .i64 ((pkS S V n).s.footing),.int .i64 ((pkS S V n).s.spread),.int .u8 (pkS S V n).s.cope,.int .i64 ((pkS S V n).s.tall),.int .i64 ((pkS S V n).s.short),.int .i64 ((pkS S V n).s.thick),.int .i64 ((pkS S V n).s.low),.int .i64 ((pkS S V n).s.high),.int .i64 ((pkS S V n).s.rood)] 37,Box b14 [.string (pkW V n).s.name,.string (pkW V n).s.sheet,.int .i64 ((pkW V n).s.length),.slice (pkW V n).a (pkW V n).s.opens.length (pkW V n).cap] 65,Box b11 [.int .i64 ((zcx S2 V2 n).face),.int .i64 ((zcx S2 V2 n).heart),.int .i64 ((zcx S2 V2 n).foot),.int .i64 ((zcx S2 V2 n).top),.int .i64 ((zcx S2 V2 n).throughs),.int .i64 ((zcx S2 V2 n).copes),.int .i64 ((zcx S2 V2 n).roods)] 77,Row p39.1 3 p39.2 87 zcm (zcF S2 V2 n),Row p32.1 1 p32.2 3 Go.Stn.encI (zei S2 V2 n),Row ra 20 rc 41 zbH S2,Go.K.Rows (rowH 3) S2,Row rb 4 rd 94 zbS V2,Go.K.Rows (rowO 98) V2,Box b5 [.slice ra S2.length rc,.slice rb V2.length rd] 31,Box b2 [.slice a S.length cap,.slice b V.length bcap] 25]) (fun(i:Int)=>(0≤i∧i≤(zei S2 V2 n).length)) (fun(i:Int)=>((zei S2 V2 n).length - i).toNat) 0 ⟨rfl,rfl,rfl,rfl,rfl,rfl,rfl,rfl,trivial⟩ rfl ?_ ?_
     ·exact⟨by omega,by omega⟩
     ·rintro i hI
      obtain⟨g0,g1⟩:=hI
      refine zac ?_
      refine zac ?_
      refine zaa ?_
      refine gk_y rfl rfl (zaf rfl) ?_
      refine gk_y rfl rfl (zaf rfl) ?_
      refine gk_y rfl rfl (zaV (Tryz.underlying35) rfl) ?_
      refine gk_y rfl rfl (zbw rfl rfl) ?_
      refine zag (zae (T':=[(4,_),(7,_),(9,_),(11,_),(18,_),(19,_),(20,_),(21,_),(144,_)]) ⟨rfl,rfl,rfl,rfl,rfl,rfl,rfl,rfl,rfl,trivial⟩ ?_)
      refine zap rfl (fun hc144=>?_) (fun hc144=>?_)
      ·simp only [decide_eq_true_eq] at hc144
       refine zaq ?_
       refine zac ?_
       refine zas ?_
       refine zac ?_
       refine zbb 9 (fun _=>mixed) (by kernel_rfl) ?_
       refine ph_y (zaf rfl) ?_
       refine ph_y (zaf rfl) ?_
       refine ph_y (zaE se35 rfl rfl (fun _ hw=>(zam Go.Stn.encI_ok (hw.has (p:=7) rfl))) (by omega) (by omega)) ?_
       refine ph_y (zcE tf3 rfl (fun _ hw=>(zam Go.Stn.encI_ok (hw.has (p:=7) rfl))) (by omega) (by omega) rfl) ?_
       refine ph_y (zaf rfl) ?_
       refine ph_y (zaf rfl) ?_
       refine ph_y (zaE se35 rfl rfl (fun _ hw=>(zam Go.Stn.encI_ok (hw.has (p:=2) rfl))) (by omega) (by omega)) ?_
       refine ph_y (zcE tf3 rfl (fun _ hw=>(zam Go.Stn.encI_ok (hw.has (p:=2) rfl))) (by omega) (by omega) rfl) ?_
       refine ph_y (zdB (b':=false) (zcr rfl rfl) (by rw [hT2]; simp)) ?_
       refine zag (zae (T':=[(4,_),(7,_),(9,_),(11,_),(18,_),(19,_),(20,_),(21,_),(155,_)]) ⟨rfl,rfl,rfl,rfl,rfl,rfl,rfl,rfl,rfl,trivial⟩ ?_)
       refine zd8 rfl ?_
       refine zaq ?_
       refine zaa ?_
       refine gk_y rfl rfl (zaf rfl) ?_
       refine gk_y rfl rfl (zaY rfl rfl (by omega) (by omega)) ?_
       refine gk_y rfl rfl (zad rfl) ?_
       refine zag (zae (T':=[(4,_),(7,_),(9,_),(11,_),(18,_),(19,_),(20,_),(21,_)]) ⟨rfl,rfl,rfl,rfl,rfl,rfl,rfl,rfl,trivial⟩ ?_)
       exact za1 (i+1) ⟨rfl,rfl,rfl,rfl,rfl,rfl,rfl,rfl,trivial⟩ rfl ⟨by omega,by omega⟩ (by omega)
      ·simp only [decide_eq_false_iff_not] at hc144
       refine za8 rfl ?_
       refine zac ?_
       refine zac ?_
       refine zaa ?_
       refine gk_y rfl rfl (zad rfl) ?_
       refine zag (zae (T':=[(4,_),(9,_),(11,_),(19,_),(20,_),(22,_)]) ⟨rfl,rfl,rfl,rfl,rfl,rfl,trivial⟩ ?_)
       refine zas ?_
       refine zbf (X:=Int) (fun(i:Int)=>[(4,.bool false),(9,.slice p39.1 (zcF S2 V2 n).length p39.2),(11,.pointer (some ⟨b11,0,none⟩)),(19,.slice p108.1 (zbi (pkW V n).s (pkS S V n).s).length p108.2),(20,.pointer (some ⟨b20,0,none⟩)),(22,.int .i64 i)]) (fun(i:Int)=>[Box b20 [.int .i64 ((zdz (pkW V n).s (pkS S V n).s).face),.int .i64 ((zdz (pkW V n).s (pkS S V n).s).heart),.int .i64 ((zdz (pkW V n).s (pkS S V n).s).foot),.int .i64 ((zdz (pkW V n).s (pkS S V n).s).top),.int .i64 ((zdz (pkW V n).s (pkS S V n).s).throughs),.int .i64 ((zdz (pkW V n).s (pkS S V n).s).copes),.int .i64 ((zdz (pkW V n).s (pkS S V n).s).roods)] 84,Row p108.1 3 p108.2 88 zcm (zbi (pkW V n).s (pkS S V n).s),Row p103.1 1 p103.2 3 Go.Stn.encI (thrL (pkW V n).s (pkS S V n).s),Box b15 [.string (pkS S V n).s.name,.int .i64 ((pkS S V n).s.base),.int .i64 ((pkS S V n).s.batter),.int .i64 ((pkS S V n).s.height),.int .i64 ((pkS S V n).s.skin),.slice (pkS S V n).a (pkS S V n).s.heights.length (pkS S V n).cap,.int .i64 ((pkS S V n).s.least),.int .i64 ((pkS S V n).s.lap),.int .i64 ((pkS S V n).s.run),.int .i64 ((pkS S V n).s.every),.int .i64 ((pkS S V n).s.at_),.int .i64 ((pkS S V n).s.footing),.int .i64 ((pkS S V n).s.spread),.int .u8 (pkS S V n).s.cope,.int .i64 ((pkS S V n).s.tall),.int .i64 ((pkS S V n).s.short),.int .i64 ((pkS S V n).s.thick),.int .i64 ((pkS S V n).s.low),.int .i64 ((pkS S V n).s.high),.int .i64 ((pkS S V n).s.rood)] 37,Box b14 [.string (pkW V n).s.name,.string (pkW V n).s.sheet,.int .i64 ((pkW V n).s.length),.slice (pkW V n).a (pkW V n).s.opens.length (pkW V n).cap] 65,Box b11 [.int .i64 ((zcx S2 V2 n).face),.int .i64 ((zcx S2 V2 n).heart),.int .i64 ((zcx S2 V2 n).foot),.int .i64 ((zcx S2 V2 n).top),.int .i64 ((zcx S2 V2 n).throughs),.int .i64 ((zcx S2 V2 n).copes),.int .i64 ((zcx S2 V2 n).roods)] 77,Row p39.1 3 p39.2 87 zcm (zcF S2 V2 n),Row p32.1 1 p32.2 3 Go.Stn.encI (zei S2 V2 n),Row ra 20 rc 41 zbH S2,Go.K.Rows (rowH 3) S2,Row rb 4 rd 94 zbS V2,Go.K.Rows (rowO 98) V2,Box b5 [.slice ra S2.length rc,.slice rb V2.length rd] 31,Box b2 [.slice a S.length cap,.slice b V.length bcap] 25]) (fun(i:Int)=>(0≤i∧i≤(zcF S2 V2 n).length)) (fun(i:Int)=>((zcF S2 V2 n).length - i).toNat) 0 ⟨rfl,rfl,rfl,rfl,rfl,rfl,trivial⟩ rfl ?_ ?_
       ·exact⟨by omega,by omega⟩
       ·rintro i hI
        obtain⟨g0,g1⟩:=hI
        refine zac ?_
        refine zac ?_
        refine zaa ?_
        refine gk_y rfl rfl (zaf rfl) ?_
        refine gk_y rfl rfl (zaf rfl) ?_
        refine gk_y rfl rfl (zaV (Tryz.underlying73) rfl) ?_
        refine gk_y rfl rfl (zbw rfl rfl) ?_
        refine zag (zae (T':=[(4,_),(9,_),(11,_),(19,_),(20,_),(22,_),(159,_)]) ⟨rfl,rfl,rfl,rfl,rfl,rfl,rfl,trivial⟩ ?_)
        refine zap rfl (fun hc159=>?_) (fun hc159=>?_)
        ·simp only [decide_eq_true_eq] at hc159
         refine zaq ?_
         refine zac ?_
         refine zas ?_
         refine zac ?_
         refine zbb 37 (fun _=>mixed) (by kernel_rfl) ?_
         refine ph_y (zaf rfl) ?_
         refine ph_y (zaf rfl) ?_
         refine ph_y (zaE se73 rfl rfl (fun _ hw=>(zam zbc (hw.has (p:=6) rfl))) (by omega) (by omega)) ?_
         refine ph_y (zbh zvX rfl (fun w hw=>zaO (i:=i) (zam zbc (hw.has (p:=6) rfl)) (by omega) (by omega))) ?_
         refine ph_y (zbn tf3 rfl (fun _ hw=>(zam zbc (hw.has (p:=6) rfl))) (by omega) (by omega) rfl) ?_
         refine ph_y (zaf rfl) ?_
         refine ph_y (zaf rfl) ?_
         refine ph_y (zaE se82 rfl rfl (fun _ hw=>(zam zbc (hw.has (p:=1) rfl))) (by omega) (by omega)) ?_
         refine ph_y (zbh zvY rfl (fun w hw=>zaO (i:=i) (zam zbc (hw.has (p:=1) rfl)) (by omega) (by omega))) ?_
         refine ph_y (zbn tf3 rfl (fun _ hw=>(zam zbc (hw.has (p:=1) rfl))) (by omega) (by omega) rfl) ?_
         refine ph_y (zdB (b':=false) (zcr rfl rfl) (by rw [hT3]; simp)) ?_
         refine ph_y (zaf rfl) ?_
         refine ziw rfl rfl (zaf rfl) ?_
         refine ziw rfl rfl (zaf rfl) ?_
         refine ziw rfl rfl (zaE se73 rfl rfl (fun _ hw=>(zam zbc (hw.has (p:=6) rfl))) (by omega) (by omega)) ?_
         refine ziw rfl rfl (zbh zsT rfl (fun w hw=>zaO (i:=i) (zam zbc (hw.has (p:=6) rfl)) (by omega) (by omega))) ?_
         refine ziw rfl rfl (zbn tf3 rfl (fun _ hw=>(zam zbc (hw.has (p:=6) rfl))) (by omega) (by omega) rfl) ?_
         refine ziw rfl rfl (zaf rfl) ?_
         refine ziw rfl rfl (zaf rfl) ?_
         refine ziw rfl rfl (zaE se82 rfl rfl (fun _ hw=>(zam zbc (hw.has (p:=1) rfl))) (by omega) (by omega)) ?_
         refine ziw rfl rfl (zbh zsV rfl (fun w hw=>zaO (i:=i) (zam zbc (hw.has (p:=1) rfl)) (by omega) (by omega))) ?_
         refine ziw rfl rfl (zbn tf3 rfl (fun _ hw=>(zam zbc (hw.has (p:=1) rfl))) (by omega) (by omega) rfl) ?_
         refine ziw rfl rfl (zdB (b':=false) (zcr rfl rfl) (by rw [hT3]; simp)) ?_
         refine ph_y (zaR rfl rfl rfl) ?_
         refine ph_y (zaf rfl) ?_
         refine zaz rfl rfl (fun hgd=>by(try rw [hgd]); exact(zaf rfl)) ?_
         refine zaz rfl rfl (fun hgd=>by(try rw [hgd]); exact(zaf rfl)) ?_
         refine zaz rfl rfl (fun hgd=>by(try rw [hgd]); exact(zaE se73 rfl rfl (fun _ hw=>(zam zbc (hw.has (p:=6) rfl))) (by omega) (by omega))) ?_
         refine zaz rfl rfl (fun hgd=>by(try rw [hgd]); exact(zbh zsU rfl (fun w hw=>zaO (i:=i) (zam zbc (hw.has (p:=6) rfl)) (by omega) (by omega)))) ?_
         refine zaz rfl rfl (fun hgd=>by(try rw [hgd]); exact(zbn tf3 rfl (fun _ hw=>(zam zbc (hw.has (p:=6) rfl))) (by omega) (by omega) rfl)) ?_
         refine zaz rfl rfl (fun hgd=>by(try rw [hgd]); exact(zaf rfl)) ?_
         refine zaz rfl rfl (fun hgd=>by(try rw [hgd]); exact(zaf rfl)) ?_
         refine zaz rfl rfl (fun hgd=>by(try rw [hgd]); exact(zaE se82 rfl rfl (fun _ hw=>(zam zbc (hw.has (p:=1) rfl))) (by omega) (by omega))) ?_
         refine zaz rfl rfl (fun hgd=>by(try rw [hgd]); exact(zbh zsW rfl (fun w hw=>zaO (i:=i) (zam zbc (hw.has (p:=1) rfl)) (by omega) (by omega)))) ?_
         refine zaz rfl rfl (fun hgd=>by(try rw [hgd]); exact(zbn tf3 rfl (fun _ hw=>(zam zbc (hw.has (p:=1) rfl))) (by omega) (by omega) rfl)) ?_
         refine zaz rfl rfl (fun hgd=>by(try rw [hgd]); exact(zdB (b':=false) (zcr rfl rfl) (by rw [hT3]; simp))) ?_
         refine ph_y (zaR rfl rfl rfl) ?_
         refine zag (zae (T':=[(4,_),(9,_),(11,_),(19,_),(20,_),(22,_),(198,_)]) ⟨rfl,rfl,rfl,rfl,rfl,rfl,rfl,trivial⟩ ?_)
         refine zd8 rfl ?_
         refine zaq ?_
         refine zaa ?_
         refine gk_y rfl rfl (zaf rfl) ?_
         refine gk_y rfl rfl (zaY rfl rfl (by omega) (by omega)) ?_
         refine gk_y rfl rfl (zad rfl) ?_
         refine zag (zae (T':=[(4,_),(9,_),(11,_),(19,_),(20,_),(22,_)]) ⟨rfl,rfl,rfl,rfl,rfl,rfl,trivial⟩ ?_)
         exact za1 (i+1) ⟨rfl,rfl,rfl,rfl,rfl,rfl,trivial⟩ rfl ⟨by omega,by omega⟩ (by omega)
        ·simp only [decide_eq_false_iff_not] at hc159
         refine za8 rfl ?_
         refine zac ?_
         refine zaa ?_
         refine gk_y rfl rfl (zab zpA rfl) ?_
         refine gk_y rfl rfl (zah 5 tf2 rfl rfl rfl) ?_
         refine gk_y rfl rfl (zab zkY rfl) ?_
         refine gk_y rfl rfl (zah 0 tf2 rfl rfl rfl) ?_
         refine gk_y rfl rfl (zbQ (zbL rfl rfl) (by rw [hT4]; exact decide_eq_true rfl)) ?_
         refine gk_y rfl rfl (zaf rfl) ?_
         refine zai rfl rfl rfl rfl (fun _=>?_) (fun h=>absurd h (by decide))
         refine gk_y rfl rfl (zab zpB rfl) ?_
         refine zai rfl rfl rfl rfl (fun _=>?_) (fun h=>absurd h (by decide))
         refine gk_y rfl rfl (zah 5 tf2 rfl rfl rfl) ?_
         refine zai rfl rfl rfl rfl (fun _=>?_) (fun h=>absurd h (by decide))
         refine gk_y rfl rfl (zab zpE rfl) ?_
         refine zai rfl rfl rfl rfl (fun _=>?_) (fun h=>absurd h (by decide))
         refine gk_y rfl rfl (zah 0 tf2 rfl rfl rfl) ?_
         refine zai rfl rfl rfl rfl (fun _=>?_) (fun h=>absurd h (by decide))
         refine gk_y rfl rfl (zbQ (zbL rfl rfl) (by rw [hT4]; exact decide_eq_true rfl)) ?_
         refine gk_y rfl rfl (za5 rfl rfl rfl) ?_
         refine gk_y rfl rfl (zaf rfl) ?_
         refine zai rfl rfl rfl rfl (fun _=>?_) (fun h=>absurd h (by decide))
         refine gk_y rfl rfl (zab zsM rfl) ?_
         refine zai rfl rfl rfl rfl (fun _=>?_) (fun h=>absurd h (by decide))
         refine gk_y rfl rfl (zah 5 tf2 rfl rfl rfl) ?_
         refine zai rfl rfl rfl rfl (fun _=>?_) (fun h=>absurd h (by decide))
         refine gk_y rfl rfl (zab zsP rfl) ?_
         refine zai rfl rfl rfl rfl (fun _=>?_) (fun h=>absurd h (by decide))
         refine gk_y rfl rfl (zah 0 tf2 rfl rfl rfl) ?_
         refine zai rfl rfl rfl rfl (fun _=>?_) (fun h=>absurd h (by decide))
         refine gk_y rfl rfl (zbQ (zbL rfl rfl) (by rw [hT4]; exact decide_eq_true rfl)) ?_
         refine gk_y rfl rfl (za5 rfl rfl rfl) ?_
         refine gk_y rfl rfl (zaf rfl) ?_
         refine zai rfl rfl rfl rfl (fun _=>?_) (fun h=>absurd h (by decide))
         refine gk_y rfl rfl (zab zpC rfl) ?_
         refine zai rfl rfl rfl rfl (fun _=>?_) (fun h=>absurd h (by decide))
         refine gk_y rfl rfl (zah 5 tf2 rfl rfl rfl) ?_
         refine zai rfl rfl rfl rfl (fun _=>?_) (fun h=>absurd h (by decide))
         refine gk_y rfl rfl (zab zpF rfl) ?_
         refine zai rfl rfl rfl rfl (fun _=>?_) (fun h=>absurd h (by decide))
         refine gk_y rfl rfl (zah 0 tf2 rfl rfl rfl) ?_
         refine zai rfl rfl rfl rfl (fun _=>?_) (fun h=>absurd h (by decide))
         refine gk_y rfl rfl (zbQ (zbL rfl rfl) (by rw [hT4]; exact decide_eq_true rfl)) ?_
         refine gk_y rfl rfl (za5 rfl rfl rfl) ?_
         refine gk_y rfl rfl (zaf rfl) ?_
         refine zai rfl rfl rfl rfl (fun _=>?_) (fun h=>absurd h (by decide))
         refine gk_y rfl rfl (zab zsN rfl) ?_
         refine zai rfl rfl rfl rfl (fun _=>?_) (fun h=>absurd h (by decide))
         refine gk_y rfl rfl (zah 5 tf3 rfl rfl rfl) ?_
         refine zai rfl rfl rfl rfl (fun _=>?_) (fun h=>absurd h (by decide))
         refine gk_y rfl rfl (zab zsQ rfl) ?_
         refine zai rfl rfl rfl rfl (fun _=>?_) (fun h=>absurd h (by decide))
         refine gk_y rfl rfl (zah 0 tf3 rfl rfl rfl) ?_
         refine zai rfl rfl rfl rfl (fun _=>?_) (fun h=>absurd h (by decide))
         refine gk_y rfl rfl (zbQ (zbL rfl rfl) (by rw [hT4]; exact decide_eq_true rfl)) ?_
         refine gk_y rfl rfl (za5 rfl rfl rfl) ?_
         refine gk_y rfl rfl (zaf rfl) ?_
         refine zai rfl rfl rfl rfl (fun _=>?_) (fun h=>absurd h (by decide))
         refine gk_y rfl rfl (zab zsO rfl) ?_
         refine zai rfl rfl rfl rfl (fun _=>?_) (fun h=>absurd h (by decide))
         refine gk_y rfl rfl (zah 5 tf3 rfl rfl rfl) ?_
         refine zai rfl rfl rfl rfl (fun _=>?_) (fun h=>absurd h (by decide))
         refine gk_y rfl rfl (zab zsR rfl) ?_
         refine zai rfl rfl rfl rfl (fun _=>?_) (fun h=>absurd h (by decide))
         refine gk_y rfl rfl (zah 0 tf3 rfl rfl rfl) ?_
         refine zai rfl rfl rfl rfl (fun _=>?_) (fun h=>absurd h (by decide))
         refine gk_y rfl rfl (zbQ (zbL rfl rfl) (by rw [hT4]; exact decide_eq_true rfl)) ?_
         refine gk_y rfl rfl (za5 rfl rfl rfl) ?_
         refine gk_y rfl rfl (zaf rfl) ?_
         refine zai rfl rfl rfl rfl (fun _=>?_) (fun h=>absurd h (by decide))
         refine gk_y rfl rfl (zab zpD rfl) ?_
         refine zai rfl rfl rfl rfl (fun _=>?_) (fun h=>absurd h (by decide))
         refine gk_y rfl rfl (zah 5 tf3 rfl rfl rfl) ?_
         refine zai rfl rfl rfl rfl (fun _=>?_) (fun h=>absurd h (by decide))
         refine gk_y rfl rfl (zab zsS rfl) ?_
         refine zai rfl rfl rfl rfl (fun _=>?_) (fun h=>absurd h (by decide))
         refine gk_y rfl rfl (zah 0 tf3 rfl rfl rfl) ?_
         refine zai rfl rfl rfl rfl (fun _=>?_) (fun h=>absurd h (by decide))
         refine gk_y rfl rfl (zbQ (zbL rfl rfl) (by rw [hT4]; exact decide_eq_true rfl)) ?_
         refine gk_y rfl rfl (za5 rfl rfl rfl) ?_
         refine gk_y rfl rfl (zaf rfl) ?_
         refine zai rfl rfl rfl rfl (fun _=>?_) (fun h=>absurd h (by decide))
         refine gk_y rfl rfl (zaJ en13 rfl (fun w hw=>zkw w (Rd.has (Has.rd hmx) hw) (Rd.has (Has.rd hcp) hw) (Rd.has (Has.rd hop) hw))) ?_
         refine gk_y rfl rfl (za5 rfl rfl rfl) ?_
         refine gk_y rfl rfl (zad rfl) ?_
         refine zag (zae (T':=[(4,_)]) ⟨rfl,trivial⟩ ?_)
         refine zaw ?_
         refine zay (zaC rfl (zau rfl)) ?_
         rfl
end Go.Proofs.YtdcfcfhmkfkgmaaGreatDoor
namespace Go.K
open Go Go.Stn Go.ChangeShapes Go.WideShapes Go.ChangeAt Go.WideElems Go.RowKit
theorem zp6 {α:Type} {Q:Nat→α→Prop}:∀ n,(∀ i,i < n→∃ x,Q i x)→∃ l:List α,l.length=n∧∀ i x,l[i]?=some x→Q i x
 | 0,_=>⟨[],rfl,fun i x h=>by simp at h⟩
 | n+1,h=>by
  obtain⟨l,hl,hq⟩:=zp6 n (fun i hi=>h i (by omega))
  obtain⟨x,hx⟩:=h n (by omega)
  refine⟨l++[x],by simp [hl],fun i y hy=>?_⟩
  rcases Nat.lt_or_ge i n with hi | hi
  ·rw [List.getElem?_append_left (by omega)] at hy; exact hq i y hy
  ·rw [List.getElem?_append_right (by omega),hl] at hy
   have:i=n:=by
    rcases Nat.lt_or_ge n i with g | g
    ·rw [List.getElem?_eq_none (by simp; omega)] at hy; cases hy
    ·omega
   subst this
   simp at hy
   subst hy; exact hx
section
variable {H:Type} {enc:TypeId×Value→H} {P:Program}
theorem zgK (hl:laidOutB P=true) {W W':World} {sp':Nat→Bool}:∀ (ts:List TypeId) (vs:List Value) (ds:List (DataW H)) (ps:List MemPlace),(∀ t∈ts,P.readableRec t=true∧t < P.types.size) →
  DataW.TrodAll enc P W 0 (fun _=>true) true ts vs ds ps→(∀ p∈ps,W.sameAt W' p)→(∀ p∈ps,sp' p.block=true)→DataW.TrodAll enc P W' 0 sp' true ts vs ds ps
 | [],[],[],ps,_,h,_,_=>h
 | t :: ts,v :: vs,d :: ds,ps,hr,⟨p,q,h1,h2,he⟩,hs,hsp=>by
  subst he
  exact⟨p,q,Trod_stays hl (hr t (List.mem_cons_self ..)).1 (hr t (List.mem_cons_self ..)).2 h1 (fun x hx=>hs x (List.mem_append_left _ hx)) (fun x hx=>hsp x (List.mem_append_left _ hx)),
   zgK hl ts vs ds q (fun x hx=>hr x (List.mem_cons_of_mem _ hx)) h2 (fun x hx=>hs x (List.mem_append_right _ hx)) (fun x hx=>hsp x (List.mem_append_right _ hx)),rfl⟩
 | [],[],_ :: _,_,_,h,_,_=>h.elim
 | [],_ :: _,_,_,_,h,_,_=>h.elim
 | _ :: _,[],_,_,_,h,_,_=>h.elim
 | _ :: _,_ :: _,[],_,_,h,_,_=>h.elim
theorem law_post {f:Func} {s:ChangeSpec} {apart fresh handsOn again:Bool} {W W':World} {args:Array Value} {ds:List (DataW H)} {before:List MemPlace} {tb:TypeId} (hl:laidOutB P=true)
  (hW:DataW.Whole enc P f.params.toList s.vars apart W args.toList ds [] before) (hvars:s.vars=[]) (hread:f.params.toList.all (fun t=>P.readableRec t&&decide (t < P.types.size))=true)
  (hfn:s.fn H (ds++[])={ results:=[.lit (.bool true)],args:=ds }) (hrt:f.resultTypes=#[tb]) (htb:P.underlying tb=some .bool) (hb:Ext W W'):s.post enc P f apart fresh handsOn again W args (.bool true) W':=by
 have hlt:∀ p∈before,p.block < W.heap.size:=fun p hp=>hW.lt p hp
 have hold:∀ p∈before,(fun b=>decide (b < W.heap.size)) p.block=true:=fun p hp=>by simpa using hlt p hp
 have hW0:=hW
 obtain⟨p,q,hA,hV,hpq,hz,hn⟩:=hW
 rw [hvars] at hV
 obtain⟨_,rfl⟩:=trodVars_none hV
 rw [List.append_nil] at hpq
 subst hpq
 have hr:∀ t∈f.params.toList,P.readableRec t=true∧t < P.types.size:=fun t ht=>by
  have:=List.all_eq_true.1 hread t ht
  simpa using this
 have hsame:∀ x∈before,W.sameAt W' x:=fun x hx=>by
  have hlx:=hlt x hx
  cases x with
  | cell b off=>exact hb.below.cell (p:=⟨b,off,none⟩) hlx
  | map b=>exact hb.block b hlx
 have hargs:∀ sp:Nat→Bool,(∀ p∈before,sp p.block=true)→DataW.TrodAll enc P W' 0 sp true f.params.toList args.toList ds before:=fun sp hsp=>zgK hl _ _ _ _ hr hA hsame hsp
 have hres:∀ (b:Nat) (sp:Nat→Bool) (hd:Bool),DataW.TrodAll enc P W' b sp hd f.resultTypes.toList ((Value.bool true).resultList f.resultTypes.size) [.lit (.bool true)] []:=fun b sp hd=>by
  rw [hrt]
  exact⟨[],[],⟨1,by simp [DataW.trod,Value.cells,htb]⟩,rfl,rfl⟩
 refine⟨ds,[],before,[],before,[],hW0,?_,?_,?_,World.keptBut_mono (fun p hp=>⟨hp,Or.inr (Or.inl hp)⟩) (hb.below.frame (·∈before)),fun _=>?_⟩
 ·rw [hfn]; exact hres _ _ _
 ·rw [hfn]; exact hargs _ hold
 ·rw [hfn,hvars]; rfl
 ·refine⟨fun j t r ht hrr=>?_,ds.cons (.lit (.bool true)),[],before,⟨before,[],?_,by rw [hvars]; rfl,by simp,?_,?_⟩,fun x hx _=>hx⟩
  ·rw [hrt] at ht hrr
   have h0:t=tb:=by
    rcases j with _ | j
    ·simpa using ht.symm
    ·simp at ht
   have h1:r=.bool true:=by
    rcases j with _ | j
    ·simpa [Value.resultList] using hrr.symm
    ·simp at ht
   subst h0; subst h1
   exact okWide_bool_mk htb true
  ·have h1:=trodAll_append (hargs (fun _=>true) (fun _ _=>rfl)) (hres 0 (fun _=>true) true)
   simpa using h1
  ·intro b off hp
   rw [hb.below.frozen (hlt _ hp)]
   exact hz b off (by simpa using hp)
  ·intro ha
   have:=hn ha
   simpa using this
end
end Go.K
namespace Go.Proofs.YtdcfcfhmkfkgmaaGreatDoor
open Go Go.K Go.Stn Go.Pln Go.ChangeShapes Go.WideShapes Go.ChangeAt Go.RowKit
theorem own:ownKnob Tryz.prog.godebug=none:=by kernel_rfl
theorem laidOut:laidOutB Tryz.prog=true:=by kernel_rfl
abbrev laidR:List (String×DataW Unit):=Rows.planChecksRow.laid
noncomputable def worldR (os:Os):World:=(World.doorLaid Tryz.prog 400 os).layVars Tryz.prog [("unicode/utf8.first",Go.Pinned.utf8First)]
theorem worldR_os (os:Os):(worldR os).os=os:=World.layVars_os _ _ _
theorem door_metR (os:Os) (args:Array Value):laidMetH Tryz.prog laidR ((worldR os).forCall (fun _ _=>0) ⟨#[],args,[]⟩).memory:=
 laidMetH_of_parts3 (fuel:=8) (laidMet_of_run' 8 (by kernel_rfl) (by kernel_rfl)) (by kernel_rfl) (by kernel_rfl)
section
variable {H:Type} {enc:TypeId×Value→H}
theorem returnsInHanded_of_change_and_shaped {a:Assume} {C:Checked} {os:Os} {f:FuncId} {fn:Func} {s:ChangeSpec} {conds:List PathCond} {apart fresh handsOn again:Bool} {X:World→Array Value→Prop}
  (hX:∀ (w w':World) (args:Array Value),w.heap=w'.heap→X w args→X w' args)
  (own:ownKnob C.prog.godebug=none) (started:os.Started) (noInit:C.prog.inits.idxOf? f=none) (hfn:C.prog.funcs[f]?=some fn)
  (witness:∃ (w:World) (tape:Tape) (i:Input),w.os=os∧(w.forCall tape i).Shaped C.prog∧i.vars=[]∧Input.okWide C.prog (w.forCall tape i) .any w.heap.size f i ∧
   ((s.pre enc C.prog fn conds apart (w.forCall tape i).memory i.args∧X (w.forCall tape i).memory i.args)∧sizedMet enc C.prog fn (OpenSpec.ofChange s) apart (w.forCall tape i).memory i.args)∧a.holds C.prog (lone (Frame.enter C.prog f i.args .normal) [] (w.forCall tape i)))
  (contract:∀ (W:World) (base:Nat) (args:Array Value) (ds gs:List (DataW H)) (before:List MemPlace),
   (∀ (j:Nat) t v,fn.params[j]?=some t→args[j]?=some v→Value.okWide C.prog W .any base t v) →
   DataW.Whole enc C.prog fn.params.toList s.vars apart W args.toList ds gs before →
   conds.all (PathCond.test C.prog ⟨fn.params.toList,ds,s.plain.varTypes C.prog,gs⟩)=true →
   (DataW.weightsEach C.prog (fn.params.toList++s.plain.varTypes C.prog) (ds++gs)).all (·≤reachBytes)=true→X W args →
   W.ShapedOpen C.prog →
   Calls C.prog f args W fun e W'=>∃ v,e=.returned v∧s.post enc C.prog fn apart fresh handsOn again W args v W') :
  ReturnsInHanded a C os f .any (fun w args=>(s.pre enc C.prog fn conds apart w args∧X w args)∧sizedMet enc C.prog fn (OpenSpec.ofChange s) apart w args) (s.post enc C.prog fn apart fresh handsOn again):=by
 refine returnsInHanded_of_calls own started noInit witness ?_
 intro w tape i _ hsh _ hok hpre _
 obtain⟨_,_,_,fn',hfn',_,_,_,_,hval⟩:=hok
 have e:fn' = fn:=Option.some.inj (hfn'.symm.trans hfn)
 subst e
 obtain⟨⟨⟨ds,gs,before,hw,hc⟩,hx⟩,hz⟩:=hpre
 have hw':=DataW.Whole.of_heap (w':=w.forCall tape i) (by rfl) hw
 refine(contract (w.forCall tape i) w.heap.size i.args ds gs before hval hw' hc (hz.weights hw) (hX _ _ _ (by rfl) hx) hsh).mono fun e W' ⟨v,he,hp⟩=>?_
 subst he
 exact ChangeSpec.post_blind hp
end
theorem zo3 {W:World} {b o:Nat} {v:Value} (h:W.cell? ⟨b,o,none⟩=some v):b < W.heap.size:=by
 rcases Nat.lt_or_ge b W.heap.size with g | g
 ·exact g
 ·exfalso
  simp [World.cell?,Array.getElem?_eq_none g] at h
theorem int_of_shape {W:World} (h:W.ShapedOpen Tryz.prog):Has W (IntV 2):=by
 obtain⟨m,hm⟩:=cell_of_shapedOpen_int (P:=Tryz.prog) (g:=2) (t:=3) (zero:=#[.int .i64 0]) (k:=.i64) h (of_decide_eq_true (by kernel_rfl)) (by kernel_rfl) rfl (by kernel_rfl) (by kernel_rfl) Tryz.underlying3
 exact⟨(· = 2),fun k hk=>by rw [hk]; exact zo3 hm,fun _=>Iff.rfl,m,hm⟩
theorem zok {W:World} {l:List (String×DataW Unit)} (h:laidMetH Tryz.prog l W) {n:String} {d:DataW Unit} (hm:(n,d)∈l) (hd:d.handleName?.isNone=true):Lib.VarReads Tryz.prog W n d:=by
 unfold laidMetH at h
 split at h
 ·exact Lib.laidMet.reads h hm
 ·exact Lib.laidMet.reads h.1 (List.mem_filter.2 ⟨hm,hd⟩)
theorem zlF {t:TypeId} {k:Nat} {W:World} {fuel:Nat} {l:List Value} {L:List ByteArray} {p:List MemPlace} (ht:Tryz.prog.underlying t=some (.array k 9)) (hct:Tryz.prog.cellsOf t=k) (hk:k=L.length)
  (h:DataW.trod (fun _=>()) Tryz.prog W 0 (fun _=>true) false fuel t l=some (.agg (L.map fun s=>.lit (.string s.data.toList)),p)):l=L.map fun s=>.string s:=by
 obtain⟨xs,m,_,hx,hlen,hn,hel⟩:=DataW.trod_array ht h
 have c9:Tryz.prog.cellsOf 9=1:=by kernel_rfl
 rw [c9] at hel
 simp only [Prod.mk.injEq,DataW.agg.injEq] at hx
 have hc:l.length=k:=by rw [hlen,hct]
 refine List.ext_getElem? fun i=>?_
 rw [List.getElem?_map]
 rcases Nat.lt_or_ge i k with hi | hi
 ·have he:=hel i hi
  have hli:i < l.length:=by omega
  have hLi:i < L.length:=by omega
  have hxi:i < xs.length:=by omega
  rw [Nat.mul_one,List.drop_eq_getElem_cons hli,List.getElem?_eq_getElem hxi] at he
  have he1:DataW.trod (fun _=>()) Tryz.prog W 0 (fun _=>true) false m 9 [l[i]]=some xs[i]:=he
  obtain⟨s,e0,ey,_⟩:=DataW.trod_string Tryz.underlying9 he1
  have h1:(L.map fun s=>(DataW.lit (Lit.string s.data.toList):DataW Unit))[i]?=(xs.map (·.1))[i]?:=by rw [hx.1]
  rw [List.getElem?_map,List.getElem?_map,List.getElem?_eq_getElem hLi,List.getElem?_eq_getElem hxi,ey] at h1
  simp only [Option.map_some,Option.some.injEq,DataW.lit.injEq,Lit.string.injEq] at h1
  have h2:L[i]=s:=by
   have:=Array.toList_inj.1 h1
   exact ByteArray.ext this
  simp only [List.cons.injEq,and_true] at e0
  rw [List.getElem?_eq_getElem hli,List.getElem?_eq_getElem hLi,e0,h2]
  rfl
 ·rw [List.getElem?_eq_none (by omega),List.getElem?_eq_none (by omega)]; rfl
theorem znT {W:World} {g:Nat} {nm:String} {t:TypeId} {k:Nat} {L:List ByteArray} {l:List (String×DataW Unit)} (h:laidMetH Tryz.prog l W) (hm:(nm,.agg (L.map fun s=>.lit (.string s.data.toList)))∈l)
  (hd:(DataW.agg (L.map fun s=>.lit (.string s.data.toList)):DataW Unit).handleName?.isNone=true)
  (hg:Tryz.prog.globalNamed nm=some g) (htg:(Tryz.prog.globals[g]?).map (·.type)=some t) (ht:Tryz.prog.underlying t=some (.array k 9)) (hct:Tryz.prog.cellsOf t=k) (hk:k=L.length) (h0:0 < k):Has W (zaW (some ⟨g,0,none⟩) 1 encS L):=by
 obtain⟨g',t',cs,fuel,p,hg',ht',hv,hd'⟩:=zok h hm hd
 obtain rfl:=Option.some.inj (hg.symm.trans hg')
 obtain rfl:=Option.some.inj (htg.symm.trans ht')
 have hcs:=zlF ht hct hk hd'
 have hc:=World.var?_cell hg hv
 have hcell:∀ i x,L[i]?=some x→W.cell? ⟨g,i,none⟩=some (.string x):=fun i x hi=>by
  rw [hc i]
  obtain⟨lc⟩:=cs
  have h1:lc=_:=hcs
  rw [h1]
  simp [hi]
 refine⟨(· = g),fun b hb=>?_,.inr ⟨g,0,rfl,fun _=>Iff.rfl,fun i x hi=>⟨?_,trivial⟩⟩⟩
 ·rw [hb]
  match L,hk with
  | x :: r,_=>exact zo3 (hcell 0 x rfl)
  | [],hk=>exact absurd hk (by simp; omega)
 ·rw [Nat.zero_add,Nat.mul_one]; exact hcell i x hi
theorem copes_of_laid {W:World} {l:List (String×DataW Unit)} (h:laidMetH Tryz.prog l W) (hm:("copestone/plan.copes",Rows.laid_copestone_plan_copes)∈l):Has W (zaW (some ⟨0,0,none⟩) 1 encS zeZ):=
 znT (t:=137) (k:=4) h hm (by kernel_rfl) (by kernel_rfl) (by kernel_rfl) Tryz.underlying137 (by kernel_rfl) rfl (by decide)
theorem opens_of_laid {W:World} {l:List (String×DataW Unit)} (h:laidMetH Tryz.prog l W) (hm:("copestone/plan.openings",Rows.laid_copestone_plan_openings)∈l):Has W (zaW (some ⟨1,0,none⟩) 1 encS opensW):=
 znT (t:=138) (k:=5) h hm (by kernel_rfl) (by kernel_rfl) (by kernel_rfl) Tryz.underlying138 (by kernel_rfl) rfl (by decide)
end Go.Proofs.YtdcfcfhmkfkgmaaGreatDoor
namespace Go.Proofs.YtdcfcfhmkfkgmaaGreatDoor
open Go Go.K Go.Stn Go.Pln Go.ChangeShapes Go.WideShapes Go.ChangeAt Go.WideElems Go.RowKit
section
variable {H:Type} {enc:TypeId×Value→H} {P:Program} {w:World} {base:Nat} {spare:Nat→Bool} {held:Bool}
theorem ziT {e:TypeId} {d:DataW H}:∀ {l:List (DataW H)},d∈l→∀ n∈d.weights P e,n∈DataW.weightsAll P e l
 | [],h,_,_=>by cases h
 | x :: r,h,n,hn=>by
  rw [DataW.weightsAll]
  rcases List.mem_cons.1 h with rfl | h
  ·exact List.mem_append_left _ hn
  ·exact List.mem_append_right _ (ziT h n hn)
def WOk (P:Program) (t:TypeId) (d:DataW H):Prop:=∀ n∈d.weights P t,n≤reachBytes
theorem wok_each:∀ {ts:List TypeId} {ds:List (DataW H)},(∀ n∈DataW.weightsEach P ts ds,n≤reachBytes)→∀ (i:Nat) t d,ts[i]?=some t→ds[i]?=some d→WOk P t d
 | [],_,_,i,t,d,h1,_=>by simp at h1
 | _ :: _,[],_,i,t,d,_,h2=>by simp at h2
 | t0 :: ts,d0 :: ds,h,i,t,d,h1,h2=>by
  rw [DataW.weightsEach] at h
  cases i with
  | zero=>
   simp only [List.getElem?_cons_zero,Option.some.injEq] at h1 h2
   subst h1; subst h2
   exact fun n hn=>h n (List.mem_append_left _ hn)
  | succ i=>
   simp only [List.getElem?_cons_succ] at h1 h2
   exact wok_each (fun n hn=>h n (List.mem_append_right _ hn)) i t d h1 h2
theorem zoH {t:TypeId} {fs:Array Field} (ht:P.underlying t=some (.struct fs)) {ys:List (DataW H×List MemPlace)} (h:WOk P t (.agg (ys.map (·.1)))) {i:Nat} {f:Field} {y:DataW H×List MemPlace} (hf:fs[i]?=some f) (hy:ys[i]?=some y):WOk P f.type y.1:=by
 have h':∀ n∈DataW.weightsEach P (fs.toList.map (·.type)) (ys.map (·.1)),n≤reachBytes:=fun n hn=>h n (by rw [DataW.weights,ht]; exact hn)
 refine wok_each h' i f.type y.1 ?_ ?_
 ·rw [List.getElem?_map,Array.getElem?_toList,hf]; rfl
 ·rw [List.getElem?_map,hy]; rfl
theorem zop {α:Type} {enc':α→List Value} {n:Nat} {Q:α→Prop} {t e:TypeId} {fuel:Nat} {cs:List Value} {x:DataW H×List MemPlace} (ht:P.underlying t=some (.slice e)) (hc:P.cellsOf e=n) (hn:Enc n enc')
  (hel:∀ (fuel:Nat) (cs:List Value) (y:DataW H×List MemPlace),DataW.trod enc P w base spare held fuel e cs=some y→WOk P e y.1→∃ z,Q z∧cs=enc' z)
  (h:DataW.trod enc P w base spare held fuel t cs=some x) (hx:WOk P t x.1) :
  ∃ (a:Option Addr) (L:List α) (cap:Nat),cs=[.slice a L.length cap]∧Has w (zaW a n enc' L)∧L.length≤cap∧(∀ z∈L,Q z)∧L.length*P.bytesOf e≤reachBytes:=by
 rcases Go.Deep.open_slice ht h with ⟨rfl,_⟩ | ⟨a,len,cap,m,k,D,Pl,rfl,hb,hl,hm,hmm,hxe,hi⟩
 ·exact⟨none,[],0,rfl,⟨fun _=>False,fun _ h=>h.elim,.inl rfl⟩,Nat.le_refl _,by simp,by simp⟩
 ·have hlm:len≤m:=by rw [hmm]; split <;> omega
  have hw:∀ v∈(len+(m - len))*P.bytesOf e :: (DataW.weightsAll P e ((List.range len).map D)++DataW.weightsAll P e ((List.range (m - len)).map fun j=>D (len+j))),v≤reachBytes:=fun v hv=>by
   refine hx v ?_
   rw [hxe,DataW.weights,ht]
   simpa using hv
  obtain⟨L,hll,hq⟩:=zp6 (Q:=fun i (z:α)=>Q z∧∀ j v,(enc' z)[j]?=some v→w.cell? (a.add (i*n+j))=some v) len (fun i hil=>by
   obtain⟨cs',hcs,ht'⟩:=hi i (by omega)
   obtain⟨z,hz,rfl⟩:=hel _ _ _ ht' (fun v hv=>hw v (List.mem_cons_of_mem _ (List.mem_append_left _ (ziT (List.mem_map.2 ⟨i,List.mem_range.2 hil,rfl⟩) v hv))))
   rw [hc] at hcs
   obtain⟨_,_,hat⟩:=World.cells?_some hcs
   refine⟨z,hz,fun j v hj=>?_⟩
   have hjn:j < n:=by
    have:=(List.getElem?_eq_some_iff.1 hj).1
    rw [hn.len] at this; exact this
   have h0:=hat j hjn
   rw [Go.Deep.add_add] at h0
   rw [h0]; exact hj)
  refine⟨some a,L,cap,by rw [hll],?_,by omega,fun z hz=>?_,?_⟩
  ·cases L with
   | nil=>exact⟨fun _=>False,fun _ h=>h.elim,.inl rfl⟩
   | cons z0 r=>
    obtain⟨v0,hv0⟩:∃ v0,(enc' z0)[0]?=some v0:=by
     have:0 < (enc' z0).length:=by rw [hn.len]; exact hn.pos
     exact⟨_,List.getElem?_eq_getElem this⟩
    have hc0:=(hq 0 z0 rfl).2 0 _ hv0
    obtain⟨b,off,sp⟩:=a
    have hsp:sp=none:=by
     cases sp with
     | none=>rfl
     | some s=>
      exfalso
      simp only [World.cell?,Addr.add] at hc0
      split at hc0 <;> simp_all
    subst hsp
    have hbs:b < w.heap.size:=by
     rcases Nat.lt_or_ge b w.heap.size with h | h
     ·exact h
     ·exfalso
      rw [zb2] at hc0
      simp [World.cell?,Array.getElem?_eq_none h] at hc0
    refine⟨(· = b),fun k hk=>by rw [hk]; exact hbs,.inr ⟨b,off,rfl,fun _=>Iff.rfl,fun i z hz=>zfA _ _ fun j v hj=>?_⟩⟩
    have:=(hq i z hz).2 j v hj
    rw [zb2] at this
    rw [Nat.add_assoc]; exact this
  ·obtain⟨i,hi',rfl⟩:=List.getElem_of_mem hz
   exact(hq i _ (by simp [hi'])).1
  ·have h1:=hw _ (List.mem_cons_self ..)
   rw [hll]
   refine Nat.le_trans (Nat.mul_le_mul_right _ ?_) h1
   omega
theorem zfs {t:TypeId} {fs:Array Field} {fuel:Nat} {cs:List Value} {x:DataW H×List MemPlace} (ht:P.underlying t=some (.struct fs)) (h:DataW.trod enc P w base spare held fuel t cs=some x) (hx:WOk P t x.1) (i:Nat) (f:Field) (hf:fs[i]?=some f) (ho:f.offset=i) (hc:P.cellsOf f.type=1) (hi:i < cs.length) :
  ∃ (v:Value) (y:DataW H×List MemPlace) (m:Nat),cs[i]?=some v∧DataW.trod enc P w base spare held m f.type [v]=some y∧WOk P f.type y.1:=by
 obtain⟨ys,m,_,hxe,_,hyl,hg⟩:=DataW.trod_struct ht h
 have h1:=hg i f hf
 have hfi:i < fs.size:=by
  rcases Nat.lt_or_ge i fs.size with g | g
  ·exact g
  ·rw [Array.getElem?_eq_none g] at hf; cases hf
 rw [ho,hc,List.drop_eq_getElem_cons hi,List.getElem?_eq_getElem (by omega)] at h1
 have h2:DataW.trod enc P w base spare held m f.type [cs[i]]=some (ys[i]'(by omega)):=h1
 refine⟨cs[i],ys[i]'(by omega),m,List.getElem?_eq_getElem hi,h2,?_⟩
 rw [hxe] at hx
 exact zoH ht hx hf (List.getElem?_eq_getElem (by omega))
theorem zh1 {t:TypeId} {fs:Array Field} {fuel:Nat} {cs:List Value} {x:DataW H×List MemPlace} (ht:P.underlying t=some (.struct fs)) (h:DataW.trod enc P w base spare held fuel t cs=some x) (hx:WOk P t x.1) (i:Nat) (f:Field) (hf:fs[i]?=some f) (ho:f.offset=i) (hc:P.cellsOf f.type=1) (hi:i < cs.length)
  (hu:P.underlying f.type=some .string):∃ s:ByteArray,cs[i]?=some (.string s)∧Fits s.size:=by
 obtain⟨v,y,m,hv,hy,hw⟩:=zfs ht h hx i f hf ho hc hi
 obtain⟨s,e,ey,_⟩:=DataW.trod_string hu hy
 simp only [List.cons.injEq,and_true] at e
 subst e; subst ey
 refine⟨s,hv,?_⟩
 have:=hw s.size (by rw [DataW.weights]; simp)
 unfold reachBytes at this
 unfold Fits
 omega
theorem zbA {t:TypeId} {fs:Array Field} {fuel:Nat} {cs:List Value} {x:DataW H×List MemPlace} (ht:P.underlying t=some (.struct fs)) (h:DataW.trod enc P w base spare held fuel t cs=some x) (hx:WOk P t x.1) (i:Nat) (f:Field) (hf:fs[i]?=some f) (ho:f.offset=i) (hc:P.cellsOf f.type=1) (hi:i < cs.length)
  {k:IntKind} (hu:P.underlying f.type=some (.int k)):∃ n:Int,cs[i]?=some (.int k n)∧(Lit.int k n).wf=true:=by
 obtain⟨v,y,m,hv,hy,hw⟩:=zfs ht h hx i f hf ho hc hi
 obtain⟨n,e,ey,hwf⟩:=DataW.trod_int hu hy
 simp only [List.cons.injEq,and_true] at e
 subst e
 exact⟨n,hv,hwf⟩
theorem zfD {α:Type} {enc':α→List Value} {n:Nat} {Q:α→Prop} {t e:TypeId} {fs:Array Field} {fuel:Nat} {cs:List Value} {x:DataW H×List MemPlace} (ht:P.underlying t=some (.struct fs)) (h:DataW.trod enc P w base spare held fuel t cs=some x) (hx:WOk P t x.1) (i:Nat) (f:Field) (hf:fs[i]?=some f) (ho:f.offset=i) (hc:P.cellsOf f.type=1) (hi:i < cs.length)
  (hu:P.underlying f.type=some (.slice e)) (hce:P.cellsOf e=n) (hn:Enc n enc') (hel:∀ (fuel:Nat) (cs:List Value) (y:DataW H×List MemPlace),DataW.trod enc P w base spare held fuel e cs=some y→WOk P e y.1→∃ z,Q z∧cs=enc' z) :
  ∃ (a:Option Addr) (L:List α) (cap:Nat),cs[i]?=some (.slice a L.length cap)∧Has w (zaW a n enc' L)∧L.length≤cap∧(∀ z∈L,Q z)∧L.length*P.bytesOf e≤reachBytes:=by
 obtain⟨v,y,m,hv,hy,hw⟩:=zfs ht h hx i f hf ho hc hi
 obtain⟨a,L,cap,e1,h1,h2,h3,h4⟩:=zop hu hce hn hel hy hw
 simp only [List.cons.injEq,and_true] at e1
 subst e1
 exact⟨a,L,cap,hv,h1,h2,h3,h4⟩
end
section
variable {H:Type} {enc:TypeId×Value→H} {w:World} {base:Nat} {spare:Nat→Bool} {held:Bool}
theorem zfH {P:Program} {t:TypeId} {fs:Array Field} {fuel n:Nat} {cs:List Value} {x:DataW H×List MemPlace} (ht:P.underlying t=some (.struct fs)) (hc:P.cellsOf t=n) (h:DataW.trod enc P w base spare held fuel t cs=some x):cs.length=n:=by
 obtain⟨_,_,_,_,hl,_⟩:=DataW.trod_struct ht h
 rw [hl,hc]
theorem zrX {fuel:Nat} {cs:List Value} {y:DataW H×List MemPlace} (h:DataW.trod enc Tryz.prog w base spare held fuel 3 cs=some y) (_:WOk Tryz.prog 3 y.1):∃ n:Int,True∧cs=Go.Stn.encI n:=by
 obtain⟨n,e,_,_⟩:=DataW.trod_int Tryz.underlying3 h
 exact⟨n,trivial,e⟩
theorem zrY {fuel:Nat} {cs:List Value} {y:DataW H×List MemPlace} (h:DataW.trod enc Tryz.prog w base spare held fuel 139 cs=some y) (hx:WOk Tryz.prog 139 y.1) :
  ∃ o:Opn,Knd o∧cs=zba o:=by
 have hl:cs.length=5:=zfH Tryz.underlying139 (by kernel_rfl) h
 obtain⟨f0,e0,q0⟩:=zbA Tryz.underlying139 h hx 0 _ rfl rfl (by kernel_rfl) (by omega) Tryz.underlying5
 obtain⟨f1,e1,q1⟩:=zbA Tryz.underlying139 h hx 1 _ rfl rfl (by kernel_rfl) (by omega) Tryz.underlying3
 obtain⟨f2,e2,q2⟩:=zbA Tryz.underlying139 h hx 2 _ rfl rfl (by kernel_rfl) (by omega) Tryz.underlying3
 obtain⟨f3,e3,q3⟩:=zbA Tryz.underlying139 h hx 3 _ rfl rfl (by kernel_rfl) (by omega) Tryz.underlying3
 obtain⟨f4,e4,q4⟩:=zbA Tryz.underlying139 h hx 4 _ rfl rfl (by kernel_rfl) (by omega) Tryz.underlying3
 match cs,hl with
 | [c0,c1,c2,c3,c4],_=>
  simp only [List.getElem?_cons_zero,List.getElem?_cons_succ,Option.some.injEq] at e0 e1 e2 e3 e4
  subst e0; subst e1; subst e2; subst e3; subst e4
  exact⟨⟨f0,f1,f2,f3,f4⟩,bounds_u8 q0,rfl⟩
structure ShIn (w:World) (z:ShC):Prop where
 hts:Has w (Ints z.a z.s.heights)
 cap:z.s.heights.length≤z.cap
 fits:Fits z.s.name.size
 cope:0≤z.s.cope
 cope2:z.s.cope≤255
structure WlIn (w:World) (z:WlC):Prop where
 ops:Has w (zaW z.a 5 zba z.s.opens)
 cap:z.s.opens.length≤z.cap
 knd:∀ o∈z.s.opens,Knd o
 fits:Fits z.s.name.size
 fits2:Fits z.s.sheet.size
theorem zr0 {fuel:Nat} {cs:List Value} {y:DataW H×List MemPlace} (h:DataW.trod enc Tryz.prog w base spare held fuel 37 cs=some y) (hx:WOk Tryz.prog 37 y.1) :
  ∃ z:ShC,ShIn w z∧cs=zbH z:=by
 have hl:cs.length=20:=zfH Tryz.underlying37 (by kernel_rfl) h
 obtain⟨f0,e0,q0⟩:=zh1 Tryz.underlying37 h hx 0 _ rfl rfl (by kernel_rfl) (by omega) Tryz.underlying9
 obtain⟨f1,e1,q1⟩:=zbA Tryz.underlying37 h hx 1 _ rfl rfl (by kernel_rfl) (by omega) Tryz.underlying3
 obtain⟨f2,e2,q2⟩:=zbA Tryz.underlying37 h hx 2 _ rfl rfl (by kernel_rfl) (by omega) Tryz.underlying3
 obtain⟨f3,e3,q3⟩:=zbA Tryz.underlying37 h hx 3 _ rfl rfl (by kernel_rfl) (by omega) Tryz.underlying3
 obtain⟨f4,e4,q4⟩:=zbA Tryz.underlying37 h hx 4 _ rfl rfl (by kernel_rfl) (by omega) Tryz.underlying3
 obtain⟨a5,f5,k5,e5,q5,r5,s5,b5⟩:=zfD (Q:=fun _=>True) Tryz.underlying37 h hx 5 _ rfl rfl (by kernel_rfl) (by omega) Tryz.underlying35 (by kernel_rfl) Go.Stn.encI_ok (fun _ _ _ h1 h2=>zrX h1 h2)
 obtain⟨f6,e6,q6⟩:=zbA Tryz.underlying37 h hx 6 _ rfl rfl (by kernel_rfl) (by omega) Tryz.underlying3
 obtain⟨f7,e7,q7⟩:=zbA Tryz.underlying37 h hx 7 _ rfl rfl (by kernel_rfl) (by omega) Tryz.underlying3
 obtain⟨f8,e8,q8⟩:=zbA Tryz.underlying37 h hx 8 _ rfl rfl (by kernel_rfl) (by omega) Tryz.underlying3
 obtain⟨f9,e9,q9⟩:=zbA Tryz.underlying37 h hx 9 _ rfl rfl (by kernel_rfl) (by omega) Tryz.underlying3
 obtain⟨f10,e10,q10⟩:=zbA Tryz.underlying37 h hx 10 _ rfl rfl (by kernel_rfl) (by omega) Tryz.underlying3
 obtain⟨f11,e11,q11⟩:=zbA Tryz.underlying37 h hx 11 _ rfl rfl (by kernel_rfl) (by omega) Tryz.underlying3
 obtain⟨f12,e12,q12⟩:=zbA Tryz.underlying37 h hx 12 _ rfl rfl (by kernel_rfl) (by omega) Tryz.underlying3
 obtain⟨f13,e13,q13⟩:=zbA Tryz.underlying37 h hx 13 _ rfl rfl (by kernel_rfl) (by omega) Tryz.underlying5
 obtain⟨f14,e14,q14⟩:=zbA Tryz.underlying37 h hx 14 _ rfl rfl (by kernel_rfl) (by omega) Tryz.underlying3
 obtain⟨f15,e15,q15⟩:=zbA Tryz.underlying37 h hx 15 _ rfl rfl (by kernel_rfl) (by omega) Tryz.underlying3
 obtain⟨f16,e16,q16⟩:=zbA Tryz.underlying37 h hx 16 _ rfl rfl (by kernel_rfl) (by omega) Tryz.underlying3
 obtain⟨f17,e17,q17⟩:=zbA Tryz.underlying37 h hx 17 _ rfl rfl (by kernel_rfl) (by omega) Tryz.underlying3
 obtain⟨f18,e18,q18⟩:=zbA Tryz.underlying37 h hx 18 _ rfl rfl (by kernel_rfl) (by omega) Tryz.underlying3
 obtain⟨f19,e19,q19⟩:=zbA Tryz.underlying37 h hx 19 _ rfl rfl (by kernel_rfl) (by omega) Tryz.underlying3
 match cs,hl with
 | [c0,c1,c2,c3,c4,c5,c6,c7,c8,c9,c10,c11,c12,c13,c14,c15,c16,c17,c18,c19],_=>
  simp only [List.getElem?_cons_zero,List.getElem?_cons_succ,Option.some.injEq] at e0 e1 e2 e3 e4 e5 e6 e7 e8 e9 e10 e11 e12 e13 e14 e15 e16 e17 e18 e19
  subst e0; subst e1; subst e2; subst e3; subst e4; subst e5; subst e6; subst e7; subst e8; subst e9; subst e10; subst e11; subst e12; subst e13; subst e14; subst e15; subst e16; subst e17; subst e18; subst e19
  exact⟨⟨⟨f0,f1,f2,f3,f4,f5,f6,f7,f8,f9,f10,f11,f12,f13,f14,f15,f16,f17,f18,f19⟩,a5,k5⟩,⟨q5,r5,q0,(bounds_u8 q13).1,(bounds_u8 q13).2⟩,rfl⟩
theorem zr1 {fuel:Nat} {cs:List Value} {y:DataW H×List MemPlace} (h:DataW.trod enc Tryz.prog w base spare held fuel 65 cs=some y) (hx:WOk Tryz.prog 65 y.1) :
  ∃ z:WlC,WlIn w z∧cs=zbS z:=by
 have hl:cs.length=4:=zfH Tryz.underlying65 (by kernel_rfl) h
 obtain⟨f0,e0,q0⟩:=zh1 Tryz.underlying65 h hx 0 _ rfl rfl (by kernel_rfl) (by omega) Tryz.underlying9
 obtain⟨f1,e1,q1⟩:=zh1 Tryz.underlying65 h hx 1 _ rfl rfl (by kernel_rfl) (by omega) Tryz.underlying9
 obtain⟨f2,e2,q2⟩:=zbA Tryz.underlying65 h hx 2 _ rfl rfl (by kernel_rfl) (by omega) Tryz.underlying3
 obtain⟨a3,f3,k3,e3,q3,r3,s3,b3⟩:=zfD (Q:=Knd) Tryz.underlying65 h hx 3 _ rfl rfl (by kernel_rfl) (by omega) Tryz.underlying63 (by kernel_rfl) encOpn_ok (fun _ _ _ h1 h2=>zrY h1 h2)
 match cs,hl with
 | [c0,c1,c2,c3],_=>
  simp only [List.getElem?_cons_zero,List.getElem?_cons_succ,Option.some.injEq] at e0 e1 e2 e3
  subst e0; subst e1; subst e2; subst e3
  exact⟨⟨⟨f0,f1,f2,f3⟩,a3,k3⟩,⟨q3,r3,s3,q0,q1⟩,rfl⟩
theorem h37 {n:Nat} (h:n*Tryz.prog.bytesOf 37≤reachBytes):zaP n:=by
 rw [show Tryz.prog.bytesOf 37=184 by kernel_rfl] at h
 unfold reachBytes at h
 unfold zaP
 omega
theorem h65 {n:Nat} (h:n*Tryz.prog.bytesOf 65≤reachBytes):n≤4398046511104:=by
 rw [show Tryz.prog.bytesOf 65=64 by kernel_rfl] at h
 unfold reachBytes at h
 omega
structure zsA (w:World) (a:Option Addr) (cap:Nat) (S:List ShC) (b:Option Addr) (bcap:Nat) (V:List WlC):Prop where
 hl:Has w (zaW a 20 zbH S)
 hcS:S.length≤cap
 hS:∀ z∈S,ShIn w z
 hs:zaP S.length
 hlw:Has w (zaW b 4 zbS V)
 hcV:V.length≤bcap
 hV:∀ z∈V,WlIn w z
 hsw:V.length≤4398046511104
theorem zrZ {fuel:Nat} {cs:List Value} {y:DataW H×List MemPlace} (h:DataW.trod enc Tryz.prog w base spare held fuel 25 cs=some y) (hx:WOk Tryz.prog 25 y.1) :
  ∃ (a:Option Addr) (cap:Nat) (S:List ShC) (b:Option Addr) (bcap:Nat) (V:List WlC),zsA w a cap S b bcap V∧cs=[.slice a S.length cap,.slice b V.length bcap]:=by
 have hl:cs.length=2:=zfH Tryz.underlying25 (by kernel_rfl) h
 obtain⟨a0,f0,k0,e0,q0,r0,s0,b0⟩:=zfD (Q:=ShIn w) Tryz.underlying25 h hx 0 _ rfl rfl (by kernel_rfl) (by omega) Tryz.underlying22 (by kernel_rfl) zbI (fun _ _ _ h1 h2=>zr0 h1 h2)
 obtain⟨a1,f1,k1,e1,q1,r1,s1,b1⟩:=zfD (Q:=WlIn w) Tryz.underlying25 h hx 1 _ rfl rfl (by kernel_rfl) (by omega) Tryz.underlying23 (by kernel_rfl) zbo (fun _ _ _ h1 h2=>zr1 h1 h2)
 match cs,hl with
 | [c0,c1],_=>
  simp only [List.getElem?_cons_zero,List.getElem?_cons_succ,Option.some.injEq] at e0 e1
  subst e0; subst e1
  exact⟨a0,k0,f0,a1,k1,f1,⟨q0,r0,s0,h37 b0,q1,r1,s1,h65 b1⟩,rfl⟩
set_option maxRecDepth 100000 in
theorem open_plan {r:Reach} {b0:Nat} {v:Value} {d:DataW H} {p:List MemPlace} (hv:Value.okWide Tryz.prog w r b0 25 v) (h:DataW.Trod enc Tryz.prog w base spare held 25 v d p) (hx:WOk Tryz.prog 25 d) :
  ∃ (a:Option Addr) (cap:Nat) (S:List ShC) (b:Option Addr) (bcap:Nat) (V:List WlC),zsA w a cap S b bcap V∧v=.agg #[.slice a S.length cap,.slice b V.length bcap]:=by
 obtain⟨cs,rfl,hsz⟩:=okWide_struct Tryz.underlying25 hv
 obtain⟨fuel,hf⟩:=h
 obtain⟨a,cap,S,b,bcap,V,h1,h2⟩:=zrZ (y:=(d,p)) hf hx
 refine⟨a,cap,S,b,bcap,V,h1,?_⟩
 obtain⟨ls⟩:=cs
 have h5:ls=_:=h2
 rw [h5]
set_option maxRecDepth 100000 in
theorem open_text {r:Reach} {b0:Nat} {v:Value} {d:DataW H} {p:List MemPlace} (hv:Value.okWide Tryz.prog w r b0 9 v) (h:DataW.Trod enc Tryz.prog w base spare held 9 v d p) (hx:WOk Tryz.prog 9 d):∃ s:ByteArray,Fits s.size∧v=.string s:=by
 obtain⟨s,rfl⟩:=okWide_string Tryz.underlying9 hv
 obtain⟨fuel,hf⟩:=h
 obtain⟨s',e,ey,_⟩:=DataW.trod_string Tryz.underlying9 hf
 simp only [Value.cells,List.cons.injEq,Value.string.injEq,and_true] at e
 subst e
 simp only [Prod.mk.injEq] at ey
 refine⟨s,?_,rfl⟩
 have:=hx s.size (by rw [ey.1,DataW.weights]; simp)
 unfold reachBytes at this
 unfold Fits
 omega
end
end Go.Proofs.YtdcfcfhmkfkgmaaGreatDoor