/- What the proof of the root text leans on, part 6: the layer, plain facts and walks. No statement of the seat is proved in this text. -/
import Derived.Shelf.SlSortCmp.NoneTotal
import Derived.Test.YtdcfcfhmkfkgmaaGreatDoorProg
import Derived.Test.YtdcfcfhmkfkgmaaGreatDoorPr5
namespace Go.Proofs.YtdcfcfhmkfkgmaaGreatDoor
open Go.K Go.Stn Go.Pln Go.RowKit
set_option maxRecDepth 100000 in
set_option maxHeartbeats 8000000 in
theorem zzW (s:Sht) (a:Option Addr) (cap:Nat) (b:Option Addr) (bcap:Nat) (w:World) (hl:Has w (Ints a s.heights)) (hl2:Has w (Ints b s.heights)) (hs:zaP s.heights.length) :
  Calls Tryz.prog 39 #[.agg #[.string s.name,.int .i64 s.base,.int .i64 s.batter,.int .i64 s.height,.int .i64 s.skin,.slice a s.heights.length cap,.int .i64 s.least,.int .i64 s.lap,.int .i64 s.run,.int .i64 s.every,.int .i64 s.at_,.int .i64 s.footing,.int .i64 s.spread,.int .u8 s.cope,.int .i64 s.tall,.int .i64 s.short,.int .i64 s.thick,.int .i64 s.low,.int .i64 s.high,.int .i64 s.rood],.agg #[.string s.name,.int .i64 s.base,.int .i64 s.batter,.int .i64 s.height,.int .i64 s.skin,.slice b s.heights.length bcap,.int .i64 s.least,.int .i64 s.lap,.int .i64 s.run,.int .i64 s.every,.int .i64 s.at_,.int .i64 s.footing,.int .i64 s.spread,.int .u8 s.cope,.int .i64 s.tall,.int .i64 s.short,.int .i64 s.thick,.int .i64 s.low,.int .i64 s.high,.int .i64 s.rood]] w (Pure (.bool true) w):=by
 refine zan (vs:=[_,_]) Tryz.func39 rfl rfl (Nat.le_of_ble_eq_true rfl) ?_
 refine zac ?_
 refine zaa ?_
 refine zaG rfl rfl (za3 (vs:=[_,_,_,_,_,_,_,_,_,_,_,_,_,_,_,_,_,_,_,_]) rfl rfl) fun b2=>?_
 refine zaG rfl rfl (za3 (vs:=[_,_,_,_,_,_,_,_,_,_,_,_,_,_,_,_,_,_,_,_]) rfl rfl) fun b3=>?_
 refine gQ (zad rfl) ?_
 refine zag (zae (T':=[(2,_),(3,_),(4,_)]) ⟨rfl,rfl,rfl,trivial⟩ ?_)
 refine zac ?_
 refine zac ?_
 refine zaa ?_
 refine gQ (zab zia rfl) ?_
 refine gQ (zah 1 tf35 rfl rfl rfl) ?_
 refine gQ (zaV (Tryz.underlying35) rfl) ?_
 refine gQ (zab zgl rfl) ?_
 refine gQ (zah 0 tf35 rfl rfl rfl) ?_
 refine gQ (zaV (Tryz.underlying35) rfl) ?_
 refine gQ (zcr rfl rfl) ?_
 refine zag (zae (T':=[(2,_),(3,_),(4,_),(12,_)]) ⟨rfl,rfl,rfl,rfl,trivial⟩ ?_)
 refine zap rfl (fun hc12=>?_) (fun hc12=>?_)
 ·exfalso; simp at hc12
 ·simp only [Bool.not_eq_false',decide_eq_true_eq] at hc12
  refine zaq ?_
  refine zac ?_
  refine zac ?_
  refine zaa ?_
  refine gQ (zad rfl) ?_
  refine zag (zae (T':=[(2,_),(3,_),(4,_),(5,_)]) ⟨rfl,rfl,rfl,rfl,trivial⟩ ?_)
  refine zas ?_
  refine zbf (X:=Int) (fun(i:Int)=>[(2,.pointer (some ⟨b2,0,none⟩)),(3,.pointer (some ⟨b3,0,none⟩)),(4,.bool false),(5,.int .i64 i)]) (fun(i:Int)=>[Box b3 [.string s.name,.int .i64 s.base,.int .i64 s.batter,.int .i64 s.height,.int .i64 s.skin,.slice b s.heights.length bcap,.int .i64 s.least,.int .i64 s.lap,.int .i64 s.run,.int .i64 s.every,.int .i64 s.at_,.int .i64 s.footing,.int .i64 s.spread,.int .u8 s.cope,.int .i64 s.tall,.int .i64 s.short,.int .i64 s.thick,.int .i64 s.low,.int .i64 s.high,.int .i64 s.rood] 37,Box b2 [.string s.name,.int .i64 s.base,.int .i64 s.batter,.int .i64 s.height,.int .i64 s.skin,.slice a s.heights.length cap,.int .i64 s.least,.int .i64 s.lap,.int .i64 s.run,.int .i64 s.every,.int .i64 s.at_,.int .i64 s.footing,.int .i64 s.spread,.int .u8 s.cope,.int .i64 s.tall,.int .i64 s.short,.int .i64 s.thick,.int .i64 s.low,.int .i64 s.high,.int .i64 s.rood] 41]) (fun(i:Int)=>(0≤i∧i≤s.heights.length)) (fun(i:Int)=>(s.heights.length - i).toNat) 0 ⟨rfl,rfl,rfl,rfl,trivial⟩ rfl ?_ ?_
  ·exact⟨by omega,by omega⟩
  ·rintro i hI
   obtain⟨g0,g1⟩:=hI
   refine zac ?_
   refine zac ?_
   refine zaa ?_
   refine gQ (zaf rfl) ?_
   refine gQ (zab zia rfl) ?_
   refine gQ (zah 1 tf35 rfl rfl rfl) ?_
   refine gQ (zaV (Tryz.underlying35) rfl) ?_
   refine gQ (zbw rfl rfl) ?_
   refine zag (zae (T':=[(2,_),(3,_),(4,_),(5,_),(17,_)]) ⟨rfl,rfl,rfl,rfl,rfl,trivial⟩ ?_)
   refine zap rfl (fun hc17=>?_) (fun hc17=>?_)
   ·have hc17:=of_decide_eq_true hc17
    refine zaq ?_
    refine zac ?_
    refine zas ?_
    refine zac ?_
    refine zbb 11 (fun _=>mixed) (by kernel_rfl) ?_
    refine ph_y (zab zia rfl) ?_
    refine ph_y (zah 1 tf35 rfl rfl rfl) ?_
    refine ph_y (zaf rfl) ?_
    refine ph_y (zaE se35 rfl rfl (fun _ hw=>(Rd.has (Has.rd hl) hw)) (by omega) (by omega)) ?_
    refine ph_y (zcE tf3 rfl (fun _ hw=>(Rd.has (Has.rd hl) hw)) (by omega) (by omega) rfl) ?_
    refine ph_y (zab zgl rfl) ?_
    refine ph_y (zah 0 tf35 rfl rfl rfl) ?_
    refine ph_y (zaf rfl) ?_
    refine ph_y (zaE se35 rfl rfl (fun _ hw=>(Rd.has (Has.rd hl2) hw)) (by omega) (by omega)) ?_
    refine ph_y (zcE tf3 rfl (fun _ hw=>(Rd.has (Has.rd hl2) hw)) (by omega) (by omega) rfl) ?_
    refine ph_y (zcr rfl rfl) ?_
    refine zag (zae (T':=[(2,_),(3,_),(4,_),(5,_),(30,_)]) ⟨rfl,rfl,rfl,rfl,rfl,trivial⟩ ?_)
    refine zap rfl (fun hc30=>?_) (fun hc30=>?_)
    ·exfalso; simp at hc30
    ·simp only [Bool.not_eq_false',decide_eq_true_eq] at hc30
     refine zaq ?_
     refine zaa ?_
     refine gQ (zaf rfl) ?_
     refine gQ (zaY rfl rfl (by omega) (by omega)) ?_
     refine gQ (zad rfl) ?_
     refine zag (zae (T':=[(2,_),(3,_),(4,_),(5,_)]) ⟨rfl,rfl,rfl,rfl,trivial⟩ ?_)
     exact za1 (i+1) ⟨rfl,rfl,rfl,rfl,trivial⟩ rfl ⟨by omega,by omega⟩ (by omega)
   ·
    refine za8 rfl ?_
    refine zac ?_
    refine zac ?_
    refine zbb 68 (fun _=>mixed) (by kernel_rfl) ?_
    refine ph_y (zab znb rfl) ?_
    refine ph_y (zah 1 tf9 rfl rfl rfl) ?_
    refine ph_y (zab zkW rfl) ?_
    refine ph_y (zah 0 tf9 rfl rfl rfl) ?_
    refine ph_y (ziV rfl rfl) ?_
    refine ph_y (zaf rfl) ?_
    refine zaz rfl rfl (fun hgd=>by(try rw [hgd]); exact(zab znc rfl)) ?_
    refine zaz rfl rfl (fun hgd=>by(try rw [hgd]); exact(zah 1 tf3 rfl rfl rfl)) ?_
    refine zaz rfl rfl (fun hgd=>by(try rw [hgd]); exact(zab zna rfl)) ?_
    refine zaz rfl rfl (fun hgd=>by(try rw [hgd]); exact(zah 0 tf3 rfl rfl rfl)) ?_
    refine zaz rfl rfl (fun hgd=>by(try rw [hgd]); exact(zcr rfl rfl)) ?_
    refine ph_y (zaR rfl rfl rfl) ?_
    refine ph_y (zaf rfl) ?_
    refine zaz rfl rfl (fun hgd=>by(try rw [hgd]); exact(zab zpv rfl)) ?_
    refine zaz rfl rfl (fun hgd=>by(try rw [hgd]); exact(zah 1 tf3 rfl rfl rfl)) ?_
    refine zaz rfl rfl (fun hgd=>by(try rw [hgd]); exact(zab zps rfl)) ?_
    refine zaz rfl rfl (fun hgd=>by(try rw [hgd]); exact(zah 0 tf3 rfl rfl rfl)) ?_
    refine zaz rfl rfl (fun hgd=>by(try rw [hgd]); exact(zcr rfl rfl)) ?_
    refine ph_y (zaR rfl rfl rfl) ?_
    refine ph_y (zaf rfl) ?_
    refine zaz rfl rfl (fun hgd=>by(try rw [hgd]); exact(zab zep rfl)) ?_
    refine zaz rfl rfl (fun hgd=>by(try rw [hgd]); exact(zah 1 tf3 rfl rfl rfl)) ?_
    refine zaz rfl rfl (fun hgd=>by(try rw [hgd]); exact(zab zdC rfl)) ?_
    refine zaz rfl rfl (fun hgd=>by(try rw [hgd]); exact(zah 0 tf3 rfl rfl rfl)) ?_
    refine zaz rfl rfl (fun hgd=>by(try rw [hgd]); exact(zcr rfl rfl)) ?_
    refine ph_y (zaR rfl rfl rfl) ?_
    refine ph_y (zaf rfl) ?_
    refine zaz rfl rfl (fun hgd=>by(try rw [hgd]); exact(zab znd rfl)) ?_
    refine zaz rfl rfl (fun hgd=>by(try rw [hgd]); exact(zah 1 tf3 rfl rfl rfl)) ?_
    refine zaz rfl rfl (fun hgd=>by(try rw [hgd]); exact(zab zkX rfl)) ?_
    refine zaz rfl rfl (fun hgd=>by(try rw [hgd]); exact(zah 0 tf3 rfl rfl rfl)) ?_
    refine zaz rfl rfl (fun hgd=>by(try rw [hgd]); exact(zcr rfl rfl)) ?_
    refine ph_y (zaR rfl rfl rfl) ?_
    refine ph_y (zaf rfl) ?_
    refine zaz rfl rfl (fun hgd=>by(try rw [hgd]); exact(zab zpw rfl)) ?_
    refine zaz rfl rfl (fun hgd=>by(try rw [hgd]); exact(zah 1 tf3 rfl rfl rfl)) ?_
    refine zaz rfl rfl (fun hgd=>by(try rw [hgd]); exact(zab zpt rfl)) ?_
    refine zaz rfl rfl (fun hgd=>by(try rw [hgd]); exact(zah 0 tf3 rfl rfl rfl)) ?_
    refine zaz rfl rfl (fun hgd=>by(try rw [hgd]); exact(zcr rfl rfl)) ?_
    refine ph_y (zaR rfl rfl rfl) ?_
    refine ph_y (zaf rfl) ?_
    refine zaz rfl rfl (fun hgd=>by(try rw [hgd]); exact(zab zsK rfl)) ?_
    refine zaz rfl rfl (fun hgd=>by(try rw [hgd]); exact(zah 1 tf3 rfl rfl rfl)) ?_
    refine zaz rfl rfl (fun hgd=>by(try rw [hgd]); exact(zab zsI rfl)) ?_
    refine zaz rfl rfl (fun hgd=>by(try rw [hgd]); exact(zah 0 tf3 rfl rfl rfl)) ?_
    refine zaz rfl rfl (fun hgd=>by(try rw [hgd]); exact(zcr rfl rfl)) ?_
    refine ph_y (zaR rfl rfl rfl) ?_
    refine ph_y (zaf rfl) ?_
    refine zaz rfl rfl (fun hgd=>by(try rw [hgd]); exact(zab zsL rfl)) ?_
    refine zaz rfl rfl (fun hgd=>by(try rw [hgd]); exact(zah 1 tf3 rfl rfl rfl)) ?_
    refine zaz rfl rfl (fun hgd=>by(try rw [hgd]); exact(zab zsJ rfl)) ?_
    refine zaz rfl rfl (fun hgd=>by(try rw [hgd]); exact(zah 0 tf3 rfl rfl rfl)) ?_
    refine zaz rfl rfl (fun hgd=>by(try rw [hgd]); exact(zcr rfl rfl)) ?_
    refine ph_y (zaR rfl rfl rfl) ?_
    refine ph_y (zaf rfl) ?_
    refine zaz rfl rfl (fun hgd=>by(try rw [hgd]); exact(zab zhc rfl)) ?_
    refine zaz rfl rfl (fun hgd=>by(try rw [hgd]); exact(zah 1 tf3 rfl rfl rfl)) ?_
    refine zaz rfl rfl (fun hgd=>by(try rw [hgd]); exact(zab zjh rfl)) ?_
    refine zaz rfl rfl (fun hgd=>by(try rw [hgd]); exact(zah 0 tf3 rfl rfl rfl)) ?_
    refine zaz rfl rfl (fun hgd=>by(try rw [hgd]); exact(zcr rfl rfl)) ?_
    refine ph_y (zaR rfl rfl rfl) ?_
    refine ph_y (zaf rfl) ?_
    refine zaz rfl rfl (fun hgd=>by(try rw [hgd]); exact(zab zh9 rfl)) ?_
    refine zaz rfl rfl (fun hgd=>by(try rw [hgd]); exact(zah 1 tf3 rfl rfl rfl)) ?_
    refine zaz rfl rfl (fun hgd=>by(try rw [hgd]); exact(zab zjU rfl)) ?_
    refine zaz rfl rfl (fun hgd=>by(try rw [hgd]); exact(zah 0 tf3 rfl rfl rfl)) ?_
    refine zaz rfl rfl (fun hgd=>by(try rw [hgd]); exact(zcr rfl rfl)) ?_
    refine ph_y (zaR rfl rfl rfl) ?_
    refine zag (zae (T':=[(2,_),(3,_),(4,_),(98,_)]) ⟨rfl,rfl,rfl,rfl,trivial⟩ ?_)
    refine zap rfl (fun hc98=>?_) (fun hc98=>?_)
    ·exfalso; simp at hc98
    ·simp only [Bool.or_eq_false_iff,Bool.not_eq_false',decide_eq_true_eq] at hc98
     refine zaq ?_
     refine zac ?_
     refine zbb 62 (fun _=>mixed) (by kernel_rfl) ?_
     refine ph_y (zab zl8 rfl) ?_
     refine ph_y (zah 1 tf3 rfl rfl rfl) ?_
     refine ph_y (zab zl4 rfl) ?_
     refine ph_y (zah 0 tf3 rfl rfl rfl) ?_
     refine ph_y (zbL rfl rfl) ?_
     refine ph_y (zaf rfl) ?_
     refine zaH rfl rfl (fun hgd=>by(try rw [hgd]); exact(zab zl9 rfl)) ?_
     refine zaH rfl rfl (fun hgd=>by(try rw [hgd]); exact(zah 1 tf3 rfl rfl rfl)) ?_
     refine zaH rfl rfl (fun hgd=>by(try rw [hgd]); exact(zab zl5 rfl)) ?_
     refine zaH rfl rfl (fun hgd=>by(try rw [hgd]); exact(zah 0 tf3 rfl rfl rfl)) ?_
     refine zaH rfl rfl (fun hgd=>by(try rw [hgd]); exact(zbL rfl rfl)) ?_
     refine ph_y (zaX rfl rfl rfl) ?_
     refine ph_y (zaf rfl) ?_
     refine zaH rfl rfl (fun hgd=>by(try rw [hgd]); exact(zab zjW rfl)) ?_
     refine zaH rfl rfl (fun hgd=>by(try rw [hgd]); exact(zah 1 tf5 rfl rfl rfl)) ?_
     refine zaH rfl rfl (fun hgd=>by(try rw [hgd]); exact(zab zfb rfl)) ?_
     refine zaH rfl rfl (fun hgd=>by(try rw [hgd]); exact(zah 0 tf5 rfl rfl rfl)) ?_
     refine zaH rfl rfl (fun hgd=>by(try rw [hgd]); exact(zbL rfl rfl)) ?_
     refine ph_y (zaX rfl rfl rfl) ?_
     refine ph_y (zaf rfl) ?_
     refine zaH rfl rfl (fun hgd=>by(try rw [hgd]); exact(zab zfc rfl)) ?_
     refine zaH rfl rfl (fun hgd=>by(try rw [hgd]); exact(zah 1 tf3 rfl rfl rfl)) ?_
     refine zaH rfl rfl (fun hgd=>by(try rw [hgd]); exact(zab zjV rfl)) ?_
     refine zaH rfl rfl (fun hgd=>by(try rw [hgd]); exact(zah 0 tf3 rfl rfl rfl)) ?_
     refine zaH rfl rfl (fun hgd=>by(try rw [hgd]); exact(zbL rfl rfl)) ?_
     refine ph_y (zaX rfl rfl rfl) ?_
     refine ph_y (zaf rfl) ?_
     refine zaH rfl rfl (fun hgd=>by(try rw [hgd]); exact(zab zf1 rfl)) ?_
     refine zaH rfl rfl (fun hgd=>by(try rw [hgd]); exact(zah 1 tf3 rfl rfl rfl)) ?_
     refine zaH rfl rfl (fun hgd=>by(try rw [hgd]); exact(zab zh7 rfl)) ?_
     refine zaH rfl rfl (fun hgd=>by(try rw [hgd]); exact(zah 0 tf3 rfl rfl rfl)) ?_
     refine zaH rfl rfl (fun hgd=>by(try rw [hgd]); exact(zbL rfl rfl)) ?_
     refine ph_y (zaX rfl rfl rfl) ?_
     refine ph_y (zaf rfl) ?_
     refine zaH rfl rfl (fun hgd=>by(try rw [hgd]); exact(zab zfd rfl)) ?_
     refine zaH rfl rfl (fun hgd=>by(try rw [hgd]); exact(zah 1 tf3 rfl rfl rfl)) ?_
     refine zaH rfl rfl (fun hgd=>by(try rw [hgd]); exact(zab zh8 rfl)) ?_
     refine zaH rfl rfl (fun hgd=>by(try rw [hgd]); exact(zah 0 tf3 rfl rfl rfl)) ?_
     refine zaH rfl rfl (fun hgd=>by(try rw [hgd]); exact(zbL rfl rfl)) ?_
     refine ph_y (zaX rfl rfl rfl) ?_
     refine ph_y (zaf rfl) ?_
     refine zaH rfl rfl (fun hgd=>by(try rw [hgd]); exact(zab zpu rfl)) ?_
     refine zaH rfl rfl (fun hgd=>by(try rw [hgd]); exact(zah 1 tf3 rfl rfl rfl)) ?_
     refine zaH rfl rfl (fun hgd=>by(try rw [hgd]); exact(zab zpr rfl)) ?_
     refine zaH rfl rfl (fun hgd=>by(try rw [hgd]); exact(zah 0 tf3 rfl rfl rfl)) ?_
     refine zaH rfl rfl (fun hgd=>by(try rw [hgd]); exact(zbL rfl rfl)) ?_
     refine ph_y (zaX rfl rfl rfl) ?_
     refine ph_y (zaf rfl) ?_
     refine zaH rfl rfl (fun hgd=>by(try rw [hgd]); exact(zab zma rfl)) ?_
     refine zaH rfl rfl (fun hgd=>by(try rw [hgd]); exact(zah 1 tf3 rfl rfl rfl)) ?_
     refine zaH rfl rfl (fun hgd=>by(try rw [hgd]); exact(zab zl6 rfl)) ?_
     refine zaH rfl rfl (fun hgd=>by(try rw [hgd]); exact(zah 0 tf3 rfl rfl rfl)) ?_
     refine zaH rfl rfl (fun hgd=>by(try rw [hgd]); exact(zbL rfl rfl)) ?_
     refine ph_y (zaX rfl rfl rfl) ?_
     refine ph_y (zaf rfl) ?_
     refine zaH rfl rfl (fun hgd=>by(try rw [hgd]); exact(zab zmb rfl)) ?_
     refine zaH rfl rfl (fun hgd=>by(try rw [hgd]); exact(zah 1 tf3 rfl rfl rfl)) ?_
     refine zaH rfl rfl (fun hgd=>by(try rw [hgd]); exact(zab zl7 rfl)) ?_
     refine zaH rfl rfl (fun hgd=>by(try rw [hgd]); exact(zah 0 tf3 rfl rfl rfl)) ?_
     refine zaH rfl rfl (fun hgd=>by(try rw [hgd]); exact(zbL rfl rfl)) ?_
     refine ph_y (zaX rfl rfl rfl) ?_
     refine ph_y (zad rfl) ?_
     refine zag (zae (T':=[(4,_)]) ⟨rfl,trivial⟩ ?_)
     refine zaw ?_
     refine zay (zaC rfl (zau rfl)) ?_
     simp
set_option maxRecDepth 100000 in
set_option maxHeartbeats 8000000 in
theorem zAi (v:Wll) (a:Option Addr) (cap:Nat) (b:Option Addr) (bcap:Nat) (w:World) (hl:Has w (zaW a 5 zba v.opens)) (hl2:Has w (zaW b 5 zba v.opens)) (hs:zaP v.opens.length) :
  Calls Tryz.prog 38 #[.agg #[.string v.name,.string v.sheet,.int .i64 v.length,.slice a v.opens.length cap],.agg #[.string v.name,.string v.sheet,.int .i64 v.length,.slice b v.opens.length bcap]] w (Pure (.bool true) w):=by
 refine zan (vs:=[_,_]) Tryz.func38 rfl rfl (Nat.le_of_ble_eq_true rfl) ?_
 refine zac ?_
 refine zaa ?_
 refine zaG rfl rfl (za3 (vs:=[_,_,_,_]) rfl rfl) fun b2=>?_
 refine zaG rfl rfl (za3 (vs:=[_,_,_,_]) rfl rfl) fun b3=>?_
 refine gQ (zad rfl) ?_
 refine zag (zae (T':=[(2,_),(3,_),(4,_)]) ⟨rfl,rfl,rfl,trivial⟩ ?_)
 refine zac ?_
 refine zac ?_
 refine zbb 28 (fun _=>mixed) (by kernel_rfl) ?_
 refine ph_y (zab znh rfl) ?_
 refine ph_y (zah 1 tf9 rfl rfl rfl) ?_
 refine ph_y (zab znf rfl) ?_
 refine ph_y (zah 0 tf9 rfl rfl rfl) ?_
 refine ph_y (ziV rfl rfl) ?_
 refine ph_y (zaf rfl) ?_
 refine zaz rfl rfl (fun hgd=>by(try rw [hgd]); exact(zab zni rfl)) ?_
 refine zaz rfl rfl (fun hgd=>by(try rw [hgd]); exact(zah 1 tf9 rfl rfl rfl)) ?_
 refine zaz rfl rfl (fun hgd=>by(try rw [hgd]); exact(zab zpy rfl)) ?_
 refine zaz rfl rfl (fun hgd=>by(try rw [hgd]); exact(zah 0 tf9 rfl rfl rfl)) ?_
 refine zaz rfl rfl (fun hgd=>by(try rw [hgd]); exact(ziV rfl rfl)) ?_
 refine ph_y (zaR rfl rfl rfl) ?_
 refine ph_y (zaf rfl) ?_
 refine zaz rfl rfl (fun hgd=>by(try rw [hgd]); exact(zab zgo rfl)) ?_
 refine zaz rfl rfl (fun hgd=>by(try rw [hgd]); exact(zah 1 tf3 rfl rfl rfl)) ?_
 refine zaz rfl rfl (fun hgd=>by(try rw [hgd]); exact(zab zfS rfl)) ?_
 refine zaz rfl rfl (fun hgd=>by(try rw [hgd]); exact(zah 0 tf3 rfl rfl rfl)) ?_
 refine zaz rfl rfl (fun hgd=>by(try rw [hgd]); exact(zcr rfl rfl)) ?_
 refine ph_y (zaR rfl rfl rfl) ?_
 refine ph_y (zaf rfl) ?_
 refine zaz rfl rfl (fun hgd=>by(try rw [hgd]); exact(zab zhe rfl)) ?_
 refine zaz rfl rfl (fun hgd=>by(try rw [hgd]); exact(zah 1 tf92 rfl rfl rfl)) ?_
 refine zaz rfl rfl (fun hgd=>by(try rw [hgd]); exact(zaV (Tryz.underlying92) rfl)) ?_
 refine zaz rfl rfl (fun hgd=>by(try rw [hgd]); exact(zab zgn rfl)) ?_
 refine zaz rfl rfl (fun hgd=>by(try rw [hgd]); exact(zah 0 tf63 rfl rfl rfl)) ?_
 refine zaz rfl rfl (fun hgd=>by(try rw [hgd]); exact(zaV (Tryz.underlying63) rfl)) ?_
 refine zaz rfl rfl (fun hgd=>by(try rw [hgd]); exact(zcr rfl rfl)) ?_
 refine ph_y (zaR rfl rfl rfl) ?_
 refine zag (zae (T':=[(2,_),(3,_),(4,_),(35,_)]) ⟨rfl,rfl,rfl,rfl,trivial⟩ ?_)
 refine zap rfl (fun hc35=>?_) (fun hc35=>?_)
 ·exfalso; simp at hc35
 ·simp only [Bool.or_eq_false_iff,Bool.not_eq_false',decide_eq_true_eq] at hc35
  refine zaq ?_
  refine zac ?_
  refine zac ?_
  refine zaa ?_
  refine gQ (zad rfl) ?_
  refine zag (zae (T':=[(2,_),(3,_),(4,_),(5,_)]) ⟨rfl,rfl,rfl,rfl,trivial⟩ ?_)
  refine zas ?_
  refine zbf (X:=Int) (fun(i:Int)=>[(2,.pointer (some ⟨b2,0,none⟩)),(3,.pointer (some ⟨b3,0,none⟩)),(4,.bool false),(5,.int .i64 i)]) (fun(i:Int)=>[Box b3 [.string v.name,.string v.sheet,.int .i64 v.length,.slice b v.opens.length bcap] 65,Box b2 [.string v.name,.string v.sheet,.int .i64 v.length,.slice a v.opens.length cap] 94]) (fun(i:Int)=>(0≤i∧i≤v.opens.length)) (fun(i:Int)=>(v.opens.length - i).toNat) 0 ⟨rfl,rfl,rfl,rfl,trivial⟩ rfl ?_ ?_
  ·exact⟨by omega,by omega⟩
  ·rintro i hI
   obtain⟨g0,g1⟩:=hI
   refine zac ?_
   refine zac ?_
   refine zaa ?_
   refine gQ (zaf rfl) ?_
   refine gQ (zab zhe rfl) ?_
   refine gQ (zah 1 tf92 rfl rfl rfl) ?_
   refine gQ (zaV (Tryz.underlying92) rfl) ?_
   refine gQ (zbw rfl rfl) ?_
   refine zag (zae (T':=[(2,_),(3,_),(4,_),(5,_),(40,_)]) ⟨rfl,rfl,rfl,rfl,rfl,trivial⟩ ?_)
   refine zap rfl (fun hc40=>?_) (fun hc40=>?_)
   ·have hc40:=of_decide_eq_true hc40
    refine zaq ?_
    refine zac ?_
    refine zas ?_
    refine zac ?_
    refine zf3 (ch [(10,Nat),(11,Nat)]) 14 [0,1,0,7,15,0,32,0,224,480,0,0,3103,8191] (fun _=>mixed) (by kernel_rfl) (zjK _ ⟨inferInstance,inferInstance,trivial⟩) ?_
    refine zbD (fun ρ=>zab zhe rfl) (fun ρ ρ' h=>by rfl) ?_
    refine zbD (fun ρ=>zah 1 tf92 rfl rfl rfl) (fun ρ ρ' h=>by rfl) ?_
    refine zbD (fun ρ=>zaf rfl) (fun ρ ρ' h=>by rfl) ?_
    refine zbD (fun ρ=>zaE se92 rfl rfl (fun _ hw=>(Rd.has (Has.rd hl) hw)) (by omega) (by omega)) (fun ρ ρ' h=>by rfl) ?_
    refine zbD (fun ρ=>zbv (vs:=[_,_,_,_,_]) tf98 rfl (fun _ hw=>(Rd.has (Has.rd hl) hw)) (by omega) (by omega) rfl) (fun ρ ρ' h=>by rfl) ?_
    refine zbD (fun ρ=>zab zgn rfl) (fun ρ ρ' h=>by rfl) ?_
    refine zbD (fun ρ=>zah 0 tf63 rfl rfl rfl) (fun ρ ρ' h=>by rfl) ?_
    refine zbD (fun ρ=>zaf rfl) (fun ρ ρ' h=>by rfl) ?_
    refine zbD (fun ρ=>zaE se63 rfl rfl (fun _ hw=>(Rd.has (Has.rd hl2) hw)) (by omega) (by omega)) (fun ρ ρ' h=>by rfl) ?_
    refine zbD (fun ρ=>zbv (vs:=[_,_,_,_,_]) zht rfl (fun _ hw=>(Rd.has (Has.rd hl2) hw)) (by omega) (by omega) rfl) (fun ρ ρ' h=>by rfl) ?_
    refine zgB (fun ρ=>zaL tf98 (zs:=[_,_,_,_,_]) rfl) (fun ρ ρ' h=>⟨by rfl,by rfl⟩) ?_
    refine zgB (fun ρ=>zaL zht (zs:=[_,_,_,_,_]) rfl) (fun ρ ρ' h=>⟨by rfl,by rfl⟩) ?_
    refine zlr (R:=fun ρ=>Box (ρ 10) [.int .u8 0,.int .i64 0,.int .i64 0,.int .i64 0,.int .i64 0] 98) (A:=fun ρ=>Box (ρ 10) [.int .u8 (v.opens.getD (i).toNat default).kind,.int .i64 (v.opens.getD (i).toNat default).at_,.int .i64 (v.opens.getD (i).toNat default).width,.int .i64 (v.opens.getD (i).toNat default).frm,.int .i64 (v.opens.getD (i).toNat default).high] 98) 10 rfl rfl (fun _=>rfl) (fun ρ=>zex tf98 rfl rfl (vs:=[_,_,_,_,_]) rfl rfl rfl rfl rfl) (fun ρ ρ' h=>by(first | rfl | simp only [h 10 rfl])) ?_
    refine zlr (R:=fun ρ=>Box (ρ 11) [.int .u8 0,.int .i64 0,.int .i64 0,.int .i64 0,.int .i64 0] 139) (A:=fun ρ=>Box (ρ 11) [.int .u8 (v.opens.getD (i).toNat default).kind,.int .i64 (v.opens.getD (i).toNat default).at_,.int .i64 (v.opens.getD (i).toNat default).width,.int .i64 (v.opens.getD (i).toNat default).frm,.int .i64 (v.opens.getD (i).toNat default).high] 139) 11 rfl rfl (fun _=>rfl) (fun ρ=>zex zht rfl rfl (vs:=[_,_,_,_,_]) rfl rfl rfl rfl rfl) (fun ρ ρ' h=>by(first | rfl | simp only [h 11 rfl])) ?_
    refine fun ρ=>zag (zf4 (X:=Nat×Nat) (ρ 10,ρ 11) (fun⟨b6,b7⟩=>[(2,.pointer (some ⟨b2,0,none⟩)),(3,.pointer (some ⟨b3,0,none⟩)),(4,.bool false),(5,.int .i64 i),(6,.pointer (some ⟨b6,0,none⟩)),(7,.pointer (some ⟨b7,0,none⟩))]) (fun⟨b6,b7⟩=>[Box b7 [.int .u8 (v.opens.getD (i).toNat default).kind,.int .i64 (v.opens.getD (i).toNat default).at_,.int .i64 (v.opens.getD (i).toNat default).width,.int .i64 (v.opens.getD (i).toNat default).frm,.int .i64 (v.opens.getD (i).toNat default).high] 139,Box b6 [.int .u8 (v.opens.getD (i).toNat default).kind,.int .i64 (v.opens.getD (i).toNat default).at_,.int .i64 (v.opens.getD (i).toNat default).width,.int .i64 (v.opens.getD (i).toNat default).frm,.int .i64 (v.opens.getD (i).toNat default).high] 98,Box b3 [.string v.name,.string v.sheet,.int .i64 v.length,.slice b v.opens.length bcap] 65,Box b2 [.string v.name,.string v.sheet,.int .i64 v.length,.slice a v.opens.length cap] 94]) ⟨rfl,rfl,rfl,rfl,rfl,rfl,trivial⟩ rfl ?_)
    rintro ⟨b6,b7⟩
    refine zac ?_
    refine zbb 33 (fun _=>mixed) (by kernel_rfl) ?_
    refine ph_y (zab zpG rfl) ?_
    refine ph_y (zah 1 tf5 rfl rfl rfl) ?_
    refine ph_y (zab zjT rfl) ?_
    refine ph_y (zah 0 tf5 rfl rfl rfl) ?_
    refine ph_y (zcr rfl rfl) ?_
    refine ph_y (zaf rfl) ?_
    refine zaz rfl rfl (fun hgd=>by(try rw [hgd]); exact(zab zhf rfl)) ?_
    refine zaz rfl rfl (fun hgd=>by(try rw [hgd]); exact(zah 1 tf3 rfl rfl rfl)) ?_
    refine zaz rfl rfl (fun hgd=>by(try rw [hgd]); exact(zab zdS rfl)) ?_
    refine zaz rfl rfl (fun hgd=>by(try rw [hgd]); exact(zah 0 tf3 rfl rfl rfl)) ?_
    refine zaz rfl rfl (fun hgd=>by(try rw [hgd]); exact(zcr rfl rfl)) ?_
    refine ph_y (zaR rfl rfl rfl) ?_
    refine ph_y (zaf rfl) ?_
    refine zaz rfl rfl (fun hgd=>by(try rw [hgd]); exact(zab zji rfl)) ?_
    refine zaz rfl rfl (fun hgd=>by(try rw [hgd]); exact(zah 1 tf3 rfl rfl rfl)) ?_
    refine zaz rfl rfl (fun hgd=>by(try rw [hgd]); exact(zab zfZ rfl)) ?_
    refine zaz rfl rfl (fun hgd=>by(try rw [hgd]); exact(zah 0 tf3 rfl rfl rfl)) ?_
    refine zaz rfl rfl (fun hgd=>by(try rw [hgd]); exact(zcr rfl rfl)) ?_
    refine ph_y (zaR rfl rfl rfl) ?_
    refine ph_y (zaf rfl) ?_
    refine zaz rfl rfl (fun hgd=>by(try rw [hgd]); exact(zab zfe rfl)) ?_
    refine zaz rfl rfl (fun hgd=>by(try rw [hgd]); exact(zah 1 tf3 rfl rfl rfl)) ?_
    refine zaz rfl rfl (fun hgd=>by(try rw [hgd]); exact(zab zdx rfl)) ?_
    refine zaz rfl rfl (fun hgd=>by(try rw [hgd]); exact(zah 0 tf3 rfl rfl rfl)) ?_
    refine zaz rfl rfl (fun hgd=>by(try rw [hgd]); exact(zcr rfl rfl)) ?_
    refine ph_y (zaR rfl rfl rfl) ?_
    refine ph_y (zaf rfl) ?_
    refine zaz rfl rfl (fun hgd=>by(try rw [hgd]); exact(zab zhg rfl)) ?_
    refine zaz rfl rfl (fun hgd=>by(try rw [hgd]); exact(zah 1 tf3 rfl rfl rfl)) ?_
    refine zaz rfl rfl (fun hgd=>by(try rw [hgd]); exact(zab zfa rfl)) ?_
    refine zaz rfl rfl (fun hgd=>by(try rw [hgd]); exact(zah 0 tf3 rfl rfl rfl)) ?_
    refine zaz rfl rfl (fun hgd=>by(try rw [hgd]); exact(zcr rfl rfl)) ?_
    refine ph_y (zaR rfl rfl rfl) ?_
    refine zag (zae (T':=[(2,_),(3,_),(4,_),(5,_),(85,_)]) ⟨rfl,rfl,rfl,rfl,rfl,trivial⟩ ?_)
    refine zap rfl (fun hc85=>?_) (fun hc85=>?_)
    ·exfalso; simp at hc85
    ·simp only [Bool.or_eq_false_iff,Bool.not_eq_false',decide_eq_true_eq] at hc85
     refine zaq ?_
     refine zaa ?_
     refine gQ (zaf rfl) ?_
     refine gQ (zaY rfl rfl (by omega) (by omega)) ?_
     refine gQ (zad rfl) ?_
     refine zag (zae (T':=[(2,_),(3,_),(4,_),(5,_)]) ⟨rfl,rfl,rfl,rfl,trivial⟩ ?_)
     refine zaK 0 rfl ?_
     refine zaK 0 rfl ?_
     exact za1 (i+1) ⟨rfl,rfl,rfl,rfl,trivial⟩ rfl ⟨by omega,by omega⟩ (by omega)
   ·
    refine za8 rfl ?_
    refine zac ?_
    refine zaa ?_
    refine gQ (zad rfl) ?_
    refine zag (zae (T':=[(4,_)]) ⟨rfl,trivial⟩ ?_)
    refine zaw ?_
    refine zay (zaC rfl (zau rfl)) ?_
    rfl
end Go.Proofs.YtdcfcfhmkfkgmaaGreatDoor
namespace Go.Proofs.YtdcfcfhmkfkgmaaGreatDoor
open Go.K Go.Stn Go.Pln Go.RowKit
theorem en38:En Tryz.prog 38:=za7 Tryz.func38 (by kernel_rfl) (by kernel_rfl)
theorem en39:En Tryz.prog 39:=za7 Tryz.func39 (by kernel_rfl) (by kernel_rfl)
theorem zzR (s t:Sht) (a:Option Addr) (cap:Nat) (b:Option Addr) (bcap:Nat) (w:World) (h:t=s) (hl:Has w (Ints a s.heights)) (hl2:Has w (Ints b t.heights)) (hs:zaP s.heights.length) :
  Calls Tryz.prog 39 #[.agg #[.string s.name,.int .i64 s.base,.int .i64 s.batter,.int .i64 s.height,.int .i64 s.skin,.slice a s.heights.length cap,.int .i64 s.least,.int .i64 s.lap,.int .i64 s.run,.int .i64 s.every,.int .i64 s.at_,.int .i64 s.footing,.int .i64 s.spread,.int .u8 s.cope,.int .i64 s.tall,.int .i64 s.short,.int .i64 s.thick,.int .i64 s.low,.int .i64 s.high,.int .i64 s.rood],.agg #[.string t.name,.int .i64 t.base,.int .i64 t.batter,.int .i64 t.height,.int .i64 t.skin,.slice b t.heights.length bcap,.int .i64 t.least,.int .i64 t.lap,.int .i64 t.run,.int .i64 t.every,.int .i64 t.at_,.int .i64 t.footing,.int .i64 t.spread,.int .u8 t.cope,.int .i64 t.tall,.int .i64 t.short,.int .i64 t.thick,.int .i64 t.low,.int .i64 t.high,.int .i64 t.rood]] w (Pure (.bool true) w):=by
 subst h; exact zzW _ _ _ _ _ w hl hl2 hs
theorem zzX (v u:Wll) (a:Option Addr) (cap:Nat) (b:Option Addr) (bcap:Nat) (w:World) (h:u=v) (hl:Has w (zaW a 5 zba v.opens)) (hl2:Has w (zaW b 5 zba u.opens)) (hs:zaP v.opens.length) :
  Calls Tryz.prog 38 #[.agg #[.string v.name,.string v.sheet,.int .i64 v.length,.slice a v.opens.length cap],.agg #[.string u.name,.string u.sheet,.int .i64 u.length,.slice b u.opens.length bcap]] w (Pure (.bool true) w):=by
 subst h; exact zAi _ _ _ _ _ w hl hl2 hs
theorem zBb {S S2:List ShC} (h:S.map (·.s)=S2.map (·.s)) (i:Nat):(S2.getD i default).s=(S.getD i default).s:=by
 rw [←zeq (fun z:ShC=>z.s) rfl,←zeq (fun z:ShC=>z.s) rfl,h]
theorem zBc {S S2:List WlC} (h:S.map (·.s)=S2.map (·.s)) (i:Nat):(S2.getD i default).s=(S.getD i default).s:=by
 rw [←zeq (fun z:WlC=>z.s) rfl,←zeq (fun z:WlC=>z.s) rfl,h]
set_option maxRecDepth 100000 in
set_option maxHeartbeats 8000000 in
theorem zBz (a:Option Addr) (cap:Nat) (S:List ShC) (b:Option Addr) (bcap:Nat) (V:List WlC) (e:Option Addr) (ecap:Nat) (S2:List ShC) (f:Option Addr) (fcap:Nat) (V2:List WlC) (w:World) (hl:Has w (zaW a 20 zbH S)) (hs:zaP S.length) (hlw:Has w (zaW b 4 zbS V)) (hsw:zaP V.length) (hsh:∀ z∈S,Has w (Ints z.a z.s.heights)) (hss:∀ z∈S,zaP z.s.heights.length) (hwo:∀ z∈V,Has w (zaW z.a 5 zba z.s.opens)) (hsv:∀ z∈V,zaP z.s.opens.length) (hlb:Has w (zaW e 20 zbH S2)) (hlwb:Has w (zaW f 4 zbS V2)) (hsh2:∀ z∈S2,Has w (Ints z.a z.s.heights)) (hwo2:∀ z∈V2,Has w (zaW z.a 5 zba z.s.opens)) (hS:S.map (·.s)=S2.map (·.s)) (hV:V.map (·.s)=V2.map (·.s)) :
  Calls Tryz.prog 23 #[.agg #[.slice a S.length cap,.slice b V.length bcap],.agg #[.slice e S2.length ecap,.slice f V2.length fcap]] w (Pure (.bool true) w):=by
 have hlS:S2.length=S.length:=by have:=congrArg List.length hS; rw [List.length_map,List.length_map] at this; exact this.symm
 have hlV:V2.length=V.length:=by have:=congrArg List.length hV; rw [List.length_map,List.length_map] at this; exact this.symm
 refine zan (vs:=[_,_]) Tryz.func23 rfl rfl (Nat.le_of_ble_eq_true rfl) ?_
 refine zac ?_
 refine zaa ?_
 refine zaG rfl rfl (za3 (vs:=[_,_]) rfl rfl) fun b2=>?_
 refine zaG rfl rfl (za3 (vs:=[_,_]) rfl rfl) fun b3=>?_
 refine gQ (zad rfl) ?_
 refine zag (zae (T':=[(2,_),(3,_),(4,_)]) ⟨rfl,rfl,rfl,trivial⟩ ?_)
 refine zac ?_
 refine zac ?_
 refine zbb 16 (fun _=>mixed) (by kernel_rfl) ?_
 refine ph_y (zab zeo rfl) ?_
 refine ph_y (zah 1 tf28 rfl rfl rfl) ?_
 refine ph_y (zaV (Tryz.underlying28) rfl) ?_
 refine ph_y (zab zd6 rfl) ?_
 refine ph_y (zah 0 tf22 rfl rfl rfl) ?_
 refine ph_y (zaV (Tryz.underlying22) rfl) ?_
 refine ph_y (zcr rfl rfl) ?_
 refine ph_y (zaf rfl) ?_
 refine zaz rfl rfl (fun hgd=>by(try rw [hgd]); exact(zab zd7 rfl)) ?_
 refine zaz rfl rfl (fun hgd=>by(try rw [hgd]); exact(zah 1 tf29 rfl rfl rfl)) ?_
 refine zaz rfl rfl (fun hgd=>by(try rw [hgd]); exact(zaV (Tryz.underlying29) rfl)) ?_
 refine zaz rfl rfl (fun hgd=>by(try rw [hgd]); exact(zab zdT rfl)) ?_
 refine zaz rfl rfl (fun hgd=>by(try rw [hgd]); exact(zah 0 tf23 rfl rfl rfl)) ?_
 refine zaz rfl rfl (fun hgd=>by(try rw [hgd]); exact(zaV (Tryz.underlying23) rfl)) ?_
 refine zaz rfl rfl (fun hgd=>by(try rw [hgd]); exact(zcr rfl rfl)) ?_
 refine ph_y (zaR rfl rfl rfl) ?_
 refine zag (zae (T':=[(2,_),(3,_),(4,_),(22,_)]) ⟨rfl,rfl,rfl,rfl,trivial⟩ ?_)
 refine zap rfl (fun hc22=>?_) (fun hc22=>?_)
 ·exfalso; rw [hlS,hlV] at hc22; simp at hc22
 ·simp only [Bool.or_eq_false_iff,Bool.not_eq_false',decide_eq_true_eq] at hc22
  refine zaq ?_
  refine zac ?_
  refine zac ?_
  refine zaa ?_
  refine gQ (zad rfl) ?_
  refine zag (zae (T':=[(2,_),(3,_),(4,_),(5,_)]) ⟨rfl,rfl,rfl,rfl,trivial⟩ ?_)
  refine zas ?_
  refine zbf (X:=Int) (fun(i:Int)=>[(2,.pointer (some ⟨b2,0,none⟩)),(3,.pointer (some ⟨b3,0,none⟩)),(4,.bool false),(5,.int .i64 i)]) (fun(i:Int)=>[Box b3 [.slice e S2.length ecap,.slice f V2.length fcap] 25,Box b2 [.slice a S.length cap,.slice b V.length bcap] 31]) (fun(i:Int)=>(0≤i∧i≤S.length)) (fun(i:Int)=>(S.length - i).toNat) 0 ⟨rfl,rfl,rfl,rfl,trivial⟩ rfl ?_ ?_
  ·exact⟨by omega,by omega⟩
  ·rintro i hI
   obtain⟨g0,g1⟩:=hI
   refine zac ?_
   refine zac ?_
   refine zaa ?_
   refine gQ (zaf rfl) ?_
   refine gQ (zab zeo rfl) ?_
   refine gQ (zah 1 tf28 rfl rfl rfl) ?_
   refine gQ (zaV (Tryz.underlying28) rfl) ?_
   refine gQ (zbw rfl rfl) ?_
   refine zag (zae (T':=[(2,_),(3,_),(4,_),(5,_),(27,_)]) ⟨rfl,rfl,rfl,rfl,rfl,trivial⟩ ?_)
   refine zap rfl (fun hc27=>?_) (fun hc27=>?_)
   ·have hc27:=of_decide_eq_true hc27
    refine zaq ?_
    refine zac ?_
    refine zas ?_
    refine zac ?_
    refine zbb 12 (fun _=>mixed) (by kernel_rfl) ?_
    refine ph_y (zab zeo rfl) ?_
    refine ph_y (zah 1 tf28 rfl rfl rfl) ?_
    refine ph_y (zaf rfl) ?_
    refine ph_y (zaE se28 rfl rfl (fun _ hw=>(Rd.has (Has.rd hl) hw)) (by omega) (by omega)) ?_
    refine ph_y (zbv (vs:=[_,_,_,_,_,_,_,_,_,_,_,_,_,_,_,_,_,_,_,_]) tf41 rfl (fun _ hw=>(Rd.has (Has.rd hl) hw)) (by omega) (by omega) rfl) ?_
    refine ph_y (zab zd6 rfl) ?_
    refine ph_y (zah 0 tf22 rfl rfl rfl) ?_
    refine ph_y (zaf rfl) ?_
    refine ph_y (zaE se22 rfl rfl (fun _ hw=>(Rd.has (Has.rd hlb) hw)) (by omega) (by omega)) ?_
    refine ph_y (zbv (vs:=[_,_,_,_,_,_,_,_,_,_,_,_,_,_,_,_,_,_,_,_]) tf37 rfl (fun _ hw=>(Rd.has (Has.rd hlb) hw)) (by omega) (by omega) rfl) ?_
    refine ph_y (zaJ en39 rfl (fun w hw=>zzR (S.getD i.toNat default).s (S2.getD i.toNat default).s _ _ _ _ w (zBb hS _) (Rd.has (Has.rd (hsh _ (za0 (by omega)))) hw) (Rd.has (Has.rd (hsh2 _ (za0 (by omega)))) hw) (hss _ (za0 (by omega))))) ?_
    refine ph_y (zbR rfl) ?_
    refine zag (zae (T':=[(2,_),(3,_),(4,_),(5,_),(41,_)]) ⟨rfl,rfl,rfl,rfl,rfl,trivial⟩ ?_)
    refine zd8 rfl ?_
    refine zaq ?_
    refine zaa ?_
    refine gQ (zaf rfl) ?_
    refine gQ (zaY rfl rfl (by omega) (by omega)) ?_
    refine gQ (zad rfl) ?_
    refine zag (zae (T':=[(2,_),(3,_),(4,_),(5,_)]) ⟨rfl,rfl,rfl,rfl,trivial⟩ ?_)
    exact za1 (i+1) ⟨rfl,rfl,rfl,rfl,trivial⟩ rfl ⟨by omega,by omega⟩ (by omega)
   ·
    refine za8 rfl ?_
    refine zac ?_
    refine zac ?_
    refine zaa ?_
    refine gQ (zad rfl) ?_
    refine zag (zae (T':=[(2,_),(3,_),(4,_),(6,_)]) ⟨rfl,rfl,rfl,rfl,trivial⟩ ?_)
    refine zas ?_
    refine zbf (X:=Int) (fun(i:Int)=>[(2,.pointer (some ⟨b2,0,none⟩)),(3,.pointer (some ⟨b3,0,none⟩)),(4,.bool false),(6,.int .i64 i)]) (fun(i:Int)=>[Box b3 [.slice e S2.length ecap,.slice f V2.length fcap] 25,Box b2 [.slice a S.length cap,.slice b V.length bcap] 31]) (fun(i:Int)=>(0≤i∧i≤V.length)) (fun(i:Int)=>(V.length - i).toNat) 0 ⟨rfl,rfl,rfl,rfl,trivial⟩ rfl ?_ ?_
    ·exact⟨by omega,by omega⟩
    ·rintro i hI
     rename_i ii
     obtain⟨g0,g1⟩:=hI
     refine zac ?_
     refine zac ?_
     refine zaa ?_
     refine gQ (zaf rfl) ?_
     refine gQ (zab zd7 rfl) ?_
     refine gQ (zah 1 tf29 rfl rfl rfl) ?_
     refine gQ (zaV (Tryz.underlying29) rfl) ?_
     refine gQ (zbw rfl rfl) ?_
     refine zag (zae (T':=[(2,_),(3,_),(4,_),(6,_),(46,_)]) ⟨rfl,rfl,rfl,rfl,rfl,trivial⟩ ?_)
     refine zap rfl (fun hc46=>?_) (fun hc46=>?_)
     ·have hc46:=of_decide_eq_true hc46
      refine zaq ?_
      refine zac ?_
      refine zas ?_
      refine zac ?_
      refine zbb 12 (fun _=>mixed) (by kernel_rfl) ?_
      refine ph_y (zab zd7 rfl) ?_
      refine ph_y (zah 1 tf29 rfl rfl rfl) ?_
      refine ph_y (zaf rfl) ?_
      refine ph_y (zaE se29 rfl rfl (fun _ hw=>(Rd.has (Has.rd hlw) hw)) (by omega) (by omega)) ?_
      refine ph_y (zbv (vs:=[_,_,_,_]) tf94 rfl (fun _ hw=>(Rd.has (Has.rd hlw) hw)) (by omega) (by omega) rfl) ?_
      refine ph_y (zab zdT rfl) ?_
      refine ph_y (zah 0 tf23 rfl rfl rfl) ?_
      refine ph_y (zaf rfl) ?_
      refine ph_y (zaE se23 rfl rfl (fun _ hw=>(Rd.has (Has.rd hlwb) hw)) (by omega) (by omega)) ?_
      refine ph_y (zbv (vs:=[_,_,_,_]) tf65 rfl (fun _ hw=>(Rd.has (Has.rd hlwb) hw)) (by omega) (by omega) rfl) ?_
      refine ph_y (zaJ en38 rfl (fun w hw=>zzX (V.getD i.toNat default).s (V2.getD i.toNat default).s _ _ _ _ w (zBc hV _) (Rd.has (Has.rd (hwo _ (za0 (by omega)))) hw) (Rd.has (Has.rd (hwo2 _ (za0 (by omega)))) hw) (hsv _ (za0 (by omega))))) ?_
      refine ph_y (zbR rfl) ?_
      refine zag (zae (T':=[(2,_),(3,_),(4,_),(6,_),(60,_)]) ⟨rfl,rfl,rfl,rfl,rfl,trivial⟩ ?_)
      refine zd8 rfl ?_
      refine zaq ?_
      refine zaa ?_
      refine gQ (zaf rfl) ?_
      refine gQ (zaY rfl rfl (by omega) (by omega)) ?_
      refine gQ (zad rfl) ?_
      refine zag (zae (T':=[(2,_),(3,_),(4,_),(6,_)]) ⟨rfl,rfl,rfl,rfl,trivial⟩ ?_)
      exact za1 (i+1) ⟨rfl,rfl,rfl,rfl,trivial⟩ rfl ⟨by omega,by omega⟩ (by omega)
     ·
      refine za8 rfl ?_
      refine zac ?_
      refine zaa ?_
      refine gQ (zad rfl) ?_
      refine zag (zae (T':=[(4,_)]) ⟨rfl,trivial⟩ ?_)
      refine zaw ?_
      refine zay (zaC rfl (zau rfl)) ?_
      rfl
end Go.Proofs.YtdcfcfhmkfkgmaaGreatDoor
namespace Go.K
open Go Go.RowKit
section
variable {α:Type} {enc:α→List Value} {k:Nat} {c:Cx} {ds:List Deferred} {T:List (Nat×Value)} {H:List Res} {d:Option Nat} {x y:Operand} {ty:TypeId} {ps:String} {af:Array Edge} {g:Option (Nat×Bool)}
theorem zoJ {t e:TypeId} {by_:Nat} {zs:List Value} {a2:Option Addr} {c2:Nat} {m:List α} (hf:AF c.P t e k by_ zs) (he:Enc k enc)
  (hx:evo T x=some (.slice none 0 0)) (hy:evo T y=some (.slice a2 m.length c2)) (hm:∀ w,Hp c.U c.w0 H w→Has w (zaW a2 k enc m))
  (hb:m.length*by_≤140737488355328) (hlm:m.length≤maxLen) :
  YX c ds H T ⟨d,.call ⟨.builtin .append,#[x,y],#[t,t]⟩,ty,ps,af,g⟩ (fun z:Option Addr×Nat=>.slice z.1 m.length z.2) (fun z=>Row z.1 k z.2 e enc m):=by
 by_cases h0:m.length=0
 ·obtain rfl:=List.eq_nil_of_length_eq_zero h0
  refine⟨fun A w hs _=>?_⟩
  unfold Yld
  rw [zcp («as»:=[x,y]) (vs:=[.slice none 0 0,.slice a2 0 c2]) (by simp [evs,hx,hy]) hs w]
  simp only [builtin]
  rw [zbu (ziA hf (Nat.le_refl 0))]
  exact⟨(none,0),rfl,Ext.rfl,fun _=>False,fun _ h=>h.elim,.inl ⟨rfl,rfl,rfl⟩⟩
 ·exact zlO (a:=none) (cap:=0) (l:=[]) hf he hx hy (fun _ _=>⟨fun _=>False,fun _ h=>h.elim,.inl ⟨rfl,rfl,rfl⟩⟩) hm (by simpa using hb) (by simpa using hlm) (by simp; omega)
end
end Go.K
namespace Go.Stn
open Go Go.K Go.RowKit
structure OnH (x a b:Pt) (D t:Int):Prop where
 pos:0 < D
 t0:0≤t
 t1:t < D
 ex:D*(x.x - a.x)=t*(b.x - a.x)
 ez:D*(x.z - a.z)=t*(b.z - a.z)
theorem OnH.lin {x a b:Pt} {D t:Int} (h:OnH x a b D t) (u v:Pt):D*zbs u v x=(D - t)*zbs u v a+t*zbs u v b:=by
 have e1:=h.ex
 have e2:=h.ez
 unfold zbs
 have f1:D*(x.x - u.x)=t*(b.x - a.x)+D*(a.x - u.x):=by rw [←e1]; grind
 have f2:D*(x.z - u.z)=t*(b.z - a.z)+D*(a.z - u.z):=by rw [←e2]; grind
 calc D*((v.x - u.x)*(x.z - u.z) - (v.z - u.z)*(x.x - u.x))=(v.x - u.x)*(D*(x.z - u.z)) - (v.z - u.z)*(D*(x.x - u.x)):=by grind
  _=_:=by rw [f1,f2]; grind
theorem OnH.start {x a b:Pt} {D:Int} (h:OnH x a b D 0):x=a:=by
 have e1:=h.ex
 have e2:=h.ez
 have hp:=h.pos
 rw [Int.zero_mul,Int.mul_eq_zero] at e1 e2
 cases x; cases a
 simp only [Pt.mk.injEq]
 dsimp only at *
 omega
theorem OnH.at {a b:Pt} (D:Int) (h:0 < D):OnH a a b D 0:=⟨h,Int.le_refl _,h,by simp,by simp⟩
theorem zg5 (u v:Pt):zbs u u v=0:=by unfold zbs; grind
theorem zdc (u v:Pt):zbs u v v=0:=by unfold zbs; grind
theorem zdd (u v:Pt):zbs u v u=0:=by unfold zbs; grind
theorem zqM (u v w:Pt):zbs u v w = -zbs u w v:=by unfold zbs; grind
theorem ziF (u v w:Pt):zbs u v w=zbs w u v:=by unfold zbs; grind
theorem zuA (o e u v w:Pt):zbs o e v*zbs o u w=zbs o e u*zbs o v w+zbs o e w*zbs o u v:=by unfold zbs; grind
theorem zlZ (l:List Pt) (i:Nat):cor l (i % l.length)=cor l i:=by unfold cor; rw [Nat.mod_mod]
theorem ze1 {l:List Pt} {i j:Nat} (h:i % l.length=j % l.length):cor l i=cor l j:=by unfold cor; rw [h]
theorem zeB (l:List Pt) (i k:Nat):cor l (i % l.length+k)=cor l (i+k):=by unfold cor; rw [Nat.mod_add_mod]
theorem Cvx.edge {l:List Pt} (h:Cvx l) (i k:Nat) (h2:2≤k) (hk:k < l.length):0 < zbs (cor l i) (cor l (i+1)) (cor l (i+k)):=by
 have:=h (i % l.length) k (Nat.mod_lt _ (by omega)) h2 hk
 rwa [zlZ,zeB,zeB] at this
theorem Cvx.tri {l:List Pt} (h:Cvx l) (a i:Nat) (hi:0 < i):∀ j,i < j→j < l.length→0 < zbs (cor l a) (cor l (a+i)) (cor l (a+j)):=by
 intro j
 induction j with
 | zero=>intro hj; omega
 | succ j ih=>
  intro hj hn
  have hnext:∀ i,0 < i→i+1 < l.length→0 < zbs (cor l a) (cor l (a+i)) (cor l (a+(i+1))):=fun i h0 h1=>by
   have:=h.edge (a+i) (l.length - i) (by omega) (by omega)
   rw [show a+i+(l.length - i)=a+l.length from by omega,ze0,Nat.add_assoc] at this
   rw [zhD]
   exact this
  by_cases hij:i=j
  ·subst hij; exact hnext i hi hn
  ·have h1:=ih (by omega) (by omega)
   have h2:=hnext j (by omega) hn
   have e0:0≤zbs (cor l a) (cor l (a+1)) (cor l (a+i)):=by
    by_cases h1:i=1
    ·subst h1; rw [zdc]; omega
    ·exact Int.le_of_lt (h.edge a i (by omega) (by omega))
   have e1:=h.edge a j (by omega) (by omega)
   have e2:=h.edge a (j+1) (by omega) (by omega)
   have hp:=zuA (cor l a) (cor l (a+1)) (cor l (a+i)) (cor l (a+j)) (cor l (a+(j+1)))
   have p1:0≤zbs (cor l a) (cor l (a+1)) (cor l (a+i))*zbs (cor l a) (cor l (a+j)) (cor l (a+(j+1))):=Int.mul_nonneg e0 (Int.le_of_lt h2)
   have p2:0 < zbs (cor l a) (cor l (a+1)) (cor l (a+(j+1)))*zbs (cor l a) (cor l (a+i)) (cor l (a+j)):=Int.mul_pos e2 h1
   have p3:0 < zbs (cor l a) (cor l (a+1)) (cor l (a+j))*zbs (cor l a) (cor l (a+i)) (cor l (a+(j+1))):=by omega
   exact Int.pos_of_mul_pos_right p3 e1
theorem Cvx.tri3 {l:List Pt} (h:Cvx l) {i j k:Nat} (hij:i < j) (hjk:j < k) (hk:k < i+l.length):0 < zbs (cor l i) (cor l j) (cor l k):=by
 have:=h.tri i (j - i) (by omega) (k - i) (by omega) (by omega)
 rwa [show i+(j - i)=j from by omega,show i+(k - i)=k from by omega] at this
theorem Cvx.tri0 {l:List Pt} (h:Cvx l) {i j k:Nat} (hij:i≤j) (hjk:j≤k) (hk:k≤i+l.length):0≤zbs (cor l i) (cor l j) (cor l k):=by
 by_cases h1:i=j
 ·subst h1; rw [zg5]; omega
 ·by_cases h2:j=k
  ·subst h2; rw [zdc]; omega
  ·by_cases h3:k=i+l.length
   ·subst h3; rw [ze0,zdd]; omega
   ·exact Int.le_of_lt (h.tri3 (by omega) (by omega) (by omega))
theorem nn2 {a b c d:Int} (h1:0≤a) (h2:0≤b) (h3:0≤c) (h4:0≤d):0≤a*b+c*d:=Int.add_nonneg (Int.mul_nonneg h1 h2) (Int.mul_nonneg h3 h4)
theorem np2 {a b c d:Int} (h1:0≤a) (h2:b≤0) (h3:0≤c) (h4:d≤0):a*b+c*d≤0:=by
 have:=Int.mul_nonpos_of_nonneg_of_nonpos h1 h2
 have:=Int.mul_nonpos_of_nonneg_of_nonpos h3 h4
 omega
theorem zr4 {a b c d:Int} (h1:0 < a) (h2:0 < b) (h3:0≤c) (h4:0≤d):0 < a*b+c*d:=by
 have:=Int.mul_pos h1 h2
 have:=Int.mul_nonneg h3 h4
 omega
theorem zwe {a b c d:Int} (h1:0≤a) (h2:0≤b) (h3:0 < c) (h4:0 < d):0 < a*b+c*d:=by
 have:=Int.mul_nonneg h1 h2
 have:=Int.mul_pos h3 h4
 omega
theorem ziq {a b:Int} (h1:0 < a) (h2:a*b≤0):b≤0:=Classical.byContradiction fun h=>by
 have:=Int.mul_pos h1 (show 0 < b by omega)
 omega
theorem zio {a b:Int} (h1:0 < a) (h2:0≤a*b):0≤b:=Classical.byContradiction fun h=>by
 have:=Int.mul_pos h1 (show 0 < -b by omega)
 rw [Int.mul_neg] at this
 omega
theorem znI {a b:Int} (h1:0 < a) (h2:0 < a*b):0 < b:=Int.pos_of_mul_pos_right h2 h1
section
variable {l:List Pt} {p q:Pt} {a m:Nat} {D s E t:Int}
theorem zmB (hp:OnH p (cor l a) (cor l (a+1)) D s) (x y:Pt):D*zbs p x y=(D - s)*zbs (cor l a) x y+s*zbs (cor l (a+1)) x y:=by
 have:=hp.lin x y
 rw [ziF x y p,ziF x y (cor l a),ziF x y (cor l (a+1))] at this
 exact this
theorem zkr {b:Nat} (hq:OnH q (cor l b) (cor l (b+1)) E t) (x y:Pt):E*zbs x q y=(E - t)*zbs x (cor l b) y+t*zbs x (cor l (b+1)) y:=by
 have:=hq.lin y x
 rw [zhD y x q,zhD y x (cor l b),zhD y x (cor l (b+1))] at this
 exact this
theorem zth (h:Cvx l) (hp:OnH p (cor l a) (cor l (a+1)) D s) (hq:OnH q (cor l (a+m)) (cor l (a+m+1)) E t) (hm:1≤m) {k:Nat} (h1:m < k) (h2:k < l.length):0 < zbs p q (cor l (a+k)):=by
 refine znI hp.pos ?_
 rw [zmB hp]
 have f1:0 < zbs (cor l a) q (cor l (a+k)):=by
  refine znI hq.pos ?_
  rw [zkr hq]
  exact zr4 (by have:=hq.t1; omega) (h.tri3 (by omega) (by omega) (by omega)) hq.t0 (h.tri0 (by omega) (by omega) (by omega))
 have f2:0≤zbs (cor l (a+1)) q (cor l (a+k)):=by
  refine zio hq.pos ?_
  rw [zkr hq]
  exact nn2 (by have:=hq.t1; omega) (h.tri0 (by omega) (by omega) (by omega)) hq.t0 (h.tri0 (by omega) (by omega) (by omega))
 exact zr4 (by have:=hp.t1; omega) f1 hp.t0 f2
theorem ztf (h:Cvx l) (hp:OnH p (cor l a) (cor l (a+1)) D s) (hq:OnH q (cor l (a+m)) (cor l (a+m+1)) E t) (hm:1≤m) (hn:m < l.length) (h3:3≤l.length) (hs:0 < s) (ht:m=1→0 < t):0 < zbs p q (cor l (a+l.length)):=by
 refine znI hp.pos ?_
 rw [zmB hp]
 have f1:0≤zbs (cor l a) q (cor l (a+l.length)):=by rw [ze0,zdd]; omega
 have f2:0 < zbs (cor l (a+1)) q (cor l (a+l.length)):=by
  refine znI hq.pos ?_
  rw [zkr hq]
  by_cases h1:m=1
  ·exact zwe (by have:=hq.t1; omega) (h.tri0 (by omega) (by omega) (by omega)) (ht h1) (h.tri3 (by omega) (by omega) (by omega))
  ·exact zr4 (by have:=hq.t1; omega) (h.tri3 (by omega) (by omega) (by omega)) hq.t0 (h.tri0 (by omega) (by omega) (by omega))
 exact zwe (by have:=hp.t1; omega) f1 hs f2
theorem ztg (h:Cvx l) (hp:OnH p (cor l a) (cor l (a+1)) D s) (hq:OnH q (cor l (a+m)) (cor l (a+m+1)) E t) (hn:m < l.length) {k:Nat} (h1:1≤k) (h2:k≤m):zbs p q (cor l (a+k))≤0:=by
 refine ziq hp.pos ?_
 rw [zmB hp]
 have hs:∀ i j:Nat,i≤a+k→a+k≤j→j≤i+l.length→zbs (cor l i) (cor l j) (cor l (a+k))≤0:=fun i j c1 c2 c3=>by
  rw [zqM]
  have:=h.tri0 (i:=i) (j:=a+k) (k:=j) c1 c2 c3
  omega
 have f:∀ i:Nat,i=a∨i=a+1→zbs (cor l i) q (cor l (a+k))≤0:=fun i hi=>by
  refine ziq hq.pos ?_
  rw [zkr hq]
  exact np2 (by have:=hq.t1; omega) (hs _ _ (by omega) (by omega) (by omega)) hq.t0 (hs _ _ (by omega) (by omega) (by omega))
 exact np2 (by have:=hp.t1; omega) (f a (.inl rfl)) hp.t0 (f (a+1) (.inr rfl))
theorem zpk (h:Cvx l) (h3:3≤l.length) {i:Nat} {k:Nat} (hk:k < l.length) (hq:OnH q (cor l (i+k)) (cor l (i+k+1)) E t) (h0:zbs (cor l i) (cor l (i+1)) q=0):k=0∨(k=1∧t=0):=by
 have hl:=hq.lin (cor l i) (cor l (i+1))
 rw [h0,Int.mul_zero] at hl
 have a1:=hq.t0
 have a2:=hq.t1
 by_cases c0:k=0
 ·exact .inl c0
 ·by_cases c1:k=1
  ·subst c1
   refine .inr ⟨rfl,?_⟩
   rw [zdc,Int.mul_zero,Int.zero_add] at hl
   have:=h.tri3 (i:=i) (j:=i+1) (k:=i+1+1) (by omega) (by omega) (by omega)
   rcases Int.mul_eq_zero.1 hl.symm with h5 | h5
   ·exact h5
   ·omega
  ·exfalso
   have:=h.tri3 (i:=i) (j:=i+1) (k:=i+k) (by omega) (by omega) (by omega)
   have g2:=h.tri0 (i:=i) (j:=i+1) (k:=i+k+1) (by omega) (by omega) (by omega)
   have:=zr4 (a:=E - t) (c:=t) (by omega) this a1 g2
   omega
end
end Go.Stn
namespace Go.Stn
open Go Go.K Go.RowKit
theorem zen {l:List Pt} {i:Nat} (h:i < l.length):(zdj l)[i]?=some (cor l i,cor l (i+1)):=by
 unfold zdj
 rw [List.getElem?_map,List.getElem?_range h]
 simp only [Option.map_some]
 rw [zgC h,zoU (i:=(i:Int)+1) (n:=i+1+l.length) (by omega),ze0]
theorem zwk (a:Int):0≤a*a:=by
 rcases Int.le_total 0 a with h | h
 ·exact Int.mul_nonneg h h
 ·have:=Int.mul_nonneg (show 0≤-a by omega) (show 0≤-a by omega)
  rw [Int.neg_mul_neg] at this
  exact this
theorem zxA {a b:Int} (h:a*a < b*b) (hb:0≤b):a < b:=Classical.byContradiction fun hn=>by
 have:b*b≤a*a:=Int.mul_le_mul (by omega) (by omega) hb (by omega)
 omega
theorem zmm {a b:Int} (h:0 < a) (hz:a*b=0):b=0:=by
 rcases Int.mul_eq_zero.1 hz with h1 | h1
 ·omega
 ·exact h1
theorem zlg {a b c:Int} (h:0 < a) (hz:a*b≤a*c):b≤c:=Int.le_of_mul_le_mul_left hz h
theorem zs5 (a b x:Pt):dotZ (subZ b a) (subZ b a)*(x.x - a.x)=dotZ (subZ x a) (subZ b a)*(b.x - a.x) - (b.z - a.z)*zbs a b x ∧
  dotZ (subZ b a) (subZ b a)*(x.z - a.z)=dotZ (subZ x a) (subZ b a)*(b.z - a.z)+(b.x - a.x)*zbs a b x:=by
 unfold dotZ subZ zbs
 dsimp only
 constructor <;> grind
theorem zrD (a b x:Pt):dotZ (subZ x a) (subZ b a)*dotZ (subZ x a) (subZ b a)=dotZ (subZ x a) (subZ x a)*dotZ (subZ b a) (subZ b a) - zbs a b x*zbs a b x:=by
 unfold dotZ subZ zbs
 dsimp only
 grind
theorem zpi {a b:Pt} (h:a≠b):0 < dotZ (subZ b a) (subZ b a):=by
 unfold dotZ subZ
 dsimp only
 have h1:=zwk (b.x - a.x)
 have h2:=zwk (b.z - a.z)
 rcases Int.lt_or_eq_of_le (Int.add_nonneg h1 h2) with h3 | h3
 ·exact h3
 ·exfalso
  have e1:(b.x - a.x)*(b.x - a.x)=0:=by omega
  have e2:(b.z - a.z)*(b.z - a.z)=0:=by omega
  have e1:b.x - a.x=0:=by rcases Int.mul_eq_zero.1 e1 with h | h <;> exact h
  have e2:b.z - a.z=0:=by rcases Int.mul_eq_zero.1 e2 with h | h <;> exact h
  apply h
  cases a; cases b
  simp only [Pt.mk.injEq]
  dsimp only at *
  omega
def OnS (x a b:Pt):Prop:=∃ D t,OnH x a b D t
theorem zs6 {a b x:Pt} (h0:zbs a b x=0) (h1:0≤dotZ (subZ x a) (subZ b a)) (h2:dotZ (subZ x a) (subZ b a) < dotZ (subZ b a) (subZ b a)):OnS x a b:=by
 obtain⟨e1,e2⟩:=zs5 a b x
 rw [h0] at e1 e2
 exact⟨_,_,by omega,h1,h2,by rw [e1]; omega,by rw [e2]; omega⟩
theorem zuq {a b x:Pt} {D t:Int} (h:OnH x a b D t):D*dotZ (subZ x a) (subZ b a)=t*dotZ (subZ b a) (subZ b a)∧D*(D*dotZ (subZ x a) (subZ x a))=t*t*dotZ (subZ b a) (subZ b a):=by
 have e1:=h.ex
 have e2:=h.ez
 unfold dotZ subZ
 dsimp only
 generalize x.x - a.x=u at *
 generalize x.z - a.z=v at *
 generalize b.x - a.x=d at *
 generalize b.z - a.z=f at *
 constructor
 ·calc D*(u*d+v*f)=(D*u)*d+(D*v)*f:=by grind
   _=_:=by rw [e1,e2]; grind
 ·calc D*(D*(u*u+v*v))=(D*u)*(D*u)+(D*v)*(D*v):=by grind
   _=_:=by rw [e1,e2]; grind
theorem zgz {a b x:Pt} {D t:Int} (h:OnH x a b D t):zbs a b x=0:=by
 have:=h.lin a b
 rw [zdd,zdc,Int.mul_zero,Int.mul_zero,Int.add_zero] at this
 exact zmm h.pos this
theorem zmq {a b x:Pt} (ha:farB a=false) (hb:farB b=false) (hx:farB x=false) (hab:a≠b):onE x (a,b)=true↔OnS x a b:=by
 have i1:inR 2000 a:=by have:=zeQ ha; unfold inR; omega
 have i2:inR 2000 b:=by have:=zeQ hb; unfold inR; omega
 have i3:inR 2000 x:=by have:=zeQ hx; unfold inR; omega
 have hd:=zpi hab
 unfold onE
 dsimp only
 rw [zks (by omega) i2 i1,zks (by omega) i3 i1]
 have j1:=zkt i2 i1
 have j2:=zkt i3 i1
 rw [zkM (by omega) (by omega) j1 j2,zl0 (by omega) (by omega) j2 j1,zl0 (by omega) (by omega) j2 j2,zl0 (by omega) (by omega) j1 j1]
 have hc:zja (subZ b a) (subZ x a)=zbs a b x:=by
  unfold zja subZ zbs
  dsimp only
 rw [hc]
 simp only [Bool.and_eq_true,decide_eq_true_eq]
 constructor
 ·rintro ⟨⟨h0,h1⟩,h2⟩
  refine zs6 h0 h1 (zxA ?_ (by omega))
  have hl:=zrD a b x
  rw [h0] at hl
  have:=Int.mul_lt_mul_of_pos_right h2 hd
  omega
 ·rintro ⟨D,t,h⟩
  obtain⟨e1,e2⟩:=zuq h
  refine⟨⟨zgz h,?_⟩,?_⟩
  ·refine zio h.pos ?_
   rw [e1]
   exact Int.mul_nonneg h.t0 (by omega)
  ·have hp:=h.pos
   refine Classical.byContradiction fun hn=>?_
   have a1:D*D*dotZ (subZ b a) (subZ b a)≤D*(D*dotZ (subZ x a) (subZ x a)):=by
    rw [Int.mul_assoc]
    exact Int.mul_le_mul_of_nonneg_left (Int.mul_le_mul_of_nonneg_left (by omega) (by omega)) (by omega)
   rw [e2] at a1
   have a2:t*t < D*D:=by
    have:=Int.mul_le_mul (show t≤D - 1 by have:=h.t1; omega) (show t≤D - 1 by have:=h.t1; omega) h.t0 (by omega)
    have h3:(D - 1)*(D - 1)=D*D - D - D+1:=by grind
    omega
   have:=Int.mul_lt_mul_of_pos_right a2 hd
   omega
theorem zmX {u d:Int} (h1:min 0 d≤u) (h2:u≤max 0 d):0≤u*d∧u*d≤d*d:=by
 rcases Int.le_total 0 d with h | h
 ·exact⟨Int.mul_nonneg (by omega) h,Int.mul_le_mul_of_nonneg_right (by omega) h⟩
 ·have a:=Int.mul_nonneg (show 0≤-u by omega) (show 0≤-d by omega)
  have b:=Int.mul_le_mul_of_nonneg_right (show -u≤-d by omega) (show 0≤-d by omega)
  rw [Int.neg_mul_neg] at a b
  rw [Int.neg_mul_neg] at b
  exact⟨a,b⟩
theorem zmY {D t u d:Int} (hD:0 < D) (h0:0≤t) (h1:t≤D) (h:D*u=t*d):min 0 d≤u∧u≤max 0 d:=by
 rcases Int.le_total 0 d with hd | hd
 ·have a:0≤u:=zio hD (by rw [h]; exact Int.mul_nonneg h0 hd)
  have b:u≤d:=zlg hD (by rw [h]; exact Int.mul_le_mul_of_nonneg_right h1 hd)
  omega
 ·have a:u≤0:=ziq hD (by rw [h]; exact Int.mul_nonpos_of_nonneg_of_nonpos h0 hd)
  have b:d≤u:=zlg hD (by rw [h]; exact Int.mul_le_mul_of_nonpos_right h1 hd)
  omega
theorem zga {a b x:Pt} (ha:farB a=false) (hb:farB b=false) (hx:farB x=false) (hab:a≠b):ronB a b x=true↔OnS x a b∨x=b:=by
 have i1:inR 2000 a:=by have:=zeQ ha; unfold inR; omega
 have i2:inR 2000 b:=by have:=zeQ hb; unfold inR; omega
 have i3:inR 2000 x:=by have:=zeQ hx; unfold inR; omega
 have hd:=zpi hab
 unfold ronB
 rw [znS (by omega) i1 i2 i3]
 simp only [Bool.and_eq_true,decide_eq_true_eq]
 constructor
 ·rintro ⟨⟨h0,h1,h2⟩,h3,h4⟩
  obtain⟨c1,c2⟩:=zmX (u:=x.x - a.x) (d:=b.x - a.x) (by omega) (by omega)
  obtain⟨c3,c4⟩:=zmX (u:=x.z - a.z) (d:=b.z - a.z) (by omega) (by omega)
  have d1:0≤dotZ (subZ x a) (subZ b a):=by
   unfold dotZ subZ; dsimp only; omega
  have d2:dotZ (subZ x a) (subZ b a)≤dotZ (subZ b a) (subZ b a):=by
   unfold dotZ subZ; dsimp only; omega
  rcases Int.lt_or_eq_of_le d2 with d3 | d3
  ·exact .inl (zs6 h0 d1 d3)
  ·refine .inr ?_
   obtain⟨e1,e2⟩:=zs5 a b x
   rw [h0,d3,Int.mul_zero] at e1 e2
   have f1:=Int.eq_of_mul_eq_mul_left (by omega) (show dotZ (subZ b a) (subZ b a)*(x.x - a.x)=dotZ (subZ b a) (subZ b a)*(b.x - a.x) by omega)
   have f2:=Int.eq_of_mul_eq_mul_left (by omega) (show dotZ (subZ b a) (subZ b a)*(x.z - a.z)=dotZ (subZ b a) (subZ b a)*(b.z - a.z) by omega)
   cases x; cases b
   simp only [Pt.mk.injEq]
   dsimp only at *
   omega
 ·rintro (⟨D,t,h⟩ | rfl)
  ·obtain⟨c1,c2⟩:=zmY h.pos h.t0 (by have:=h.t1; omega) h.ex
   obtain⟨c3,c4⟩:=zmY h.pos h.t0 (by have:=h.t1; omega) h.ez
   exact⟨⟨zgz h,by omega,by omega⟩,by omega,by omega⟩
  ·rw [zdc]
   omega
structure Good (l:List Pt):Prop where
 near:Near l
 cvx:Cvx l
 len:3≤l.length
section
variable {l:List Pt} (g:Good l)
include g
theorem Good.far (i:Nat):farB (cor l i)=false:=g.near _ (ztw (by have:=g.len; omega) i)
theorem Good.ne (i:Nat):cor l i≠cor l (i+1):=fun h=>by
 have:=g.cvx.edge i 2 (by omega) (by have:=g.len; omega)
 rw [h,zg5] at this
 omega
abbrev BP (l:List Pt) (x:Pt) (i:Nat):Prop:=OnS x (cor l i) (cor l (i+1))
omit g in
theorem BP.congr {x:Pt} {i j:Nat} (h:BP l x i) (hij:i % l.length=j % l.length):BP l x j:=by
 have e1:cor l i=cor l j:=ze1 hij
 have e2:cor l (i+1)=cor l (j+1):=ze1 (by rw [←Nat.mod_add_mod,hij,Nat.mod_add_mod])
 unfold BP at *
 rw [←e1,←e2]
 exact h
theorem Good.zero {x:Pt} {i k:Nat} (hk:k < l.length) (h:BP l x (i+k)) (h0:zbs (cor l i) (cor l (i+1)) x=0):k=0∨(k=1∧x=cor l (i+1)):=by
 obtain⟨D,t,h⟩:=h
 rcases zpk g.cvx g.len hk h h0 with h1 | ⟨h1,h2⟩
 ·exact .inl h1
 ·subst h1; subst h2; exact .inr ⟨rfl,h.start⟩
omit g in
theorem zit {n i j:Nat} (hi:i < n) (_:j < n):j % n=(i+(if i≤j then j - i else j+n - i)) % n:=by
 split
 ·rw [show i+(j - i)=j from by omega]
 ·rw [show i+(j+n - i)=j+n from by omega,Nat.add_mod_right]
theorem Good.uniq {x:Pt} {i j:Nat} (hi:i < l.length) (hj:j < l.length) (h1:BP l x i) (h2:BP l x j):i=j:=by
 have s1:zbs (cor l i) (cor l (i+1)) x=0:=by obtain⟨D,t,h⟩:=h1; exact zgz h
 have s2:zbs (cor l j) (cor l (j+1)) x=0:=by obtain⟨D,t,h⟩:=h2; exact zgz h
 have a:=g.zero (by split <;> omega) (h2.congr (zit hi hj)) s1
 have b:=g.zero (by split <;> omega) (h1.congr (zit hj hi)) s2
 have:=g.len
 rcases a with a | ⟨a,_⟩ <;> rcases b with b | ⟨b,_⟩ <;> (split at a <;> split at b <;> omega)
theorem Good.edge {x:Pt} (h:0≤zdw l x):∃ i:Nat,zdw l x=(i:Int)∧i < l.length∧BP l x i∧farB x=false:=by
 have hf:farB x=false:=by
  cases hf:farB x with
  | false=>rfl
  | true=>rw [zdw,if_pos hf] at h; omega
 have hl:=(ztE (l:=l) (x:=x)).1
 rw [zdw,if_neg (by rw [hf]; exact Bool.false_ne_true)] at h hl ⊢
 unfold zbJ at h hl ⊢
 split at h
 ·rename_i ha
  rw [if_pos ha] at hl
  rw [if_pos ha]
  refine⟨_,rfl,by omega,?_,hf⟩
  have hlt:(zdj l).findIdx (onE x) < (zdj l).length:=List.findIdx_lt_length_of_exists (by simpa using ha)
  have hp:onE x (zdj l)[(zdj l).findIdx (onE x)]=true:=List.findIdx_getElem
  have hg:=zen (l:=l) (i:=(zdj l).findIdx (onE x)) (by omega)
  have he:(zdj l)[(zdj l).findIdx (onE x)]=(cor l ((zdj l).findIdx (onE x)),cor l ((zdj l).findIdx (onE x)+1)):=(List.getElem?_eq_some_iff.1 hg).2
  rw [he] at hp
  exact(zmq (g.far _) (g.far _) hf (g.ne _)).1 hp
 ·omega
theorem Good.edge_at {x:Pt} {i:Nat} (hf:farB x=false) (hi:i < l.length) (h:BP l x i):zdw l x=(i:Int):=by
 rw [zdw,if_neg (by rw [hf]; exact Bool.false_ne_true)]
 refine zro (zen hi) (fun j y hj hy=>?_) ((zmq (g.far _) (g.far _) hf (g.ne _)).2 h)
 rw [zen (by omega)] at hy
 cases hy
 cases ho:onE x (cor l j,cor l (j+1)) with
 | false=>rfl
 | true=>
  have:=g.uniq hi (by omega) h ((zmq (g.far _) (g.far _) hf (g.ne _)).1 ho)
  omega
omit g in
theorem ze2 {i:Nat} (hi:i < l.length):ptAt l (i:Int)=cor l i∧zj9 l (i:Int)=cor l (i+1):=⟨zgC hi,zqc i⟩
theorem Good.border {x:Pt}:znJ l x=decide (0≤zdw l x):=by
 rw [Bool.eq_iff_iff,decide_eq_true_eq]
 constructor
 ·intro h
  unfold znJ zqu at h
  rw [Bool.and_eq_true,Bool.not_eq_true',Bool.not_eq_true'] at h
  obtain⟨hf,ha⟩:=h
  have hex:∃ i,i < l.length∧ronB (ptAt l (i:Nat)) (zj9 l (i:Nat)) x=true:=Classical.byContradiction fun hn=>by
   rw [zdN (fun i hi=>?_)] at ha
   ·cases ha
   ·cases hr:ronB (ptAt l (i:Nat)) (zj9 l (i:Nat)) x with
    | false=>rfl
    | true=>exact absurd ⟨i,hi,hr⟩ hn
  obtain⟨i,hi,hr⟩:=hex
  rw [(ze2 hi).1,(ze2 hi).2,zga (g.far _) (g.far _) hf (g.ne _)] at hr
  rcases hr with hr | hr
  ·rw [g.edge_at hf hi hr]; omega
  ·have hlt:(i+1) % l.length < l.length:=Nat.mod_lt _ (by omega)
   have:BP l x (i+1):=⟨1,0,by rw [hr]; exact OnH.at 1 (by omega)⟩
   rw [g.edge_at hf hlt (this.congr (Nat.mod_mod _ _).symm)]; omega
 ·intro h
  obtain⟨i,_,hi,hb,hf⟩:=g.edge h
  refine zqv (i:=(i:Int)) hf (by omega) (by omega) ?_
  rw [(ze2 hi).1,(ze2 hi).2,zga (g.far _) (g.far _) hf (g.ne _)]
  exact .inl hb
theorem Good.line {x:Pt} {a i:Nat} (hf:farB x=false) (ha:a < l.length) (hb:BP l x a) (hi:i < l.length):zbs (cor l i) (cor l (i+1)) x=0↔ronB (cor l i) (cor l (i+1)) x=true:=by
 rw [zga (g.far _) (g.far _) hf (g.ne _)]
 constructor
 ·intro h0
  rcases g.zero (by split <;> omega) (hb.congr (zit hi ha)) h0 with h1 | ⟨_,h2⟩
  ·have:a=i:=by split at h1 <;> omega
   subst this; exact .inl hb
  ·exact .inr h2
 ·rintro (⟨D,t,h⟩ | rfl)
  ·exact zgz h
  ·rw [zdc]
theorem Good.apart {p q:Pt} (hp:0≤zdw l p) (hq:0≤zdw l q):zhI l p q=zmx l p q:=by
 obtain⟨a,_,ha,hbp,hfp⟩:=g.edge hp
 obtain⟨b,_,hb,hbq,hfq⟩:=g.edge hq
 have i1:inR 2000 p:=by have:=zeQ hfp; unfold inR; omega
 have i2:inR 2000 q:=by have:=zeQ hfq; unfold inR; omega
 have ic:∀ i,inR 2000 (cor l i):=fun i=>by have:=zeQ (g.far i); unfold inR; omega
 have key:∀ i,i < l.length→zto p q (cor l i,cor l (i+1))=zuC l p q (i:Nat):=fun i hi=>by
  unfold zto zuC
  rw [(ze2 hi).1,(ze2 hi).2,Bool.eq_iff_iff]
  simp only [Bool.and_eq_true,decide_eq_true_eq]
  rw [znY (by omega) (ic _) (ic _) i1,znY (by omega) (ic _) (ic _) i2,g.line hfp ha hbp hi,g.line hfq hb hbq hi]
 unfold zhI zmx
 rw [Bool.eq_iff_iff,Bool.not_eq_true',zdf,List.any_eq_false]
 constructor
 ·intro h i hi
  have:=h _ (List.mem_of_getElem? (zen hi))
  rw [key i hi] at this
  simpa using this
 ·intro h e he
  obtain⟨j,hj,rfl⟩:=List.getElem_of_mem he
  rw [zjd] at hj
  have hg:=(List.getElem?_eq_some_iff.1 (zen hj)).2
  rw [hg,key j hj]
  simpa using h j hj
end
end Go.Stn
namespace Go.Stn
open Go Go.K Go.RowKit
section
variable {l:List Pt} (g:Good l)
include g
structure Cut (l:List Pt) (p q:Pt) (a m:Nat) (D s E t:Int):Prop where
 fp:farB p=false
 fq:farB q=false
 ha:a < l.length
 hp:OnH p (cor l a) (cor l (a+1)) D s
 hq:OnH q (cor l (a+m)) (cor l (a+m+1)) E t
 m1:1≤m
 mn:m < l.length
 hs:m+1=l.length→0 < s
 ht:m=1→0 < t
 ep:zdw l p=(a:Int)
 eq:zdw l q=(((a+m) % l.length:Nat):Int)
theorem Good.cut {p q:Pt} (hp:0≤zdw l p) (hq:0≤zdw l q) (hap:zhI l p q=true):∃ a m D s E t,Cut l p q a m D s E t:=by
 have hr:=hap
 rw [g.apart hp hq] at hr
 obtain⟨a,ea,ha,hbp,hfp⟩:=g.edge hp
 obtain⟨b,eb,hb,hbq,hfq⟩:=g.edge hq
 have hbq':=hbq.congr (zit ha hb)
 have hm:(if a≤b then b - a else b+l.length - a) < l.length:=by split <;> omega
 have hmod:=zit ha hb
 generalize hmm:(if a≤b then b - a else b+l.length - a)=m at *
 have no:∀ i,i < l.length→¬ (ronB (cor l i) (cor l (i+1)) p=true∧ronB (cor l i) (cor l (i+1)) q=true):=fun i hi hh=>by
  unfold zmx at hr
  have:=zdf.1 hr i hi
  unfold zuC at this
  rw [(ze2 hi).1,(ze2 hi).2,hh.1,hh.2] at this
  cases this
 have r1:ronB (cor l a) (cor l (a+1)) p=true:=(zga (g.far _) (g.far _) hfp (g.ne _)).2 (.inl hbp)
 have r2:ronB (cor l b) (cor l (b+1)) q=true:=(zga (g.far _) (g.far _) hfq (g.ne _)).2 (.inl hbq)
 obtain⟨D,s,kp⟩:=hbp
 obtain⟨E,t,kq⟩:=hbq'
 have hm0:m≠0:=fun h0=>by
  have:a=b:=by split at hmm <;> omega
  subst this
  exact no a ha ⟨r1,r2⟩
 refine⟨a,m,D,s,E,t,hfp,hfq,ha,kp,kq,by omega,hm,fun hlast=>?_,fun h1=>?_,ea,?_⟩
 ·have h0:=kp.t0
  rcases Int.lt_or_eq_of_le h0 with h | h
  ·exact h
  ·exfalso
   subst h
   have hpa:=kp.start
   have hba:cor l (b+1)=cor l a:=by
    apply ze1
    rw [←Nat.mod_add_mod,hmod,Nat.mod_add_mod,show a+m+1=a+l.length from by omega,Nat.add_mod_right]
   exact no b hb ⟨(zga (g.far _) (g.far _) hfp (g.ne _)).2 (.inr (by rw [hba]; exact hpa)),r2⟩
 ·have h0:=kq.t0
  rcases Int.lt_or_eq_of_le h0 with h | h
  ·exact h
  ·exfalso
   subst h; subst h1
   exact no a ha ⟨r1,(zga (g.far _) (g.far _) hfq (g.ne _)).2 (.inr kq.start)⟩
 ·rw [eb,←hmod,Nat.mod_eq_of_lt hb]
variable {p q:Pt} {a m:Nat} {D s E t:Int} (c:Cut l p q a m D s E t)
include c
theorem Good.left (k:Nat) (h1:m < k) (h2:k < l.length∨(k=l.length∧0 < s)):0 < zbs p q (cor l (a+k)):=by
 rcases h2 with h2 | ⟨rfl,h2⟩
 ·exact zth g.cvx c.hp c.hq c.m1 h1 h2
 ·exact ztf g.cvx c.hp c.hq c.m1 c.mn g.len h2 c.ht
theorem Good.notleft (k:Nat) (h1:1≤k) (h2:k≤m):zbs p q (cor l (a+k))≤0:=ztg g.cvx c.hp c.hq c.mn h1 h2
omit g in
theorem Cut.first (h:s=0):cor l (a+l.length)=p:=by
 have:=c.hp
 rw [h] at this
 rw [ze0]
 exact this.start.symm
theorem Good.side (i:Nat):zg4 p q (cor l i)=zbs p q (cor l i):=by
 have i1:inR 2000 p:=by have:=zeQ c.fp; unfold inR; omega
 have i2:inR 2000 q:=by have:=zeQ c.fq; unfold inR; omega
 have ic:inR 2000 (cor l i):=by have:=zeQ (g.far i); unfold inR; omega
 exact znS (by omega) i1 i2 ic
def arcL (l:List Pt) (p q:Pt) (a m:Nat):List Pt:=((List.range (l.length - m)).map fun j=>cor l (a+m+1+j)).filter fun c=>decide (0 < zg4 p q c)
theorem Good.rn:∀ (k j:Nat),j+k+m=l.length→znL l p k (((a+m) % l.length:Nat)+1+(j:Int))=(((List.range k).map fun i=>cor l (a+m+1+j+i)).filter fun c=>decide (0 < zg4 p q c))++[p]
 | 0,j,_=>rfl
 | k+1,j,hk=>by
  have hat:atL l (((a+m) % l.length:Nat)+1+(j:Int))=cor l (a+m+1+j):=by
   rw [zoU (n:=(a+m) % l.length+(1+j)+l.length) (by omega),ze0,zeB]
   congr 1
   omega
  have hcor:cor l (a+m+1+j)=cor l (a+(m+1+j)):=by congr 1; omega
  have hrec:=Good.rn k (j+1) (by omega)
  rw [show(((a+m) % l.length:Nat):Int)+1+((j+1:Nat):Int)=(((a+m) % l.length:Nat):Int)+1+(j:Int)+1 from by omega] at hrec
  have hmap:(List.range (k+1)).map (fun i=>cor l (a+m+1+j+i))=cor l (a+m+1+j) :: (List.range k).map (fun i=>cor l (a+m+1+(j+1)+i)):=by
   rw [List.range_succ_eq_map,List.map_cons,List.map_map]
   congr 1
   apply List.map_congr_left
   intro i _
   show cor l (a+m+1+j+(i+1))=_
   congr 1
   omega
  unfold znL
  rw [hat,hmap]
  by_cases hlast:m+1+j=l.length∧s=0
  ·have hk0:k=0:=by omega
   subst hk0
   have he:cor l (a+m+1+j)=p:=by rw [hcor,hlast.1]; exact c.first hlast.2
   rw [he,if_pos (zpn.2 rfl)]
   have hz:¬ 0 < zg4 p q p:=by
    have:=g.side c (a+l.length)
    rw [c.first hlast.2,zdd] at this
    omega
   simp [hz]
  ·have hpos:0 < zg4 p q (cor l (a+m+1+j)):=by
    rw [g.side c,hcor]
    refine g.left c _ (by omega) ?_
    by_cases h:m+1+j=l.length
    ·refine .inr ⟨h,?_⟩
     have:=c.hp.t0
     have:s≠0:=fun h0=>hlast ⟨h,h0⟩
     omega
    ·exact .inl (by omega)
   have hne:¬ eqB (cor l (a+m+1+j)) p=true:=fun he=>by
    have:=zpn.1 he
    rw [g.side c,this,zdd] at hpos
    omega
   rw [if_neg hne,hrec]
   simp [hpos]
omit g in
theorem Cut.rt:zqA l q p=l.length - m:=by
 have:=c.ha
 have:=c.mn
 have:=c.m1
 have hlt:=Nat.mod_lt (a+m) (show l.length > 0 by omega)
 unfold zqA
 rw [c.ep,c.eq]
 rcases Nat.lt_or_ge (a+m) l.length with h | h
 ·rw [Nat.mod_eq_of_lt h,if_neg (by omega)]; omega
 ·rw [Nat.mod_eq_sub_mod h,Nat.mod_eq_of_lt (by omega),if_pos (by omega)]; omega
theorem Good.rl:zqz l q p=q :: (arcL l p q a m++[p]):=by
 unfold zqz arcL
 rw [c.rt,c.eq]
 have:=g.rn c (l.length - m) 0 (by have:=c.mn; omega)
 rw [show(((a+m) % l.length:Nat):Int)+1+((0:Nat):Int)=(((a+m) % l.length:Nat):Int)+1 from by omega] at this
 rw [this]
omit g in
theorem Cut.mod (i:Nat):i % l.length=(a+(m+1+(i+(l.length - (a+m+1) % l.length)) % l.length)) % l.length:=by
 have hn:0 < l.length:=by have:=c.mn; omega
 have:=Nat.mod_lt (a+m+1) hn
 rw [show a+(m+1+(i+(l.length - (a+m+1) % l.length)) % l.length)=(a+m+1)+(i+(l.length - (a+m+1) % l.length)) % l.length from by omega,Nat.add_mod_mod,←Nat.mod_add_mod,
  show(a+m+1) % l.length+(i+(l.length - (a+m+1) % l.length))=i+l.length from by omega,Nat.add_mod_right]
theorem Good.fr:zpJ l p q l.length=(((a+m+1) % l.length:Nat):Int):=by
 have hn:0 < l.length:=by have:=c.mn; omega
 have m1:=c.m1
 have mn:=c.mn
 have hlt:=Nat.mod_lt (a+m+1) hn
 have test:∀ i:Nat,i < l.length→(zt9 l p q (i:Int)=true↔i=(a+m+1) % l.length):=fun i hi=>by
  have e1:ptAt l (i:Int)=cor l i:=zgC hi
  have e2:((i:Int)+(l.length:Int) - 1).tmod (l.length:Int)=(((i+l.length - 1) % l.length:Nat):Int):=by
   rw [show(i:Int)+(l.length:Int) - 1=((i+l.length - 1:Nat):Int) from by omega]; rfl
  have e3:ptAt l (((i+l.length - 1) % l.length:Nat):Int)=cor l (i+l.length - 1):=by
   rw [zgC (Nat.mod_lt _ hn),zlZ]
  unfold zt9
  rw [e1,e2,e3,g.side c,g.side c,Bool.and_eq_true,decide_eq_true_eq,decide_eq_true_eq]
  have hmod:=c.mod i
  have hr:=Nat.mod_lt (i+(l.length - (a+m+1) % l.length)) hn
  have hzero:(i+(l.length - (a+m+1) % l.length)) % l.length=0↔i=(a+m+1) % l.length:=by
   rcases Nat.lt_or_ge i ((a+m+1) % l.length) with h | h
   ·rw [Nat.mod_eq_of_lt (by omega)]; omega
   ·rw [Nat.mod_eq_sub_mod (by omega),Nat.mod_eq_of_lt (by omega)]; omega
  rw [←hzero]
  generalize (i+(l.length - (a+m+1) % l.length)) % l.length=r at *
  have c1:cor l i=cor l (a+(m+1+r)):=ze1 hmod
  have c2:cor l (i+l.length - 1)=cor l (a+(m+r)):=by
   apply ze1
   have e:(i+l.length - 1+1) % l.length=(a+(m+r)+1) % l.length:=by
    rw [show i+l.length - 1+1=i+l.length from by omega,Nat.add_mod_right,hmod]; congr 1; omega
   have e':=congrArg (fun x=>(x+(l.length - 1)) % l.length) e
   simp only [Nat.mod_add_mod] at e'
   rw [show i+l.length - 1+1+(l.length - 1)=i+l.length - 1+l.length from by omega,Nat.add_mod_right,show a+(m+r)+1+(l.length - 1)=a+(m+r)+l.length from by omega,Nat.add_mod_right] at e'
   exact e'
  rw [c1,c2]
  constructor
  ·rintro ⟨h1,h2⟩
   refine Classical.byContradiction fun hr0=>?_
   by_cases hb:m+1+r≤l.length
   ·have:=g.left c (m+r) (by omega) (.inl (by omega))
    omega
   ·have:=g.notleft c (m+1+r - l.length) (by omega) (by omega)
    rw [show a+(m+1+r)=a+(m+1+r - l.length)+l.length from by omega,ze0] at h1
    omega
  ·intro h0
   subst h0
   refine⟨g.left c _ (by omega) ?_,g.notleft c _ (by omega) (by omega)⟩
   by_cases h:m+1=l.length
   ·exact .inr ⟨h,c.hs h⟩
   ·exact .inl (by omega)
 have key:∀ n,n≤l.length→(a+m+1) % l.length < n→zpJ l p q n=(((a+m+1) % l.length:Nat):Int):=by
  intro n
  induction n with
  | zero=>intro _ h; omega
  | succ n ih=>
   intro h1 h2
   unfold zpJ
   by_cases h:n=(a+m+1) % l.length
   ·rw [if_pos ((test n (by omega)).2 h),h]
   ·rw [if_neg (fun hc=>h ((test n (by omega)).1 hc))]
    exact ih (by omega) (by omega)
 exact key _ (Nat.le_refl _) hlt
theorem Good.ll:zua l p q=p :: q :: arcL l p q a m:=by
 have m1:=c.m1
 have mn:=c.mn
 unfold zua zv5 arcL
 rw [g.fr c]
 congr 2
 have hpt:∀ j:Nat,zub l (((a+m+1) % l.length:Nat):Int) (j:Int)=cor l (a+m+1+j):=fun j=>by
  unfold zub
  rw [show((((a+m+1) % l.length:Nat):Int)+(j:Int)).tmod (l.length:Int)=((((a+m+1) % l.length+j) % l.length:Nat):Int) from rfl,zgC (Nat.mod_lt _ (by omega)),zlZ,zeB]
 rw [List.map_congr_left (g:=fun j=>cor l (a+m+1+j)) (fun j _=>hpt j)]
 have hsplit:List.range l.length=List.range (l.length - m)++(List.range m).map (fun j=>l.length - m+j):=by
  rw [←List.range_add]; congr 1; omega
 rw [hsplit,List.map_append,List.filter_append,List.map_map]
 have hnil:(((List.range m).map ((fun j=>cor l (a+m+1+j)) ∘ fun j=>l.length - m+j)).filter fun c=>decide (0 < zg4 p q c))=[]:=by
  rw [List.filter_eq_nil_iff]
  intro x hx
  obtain⟨j,hj,rfl⟩:=List.mem_map.1 hx
  rw [List.mem_range] at hj
  have:=g.notleft c (j+1) (by omega) (by omega)
  show ¬ decide (0 < zg4 p q (cor l (a+m+1+(l.length - m+j))))=true
  rw [g.side c,show a+m+1+(l.length - m+j)=a+(j+1)+l.length from by omega,ze0,decide_eq_true_eq]
  omega
 rw [hnil,List.append_nil]
theorem Good.nodup:(p :: q :: arcL l p q a m).Nodup:=by
 have mn:=c.mn
 have hside:∀ x∈arcL l p q a m,0 < zbs p q x:=fun x hx=>by
  obtain⟨h1,h2⟩:=List.mem_filter.1 hx
  obtain⟨j,_,rfl⟩:=List.mem_map.1 h1
  rw [decide_eq_true_eq,g.side c] at h2
  exact h2
 have hpq:p≠q:=fun h=>by
  have:=g.left c (m+1) (by omega) (by
   by_cases h:m+1=l.length
   ·exact .inr ⟨h,c.hs h⟩
   ·exact .inl (by omega))
  rw [h,zg5] at this
  omega
 have cne:∀ i j,i < j→j < i+l.length→cor l i≠cor l j:=fun i j h1 h2 he=>by
  have n3:=g.len
  by_cases h:j=i+1
  ·subst h; exact g.ne i he
  ·have:=g.cvx.tri3 (i:=i) (j:=i+1) (k:=j) (by omega) (by omega) h2
   rw [he,zdd] at this
   omega
 rw [List.nodup_cons,List.nodup_cons]
 refine⟨fun h=>?_,fun h=>?_,?_⟩
 ·rcases List.mem_cons.1 h with h | h
  ·exact hpq h
  ·have:=hside _ h
   rw [zdd] at this
   omega
 ·have:=hside _ h
  rw [zdc] at this
  omega
 ·unfold arcL
  refine List.Pairwise.filter _ ?_
  rw [List.pairwise_map]
  refine List.Pairwise.imp_of_mem ?_ (List.pairwise_lt_range)
  intro i j hi hj hij
  rw [List.mem_range] at hi hj
  exact cne _ _ (by omega) (by omega)
end
theorem Good.parts {l:List Pt} (g:Good l) {p q:Pt} (hp:0≤zdw l p) (hq:0≤zdw l q) (hap:zhI l p q=true) :
  ∃ X,zua l p q=p :: q :: X∧zqz l q p=(q :: X)++[p]∧(p :: q :: X).Nodup:=by
 obtain⟨a,m,D,s,E,t,c⟩:=g.cut hp hq hap
 exact⟨_,g.ll c,g.rl c,g.nodup c⟩
end Go.Stn
namespace Go.Stn
open Go Go.K Go.RowKit
theorem zlY {l:List Pt} (h:0 < l.length) (f:Pt→Pt) (i:Nat):cor (l.map f) i=f (cor l i):=by
 have hi:i % l.length < l.length:=Nat.mod_lt _ h
 unfold cor
 rw [List.length_map]
 simp [hi]
theorem Cvx.sub {l:List Pt} (h:Cvx l) (h0:0 < l.length) (o:Pt):Cvx (l.map fun p=>subZ p o):=by
 intro i k hi h2 hk
 rw [List.length_map] at hi hk
 rw [zlY h0,zlY h0,zlY h0]
 have:=h i k hi h2 hk
 unfold zbs subZ at *
 dsimp only
 grind
end Go.Stn
namespace Go.Stn
open Go Go.K Go.RowKit
structure EdgeF (f:Pt→Pt→Int):Prop where
 anti:∀ u v,f u v = -f v u
 sub:∀ u v x,zbs u v x=0→f u v=f u x+f x v
theorem EdgeF.same {f:Pt→Pt→Int} (h:EdgeF f) (u:Pt):f u u=0:=by have:=h.anti u u; omega
end Go.Stn
namespace Go.Stn
open Go Go.K Go.RowKit
def upB (p:Pt):Bool:=decide (0 < p.z)
def lowL (l:List Pt):List Pt:=l.filter fun p=>!upB p
end Go.Stn
namespace Go.Stn
open Go Go.K Go.RowKit
theorem zoe {α:Type} [Inhabited α] {p:α→Bool} {l:List α} (h:zbJ p l≠-1):0≤zbJ p l∧zbJ p l < (l.length:Int)∧p (l.getD (zbJ p l).toNat default)=true∧∀ j:Nat,(j:Int) < zbJ p l→p (l.getD j default)=false:=by
 unfold zbJ at *
 by_cases ha:l.any p=true
 ·rw [if_pos ha] at *
  have hlt:l.findIdx p < l.length:=List.findIdx_lt_length_of_exists (by simpa using ha)
  have h1:=List.findIdx_getElem (w:=hlt)
  refine⟨by omega,by omega,?_,fun j hj=>?_⟩
  ·rw [show((l.findIdx p:Nat):Int).toNat=l.findIdx p from by omega]
   simpa [hlt] using h1
  ·have hj':j < l.findIdx p:=by omega
   have h2:=List.not_of_lt_findIdx hj'
   have:j < l.length:=by omega
   simpa [this] using h2
 ·rw [if_neg ha] at h
  exact absurd rfl h
theorem zod {α:Type} {p:α→Bool} {l:List α} (h:zbJ p l = -1):∀ x∈l,p x=false:=fun x hx=>by
 unfold zbJ at h
 cases hp:p x with
 | false=>rfl
 | true=>
  rw [if_pos (List.any_eq_true.2 ⟨x,hx,hp⟩)] at h
  omega
structure DelI (l m:List Pt) (i j:Int):Prop where
 i0:0≤i
 ij:i < j
 jl:j≤(l.length:Int)
 len:m.length=l.length
 front:m.take i.toNat=lowL (l.take j.toNat)
 back:m.drop j.toNat=l.drop j.toNat
theorem DelI.get {l m:List Pt} {i j:Int} (h:DelI l m i j):m.getD j.toNat default=l.getD j.toNat default:=by
 have hb:=congrArg (fun x:List Pt=>x[0]?) h.back
 simp only [List.getElem?_drop,Nat.add_zero] at hb
 simp only [List.getD_eq_getElem?_getD,hb]
theorem DelI.keep {l m:List Pt} {i j:Int} (h:DelI l m i j) (hj:j < (l.length:Int)) (hu:upB (m.getD j.toNat default)=false):DelI l (m.set i.toNat (m.getD j.toNat default)) (i+1) (j+1):=by
 have hi0:=h.i0; have hij:=h.ij; have hl:=h.len
 have hg:=h.get
 refine⟨by omega,by omega,by omega,by rw [List.length_set]; exact hl,?_,?_⟩
 ·rw [ziI (l:=l) (by omega) (by omega),ziI (l:=m.set _ _) hi0 (by rw [List.length_set]; omega)]
  unfold lowL
  rw [List.filter_append,List.filter_cons,if_pos (by rw [←hg,hu]; rfl),List.filter_nil]
  have h2:=h.front
  unfold lowL at h2
  rw [←h2,List.take_set_of_le (Nat.le_refl _),hg]
  congr 1
  rw [List.getD_eq_getElem?_getD,List.getElem?_set_self (by omega)]
  rfl
 ·rw [List.drop_set_of_lt (by omega),show(j+1).toNat=j.toNat+1 from by omega,←List.drop_drop,h.back,List.drop_drop]
theorem DelI.skip {l m:List Pt} {i j:Int} (h:DelI l m i j) (hj:j < (l.length:Int)) (hu:upB (m.getD j.toNat default)=true):DelI l m i (j+1):=by
 have hi0:=h.i0; have hij:=h.ij; have hl:=h.len
 have hg:=h.get
 refine⟨by omega,by omega,by omega,hl,?_,?_⟩
 ·rw [ziI (l:=l) (by omega) (by omega)]
  unfold lowL
  rw [List.filter_append,List.filter_cons,if_neg (by rw [←hg,hu]; decide),List.filter_nil,List.append_nil]
  exact h.front
 ·rw [show(j+1).toNat=j.toNat+1 from by omega,←List.drop_drop,h.back,List.drop_drop]
theorem DelI.done {l m:List Pt} {i j:Int} (h:DelI l m i j) (hj:¬ j < (l.length:Int)):m.take i.toNat=lowL l∧i.toNat=(lowL l).length∧m.length=l.length:=by
 have hi0:=h.i0; have hij:=h.ij; have hl:=h.len; have hjl:=h.jl
 have hf:=h.front
 rw [zsm (l:=l) (by omega)] at hf
 have:=congrArg List.length hf
 rw [List.length_take] at this
 exact⟨hf,by omega,hl⟩
end Go.Stn
namespace Go.Pln
open Go Go.K Go.RowKit Go.Stn
section
variable {α:Type} [Inhabited α] {p:α→Bool}
def offL (p:α→Bool) (l:List α):List α:=l.filter fun x=>!p x
def offZ (p:α→Bool) (l:List α):List α:=offL p l++List.replicate (l.length - (offL p l).length) default
structure OffI (p:α→Bool) (l m:List α) (i j:Int):Prop where
 i0:0≤i
 ij:i < j
 jl:j≤(l.length:Int)
 len:m.length=l.length
 front:m.take i.toNat=offL p (l.take j.toNat)
 back:m.drop j.toNat=l.drop j.toNat
theorem zey {l:List α} {i:Int} (h0:0≤i) (h:i < (l.length:Int)):l.take (i+1).toNat=l.take i.toNat++[l.getD i.toNat default]:=by
 rw [show(i+1).toNat=i.toNat+1 from by omega,List.take_add_one,List.getD_eq_getElem?_getD,List.getElem?_eq_getElem (by omega)]; rfl
omit [Inhabited α] in
theorem zrQ {l:List α} (h:zbJ p l = -1):offL p l=l:=by
 unfold offL
 rw [List.filter_eq_self]
 intro x hx
 rw [zod h x hx]; rfl
theorem zqh {l:List α} (h:¬ zbJ p l = -1):OffI p l l (zbJ p l) (zbJ p l+1):=by
 obtain⟨h0,h1,h2,h3⟩:=zoe h
 refine⟨h0,by omega,by omega,rfl,?_,rfl⟩
 rw [zey h0 h1]
 unfold offL
 rw [List.filter_append]
 have e1:(l.take (zbJ p l).toNat).filter (fun x=>!p x)=l.take (zbJ p l).toNat:=by
  rw [List.filter_eq_self]
  intro x hx
  obtain⟨j,hj,rfl⟩:=List.getElem_of_mem hx
  rw [List.length_take] at hj
  have:=h3 j (by omega)
  have hjl:j < l.length:=by omega
  rw [List.getElem_take]
  simp [hjl] at this
  simp [this]
 rw [e1]
 rw [List.filter_cons,if_neg (by rw [h2]; decide)]
 simp
theorem OffI.get {l m:List α} {i j:Int} (h:OffI p l m i j):m.getD j.toNat default=l.getD j.toNat default:=by
 have hb:=congrArg (fun x:List α=>x[0]?) h.back
 simp only [List.getElem?_drop,Nat.add_zero] at hb
 simp only [List.getD_eq_getElem?_getD,hb]
theorem OffI.keep {l m:List α} {i j:Int} (h:OffI p l m i j) (hj:j < (l.length:Int)) (hu:p (m.getD j.toNat default)=false):OffI p l (m.set i.toNat (m.getD j.toNat default)) (i+1) (j+1):=by
 have hi0:=h.i0; have hij:=h.ij; have hl:=h.len
 have hg:=h.get
 refine⟨by omega,by omega,by omega,by rw [List.length_set]; exact hl,?_,?_⟩
 ·rw [zey (l:=l) (by omega) (by omega),zey (l:=m.set _ _) hi0 (by rw [List.length_set]; omega)]
  unfold offL
  rw [List.filter_append,List.filter_cons,if_pos (by rw [←hg,hu]; rfl),List.filter_nil]
  have h2:=h.front
  unfold offL at h2
  rw [←h2,List.take_set_of_le (Nat.le_refl _),hg]
  congr 1
  rw [List.getD_eq_getElem?_getD,List.getElem?_set_self (by omega)]
  rfl
 ·rw [List.drop_set_of_lt (by omega),show(j+1).toNat=j.toNat+1 from by omega,←List.drop_drop,h.back,List.drop_drop]
theorem OffI.skip {l m:List α} {i j:Int} (h:OffI p l m i j) (hj:j < (l.length:Int)) (hu:p (m.getD j.toNat default)=true):OffI p l m i (j+1):=by
 have hi0:=h.i0; have hij:=h.ij; have hl:=h.len
 have hg:=h.get
 refine⟨by omega,by omega,by omega,hl,?_,?_⟩
 ·rw [zey (l:=l) (by omega) (by omega)]
  unfold offL
  rw [List.filter_append,List.filter_cons,if_neg (by rw [←hg,hu]; decide),List.filter_nil,List.append_nil]
  exact h.front
 ·rw [show(j+1).toNat=j.toNat+1 from by omega,←List.drop_drop,h.back,List.drop_drop]
omit [Inhabited α] in
theorem OffI.done {l m:List α} {i j:Int} (h:OffI p l m i j) (hj:¬ j < (l.length:Int)):m.take i.toNat=offL p l∧i.toNat=(offL p l).length∧m.length=l.length:=by
 have hi0:=h.i0; have hij:=h.ij; have hl:=h.len; have hjl:=h.jl
 have hf:=h.front
 rw [List.take_of_length_le (l:=l) (by omega)] at hf
 have:=congrArg List.length hf
 rw [List.length_take] at this
 exact⟨hf,by omega,hl⟩
omit [Inhabited α] in
theorem zun (l:List α):(offL p l).length≤l.length:=List.length_filter_le _ _
end
end Go.Pln
namespace Go.K
open Go Go.RowKit
section
variable {α:Type} [Inhabited α] {k:Nat} {enc:α→List Value}
open Go.Proofs in
theorem zoy {P:Program} {ρ:Go.Shelf.Ren} (L:SlLaysF0.n6 P ρ) (aE:∀ w,(isAgg (ρ.t 24)).run P w=.ok true w) (zE:∀ w,(Go.sizeOf (ρ.t 24)).run P w=.ok k w) (he:Enc k enc) (hk:0 < k) (h1:∀ x,∀ v∈enc x,v.oneCell' = true)
  (cf:α→α→Int) (hO:Go.Sort.SWO (ltOf cf)) (g:Nat) (cb:List Value) (eg:En P g)
  {a:Option Addr} {cap:Nat} {e:TypeId} {l:List α} {w:World} {B:Nat→Prop} (hc:∀ x y w',Mod B w w'→Calls P g (#[.agg (enc x).toArray,.agg (enc y).toArray]++cb.toArray) w' (Pure (.int .i64 (cf x y)) w'))
  (hB:∀ i,B i→i < w.heap.size) (hA:(Row a k cap e enc l).A B w) (hs:l.length < 4611686018427387904) :
  Calls P (ρ.f 6) #[.slice a l.length cap,.func (.func g) #[] cb.toArray] w (zho (fun _:List α=>.tuple #[]) (fun m=>Row a k cap e enc m) (fun m=>m.Perm l∧m.Pairwise fun x y=>ltOf cf y x=false) B w):=by
 rcases hA with ⟨rfl,rfl,rfl⟩ | ⟨b,off,cs,ha,hBb,hb,g1,g2,g3⟩
 ·refine(AnyF.slices_SortFunc_none L none 0 (.func (.func g) #[] cb.toArray) w).mono ?_
  rintro _ _ ⟨rfl,rfl⟩
  exact⟨[],B,rfl,⟨List.Perm.refl _,List.Pairwise.nil⟩,Mod.rfl,fun _ hk=>.inl hk,.inl ⟨rfl,rfl,rfl⟩⟩
 ·have hbl:b < w.heap.size:=hB b ((hBb b).2 rfl)
  have hcmp:CmpLays P g cb.toArray enc k cf b off l.toArray.size w:=fun m os dk hdk x y=>by
   have hm:=(zjs (n:=m) (os:=os) he hk (m:=dk.toList) (l:=l) (by simpa using hdk) hB ha hBb hb g1 g2).1
   rw [Array.toArray_toList] at hm
   refine(hc x y (Go.Proofs.sortWorldK enc k w b off m dk os) hm).mono ?_
   rintro _ w' ⟨rfl,hx⟩
   exact⟨rfl,hx.grown⟩
  have h:=AnyQ.slices_SortFunc L k aE zE enc he.len h1 cf hO g cb.toArray b off cap l.toArray w eg hcmp (zpW he hk hb g3) hbl (by simpa using hs)
  subst ha
  refine h.mono ?_
  rintro _ _ ⟨rfl,d',n,os,⟨hsz,_,hperm⟩,hso,rfl⟩
  have hsz':d'.size=l.length:=by simpa using hsz
  have e1:d'.extract 0 l.toArray.size=d':=by rw [←hsz]; exact Array.extract_size
  rw [e1,Array.extract_size] at hperm
  obtain⟨q1,q2⟩:=zjs (n:=n) (os:=os) he hk (m:=d'.toList) (l:=l) (by simpa using hsz') hB rfl hBb hb g1 g2
  rw [Array.toArray_toList] at q1 q2
  refine⟨d'.toList,B,rfl,⟨by simpa using hperm,?_⟩,q1,fun _ hk=>.inl hk,q2⟩
  rw [List.pairwise_iff_getElem]
  intro i j hi hj hij
  have hi':i < d'.size:=by simpa using hi
  have hj':j < d'.size:=by simpa using hj
  have:=hso i j (Nat.zero_le _) hij (by simpa using (by omega:j < l.length))
  rw [getElem!_pos d' j hj',getElem!_pos d' i hi'] at this
  simpa using this
end
end Go.K
namespace Go.Pln
open Go Go.K Go.RowKit Go.Stn
def zcH (l:List Opn) (x:Int):Bool:=l.all fun o=>!(decide (o.at_≤x)&&decide (x < o.at_+o.width))
theorem zdU {l:List Opn} {x:Int}:zcH l x=true↔∀ o∈l,¬ (o.at_≤x∧x < o.at_+o.width):=by
 unfold zcH
 rw [List.all_eq_true]
 have key:∀ o:Opn,(!(decide (o.at_≤x)&&decide (x < o.at_+o.width)))=true↔¬ (o.at_≤x∧x < o.at_+o.width):=fun o=>by
  rw [Bool.not_eq_true',Bool.and_eq_false_iff,decide_eq_false_iff_not,decide_eq_false_iff_not]
  omega
 exact⟨fun h o ho=>(key o).1 (h o ho),fun h o ho=>(key o).2 (h o ho)⟩
theorem znj {l:List Opn} {x:Int} {o:Opn} (ho:o∈l) (h:o.at_≤x∧x < o.at_+o.width):zcH l x=false:=by
 cases e:zcH l x with
 | false=>rfl
 | true=>exact absurd h (zdU.1 e o ho)
theorem zof {l m:List Opn} (h:l.Perm m):zcH l=zcH m:=by
 funext x
 rw [Bool.eq_iff_iff,zdU,zdU]
 exact⟨fun g o ho=>g o (h.mem_iff.2 ho),fun g o ho=>g o (h.mem_iff.1 ho)⟩
def Runs (f:Int→Bool) (hi:Int):Int→List Crs→Prop
 | lo,[]=>∀ x,lo≤x→x < hi→f x=false
 | lo,c :: r=>lo≤c.frm∧c.frm < c.to∧c.to≤hi∧(∀ x,lo≤x→x < c.frm→f x=false)∧(∀ x,c.frm≤x→x < c.to→f x=true)∧(c.to=hi∨f c.to=false)∧Runs f hi c.to r
theorem ziC {f:Int→Bool} {hi:Int}:∀ {lo:Int} {m n:List Crs},Runs f hi lo m→Runs f hi lo n→m=n
 | _,[],[],_,_=>rfl
 | _,[],c :: r,h,⟨a,b,d,_,e,_⟩=>by
  have:=h c.frm a (by omega)
  rw [e c.frm (Int.le_refl _) b] at this; cases this
 | _,c :: r,[],⟨a,b,d,_,e,_⟩,h=>by
  have:=h c.frm a (by omega)
  rw [e c.frm (Int.le_refl _) b] at this; cases this
 | _,c :: r,d :: s,⟨a1,a2,a3,a4,a5,a6,a7⟩,⟨b1,b2,b3,b4,b5,b6,b7⟩=>by
  have h1:c.frm=d.frm:=by
   rcases Int.lt_trichotomy c.frm d.frm with h | h | h
   ·have:=a5 c.frm (Int.le_refl _) a2
    rw [b4 c.frm a1 h] at this; cases this
   ·exact h
   ·have:=b5 d.frm (Int.le_refl _) b2
    rw [a4 d.frm b1 h] at this; cases this
  have h2:c.to=d.to:=by
   rcases Int.lt_trichotomy c.to d.to with h | h | h
   ·rcases a6 with e | e
    ·omega
    ·have:=b5 c.to (by omega) h
     rw [e] at this; cases this
   ·exact h
   ·rcases b6 with e | e
    ·omega
    ·have:=a5 d.to (by omega) h
     rw [e] at this; cases this
  obtain⟨cf,ct⟩:=c
  obtain⟨df,dt⟩:=d
  simp only at h1 h2
  subst h1 h2
  rw [ziC a7 b7]
theorem zeK {f:Int→Bool} {hi:Int}:∀ {lo:Int} {m:List Crs},Runs f hi lo m→∀ c∈m,lo≤c.frm∧c.frm < c.to∧c.to≤hi∧∀ x,c.frm≤x→x < c.to→f x=true
 | _,[],_,_,h=>by cases h
 | _,c :: r,⟨a1,a2,a3,_,a5,_,a7⟩,d,h=>by
  rcases List.mem_cons.1 h with rfl | h'
  ·exact⟨a1,a2,a3,a5⟩
  ·obtain⟨b1,b2,b3,b4⟩:=zeK a7 d h'
   exact⟨by omega,b2,b3,b4⟩
theorem zgG {f:Int→Bool} {a b:Int} (hab:a≤b) (hn:∀ x,a≤x→x < b→f x=false):∀ {lo:Int} {m:List Crs},Runs f a lo m→Runs f b lo m
 | _,[],h=>fun x h1 h2=>by
  rcases Int.lt_or_le x a with g | g
  ·exact h x h1 g
  ·exact hn x g h2
 | _,c :: r,⟨a1,a2,a3,a4,a5,a6,a7⟩=>⟨a1,a2,by omega,a4,a5,by
   rcases a6 with e | e
   ·rcases Int.lt_or_le a b with g | g
    ·exact .inr (hn _ (by omega) (by omega))
    ·exact .inl (by omega)
   ·exact .inr e,zgG hab hn a7⟩
theorem zhC {f:Int→Bool} {a b:Int} (hab:a < b) (hf:∀ x,a≤x→x < b→f x=true):∀ {lo:Int} {m:List Crs},lo≤a→(∀ c∈m,c.to < a)→Runs f a lo m→Runs f b lo (m++[⟨a,b⟩])
 | _,[],hlo,_,h=>⟨hlo,hab,Int.le_refl _,h,hf,.inl rfl,fun x h1 h2=>by simp only at h1; omega⟩
 | _,c :: r,_,hl,⟨a1,a2,a3,a4,a5,a6,a7⟩=>⟨a1,a2,by omega,a4,a5,by
   rcases a6 with e | e
   ·have:=hl c (List.mem_cons_self ..); omega
   ·exact .inr e,zhC hab hf a3 (fun d hd=>hl d (List.mem_cons_of_mem _ hd)) a7⟩
theorem zlw {f:Int→Bool} {a p:Int} (hf:f a=true):∀ {lo:Int} {m:List Crs},Runs f a lo (m++[⟨p,a⟩])→Runs f (a+1) lo (m++[⟨p,a+1⟩])
 | _,[],⟨a1,a2,a3,a4,a5,a6,a7⟩=>⟨a1,by simp only at *; omega,Int.le_refl _,a4,fun x h1 h2=>by
   simp only at *
   rcases Int.lt_or_le x a with g | g
   ·exact a5 x h1 g
   ·rw [show x=a from by omega]; exact hf,.inl rfl,fun x h1 h2=>by simp only at h1; omega⟩
 | _,c :: r,⟨a1,a2,a3,a4,a5,a6,a7⟩=>⟨a1,a2,by omega,a4,a5,by
   rcases a6 with e | e
   ·have:=(zeK a7 ⟨p,a⟩ (List.mem_append.2 (.inr (List.mem_cons_self ..))))
    simp only at this; omega
   ·exact .inr e,zlw hf a7⟩
theorem znO {f:Int→Bool} {hi:Int} (h:0 < hi) (hf:∀ x,0≤x→x < hi→f x=true):Runs f hi 0 [⟨0,hi⟩]:=
 ⟨Int.le_refl _,h,Int.le_refl _,fun x h1 h2=>by simp only at h2; omega,hf,.inl rfl,fun x h1 h2=>by simp only at h1; omega⟩
def bayS (f:Int→Bool) (m:List Crs) (x:Int):List Crs:=
 if f x=true then(if 0 < m.length∧(m.getD (m.length - 1) default).to=x then m.set (m.length - 1) ⟨(m.getD (m.length - 1) default).frm,x+1⟩ else m++[⟨x,x+1⟩]) else m
def bayN (f:Int→Bool):Nat→List Crs
 | 0=>[]
 | n+1=>bayS f (bayN f n) n
theorem zt8 {α:Type} [Inhabited α] {m:List α} (h:0 < m.length):m=m.take (m.length - 1)++[m.getD (m.length - 1) default]:=by
 rw [List.getD_eq_getElem?_getD,List.getElem?_eq_getElem (by omega),Option.getD_some]
 conv=>lhs; rw [←List.take_append_drop (m.length - 1) m]
 rw [List.drop_eq_getElem_cons (by omega),List.drop_of_length_le (by omega)]
theorem zrE {α:Type} [Inhabited α] {m:List α} {z:α} (h:0 < m.length):m.set (m.length - 1) z=m.take (m.length - 1)++[z]:=by
 rw [List.set_eq_take_append_cons_drop,if_pos (by omega),List.drop_of_length_le (by omega)]
theorem zoW {f:Int→Bool} {m:List Crs} {x:Int} (h0:0≤x) (h:Runs f x 0 m):Runs f (x+1) 0 (bayS f m x):=by
 unfold bayS
 by_cases hf:f x=true
 ·rw [if_pos hf]
  by_cases hl:0 < m.length∧(m.getD (m.length - 1) default).to=x
  ·rw [if_pos hl,zrE hl.1]
   have h2:=h
   rw [zt8 hl.1] at h2
   have e:m.getD (m.length - 1) default=⟨(m.getD (m.length - 1) default).frm,x⟩:=by
    rw [←hl.2]
   rw [e] at h2
   exact zlw hf h2
  ·rw [if_neg hl]
   refine zhC (by omega) (fun y h1 h2=>by rw [show y=x from by omega]; exact hf) h0 (fun c hc=>?_) h
   obtain⟨i,hi,rfl⟩:=List.getElem_of_mem hc
   have h1:=(zeK h _ hc).2.2.1
   rcases Int.lt_or_eq_of_le h1 with g | g
   ·exact g
   ·exfalso
    have hlast:i=m.length - 1:=by
     rcases Nat.lt_or_ge i (m.length - 1) with hi' | hi'
     ·exfalso
      have key:∀ {lo:Int} {m:List Crs} {i:Nat} (hi:i < m.length),Runs f x lo m→i+1 < m.length→m[i].to < x:=by
       intro lo m
       induction m generalizing lo with
       | nil=>intro i hi; simp at hi
       | cons c r ih=>
        intro i hi hr hi2
        cases i with
        | zero=>
         obtain⟨_,_,_,_,_,_,a7⟩:=hr
         cases r with
         | nil=>simp at hi2
         | cons d s=>
          obtain⟨b1,b2,b3,_⟩:=a7
          simp only [List.getElem_cons_zero]; omega
        | succ k=>
         simp only [List.getElem_cons_succ]
         exact ih (by simpa using hi) hr.2.2.2.2.2.2 (by simpa using hi2)
      have:=key hi h (by omega)
      omega
     ·omega
    subst hlast
    apply hl
    refine⟨by omega,?_⟩
    rw [List.getD_eq_getElem?_getD,List.getElem?_eq_getElem hi]; exact g
 ·rw [if_neg hf]
  exact zgG (by omega) (fun y h1 h2=>by rw [show y=x from by omega]; simpa using hf) h
theorem zkF (f:Int→Bool):∀ n:Nat,Runs f n 0 (bayN f n)
 | 0=>fun x h1 h2=>by omega
 | n+1=>by rw [bayN]; exact zoW (by omega) (zkF f n)
def bayL (f:Int→Bool) (L:Int):List Crs:=bayN f L.toNat
theorem zkE (f:Int→Bool) {L:Int} (h:0≤L):Runs f L 0 (bayL f L):=by
 have:=zkF f L.toNat
 rwa [show((L.toNat:Nat):Int)=L from by omega] at this
theorem zjF {f:Int→Bool} {L:Int} {m:List Crs} (h:0≤L) (hm:Runs f L 0 m):m=bayL f L:=ziC hm (zkE f h)
structure SwI (l:List Opn) (L:Int) (n:Nat) (a:Int) (m:List Crs):Prop where
 a0:0≤a
 aL:a≤L
 runs:Runs (zcH l) a 0 m
 past:∀ o∈l.take n,o.at_+o.width≤a
 edge:a=0∨zcH l (a - 1)=false
def InW (l:List Opn) (L:Int):Prop:=∀ o∈l,0≤o.at_∧1≤o.width∧o.at_+o.width≤L
theorem zsl (l:List Opn) {L:Int} (h:0≤L):SwI l L 0 0 []:=⟨Int.le_refl _,h,fun x h1 h2=>by omega,fun o ho=>by simp at ho,.inl rfl⟩
def swM (a to:Int) (m:List Crs):List Crs:=if a < to then m++[⟨a,to⟩] else m
theorem znU {l:List Opn} {L:Int} {n:Nat} {a:Int} {m:List Crs} (h:SwI l L n a m):∀ c∈m,c.to < a:=fun c hc=>by
 obtain⟨h1,h2,h3,h4⟩:=zeK h.runs c hc
 rcases Int.lt_or_eq_of_le h3 with g | g
 ·exact g
 ·rcases h.edge with e | e
  ·omega
  ·have:=h4 (a - 1) (by omega) (by omega)
   rw [e] at this; cases this
theorem zuK {l:List Opn} {L:Int} {n:Nat} {a:Int} {m:List Crs} (hw:InW l L) (hs:l.Pairwise fun x y=>x.at_≤y.at_) (h:SwI l L n a m) (hn:n < l.length) :
  SwI l L (n+1) (max a ((l.getD n default).at_+(l.getD n default).width)) (swM a (l.getD n default).at_ m):=by
 have hg:l.getD n default=l[n]:=by rw [List.getD_eq_getElem?_getD,List.getElem?_eq_getElem hn]; rfl
 rw [hg]
 have hm:l[n]∈l:=List.getElem_mem hn
 obtain⟨w1,w2,w3⟩:=hw _ hm
 have ha:=h.a0; have haL:=h.aL
 have hcov:∀ x,l[n].at_≤x→x < l[n].at_+l[n].width→zcH l x=false:=fun x h1 h2=>znj hm ⟨h1,h2⟩
 have hfree:∀ x,a≤x→x < l[n].at_→zcH l x=true:=fun x h1 h2=>by
  rw [zdU]
  intro o ho hx
  obtain⟨i,hi,rfl⟩:=List.getElem_of_mem ho
  rcases Nat.lt_or_ge i n with g | g
  ·have:=h.past l[i] (List.mem_take_iff_getElem.2 ⟨i,by omega,rfl⟩)
   omega
  ·rcases Nat.lt_or_eq_of_le g with g' | g'
   ·have:=(List.pairwise_iff_getElem.1 hs) n i hn hi g'
    omega
   ·subst g'; omega
 have hpast:∀ o∈l.take (n+1),o.at_+o.width≤max a (l[n].at_+l[n].width):=fun o ho=>by
  obtain⟨i,hi,rfl⟩:=List.mem_take_iff_getElem.1 ho
  rcases Nat.lt_or_ge i n with g | g
  ·have:=h.past l[i] (List.mem_take_iff_getElem.2 ⟨i,by omega,rfl⟩)
   omega
  ·have hin:i=n:=by omega
   subst hin; omega
 have hedge:max a (l[n].at_+l[n].width)=0∨zcH l (max a (l[n].at_+l[n].width) - 1)=false:=by
  rcases Int.lt_or_le a (l[n].at_+l[n].width) with g | g
  ·right
   rw [show max a (l[n].at_+l[n].width)=l[n].at_+l[n].width from by omega]
   exact hcov _ (by omega) (by omega)
  ·rw [show max a (l[n].at_+l[n].width)=a from by omega]
   exact h.edge
 refine⟨by omega,by omega,?_,hpast,hedge⟩
 unfold swM
 by_cases g:a < l[n].at_
 ·rw [if_pos g,show max a (l[n].at_+l[n].width)=l[n].at_+l[n].width from by omega]
  exact zgG (by omega) hcov (zhC g hfree ha (znU h) h.runs)
 ·rw [if_neg g]
  exact zgG (by omega) (fun x h1 h2=>hcov x (by omega) (by omega)) h.runs
theorem zwl {l:List Opn} {L:Int} {n:Nat} {a:Int} {m:List Crs} (h:SwI l L n a m) (hn:l.length≤n):swM a L m=bayL (zcH l) L:=by
 have ha:=h.a0; have haL:=h.aL
 refine zjF (by omega) ?_
 unfold swM
 by_cases g:a < L
 ·rw [if_pos g]
  refine zhC g (fun x h1 h2=>?_) ha (znU h) h.runs
  rw [zdU]
  intro o ho hx
  have:=h.past o (by rw [List.take_of_length_le hn]; exact ho)
  omega
 ·rw [if_neg g]
  have:a=L:=by omega
  rw [←this]; exact h.runs
theorem zkl {f:Int→Bool} {hi:Int}:∀ {lo:Int} {m:List Crs},lo≤hi→Runs f hi lo m→(m.length:Int)≤hi - lo
 | _,[],h,_=>by simp; omega
 | _,c :: r,h,⟨a1,a2,a3,a4,a5,a6,a7⟩=>by
  have:=zkl a3 a7
  rw [List.length_cons]; omega
theorem SwI.many {l:List Opn} {L:Int} {n:Nat} {a:Int} {m:List Crs} (h:SwI l L n a m):(m.length:Int)≤L:=by
 have:=zkl h.a0 h.runs
 have:=h.aL
 omega
def lenL (m:List Crs):Int:=(m.map fun c=>c.to - c.frm).sum
theorem znP {f:Int→Bool} {hi:Int}:∀ {lo:Int} {m:List Crs},lo≤hi→Runs f hi lo m→0≤lenL m∧lenL m≤hi - lo
 | _,[],h,_=>by simp [lenL]; omega
 | _,c :: r,h,⟨a1,a2,a3,a4,a5,a6,a7⟩=>by
  have:=znP a3 a7
  unfold lenL at *
  rw [List.map_cons,List.sum_cons]
  omega
end Go.Pln
namespace Go.Pln
open Go Go.K Go.RowKit Go.Stn
def SwR (ti tl te:TypeId) (p q:Nat) (a:Int) (m:List Crs):Res where
 A B w:=∃ (ra:Option Addr) (rc:Nat),(SepR [Box p [.int .i64 a] ti,Box q [.slice ra m.length rc] tl,Row ra 2 rc te zbq m]).A B w
 loc B w w' h hA:=let ⟨ra,rc,h1⟩:=hA; ⟨ra,rc,(SepR [Box p [.int .i64 a] ti,Box q [.slice ra m.length rc] tl,Row ra 2 rc te zbq m]).loc B w w' h h1⟩
section
variable {c:Cx} {ds:List Deferred} {T:List (Nat×Value)} {H:List Res} {K:Act→World→Prop} {ti tl te:TypeId} {p q:Nat} {a:Int} {m:List Crs}
theorem zii (h:∀ (ra:Option Addr) (rc:Nat),GK c ds K T (Box p [.int .i64 a] ti :: Box q [.slice ra m.length rc] tl :: Row ra 2 rc te zbq m :: H)):GK c ds K T (SwR ti tl te p q a m :: H):=by
 intro b w ha hw
 obtain⟨hb,B,hB,⟨ra,rc,h2⟩,hr⟩:=hw
 exact h ra rc b w ha (Hp.split (L:=[_,_,_]) ⟨hb,B,hB,h2,hr⟩)
theorem zfF {ra:Option Addr} {rc:Nat} (h:GK c ds K T (SwR ti tl te p q a m :: H)):GK c ds K T (Box p [.int .i64 a] ti :: Box q [.slice ra m.length rc] tl :: Row ra 2 rc te zbq m :: H):=by
 intro b w ha hw
 obtain⟨hb,B,hB,h2,hr⟩:=Hp.pack (L:=[_,_,_]) (H:=H) hw
 exact h b w ha ⟨hb,B,hB,⟨ra,rc,h2⟩,hr⟩
end
theorem zwm {a t:Int} {m:List Crs} (h:decide (a < t)=true):m++[⟨a,t⟩]=swM a t m:=by unfold swM; rw [if_pos (of_decide_eq_true h)]
theorem zxB {a t:Int} {m:List Crs} (h:decide (a < t)=false):m=swM a t m:=by unfold swM; rw [if_neg (of_decide_eq_false h)]
end Go.Pln
namespace Go.Pln
open Go Go.K Go.RowKit Go.Stn
def zgu (c:Crs) (o:Opn):Bool:=decide (o.frm < c.to)&&decide (c.frm < o.frm+o.high)
def zj4 (h:Int) (o:Opn):Bool:=decide (o.frm+o.high=h)
def zcW (p:Opn→Bool) (v:Wll):List Crs:=bayL (zcH (v.opens.filter p)) v.length
def zbg (v:Wll) (c:Crs):List Crs:=zcW (zgu c) v
def zbK (v:Wll) (s:Sht):List Crs:=zcW (zj4 s.height) v
def copF (t to:Int):Nat→Int→Int→Int→List Cpe
 | 0,_,_,_=>[]
 | f+1,x,h,o=>if x < to then⟨x,min t (to - x),h⟩ :: copF t to f (x+t) o h else []
def copB (t to x h o:Int):List Cpe:=copF t to (to - x).toNat x h o
theorem zkL {t to:Int} (ht:1≤t):∀ (f g:Nat) (x h o:Int),(to - x).toNat≤f→(to - x).toNat≤g→copF t to f x h o=copF t to g x h o
 | 0,0,_,_,_,_,_=>rfl
 | 0,g+1,x,h,o,hf,_=>by rw [copF,copF,if_neg (by omega)]
 | f+1,0,x,h,o,_,hg=>by rw [copF,copF,if_neg (by omega)]
 | f+1,g+1,x,h,o,hf,hg=>by
  rw [copF,copF]
  by_cases hx:x < to
  ·rw [if_pos hx,if_pos hx,zkL ht f g (x+t) o h (by omega) (by omega)]
  ·rw [if_neg hx,if_neg hx]
theorem zkK {t to x h o:Int} (ht:1≤t) (hx:x < to):copB t to x h o=⟨x,min t (to - x),h⟩ :: copB t to (x+t) o h:=by
 unfold copB
 obtain⟨f,hf⟩:∃ f,(to - x).toNat=f+1:=⟨(to - x).toNat - 1,by omega⟩
 rw [hf,copF,if_pos hx,zkL ht f ((to - (x+t)).toNat) (x+t) o h (by omega) (Nat.le_refl _)]
theorem zm0 {t to x h o:Int} (hx:¬ x < to):copB t to x h o=[]:=by
 unfold copB
 rw [show(to - x).toNat=0 from by omega]; rfl
theorem zm1 (t to:Int):∀ (f:Nat) (x h o:Int),(copF t to f x h o).length≤f
 | 0,_,_,_=>Nat.le_refl _
 | f+1,x,h,o=>by
  rw [copF]
  split
  ·rw [List.length_cons]; have:=zm1 t to f (x+t) o h; omega
  ·simp
theorem zrh (t to x h o:Int):(copB t to x h o).length≤(to - x).toNat:=zm1 _ _ _ _ _ _
def zdD (s:Sht):Int:=if s.cope=3 then s.short else s.tall
def zcP (s:Sht) (bs:List Crs):List Cpe:=bs.flatMap fun b=>copB s.thick b.to b.frm s.tall (zdD s)
def zbi (v:Wll) (s:Sht):List Cpe:=if s.cope=0 then [] else zcP s (zbK v s)
theorem zhS (s:Sht) (b:Crs) (r:List Crs):zcP s (b :: r)=copB s.thick b.to b.frm s.tall (zdD s)++zcP s r:=rfl
theorem zi8 {f:Int→Bool} {hi:Int} (s:Sht):∀ {lo:Int} {m:List Crs},lo≤hi→Runs f hi lo m→((zcP s m).length:Int)≤hi - lo
 | _,[],h,_=>by simp [zcP]; omega
 | _,b :: r,h,⟨a1,a2,a3,a4,a5,a6,a7⟩=>by
  rw [zhS,List.length_append]
  have h1:=zrh s.thick b.to b.frm s.tall (zdD s)
  have h2:=zi8 s a3 a7
  omega
def thrT (bs:List Crs) (x:Int):Bool:=bs.any fun b=>decide (b.frm < x)&&decide (x < b.to)
def thrF (bs:List Crs) (L e:Int):Nat→Int→List Int
 | 0,_=>[]
 | f+1,x=>if x < L then(if thrT bs x=true then x :: thrF bs L e f (x+e) else thrF bs L e f (x+e)) else []
def thrX (bs:List Crs) (L e x:Int):List Int:=thrF bs L e (L - x).toNat x
theorem zlG {bs:List Crs} {L e:Int} (he:1≤e):∀ (f g:Nat) (x:Int),(L - x).toNat≤f→(L - x).toNat≤g→thrF bs L e f x=thrF bs L e g x
 | 0,0,_,_,_=>rfl
 | 0,g+1,x,hf,_=>by rw [thrF,thrF,if_neg (by omega)]
 | f+1,0,x,_,hg=>by rw [thrF,thrF,if_neg (by omega)]
 | f+1,g+1,x,hf,hg=>by
  rw [thrF,thrF]
  by_cases hx:x < L
  ·rw [if_pos hx,if_pos hx,zlG he f g (x+e) (by omega) (by omega)]
  ·rw [if_neg hx,if_neg hx]
theorem zlH {bs:List Crs} {L e x:Int} (he:1≤e) (hx:x < L):thrX bs L e x=if thrT bs x=true then x :: thrX bs L e (x+e) else thrX bs L e (x+e):=by
 unfold thrX
 obtain⟨f,hf⟩:∃ f,(L - x).toNat=f+1:=⟨(L - x).toNat - 1,by omega⟩
 rw [hf,thrF,if_pos hx,zlG he f ((L - (x+e)).toNat) (x+e) (by omega) (Nat.le_refl _)]
theorem znW {bs:List Crs} {L e x:Int} (hx:¬ x < L):thrX bs L e x=[]:=by
 unfold thrX
 rw [show(L - x).toNat=0 from by omega]; rfl
def thrI (s:Sht):Int:=zbJ (fun c:Crs=>decide (s.at_≤c.frm)) (zaj s)
def zi3 (s:Sht):Bool:=decide (s.every=0)||decide (thrI s < 0)
def zi2 (s:Sht):Int:=if zi3 s=true then -1 else thrI s
def thrL (v:Wll) (s:Sht):List Int:=if zi3 s=true then [] else thrX (zbg v ((zaj s).getD (thrI s).toNat default)) v.length s.every (s.every.tdiv 2)
def sumB (f:Crs→Int) (bs:List Crs):Int:=(bs.map f).sum
theorem zft (f:Crs→Int) (b:Crs) (r:List Crs):sumB f (b :: r)=f b+sumB f r:=by unfold sumB; rw [List.map_cons,List.sum_cons]
def zcY (s:Sht) (c:Crs):Int:=min (2*s.skin) (zb5 s c.frm)
def zct (s:Sht) (c:Crs):Int:=max (zb5 s c.frm - 2*s.skin) 0
def zcw (c b:Crs):Int:=(b.to - b.frm)*(c.to - c.frm)
def zh0 (v:Wll) (s:Sht) (c:Crs):Int:=sumB (fun b=>zcw c b*zcY s c) (zbg v c)
def zfi (v:Wll) (s:Sht) (c:Crs):Int:=sumB (fun b=>zcw c b*zct s c) (zbg v c)
def zcJ (v:Wll) (s:Sht):Int:=sumB (zh0 v s) (zaj s)
def zca (v:Wll) (s:Sht):Int:=sumB (zfi v s) (zaj s)
def zdl (v:Wll) (s:Sht):Int:=v.length*s.footing*(s.base+2*s.spread)
def topF (s:Sht) (c:Cpe):Int:=c.width*c.high*zb5 s s.height
def topL (v:Wll) (s:Sht):Int:=((zbi v s).map (topF s)).sum
def zlt (v:Wll) (s:Sht):Int:=(100*v.length).tdiv s.rood
structure Qnt where
 face:Int
 heart:Int
 foot:Int
 top:Int
 throughs:Int
 copes:Int
 roods:Int
def zdz (v:Wll) (s:Sht):Qnt:=⟨zcJ v s,zca v s,zdl v s,topL v s,(thrL v s).length,(zbi v s).length,zlt v s⟩
end Go.Pln
namespace Go.Proofs
open Go.Shelf
def Tryz.sortOp_ren:Go.Shelf.Ren:=⟨fun | 6=>155 | 15=>174 | 14=>173 | 28=>191 | 29=>176 | 20=>183 | 21=>184 | 22=>185 | 23=>186 | 24=>187 | 25=>188 | 26=>189 | 27=>190 | 46=>196 | 47=>197 | 48=>198 | 49=>199 | 50=>200 | 57=>201 | n=>n,fun | 22=>92 | 24=>98 | 25=>216 | 3=>3 | 39=>90 | 0=>0 | 53=>234 | 55=>226 | 4=>4 | 46=>261 | 45=>260 | 50=>169 | 5=>5 | 9=>9 | 66=>271 | 70=>186 | 76=>278 | 77=>214 | n=>n,fun | n=>n⟩
theorem Tryz.sortOp:Go.Proofs.SlLaysF0.n6 Tryz.prog Tryz.sortOp_ren:={
 mixed:=by kernel_rfl
 f6:=⟨Tryz.f155.name,by decide,Tryz.func155.trans (congrArg some (by kernel_rfl))⟩
 f14:=⟨Tryz.f173.name,by decide,Tryz.func173.trans (congrArg some (by kernel_rfl))⟩
 f15:=Tryz.func174.trans (congrArg some (by kernel_rfl))
 f20:=⟨Tryz.f183.name,by decide,Tryz.func183.trans (congrArg some (by kernel_rfl))⟩
 f21:=⟨Tryz.f184.name,by decide,Tryz.func184.trans (congrArg some (by kernel_rfl))⟩
 f22:=⟨Tryz.f185.name,by decide,Tryz.func185.trans (congrArg some (by kernel_rfl))⟩
 f23:=⟨Tryz.f186.name,by decide,Tryz.func186.trans (congrArg some (by kernel_rfl))⟩
 f24:=⟨Tryz.f187.name,by decide,Tryz.func187.trans (congrArg some (by kernel_rfl))⟩
 f25:=⟨Tryz.f188.name,by decide,Tryz.func188.trans (congrArg some (by kernel_rfl))⟩
 f26:=⟨Tryz.f189.name,by decide,Tryz.func189.trans (congrArg some (by kernel_rfl))⟩
 f27:=⟨Tryz.f190.name,by decide,Tryz.func190.trans (congrArg some (by kernel_rfl))⟩
 f28:=Tryz.func191.trans (congrArg some (by kernel_rfl))
 f29:=Tryz.func176.trans (congrArg some (by kernel_rfl))
 f46:=⟨Tryz.f196.name,by decide,Tryz.func196.trans (congrArg some (by kernel_rfl))⟩
 f47:=Tryz.func197.trans (congrArg some (by kernel_rfl))
 f48:=Tryz.func198.trans (congrArg some (by kernel_rfl))
 f49:=⟨Tryz.f199.name,by decide,Tryz.func199.trans (congrArg some (by kernel_rfl))⟩
 f50:=⟨Tryz.f200.name,by decide,Tryz.func200.trans (congrArg some (by kernel_rfl))⟩
 f57:=⟨Tryz.f201.name,by decide,Tryz.func201.trans (congrArg some (by kernel_rfl))⟩
 t0:=Tryz.underlying0
 a0:=Tryz.isAgg0
 z0:=Tryz.sizeOf0
 v0:=Tryz.zeroValue0
 t3:=Tryz.underlying3
 a3:=Tryz.isAgg3
 z3:=Tryz.sizeOf3
 v3:=Tryz.zeroValue3
 t4:=Tryz.underlying4
 a4:=Tryz.isAgg4
 z4:=Tryz.sizeOf4
 v4:=Tryz.zeroValue4
 t5:=Tryz.underlying5
 a5:=Tryz.isAgg5
 z5:=Tryz.sizeOf5
 v5:=Tryz.zeroValue5
 t9:=Tryz.underlying9
 a9:=Tryz.isAgg9
 z9:=Tryz.sizeOf9
 v9:=Tryz.zeroValue9
 t22:=Tryz.underlying92
 a22:=Tryz.isAgg92
 z22:=Tryz.sizeOf92
 v22:=Tryz.zeroValue92
 t25:=Tryz.underlying216
 a25:=Tryz.isAgg216
 z25:=Tryz.sizeOf216
 v25:=Tryz.zeroValue216
 t39:=Tryz.underlying90
 a39:=Tryz.isAgg90
 z39:=Tryz.sizeOf90
 v39:=Tryz.zeroValue90
 t45:=Tryz.underlying260
 a45:=Tryz.isAgg260
 z45:=Tryz.sizeOf260
 v45:=Tryz.zeroValue260
 t46:=Tryz.underlying261
 a46:=Tryz.isAgg261
 z46:=Tryz.sizeOf261
 v46:=Tryz.zeroValue261
 t50:=Tryz.underlying169
 a50:=Tryz.isAgg169
 z50:=Tryz.sizeOf169
 v50:=Tryz.zeroValue169
 t53:=Tryz.underlying234
 a53:=Tryz.isAgg234
 z53:=Tryz.sizeOf234
 v53:=Tryz.zeroValue234
 t55:=Tryz.underlying226
 a55:=Tryz.isAgg226
 z55:=Tryz.sizeOf226
 v55:=Tryz.zeroValue226
 t66:=Tryz.underlying271
 a66:=Tryz.isAgg271
 z66:=Tryz.sizeOf271
 v66:=Tryz.zeroValue271
 t70:=Tryz.underlying186
 a70:=Tryz.isAgg186
 z70:=Tryz.sizeOf186
 v70:=Tryz.zeroValue186
 t76:=Tryz.underlying278
 a76:=Tryz.isAgg278
 z76:=Tryz.sizeOf278
 v76:=Tryz.zeroValue278
 t77:=Tryz.underlying214
 a77:=Tryz.isAgg214
 z77:=Tryz.sizeOf214
 v77:=Tryz.zeroValue214 }
end Go.Proofs
namespace Go.Proofs.YtdcfcfhmkfkgmaaGreatDoor
open Go.K Go.Stn Go.Pln Go.RowKit
theorem zuL:TF Tryz.prog 191 false 1 (.nilFunc):=⟨by kernel_rfl,by kernel_rfl⟩
theorem ztH:En Tryz.prog 120:=za7 Tryz.func120 (by kernel_rfl) (by kernel_rfl)
theorem zxh:En Tryz.prog 139:=za7 Tryz.func139 (by kernel_rfl) (by kernel_rfl)
theorem zxj:En Tryz.prog 154:=za7 Tryz.func154 (by kernel_rfl) (by kernel_rfl)
theorem zxk:En Tryz.prog 155:=za7 Tryz.func155 (by kernel_rfl) (by kernel_rfl)
theorem zxm:En Tryz.prog 172:=za7 Tryz.func172 (by kernel_rfl) (by kernel_rfl)
abbrev zke (o:Opn):List Value:=[.agg #[.int .u8 o.kind,.int .i64 o.at_,.int .i64 o.width,.int .i64 o.frm,.int .i64 o.high]]
theorem zrV {l:List Opn} {i:Int} (h0:0≤i) (h:i < (l.length:Int)):(l.map zke)[i.toNat]?=some (zke (l.getD i.toNat default)):=by
 rw [List.getElem?_map,List.getD_eq_getElem?_getD,List.getElem?_eq_getElem (by omega)]; rfl
theorem znC {l:List Opn} {n:Nat} {a:List Value} (h:(l.map zke)[n]?=some a):∃ o,l[n]?=some o∧a=zke o:=by
 rw [List.getElem?_map] at h
 cases e:l[n]? with
 | none=>rw [e] at h; cases h
 | some o=>rw [e] at h; cases h; exact⟨o,rfl,rfl⟩
theorem znD (l:List Opn):∀ a∈l.map zke,a.length=1:=fun a h=>by
 obtain⟨o,_,rfl⟩:=List.mem_map.1 h; rfl
theorem zoz {l:List Opn} {n:Nat} {o:Opn} (h:l[n]?=some o):l.take (n+1)=l.take n++[o]:=by
 rw [List.take_add_one,h]; rfl
set_option maxRecDepth 100000 in
set_option maxHeartbeats 1000000 in
theorem zqR (o:Opn) (w:World)  :
  Calls Tryz.prog 120 #[.agg #[.int .u8 o.kind,.int .i64 o.at_,.int .i64 o.width,.int .i64 o.frm,.int .i64 o.high]] w (Pure (.tuple #[.int .i64 o.at_,.int .i64 (W (o.at_+o.width))]) w):=by
 refine zan (vs:=[_]) Tryz.func120 rfl rfl (Nat.le_of_ble_eq_true rfl) ?_
 refine zac ?_
 refine zaa ?_
 refine zaG rfl rfl (za3 (vs:=[_,_,_,_,_]) rfl rfl) fun b1=>?_
 refine gQ (zad rfl) ?_
 refine gQ (zad rfl) ?_
 refine zag (zae (T':=[(1,_),(2,_),(3,_)]) ⟨rfl,rfl,rfl,trivial⟩ ?_)
 refine zac ?_
 refine zbb 9 (fun _=>mixed) (by kernel_rfl) ?_
 refine ph_y (zab zhf rfl) ?_
 refine ph_y (zah 0 tf3 rfl rfl rfl) ?_
 refine ph_y (zab zhf rfl) ?_
 refine ph_y (zah 0 tf3 rfl rfl rfl) ?_
 refine ph_y (zab zji rfl) ?_
 refine ph_y (zah 0 tf3 rfl rfl rfl) ?_
 refine ph_y (zfw rfl rfl) ?_
 refine ph_y (zad rfl) ?_
 refine ph_y (zad rfl) ?_
 refine zag (zae (T':=[(2,_),(3,_)]) ⟨rfl,rfl,trivial⟩ ?_)
 refine zaw ?_
 refine zay (zc2 rfl (zau rfl) (zau rfl)) ?_
 rfl
set_option maxRecDepth 100000 in
set_option maxHeartbeats 1000000 in
theorem zr3 (x y:Opn) (b:Nat) (w:World) (hb:Has w (Box b [.func (.func 120) #[] #[]] 191)) :
  Calls Tryz.prog 138 #[.agg #[.int .u8 x.kind,.int .i64 x.at_,.int .i64 x.width,.int .i64 x.frm,.int .i64 x.high],.agg #[.int .u8 y.kind,.int .i64 y.at_,.int .i64 y.width,.int .i64 y.frm,.int .i64 y.high],.pointer (some ⟨b,0,none⟩)] w (Pure (.int .i64 (cmpI x.at_ y.at_)) w):=by
 refine zan (vs:=[_,_,_]) Tryz.func138 rfl rfl (Nat.le_of_ble_eq_true rfl) ?_
 refine zac ?_
 refine zaa ?_
 refine zaG rfl rfl (za3 (vs:=[_,_,_,_,_]) rfl rfl) fun b3=>?_
 refine zaG rfl rfl (za3 (vs:=[_,_,_,_,_]) rfl rfl) fun b4=>?_
 refine gQ (zad rfl) ?_
 refine zag (zae (T':=[(2,_),(3,_),(4,_),(5,_)]) ⟨rfl,rfl,rfl,rfl,trivial⟩ ?_)
 refine zac ?_
 refine zaa ?_
 refine gQ (zbW zuL rfl (fun _ hw=>zaQ (Rd.has (Has.rd hb) hw) rfl)) ?_
 refine gQ (zat 1 tf98 rfl rfl (vs:=[_,_,_,_,_]) rfl rfl) ?_
 refine gQ (zde (fs:=[]) (cap:=[]) ztH rfl rfl (fun w hw=>zqR x w)) ?_
 refine gQ (zaf rfl) ?_
 refine gQ (zaB rfl rfl) ?_
 refine gQ (zaB rfl rfl) ?_
 refine gQ (zad rfl) ?_
 refine gQ (zad rfl) ?_
 refine zag (zae (T':=[(2,_),(4,_),(5,_),(6,_)]) ⟨rfl,rfl,rfl,rfl,trivial⟩ ?_)
 refine zac ?_
 refine zaa ?_
 refine gQ (zbW zuL rfl (fun _ hw=>zaQ (Rd.has (Has.rd hb) hw) rfl)) ?_
 refine gQ (zat 0 tf98 rfl rfl (vs:=[_,_,_,_,_]) rfl rfl) ?_
 refine gQ (zde (fs:=[]) (cap:=[]) ztH rfl rfl (fun w hw=>zqR y w)) ?_
 refine gQ (zaf rfl) ?_
 refine gQ (zaB rfl rfl) ?_
 refine gQ (zaB rfl rfl) ?_
 refine gQ (zad rfl) ?_
 refine gQ (zad rfl) ?_
 refine zag (zae (T':=[(5,_),(6,_),(8,_)]) ⟨rfl,rfl,rfl,trivial⟩ ?_)
 refine zac ?_
 refine zaa ?_
 refine gQ (zaf rfl) ?_
 refine gQ (zaf rfl) ?_
 refine gQ (zaJ zxh rfl (fun w hw=>zo7 _ _ w)) ?_
 refine gQ (zad rfl) ?_
 refine zag (zae (T':=[(5,_)]) ⟨rfl,trivial⟩ ?_)
 refine zaw ?_
 refine zay (zaC rfl (zau rfl)) ?_
 rfl
set_option maxRecDepth 100000 in
set_option maxHeartbeats 1000000 in
theorem zqV (l:List Opn) (a:Option Addr) (cap:Nat) (b:Nat) (hs:zaP l.length) :
  SeqC Tryz.prog 156 [.pointer (some ⟨b,0,none⟩)] (l.map zke) (fun w=>Has w (Box b [.slice a l.length cap] 92)∧Has w (zaW a 5 zba l)):=by
 intro X J Rl D y w B x0 hB hA h0 hM hy
 refine zby hB hA (vs:=[_,_]) Tryz.func156 rfl rfl (Nat.le_of_ble_eq_true rfl) ?_
 have hmem:∀ {cz:Cx} {Hz:List Res} {xz:X} {pz:Nat} {w':World},Inside (fun k=>k < w.heap.size∧¬ B k) w cz→Hz[pz]?=some (J xz)→Hp cz.U cz.w0 Hz w'→(Has w' (Box b [.slice a l.length cap] 92)∧Has w' (zaW a 5 zba l)):=fun hin hp hw=>by
  obtain⟨B',q1,q2,q3,q4⟩:=zqm hin hp hw
  exact hM _ _ B' q4 q1 q2 q3
 have ins0:=zpY Tryz.prog Tryz.f156.ntmps w B
 refine zac ?_
 refine zaa ?_
 refine gQ (zbW tf92 rfl (fun _ hw=>zaQ (hmem ins0 (pz:=0) rfl hw).1 rfl)) ?_
 refine gQ (zaV (Tryz.underlying92) rfl) ?_
 refine gQ (zaf rfl) ?_
 refine zag (zae (T':=[(0,_),(5,_),(6,_),(7,_)]) ⟨rfl,rfl,rfl,rfl,trivial⟩ ?_)
 refine zas ?_
 refine zbf (X:=Int×X) (fun⟨i,x2⟩=>[(0,.func (.yield y) #[] #[]),(5,.slice a l.length cap),(6,.int .i64 (l.length:Int)),(7,.int .i64 i)]) (fun⟨i,x2⟩=>[J x2]) (fun⟨i,x2⟩=>(0≤i∧i≤l.length∧Rl i.toNat x2)) (fun⟨i,x2⟩=>(l.length - i).toNat) (0,x0) ⟨rfl,rfl,rfl,rfl,trivial⟩ rfl ?_ ?_
 ·exact⟨by omega,by omega,h0⟩
 ·rintro ⟨i,x2⟩ hI
  obtain⟨g0,g1,g2⟩:=hI
  refine zac ?_
  refine zaa ?_
  refine gQ (zbw rfl rfl) ?_
  refine zag (zae (T':=[(0,_),(5,_),(6,_),(7,_),(8,_)]) ⟨rfl,rfl,rfl,rfl,rfl,trivial⟩ ?_)
  refine zac ?_
  refine zap rfl (fun hc8=>?_) (fun hc8=>?_)
  ·simp only [decide_eq_true_eq] at hc8
   refine zaq ?_
   refine zac ?_
   refine zas ?_
   refine zac ?_
   refine zaa ?_
   refine gQ (zaE se92 rfl rfl (fun _ hw=>(hmem ins0 (pz:=0) rfl hw).2) (by omega) (by omega)) ?_
   refine gQ (zbv (vs:=[_,_,_,_,_]) tf98 rfl (fun _ hw=>(hmem ins0 (pz:=0) rfl hw).2) (by omega) (by omega) rfl) ?_
   refine zaG rfl rfl (zaL tf98 (zs:=[_,_,_,_,_]) rfl) fun b4=>?_
   refine zaA 0 tf98 rfl rfl (vs:=[_,_,_,_,_]) rfl rfl rfl rfl rfl ?_
   refine zag (zae (T':=[(0,_),(4,_),(5,_),(6,_),(7,_)]) ⟨rfl,rfl,rfl,rfl,rfl,trivial⟩ ?_)
   refine zac ?_
   refine zaa ?_
   refine gQ (zaf rfl) ?_
   refine gQ (zat 0 tf98 rfl rfl (vs:=[_,_,_,_,_]) rfl rfl) ?_
   refine znl 1 ins0 rfl rfl rfl rfl (hy _ _ _ (zrV g0 (by omega)) g2) fun b13 x13 hp13=>?_
   refine gQ (zbR rfl) ?_
   refine zag (zae (T':=[(0,_),(5,_),(6,_),(7,_),(14,_)]) ⟨rfl,rfl,rfl,rfl,rfl,trivial⟩ ?_)
   refine zap rfl (fun hc14=>?_) (fun hc14=>?_)
   ·
    refine zaw ?_
    refine zd9 x13 1 (zcN rfl) rfl rfl (.inr (by have:=hp13; rwa [show b13=false from by simpa using hc14,if_neg Bool.false_ne_true] at this))
   ·
    refine zaq ?_
    refine zaa ?_
    refine gQ (zaY rfl rfl (by omega) (by omega)) ?_
    refine gQ (zaf rfl) ?_
    refine zag (zae (T':=[(0,_),(5,_),(6,_),(7,_)]) ⟨rfl,rfl,rfl,rfl,trivial⟩ ?_)
    refine zaK 0 rfl ?_
    exact za1 (i+1,x13) ⟨rfl,rfl,rfl,rfl,trivial⟩ rfl ⟨by omega,by omega,by have:=hp13; rw [show b13=true from by simpa using hc14,if_pos rfl] at this; rwa [show(i+1).toNat=i.toNat+1 from by omega]⟩ (by simp only []; omega)
  ·simp only [decide_eq_false_iff_not] at hc8
   refine za8 rfl ?_
   refine zd9 x2 0 (zcN rfl) rfl rfl (.inl (by rw [List.length_map]; rwa [show i.toNat=l.length from by omega] at g2))
set_option maxRecDepth 100000 in
set_option maxHeartbeats 1000000 in
theorem zlQ (xs:List Opn) (gg:FuncId) (gcap:List Value) (w:World) (hs:zaP xs.length) (M:World→Prop) (hM:∀ w',Ext w w'→M w') (hen:En Tryz.prog gg) (hseq:SeqC Tryz.prog gg gcap (xs.map zke) M) :
  Calls Tryz.prog 172 #[.slice none 0 0,.func (.func gg) #[] gcap.toArray] w (zcU (fun z:Option Addr×Nat=>.slice z.1 xs.length z.2) (fun z=>Row z.1 5 z.2 98 zba xs) w):=by
 refine zan (vs:=[_,_]) Tryz.func172 rfl rfl (Nat.le_of_ble_eq_true rfl) ?_
 refine zac ?_
 refine zaa ?_
 refine zaG rfl rfl (za3 (vs:=[_]) rfl rfl) fun b2=>?_
 refine gQ (zad rfl) ?_
 refine zag (zae (T':=[(1,_),(2,_),(4,_)]) ⟨rfl,rfl,rfl,trivial⟩ ?_)
 refine zac ?_
 refine zac ?_
 refine zaa ?_
 refine gQ (zaf rfl) ?_
 refine zag (zae (T':=[(2,_),(4,_),(6,_)]) ⟨rfl,rfl,rfl,trivial⟩ ?_)
 refine zas ?_
 refine zbB 98 zba 5 ?_
 refine zae (T':=[(2,_),(4,_),(6,_)]) ⟨rfl,rfl,rfl,trivial⟩ ?_
 refine zk1 (X:=Option Addr×Nat×List Opn) (fun⟨b,bc,m⟩=>[Row b 5 bc 98 zba m,Box b2 [.slice b m.length bc] 92]) (fun n ⟨b,bc,m⟩=>m=xs.take n) (fun⟨b,bc,m⟩=>False) [] (none,0,[]) rfl hen rfl rfl rfl hseq (fun⟨b,bc,m⟩ w hw=>hM _ hw.base.ext0) (znD _) rfl ?_ ?_ ?_ ?_
 ·rintro R1 R2 rl U' w' n ⟨b,bc,m⟩ args hget hR hrd hins hbeg
  obtain⟨o,hp,rfl⟩:=znC hget
  have hlen:m.length≤xs.length:=by rw [hR,List.length_take]; omega
  refine zae (T':=[(2,_),(7,_)]) ⟨rfl,rfl,trivial⟩ ?_
  refine zaa ?_
  refine zaG rfl rfl (zaL tf98 (zs:=[_,_,_,_,_]) rfl) fun b5=>?_
  refine zaA 0 tf98 rfl rfl (vs:=[_,_,_,_,_]) rfl rfl rfl rfl rfl ?_
  refine zag (zae (T':=[(2,_),(5,_)]) ⟨rfl,rfl,trivial⟩ ?_)
  refine zao 1 rfl ?_
  refine hbeg _ _ _ ?_
  refine zas ?_
  refine zaa ?_
  refine gQ (zah 3 tf92 rfl rfl rfl) ?_
  refine gQ (zat 1 tf98 rfl rfl (vs:=[_,_,_,_,_]) rfl rfl) ?_
  refine zaG rfl rfl (zaD rfl (zo2 _ _ _ _ _) encOpn_ok rfl) fun b10=>?_
  refine zb4 (m:=[o]) 3 af92 encOpn_ok rfl rfl rfl rfl (fun _ hw=>(zam encOpn_ok (hw.has (p:=0) rfl))) (by first | omega | (simp only [List.length_cons,List.length_nil]; omega)) (by first | (unfold maxLen; omega) | (simp only [List.length_cons,List.length_nil,maxLen]; omega)) fun a11 c11=>?_
  refine zaA 4 tf92 rfl rfl (vs:=[_]) rfl rfl rfl rfl rfl ?_
  refine zag (zae (T':=[]) trivial ?_)
  refine zaK 0 rfl ?_
  refine zaK 1 rfl ?_
  exact zb9 (a11,c11,_) trivial rfl (by rw [zoz hp,←hR])
 ·rintro Dm ⟨b,bc,m⟩ hR
  obtain rfl:m=xs:=by rw [hR]; simp
  refine zac ?_
  refine zaa ?_
  refine gQ (zah 2 tf92 rfl rfl rfl) ?_
  refine gQ (zad rfl) ?_
  refine zag (zae (T':=[(4,_)]) ⟨rfl,trivial⟩ ?_)
  refine zaw ?_
  refine zil 0 rfl ?_
  refine zbd (b,bc) 0 (zaC rfl (zau rfl)) ?_ rfl
  rfl
 ·exact fun _ _ h=>h.elim
 ·exact fun _ _ _ _ h=>absurd h (by simp)
set_option maxRecDepth 100000 in
set_option maxHeartbeats 1000000 in
theorem zo6 (xs:List Opn) (gg:FuncId) (gcap:List Value) (w:World) (hs:zaP xs.length) (M:World→Prop) (hM:∀ w',Ext w w'→M w') (hen:En Tryz.prog gg) (hseq:SeqC Tryz.prog gg gcap (xs.map zke) M) :
  Calls Tryz.prog 154 #[.func (.func gg) #[] gcap.toArray] w (zcU (fun z:Option Addr×Nat=>.slice z.1 xs.length z.2) (fun z=>Row z.1 5 z.2 98 zba xs) w):=by
 refine zan (vs:=[_]) Tryz.func154 rfl rfl (Nat.le_of_ble_eq_true rfl) ?_
 refine zac ?_
 refine zaa ?_
 refine gQ (zad rfl) ?_
 refine zag (zae (T':=[(0,_),(2,_)]) ⟨rfl,rfl,trivial⟩ ?_)
 refine zac ?_
 refine zaa ?_
 refine gQ (zaf rfl) ?_
 refine zaG rfl rfl (zbm zxm rfl (fun w hw=>zlQ xs _ _ w (by assumption) M (fun w' hx=>hM w' (hw.base.ext0.trans hx)) hen hseq)) fun p4=>?_
 refine gQ (zad rfl) ?_
 refine zag (zae (T':=[(2,_)]) ⟨rfl,trivial⟩ ?_)
 refine zaw ?_
 refine zbd p4 0 (zaC rfl (zau rfl)) ?_ rfl
 rfl
theorem zwg {w w':World} {B:Nat→Prop} {R:Res} (h:Rd (fun k=>k < w.heap.size∧¬ B k) w R) (hm:Mod B w w'):Has w' R:=by
 obtain⟨C,hC,hA⟩:=h
 exact⟨C,fun k hk=>Nat.lt_of_lt_of_le (hC k hk).1 hm.size,R.loc C w w' (fun k hk=>hm.same k (hC k hk).1 (hC k hk).2) hA⟩
def Ord (xs m:List Opn):Prop:=m.Perm xs∧m.Pairwise fun x y=>x.at_≤y.at_
theorem zsk (a:Option Addr) (cap:Nat) (l:List Opn) (w:World) (B:Nat→Prop) (hB:∀ i,B i→i < w.heap.size) (hA:(Row a 5 cap 98 zba l).A B w) (hs:l.length < 4611686018427387904) (cg:FuncId) (ccap:List Value) (hcg:En Tryz.prog cg) (R:Res) (hS:Rd (fun k=>k < w.heap.size∧¬ B k) w R) (hcc:∀ x y w',Has w' R→Calls Tryz.prog cg (#[.agg (zba x).toArray,.agg (zba y).toArray]++ccap.toArray) w' (Pure (.int .i64 (cmpI x.at_ y.at_)) w')) :
  Calls Tryz.prog 155 #[.slice a l.length cap,.func (.func cg) #[] ccap.toArray] w (zho (fun _:List Opn=>.tuple #[]) (fun m=>Row a 5 cap 98 zba m) (Ord l) B w):=by
 have aE:∀ w,(isAgg (Tryz.sortOp_ren.t 24)).run Tryz.prog w=.ok true w:=fun w=>TF.agg tf98
 have zE:∀ w,(Go.sizeOf (Tryz.sortOp_ren.t 24)).run Tryz.prog w=.ok 5 w:=fun w=>TF.size tf98
 have hlt:∀ x y:Opn,Go.Proofs.ltOf (fun x y:Opn=>cmpI x.at_ y.at_) x y=decide (x.at_ < y.at_):=fun x y=>by
  unfold Go.Proofs.ltOf
  rw [decide_eq_decide]
  show cmpI x.at_ y.at_ < 0↔_
  unfold cmpI
  split
  ·omega
  ·split <;> omega
 refine(zoy Tryz.sortOp aE zE encOpn_ok (by decide) (fun x v hv=>zg0 (List.all_eq_true.1 (encOpn_ok.one x) v hv)) (fun x y:Opn=>cmpI x.at_ y.at_)
  ⟨fun x=>by rw [hlt,decide_eq_false_iff_not]; omega,fun x y z=>by simp only [hlt,decide_eq_true_eq]; omega,fun x y z=>by simp only [hlt,decide_eq_false_iff_not]; omega⟩ cg ccap hcg (fun x y w' hm=>hcc x y w' (zwg hS hm)) hB hA hs).mono ?_
 rintro e w' ⟨m,B',h1,⟨h2,h3⟩,h4,h5,h6⟩
 exact⟨m,B',h1,⟨h2,h3.imp fun {x y} h=>by rw [hlt,decide_eq_false_iff_not] at h; omega⟩,h4,h5,h6⟩
set_option maxRecDepth 100000 in
set_option maxHeartbeats 1000000 in
theorem zqQ (xs:List Opn) (gg:FuncId) (gcap:List Value) (cg:FuncId) (ccap:List Value) (hcg:En Tryz.prog cg) (R:Res) (w:World) (hs:zaP xs.length) (M:World→Prop) (hM:∀ w',Ext w w'→M w') (hen:En Tryz.prog gg) (hseq:SeqC Tryz.prog gg gcap (xs.map zke) M) (hS:Has w R) (hcc:∀ x y w',Has w' R→Calls Tryz.prog cg (#[.agg (zba x).toArray,.agg (zba y).toArray]++ccap.toArray) w' (Pure (.int .i64 (cmpI x.at_ y.at_)) w')) :
  Calls Tryz.prog 136 #[.func (.func gg) #[] gcap.toArray,.func (.func cg) #[] ccap.toArray] w (zcU (fun z:{z:Option Addr×Nat×List Opn // Ord xs z.2.2}=>.slice z.1.1 z.1.2.2.length z.1.2.1) (fun z=>Row z.1.1 5 z.1.2.1 98 zba z.1.2.2) w):=by
 refine zan (vs:=[_,_]) Tryz.func136 rfl rfl (Nat.le_of_ble_eq_true rfl) ?_
 refine zac ?_
 refine zaa ?_
 refine gQ (zad rfl) ?_
 refine zag (zae (T':=[(0,_),(1,_),(4,_)]) ⟨rfl,rfl,rfl,trivial⟩ ?_)
 refine zac ?_
 refine zaa ?_
 refine gQ (zaf rfl) ?_
 refine zaG rfl rfl (zbm zxj rfl (fun w hw=>zo6 xs _ _ w (by assumption) M (fun w' hx=>hM w' (hw.base.ext0.trans hx)) hen hseq)) fun p7=>?_
 refine gQ (zad rfl) ?_
 refine zag (zae (T':=[(1,_),(4,_),(5,_)]) ⟨rfl,rfl,rfl,trivial⟩ ?_)
 refine zac ?_
 refine zaa ?_
 refine gQ (zaf rfl) ?_
 refine gQ (zaf rfl) ?_
 refine zjY 0 zxk rfl rfl rfl (fun w B hF=>zsk _ _ xs w B (fun k hk=>(hF.own k hk).2) hF.A (by unfold zaP at hs; omega) cg ccap hcg R (hF.rd (Has.rd hS)) hcc) fun m10 hq10=>?_
 refine zag (zae (T':=[(4,_),(5,_)]) ⟨rfl,rfl,trivial⟩ ?_)
 refine zac ?_
 refine zaa ?_
 refine gQ (zaf rfl) ?_
 refine gQ (zad rfl) ?_
 refine zag (zae (T':=[(4,_)]) ⟨rfl,trivial⟩ ?_)
 refine zaw ?_
 refine zbd ⟨(p7.1,p7.2,m10),hq10⟩ 0 (zaC rfl (zau rfl)) ?_ rfl
 show Value.slice p7.1 xs.length p7.2=Value.slice p7.1 m10.length p7.2
 rw [hq10.1.length_eq]
end Go.Proofs.YtdcfcfhmkfkgmaaGreatDoor
namespace Go.Proofs.YtdcfcfhmkfkgmaaGreatDoor
open Go.K Go.Stn Go.Pln Go.RowKit
theorem tf59:TF Tryz.prog 59 false 1 (.slice none 0 0):=⟨by kernel_rfl,by kernel_rfl⟩
theorem af59:AF Tryz.prog 59 69 2 16 [.int IntKind.i64 0,.int IntKind.i64 0]:=⟨Tryz.underlying59,by kernel_rfl,rfl⟩
theorem zxe:En Tryz.prog 136:=za7 Tryz.func136 (by kernel_rfl) (by kernel_rfl)
theorem zxf:En Tryz.prog 137:=za7 Tryz.func137 (by kernel_rfl) (by kernel_rfl)
theorem zxg:En Tryz.prog 138:=za7 Tryz.func138 (by kernel_rfl) (by kernel_rfl)
theorem zvT:En Tryz.prog 140:=za7 Tryz.func140 (by kernel_rfl) (by kernel_rfl)
theorem zxl:En Tryz.prog 156:=za7 Tryz.func156 (by kernel_rfl) (by kernel_rfl)
theorem zi7 (x0:Int) (x1:Int) (w:World):(Instr.build 69 #[(0,.int .i64 x0),(1,.int .i64 x1)]).run Tryz.prog w=.ok (.agg #[.int .i64 x0,.int .i64 x1]) w:=by kernel_rfl
theorem zvc (x0_0:Int) (x0_1:Int) (w:World):(Instr.buildSlice 59 1 #[(0,.agg #[.int .i64 x0_0,.int .i64 x0_1])]).run Tryz.prog w=.ok (.slice (some ⟨w.heap.size,0,none⟩) 1 1) (w.alloc (.cells (([⟨x0_0,x0_1⟩]:List (Crs)).flatMap zbq).toArray 69)):=by kernel_rfl
set_option maxRecDepth 100000 in
set_option maxHeartbeats 1000000 in
theorem znE (p q:Nat) (a:Int) (m:List Crs) (t:Int) (w:World) (B:Nat→Prop) (hB:∀ k,B k→k < w.heap.size) (hA:(SwR 3 59 69 p q a m).A B w) (hm:m.length≤100000) :
  Calls Tryz.prog 140 #[.int .i64 t,.pointer (some ⟨p,0,none⟩),.pointer (some ⟨q,0,none⟩)] w (zho (fun _:Unit=>.tuple #[]) (fun _=>SwR 3 59 69 p q a (swM a t m)) (fun _=>True) B w):=by
 refine zby hB hA (vs:=[_,_,_]) Tryz.func140 rfl rfl (Nat.le_of_ble_eq_true rfl) ?_
 refine zii fun ra1 rc1=>?_
 refine zac ?_
 refine zaa ?_
 refine gQ (zaf rfl) ?_
 refine gQ (zah 0 tf3 rfl rfl rfl) ?_
 refine gQ (zc6 rfl rfl) ?_
 refine zag (zae (T':=[(0,_),(1,_),(2,_),(6,_)]) ⟨rfl,rfl,rfl,rfl,trivial⟩ ?_)
 refine zap rfl (fun hc6=>?_) (fun hc6=>?_)
 ·
  refine zaa ?_
  refine gQ (zah 1 tf59 rfl rfl rfl) ?_
  refine gQ (zah 0 tf3 rfl rfl rfl) ?_
  refine gQ (zaf rfl) ?_
  refine gQ (zaI rfl (zi7 _ _)) ?_
  refine zaG rfl rfl (zaD rfl (zvc _ _) zax rfl) fun b11=>?_
  refine zb4 (m:=[(⟨a,t⟩:Crs)]) 3 af59 zax rfl rfl rfl rfl (fun _ hw=>(zam zax (hw.has (p:=0) rfl))) (by first | omega | (simp only [List.length_cons,List.length_nil]; omega)) (by first | (unfold maxLen; omega) | (simp only [List.length_cons,List.length_nil,maxLen]; omega)) fun a12 c12=>?_
  refine zaA 2 tf59 rfl rfl (vs:=[_]) rfl rfl rfl rfl rfl ?_
  refine zag (zae (T':=[]) trivial ?_)
  refine zao 3 rfl ?_
  refine zao 3 rfl ?_
  refine zao 3 rfl ?_
  refine zfF (a:=a) ?_
  exact zd9 () 0 (zcN rfl) rfl (by rw [←zwm hc6]; rfl) trivial
 ·
  refine zaq ?_
  refine zao 2 rfl ?_
  refine zao 2 rfl ?_
  refine zao 2 rfl ?_
  refine zfF (a:=a) ?_
  exact zd9 () 0 (zcN rfl) rfl (by rw [←zxB hc6]; rfl) trivial
set_option maxRecDepth 100000 in
set_option maxHeartbeats 1000000 in
theorem zsr (a:Option Addr) (cap:Nat) (l:List Opn) (w:World)  :
  Calls Tryz.prog 137 #[.slice a l.length cap] w (zcU (fun b:Nat=>.func (.func 156) #[] #[.pointer (some ⟨b,0,none⟩)]) (fun b=>Box b [.slice a l.length cap] 92) w):=by
 refine zan (vs:=[_]) Tryz.func137 rfl rfl (Nat.le_of_ble_eq_true rfl) ?_
 refine zac ?_
 refine zaa ?_
 refine zaG rfl rfl (za3 (vs:=[_]) rfl rfl) fun b1=>?_
 refine gQ (zad rfl) ?_
 refine zag (zae (T':=[(1,_),(2,_)]) ⟨rfl,rfl,trivial⟩ ?_)
 refine zac ?_
 refine zaa ?_
 refine gQ (zbO («as»:=[]) (bs:=[_]) rfl rfl) ?_
 refine gQ (zad rfl) ?_
 refine zag (zae (T':=[(2,_)]) ⟨rfl,trivial⟩ ?_)
 refine zaw ?_
 refine zbd b1 0 (zaC rfl (zau rfl)) ?_ rfl
 rfl
set_option maxRecDepth 100000 in
set_option maxHeartbeats 4000000 in
theorem zut (L:Int) (a:Option Addr) (cap:Nat) (l:List Opn) (w:World) (hl:Has w (zaW a 5 zba l)) (hs:zaP l.length) (hL0:0≤L) (hL:L≤100000) (hw:InW l L) :
  Calls Tryz.prog 119 #[.int .i64 L,.slice a l.length cap,.func (.func 120) #[] #[]] w (zcU (fun z:Option Addr×Nat=>.slice z.1 (bayL (zcH l) L).length z.2) (fun z=>Row z.1 2 z.2 69 zbq (bayL (zcH l) L)) w):=by
 have hwin:=hw
 refine zan (vs:=[_,_,_]) Tryz.func119 rfl rfl (Nat.le_of_ble_eq_true rfl) ?_
 refine zac ?_
 refine zaa ?_
 refine zaG rfl rfl (za3 (vs:=[_]) rfl rfl) fun b5=>?_
 refine gQ (zad rfl) ?_
 refine zag (zae (T':=[(0,_),(1,_),(5,_),(6,_)]) ⟨rfl,rfl,rfl,rfl,trivial⟩ ?_)
 refine zac ?_
 refine zaa ?_
 refine gQ (zaf rfl) ?_
 refine zaG rfl rfl (zbm zxf rfl (fun w hw=>zsr _ _ l w)) fun p15=>?_
 refine gQ (zbO («as»:=[]) (bs:=[_]) rfl rfl) ?_
 refine zaG rfl rfl (zbm zxe rfl (fun w hw=>zqQ l 156 _ 138 _ zxg (Box b5 [.func (.func 120) #[] #[]] 191) w (by assumption) (fun w'=>Has w' (Box p15 [.slice a l.length cap] 92)∧Has w' (zaW a 5 zba l)) (fun w' hx=>⟨Has.ext (hw.has (p:=0) rfl) hx,Has.ext (Rd.has (Has.rd hl) hw) hx⟩) zxl (zqV l a cap p15 (by assumption)) (hw.has (p:=1) rfl) (fun x y w' hb=>zr3 x y b5 w' hb))) fun p17=>?_
 refine gQ (zad rfl) ?_
 refine zag (zae (T':=[(0,_),(1,_),(5,_),(6,_)]) ⟨rfl,rfl,rfl,rfl,trivial⟩ ?_)
 have hwz:InW p17.1.2.2 L:=fun o ho=>hwin o (p17.2.1.mem_iff.1 ho)
 have hsz:=p17.2.2
 have hlz:p17.1.2.2.length=l.length:=p17.2.1.length_eq
 refine zac ?_
 refine zaa ?_
 refine zaG rfl rfl (zaL tf59 (zs:=[_]) rfl) fun b7=>?_
 refine zag (zae (T':=[(0,_),(1,_),(5,_),(6,_),(7,_)]) ⟨rfl,rfl,rfl,rfl,rfl,trivial⟩ ?_)
 refine zac ?_
 refine zaa ?_
 refine zaG rfl rfl (zaL tf3 (zs:=[_]) rfl) fun b8=>?_
 refine zaA 0 tf3 rfl rfl (vs:=[_]) rfl rfl rfl rfl rfl ?_
 refine zag (zae (T':=[(0,_),(1,_),(5,_),(6,_),(7,_),(8,_)]) ⟨rfl,rfl,rfl,rfl,rfl,rfl,trivial⟩ ?_)
 refine zac ?_
 refine zaa ?_
 refine gQ (zbO («as»:=[]) (bs:=[_,_]) rfl rfl) ?_
 refine gQ (zad rfl) ?_
 refine zag (zae (T':=[(0,_),(1,_),(5,_),(6,_),(7,_),(8,_),(9,_)]) ⟨rfl,rfl,rfl,rfl,rfl,rfl,rfl,trivial⟩ ?_)
 refine zac ?_
 refine zac ?_
 refine zaa ?_
 refine gQ (zaf rfl) ?_
 refine gQ (zaV (Tryz.underlying92) rfl) ?_
 refine gQ (zaf rfl) ?_
 refine zag (zae (T':=[(0,_),(5,_),(6,_),(7,_),(8,_),(9,_),(19,_),(20,_),(21,_)]) ⟨rfl,rfl,rfl,rfl,rfl,rfl,rfl,rfl,rfl,trivial⟩ ?_)
 refine zbB 69 zbq 2 ?_
 refine zao 2 rfl ?_
 refine zao 2 rfl ?_
 refine zfF (a:=0) (m:=[]) ?_
 refine zas ?_
 refine zbf (X:=Int×Int×List Crs) (fun⟨i,a2,m⟩=>[(0,.int .i64 L),(5,.pointer (some ⟨b5,0,none⟩)),(6,.slice none 0 0),(7,.pointer (some ⟨b7,0,none⟩)),(8,.pointer (some ⟨b8,0,none⟩)),(9,.func (.func 140) #[] #[.pointer (some ⟨b8,0,none⟩),.pointer (some ⟨b7,0,none⟩)]),(19,.slice p17.1.1 p17.1.2.2.length p17.1.2.1),(20,.int .i64 (p17.1.2.2.length:Int)),(21,.int .i64 i)]) (fun⟨i,a2,m⟩=>[SwR 3 59 69 b8 b7 a2 m,Row p17.1.1 5 p17.1.2.1 98 zba p17.1.2.2,Box p15 [.slice a l.length cap] 92,Box b5 [.func (.func 120) #[] #[]] 191]) (fun⟨i,a2,m⟩=>(0≤i∧i≤p17.1.2.2.length∧SwI p17.1.2.2 L i.toNat a2 m)) (fun⟨i,a2,m⟩=>(p17.1.2.2.length - i).toNat) (0,0,[]) ⟨rfl,rfl,rfl,rfl,rfl,rfl,rfl,rfl,rfl,trivial⟩ rfl ?_ ?_
 ·exact⟨by omega,by omega,zsl _ hL0⟩
 ·rintro ⟨i,a2,m⟩ hI
  obtain⟨g0,g1,g2⟩:=hI
  have hml:=g2.many
  refine zac ?_
  refine zaa ?_
  refine gQ (zbw rfl rfl) ?_
  refine zag (zae (T':=[(0,_),(5,_),(6,_),(7,_),(8,_),(9,_),(19,_),(20,_),(21,_),(22,_)]) ⟨rfl,rfl,rfl,rfl,rfl,rfl,rfl,rfl,rfl,rfl,trivial⟩ ?_)
  refine zac ?_
  refine zap rfl (fun hc22=>?_) (fun hc22=>?_)
  ·have hc22:=of_decide_eq_true hc22
   obtain⟨q1,q2,q3⟩:=hwz (p17.1.2.2.getD i.toNat default) (za0 (by omega))
   refine zaq ?_
   refine zac ?_
   refine zas ?_
   refine zac ?_
   refine zaa ?_
   refine gQ (zaE se92 rfl rfl (fun _ hw=>(zam encOpn_ok (hw.has (p:=1) rfl))) (by omega) (by omega)) ?_
   refine gQ (zbv (vs:=[_,_,_,_,_]) tf98 rfl (fun _ hw=>(zam encOpn_ok (hw.has (p:=1) rfl))) (by omega) (by omega) rfl) ?_
   refine zaG rfl rfl (zaL tf98 (zs:=[_,_,_,_,_]) rfl) fun b11=>?_
   refine zaA 0 tf98 rfl rfl (vs:=[_,_,_,_,_]) rfl rfl rfl rfl rfl ?_
   refine zag (zae (T':=[(0,_),(5,_),(6,_),(7,_),(8,_),(9,_),(11,_),(19,_),(20,_),(21,_)]) ⟨rfl,rfl,rfl,rfl,rfl,rfl,rfl,rfl,rfl,rfl,trivial⟩ ?_)
   refine zac ?_
   refine zaa ?_
   refine gQ (zah 4 zuL rfl rfl rfl) ?_
   refine gQ (zat 0 tf98 rfl rfl (vs:=[_,_,_,_,_]) rfl rfl) ?_
   refine gQ (zde (fs:=[]) (cap:=[]) ztH rfl rfl (fun w hw=>zqR (p17.1.2.2.getD (i).toNat default) w)) ?_
   refine gQ (zaf rfl) ?_
   refine gQ (zaB rfl rfl) ?_
   refine gQ (zaB rfl rfl) ?_
   refine gQ (zad rfl) ?_
   refine gQ (zad rfl) ?_
   refine zag (zae (T':=[(0,_),(5,_),(6,_),(7,_),(8,_),(9,_),(12,_),(13,_),(19,_),(20,_),(21,_)]) ⟨rfl,rfl,rfl,rfl,rfl,rfl,rfl,rfl,rfl,rfl,rfl,trivial⟩ ?_)
   refine zae (T':=[(0,_),(5,_),(6,_),(7,_),(8,_),(9,_),(12,_),(13,.int .i64 ((p17.1.2.2.getD i.toNat default).at_+(p17.1.2.2.getD i.toNat default).width)),(19,_),(20,_),(21,_)]) ⟨rfl,rfl,rfl,rfl,rfl,rfl,rfl,(by show some (Value.int .i64 (W ((p17.1.2.2.getD i.toNat default).at_+(p17.1.2.2.getD i.toNat default).width)))=_; rw [zbr (by omega) (by omega)]),rfl,rfl,rfl,trivial⟩ ?_
   refine zac ?_
   refine zaa ?_
   refine gQ (zaf rfl) ?_
   refine gQ (zaf rfl) ?_
   refine zkZ (fs:=[]) (cap:=[_,_]) 1 zvT rfl rfl rfl rfl (fun w B hF=>znE _ _ _ _ _ w B (fun k hk=>(hF.own k hk).2) hF.A (by omega)) fun u33 hq33=>?_
   refine zag (zae (T':=[(0,_),(5,_),(6,_),(7,_),(8,_),(9,_),(13,_),(19,_),(20,_),(21,_)]) ⟨rfl,rfl,rfl,rfl,rfl,rfl,rfl,rfl,rfl,rfl,trivial⟩ ?_)
   refine zao 1 rfl ?_
   refine zii fun ra2 rc2=>?_
   refine zaa ?_
   refine gQ (zah 0 tf3 rfl rfl rfl) ?_
   refine gQ (zaf rfl) ?_
   refine gQ (zws rfl rfl) ?_
   refine zaA 0 tf3 rfl rfl (vs:=[_]) rfl rfl rfl rfl rfl ?_
   refine zag (zae (T':=[(0,_),(5,_),(6,_),(7,_),(8,_),(9,_),(19,_),(20,_),(21,_)]) ⟨rfl,rfl,rfl,rfl,rfl,rfl,rfl,rfl,rfl,trivial⟩ ?_)
   refine zao 2 rfl ?_
   refine zao 2 rfl ?_
   refine zao 2 rfl ?_
   refine zfF (a:=(max a2 ((p17.1.2.2.getD i.toNat default).at_+(p17.1.2.2.getD i.toNat default).width))) (m:=(swM a2 (p17.1.2.2.getD i.toNat default).at_ m)) ?_
   refine zaa ?_
   refine gQ (zaY rfl rfl (by omega) (by omega)) ?_
   refine gQ (zaf rfl) ?_
   refine zag (zae (T':=[(0,_),(5,_),(6,_),(7,_),(8,_),(9,_),(19,_),(20,_),(21,_)]) ⟨rfl,rfl,rfl,rfl,rfl,rfl,rfl,rfl,rfl,trivial⟩ ?_)
   refine zaK 1 rfl ?_
   exact za1 (i+1,max a2 ((p17.1.2.2.getD i.toNat default).at_+(p17.1.2.2.getD i.toNat default).width),swM a2 (p17.1.2.2.getD i.toNat default).at_ m) ⟨rfl,rfl,rfl,rfl,rfl,rfl,rfl,rfl,rfl,trivial⟩ rfl ⟨by omega,by omega,by rw [show(i+1).toNat=i.toNat+1 from by omega]; exact zuK hwz hsz g2 (by omega)⟩ (by simp only []; omega)
  ·have hc22:=of_decide_eq_false hc22
   have hend:swM a2 L m=bayL (zcH l) L:=by rw [zwl g2 (by omega),zof p17.2.1]
   refine za8 rfl ?_
   refine zac ?_
   refine zaa ?_
   refine gQ (zaf rfl) ?_
   refine gQ (zaf rfl) ?_
   refine zkZ (fs:=[]) (cap:=[_,_]) 0 zvT rfl rfl rfl rfl (fun w B hF=>znE _ _ _ _ _ w B (fun k hk=>(hF.own k hk).2) hF.A (by omega)) fun u40 hq40=>?_
   refine zag (zae (T':=[(6,_),(7,_)]) ⟨rfl,rfl,trivial⟩ ?_)
   refine zii fun ra3 rc3=>?_
   refine zac ?_
   refine zaa ?_
   refine gQ (zah 1 tf59 rfl rfl rfl) ?_
   refine gQ (zad rfl) ?_
   refine zag (zae (T':=[(6,_)]) ⟨rfl,trivial⟩ ?_)
   refine zaw ?_
   refine zbd (ra3,rc3) 2 (zaC rfl (zau rfl)) ?_ (by rw [←hend]; rfl)
   rw [←hend]
end Go.Proofs.YtdcfcfhmkfkgmaaGreatDoor
namespace Go.Pln
open Go Go.K Go.RowKit Go.Stn
structure WallF (v:Wll) (top:Int):Prop where
 len:1≤v.length∧v.length≤100000
 num:v.opens.length≤20
 fit:∀ o∈v.opens,zn8 v.length top o
theorem zoC {v:Wll} {top:Int} (h:zd1 top v=true):WallF v top:=by
 have h0:=zqW h
 obtain⟨h1,h2⟩:=zgM h0
 refine⟨h1,h2,fun o ho=>?_⟩
 rw [zgN,Bool.and_eq_true] at h
 obtain⟨i,hi,rfl⟩:=List.getElem_of_mem ho
 have:=zf7 (zdf.1 h.2 i hi)
 simpa [hi] using this
theorem WallF.inW {v:Wll} {top:Int} (h:WallF v top) (p:Opn→Bool):InW (v.opens.filter p) v.length:=fun o ho=>by
 have hf:=h.fit o (List.mem_filter.1 ho).1
 exact⟨hf.a.1,hf.w.1,hf.a.2⟩
theorem zuo {α:Type} (p:α→Bool) (l:List α):offL (fun x=>!p x) l=l.filter p:=by
 unfold offL
 congr 1
 funext x
 rw [Bool.not_not]
def znn (c:Crs) (o:Opn):Bool:=decide (o.frm < c.to)&&decide (c.frm < W (o.frm+o.high))
def zno (h:Int) (o:Opn):Bool:=decide (W (o.frm+o.high)=h)
theorem zhK {v:Wll} {p q:Opn→Bool} (h:∀ o∈v.opens,p o=q o):zcW p v=zcW q v:=by
 unfold zcW
 rw [List.filter_congr h]
theorem zmV {v:Wll} {top:Int} (h:WallF v top) (ht:top≤3000) (c:Crs):zcW (znn c) v=zbg v c:=zhK fun o ho=>by
 have hf:=(h.fit o ho)
 have h1:=hf.h; have h2:=hf.f
 unfold znn zgu
 rw [zbr (by omega) (by omega)]
theorem zjG {v:Wll} {s:Sht} (h:WallF v s.height) (ht:s.height≤3000):zcW (zno s.height) v=zbK v s:=zhK fun o ho=>by
 have hf:=(h.fit o ho)
 have h1:=hf.h; have h2:=hf.f
 unfold zno zj4
 rw [zbr (by omega) (by omega)]
theorem zdK {v:Wll} {top:Int} (h:WallF v top) (p:Opn→Bool):Runs (zcH (v.opens.filter p)) v.length 0 (zcW p v):=zkE _ (by have:=h.len; omega)
theorem zek {v:Wll} {top:Int} (h:WallF v top) (p:Opn→Bool):((zcW p v).length:Int)≤100000:=by
 have h1:=h.len
 have:=zkl (by omega) (zdK h p)
 omega
theorem zmS {v:Wll} {top:Int} (h:WallF v top) {p:Opn→Bool} {i:Int} (h0:0≤i) (h1:i < ((zcW p v).length:Int)):0≤((zcW p v).getD i.toNat default).frm∧((zcW p v).getD i.toNat default).frm < ((zcW p v).getD i.toNat default).to∧((zcW p v).getD i.toNat default).to≤v.length:=by
 obtain⟨a,b,c,_⟩:=zeK (zdK h p) _ (za0 (l:=zcW p v) (i:=i.toNat) (by omega))
 exact⟨a,b,c⟩
def zb6 (S:List ShC) (V:List WlC) (n:ByteArray):Int:=if zc4 S V=true then(if 0≤zaM V n then 0 else 6) else 2
def zhq (V:List WlC) (n:ByteArray):WlC:=if 0≤zaM V n then V.getD (zaM V n).toNat default else default
def zaN (S:List ShC) (V:List WlC) (n:ByteArray):WlC:=if zb6 S V n=0 then zhq V n else default
def zar (S:List ShC) (V:List WlC) (n:ByteArray):ShC:=if zb6 S V n=0 then zav S (zhq V n).s.sheet else default
theorem zm8 {S:List ShC} {V:List WlC} {n:ByteArray} (h:¬ zc4 S V=true):zb6 S V n=2:=if_neg h
theorem zkV {S:List ShC} {V:List WlC} {n:ByteArray} (h:zc4 S V=true) (h2:¬ 0≤zaM V n):zb6 S V n=6:=by unfold zb6; rw [if_pos h,if_neg h2]
theorem zpp {S:List ShC} {V:List WlC} {n:ByteArray} (h:zc4 S V=true) (h2:0≤zaM V n):zb6 S V n=0:=by unfold zb6; rw [if_pos h,if_pos h2]
theorem zjR {S:List ShC} {V:List WlC} {n:ByteArray} (h:zb6 S V n=0):zc4 S V=true∧0≤zaM V n:=by
 unfold zb6 at h
 by_cases h1:zc4 S V=true
 ·rw [if_pos h1] at h
  refine⟨h1,?_⟩
  by_cases h2:0≤zaM V n
  ·exact h2
  ·rw [if_neg h2] at h; exact absurd h (by decide)
 ·rw [if_neg h1] at h; exact absurd h (by decide)
theorem zid {V:List WlC} {n:ByteArray} (h:0≤zaM V n):zhq V n∈V:=by
 unfold zhq
 rw [if_pos h]
 exact za0 (by have:=zky h; omega)
theorem zhF {S:List ShC} {V:List WlC} {n:ByteArray} (h:zb6 S V n=0):zaN S V n=zhq V n:=if_pos h
theorem zhE {S:List ShC} {V:List WlC} {n:ByteArray} (h:zb6 S V n=0):zar S V n=zav S (zhq V n).s.sheet:=if_pos h
theorem zfu {S:List ShC} {V:List WlC} {n:ByteArray} (h:zb6 S V n=0):zaN S V n∈V∧zar S V n∈S∧za4 (zar S V n).s=true∧WallF (zaN S V n).s (zar S V n).s.height:=by
 obtain⟨h1,h2⟩:=zjR h
 rw [zhF h,zhE h]
 obtain⟨h3,h4⟩:=zf8 h1 _ (zid h2)
 exact⟨zid h2,zgp h3,zls h1 _ (zgp h3),zoC h4⟩
end Go.Pln
namespace Go.Pln
open Go Go.K Go.RowKit Go.Stn
def zhJ (S:List ShC) (V:List WlC) (n:ByteArray) (k:Int):Int:=if zb6 S V n=0 then(if k < 0∨((zaj (zar S V n).s).length:Int)≤k then 3 else 0) else zb6 S V n
def ziX (S:List ShC) (V:List WlC) (n:ByteArray) (k:Int):List Crs:=if zhJ S V n k=0 then zbg (zaN S V n).s ((zaj (zar S V n).s).getD k.toNat default) else []
theorem zra {S:List ShC} {V:List WlC} {n:ByteArray} {k:Int} (h:¬ zb6 S V n=0):zhJ S V n k=zb6 S V n∧ziX S V n k=[]:=by
 have h1:zhJ S V n k=zb6 S V n:=if_neg h
 exact⟨h1,by unfold ziX; rw [h1,if_neg h]⟩
theorem zoX {S:List ShC} {V:List WlC} {n:ByteArray} {k:Int} (h:zb6 S V n=0) (hk:k < 0∨((zaj (zar S V n).s).length:Int)≤k):zhJ S V n k=3∧ziX S V n k=[]:=by
 have h1:zhJ S V n k=3:=by unfold zhJ; rw [if_pos h,if_pos hk]
 exact⟨h1,by unfold ziX; rw [h1]; rfl⟩
theorem zmT {S:List ShC} {V:List WlC} {n:ByteArray} {k:Int} (h:zb6 S V n=0) (hk:¬ (k < 0∨((zaj (zar S V n).s).length:Int)≤k)):zhJ S V n k=0∧ziX S V n k=zbg (zaN S V n).s ((zaj (zar S V n).s).getD k.toNat default):=by
 have h1:zhJ S V n k=0:=by unfold zhJ; rw [if_pos h,if_neg hk]
 exact⟨h1,by unfold ziX; rw [h1]; rfl⟩
def ziJ (S:List ShC) (V:List WlC) (n:ByteArray):Int:=if zb6 S V n=0 then zi2 (zar S V n).s else 0
def zei (S:List ShC) (V:List WlC) (n:ByteArray):List Int:=if zb6 S V n=0 then thrL (zaN S V n).s (zar S V n).s else []
def zcF (S:List ShC) (V:List WlC) (n:ByteArray):List Cpe:=if zb6 S V n=0 then zbi (zaN S V n).s (zar S V n).s else []
def zcx (S:List ShC) (V:List WlC) (n:ByteArray):Qnt:=if zb6 S V n=0 then zdz (zaN S V n).s (zar S V n).s else⟨0,0,0,0,0,0,0⟩
end Go.Pln
namespace Go.Pln
open Go Go.K Go.RowKit Go.Stn
theorem zlB {s:Sht} (h:za4 s=true):badP s=false:=by
 unfold za4 at h
 rw [Bool.and_eq_true,Bool.not_eq_true'] at h
 exact h.1
theorem zjQ {s:Sht} (h:za4 s=true) (h1:¬ s.every=0):1≤s.every∧s.every≤100000:=by
 have hb:=zlB h
 unfold badP at hb
 simp only [Bool.or_eq_false_iff,Bool.not_eq_false'] at hb
 have h2:=hb.1.1.1.2
 rw [ziP] at h2
 unfold zgJ at h2
 simp only [Bool.or_eq_true,Bool.and_eq_true,decide_eq_true_eq,zbp] at h2
 omega
theorem zlX {s:Sht} (h:za4 s=true) (h1:¬ s.cope=0):(1≤s.thick∧s.thick≤1000)∧(1≤s.tall∧s.tall≤1000)∧(1≤zdD s∧zdD s≤1000):=by
 have hb:=zlB h
 unfold badP at hb
 simp only [Bool.or_eq_false_iff,Bool.not_eq_false'] at hb
 have h2:=hb.2
 unfold zgh at h2
 rw [if_neg h1] at h2
 unfold zdD
 split at h2
 ·rename_i h3
  simp only [zcC,zdI,Bool.and_true,Bool.and_eq_true,zbp] at h2
  rw [if_neg (by omega)]
  omega
 ·split at h2
  ·rename_i h3
   simp only [zcC,zdI,Bool.and_true,Bool.and_eq_true,zbp] at h2
   rw [if_pos h3]
   omega
  ·cases h2
end Go.Pln
namespace Go.K
open Go
def Two (R S:Res):Res where
 A B w:=∃ C D,(∀ k,C k→B k)∧(∀ k,D k→B k)∧R.A C w∧S.A D w
 loc B w w' h hA:=by
  obtain⟨C,D,hC,hD,a,b⟩:=hA
  exact⟨C,D,hC,hD,R.loc C w w' (fun k hk=>h k (hC k hk)) a,S.loc D w w' (fun k hk=>h k (hD k hk)) b⟩
theorem ztZ {w:World} {R S:Res} (h:Has w (Two R S)):Has w R:=by
 obtain⟨B,hB,C,D,hC,hD,a,b⟩:=h
 exact⟨C,fun k hk=>hB k (hC k hk),a⟩
theorem zt0 {w:World} {R S:Res} (h:Has w (Two R S)):Has w S:=by
 obtain⟨B,hB,C,D,hC,hD,a,b⟩:=h
 exact⟨D,fun k hk=>hB k (hD k hk),b⟩
end Go.K
namespace Go.Proofs.YtdcfcfhmkfkgmaaGreatDoor
open Go.K Go.Stn Go.Pln Go.RowKit
theorem zvf  (w:World):(Instr.buildSlice 92 0 #[]).run Tryz.prog w=.ok (.slice (some ⟨w.heap.size,0,none⟩) 0 0) (w.alloc (.cells (([]:List (Opn)).flatMap zba).toArray 98)):=by kernel_rfl
theorem zrM {α:Type} {k:Nat} {enc:α→List Value} {w:World} {a:Option Addr} {l:List α} (h:Has w (zaW a k enc l)) (hn:a.isNone=true):l=[]:=by
 obtain⟨B,_,hA⟩:=h
 rcases hA with h | ⟨b,off,ha,_⟩
 ·exact h
 ·rw [ha] at hn; cases hn
set_option maxRecDepth 100000 in
set_option maxHeartbeats 1000000 in
theorem zrd (a:Option Addr) (cap:Nat) (l:List Opn) (w:World) (hl:Has w (zaW a 5 zba l)) (hs:zaP l.length) :
  Calls Tryz.prog 68 #[.slice a l.length cap] w (zcU (fun z:Option Addr×Nat=>.slice z.1 l.length z.2) (fun z=>Row z.1 5 z.2 98 zba l) w):=by
 refine zan (vs:=[_]) Tryz.func68 rfl rfl (Nat.le_of_ble_eq_true rfl) ?_
 refine zac ?_
 refine zaa ?_
 refine gQ (zad rfl) ?_
 refine zag (zae (T':=[(0,_),(2,_)]) ⟨rfl,rfl,trivial⟩ ?_)
 refine zac ?_
 refine zac ?_
 refine zaa ?_
 refine gQ (zaf rfl) ?_
 refine gQ (zuU (Tryz.underlying92) rfl rfl) ?_
 refine zag (zae (T':=[(0,_),(2,_),(4,_)]) ⟨rfl,rfl,rfl,trivial⟩ ?_)
 refine zap rfl (fun hc4=>?_) (fun hc4=>?_)
 ·have hL:l=[]:=zrM hl hc4
  subst hL
  refine zbB 98 zba 5 ?_
  refine zac ?_
  refine zaa ?_
  refine gQ (zad rfl) ?_
  refine zag (zae (T':=[(0,_),(2,_)]) ⟨rfl,rfl,trivial⟩ ?_)
  refine zaw ?_
  refine zbd (none,0) 0 (zaC rfl (zau rfl)) ?_ rfl
  rfl
 ·
  refine zaq ?_
  refine zac ?_
  refine zaa ?_
  refine zaG rfl rfl (zaD rfl (zvf) encOpn_ok rfl) fun b5=>?_
  refine gQ (zaf rfl) ?_
  refine zb4 (m:=l) 0 af92 encOpn_ok rfl rfl rfl rfl (fun _ hw=>(Rd.has (Has.rd hl) hw)) (by unfold zaP at hs; simp only [List.length_nil]; omega) (by unfold zaP at hs; simp only [List.length_nil,maxLen]; omega) fun a7 c7=>?_
  refine gQ (zad rfl) ?_
  refine zag (zae (T':=[(2,_)]) ⟨rfl,trivial⟩ ?_)
  refine zaw ?_
  refine zbd (a7,c7) 0 (zaC rfl (zau rfl)) ?_ rfl
  rfl
set_option maxRecDepth 100000 in
set_option maxHeartbeats 2000000 in
theorem zkP (a:Option Addr) (cap:Nat) (l:List Opn) (f:Opn→Bool) (gg:FuncId) (gcap:List Value) (hen:En Tryz.prog gg) (R:Res) (w:World) (B:Nat→Prop) (hB:∀ k,B k→k < w.heap.size) (hA:(Row a 5 cap 98 zba l).A B w) (hs:zaP l.length) (hR:Rd (fun k=>k < w.heap.size∧¬ B k) w R) (hg:∀ (o:Opn) w',Has w' R→Calls Tryz.prog gg ([Value.agg (zba o).toArray]++gcap).toArray w' (Pure (.bool (f o)) w')) :
  Calls Tryz.prog 117 #[.slice a l.length cap,.func (.func gg) #[] gcap.toArray] w (zho (fun _:Unit=>.slice a (offL f l).length cap) (fun _=>Row a 5 cap 98 zba (offZ f l)) (fun _=>True) B w):=by
 have hsub:∀ n,subA a 5 0 n=a:=fun n=>zsa hA
 have hcap:l.length≤cap:=Row.bounds hA
 refine zby hB hA (vs:=[_,_]) Tryz.func117 rfl rfl (Nat.le_of_ble_eq_true rfl) ?_
 refine zac ?_
 refine zaa ?_
 refine gQ (zad rfl) ?_
 refine zag (zae (T':=[(0,_),(1,_),(4,_)]) ⟨rfl,rfl,rfl,trivial⟩ ?_)
 refine zac ?_
 refine zaa ?_
 refine gQ (zaf rfl) ?_
 refine gQ (zaf rfl) ?_
 refine gQ (zaJ zvR rfl (fun w hw=>zhj _ _ l f _ [] _ w (zam encOpn_ok (hw.has (p:=0) rfl)) (by assumption) (fun w'=>Has w' R) (fun w' hx=>Has.ext (Rd.has hR hw) hx) hen (fun z w' hm=>hg z w' hm))) ?_
 refine gQ (zad rfl) ?_
 refine zag (zae (T':=[(0,_),(1,_),(4,_),(5,_)]) ⟨rfl,rfl,rfl,rfl,trivial⟩ ?_)
 refine zac ?_
 refine zac ?_
 refine zaa ?_
 refine gQ (zaf rfl) ?_
 refine gQ (zbL rfl rfl) ?_
 refine zag (zae (T':=[(0,_),(1,_),(4,_),(5,_),(12,_)]) ⟨rfl,rfl,rfl,rfl,rfl,trivial⟩ ?_)
 refine zap rfl (fun hc12=>?_) (fun hc12=>?_)
 ·have hc12:=of_decide_eq_true hc12
  have hL:=zrQ hc12
  refine zac ?_
  refine zaa ?_
  refine gQ (zaf rfl) ?_
  refine gQ (zad rfl) ?_
  refine zag (zae (T':=[(0,_),(1,_),(4,_),(5,_)]) ⟨rfl,rfl,rfl,rfl,trivial⟩ ?_)
  refine zae (T':=[(0,_),(1,_),(4,.slice a (offL f l).length cap),(5,_)]) ⟨rfl,rfl,(by rw [hL]; rfl),rfl,trivial⟩ ?_
  refine za2 (R':=Row a 5 cap 98 zba (offZ f l)) 0 rfl (fun B w hA=>by unfold offZ; rw [hL,Nat.sub_self,List.replicate_zero,List.append_nil]; exact hA) ?_
  refine zaw ?_
  refine zd9 () 0 (zaC rfl (zau rfl)) rfl rfl trivial
 ·have hc12:=of_decide_eq_false hc12
  have hD:=zqh hc12
  have hi0:=hD.i0
  have hij:=hD.ij
  have hjl:=hD.jl
  refine zaq ?_
  refine zac ?_
  refine zac ?_
  refine zaa ?_
  refine gQ (zaf rfl) ?_
  refine gQ (zaY rfl rfl (by omega) (by omega)) ?_
  refine gQ (zad rfl) ?_
  refine zag (zae (T':=[(0,_),(1,_),(4,_),(5,_),(6,_)]) ⟨rfl,rfl,rfl,rfl,rfl,trivial⟩ ?_)
  refine zas ?_
  refine zbf (X:=Int×Int×List Opn) (fun⟨i,j,m⟩=>[(0,.slice a l.length cap),(1,.func (.func gg) #[] gcap.toArray),(4,.slice none 0 0),(5,.int .i64 i),(6,.int .i64 j)]) (fun⟨i,j,m⟩=>[Row a 5 cap 98 zba m]) (fun⟨i,j,m⟩=>OffI f l m i j) (fun⟨i,j,m⟩=>(l.length - j).toNat) (zbJ f l,zbJ f l+1,l) ⟨rfl,rfl,rfl,rfl,rfl,trivial⟩ rfl ?_ ?_
  ·exact hD
  ·rintro ⟨i,j,m⟩ hI
   have hD:OffI f l m i j:=hI
   have hi0:=hD.i0
   have hij:=hD.ij
   have hjl:=hD.jl
   have hml:=hD.len
   refine zac ?_
   refine zac ?_
   refine zaa ?_
   refine gQ (zaf rfl) ?_
   refine gQ (zaf rfl) ?_
   refine gQ (zaV (Tryz.underlying92) rfl) ?_
   refine gQ (zbw rfl rfl) ?_
   refine zag (zae (T':=[(0,_),(1,_),(4,_),(5,_),(6,_),(19,_)]) ⟨rfl,rfl,rfl,rfl,rfl,rfl,trivial⟩ ?_)
   refine zap rfl (fun hc19=>?_) (fun hc19=>?_)
   ·have hc19:=of_decide_eq_true hc19
    refine zaq ?_
    refine zac ?_
    refine zas ?_
    refine zac ?_
    refine zaa ?_
    refine gQ (zaf rfl) ?_
    refine gQ (zaf rfl) ?_
    refine gQ (zn6 se92 rfl rfl (fun _ hw=>(zam encOpn_ok (hw.has (p:=0) rfl))) hD.len (by omega) (by omega)) ?_
    refine gQ (zbv (vs:=[_,_,_,_,_]) tf98 rfl (fun _ hw=>(zam encOpn_ok (hw.has (p:=0) rfl))) (by omega) (by omega) rfl) ?_
    refine zaG rfl rfl (zaL tf98 (zs:=[_,_,_,_,_]) rfl) fun b7=>?_
    refine zaA 0 tf98 rfl rfl (vs:=[_,_,_,_,_]) rfl rfl rfl rfl rfl ?_
    refine zag (zae (T':=[(0,_),(1,_),(4,_),(5,_),(6,_),(7,_)]) ⟨rfl,rfl,rfl,rfl,rfl,rfl,trivial⟩ ?_)
    refine zac ?_
    refine zaa ?_
    refine gQ (zaf rfl) ?_
    refine gQ (zat 0 tf98 rfl rfl (vs:=[_,_,_,_,_]) rfl rfl) ?_
    refine gQ (zde (fs:=[]) (cap:=gcap) hen rfl rfl (fun w hw=>hg _ w (Rd.has hR hw))) ?_
    refine gQ (zbR rfl) ?_
    refine zag (zae (T':=[(0,_),(1,_),(4,_),(5,_),(6,_),(7,_),(29,_)]) ⟨rfl,rfl,rfl,rfl,rfl,rfl,rfl,trivial⟩ ?_)
    refine zap rfl (fun hc29=>?_) (fun hc29=>?_)
    ·have hb29:f (m.getD j.toNat default)=false:=by rw [Bool.not_eq_true'] at hc29; exact hc29
     refine zac ?_
     refine zaa ?_
     refine gQ (zaf rfl) ?_
     refine gQ (zaf rfl) ?_
     refine gQ (zat 0 tf98 rfl rfl (vs:=[_,_,_,_,_]) rfl rfl) ?_
     refine gQ (zn6 se92 rfl rfl (fun _ hw=>(zam encOpn_ok (hw.has (p:=1) rfl))) hD.len (by omega) (by omega)) ?_
     refine zpR (x':=(m.getD (j).toNat default)) 1 encOpn_ok tf98 rfl rfl (vs:=[_,_,_,_,_]) rfl rfl rfl (by omega) (by omega) ?_
     refine zag (zae (T':=[(0,_),(1,_),(4,_),(5,_),(6,_)]) ⟨rfl,rfl,rfl,rfl,rfl,trivial⟩ ?_)
     refine zaa ?_
     refine gQ (zaf rfl) ?_
     refine gQ (zaY rfl rfl (by omega) (by omega)) ?_
     refine gQ (zad rfl) ?_
     refine zag (zae (T':=[(0,_),(1,_),(4,_),(5,_),(6,_)]) ⟨rfl,rfl,rfl,rfl,rfl,trivial⟩ ?_)
     refine zaa ?_
     refine gQ (zaf rfl) ?_
     refine gQ (zaY rfl rfl (by omega) (by omega)) ?_
     refine gQ (zad rfl) ?_
     refine zag (zae (T':=[(0,_),(1,_),(4,_),(5,_),(6,_)]) ⟨rfl,rfl,rfl,rfl,rfl,trivial⟩ ?_)
     refine zaK 0 rfl ?_
     exact za1 (_,j+1,_) ⟨rfl,rfl,rfl,rfl,rfl,trivial⟩ rfl (by first | exact hD.keep hc19 hb29 | exact hD.skip hc19 hb29) (by simp only []; omega)
    ·have hb29:f (m.getD j.toNat default)=true:=by rw [Bool.not_eq_false'] at hc29; exact hc29
     refine zaq ?_
     refine zaa ?_
     refine gQ (zaf rfl) ?_
     refine gQ (zaY rfl rfl (by omega) (by omega)) ?_
     refine gQ (zad rfl) ?_
     refine zag (zae (T':=[(0,_),(1,_),(4,_),(5,_),(6,_)]) ⟨rfl,rfl,rfl,rfl,rfl,trivial⟩ ?_)
     refine zaK 0 rfl ?_
     exact za1 (_,j+1,_) ⟨rfl,rfl,rfl,rfl,rfl,trivial⟩ rfl (by first | exact hD.keep hc19 hb29 | exact hD.skip hc19 hb29) (by simp only []; omega)
   ·have hc19:=of_decide_eq_false hc19
    obtain⟨d1,d2,d3⟩:=hD.done hc19
    refine za8 rfl ?_
    refine zac ?_
    refine zaa ?_
    refine gQ (zaf rfl) ?_
    refine gQ (zaf rfl) ?_
    refine gQ (zg9 se92 rfl rfl (by omega) (by omega)) ?_
    refine zrt m (default:Opn) 0 encOpn_ok (Tryz.underlying92) tf98 rfl rfl (by rw [List.length_drop,List.length_drop,hD.len]) rfl (by have:=hD.i0; have:=hD.ij; have:=hD.jl; have:=hD.len; omega) rfl ?_
    refine zag (zae (T':=[(0,_),(4,_),(5,_)]) ⟨rfl,rfl,rfl,trivial⟩ ?_)
    refine za2 (R':=Row a 5 cap 98 zba (offZ f l)) 0 rfl (fun B w hA=>by unfold offZ; rw [←d2,←d1,←d3]; exact hA) ?_
    refine zac ?_
    refine zaa ?_
    refine gQ (zaf rfl) ?_
    refine gQ (zaf rfl) ?_
    refine gQ (zg8 se92 rfl rfl (by omega) (by omega) hcap) ?_
    refine gQ (zad rfl) ?_
    refine zag (zae (T':=[(4,_)]) ⟨rfl,trivial⟩ ?_)
    refine zae (T':=[(4,.slice a (offL f l).length cap)]) ⟨(by rw [show(offL f l).length=(l.take i.toNat).length from by have:=zun (p:=f) l; rw [List.length_take]; omega,hsub cap]; rfl),trivial⟩ ?_
    refine zaw ?_
    refine zd9 () 0 (zaC rfl (zau rfl)) rfl rfl trivial
end Go.Proofs.YtdcfcfhmkfkgmaaGreatDoor
namespace Go.Proofs.YtdcfcfhmkfkgmaaGreatDoor
open Go.K Go.Stn Go.Pln Go.RowKit
theorem zxD:TF Tryz.prog 147 false 1 (.nilFunc):=⟨by kernel_rfl,by kernel_rfl⟩
theorem zne:FO Tryz.prog 49 0 0:=⟨by kernel_rfl⟩
theorem en68:En Tryz.prog 68:=za7 Tryz.func68 (by kernel_rfl) (by kernel_rfl)
theorem zw6:En Tryz.prog 117:=za7 Tryz.func117 (by kernel_rfl) (by kernel_rfl)
theorem zw7:En Tryz.prog 118:=za7 Tryz.func118 (by kernel_rfl) (by kernel_rfl)
theorem zw8:En Tryz.prog 119:=za7 Tryz.func119 (by kernel_rfl) (by kernel_rfl)
set_option maxRecDepth 100000 in
set_option maxHeartbeats 1000000 in
theorem zoD (o:Opn) (b:Nat) (f:Opn→Bool) (gg:FuncId) (gcap:List Value) (hen:En Tryz.prog gg) (R:Res) (w:World) (hb:Has w (Box b [.func (.func gg) #[] gcap.toArray] 147)) (hR:Has w R) (hg:∀ (o:Opn) w',Has w' R→Calls Tryz.prog gg ([Value.agg (zba o).toArray]++gcap).toArray w' (Pure (.bool (f o)) w')) :
  Calls Tryz.prog 118 #[.agg #[.int .u8 o.kind,.int .i64 o.at_,.int .i64 o.width,.int .i64 o.frm,.int .i64 o.high],.pointer (some ⟨b,0,none⟩)] w (Pure (.bool (!f o)) w):=by
 refine zan (vs:=[_,_]) Tryz.func118 rfl rfl (Nat.le_of_ble_eq_true rfl) ?_
 refine zac ?_
 refine zaa ?_
 refine zaG rfl rfl (za3 (vs:=[_,_,_,_,_]) rfl rfl) fun b2=>?_
 refine gQ (zad rfl) ?_
 refine zag (zae (T':=[(1,_),(2,_),(3,_)]) ⟨rfl,rfl,rfl,trivial⟩ ?_)
 refine zac ?_
 refine zaa ?_
 refine gQ (zbW zxD rfl (fun _ hw=>zaQ (Rd.has (Has.rd hb) hw) rfl)) ?_
 refine gQ (zat 0 tf98 rfl rfl (vs:=[_,_,_,_,_]) rfl rfl) ?_
 refine gQ (zde (fs:=[]) (cap:=gcap) hen rfl rfl (fun w hw=>hg _ w (Rd.has (Has.rd hR) hw))) ?_
 refine gQ (zbR rfl) ?_
 refine gQ (zad rfl) ?_
 refine zag (zae (T':=[(3,_)]) ⟨rfl,trivial⟩ ?_)
 refine zaw ?_
 refine zay (zaC rfl (zau rfl)) ?_
 rfl
set_option maxRecDepth 100000 in
set_option maxHeartbeats 1000000 in
theorem ztj (o:Opn) (c:Crs) (b:Nat) (w:World) (hb:Has w (Box b [.int .i64 c.frm,.int .i64 c.to] 49)) :
  Calls Tryz.prog 96 #[.agg #[.int .u8 o.kind,.int .i64 o.at_,.int .i64 o.width,.int .i64 o.frm,.int .i64 o.high],.pointer (some ⟨b,0,none⟩)] w (Pure (.bool (znn c o)) w):=by
 refine zan (vs:=[_,_]) Tryz.func96 rfl rfl (Nat.le_of_ble_eq_true rfl) ?_
 refine zac ?_
 refine zaa ?_
 refine zaG rfl rfl (za3 (vs:=[_,_,_,_,_]) rfl rfl) fun b2=>?_
 refine gQ (zad rfl) ?_
 refine zag (zae (T':=[(1,_),(2,_),(3,_)]) ⟨rfl,rfl,rfl,trivial⟩ ?_)
 refine zac ?_
 refine zbb 16 (fun _=>mixed) (by kernel_rfl) ?_
 refine ph_y (zab zfe rfl) ?_
 refine ph_y (zah 0 tf3 rfl rfl rfl) ?_
 refine ph_y (zab zpx rfl) ?_
 refine ph_y (zbW tf3 rfl (fun _ hw=>zaQ (Rd.has (Has.rd hb) hw) rfl)) ?_
 refine ph_y (zbw rfl rfl) ?_
 refine ph_y (zaf rfl) ?_
 refine zaH rfl rfl (fun hgd=>by(try rw [hgd]); exact(zab zfe rfl)) ?_
 refine zaH rfl rfl (fun hgd=>by(try rw [hgd]); exact(zah 0 tf3 rfl rfl rfl)) ?_
 refine zaH rfl rfl (fun hgd=>by(try rw [hgd]); exact(zab zhg rfl)) ?_
 refine zaH rfl rfl (fun hgd=>by(try rw [hgd]); exact(zah 0 tf3 rfl rfl rfl)) ?_
 refine zaH rfl rfl (fun hgd=>by(try rw [hgd]); exact(zfw rfl rfl)) ?_
 refine zaH rfl rfl (fun hgd=>by(try rw [hgd]); exact(zab zne rfl)) ?_
 refine zaH rfl rfl (fun hgd=>by(try rw [hgd]); exact(zbW tf3 rfl (fun _ hw=>zaQ (Rd.has (Has.rd hb) hw) rfl))) ?_
 refine zaH rfl rfl (fun hgd=>by(try rw [hgd]); exact(zc6 rfl rfl)) ?_
 refine ph_y (zaX rfl rfl rfl) ?_
 refine ph_y (zad rfl) ?_
 refine zag (zae (T':=[(3,_)]) ⟨rfl,trivial⟩ ?_)
 refine zaw ?_
 refine zay (zaC rfl (zau rfl)) ?_
 rfl
set_option maxRecDepth 100000 in
set_option maxHeartbeats 1000000 in
theorem zrj (o:Opn) (a:Option Addr) (cap:Nat) (s:Sht) (b:Nat) (w:World) (hb:Has w (Box b [.string s.name,.int .i64 s.base,.int .i64 s.batter,.int .i64 s.height,.int .i64 s.skin,.slice a s.heights.length cap,.int .i64 s.least,.int .i64 s.lap,.int .i64 s.run,.int .i64 s.every,.int .i64 s.at_,.int .i64 s.footing,.int .i64 s.spread,.int .u8 s.cope,.int .i64 s.tall,.int .i64 s.short,.int .i64 s.thick,.int .i64 s.low,.int .i64 s.high,.int .i64 s.rood] 41)) :
  Calls Tryz.prog 101 #[.agg #[.int .u8 o.kind,.int .i64 o.at_,.int .i64 o.width,.int .i64 o.frm,.int .i64 o.high],.pointer (some ⟨b,0,none⟩)] w (Pure (.bool (zno s.height o)) w):=by
 refine zan (vs:=[_,_]) Tryz.func101 rfl rfl (Nat.le_of_ble_eq_true rfl) ?_
 refine zac ?_
 refine zaa ?_
 refine zaG rfl rfl (za3 (vs:=[_,_,_,_,_]) rfl rfl) fun b2=>?_
 refine gQ (zad rfl) ?_
 refine zag (zae (T':=[(1,_),(2,_),(3,_)]) ⟨rfl,rfl,rfl,trivial⟩ ?_)
 refine zac ?_
 refine zaa ?_
 refine gQ (zab zfe rfl) ?_
 refine gQ (zah 0 tf3 rfl rfl rfl) ?_
 refine gQ (zab zhg rfl) ?_
 refine gQ (zah 0 tf3 rfl rfl rfl) ?_
 refine gQ (zfw rfl rfl) ?_
 refine gQ (zab zep rfl) ?_
 refine gQ (zbW tf3 rfl (fun _ hw=>zaQ (Rd.has (Has.rd hb) hw) rfl)) ?_
 refine gQ (zbL rfl rfl) ?_
 refine gQ (zad rfl) ?_
 refine zag (zae (T':=[(3,_)]) ⟨rfl,trivial⟩ ?_)
 refine zaw ?_
 refine zay (zaC rfl (zau rfl)) ?_
 rfl
theorem zwh {U:Nat→Prop} {w:World} {R S:Res} (h1:Rd U w R) (h2:Rd U w S):Rd U w (Two R S):=
 let ⟨C,hC,a⟩:=h1; let ⟨D,hD,b⟩:=h2; ⟨fun k=>C k∨D k,fun k h=>h.elim (hC k) (hD k),C,D,fun _ h=>.inl h,fun _ h=>.inr h,a,b⟩
theorem zum {w:World} {a:Option Addr} {l m:List Opn} (h:m=l) (hm:Has w (zaW a 5 zba m)):Has w (zaW a 5 zba l):=h ▸ hm
set_option maxRecDepth 100000 in
set_option maxHeartbeats 4000000 in
theorem zlM (b:Option Addr) (bcap:Nat) (v:Wll) (top:Int) (f:Opn→Bool) (gg:FuncId) (gcap:List Value) (hen:En Tryz.prog gg) (R:Res) (w:World) (hv:Has w (zaW b 5 zba v.opens)) (hF:WallF v top) (hR:Has w R) (hg:∀ (o:Opn) w',Has w' R→Calls Tryz.prog gg ([Value.agg (zba o).toArray]++gcap).toArray w' (Pure (.bool (f o)) w')) :
  Calls Tryz.prog 95 #[.agg #[.string v.name,.string v.sheet,.int .i64 v.length,.slice b v.opens.length bcap],.func (.func gg) #[] gcap.toArray] w (zcU (fun z:Option Addr×Nat=>.slice z.1 (zcW f v).length z.2) (fun z=>Row z.1 2 z.2 69 zbq (zcW f v)) w):=by
 have hnum:=hF.num
 have hlen:=hF.len
 have hfl:=List.length_filter_le f v.opens
 have hof:=zuo f v.opens
 refine zan (vs:=[_,_]) Tryz.func95 rfl rfl (Nat.le_of_ble_eq_true rfl) ?_
 refine zac ?_
 refine zaa ?_
 refine zaG rfl rfl (za3 (vs:=[_,_,_,_]) rfl rfl) fun b2=>?_
 refine zaG rfl rfl (za3 (vs:=[_]) rfl rfl) fun b3=>?_
 refine gQ (zad rfl) ?_
 refine zag (zae (T':=[(2,_),(3,_),(4,_)]) ⟨rfl,rfl,rfl,trivial⟩ ?_)
 refine zac ?_
 refine zaa ?_
 refine gQ (zab zhe rfl) ?_
 refine gQ (zah 1 tf92 rfl rfl rfl) ?_
 refine zaG rfl rfl (zbm en68 rfl (fun w hw=>zrd _ _ v.opens w (Rd.has (Has.rd hv) hw) (by unfold zaP; omega))) fun p8=>?_
 refine gQ (zbO («as»:=[]) (bs:=[_]) rfl rfl) ?_
 refine zjY 0 zw6 rfl rfl rfl (fun w B hF=>zkP _ _ v.opens (fun o=>!f o) 118 [.pointer (some ⟨b3,0,none⟩)] zw7 (Two (Box b3 [.func (.func gg) #[] gcap.toArray] 147) R) w B (fun k hk=>(hF.own k hk).2) hF.A (by unfold zaP; omega) (zwh (hF.other 0 rfl) (hF.rd (Has.rd hR))) (fun o w' hm=>zoD o b3 f gg gcap hen R w' (ztZ hm) (zt0 hm) hg)) fun u10 hq10=>?_
 refine gQ (zad rfl) ?_
 refine zag (zae (T':=[(2,_),(4,_),(5,_)]) ⟨rfl,rfl,rfl,trivial⟩ ?_)
 refine zae (T':=[(2,_),(4,_),(5,.slice p8.1 (v.opens.filter f).length p8.2)]) ⟨rfl,rfl,(by rw [←hof]; rfl),trivial⟩ ?_
 refine zac ?_
 refine zaa ?_
 refine gQ (zab zgo rfl) ?_
 refine gQ (zah 2 tf3 rfl rfl rfl) ?_
 refine gQ (zaf rfl) ?_
 refine zaG rfl rfl (zbm zw8 rfl (fun w hw=>zut _ _ _ (v.opens.filter f) w (zum hof (zl3 (l:=offL (fun o=>!f o) v.opens) (zam encOpn_ok (hw.has (p:=0) rfl)))) (by unfold zaP; omega) (by omega) (by omega) (hF.inW f))) fun p14=>?_
 refine gQ (zad rfl) ?_
 refine zag (zae (T':=[(4,_)]) ⟨rfl,trivial⟩ ?_)
 refine zaw ?_
 refine zbd p14 0 (zaC rfl (zau rfl)) ?_ rfl
 rfl
end Go.Proofs.YtdcfcfhmkfkgmaaGreatDoor
namespace Go.Proofs.YtdcfcfhmkfkgmaaGreatDoor
open Go.K Go.Stn Go.Pln Go.RowKit
theorem ztk (x0a:Option Addr) (x0n x0c:Nat) (w:World):(Instr.build 31 #[(0,.slice x0a x0n x0c)]).run Tryz.prog w=.ok (.agg #[.slice x0a x0n x0c,.slice none 0 0]) w:=by kernel_rfl
set_option maxRecDepth 100000 in
set_option maxHeartbeats 4000000 in
theorem ztt (a:Option Addr) (cap:Nat) (S:List ShC) (b:Option Addr) (bcap:Nat) (V:List WlC) (w:World) (hl:Has w (zaW a 20 zbH S)) (hs:zaP S.length) (hcS:S.length≤cap) (hlw:Has w (zaW b 4 zbS V)) (hsw:zaP V.length) (hsh:∀ z∈S,Has w (Ints z.a z.s.heights)) (hss:∀ z∈S,zaP z.s.heights.length) (hwo:∀ z∈V,Has w (zaW z.a 5 zba z.s.opens)) (hsv:∀ z∈V,zaP z.s.opens.length) (hcp:∀ z∈V,z.s.opens.length≤z.cap) (hkn:∀ z∈V,∀ o∈z.s.opens,Knd o) :
  Calls Tryz.prog 16 #[.agg #[.slice a S.length cap,.slice b V.length bcap]] w (Pure (.int .i64 (zeW S V)) w):=by
 refine zan (vs:=[_]) Tryz.func16 rfl rfl (Nat.le_of_ble_eq_true rfl) ?_
 refine zac ?_
 refine zaa ?_
 refine zaG rfl rfl (za3 (vs:=[_,_]) rfl rfl) fun b1=>?_
 refine gQ (zad rfl) ?_
 refine zag (zae (T':=[(1,_),(2,_)]) ⟨rfl,rfl,trivial⟩ ?_)
 refine zac ?_
 refine zac ?_
 refine zbb 10 (fun _=>mixed) (by kernel_rfl) ?_
 refine ph_y (zab zeo rfl) ?_
 refine ph_y (zah 0 tf28 rfl rfl rfl) ?_
 refine ph_y (zaV (Tryz.underlying28) rfl) ?_
 refine ph_y (zc6 rfl rfl) ?_
 refine ph_y (zaf rfl) ?_
 refine zaz rfl rfl (fun hgd=>by(try rw [hgd]); exact(zab zd7 rfl)) ?_
 refine zaz rfl rfl (fun hgd=>by(try rw [hgd]); exact(zah 0 tf29 rfl rfl rfl)) ?_
 refine zaz rfl rfl (fun hgd=>by(try rw [hgd]); exact(zaV (Tryz.underlying29) rfl)) ?_
 refine zaz rfl rfl (fun hgd=>by(try rw [hgd]); exact(zc6 rfl rfl)) ?_
 refine ph_y (zaR rfl rfl rfl) ?_
 refine zag (zae (T':=[(1,_),(2,_),(20,_)]) ⟨rfl,rfl,rfl,trivial⟩ ?_)
 refine zap rfl (fun hc20=>?_) (fun hc20=>?_)
 ·have hP:=zqs (S:=S) (V:=V) hc20
  refine zac ?_
  refine zaa ?_
  refine gQ (zad rfl) ?_
  refine zag (zae (T':=[(1,_),(2,_)]) ⟨rfl,rfl,trivial⟩ ?_)
  refine zaw ?_
  refine zay (zaC rfl (zau rfl)) ?_
  rw [zeW,hP]; rfl
 ·
  refine zaq ?_
  refine zac ?_
  refine zac ?_
  refine zaa ?_
  refine gQ (zab zeo rfl) ?_
  refine gQ (zah 0 tf28 rfl rfl rfl) ?_
  refine gQ (zaV (Tryz.underlying28) rfl) ?_
  refine gQ (zaf rfl) ?_
  refine zag (zae (T':=[(1,_),(2,_),(22,_),(23,_),(24,_)]) ⟨rfl,rfl,rfl,rfl,rfl,trivial⟩ ?_)
  refine zas ?_
  refine zbf (X:=Int) (fun(i:Int)=>[(1,.pointer (some ⟨b1,0,none⟩)),(2,.int .i64 0),(22,.slice a S.length cap),(23,.int .i64 (S.length:Int)),(24,.int .i64 i)]) (fun(i:Int)=>[Box b1 [.slice a S.length cap,.slice b V.length bcap] 31]) (fun(i:Int)=>(0≤i∧i≤S.length∧∀ j:Nat,(j:Int) < i→shAt S j=true)) (fun(i:Int)=>(S.length - i).toNat) 0 ⟨rfl,rfl,rfl,rfl,rfl,trivial⟩ rfl ?_ ?_
  ·exact⟨by omega,by omega,fun j hj=>by omega⟩
  ·rintro i hI
   obtain⟨g0,g1,g2⟩:=hI
   refine zac ?_
   refine zaa ?_
   refine gQ (zbw rfl rfl) ?_
   refine zag (zae (T':=[(1,_),(2,_),(22,_),(23,_),(24,_),(25,_)]) ⟨rfl,rfl,rfl,rfl,rfl,rfl,trivial⟩ ?_)
   refine zac ?_
   refine zap rfl (fun hc25=>?_) (fun hc25=>?_)
   ·have hc25:=of_decide_eq_true hc25
    refine zaq ?_
    refine zac ?_
    refine zas ?_
    refine zac ?_
    refine zaa ?_
    refine gQ (zaf rfl) ?_
    refine gQ (zaE se28 rfl rfl (fun _ hw=>(Rd.has (Has.rd hl) hw)) (by omega) (by omega)) ?_
    refine gQ (zbv (vs:=[_,_,_,_,_,_,_,_,_,_,_,_,_,_,_,_,_,_,_,_]) tf41 rfl (fun _ hw=>(Rd.has (Has.rd hl) hw)) (by omega) (by omega) rfl) ?_
    refine zaG rfl rfl (zaL tf41 (zs:=[_,_,_,_,_,_,_,_,_,_,_,_,_,_,_,_,_,_,_,_]) rfl) fun b4=>?_
    refine gQ (zad rfl) ?_
    refine zbz 0 tf41 rfl rfl (vs:=[_,_,_,_,_,_,_,_,_,_,_,_,_,_,_,_,_,_,_,_]) rfl rfl rfl rfl rfl ?_
    refine zag (zae (T':=[(1,_),(2,_),(3,_),(4,_),(22,_),(23,_),(24,_)]) ⟨rfl,rfl,rfl,rfl,rfl,rfl,rfl,trivial⟩ ?_)
    refine zac ?_
    refine zf3 (ch [(11,Nat)]) 14 [0,1,0,7,15,0,32,127,255,511,511,0,3071,8191] (fun _=>mixed) (by kernel_rfl) (zjK _ ⟨inferInstance,trivial⟩) ?_
    refine zbD (fun ρ=>zab zeo rfl) (fun ρ ρ' h=>by rfl) ?_
    refine zbD (fun ρ=>zah 1 tf28 rfl rfl rfl) (fun ρ ρ' h=>by rfl) ?_
    refine zbD (fun ρ=>zaf rfl) (fun ρ ρ' h=>by rfl) ?_
    refine zbD (fun ρ=>zg8 se28 rfl rfl (by omega) (by omega) hcS) (fun ρ ρ' h=>by rfl) ?_
    refine zbD (fun ρ=>zaI rfl (ztk _ _ _)) (fun ρ ρ' h=>by rfl) ?_
    refine zbD (fun ρ=>zab znb rfl) (fun ρ ρ' h=>by rfl) ?_
    refine zbD (fun ρ=>zah 0 tf9 rfl rfl rfl) (fun ρ ρ' h=>by rfl) ?_
    refine zbD (fun ρ=>zaJ en46 rfl (fun w hw=>zeu _ _ (S.take i.toNat) _ _ _ _ w (zje (Rd.has (Has.rd hl) hw) (by omega) (by omega)) (by rw [List.length_take]; have:=hs; unfold zaP at *; omega))) (fun ρ ρ' h=>by rfl) ?_
    refine zbD (fun ρ=>zaf rfl) (fun ρ ρ' h=>by rfl) ?_
    refine zbD (fun ρ=>zaB rfl rfl) (fun ρ ρ' h=>by rfl) ?_
    refine zbD (fun ρ=>zaB rfl rfl) (fun ρ ρ' h=>by rfl) ?_
    refine zgB (fun ρ=>zaL tf41 (zs:=[_,_,_,_,_,_,_,_,_,_,_,_,_,_,_,_,_,_,_,_]) rfl) (fun ρ ρ' h=>⟨by rfl,by rfl⟩) ?_
    refine zlr (R:=fun ρ=>Box (ρ 11) [.string ⟨#[]⟩,.int .i64 0,.int .i64 0,.int .i64 0,.int .i64 0,.slice none 0 0,.int .i64 0,.int .i64 0,.int .i64 0,.int .i64 0,.int .i64 0,.int .i64 0,.int .i64 0,.int .u8 0,.int .i64 0,.int .i64 0,.int .i64 0,.int .i64 0,.int .i64 0,.int .i64 0] 41) (A:=fun ρ=>Box (ρ 11) [.string (zav (S.take i.toNat) ((S.getD (i).toNat default).s.name)).s.name,.int .i64 ((zav (S.take i.toNat) ((S.getD (i).toNat default).s.name)).s.base),.int .i64 ((zav (S.take i.toNat) ((S.getD (i).toNat default).s.name)).s.batter),.int .i64 ((zav (S.take i.toNat) ((S.getD (i).toNat default).s.name)).s.height),.int .i64 ((zav (S.take i.toNat) ((S.getD (i).toNat default).s.name)).s.skin),.slice (zav (S.take i.toNat) ((S.getD (i).toNat default).s.name)).a (zav (S.take i.toNat) ((S.getD (i).toNat default).s.name)).s.heights.length (zav (S.take i.toNat) ((S.getD (i).toNat default).s.name)).cap,.int .i64 ((zav (S.take i.toNat) ((S.getD (i).toNat default).s.name)).s.least),.int .i64 ((zav (S.take i.toNat) ((S.getD (i).toNat default).s.name)).s.lap),.int .i64 ((zav (S.take i.toNat) ((S.getD (i).toNat default).s.name)).s.run),.int .i64 ((zav (S.take i.toNat) ((S.getD (i).toNat default).s.name)).s.every),.int .i64 ((zav (S.take i.toNat) ((S.getD (i).toNat default).s.name)).s.at_),.int .i64 ((zav (S.take i.toNat) ((S.getD (i).toNat default).s.name)).s.footing),.int .i64 ((zav (S.take i.toNat) ((S.getD (i).toNat default).s.name)).s.spread),.int .u8 (zav (S.take i.toNat) ((S.getD (i).toNat default).s.name)).s.cope,.int .i64 ((zav (S.take i.toNat) ((S.getD (i).toNat default).s.name)).s.tall),.int .i64 ((zav (S.take i.toNat) ((S.getD (i).toNat default).s.name)).s.short),.int .i64 ((zav (S.take i.toNat) ((S.getD (i).toNat default).s.name)).s.thick),.int .i64 ((zav (S.take i.toNat) ((S.getD (i).toNat default).s.name)).s.low),.int .i64 ((zav (S.take i.toNat) ((S.getD (i).toNat default).s.name)).s.high),.int .i64 ((zav (S.take i.toNat) ((S.getD (i).toNat default).s.name)).s.rood)] 41) 11 rfl rfl (fun _=>rfl) (fun ρ=>zex tf41 rfl rfl (vs:=[_,_,_,_,_,_,_,_,_,_,_,_,_,_,_,_,_,_,_,_]) rfl rfl rfl rfl rfl) (fun ρ ρ' h=>by(first | rfl | simp only [h 11 rfl])) ?_
    refine zbD (fun ρ=>zad rfl) (fun ρ ρ' h=>by rfl) ?_
    refine fun ρ=>zag (zf4 (X:=Nat) (ρ 11) (fun b5=>[(1,.pointer (some ⟨b1,0,none⟩)),(2,.int .i64 0),(4,.pointer (some ⟨b4,0,none⟩)),(6,.bool (decide (0≤zaS (S.take i.toNat) ((S.getD (i).toNat default).s.name)))),(22,.slice a S.length cap),(23,.int .i64 (S.length:Int)),(24,.int .i64 i)]) (fun b5=>[Box b5 [.string (zav (S.take i.toNat) ((S.getD (i).toNat default).s.name)).s.name,.int .i64 ((zav (S.take i.toNat) ((S.getD (i).toNat default).s.name)).s.base),.int .i64 ((zav (S.take i.toNat) ((S.getD (i).toNat default).s.name)).s.batter),.int .i64 ((zav (S.take i.toNat) ((S.getD (i).toNat default).s.name)).s.height),.int .i64 ((zav (S.take i.toNat) ((S.getD (i).toNat default).s.name)).s.skin),.slice (zav (S.take i.toNat) ((S.getD (i).toNat default).s.name)).a (zav (S.take i.toNat) ((S.getD (i).toNat default).s.name)).s.heights.length (zav (S.take i.toNat) ((S.getD (i).toNat default).s.name)).cap,.int .i64 ((zav (S.take i.toNat) ((S.getD (i).toNat default).s.name)).s.least),.int .i64 ((zav (S.take i.toNat) ((S.getD (i).toNat default).s.name)).s.lap),.int .i64 ((zav (S.take i.toNat) ((S.getD (i).toNat default).s.name)).s.run),.int .i64 ((zav (S.take i.toNat) ((S.getD (i).toNat default).s.name)).s.every),.int .i64 ((zav (S.take i.toNat) ((S.getD (i).toNat default).s.name)).s.at_),.int .i64 ((zav (S.take i.toNat) ((S.getD (i).toNat default).s.name)).s.footing),.int .i64 ((zav (S.take i.toNat) ((S.getD (i).toNat default).s.name)).s.spread),.int .u8 (zav (S.take i.toNat) ((S.getD (i).toNat default).s.name)).s.cope,.int .i64 ((zav (S.take i.toNat) ((S.getD (i).toNat default).s.name)).s.tall),.int .i64 ((zav (S.take i.toNat) ((S.getD (i).toNat default).s.name)).s.short),.int .i64 ((zav (S.take i.toNat) ((S.getD (i).toNat default).s.name)).s.thick),.int .i64 ((zav (S.take i.toNat) ((S.getD (i).toNat default).s.name)).s.low),.int .i64 ((zav (S.take i.toNat) ((S.getD (i).toNat default).s.name)).s.high),.int .i64 ((zav (S.take i.toNat) ((S.getD (i).toNat default).s.name)).s.rood)] 41,Box b4 [.string (S.getD (i).toNat default).s.name,.int .i64 ((S.getD (i).toNat default).s.base),.int .i64 ((S.getD (i).toNat default).s.batter),.int .i64 ((S.getD (i).toNat default).s.height),.int .i64 ((S.getD (i).toNat default).s.skin),.slice (S.getD (i).toNat default).a (S.getD (i).toNat default).s.heights.length (S.getD (i).toNat default).cap,.int .i64 ((S.getD (i).toNat default).s.least),.int .i64 ((S.getD (i).toNat default).s.lap),.int .i64 ((S.getD (i).toNat default).s.run),.int .i64 ((S.getD (i).toNat default).s.every),.int .i64 ((S.getD (i).toNat default).s.at_),.int .i64 ((S.getD (i).toNat default).s.footing),.int .i64 ((S.getD (i).toNat default).s.spread),.int .u8 (S.getD (i).toNat default).s.cope,.int .i64 ((S.getD (i).toNat default).s.tall),.int .i64 ((S.getD (i).toNat default).s.short),.int .i64 ((S.getD (i).toNat default).s.thick),.int .i64 ((S.getD (i).toNat default).s.low),.int .i64 ((S.getD (i).toNat default).s.high),.int .i64 ((S.getD (i).toNat default).s.rood)] 41,Box b1 [.slice a S.length cap,.slice b V.length bcap] 31]) ⟨rfl,rfl,rfl,rfl,rfl,rfl,rfl,trivial⟩ rfl ?_)
    rintro b5
    refine zac ?_
    refine zbb 6 (fun _=>mixed) (by kernel_rfl) ?_
    refine ph_y (zaf rfl) ?_
    refine ph_y (zaf rfl) ?_
    refine zaz rfl rfl (fun hgd=>by(try rw [hgd]); exact(zat 1 tf41 rfl rfl (vs:=[_,_,_,_,_,_,_,_,_,_,_,_,_,_,_,_,_,_,_,_]) rfl rfl)) ?_
    refine zaz rfl rfl (fun hgd=>by(try rw [hgd]); exact(zaJ (v:=.int .i64 (zcX ((S.getD (i).toNat default).s))) en20 rfl (fun w hw=>zd4 ((S.getD (i).toNat default).a) ((S.getD (i).toNat default).cap) ((S.getD (i).toNat default).s) w (Rd.has (Has.rd (hsh _ (za0 (by omega)))) hw) (hss _ (za0 (by omega)))))) ?_
    refine zaz rfl rfl (fun hgd=>by(try rw [hgd]); exact(zcr rfl rfl)) ?_
    refine ph_y (zaR rfl rfl rfl) ?_
    refine zag (zae (T':=[(1,_),(2,_),(22,_),(23,_),(24,_),(45,_)]) ⟨rfl,rfl,rfl,rfl,rfl,rfl,trivial⟩ ?_)
    refine zap rfl (fun hc45=>?_) (fun hc45=>?_)
    ·have hno:shAt S i.toNat=false:=zqg ((zqK g0 hc25).symm.trans hc45)
     refine zac ?_
     refine zaa ?_
     refine gQ (zad rfl) ?_
     refine zag (zae (T':=[(1,_),(2,_),(22,_),(23,_),(24,_)]) ⟨rfl,rfl,rfl,rfl,rfl,trivial⟩ ?_)
     refine zaw ?_
     refine zay (zaC rfl (zau rfl)) ?_
     rw [zeW,znF g0 hc25 hno]; rfl
    ·have hyes:shAt S i.toNat=true:=zll ((zqK g0 hc25).symm.trans hc45)
     refine zaq ?_
     refine zaa ?_
     refine gQ (zaY rfl rfl (by omega) (by omega)) ?_
     refine gQ (zaf rfl) ?_
     refine zag (zae (T':=[(1,_),(2,_),(22,_),(23,_),(24,_)]) ⟨rfl,rfl,rfl,rfl,rfl,trivial⟩ ?_)
     refine zaK 0 rfl ?_
     refine zaK 0 rfl ?_
     exact za1 (i+1) ⟨rfl,rfl,rfl,rfl,rfl,trivial⟩ rfl ⟨by omega,by omega,zdu g0 g2 hyes⟩ (by omega)
   ·have hc25:=of_decide_eq_false hc25
    have hS:=zg3 (S:=S) (fun j hj=>g2 j (by omega))
    refine za8 rfl ?_
    refine zac ?_
    refine zac ?_
    refine zaa ?_
    refine gQ (zab zd7 rfl) ?_
    refine gQ (zah 0 tf29 rfl rfl rfl) ?_
    refine gQ (zaV (Tryz.underlying29) rfl) ?_
    refine gQ (zaf rfl) ?_
    refine zag (zae (T':=[(1,_),(2,_),(48,_),(49,_),(50,_)]) ⟨rfl,rfl,rfl,rfl,rfl,trivial⟩ ?_)
    refine zas ?_
    refine zbf (X:=Int) (fun(i:Int)=>[(1,.pointer (some ⟨b1,0,none⟩)),(2,.int .i64 0),(48,.slice b V.length bcap),(49,.int .i64 (V.length:Int)),(50,.int .i64 i)]) (fun(i:Int)=>[Box b1 [.slice a S.length cap,.slice b V.length bcap] 31]) (fun(i:Int)=>(0≤i∧i≤V.length∧∀ j:Nat,(j:Int) < i→wlAt S V j=true)) (fun(i:Int)=>(V.length - i).toNat) 0 ⟨rfl,rfl,rfl,rfl,rfl,trivial⟩ rfl ?_ ?_
    ·exact⟨by omega,by omega,fun j hj=>by omega⟩
    ·rintro i hI
     have gi2:=g2; have hgi:=hc25
     rename_i ii
     obtain⟨k0,k1,k2⟩:=hI
     refine zac ?_
     refine zaa ?_
     refine gQ (zbw rfl rfl) ?_
     refine zag (zae (T':=[(1,_),(2,_),(48,_),(49,_),(50,_),(51,_)]) ⟨rfl,rfl,rfl,rfl,rfl,rfl,trivial⟩ ?_)
     refine zac ?_
     refine zap rfl (fun hc51=>?_) (fun hc51=>?_)
     ·have hc51:=of_decide_eq_true hc51
      refine zaq ?_
      refine zac ?_
      refine zas ?_
      refine zac ?_
      refine zaa ?_
      refine gQ (zaf rfl) ?_
      refine gQ (zaE se29 rfl rfl (fun _ hw=>(Rd.has (Has.rd hlw) hw)) (by omega) (by omega)) ?_
      refine gQ (zbv (vs:=[_,_,_,_]) tf94 rfl (fun _ hw=>(Rd.has (Has.rd hlw) hw)) (by omega) (by omega) rfl) ?_
      refine zaG rfl rfl (zaL tf94 (zs:=[_,_,_,_]) rfl) fun b8=>?_
      refine gQ (zad rfl) ?_
      refine zaA 0 tf94 rfl rfl (vs:=[_,_,_,_]) rfl rfl rfl rfl rfl ?_
      refine zag (zae (T':=[(1,_),(2,_),(7,_),(8,_),(48,_),(49,_),(50,_)]) ⟨rfl,rfl,rfl,rfl,rfl,rfl,rfl,trivial⟩ ?_)
      refine zac ?_
      refine zaa ?_
      refine gQ (zat 1 tf31 rfl rfl (vs:=[_,_]) rfl rfl) ?_
      refine gQ (zab zni rfl) ?_
      refine gQ (zah 0 tf9 rfl rfl rfl) ?_
      refine gQ (zaJ en46 rfl (fun w hw=>zeu _ _ S _ _ _ _ w (Rd.has (Has.rd hl) hw) (by assumption))) ?_
      refine gQ (zaf rfl) ?_
      refine gQ (zaB rfl rfl) ?_
      refine gQ (zaB rfl rfl) ?_
      refine zaG rfl rfl (zaL tf41 (zs:=[_,_,_,_,_,_,_,_,_,_,_,_,_,_,_,_,_,_,_,_]) rfl) fun b9=>?_
      refine zbz 0 tf41 rfl rfl (vs:=[_,_,_,_,_,_,_,_,_,_,_,_,_,_,_,_,_,_,_,_]) rfl rfl rfl rfl rfl ?_
      refine gQ (zad rfl) ?_
      refine zag (zae (T':=[(1,_),(2,_),(7,_),(8,_),(9,_),(10,_),(48,_),(49,_),(50,_)]) ⟨rfl,rfl,rfl,rfl,rfl,rfl,rfl,rfl,rfl,trivial⟩ ?_)
      refine zac ?_
      refine zbb 16 (fun _=>mixed) (by kernel_rfl) ?_
      refine ph_y (zaf rfl) ?_
      refine ph_y (zbR rfl) ?_
      refine ph_y (zaf rfl) ?_
      refine zaz rfl rfl (fun hgd=>by(try rw [hgd]); exact(zat 2 tf31 rfl rfl (vs:=[_,_]) rfl rfl)) ?_
      refine zaz rfl rfl (fun hgd=>by(try rw [hgd]); exact(zab znh rfl)) ?_
      refine zaz rfl rfl (fun hgd=>by(try rw [hgd]); exact(zah 1 tf9 rfl rfl rfl)) ?_
      refine zaz rfl rfl (fun hgd=>by(try rw [hgd]); exact(zaJ (v:=.int .i64 (zaM V ((V.getD (i).toNat default).s.name))) en47 rfl (fun w hw=>zkg _ _ _ _ _ V _ w (Rd.has (Has.rd hlw) hw) (by assumption)))) ?_
      refine zaz rfl rfl (fun hgd=>by(try rw [hgd]); exact(zaf rfl)) ?_
      refine zaz rfl rfl (fun hgd=>by(try rw [hgd]); exact(zbw rfl rfl)) ?_
      refine ph_y (zaR rfl rfl rfl) ?_
      refine ph_y (zaf rfl) ?_
      refine zaz rfl rfl (fun hgd=>by(try rw [hgd]); exact(zat 1 tf94 rfl rfl (vs:=[_,_,_,_]) rfl rfl)) ?_
      refine zaz rfl rfl (fun hgd=>by(try rw [hgd]); exact(zat 0 tf41 rfl rfl (vs:=[_,_,_,_,_,_,_,_,_,_,_,_,_,_,_,_,_,_,_,_]) rfl rfl)) ?_
      refine zaz rfl rfl (fun hgd=>by(try rw [hgd]); exact(zaJ (v:=.bool (zd1 ((zav S ((V.getD (i).toNat default).s.sheet)).s).height ((V.getD (i).toNat default).s))) en48 rfl (fun w hw=>zmI ((V.getD (i).toNat default).a) ((V.getD (i).toNat default).cap) ((V.getD (i).toNat default).s) ((zav S ((V.getD (i).toNat default).s.sheet)).a) ((zav S ((V.getD (i).toNat default).s.sheet)).cap) ((zav S ((V.getD (i).toNat default).s.sheet)).s) w (Rd.has (Has.rd (hwo _ (za0 (by omega)))) hw) (hcp _ (za0 (by omega))) (hsv _ (za0 (by omega))) (hkn _ (za0 (by omega))) (zog hS)))) ?_
      refine zaz rfl rfl (fun hgd=>by(try rw [hgd]); exact(zbR rfl)) ?_
      refine ph_y (zaR rfl rfl rfl) ?_
      refine zag (zae (T':=[(1,_),(2,_),(48,_),(49,_),(50,_),(77,_)]) ⟨rfl,rfl,rfl,rfl,rfl,rfl,trivial⟩ ?_)
      refine zap rfl (fun hc77=>?_) (fun hc77=>?_)
      ·have hno:wlAt S V i.toNat=false:=zqg ((zqY k0 hc51).symm.trans hc77)
       refine zac ?_
       refine zaa ?_
       refine gQ (zad rfl) ?_
       refine zag (zae (T':=[(1,_),(2,_),(48,_),(49,_),(50,_)]) ⟨rfl,rfl,rfl,rfl,rfl,trivial⟩ ?_)
       refine zaw ?_
       refine zay (zaC rfl (zau rfl)) ?_
       rw [zeW,znG k0 hc51 hno]; rfl
      ·have hyes:wlAt S V i.toNat=true:=zll ((zqY k0 hc51).symm.trans hc77)
       refine zaq ?_
       refine zaa ?_
       refine gQ (zaY rfl rfl (by omega) (by omega)) ?_
       refine gQ (zaf rfl) ?_
       refine zag (zae (T':=[(1,_),(2,_),(48,_),(49,_),(50,_)]) ⟨rfl,rfl,rfl,rfl,rfl,trivial⟩ ?_)
       refine zaK 0 rfl ?_
       refine zaK 0 rfl ?_
       exact za1 (i+1) ⟨rfl,rfl,rfl,rfl,rfl,trivial⟩ rfl ⟨by omega,by omega,zdu k0 k2 hyes⟩ (by omega)
     ·have hc51:=of_decide_eq_false hc51
      refine za8 rfl ?_
      refine zac ?_
      refine zaa ?_
      refine gQ (zad rfl) ?_
      refine zag (zae (T':=[(2,_)]) ⟨rfl,trivial⟩ ?_)
      refine zaw ?_
      refine zay (zaC rfl (zau rfl)) ?_
      rw [zeW,znH hc25 hc51 g2 k2]; simp only [Bool.or_eq_false_iff,decide_eq_false_iff_not] at hc20; rw [decide_eq_true (by omega),decide_eq_true (by omega)]; rfl
end Go.Proofs.YtdcfcfhmkfkgmaaGreatDoor
namespace Go.Proofs.YtdcfcfhmkfkgmaaGreatDoor
open Go.K Go.Stn Go.Pln Go.RowKit
theorem en16:En Tryz.prog 16:=za7 Tryz.func16 (by kernel_rfl) (by kernel_rfl)
theorem zvb  (w:World):(Instr.build 94 #[]).run Tryz.prog w=.ok (.agg #[.string ⟨#[]⟩,.string ⟨#[]⟩,.int IntKind.i64 0,.slice none 0 0]) w:=by kernel_rfl
theorem zhG {w:World} {S:List ShC} {V:List WlC} {n:ByteArray} (h:∀ z∈S,Has w (Ints z.a z.s.heights)):Has w (Ints (zar S V n).a (zar S V n).s.heights):=by
 unfold zar
 split
 ·exact zpL h
 ·exact⟨fun _=>False,fun _ h=>h.elim,.inl rfl⟩
theorem zfL {w:World} {S:List ShC} {V:List WlC} {n:ByteArray} (h:∀ z∈V,Has w (zaW z.a 5 zba z.s.opens)):Has w (zaW (zaN S V n).a 5 zba (zaN S V n).s.opens):=by
 unfold zaN zhq
 split
 ·split
  ·rename_i hk
   exact h _ (za0 (by have:=zky hk; omega))
  ·exact⟨fun _=>False,fun _ h=>h.elim,.inl rfl⟩
 ·exact⟨fun _=>False,fun _ h=>h.elim,.inl rfl⟩
set_option maxRecDepth 100000 in
set_option maxHeartbeats 8000000 in
theorem zm9 (a:Option Addr) (cap:Nat) (S:List ShC) (b:Option Addr) (bcap:Nat) (V:List WlC) (n:ByteArray) (w:World) (hl:Has w (zaW a 20 zbH S)) (hs:zaP S.length) (hcS:S.length≤cap) (hlw:Has w (zaW b 4 zbS V)) (hsw:zaP V.length) (hsh:∀ z∈S,Has w (Ints z.a z.s.heights)) (hss:∀ z∈S,zaP z.s.heights.length) (hwo:∀ z∈V,Has w (zaW z.a 5 zba z.s.opens)) (hsv:∀ z∈V,zaP z.s.opens.length) (hcp:∀ z∈V,z.s.opens.length≤z.cap) (hkn:∀ z∈V,∀ o∈z.s.opens,Knd o) :
  Calls Tryz.prog 62 #[.agg #[.slice a S.length cap,.slice b V.length bcap],.string n] w (Pure (.tuple #[.agg (zbS (zaN S V n)).toArray,.agg (zbH (zar S V n)).toArray,.int .i64 (zb6 S V n)]) w):=by
 have hlt:=fun h=>zky (S:=V) (n:=n) h
 have hge:-1≤zaM V n:=zrp _ _
 refine zan (vs:=[_,_]) Tryz.func62 rfl rfl (Nat.le_of_ble_eq_true rfl) ?_
 refine zac ?_
 refine zaa ?_
 refine zaG rfl rfl (za3 (vs:=[_,_]) rfl rfl) fun b2=>?_
 refine zaG rfl rfl (zaL tf94 (zs:=[_,_,_,_]) rfl) fun b4=>?_
 refine zaG rfl rfl (zaL tf41 (zs:=[_,_,_,_,_,_,_,_,_,_,_,_,_,_,_,_,_,_,_,_]) rfl) fun b5=>?_
 refine gQ (zad rfl) ?_
 refine zag (zae (T':=[(1,_),(2,_),(4,_),(5,_),(6,_)]) ⟨rfl,rfl,rfl,rfl,rfl,trivial⟩ ?_)
 refine zac ?_
 refine zac ?_
 refine zaa ?_
 refine gQ (zat 2 tf31 rfl rfl (vs:=[_,_]) rfl rfl) ?_
 refine gQ (zaJ en16 rfl (fun w hw=>ztt _ _ S _ _ V w (Rd.has (Has.rd hl) hw) hs hcS (Rd.has (Has.rd hlw) hw) hsw (fun z hz=>(Rd.has (Has.rd (hsh z hz)) hw)) hss (fun z hz=>(Rd.has (Has.rd (hwo z hz)) hw)) hsv hcp hkn)) ?_
 refine gQ (zad rfl) ?_
 refine zag (zae (T':=[(1,_),(2,_),(4,_),(5,_),(6,_),(7,_)]) ⟨rfl,rfl,rfl,rfl,rfl,rfl,trivial⟩ ?_)
 refine zac ?_
 refine zaa ?_
 refine gQ (zaf rfl) ?_
 refine gQ (zcr rfl rfl) ?_
 refine zag (zae (T':=[(1,_),(2,_),(4,_),(5,_),(6,_),(7,_),(14,_)]) ⟨rfl,rfl,rfl,rfl,rfl,rfl,rfl,trivial⟩ ?_)
 refine zap rfl (fun hc14=>?_) (fun hc14=>?_)
 ·have hP:¬ zc4 S V=true:=fun h=>by rw [zeW,if_pos h] at hc14; simp at hc14
  have hE:zb6 S V n=2:=zm8 hP
  have hC:zeW S V=2:=if_neg hP
  refine zac ?_
  refine zaa ?_
  refine gQ (zaI (parts:=[]) rfl zvb) ?_
  refine gQ (zaI (parts:=[]) rfl ztl) ?_
  refine gQ (zaf rfl) ?_
  refine zaA 1 tf94 rfl rfl (vs:=[_,_,_,_]) rfl rfl rfl rfl rfl ?_
  refine zbz 0 tf41 rfl rfl (vs:=[_,_,_,_,_,_,_,_,_,_,_,_,_,_,_,_,_,_,_,_]) rfl rfl rfl rfl rfl ?_
  refine gQ (zad rfl) ?_
  refine zag (zae (T':=[(1,_),(2,_),(4,_),(5,_),(6,_)]) ⟨rfl,rfl,rfl,rfl,rfl,trivial⟩ ?_)
  refine zaw ?_
  refine zay (zdh rfl (zbU (i:=1) (vs:=[_,_,_,_]) tf94 rfl rfl rfl rfl) (zbU (i:=0) (vs:=[.string ⟨#[]⟩,.int .i64 0,.int .i64 0,.int .i64 0,.int .i64 0,.slice none 0 0,.int .i64 0,.int .i64 0,.int .i64 0,.int .i64 0,.int .i64 0,.int .i64 0,.int .i64 0,.int .u8 0,.int .i64 0,.int .i64 0,.int .i64 0,.int .i64 0,.int .i64 0,.int .i64 0]) tf41 rfl rfl rfl rfl) (zau rfl)) ?_
  rw [hC]; rw [show zaN S V n=default from if_neg (by rw [hE]; decide),show zar S V n=default from if_neg (by rw [hE]; decide),hE]; rfl
 ·have hP:zc4 S V=true:=Classical.byContradiction fun h=>by rw [zeW,if_neg h] at hc14; simp at hc14
  refine zaq ?_
  refine zac ?_
  refine zaa ?_
  refine gQ (zat 2 tf31 rfl rfl (vs:=[_,_]) rfl rfl) ?_
  refine gQ (zaf rfl) ?_
  refine gQ (zaJ en47 rfl (fun w hw=>zkg _ _ _ _ _ V _ w (Rd.has (Has.rd hlw) hw) (by assumption))) ?_
  refine gQ (zad rfl) ?_
  refine zag (zae (T':=[(2,_),(4,_),(5,_),(6,_),(8,_)]) ⟨rfl,rfl,rfl,rfl,rfl,trivial⟩ ?_)
  refine zac ?_
  refine zac ?_
  refine zaa ?_
  refine gQ (zaf rfl) ?_
  refine gQ (zbw rfl rfl) ?_
  refine zag (zae (T':=[(2,_),(4,_),(5,_),(6,_),(8,_),(22,_)]) ⟨rfl,rfl,rfl,rfl,rfl,rfl,trivial⟩ ?_)
  refine zap rfl (fun hc22=>?_) (fun hc22=>?_)
  ·have hc22:=of_decide_eq_true hc22
   have hE:zb6 S V n=6:=zkV hP (by omega)
   refine zac ?_
   refine zaa ?_
   refine gQ (zaI (parts:=[]) rfl zvb) ?_
   refine gQ (zaI (parts:=[]) rfl ztl) ?_
   refine zaA 1 tf94 rfl rfl (vs:=[_,_,_,_]) rfl rfl rfl rfl rfl ?_
   refine zbz 0 tf41 rfl rfl (vs:=[_,_,_,_,_,_,_,_,_,_,_,_,_,_,_,_,_,_,_,_]) rfl rfl rfl rfl rfl ?_
   refine gQ (zad rfl) ?_
   refine zag (zae (T':=[(2,_),(4,_),(5,_),(6,_),(8,_)]) ⟨rfl,rfl,rfl,rfl,rfl,trivial⟩ ?_)
   refine zaw ?_
   refine zay (zdh rfl (zbU (i:=1) (vs:=[_,_,_,_]) tf94 rfl rfl rfl rfl) (zbU (i:=0) (vs:=[.string ⟨#[]⟩,.int .i64 0,.int .i64 0,.int .i64 0,.int .i64 0,.slice none 0 0,.int .i64 0,.int .i64 0,.int .i64 0,.int .i64 0,.int .i64 0,.int .i64 0,.int .i64 0,.int .u8 0,.int .i64 0,.int .i64 0,.int .i64 0,.int .i64 0,.int .i64 0,.int .i64 0]) tf41 rfl rfl rfl rfl) (zau rfl)) ?_
   rw [show zaN S V n=default from if_neg (by rw [hE]; decide),show zar S V n=default from if_neg (by rw [hE]; decide),hE]; rfl
  ·have hc22:=of_decide_eq_false hc22
   have h0:0≤zaM V n:=by omega
   have h1:=hlt h0
   have hE:zb6 S V n=0:=zpp hP h0
   refine zaq ?_
   refine zac ?_
   refine zf3 (ch [(11,Nat)]) 14 [0,0,2,0,14,30,62,127,255,511,511,0,3071,8191] (fun _=>mixed) (by kernel_rfl) (zjK _ ⟨inferInstance,trivial⟩) ?_
   refine zbD (fun ρ=>zat 2 tf31 rfl rfl (vs:=[_,_]) rfl rfl) (fun ρ ρ' h=>by rfl) ?_
   refine zbD (fun ρ=>zab zd7 rfl) (fun ρ ρ' h=>by rfl) ?_
   refine zbD (fun ρ=>zah 2 tf29 rfl rfl rfl) (fun ρ ρ' h=>by rfl) ?_
   refine zbD (fun ρ=>zaf rfl) (fun ρ ρ' h=>by rfl) ?_
   refine zbD (fun ρ=>zaE se29 rfl rfl (fun _ hw=>(Rd.has (Has.rd hlw) hw)) (by omega) (by omega)) (fun ρ ρ' h=>by rfl) ?_
   refine zbD (fun ρ=>zbh zni rfl (fun w hw=>zaO (i:=(zaM V n)) (Rd.has (Has.rd hlw) hw) (by omega) (by omega))) (fun ρ ρ' h=>by rfl) ?_
   refine zbD (fun ρ=>zbn tf9 rfl (fun _ hw=>(Rd.has (Has.rd hlw) hw)) (by omega) (by omega) rfl) (fun ρ ρ' h=>by rfl) ?_
   refine zbD (fun ρ=>zaJ en46 rfl (fun w hw=>zeu _ _ S _ _ _ _ w (Rd.has (Has.rd hl) hw) (by assumption))) (fun ρ ρ' h=>by rfl) ?_
   refine zbD (fun ρ=>zaf rfl) (fun ρ ρ' h=>by rfl) ?_
   refine zbD (fun ρ=>zaB rfl rfl) (fun ρ ρ' h=>by rfl) ?_
   refine zbD (fun ρ=>zaB rfl rfl) (fun ρ ρ' h=>by rfl) ?_
   refine zgB (fun ρ=>zaL tf41 (zs:=[_,_,_,_,_,_,_,_,_,_,_,_,_,_,_,_,_,_,_,_]) rfl) (fun ρ ρ' h=>⟨by rfl,by rfl⟩) ?_
   refine zlr (R:=fun ρ=>Box (ρ 11) [.string ⟨#[]⟩,.int .i64 0,.int .i64 0,.int .i64 0,.int .i64 0,.slice none 0 0,.int .i64 0,.int .i64 0,.int .i64 0,.int .i64 0,.int .i64 0,.int .i64 0,.int .i64 0,.int .u8 0,.int .i64 0,.int .i64 0,.int .i64 0,.int .i64 0,.int .i64 0,.int .i64 0] 41) (A:=fun ρ=>Box (ρ 11) [.string (zav S ((V.getD ((zaM V n)).toNat default).s.sheet)).s.name,.int .i64 ((zav S ((V.getD ((zaM V n)).toNat default).s.sheet)).s.base),.int .i64 ((zav S ((V.getD ((zaM V n)).toNat default).s.sheet)).s.batter),.int .i64 ((zav S ((V.getD ((zaM V n)).toNat default).s.sheet)).s.height),.int .i64 ((zav S ((V.getD ((zaM V n)).toNat default).s.sheet)).s.skin),.slice (zav S ((V.getD ((zaM V n)).toNat default).s.sheet)).a (zav S ((V.getD ((zaM V n)).toNat default).s.sheet)).s.heights.length (zav S ((V.getD ((zaM V n)).toNat default).s.sheet)).cap,.int .i64 ((zav S ((V.getD ((zaM V n)).toNat default).s.sheet)).s.least),.int .i64 ((zav S ((V.getD ((zaM V n)).toNat default).s.sheet)).s.lap),.int .i64 ((zav S ((V.getD ((zaM V n)).toNat default).s.sheet)).s.run),.int .i64 ((zav S ((V.getD ((zaM V n)).toNat default).s.sheet)).s.every),.int .i64 ((zav S ((V.getD ((zaM V n)).toNat default).s.sheet)).s.at_),.int .i64 ((zav S ((V.getD ((zaM V n)).toNat default).s.sheet)).s.footing),.int .i64 ((zav S ((V.getD ((zaM V n)).toNat default).s.sheet)).s.spread),.int .u8 (zav S ((V.getD ((zaM V n)).toNat default).s.sheet)).s.cope,.int .i64 ((zav S ((V.getD ((zaM V n)).toNat default).s.sheet)).s.tall),.int .i64 ((zav S ((V.getD ((zaM V n)).toNat default).s.sheet)).s.short),.int .i64 ((zav S ((V.getD ((zaM V n)).toNat default).s.sheet)).s.thick),.int .i64 ((zav S ((V.getD ((zaM V n)).toNat default).s.sheet)).s.low),.int .i64 ((zav S ((V.getD ((zaM V n)).toNat default).s.sheet)).s.high),.int .i64 ((zav S ((V.getD ((zaM V n)).toNat default).s.sheet)).s.rood)] 41) 11 rfl rfl (fun _=>rfl) (fun ρ=>zex tf41 rfl rfl (vs:=[_,_,_,_,_,_,_,_,_,_,_,_,_,_,_,_,_,_,_,_]) rfl rfl rfl rfl rfl) (fun ρ ρ' h=>by(first | rfl | simp only [h 11 rfl])) ?_
   refine zbD (fun ρ=>zad rfl) (fun ρ ρ' h=>by rfl) ?_
   refine fun ρ=>zag (zf4 (X:=Nat) (ρ 11) (fun b9=>[(2,.pointer (some ⟨b2,0,none⟩)),(4,.pointer (some ⟨b4,0,none⟩)),(5,.pointer (some ⟨b5,0,none⟩)),(6,.int .i64 0),(8,.int .i64 (zaM V n)),(9,.pointer (some ⟨b9,0,none⟩))]) (fun b9=>[Box b9 [.string (zav S ((V.getD ((zaM V n)).toNat default).s.sheet)).s.name,.int .i64 ((zav S ((V.getD ((zaM V n)).toNat default).s.sheet)).s.base),.int .i64 ((zav S ((V.getD ((zaM V n)).toNat default).s.sheet)).s.batter),.int .i64 ((zav S ((V.getD ((zaM V n)).toNat default).s.sheet)).s.height),.int .i64 ((zav S ((V.getD ((zaM V n)).toNat default).s.sheet)).s.skin),.slice (zav S ((V.getD ((zaM V n)).toNat default).s.sheet)).a (zav S ((V.getD ((zaM V n)).toNat default).s.sheet)).s.heights.length (zav S ((V.getD ((zaM V n)).toNat default).s.sheet)).cap,.int .i64 ((zav S ((V.getD ((zaM V n)).toNat default).s.sheet)).s.least),.int .i64 ((zav S ((V.getD ((zaM V n)).toNat default).s.sheet)).s.lap),.int .i64 ((zav S ((V.getD ((zaM V n)).toNat default).s.sheet)).s.run),.int .i64 ((zav S ((V.getD ((zaM V n)).toNat default).s.sheet)).s.every),.int .i64 ((zav S ((V.getD ((zaM V n)).toNat default).s.sheet)).s.at_),.int .i64 ((zav S ((V.getD ((zaM V n)).toNat default).s.sheet)).s.footing),.int .i64 ((zav S ((V.getD ((zaM V n)).toNat default).s.sheet)).s.spread),.int .u8 (zav S ((V.getD ((zaM V n)).toNat default).s.sheet)).s.cope,.int .i64 ((zav S ((V.getD ((zaM V n)).toNat default).s.sheet)).s.tall),.int .i64 ((zav S ((V.getD ((zaM V n)).toNat default).s.sheet)).s.short),.int .i64 ((zav S ((V.getD ((zaM V n)).toNat default).s.sheet)).s.thick),.int .i64 ((zav S ((V.getD ((zaM V n)).toNat default).s.sheet)).s.low),.int .i64 ((zav S ((V.getD ((zaM V n)).toNat default).s.sheet)).s.high),.int .i64 ((zav S ((V.getD ((zaM V n)).toNat default).s.sheet)).s.rood)] 41,Box b5 [.string ⟨#[]⟩,.int .i64 0,.int .i64 0,.int .i64 0,.int .i64 0,.slice none 0 0,.int .i64 0,.int .i64 0,.int .i64 0,.int .i64 0,.int .i64 0,.int .i64 0,.int .i64 0,.int .u8 0,.int .i64 0,.int .i64 0,.int .i64 0,.int .i64 0,.int .i64 0,.int .i64 0] 41,Box b4 [.string ⟨#[]⟩,.string ⟨#[]⟩,.int .i64 0,.slice none 0 0] 94,Box b2 [.slice a S.length cap,.slice b V.length bcap] 31]) ⟨rfl,rfl,rfl,rfl,rfl,rfl,trivial⟩ rfl ?_)
   rintro b9
   refine zac ?_
   refine zpN (R':=Box b4 [.string (V.getD ((zaM V n)).toNat default).s.name,.string (V.getD ((zaM V n)).toNat default).s.sheet,.int .i64 ((V.getD ((zaM V n)).toNat default).s.length),.slice (V.getD ((zaM V n)).toNat default).a (V.getD ((zaM V n)).toNat default).s.opens.length (V.getD ((zaM V n)).toNat default).cap] 94) 6 [5] 2 (fun _=>mixed) rfl rfl (by kernel_rfl) rfl ?_
   refine zcf (zab zd7 rfl) ?_
   refine zcf (zah 3 tf29 rfl rfl rfl) ?_
   refine zcf (zaf rfl) ?_
   refine zcf (zaE se29 rfl rfl (fun _ hw=>(Rd.has (Has.rd hlw) hw)) (by omega) (by omega)) ?_
   refine zcf (zbv (vs:=[_,_,_,_]) tf94 rfl (fun _ hw=>(Rd.has (Has.rd hlw) hw)) (by omega) (by omega) rfl) ?_
   refine zcf (zat 0 tf41 rfl rfl (vs:=[_,_,_,_,_,_,_,_,_,_,_,_,_,_,_,_,_,_,_,_]) rfl rfl) ?_
   refine⟨zex tf94 rfl rfl (vs:=[_,_,_,_]) rfl rfl rfl rfl rfl,?_⟩
   refine zae (T':=[(4,_),(5,_),(6,_),(41,_)]) ⟨rfl,rfl,rfl,rfl,trivial⟩ ?_
   refine zbz 1 tf41 rfl rfl (vs:=[_,_,_,_,_,_,_,_,_,_,_,_,_,_,_,_,_,_,_,_]) rfl rfl rfl rfl rfl ?_
   refine gQ (zad rfl) ?_
   refine zag (zae (T':=[(4,_),(5,_),(6,_)]) ⟨rfl,rfl,rfl,trivial⟩ ?_)
   refine zaw ?_
   refine zay (zdh rfl (zbU (i:=2) (vs:=[_,_,_,_]) tf94 rfl rfl rfl rfl) (zbU (i:=1) (vs:=[.string (zav S ((V.getD ((zaM V n)).toNat default).s.sheet)).s.name,.int .i64 ((zav S ((V.getD ((zaM V n)).toNat default).s.sheet)).s.base),.int .i64 ((zav S ((V.getD ((zaM V n)).toNat default).s.sheet)).s.batter),.int .i64 ((zav S ((V.getD ((zaM V n)).toNat default).s.sheet)).s.height),.int .i64 ((zav S ((V.getD ((zaM V n)).toNat default).s.sheet)).s.skin),.slice (zav S ((V.getD ((zaM V n)).toNat default).s.sheet)).a (zav S ((V.getD ((zaM V n)).toNat default).s.sheet)).s.heights.length (zav S ((V.getD ((zaM V n)).toNat default).s.sheet)).cap,.int .i64 ((zav S ((V.getD ((zaM V n)).toNat default).s.sheet)).s.least),.int .i64 ((zav S ((V.getD ((zaM V n)).toNat default).s.sheet)).s.lap),.int .i64 ((zav S ((V.getD ((zaM V n)).toNat default).s.sheet)).s.run),.int .i64 ((zav S ((V.getD ((zaM V n)).toNat default).s.sheet)).s.every),.int .i64 ((zav S ((V.getD ((zaM V n)).toNat default).s.sheet)).s.at_),.int .i64 ((zav S ((V.getD ((zaM V n)).toNat default).s.sheet)).s.footing),.int .i64 ((zav S ((V.getD ((zaM V n)).toNat default).s.sheet)).s.spread),.int .u8 (zav S ((V.getD ((zaM V n)).toNat default).s.sheet)).s.cope,.int .i64 ((zav S ((V.getD ((zaM V n)).toNat default).s.sheet)).s.tall),.int .i64 ((zav S ((V.getD ((zaM V n)).toNat default).s.sheet)).s.short),.int .i64 ((zav S ((V.getD ((zaM V n)).toNat default).s.sheet)).s.thick),.int .i64 ((zav S ((V.getD ((zaM V n)).toNat default).s.sheet)).s.low),.int .i64 ((zav S ((V.getD ((zaM V n)).toNat default).s.sheet)).s.high),.int .i64 ((zav S ((V.getD ((zaM V n)).toNat default).s.sheet)).s.rood)]) tf41 rfl rfl rfl rfl) (zau rfl)) ?_
   rw [zhF hE,zhE hE,hE,show zhq V n=V.getD (zaM V n).toNat default from if_pos h0]
end Go.Proofs.YtdcfcfhmkfkgmaaGreatDoor
namespace Go.Proofs.YtdcfcfhmkfkgmaaGreatDoor
open Go.K Go.Stn Go.Pln Go.RowKit
theorem en62:En Tryz.prog 62:=za7 Tryz.func62 (by kernel_rfl) (by kernel_rfl)
theorem en63:En Tryz.prog 63:=za7 Tryz.func63 (by kernel_rfl) (by kernel_rfl)
theorem en95:En Tryz.prog 95:=za7 Tryz.func95 (by kernel_rfl) (by kernel_rfl)
theorem en96:En Tryz.prog 96:=za7 Tryz.func96 (by kernel_rfl) (by kernel_rfl)
set_option maxRecDepth 100000 in
set_option maxHeartbeats 1000000 in
theorem zoZ (b:Option Addr) (bcap:Nat) (v:Wll) (c:Crs) (top:Int) (w:World) (hv:Has w (zaW b 5 zba v.opens)) (hF:WallF v top) (ht:top≤3000) :
  Calls Tryz.prog 63 #[.agg #[.string v.name,.string v.sheet,.int .i64 v.length,.slice b v.opens.length bcap],.agg #[.int .i64 c.frm,.int .i64 c.to]] w (zcU (fun z:Option Addr×Nat=>.slice z.1 (zbg v c).length z.2) (fun z=>Row z.1 2 z.2 69 zbq (zbg v c)) w):=by
 refine zan (vs:=[_,_]) Tryz.func63 rfl rfl (Nat.le_of_ble_eq_true rfl) ?_
 refine zac ?_
 refine zaa ?_
 refine zaG rfl rfl (za3 (vs:=[_,_,_,_]) rfl rfl) fun b2=>?_
 refine zaG rfl rfl (za3 (vs:=[_,_]) rfl rfl) fun b3=>?_
 refine gQ (zad rfl) ?_
 refine zag (zae (T':=[(2,_),(3,_),(4,_)]) ⟨rfl,rfl,rfl,trivial⟩ ?_)
 refine zac ?_
 refine zaa ?_
 refine gQ (zat 1 tf94 rfl rfl (vs:=[_,_,_,_]) rfl rfl) ?_
 refine gQ (zbO («as»:=[]) (bs:=[_]) rfl rfl) ?_
 refine zaG rfl rfl (zbm en95 rfl (fun w hw=>zlM _ _ v top (znn c) 96 [.pointer (some ⟨b3,0,none⟩)] en96 (Box b3 [.int .i64 c.frm,.int .i64 c.to] 49) w (Rd.has (Has.rd hv) hw) hF (hw.has (p:=0) rfl) (fun o w' hm=>ztj o c b3 w' hm))) fun p7=>?_
 refine gQ (zad rfl) ?_
 refine zag (zae (T':=[(4,_)]) ⟨rfl,trivial⟩ ?_)
 refine zaw ?_
 refine zbd p7 0 (zaC rfl (zau rfl)) ?_ (by rw [←zmV hF ht c]; rfl)
 rw [zmV hF ht c]
set_option maxRecDepth 100000 in
set_option maxHeartbeats 8000000 in
theorem zu1 (a:Option Addr) (cap:Nat) (S:List ShC) (b:Option Addr) (bcap:Nat) (V:List WlC) (n:ByteArray) (k:Int) (w:World) (hl:Has w (zaW a 20 zbH S)) (hs:zaP S.length) (hcS:S.length≤cap) (hlw:Has w (zaW b 4 zbS V)) (hsw:zaP V.length) (hsh:∀ z∈S,Has w (Ints z.a z.s.heights)) (hss:∀ z∈S,zaP z.s.heights.length) (hwo:∀ z∈V,Has w (zaW z.a 5 zba z.s.opens)) (hsv:∀ z∈V,zaP z.s.opens.length) (hcp:∀ z∈V,z.s.opens.length≤z.cap) (hkn:∀ z∈V,∀ o∈z.s.opens,Knd o) :
  Calls Tryz.prog 26 #[.agg #[.slice a S.length cap,.slice b V.length bcap],.string n,.int .i64 k] w (zcU (fun z:Option Addr×Nat=>.tuple #[.slice z.1 (ziX S V n k).length z.2,.int .i64 (zhJ S V n k)]) (fun z=>Row z.1 2 z.2 69 zbq (ziX S V n k)) w):=by
 refine zan (vs:=[_,_,_]) Tryz.func26 rfl rfl (Nat.le_of_ble_eq_true rfl) ?_
 refine zac ?_
 refine zaa ?_
 refine zaG rfl rfl (za3 (vs:=[_,_]) rfl rfl) fun b3=>?_
 refine gQ (zad rfl) ?_
 refine gQ (zad rfl) ?_
 refine zag (zae (T':=[(1,_),(2,_),(3,_),(6,_),(7,_)]) ⟨rfl,rfl,rfl,rfl,rfl,trivial⟩ ?_)
 refine zac ?_
 refine zaa ?_
 refine gQ (zat 0 tf31 rfl rfl (vs:=[_,_]) rfl rfl) ?_
 refine gQ (zaf rfl) ?_
 refine gQ (zaJ en62 rfl (fun w hw=>zm9 _ _ S _ _ V n w (Rd.has (Has.rd hl) hw) hs hcS (Rd.has (Has.rd hlw) hw) hsw (fun z hz=>(Rd.has (Has.rd (hsh z hz)) hw)) hss (fun z hz=>(Rd.has (Has.rd (hwo z hz)) hw)) hsv hcp hkn)) ?_
 refine gQ (zaf rfl) ?_
 refine gQ (zaB rfl rfl) ?_
 refine gQ (zaB rfl rfl) ?_
 refine gQ (zaB rfl rfl) ?_
 refine zaG rfl rfl (zaL tf94 (zs:=[_,_,_,_]) rfl) fun b8=>?_
 refine zaG rfl rfl (zaL tf41 (zs:=[_,_,_,_,_,_,_,_,_,_,_,_,_,_,_,_,_,_,_,_]) rfl) fun b9=>?_
 refine zaA 1 tf94 rfl rfl (vs:=[_,_,_,_]) rfl rfl rfl rfl rfl ?_
 refine zbz 0 tf41 rfl rfl (vs:=[_,_,_,_,_,_,_,_,_,_,_,_,_,_,_,_,_,_,_,_]) rfl rfl rfl rfl rfl ?_
 refine gQ (zad rfl) ?_
 refine zag (zae (T':=[(2,_),(6,_),(7,_),(8,_),(9,_),(10,_)]) ⟨rfl,rfl,rfl,rfl,rfl,rfl,trivial⟩ ?_)
 refine zac ?_
 refine zac ?_
 refine zaa ?_
 refine gQ (zaf rfl) ?_
 refine gQ (zcr rfl rfl) ?_
 refine zag (zae (T':=[(2,_),(6,_),(7,_),(8,_),(9,_),(10,_),(20,_)]) ⟨rfl,rfl,rfl,rfl,rfl,rfl,rfl,trivial⟩ ?_)
 refine zap rfl (fun hc20=>?_) (fun hc20=>?_)
 ·have hE:¬ zb6 S V n=0:=by simpa using hc20
  obtain⟨e1,e2⟩:=zra (k:=k) hE
  refine zbB 69 zbq 2 ?_
  refine zac ?_
  refine zaa ?_
  refine gQ (zaf rfl) ?_
  refine gQ (zad rfl) ?_
  refine gQ (zad rfl) ?_
  refine zag (zae (T':=[(2,_),(6,_),(7,_),(8,_),(9,_)]) ⟨rfl,rfl,rfl,rfl,rfl,trivial⟩ ?_)
  refine zaw ?_
  refine zbd (none,0) 0 (zc2 rfl (zau rfl) (zau rfl)) ?_ (by rw [e2]; rfl)
  rw [e1,e2] <;> rfl
 ·have hE:zb6 S V n=0:=by simpa using hc20
  obtain⟨m1,m2,hsp,hF⟩:=zfu hE
  have hnm:=zaZ hsp
  have htop:=hnm.height
  refine zaq ?_
  refine zac ?_
  refine zaa ?_
  refine gQ (zat 0 tf41 rfl rfl (vs:=[_,_,_,_,_,_,_,_,_,_,_,_,_,_,_,_,_,_,_,_]) rfl rfl) ?_
  refine zaG rfl rfl (zbm en49 rfl (fun w hw=>ze3 ((zar S V n).a) ((zar S V n).cap) ((zar S V n).s) w (Rd.has (Has.rd (zhG hsh)) hw) hnm)) fun p23=>?_
  refine gQ (zad rfl) ?_
  refine zag (zae (T':=[(2,_),(6,_),(7,_),(8,_),(11,_)]) ⟨rfl,rfl,rfl,rfl,rfl,trivial⟩ ?_)
  refine zac ?_
  refine zac ?_
  refine zbb 8 (fun _=>mixed) (by kernel_rfl) ?_
  refine ph_y (zaf rfl) ?_
  refine ph_y (zbw rfl rfl) ?_
  refine ph_y (zaf rfl) ?_
  refine zaz rfl rfl (fun hgd=>by(try rw [hgd]); exact(zaf rfl)) ?_
  refine zaz rfl rfl (fun hgd=>by(try rw [hgd]); exact(zaf rfl)) ?_
  refine zaz rfl rfl (fun hgd=>by(try rw [hgd]); exact(zaV (Tryz.underlying38) rfl)) ?_
  refine zaz rfl rfl (fun hgd=>by(try rw [hgd]); exact(zfx rfl rfl)) ?_
  refine ph_y (zaR rfl rfl rfl) ?_
  refine zag (zae (T':=[(2,_),(6,_),(7,_),(8,_),(11,_),(31,_)]) ⟨rfl,rfl,rfl,rfl,rfl,rfl,trivial⟩ ?_)
  refine zap rfl (fun hc31=>?_) (fun hc31=>?_)
  ·obtain⟨e1,e2⟩:=zoX (k:=k) hE (by simpa only [Bool.or_eq_true,decide_eq_true_eq] using hc31)
   refine zbB 69 zbq 2 ?_
   refine zac ?_
   refine zaa ?_
   refine gQ (zad rfl) ?_
   refine gQ (zad rfl) ?_
   refine zag (zae (T':=[(2,_),(6,_),(7,_),(8,_),(11,_)]) ⟨rfl,rfl,rfl,rfl,rfl,trivial⟩ ?_)
   refine zaw ?_
   refine zbd (none,0) 0 (zc2 rfl (zau rfl) (zau rfl)) ?_ (by rw [e2]; rfl)
   rw [e1,e2] <;> rfl
  ·have hk:¬ (k < 0∨((zaj (zar S V n).s).length:Int)≤k):=by simp only [Bool.or_eq_false_iff,decide_eq_false_iff_not] at hc31; omega
   obtain⟨e1,e2⟩:=zmT (k:=k) hE hk
   refine zaq ?_
   refine zac ?_
   refine zbb 6 (fun _=>mixed) (by kernel_rfl) ?_
   refine ph_y (zat 2 tf94 rfl rfl (vs:=[_,_,_,_]) rfl rfl) ?_
   refine ph_y (zaf rfl) ?_
   refine ph_y (zaf rfl) ?_
   refine ph_y (zaE se38 rfl rfl (fun _ hw=>(zam zax (hw.has (p:=0) rfl))) (by omega) (by omega)) ?_
   refine ph_y (zbv (vs:=[_,_]) tf49 rfl (fun _ hw=>(zam zax (hw.has (p:=0) rfl))) (by omega) (by omega) rfl) ?_
   refine zmr (zbm en63 rfl (fun w hw=>zoZ _ _ (zaN S V n).s ((zaj (zar S V n).s).getD k.toNat default) _ w (Rd.has (Has.rd (zfL hwo)) hw) hF (by omega))) ?_
   intro p37
   refine zae (T':=[(6,_),(7,_),(37,_)]) ⟨rfl,rfl,rfl,trivial⟩ ?_
   refine gQ (zad rfl) ?_
   refine gQ (zad rfl) ?_
   refine zag (zae (T':=[(6,_),(7,_)]) ⟨rfl,rfl,trivial⟩ ?_)
   refine zaw ?_
   refine zbd p37 0 (zc2 rfl (zau rfl) (zau rfl)) ?_ (by rw [e2]; rfl)
   rw [e1,e2] <;> rfl
end Go.Proofs.YtdcfcfhmkfkgmaaGreatDoor
namespace Go.Proofs.YtdcfcfhmkfkgmaaGreatDoor
open Go.K Go.Stn Go.Pln Go.RowKit
theorem zpz:FO Tryz.prog 69 0 0:=⟨by kernel_rfl⟩
theorem zng:FO Tryz.prog 69 1 1:=⟨by kernel_rfl⟩
theorem en97:En Tryz.prog 97:=za7 Tryz.func97 (by kernel_rfl) (by kernel_rfl)
theorem en98:En Tryz.prog 98:=za7 Tryz.func98 (by kernel_rfl) (by kernel_rfl)
theorem en99:En Tryz.prog 99:=za7 Tryz.func99 (by kernel_rfl) (by kernel_rfl)
theorem zwY:En Tryz.prog 100:=za7 Tryz.func100 (by kernel_rfl) (by kernel_rfl)
set_option maxRecDepth 100000 in
set_option maxHeartbeats 1000000 in
theorem zwn (c:Crs) (a:Option Addr) (cap:Nat) (s:Sht) (b:Nat) (w:World) (hb:Has w (Box b [.string s.name,.int .i64 s.base,.int .i64 s.batter,.int .i64 s.height,.int .i64 s.skin,.slice a s.heights.length cap,.int .i64 s.least,.int .i64 s.lap,.int .i64 s.run,.int .i64 s.every,.int .i64 s.at_,.int .i64 s.footing,.int .i64 s.spread,.int .u8 s.cope,.int .i64 s.tall,.int .i64 s.short,.int .i64 s.thick,.int .i64 s.low,.int .i64 s.high,.int .i64 s.rood] 41)) :
  Calls Tryz.prog 98 #[.agg #[.int .i64 c.frm,.int .i64 c.to],.pointer (some ⟨b,0,none⟩)] w (Pure (.bool (decide (s.at_≤c.frm))) w):=by
 refine zan (vs:=[_,_]) Tryz.func98 rfl rfl (Nat.le_of_ble_eq_true rfl) ?_
 refine zac ?_
 refine zaa ?_
 refine zaG rfl rfl (za3 (vs:=[_,_]) rfl rfl) fun b2=>?_
 refine gQ (zad rfl) ?_
 refine zag (zae (T':=[(1,_),(2,_),(3,_)]) ⟨rfl,rfl,rfl,trivial⟩ ?_)
 refine zac ?_
 refine zaa ?_
 refine gQ (zab zne rfl) ?_
 refine gQ (zah 0 tf3 rfl rfl rfl) ?_
 refine gQ (zab zh9 rfl) ?_
 refine gQ (zbW tf3 rfl (fun _ hw=>zaQ (Rd.has (Has.rd hb) hw) rfl)) ?_
 refine gQ (zfx rfl rfl) ?_
 refine gQ (zad rfl) ?_
 refine zag (zae (T':=[(3,_)]) ⟨rfl,trivial⟩ ?_)
 refine zaw ?_
 refine zay (zaC rfl (zau rfl)) ?_
 rfl
set_option maxRecDepth 100000 in
set_option maxHeartbeats 1000000 in
theorem zwo (c:Crs) (x:Int) (b:Nat) (w:World) (hb:Has w (Box b [.int .i64 x] 3)) :
  Calls Tryz.prog 100 #[.agg #[.int .i64 c.frm,.int .i64 c.to],.pointer (some ⟨b,0,none⟩)] w (Pure (.bool (decide (c.frm < x)&&decide (x < c.to))) w):=by
 refine zan (vs:=[_,_]) Tryz.func100 rfl rfl (Nat.le_of_ble_eq_true rfl) ?_
 refine zac ?_
 refine zaa ?_
 refine zaG rfl rfl (za3 (vs:=[_,_]) rfl rfl) fun b2=>?_
 refine gQ (zad rfl) ?_
 refine zag (zae (T':=[(1,_),(2,_),(3,_)]) ⟨rfl,rfl,rfl,trivial⟩ ?_)
 refine zac ?_
 refine zbb 11 (fun _=>mixed) (by kernel_rfl) ?_
 refine ph_y (zab zpz rfl) ?_
 refine ph_y (zah 0 tf3 rfl rfl rfl) ?_
 refine ph_y (zbW tf3 rfl (fun _ hw=>zaQ (Rd.has (Has.rd hb) hw) rfl)) ?_
 refine ph_y (zbw rfl rfl) ?_
 refine ph_y (zaf rfl) ?_
 refine zaH rfl rfl (fun hgd=>by(try rw [hgd]); exact(zbW tf3 rfl (fun _ hw=>zaQ (Rd.has (Has.rd hb) hw) rfl))) ?_
 refine zaH rfl rfl (fun hgd=>by(try rw [hgd]); exact(zab zng rfl)) ?_
 refine zaH rfl rfl (fun hgd=>by(try rw [hgd]); exact(zah 0 tf3 rfl rfl rfl)) ?_
 refine zaH rfl rfl (fun hgd=>by(try rw [hgd]); exact(zbw rfl rfl)) ?_
 refine ph_y (zaX rfl rfl rfl) ?_
 refine ph_y (zad rfl) ?_
 refine zag (zae (T':=[(3,_)]) ⟨rfl,trivial⟩ ?_)
 refine zaw ?_
 refine zay (zaC rfl (zau rfl)) ?_
 rfl
set_option maxRecDepth 100000 in
set_option maxHeartbeats 8000000 in
theorem zjx (b:Option Addr) (bcap:Nat) (v:Wll) (a:Option Addr) (cap:Nat) (s:Sht) (w:World) (hv:Has w (zaW b 5 zba v.opens)) (hl:Has w (Ints a s.heights)) (hF:WallF v s.height) (hsp:za4 s=true) :
  Calls Tryz.prog 65 #[.agg #[.string v.name,.string v.sheet,.int .i64 v.length,.slice b v.opens.length bcap],.agg #[.string s.name,.int .i64 s.base,.int .i64 s.batter,.int .i64 s.height,.int .i64 s.skin,.slice a s.heights.length cap,.int .i64 s.least,.int .i64 s.lap,.int .i64 s.run,.int .i64 s.every,.int .i64 s.at_,.int .i64 s.footing,.int .i64 s.spread,.int .u8 s.cope,.int .i64 s.tall,.int .i64 s.short,.int .i64 s.thick,.int .i64 s.low,.int .i64 s.high,.int .i64 s.rood]] w (zcU (fun z:Option Addr×Nat=>.tuple #[.int .i64 (zi2 s),.slice z.1 (thrL v s).length z.2]) (fun z=>Row z.1 1 z.2 3 Go.Stn.encI (thrL v s)) w):=by
 have hnm:=zaZ hsp
 have htop:=hnm.height
 have hlen:=hF.len
 have hncr:=zcv hsp
 have hti:=Pln.findI_lt (fun c:Crs=>decide (s.at_≤c.frm)) (zaj s)
 have hbn:=zek hF (zgu ((zaj s).getD (thrI s).toNat default))
 refine zan (vs:=[_,_]) Tryz.func65 rfl rfl (Nat.le_of_ble_eq_true rfl) ?_
 refine zac ?_
 refine zaa ?_
 refine zaG rfl rfl (za3 (vs:=[_,_,_,_]) rfl rfl) fun b2=>?_
 refine zaG rfl rfl (za3 (vs:=[_,_,_,_,_,_,_,_,_,_,_,_,_,_,_,_,_,_,_,_]) rfl rfl) fun b3=>?_
 refine gQ (zad rfl) ?_
 refine gQ (zad rfl) ?_
 refine zag (zae (T':=[(2,_),(3,_),(4,_),(5,_)]) ⟨rfl,rfl,rfl,rfl,trivial⟩ ?_)
 refine zac ?_
 refine zaa ?_
 refine gQ (zat 0 tf41 rfl rfl (vs:=[_,_,_,_,_,_,_,_,_,_,_,_,_,_,_,_,_,_,_,_]) rfl rfl) ?_
 refine zaG rfl rfl (zbm en49 rfl (fun w hw=>ze3 a cap s w (Rd.has (Has.rd hl) hw) hnm)) fun p12=>?_
 refine gQ (zad rfl) ?_
 refine zag (zae (T':=[(2,_),(3,_),(4,_),(5,_),(6,_)]) ⟨rfl,rfl,rfl,rfl,rfl,trivial⟩ ?_)
 refine zac ?_
 refine zaa ?_
 refine gQ (zaf rfl) ?_
 refine gQ (zbO («as»:=[]) (bs:=[_]) rfl rfl) ?_
 refine gQ (zaJ en97 rfl (fun w hw=>show Calls _ _ _ w (Pure (.int .i64 (thrI s)) w) from zla _ _ (zaj s) (fun c:Crs=>decide (s.at_≤c.frm)) 98 [] [.pointer (some ⟨b3,0,none⟩)] w (zam zax (hw.has (p:=0) rfl)) (by unfold zaP; omega) (fun w'=>Has w' (Box b3 [.string s.name,.int .i64 s.base,.int .i64 s.batter,.int .i64 s.height,.int .i64 s.skin,.slice a s.heights.length cap,.int .i64 s.least,.int .i64 s.lap,.int .i64 s.run,.int .i64 s.every,.int .i64 s.at_,.int .i64 s.footing,.int .i64 s.spread,.int .u8 s.cope,.int .i64 s.tall,.int .i64 s.short,.int .i64 s.thick,.int .i64 s.low,.int .i64 s.high,.int .i64 s.rood] 41)) (fun w' hx=>Has.ext (hw.has (p:=1) rfl) hx) en98 (fun z w' hm=>zwn z a cap s b3 w' hm))) ?_
 refine gQ (zad rfl) ?_
 refine zag (zae (T':=[(2,_),(3,_),(4,_),(5,_),(6,_),(7,_)]) ⟨rfl,rfl,rfl,rfl,rfl,rfl,trivial⟩ ?_)
 refine zac ?_
 refine zac ?_
 refine zbb 7 (fun _=>mixed) (by kernel_rfl) ?_
 refine ph_y (zab zhc rfl) ?_
 refine ph_y (zah 1 tf3 rfl rfl rfl) ?_
 refine ph_y (zbL rfl rfl) ?_
 refine ph_y (zaf rfl) ?_
 refine zaz rfl rfl (fun hgd=>by(try rw [hgd]); (try have hgd2:=hgd); exact(zaf rfl)) ?_
 refine zaz rfl rfl (fun hgd=>by(try rw [hgd]); (try have hgd2:=hgd); exact(zbw rfl rfl)) ?_
 refine ph_y (zaR rfl rfl rfl) ?_
 refine zag (zae (T':=[(2,_),(3,_),(4,_),(5,_),(6,_),(7,_),(22,_)]) ⟨rfl,rfl,rfl,rfl,rfl,rfl,rfl,trivial⟩ ?_)
 refine zap rfl (fun hc22=>?_) (fun hc22=>?_)
 ·have hno:zi3 s=true:=hc22
  have e1:zi2 s = -1:=if_pos hno
  have e2:thrL v s=[]:=if_pos hno
  refine zbB 3 Go.Stn.encI 1 ?_
  refine zac ?_
  refine zaa ?_
  refine gQ (zad rfl) ?_
  refine gQ (zad rfl) ?_
  refine zag (zae (T':=[(2,_),(3,_),(4,_),(5,_),(6,_),(7,_)]) ⟨rfl,rfl,rfl,rfl,rfl,rfl,trivial⟩ ?_)
  refine zaw ?_
  refine zbd (none,0) 0 (zc2 rfl (zau rfl) (zau rfl)) ?_ (by rw [e2]; rfl)
  rw [e1,e2] <;> rfl
 ·have hno:zi3 s=false:=hc22
  have hno2:=hno
  unfold zi3 at hno2
  rw [Bool.or_eq_false_iff,decide_eq_false_iff_not,decide_eq_false_iff_not] at hno2
  obtain⟨h1,h2⟩:=hno2
  have e1:zi2 s=thrI s:=if_neg (by rw [hno]; exact Bool.false_ne_true)
  have e2:thrL v s=thrX (zbg v ((zaj s).getD (thrI s).toNat default)) v.length s.every (s.every.tdiv 2):=if_neg (by rw [hno]; exact Bool.false_ne_true)
  have hev:=zjQ hsp h1
  have hq:s.every.tdiv 2=s.every / 2:=Int.tdiv_eq_ediv_of_nonneg (by omega)
  have hti2:thrI s < ((zaj s).length:Int):=by unfold thrI at *; omega
  refine zaq ?_
  refine zac ?_
  refine zbb 6 (fun _=>mixed) (by kernel_rfl) ?_
  refine ph_y (zat 2 tf94 rfl rfl (vs:=[_,_,_,_]) rfl rfl) ?_
  refine ph_y (zaf rfl) ?_
  refine ph_y (zaf rfl) ?_
  refine ph_y (zaE se38 rfl rfl (fun _ hw=>(zam zax (hw.has (p:=0) rfl))) (by omega) (by omega)) ?_
  refine ph_y (zbv (vs:=[_,_]) tf49 rfl (fun _ hw=>(zam zax (hw.has (p:=0) rfl))) (by omega) (by omega) rfl) ?_
  refine zmr (zbm en63 rfl (fun w hw=>zoZ _ _ v ((zaj s).getD (thrI s).toNat default) _ w (Rd.has (Has.rd hv) hw) hF (by omega))) ?_
  intro p28
  refine zae (T':=[(2,_),(3,_),(4,_),(5,_),(7,_),(28,_)]) ⟨rfl,rfl,rfl,rfl,rfl,rfl,trivial⟩ ?_
  refine gQ (zad rfl) ?_
  refine zag (zae (T':=[(2,_),(3,_),(4,_),(5,_),(7,_),(8,_)]) ⟨rfl,rfl,rfl,rfl,rfl,rfl,trivial⟩ ?_)
  refine zac ?_
  refine zaa ?_
  refine gQ (zad rfl) ?_
  refine zag (zae (T':=[(2,_),(3,_),(4,_),(5,_),(7,_),(8,_),(9,_)]) ⟨rfl,rfl,rfl,rfl,rfl,rfl,rfl,trivial⟩ ?_)
  refine zac ?_
  refine zac ?_
  refine zaa ?_
  refine gQ (zab zhc rfl) ?_
  refine gQ (zah 2 tf3 rfl rfl rfl) ?_
  refine gQ (zoI rfl rfl (by omega)) ?_
  refine zaG rfl rfl (zaL tf3 (zs:=[_]) rfl) fun b10=>?_
  refine zaA 0 tf3 rfl rfl (vs:=[_]) rfl rfl rfl rfl rfl ?_
  refine zag (zae (T':=[(2,_),(3,_),(4,_),(5,_),(7,_),(8,_),(9,_),(10,_)]) ⟨rfl,rfl,rfl,rfl,rfl,rfl,rfl,rfl,trivial⟩ ?_)
  refine za2 (R':=Box b10 [.int .i64 (s.every.tdiv 2)] 3) 0 rfl (fun B w hA=>by rw [show IntKind.i64.wrap (Int.tdiv s.every 2)=s.every.tdiv 2 from zbr (by omega) (by omega)] at hA; exact hA) ?_
  refine zas ?_
  refine zbB 3 Go.Stn.encI 1 ?_
  refine zbf (X:=Int×Nat×Option Addr×Nat×List Int) (fun⟨x,bx,rb,rc,N⟩=>[(2,.pointer (some ⟨b2,0,none⟩)),(3,.pointer (some ⟨b3,0,none⟩)),(4,.int .i64 0),(5,.slice none 0 0),(7,.int .i64 (thrI s)),(8,.slice p28.1 (zbg v ((zaj s).getD (thrI s).toNat default)).length p28.2),(9,.slice rb N.length rc),(10,.pointer (some ⟨bx,0,none⟩))]) (fun⟨x,bx,rb,rc,N⟩=>[Row rb 1 rc 3 Go.Stn.encI N,Box bx [.int .i64 x] 3,Row p28.1 2 p28.2 69 zbq (zbg v ((zaj s).getD (thrI s).toNat default)),Row p12.1 2 p12.2 49 zbq (zaj s),Box b3 [.string s.name,.int .i64 s.base,.int .i64 s.batter,.int .i64 s.height,.int .i64 s.skin,.slice a s.heights.length cap,.int .i64 s.least,.int .i64 s.lap,.int .i64 s.run,.int .i64 s.every,.int .i64 s.at_,.int .i64 s.footing,.int .i64 s.spread,.int .u8 s.cope,.int .i64 s.tall,.int .i64 s.short,.int .i64 s.thick,.int .i64 s.low,.int .i64 s.high,.int .i64 s.rood] 41,Box b2 [.string v.name,.string v.sheet,.int .i64 v.length,.slice b v.opens.length bcap] 94]) (fun⟨x,bx,rb,rc,N⟩=>(0≤x∧(N.length:Int)≤x∧x < 200001∧N++thrX (zbg v ((zaj s).getD (thrI s).toNat default)) v.length s.every x=thrL v s)) (fun⟨x,bx,rb,rc,N⟩=>(v.length - x).toNat) (s.every.tdiv 2,b10,none,0,[]) ⟨rfl,rfl,rfl,rfl,rfl,rfl,rfl,rfl,trivial⟩ rfl ?_ ?_
  ·exact⟨by omega,by simp; omega,by omega,by rw [e2]; rfl⟩
  ·rintro ⟨x,bx,rb,rc,N⟩ hI
   obtain⟨g0,g1,g2,g3⟩:=hI
   refine zac ?_
   refine zac ?_
   refine zaa ?_
   refine gQ (zah 1 tf3 rfl rfl rfl) ?_
   refine gQ (zab zgo rfl) ?_
   refine gQ (zah 5 tf3 rfl rfl rfl) ?_
   refine gQ (zbw rfl rfl) ?_
   refine zag (zae (T':=[(2,_),(3,_),(4,_),(5,_),(7,_),(8,_),(9,_),(10,_),(35,_)]) ⟨rfl,rfl,rfl,rfl,rfl,rfl,rfl,rfl,rfl,trivial⟩ ?_)
   refine zap rfl (fun hc35=>?_) (fun hc35=>?_)
   ·have hc35:=of_decide_eq_true hc35
    have hst:=zlH (bs:=(zbg v ((zaj s).getD (thrI s).toNat default))) (e:=s.every) hev.1 hc35
    refine zaq ?_
    refine zac ?_
    refine zas ?_
    refine zac ?_
    refine zaa ?_
    refine gQ (zaf rfl) ?_
    refine gQ (zbO («as»:=[]) (bs:=[_]) rfl rfl) ?_
    refine gQ (zaJ en99 rfl (fun w hw=>zhO _ _ (zbg v ((zaj s).getD (thrI s).toNat default)) (fun c:Crs=>decide (c.frm < x)&&decide (x < c.to)) 100 [] [.pointer (some ⟨bx,0,none⟩)] w (zam zax (hw.has (p:=2) rfl)) (by unfold zaP zbg; omega) (fun w'=>Has w' (Box bx [.int .i64 x] 3)) (fun w' hx=>Has.ext (hw.has (p:=1) rfl) hx) zwY (fun z w' hm=>zwo z x bx w' hm))) ?_
    refine zag (zae (T':=[(2,_),(3,_),(4,_),(5,_),(7,_),(8,_),(9,_),(10,_),(42,_)]) ⟨rfl,rfl,rfl,rfl,rfl,rfl,rfl,rfl,rfl,trivial⟩ ?_)
    refine zap rfl (fun hc42=>?_) (fun hc42=>?_)
    ·have hst2:=hst.trans (if_pos (show thrT (zbg v ((zaj s).getD (thrI s).toNat default)) x=true from hc42))
     refine zaa ?_
     refine gQ (zaf rfl) ?_
     refine gQ (zah 1 tf3 rfl rfl rfl) ?_
     refine zaG rfl rfl (zaD rfl (zo0 _) Go.Stn.encI_ok rfl) fun b45=>?_
     refine zb4 (m:=[x]) 1 af35 Go.Stn.encI_ok rfl rfl rfl rfl (fun _ hw=>(zam Go.Stn.encI_ok (hw.has (p:=0) rfl))) (by first | omega | (simp only [List.length_cons,List.length_nil]; omega)) (by first | (unfold maxLen; omega) | (simp only [List.length_cons,List.length_nil,maxLen]; omega)) fun a46 c46=>?_
     refine gQ (zad rfl) ?_
     refine zag (zae (T':=[(2,_),(3,_),(4,_),(5,_),(7,_),(8,_),(9,_),(10,_)]) ⟨rfl,rfl,rfl,rfl,rfl,rfl,rfl,rfl,trivial⟩ ?_)
     refine zac ?_
     refine zac ?_
     refine zaa ?_
     refine gQ (zah 2 tf3 rfl rfl rfl) ?_
     refine zag (zae (T':=[(2,_),(3,_),(4,_),(5,_),(7,_),(8,_),(9,_),(10,_),(47,_)]) ⟨rfl,rfl,rfl,rfl,rfl,rfl,rfl,rfl,rfl,trivial⟩ ?_)
     refine zaa ?_
     refine zaG rfl rfl (zaL tf3 (zs:=[_]) rfl) fun b10=>?_
     refine zaA 0 tf3 rfl rfl (vs:=[_]) rfl rfl rfl rfl rfl ?_
     refine zag (zae (T':=[(2,_),(3,_),(4,_),(5,_),(7,_),(8,_),(9,_),(10,_)]) ⟨rfl,rfl,rfl,rfl,rfl,rfl,rfl,rfl,trivial⟩ ?_)
     refine zaa ?_
     refine gQ (zah 0 tf3 rfl rfl rfl) ?_
     refine gQ (zab zhc rfl) ?_
     refine gQ (zah 6 tf3 rfl rfl rfl) ?_
     refine gQ (zaY rfl rfl (by omega) (by omega)) ?_
     refine zaA 0 tf3 rfl rfl (vs:=[_]) rfl rfl rfl rfl rfl ?_
     refine zag (zae (T':=[(2,_),(3,_),(4,_),(5,_),(7,_),(8,_),(9,_),(10,_)]) ⟨rfl,rfl,rfl,rfl,rfl,rfl,rfl,rfl,trivial⟩ ?_)
     refine zaK 3 rfl ?_
     refine zao 2 rfl ?_
     refine zaK 2 rfl ?_
     exact za1 (x+s.every,b10,_,_,_) ⟨rfl,rfl,rfl,rfl,rfl,rfl,rfl,rfl,trivial⟩ rfl ⟨by omega,by first | omega | (rw [List.length_append]; simp only [List.length_cons,List.length_nil]; omega),by omega,by rw [←g3,hst2] <;> simp⟩ (by simp only []; omega)
    ·have hst2:=hst.trans (if_neg (by rw [show thrT (zbg v ((zaj s).getD (thrI s).toNat default)) x=false from hc42]; exact Bool.false_ne_true))
     refine zaq ?_
     refine zac ?_
     refine zac ?_
     refine zaa ?_
     refine gQ (zah 1 tf3 rfl rfl rfl) ?_
     refine zag (zae (T':=[(2,_),(3,_),(4,_),(5,_),(7,_),(8,_),(9,_),(10,_),(47,_)]) ⟨rfl,rfl,rfl,rfl,rfl,rfl,rfl,rfl,rfl,trivial⟩ ?_)
     refine zaa ?_
     refine zaG rfl rfl (zaL tf3 (zs:=[_]) rfl) fun b10=>?_
     refine zaA 0 tf3 rfl rfl (vs:=[_]) rfl rfl rfl rfl rfl ?_
     refine zag (zae (T':=[(2,_),(3,_),(4,_),(5,_),(7,_),(8,_),(9,_),(10,_)]) ⟨rfl,rfl,rfl,rfl,rfl,rfl,rfl,rfl,trivial⟩ ?_)
     refine zaa ?_
     refine gQ (zah 0 tf3 rfl rfl rfl) ?_
     refine gQ (zab zhc rfl) ?_
     refine gQ (zah 5 tf3 rfl rfl rfl) ?_
     refine gQ (zaY rfl rfl (by omega) (by omega)) ?_
     refine zaA 0 tf3 rfl rfl (vs:=[_]) rfl rfl rfl rfl rfl ?_
     refine zag (zae (T':=[(2,_),(3,_),(4,_),(5,_),(7,_),(8,_),(9,_),(10,_)]) ⟨rfl,rfl,rfl,rfl,rfl,rfl,rfl,rfl,trivial⟩ ?_)
     refine zaK 2 rfl ?_
     refine zao 1 rfl ?_
     exact za1 (x+s.every,b10,_,_,_) ⟨rfl,rfl,rfl,rfl,rfl,rfl,rfl,rfl,trivial⟩ rfl ⟨by omega,by first | omega | (rw [List.length_append]; simp only [List.length_cons,List.length_nil]; omega),by omega,by rw [←g3,hst2] <;> simp⟩ (by simp only []; omega)
   ·have hc35:=of_decide_eq_false hc35
    have hend:=znW (bs:=(zbg v ((zaj s).getD (thrI s).toNat default))) (e:=s.every) hc35
    refine za8 rfl ?_
    refine zac ?_
    refine zaa ?_
    refine gQ (zaf rfl) ?_
    refine gQ (zaf rfl) ?_
    refine gQ (zad rfl) ?_
    refine gQ (zad rfl) ?_
    refine zag (zae (T':=[(4,_),(5,_)]) ⟨rfl,rfl,trivial⟩ ?_)
    refine zaw ?_
    refine zbd (rb,rc) 0 (zc2 rfl (zau rfl) (zau rfl)) ?_ (by rw [←g3,hend,List.append_nil]; rfl)
    rw [e1,←g3,hend,List.append_nil] <;> rfl
end Go.Proofs.YtdcfcfhmkfkgmaaGreatDoor
namespace Go.Pln
open Go Go.K Go.RowKit Go.Stn
theorem zhU {s:Sht} {bs:List Crs} {i:Int} (h0:0≤i) (h:i < (bs.length:Int)):zcP s (bs.drop i.toNat)=copB s.thick (bs.getD i.toNat default).to (bs.getD i.toNat default).frm s.tall (zdD s)++zcP s (bs.drop (i+1).toNat):=by
 rw [show(i+1).toNat=i.toNat+1 from by omega,List.drop_eq_getElem_cons (by omega),zhS,List.getD_eq_getElem?_getD,List.getElem?_eq_getElem (by omega)]; rfl
theorem zhT {s:Sht} {bs:List Crs} {i:Int} (h:¬ i < (bs.length:Int)):zcP s (bs.drop i.toNat)=[]:=by
 rw [List.drop_of_length_le (by omega)]; rfl
theorem zhV {v:Wll} {s:Sht} (h:WallF v s.height):((zcP s (zbK v s)).length:Int)≤100000:=by
 have h1:=h.len
 have:=zi8 s (by omega) (zdK h (zj4 s.height))
 show((zcP s (zcW (zj4 s.height) v)).length:Int)≤100000
 omega
theorem zfB {v:Wll} {s:Sht} (h:WallF v s.height):((zbi v s).length:Int)≤100000:=by
 unfold zbi
 split
 ·simp
 ·exact zhV h
theorem zi6 {α:Type} {a b t:List α} (h:a++b=t):a.length+b.length=t.length:=by rw [←h,List.length_append]
end Go.Pln