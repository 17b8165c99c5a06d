/- What the proof of the root text leans on, part 6: the layer, plain facts and walks. No statement of the seat is proved in this text. -/
import Derived.Shelf.SlSortCmp.NoneTotal
import Derived.Test.YtdcfcfhmkfkgmaaGreatDoorProg
import Derived.Test.YtdcfcfhmkfkgmaaGreatDoorPk5
namespace Go.Proofs.YtdcfcfhmkfkgmaaGreatDoor
open Go.K Go.Stn Go.Pln Go.RowKit
theorem tf22:TF Tryz.prog 22 false 1 (.slice none 0 0):=⟨by kernel_rfl,by kernel_rfl⟩
theorem tf23:TF Tryz.prog 23 false 1 (.slice none 0 0):=⟨by kernel_rfl,by kernel_rfl⟩
theorem tf25:TF Tryz.prog 25 true 2 (.agg #[.slice none 0 0,.slice none 0 0]):=⟨by kernel_rfl,by kernel_rfl⟩
theorem tf63:TF Tryz.prog 63 false 1 (.slice none 0 0):=⟨by kernel_rfl,by kernel_rfl⟩
theorem tf65:TF Tryz.prog 65 true 4 (.agg #[.string ⟨#[]⟩,.string ⟨#[]⟩,.int IntKind.i64 0,.slice none 0 0]):=⟨by kernel_rfl,by kernel_rfl⟩
theorem zht:TF Tryz.prog 139 true 5 (.agg #[.int IntKind.u8 0,.int IntKind.i64 0,.int IntKind.i64 0,.int IntKind.i64 0,.int IntKind.i64 0]):=⟨by kernel_rfl,by kernel_rfl⟩
theorem zd6:FO Tryz.prog 25 0 0:=⟨by kernel_rfl⟩
theorem zdT:FO Tryz.prog 25 1 1:=⟨by kernel_rfl⟩
theorem znf:FO Tryz.prog 65 0 0:=⟨by kernel_rfl⟩
theorem zpy:FO Tryz.prog 65 1 1:=⟨by kernel_rfl⟩
theorem zfS:FO Tryz.prog 65 2 2:=⟨by kernel_rfl⟩
theorem zgn:FO Tryz.prog 65 3 3:=⟨by kernel_rfl⟩
theorem zjT:FO Tryz.prog 139 0 0:=⟨by kernel_rfl⟩
theorem zdS:FO Tryz.prog 139 1 1:=⟨by kernel_rfl⟩
theorem zfZ:FO Tryz.prog 139 2 2:=⟨by kernel_rfl⟩
theorem zdx:FO Tryz.prog 139 3 3:=⟨by kernel_rfl⟩
theorem zfa:FO Tryz.prog 139 4 4:=⟨by kernel_rfl⟩
theorem se22:SE Tryz.prog 22 37 20:=⟨Tryz.underlying22,by kernel_rfl⟩
theorem se23:SE Tryz.prog 23 65 4:=⟨Tryz.underlying23,by kernel_rfl⟩
theorem se63:SE Tryz.prog 63 139 5:=⟨Tryz.underlying63,by kernel_rfl⟩
theorem en19:En Tryz.prog 19:=za7 Tryz.func19 (by kernel_rfl) (by kernel_rfl)
theorem en27:En Tryz.prog 27:=za7 Tryz.func27 (by kernel_rfl) (by kernel_rfl)
theorem en41:En Tryz.prog 41:=za7 Tryz.func41 (by kernel_rfl) (by kernel_rfl)
theorem en45:En Tryz.prog 45:=za7 Tryz.func45 (by kernel_rfl) (by kernel_rfl)
set_option maxRecDepth 100000 in
set_option maxHeartbeats 1000000 in
theorem zfq (a:Option Addr) (cap:Nat) (S:List ShC) (b:Option Addr) (nw bcap:Nat) (n:ByteArray) (w:World) (hl:Has w (zaW a 20 zbH S)) (hs:Small S.length) :
  Calls Tryz.prog 41 #[.agg #[.slice a S.length cap,.slice b nw bcap],.string n] w (Pure (.int .i64 (zaS S n)) w):=by
 refine zan (vs:=[_,_]) Tryz.func41 rfl rfl (Nat.le_of_ble_eq_true rfl) ?_
 refine zac (zaa (zaG rfl rfl (za3 (vs:=[_,_]) rfl rfl) fun b2=>?_))
 refine gA ?_
 refine zag (zae (T':=[(1,_),(2,_),(4,_)]) ⟨rfl,rfl,rfl,trivial⟩ ?_)
 refine zac (zac (zaa (gA ?_)))
 refine zag (zae (T':=[(1,_),(2,_),(4,_),(5,_)]) ⟨rfl,rfl,rfl,rfl,trivial⟩ ?_)
 refine zas ?_
 refine zbf (X:=Int) (fun(i:Int)=>[(1,.string n),(2,.pointer (some ⟨b2,0,none⟩)),(4,.int .i64 0),(5,.int .i64 i)]) (fun(i:Int)=>[Box b2 [.slice a S.length cap,.slice b nw bcap] 25]) (fun(i:Int)=>(0≤i∧i≤S.length∧∀ j:Nat,(j:Int) < i→((S.getD j default).s.name.toList == n.toList)=false)) (fun(i:Int)=>(S.length - i).toNat) 0 ⟨rfl,rfl,rfl,rfl,trivial⟩ rfl ?_ ?_
 ·exact⟨by omega,by omega,fun j hj=>by omega⟩
 ·rintro i hI
  obtain⟨g0,g1,g2⟩:=hI
  refine zac (zac (zaa (gM ?_)))
  refine gQ (zab zd6 rfl) ?_
  refine gQ (zah 0 tf22 rfl rfl rfl) ?_
  refine gQ (zaV (Tryz.underlying22) rfl) ?_
  refine gQ (zbw rfl rfl) ?_
  refine zag (zae (T':=[(1,_),(2,_),(4,_),(5,_),(10,_)]) ⟨rfl,rfl,rfl,rfl,rfl,trivial⟩ ?_)
  refine zap rfl (fun hc10=>?_) (fun hc10=>?_)
  ·simp only [decide_eq_true_eq] at hc10
   refine zaq (zac (zas ?_))
   refine zac (zaa (gk_y rfl rfl (zab zd6 rfl) ?_))
   refine gQ (zah 0 tf22 rfl rfl rfl) ?_
   refine gM ?_
   refine gQ (zaE se22 rfl rfl (fun _ hw=>(Rd.has (Has.rd hl) hw)) (by omega) (by omega)) ?_
   refine gQ (zbh zkW rfl (fun w hw=>zaO (i:=i) (Rd.has (Has.rd hl) hw) (by omega) (by omega))) ?_
   refine gQ (zbn tf9 rfl (fun _ hw=>(Rd.has (Has.rd hl) hw)) (by omega) (by omega) rfl) ?_
   refine gM ?_
   refine gQ (zge rfl rfl) ?_
   refine zag (zae (T':=[(1,_),(2,_),(4,_),(5,_),(20,_)]) ⟨rfl,rfl,rfl,rfl,rfl,trivial⟩ ?_)
   refine zap rfl (fun hc20=>?_) (fun hc20=>?_)
   ·
    refine zac (zaa (gM ?_))
    refine gA ?_
    refine zag (zae (T':=[(1,_),(2,_),(4,_),(5,_)]) ⟨rfl,rfl,rfl,rfl,trivial⟩ ?_)
    refine zaw (zay (zaC rfl (zau rfl)) ?_)
    exact congrArg (fun x=>Value.int .i64 x) (zcs (p:=fun z:ShC=>z.s.name.toList == n.toList) g0 (by omega) g2 hc20).symm
   ·
    refine zaq (zaa (gM ?_))
    refine gQ (zaY rfl rfl (by omega) (by omega)) ?_
    refine gA ?_
    refine zag (zae (T':=[(1,_),(2,_),(4,_),(5,_)]) ⟨rfl,rfl,rfl,rfl,trivial⟩ ?_)
    exact za1 (i+1) ⟨rfl,rfl,rfl,rfl,trivial⟩ rfl ⟨by omega,by omega,zdP (f:=fun j=>(S.getD j default).s.name.toList == n.toList) g0 g2 hc20⟩ (by omega)
  ·simp only [decide_eq_false_iff_not] at hc10
   refine za8 rfl ?_
   refine zac (zaa (gA ?_))
   refine zag (zae (T':=[(4,_)]) ⟨rfl,trivial⟩ ?_)
   refine zaw (zay (zaC rfl (zau rfl)) ?_)
   exact congrArg (fun x=>Value.int .i64 x) (zck (p:=fun z:ShC=>z.s.name.toList == n.toList) (fun j hj=>g2 j (by omega))).symm
set_option maxRecDepth 100000 in
set_option maxHeartbeats 1000000 in
theorem zf9 (a:Option Addr) (ns cap:Nat) (b:Option Addr) (bcap:Nat) (V:List WlC) (n:ByteArray) (w:World) (hlw:Has w (zaW b 4 zbS V)) (hsw:Small V.length) :
  Calls Tryz.prog 27 #[.agg #[.slice a ns cap,.slice b V.length bcap],.string n] w (Pure (.int .i64 (zaM V n)) w):=by
 refine zan (vs:=[_,_]) Tryz.func27 rfl rfl (Nat.le_of_ble_eq_true rfl) ?_
 refine zac (zaa (zaG rfl rfl (za3 (vs:=[_,_]) rfl rfl) fun b2=>?_))
 refine gA ?_
 refine zag (zae (T':=[(1,_),(2,_),(4,_)]) ⟨rfl,rfl,rfl,trivial⟩ ?_)
 refine zac (zac (zaa (gA ?_)))
 refine zag (zae (T':=[(1,_),(2,_),(4,_),(5,_)]) ⟨rfl,rfl,rfl,rfl,trivial⟩ ?_)
 refine zas ?_
 refine zbf (X:=Int) (fun(i:Int)=>[(1,.string n),(2,.pointer (some ⟨b2,0,none⟩)),(4,.int .i64 0),(5,.int .i64 i)]) (fun(i:Int)=>[Box b2 [.slice a ns cap,.slice b V.length bcap] 25]) (fun(i:Int)=>(0≤i∧i≤V.length∧∀ j:Nat,(j:Int) < i→((V.getD j default).s.name.toList == n.toList)=false)) (fun(i:Int)=>(V.length - i).toNat) 0 ⟨rfl,rfl,rfl,rfl,trivial⟩ rfl ?_ ?_
 ·exact⟨by omega,by omega,fun j hj=>by omega⟩
 ·rintro i hI
  obtain⟨g0,g1,g2⟩:=hI
  refine zac (zac (zaa (gM ?_)))
  refine gQ (zab zdT rfl) ?_
  refine gQ (zah 0 tf23 rfl rfl rfl) ?_
  refine gQ (zaV (Tryz.underlying23) rfl) ?_
  refine gQ (zbw rfl rfl) ?_
  refine zag (zae (T':=[(1,_),(2,_),(4,_),(5,_),(10,_)]) ⟨rfl,rfl,rfl,rfl,rfl,trivial⟩ ?_)
  refine zap rfl (fun hc10=>?_) (fun hc10=>?_)
  ·simp only [decide_eq_true_eq] at hc10
   refine zaq (zac (zas ?_))
   refine zac (zaa (gk_y rfl rfl (zab zdT rfl) ?_))
   refine gQ (zah 0 tf23 rfl rfl rfl) ?_
   refine gM ?_
   refine gQ (zaE se23 rfl rfl (fun _ hw=>(Rd.has (Has.rd hlw) hw)) (by omega) (by omega)) ?_
   refine gQ (zbh znf rfl (fun w hw=>zaO (i:=i) (Rd.has (Has.rd hlw) hw) (by omega) (by omega))) ?_
   refine gQ (zbn tf9 rfl (fun _ hw=>(Rd.has (Has.rd hlw) hw)) (by omega) (by omega) rfl) ?_
   refine gM ?_
   refine gQ (zge rfl rfl) ?_
   refine zag (zae (T':=[(1,_),(2,_),(4,_),(5,_),(20,_)]) ⟨rfl,rfl,rfl,rfl,rfl,trivial⟩ ?_)
   refine zap rfl (fun hc20=>?_) (fun hc20=>?_)
   ·
    refine zac (zaa (gM ?_))
    refine gA ?_
    refine zag (zae (T':=[(1,_),(2,_),(4,_),(5,_)]) ⟨rfl,rfl,rfl,rfl,trivial⟩ ?_)
    refine zaw (zay (zaC rfl (zau rfl)) ?_)
    exact congrArg (fun x=>Value.int .i64 x) (zcs (p:=fun z:WlC=>z.s.name.toList == n.toList) g0 (by omega) g2 hc20).symm
   ·
    refine zaq (zaa (gM ?_))
    refine gQ (zaY rfl rfl (by omega) (by omega)) ?_
    refine gA ?_
    refine zag (zae (T':=[(1,_),(2,_),(4,_),(5,_)]) ⟨rfl,rfl,rfl,rfl,trivial⟩ ?_)
    exact za1 (i+1) ⟨rfl,rfl,rfl,rfl,trivial⟩ rfl ⟨by omega,by omega,zdP (f:=fun j=>(V.getD j default).s.name.toList == n.toList) g0 g2 hc20⟩ (by omega)
  ·simp only [decide_eq_false_iff_not] at hc10
   refine za8 rfl ?_
   refine zac (zaa (gA ?_))
   refine zag (zae (T':=[(4,_)]) ⟨rfl,trivial⟩ ?_)
   refine zaw (zay (zaC rfl (zau rfl)) ?_)
   exact congrArg (fun x=>Value.int .i64 x) (zck (p:=fun z:WlC=>z.s.name.toList == n.toList) (fun j hj=>g2 j (by omega))).symm
set_option maxRecDepth 100000 in
set_option maxHeartbeats 4000000 in
theorem zlx (b:Option Addr) (bcap:Nat) (v:Wll) (a:Option Addr) (cap:Nat) (s:Sht) (w:World) (hv:Has w (zaW b 5 zba v.opens)) (hsv:Small v.opens.length) (hkn:∀ o∈v.opens,Knd o) (hh:0≤s.height∧s.height≤3000) (hfit:Fits v.name.size) :
  Calls Tryz.prog 45 #[.agg #[.string v.name,.string v.sheet,.int .i64 v.length,.slice b v.opens.length bcap],.agg #[.string s.name,.int .i64 s.base,.int .i64 s.batter,.int .i64 s.height,.int .i64 s.skin,.slice a s.heights.length cap,.int .i64 s.least,.int .i64 s.lap,.int .i64 s.run,.int .i64 s.every,.int .i64 s.at_,.int .i64 s.footing,.int .i64 s.spread,.int .u8 s.cope,.int .i64 s.tall,.int .i64 s.short,.int .i64 s.thick,.int .i64 s.low,.int .i64 s.high,.int .i64 s.rood]] w (Pure (.bool (zd1 s.height v)) w):=by
 refine zan (vs:=[_,_]) Tryz.func45 rfl rfl (Nat.le_of_ble_eq_true rfl) ?_
 refine zac (zaa (zaG rfl rfl (za3 (vs:=[_,_,_,_]) rfl rfl) fun b2=>?_))
 refine zaG rfl rfl (za3 (vs:=[_,_,_,_,_,_,_,_,_,_,_,_,_,_,_,_,_,_,_,_]) rfl rfl) fun b3=>?_
 refine gA ?_
 refine zag (zae (T':=[(2,_),(3,_),(4,_)]) ⟨rfl,rfl,rfl,trivial⟩ ?_)
 refine zac (zac (zbb 16 (fun _=>mixed) (by kernel_rfl) ?_))
 refine ph_y (zab znf rfl) ?_
 refine ph_y (zah 1 tf9 rfl rfl rfl) ?_
 refine ph_y (zaJ en51 rfl (fun w hw=>znM _ w (by assumption))) ?_
 refine ph_y (zbR rfl) ?_
 refine ph_y (zaf rfl) ?_
 refine zaz rfl rfl (fun hgd=>by(try rw [hgd]); exact(zab zfS rfl)) ?_
 refine zaz rfl rfl (fun hgd=>by(try rw [hgd]); exact(zah 1 tf3 rfl rfl rfl)) ?_
 refine zaz rfl rfl (fun hgd=>by(try rw [hgd]); exact(zaJ (v:=.bool (inB v.length 1 100000)) en52 rfl (fun w hw=>in_c _ _ _ w))) ?_
 refine zaz rfl rfl (fun hgd=>by(try rw [hgd]); exact(zbR rfl)) ?_
 refine ph_y (zaR rfl rfl rfl) ?_
 refine ph_y (zaf rfl) ?_
 refine zaz rfl rfl (fun hgd=>by(try rw [hgd]); exact(zab zgn rfl)) ?_
 refine zaz rfl rfl (fun hgd=>by(try rw [hgd]); exact(zah 1 tf63 rfl rfl rfl)) ?_
 refine zaz rfl rfl (fun hgd=>by(try rw [hgd]); exact(zaV (Tryz.underlying63) rfl)) ?_
 refine zaz rfl rfl (fun hgd=>by(try rw [hgd]); exact(zc6 rfl rfl)) ?_
 refine ph_y (zaR rfl rfl rfl) ?_
 refine zag (zae (T':=[(2,_),(3,_),(4,_),(25,_)]) ⟨rfl,rfl,rfl,rfl,trivial⟩ ?_)
 refine zap rfl (fun hc25=>?_) (fun hc25=>?_)
 ·have hw0:zfP v=false:=znZ hc25
  refine zac (zaa (gA ?_))
  refine zag (zae (T':=[(2,_),(3,_),(4,_)]) ⟨rfl,rfl,rfl,trivial⟩ ?_)
  refine zaw (zay (zaC rfl (zau rfl)) ?_)
  rw [zkz hw0]
 ·have hw0:zfP v=true:=znZ hc25
  have hlen:=(zgM hw0).1
  refine zaq (zac (zac (zaa (gA ?_))))
  refine zag (zae (T':=[(2,_),(3,_),(4,_),(5,_)]) ⟨rfl,rfl,rfl,rfl,trivial⟩ ?_)
  refine zas ?_
  refine zbf (X:=Int) (fun(i:Int)=>[(2,.pointer (some ⟨b2,0,none⟩)),(3,.pointer (some ⟨b3,0,none⟩)),(4,.bool false),(5,.int .i64 i)]) (fun(i:Int)=>[Box b3 [.string s.name,.int .i64 s.base,.int .i64 s.batter,.int .i64 s.height,.int .i64 s.skin,.slice a s.heights.length cap,.int .i64 s.least,.int .i64 s.lap,.int .i64 s.run,.int .i64 s.every,.int .i64 s.at_,.int .i64 s.footing,.int .i64 s.spread,.int .u8 s.cope,.int .i64 s.tall,.int .i64 s.short,.int .i64 s.thick,.int .i64 s.low,.int .i64 s.high,.int .i64 s.rood] 37,Box b2 [.string v.name,.string v.sheet,.int .i64 v.length,.slice b v.opens.length bcap] 65]) (fun(i:Int)=>(0≤i∧i≤v.opens.length∧∀ j:Nat,(j:Int) < i→zcI s.height v j=true)) (fun(i:Int)=>(v.opens.length - i).toNat) 0 ⟨rfl,rfl,rfl,rfl,trivial⟩ rfl ?_ ?_
  ·exact⟨by omega,by omega,fun j hj=>by omega⟩
  ·rintro i hI
   obtain⟨g0,g1,g2⟩:=hI
   refine zac (zac (zaa (gM ?_)))
   refine gQ (zab zgn rfl) ?_
   refine gQ (zah 1 tf63 rfl rfl rfl) ?_
   refine gQ (zaV (Tryz.underlying63) rfl) ?_
   refine gQ (zbw rfl rfl) ?_
   refine zag (zae (T':=[(2,_),(3,_),(4,_),(5,_),(30,_)]) ⟨rfl,rfl,rfl,rfl,rfl,trivial⟩ ?_)
   refine zap rfl (fun hc30=>?_) (fun hc30=>?_)
   ·have hc30:=of_decide_eq_true hc30
    have hko:=hkn (v.opens.getD (i).toNat default) (za0 (by omega))
    have hwk:IntKind.i64.wrap (v.opens.getD (i).toNat default).kind=(v.opens.getD (i).toNat default).kind:=zbr (by omega) (by omega)
    refine zaq (zac (zas ?_))
    refine zac (zaa (gk_y rfl rfl (zab zgn rfl) ?_))
    refine gQ (zah 1 tf63 rfl rfl rfl) ?_
    refine gM ?_
    refine gQ (zaE se63 rfl rfl (fun _ hw=>(Rd.has (Has.rd hv) hw)) (by omega) (by omega)) ?_
    refine gQ (zbv (vs:=[_,_,_,_,_]) zht rfl (fun _ hw=>(Rd.has (Has.rd hv) hw)) (by omega) (by omega) rfl) ?_
    refine zaG rfl rfl (zaL zht (zs:=[_,_,_,_,_]) rfl) fun b6=>?_
    refine zaA 0 zht rfl rfl (vs:=[_,_,_,_,_]) rfl rfl rfl rfl rfl ?_
    refine zag (zae (T':=[(2,_),(3,_),(4,_),(5,_),(6,_)]) ⟨rfl,rfl,rfl,rfl,rfl,trivial⟩ ?_)
    refine zac (zac (zbb 57 (fun _=>mixed) (by kernel_rfl) ?_))
    refine ph_y (zab zjT rfl) ?_
    refine ph_y (zah 0 tf5 rfl rfl rfl) ?_
    refine ph_y (ziU (by kernel_rfl) (Tryz.underlying3) rfl) ?_
    refine ph_y (zaJ en52 rfl (fun w hw=>in_c _ _ _ w)) ?_
    refine ph_y (zbR rfl) ?_
    refine ph_y (zaf rfl) ?_
    refine zaz rfl rfl (fun hgd=>by(try rw [hgd]); have hgd0:=hgd; (try simp only [Bool.not_eq_true',Bool.not_eq_false',zbp] at hgd0); exact(zab zdS rfl)) ?_
    refine zaz rfl rfl (fun hgd=>by(try rw [hgd]); have hgd0:=hgd; (try simp only [Bool.not_eq_true',Bool.not_eq_false',zbp] at hgd0); exact(zah 0 tf3 rfl rfl rfl)) ?_
    refine zaz rfl rfl (fun hgd=>by(try rw [hgd]); have hgd0:=hgd; (try simp only [Bool.not_eq_true',Bool.not_eq_false',zbp] at hgd0); exact(zab zfS rfl)) ?_
    refine zaz rfl rfl (fun hgd=>by(try rw [hgd]); have hgd0:=hgd; (try simp only [Bool.not_eq_true',Bool.not_eq_false',zbp] at hgd0); exact(zah 2 tf3 rfl rfl rfl)) ?_
    refine zaz rfl rfl (fun hgd=>by(try rw [hgd]); have hgd0:=hgd; (try simp only [Bool.not_eq_true',Bool.not_eq_false',zbp] at hgd0); exact(zaJ (v:=.bool (inB ((v.opens.getD (i).toNat default).at_) 0 v.length)) en52 rfl (fun w hw=>in_c _ _ _ w))) ?_
    refine zaz rfl rfl (fun hgd=>by(try rw [hgd]); have hgd0:=hgd; (try simp only [Bool.not_eq_true',Bool.not_eq_false',zbp] at hgd0); exact(zbR rfl)) ?_
    refine ph_y (zaR rfl rfl rfl) ?_
    refine ph_y (zaf rfl) ?_
    refine zaz rfl rfl (fun hgd=>by(try rw [hgd]); have hgd0:=hgd; (try simp only [Bool.not_eq_true',Bool.or_eq_false_iff,Bool.not_eq_false',zbp] at hgd0); exact(zab zfZ rfl)) ?_
    refine zaz rfl rfl (fun hgd=>by(try rw [hgd]); have hgd0:=hgd; (try simp only [Bool.not_eq_true',Bool.or_eq_false_iff,Bool.not_eq_false',zbp] at hgd0); exact(zah 0 tf3 rfl rfl rfl)) ?_
    refine zaz rfl rfl (fun hgd=>by(try rw [hgd]); have hgd0:=hgd; (try simp only [Bool.not_eq_true',Bool.or_eq_false_iff,Bool.not_eq_false',zbp] at hgd0); exact(zab zfS rfl)) ?_
    refine zaz rfl rfl (fun hgd=>by(try rw [hgd]); have hgd0:=hgd; (try simp only [Bool.not_eq_true',Bool.or_eq_false_iff,Bool.not_eq_false',zbp] at hgd0); exact(zah 2 tf3 rfl rfl rfl)) ?_
    refine zaz rfl rfl (fun hgd=>by(try rw [hgd]); have hgd0:=hgd; (try simp only [Bool.not_eq_true',Bool.or_eq_false_iff,Bool.not_eq_false',zbp] at hgd0); exact(zaJ (v:=.bool (inB ((v.opens.getD (i).toNat default).width) 1 v.length)) en52 rfl (fun w hw=>in_c _ _ _ w))) ?_
    refine zaz rfl rfl (fun hgd=>by(try rw [hgd]); have hgd0:=hgd; (try simp only [Bool.not_eq_true',Bool.or_eq_false_iff,Bool.not_eq_false',zbp] at hgd0); exact(zbR rfl)) ?_
    refine ph_y (zaR rfl rfl rfl) ?_
    refine ph_y (zaf rfl) ?_
    refine zaz rfl rfl (fun hgd=>by(try rw [hgd]); have hgd0:=hgd; (try simp only [Bool.not_eq_true',Bool.or_eq_false_iff,Bool.not_eq_false',zbp] at hgd0); exact(zab zdS rfl)) ?_
    refine zaz rfl rfl (fun hgd=>by(try rw [hgd]); have hgd0:=hgd; (try simp only [Bool.not_eq_true',Bool.or_eq_false_iff,Bool.not_eq_false',zbp] at hgd0); exact(zah 0 tf3 rfl rfl rfl)) ?_
    refine zaz rfl rfl (fun hgd=>by(try rw [hgd]); have hgd0:=hgd; (try simp only [Bool.not_eq_true',Bool.or_eq_false_iff,Bool.not_eq_false',zbp] at hgd0); exact(zab zfZ rfl)) ?_
    refine zaz rfl rfl (fun hgd=>by(try rw [hgd]); have hgd0:=hgd; (try simp only [Bool.not_eq_true',Bool.or_eq_false_iff,Bool.not_eq_false',zbp] at hgd0); exact(zah 0 tf3 rfl rfl rfl)) ?_
    refine zaz rfl rfl (fun hgd=>by(try rw [hgd]); have hgd0:=hgd; (try simp only [Bool.not_eq_true',Bool.or_eq_false_iff,Bool.not_eq_false',zbp] at hgd0); exact(zaY rfl rfl (by omega) (by omega))) ?_
    refine zaz rfl rfl (fun hgd=>by(try rw [hgd]); have hgd0:=hgd; (try simp only [Bool.not_eq_true',Bool.or_eq_false_iff,Bool.not_eq_false',zbp] at hgd0); exact(zab zfS rfl)) ?_
    refine zaz rfl rfl (fun hgd=>by(try rw [hgd]); have hgd0:=hgd; (try simp only [Bool.not_eq_true',Bool.or_eq_false_iff,Bool.not_eq_false',zbp] at hgd0); exact(zah 2 tf3 rfl rfl rfl)) ?_
    refine zaz rfl rfl (fun hgd=>by(try rw [hgd]); have hgd0:=hgd; (try simp only [Bool.not_eq_true',Bool.or_eq_false_iff,Bool.not_eq_false',zbp] at hgd0); exact(zc6 rfl rfl)) ?_
    refine ph_y (zaR rfl rfl rfl) ?_
    refine ph_y (zaf rfl) ?_
    refine zaz rfl rfl (fun hgd=>by(try rw [hgd]); have hgd0:=hgd; (try simp only [Bool.not_eq_true',Bool.or_eq_false_iff,Bool.not_eq_false',zbp,decide_eq_false_iff_not] at hgd0); exact(zab zdx rfl)) ?_
    refine zaz rfl rfl (fun hgd=>by(try rw [hgd]); have hgd0:=hgd; (try simp only [Bool.not_eq_true',Bool.or_eq_false_iff,Bool.not_eq_false',zbp,decide_eq_false_iff_not] at hgd0); exact(zah 0 tf3 rfl rfl rfl)) ?_
    refine zaz rfl rfl (fun hgd=>by(try rw [hgd]); have hgd0:=hgd; (try simp only [Bool.not_eq_true',Bool.or_eq_false_iff,Bool.not_eq_false',zbp,decide_eq_false_iff_not] at hgd0); exact(zab zdC rfl)) ?_
    refine zaz rfl rfl (fun hgd=>by(try rw [hgd]); have hgd0:=hgd; (try simp only [Bool.not_eq_true',Bool.or_eq_false_iff,Bool.not_eq_false',zbp,decide_eq_false_iff_not] at hgd0); exact(zah 1 tf3 rfl rfl rfl)) ?_
    refine zaz rfl rfl (fun hgd=>by(try rw [hgd]); have hgd0:=hgd; (try simp only [Bool.not_eq_true',Bool.or_eq_false_iff,Bool.not_eq_false',zbp,decide_eq_false_iff_not] at hgd0); exact(zaJ (v:=.bool (inB ((v.opens.getD (i).toNat default).frm) 0 s.height)) en52 rfl (fun w hw=>in_c _ _ _ w))) ?_
    refine zaz rfl rfl (fun hgd=>by(try rw [hgd]); have hgd0:=hgd; (try simp only [Bool.not_eq_true',Bool.or_eq_false_iff,Bool.not_eq_false',zbp,decide_eq_false_iff_not] at hgd0); exact(zbR rfl)) ?_
    refine ph_y (zaR rfl rfl rfl) ?_
    refine ph_y (zaf rfl) ?_
    refine zaz rfl rfl (fun hgd=>by(try rw [hgd]); have hgd0:=hgd; (try simp only [Bool.not_eq_true',Bool.or_eq_false_iff,Bool.not_eq_false',zbp,decide_eq_false_iff_not] at hgd0); exact(zab zfa rfl)) ?_
    refine zaz rfl rfl (fun hgd=>by(try rw [hgd]); have hgd0:=hgd; (try simp only [Bool.not_eq_true',Bool.or_eq_false_iff,Bool.not_eq_false',zbp,decide_eq_false_iff_not] at hgd0); exact(zah 0 tf3 rfl rfl rfl)) ?_
    refine zaz rfl rfl (fun hgd=>by(try rw [hgd]); have hgd0:=hgd; (try simp only [Bool.not_eq_true',Bool.or_eq_false_iff,Bool.not_eq_false',zbp,decide_eq_false_iff_not] at hgd0); exact(zab zdC rfl)) ?_
    refine zaz rfl rfl (fun hgd=>by(try rw [hgd]); have hgd0:=hgd; (try simp only [Bool.not_eq_true',Bool.or_eq_false_iff,Bool.not_eq_false',zbp,decide_eq_false_iff_not] at hgd0); exact(zah 1 tf3 rfl rfl rfl)) ?_
    refine zaz rfl rfl (fun hgd=>by(try rw [hgd]); have hgd0:=hgd; (try simp only [Bool.not_eq_true',Bool.or_eq_false_iff,Bool.not_eq_false',zbp,decide_eq_false_iff_not] at hgd0); exact(zaJ (v:=.bool (inB ((v.opens.getD (i).toNat default).high) 1 s.height)) en52 rfl (fun w hw=>in_c _ _ _ w))) ?_
    refine zaz rfl rfl (fun hgd=>by(try rw [hgd]); have hgd0:=hgd; (try simp only [Bool.not_eq_true',Bool.or_eq_false_iff,Bool.not_eq_false',zbp,decide_eq_false_iff_not] at hgd0); exact(zbR rfl)) ?_
    refine ph_y (zaR rfl rfl rfl) ?_
    refine ph_y (zaf rfl) ?_
    refine zaz rfl rfl (fun hgd=>by(try rw [hgd]); have hgd0:=hgd; (try simp only [Bool.not_eq_true',Bool.or_eq_false_iff,Bool.not_eq_false',zbp,decide_eq_false_iff_not] at hgd0); exact(zab zdx rfl)) ?_
    refine zaz rfl rfl (fun hgd=>by(try rw [hgd]); have hgd0:=hgd; (try simp only [Bool.not_eq_true',Bool.or_eq_false_iff,Bool.not_eq_false',zbp,decide_eq_false_iff_not] at hgd0); exact(zah 0 tf3 rfl rfl rfl)) ?_
    refine zaz rfl rfl (fun hgd=>by(try rw [hgd]); have hgd0:=hgd; (try simp only [Bool.not_eq_true',Bool.or_eq_false_iff,Bool.not_eq_false',zbp,decide_eq_false_iff_not] at hgd0); exact(zab zfa rfl)) ?_
    refine zaz rfl rfl (fun hgd=>by(try rw [hgd]); have hgd0:=hgd; (try simp only [Bool.not_eq_true',Bool.or_eq_false_iff,Bool.not_eq_false',zbp,decide_eq_false_iff_not] at hgd0); exact(zah 0 tf3 rfl rfl rfl)) ?_
    refine zaz rfl rfl (fun hgd=>by(try rw [hgd]); have hgd0:=hgd; (try simp only [Bool.not_eq_true',Bool.or_eq_false_iff,Bool.not_eq_false',zbp,decide_eq_false_iff_not] at hgd0); exact(zaY rfl rfl (by omega) (by omega))) ?_
    refine zaz rfl rfl (fun hgd=>by(try rw [hgd]); have hgd0:=hgd; (try simp only [Bool.not_eq_true',Bool.or_eq_false_iff,Bool.not_eq_false',zbp,decide_eq_false_iff_not] at hgd0); exact(zab zdC rfl)) ?_
    refine zaz rfl rfl (fun hgd=>by(try rw [hgd]); have hgd0:=hgd; (try simp only [Bool.not_eq_true',Bool.or_eq_false_iff,Bool.not_eq_false',zbp,decide_eq_false_iff_not] at hgd0); exact(zah 1 tf3 rfl rfl rfl)) ?_
    refine zaz rfl rfl (fun hgd=>by(try rw [hgd]); have hgd0:=hgd; (try simp only [Bool.not_eq_true',Bool.or_eq_false_iff,Bool.not_eq_false',zbp,decide_eq_false_iff_not] at hgd0); exact(zc6 rfl rfl)) ?_
    refine ph_y (zaR rfl rfl rfl) ?_
    refine zag (zae (T':=[(2,_),(3,_),(4,_),(5,_),(6,_),(94,_)]) ⟨rfl,rfl,rfl,rfl,rfl,rfl,trivial⟩ ?_)
    refine zap rfl (fun hc94=>?_) (fun hc94=>?_)
    ·rw [hwk] at hc94
     have hno:zcI s.height v i.toNat=false:=zjo (by rw [zuD hlen,show rf1 _ _ _=true from hc94]; rfl)
     refine zac (zaa (gA ?_))
     refine zag (zae (T':=[(2,_),(3,_),(4,_),(5,_),(6,_)]) ⟨rfl,rfl,rfl,rfl,rfl,trivial⟩ ?_)
     refine zaw (zay (zaC rfl (zau rfl)) ?_)
     rw [zhH g0 hc30 hno]
    ·rw [hwk] at hc94
     have hF:=zqw hc94
     refine zaq (zac (zac (zbb 23 (fun _=>mixed) (by kernel_rfl) ?_)))
     refine ph_y (zab zjT rfl) ?_
     refine ph_y (zah 0 tf5 rfl rfl rfl) ?_
     refine ph_y (zfx rfl rfl) ?_
     refine ph_y (zaf rfl) ?_
     refine zaH rfl rfl (fun hgd=>by(try rw [hgd]); have hgd0:=hgd; (try simp only [decide_eq_true_eq] at hgd0); exact(zab zdx rfl)) ?_
     refine zaH rfl rfl (fun hgd=>by(try rw [hgd]); have hgd0:=hgd; (try simp only [decide_eq_true_eq] at hgd0); exact(zah 0 tf3 rfl rfl rfl)) ?_
     refine zaH rfl rfl (fun hgd=>by(try rw [hgd]); have hgd0:=hgd; (try simp only [decide_eq_true_eq] at hgd0); exact(zab zfa rfl)) ?_
     refine zaH rfl rfl (fun hgd=>by(try rw [hgd]); have hgd0:=hgd; (try simp only [decide_eq_true_eq] at hgd0); exact(zah 0 tf3 rfl rfl rfl)) ?_
     refine zaH rfl rfl (fun hgd=>by(try rw [hgd]); have hgd0:=hgd; (try simp only [decide_eq_true_eq] at hgd0); exact(zaY rfl rfl (by omega) (by omega))) ?_
     refine zaH rfl rfl (fun hgd=>by(try rw [hgd]); have hgd0:=hgd; (try simp only [decide_eq_true_eq] at hgd0); exact(zab zdC rfl)) ?_
     refine zaH rfl rfl (fun hgd=>by(try rw [hgd]); have hgd0:=hgd; (try simp only [decide_eq_true_eq] at hgd0); exact(zah 1 tf3 rfl rfl rfl)) ?_
     refine zaH rfl rfl (fun hgd=>by(try rw [hgd]); have hgd0:=hgd; (try simp only [decide_eq_true_eq] at hgd0); exact(zcr rfl rfl)) ?_
     refine ph_y (zaX rfl rfl rfl) ?_
     refine ph_y (zaf rfl) ?_
     refine zaz rfl rfl (fun hgd=>by(try rw [hgd]); have hgd0:=hgd; (try simp only [Bool.not_eq_true'] at hgd0); exact(zab zjT rfl)) ?_
     refine zaz rfl rfl (fun hgd=>by(try rw [hgd]); have hgd0:=hgd; (try simp only [Bool.not_eq_true'] at hgd0); exact(zah 0 tf5 rfl rfl rfl)) ?_
     refine zaz rfl rfl (fun hgd=>by(try rw [hgd]); have hgd0:=hgd; (try simp only [Bool.not_eq_true'] at hgd0); exact(zbL rfl rfl)) ?_
     refine zaz rfl rfl (fun hgd=>by(try rw [hgd]); have hgd0:=hgd; (try simp only [Bool.not_eq_true'] at hgd0); exact(zaf rfl)) ?_
     refine zdr rfl rfl (fun hgd=>by(try rw [hgd]); have hgd0:=hgd; (try simp only [Bool.not_eq_true',Bool.and_eq_true,decide_eq_true_eq] at hgd0); exact(zab zdx rfl)) ?_
     refine zdr rfl rfl (fun hgd=>by(try rw [hgd]); have hgd0:=hgd; (try simp only [Bool.not_eq_true',Bool.and_eq_true,decide_eq_true_eq] at hgd0); exact(zah 0 tf3 rfl rfl rfl)) ?_
     refine zdr rfl rfl (fun hgd=>by(try rw [hgd]); have hgd0:=hgd; (try simp only [Bool.not_eq_true',Bool.and_eq_true,decide_eq_true_eq] at hgd0); exact(zcr rfl rfl)) ?_
     refine zaz rfl rfl (fun hgd=>by(try rw [hgd]); have hgd0:=hgd; (try simp only [Bool.not_eq_true'] at hgd0); exact(zaX rfl rfl rfl)) ?_
     refine ph_y (zaR rfl rfl rfl) ?_
     refine zag (zae (T':=[(2,_),(3,_),(4,_),(5,_),(6,_),(117,_)]) ⟨rfl,rfl,rfl,rfl,rfl,rfl,trivial⟩ ?_)
     refine zap rfl (fun hc117=>?_) (fun hc117=>?_)
     ·have hno:zcI s.height v i.toNat=false:=zjo (by rw [zuD hlen,show rf2 _ _=true from hc117,Bool.or_true]; rfl)
      refine zac (zaa (gA ?_))
      refine zag (zae (T':=[(2,_),(3,_),(4,_),(5,_),(6,_)]) ⟨rfl,rfl,rfl,rfl,rfl,trivial⟩ ?_)
      refine zaw (zay (zaC rfl (zau rfl)) ?_)
      rw [zhH g0 hc30 hno]
     ·have hfit2:zfY v.length s.height (v.opens.getD (i).toNat default)=true:=by rw [zuD hlen,show rf1 _ _ _=false from hc94,show rf2 _ _=false from hc117]; rfl
      refine zaq (zac (zaa (gA ?_)))
      refine zag (zae (T':=[(2,_),(3,_),(4,_),(5,_),(6,_),(7,_)]) ⟨rfl,rfl,rfl,rfl,rfl,rfl,trivial⟩ ?_)
      refine zas ?_
      refine zbf (X:=Int) (fun(k:Int)=>[(2,.pointer (some ⟨b2,0,none⟩)),(3,.pointer (some ⟨b3,0,none⟩)),(4,.bool false),(5,.int .i64 i),(6,.pointer (some ⟨b6,0,none⟩)),(7,.int .i64 k)]) (fun(k:Int)=>[Box b6 [.int .u8 (v.opens.getD (i).toNat default).kind,.int .i64 (v.opens.getD (i).toNat default).at_,.int .i64 (v.opens.getD (i).toNat default).width,.int .i64 (v.opens.getD (i).toNat default).frm,.int .i64 (v.opens.getD (i).toNat default).high] 139,Box b3 [.string s.name,.int .i64 s.base,.int .i64 s.batter,.int .i64 s.height,.int .i64 s.skin,.slice a s.heights.length cap,.int .i64 s.least,.int .i64 s.lap,.int .i64 s.run,.int .i64 s.every,.int .i64 s.at_,.int .i64 s.footing,.int .i64 s.spread,.int .u8 s.cope,.int .i64 s.tall,.int .i64 s.short,.int .i64 s.thick,.int .i64 s.low,.int .i64 s.high,.int .i64 s.rood] 37,Box b2 [.string v.name,.string v.sheet,.int .i64 v.length,.slice b v.opens.length bcap] 65]) (fun(k:Int)=>(0≤k∧k≤i∧∀ j:Nat,(j:Int) < k→zea (v.opens.getD (i).toNat default) (v.opens.getD j default)=false)) (fun(k:Int)=>(i - k).toNat) 0 ⟨rfl,rfl,rfl,rfl,rfl,rfl,trivial⟩ rfl ?_ ?_
      ·exact⟨by omega,by omega,fun j hj=>by omega⟩
      ·rintro k hI
       obtain⟨k0,k1,k2⟩:=hI
       refine zac (zac (zaa (gM ?_)))
       refine gM ?_
       refine gQ (zbw rfl rfl) ?_
       refine zag (zae (T':=[(2,_),(3,_),(4,_),(5,_),(6,_),(7,_),(120,_)]) ⟨rfl,rfl,rfl,rfl,rfl,rfl,rfl,trivial⟩ ?_)
       refine zap rfl (fun hc120=>?_) (fun hc120=>?_)
       ·have hc120:=of_decide_eq_true hc120
        have hQ:=zf7 (g2 k.toNat (by omega))
        have q1:=hQ.a; have q2:=hQ.w; have q3:=hQ.h; have q4:=hQ.f
        refine zaq (zac (zas ?_))
        refine zac (zaa (gk_y rfl rfl (zab zgn rfl) ?_))
        refine gQ (zah 2 tf63 rfl rfl rfl) ?_
        refine gM ?_
        refine gQ (zaE se63 rfl rfl (fun _ hw=>(Rd.has (Has.rd hv) hw)) (by omega) (by omega)) ?_
        refine gQ (zbv (vs:=[_,_,_,_,_]) zht rfl (fun _ hw=>(Rd.has (Has.rd hv) hw)) (by omega) (by omega) rfl) ?_
        refine zaG rfl rfl (zaL zht (zs:=[_,_,_,_,_]) rfl) fun b8=>?_
        refine zaA 0 zht rfl rfl (vs:=[_,_,_,_,_]) rfl rfl rfl rfl rfl ?_
        refine zag (zae (T':=[(2,_),(3,_),(4,_),(5,_),(6,_),(7,_),(8,_)]) ⟨rfl,rfl,rfl,rfl,rfl,rfl,rfl,trivial⟩ ?_)
        refine zac (zbb 39 (fun _=>mixed) (by kernel_rfl) ?_)
        refine ph_y (zab zdS rfl) ?_
        refine ph_y (zah 1 tf3 rfl rfl rfl) ?_
        refine ph_y (zab zfZ rfl) ?_
        refine ph_y (zah 1 tf3 rfl rfl rfl) ?_
        refine ph_y (zaY rfl rfl (by omega) (by omega)) ?_
        refine ph_y (zab zdS rfl) ?_
        refine ph_y (zah 0 tf3 rfl rfl rfl) ?_
        refine ph_y (zeT rfl rfl) ?_
        refine ph_y (zaf rfl) ?_
        refine zaz rfl rfl (fun hgd=>by(try rw [hgd]); have hgd0:=hgd; (try simp only [Bool.not_eq_true',decide_eq_false_iff_not] at hgd0); exact(zab zdS rfl)) ?_
        refine zaz rfl rfl (fun hgd=>by(try rw [hgd]); have hgd0:=hgd; (try simp only [Bool.not_eq_true',decide_eq_false_iff_not] at hgd0); exact(zah 0 tf3 rfl rfl rfl)) ?_
        refine zaz rfl rfl (fun hgd=>by(try rw [hgd]); have hgd0:=hgd; (try simp only [Bool.not_eq_true',decide_eq_false_iff_not] at hgd0); exact(zab zfZ rfl)) ?_
        refine zaz rfl rfl (fun hgd=>by(try rw [hgd]); have hgd0:=hgd; (try simp only [Bool.not_eq_true',decide_eq_false_iff_not] at hgd0); exact(zah 0 tf3 rfl rfl rfl)) ?_
        refine zaz rfl rfl (fun hgd=>by(try rw [hgd]); have hgd0:=hgd; (try simp only [Bool.not_eq_true',decide_eq_false_iff_not] at hgd0); exact(zaY rfl rfl (by omega) (by omega))) ?_
        refine zaz rfl rfl (fun hgd=>by(try rw [hgd]); have hgd0:=hgd; (try simp only [Bool.not_eq_true',decide_eq_false_iff_not] at hgd0); exact(zab zdS rfl)) ?_
        refine zaz rfl rfl (fun hgd=>by(try rw [hgd]); have hgd0:=hgd; (try simp only [Bool.not_eq_true',decide_eq_false_iff_not] at hgd0); exact(zah 1 tf3 rfl rfl rfl)) ?_
        refine zaz rfl rfl (fun hgd=>by(try rw [hgd]); have hgd0:=hgd; (try simp only [Bool.not_eq_true',decide_eq_false_iff_not] at hgd0); exact(zeT rfl rfl)) ?_
        refine ph_y (zaR rfl rfl rfl) ?_
        refine ph_y (zaf rfl) ?_
        refine zaz rfl rfl (fun hgd=>by(try rw [hgd]); have hgd0:=hgd; (try simp only [Bool.not_eq_true',Bool.or_eq_false_iff,decide_eq_false_iff_not] at hgd0); exact(zab zdx rfl)) ?_
        refine zaz rfl rfl (fun hgd=>by(try rw [hgd]); have hgd0:=hgd; (try simp only [Bool.not_eq_true',Bool.or_eq_false_iff,decide_eq_false_iff_not] at hgd0); exact(zah 1 tf3 rfl rfl rfl)) ?_
        refine zaz rfl rfl (fun hgd=>by(try rw [hgd]); have hgd0:=hgd; (try simp only [Bool.not_eq_true',Bool.or_eq_false_iff,decide_eq_false_iff_not] at hgd0); exact(zab zfa rfl)) ?_
        refine zaz rfl rfl (fun hgd=>by(try rw [hgd]); have hgd0:=hgd; (try simp only [Bool.not_eq_true',Bool.or_eq_false_iff,decide_eq_false_iff_not] at hgd0); exact(zah 1 tf3 rfl rfl rfl)) ?_
        refine zaz rfl rfl (fun hgd=>by(try rw [hgd]); have hgd0:=hgd; (try simp only [Bool.not_eq_true',Bool.or_eq_false_iff,decide_eq_false_iff_not] at hgd0); exact(zaY rfl rfl (by omega) (by omega))) ?_
        refine zaz rfl rfl (fun hgd=>by(try rw [hgd]); have hgd0:=hgd; (try simp only [Bool.not_eq_true',Bool.or_eq_false_iff,decide_eq_false_iff_not] at hgd0); exact(zab zdx rfl)) ?_
        refine zaz rfl rfl (fun hgd=>by(try rw [hgd]); have hgd0:=hgd; (try simp only [Bool.not_eq_true',Bool.or_eq_false_iff,decide_eq_false_iff_not] at hgd0); exact(zah 0 tf3 rfl rfl rfl)) ?_
        refine zaz rfl rfl (fun hgd=>by(try rw [hgd]); have hgd0:=hgd; (try simp only [Bool.not_eq_true',Bool.or_eq_false_iff,decide_eq_false_iff_not] at hgd0); exact(zeT rfl rfl)) ?_
        refine ph_y (zaR rfl rfl rfl) ?_
        refine ph_y (zaf rfl) ?_
        refine zaz rfl rfl (fun hgd=>by(try rw [hgd]); have hgd0:=hgd; (try simp only [Bool.not_eq_true',Bool.or_eq_false_iff,decide_eq_false_iff_not] at hgd0); exact(zab zdx rfl)) ?_
        refine zaz rfl rfl (fun hgd=>by(try rw [hgd]); have hgd0:=hgd; (try simp only [Bool.not_eq_true',Bool.or_eq_false_iff,decide_eq_false_iff_not] at hgd0); exact(zah 0 tf3 rfl rfl rfl)) ?_
        refine zaz rfl rfl (fun hgd=>by(try rw [hgd]); have hgd0:=hgd; (try simp only [Bool.not_eq_true',Bool.or_eq_false_iff,decide_eq_false_iff_not] at hgd0); exact(zab zfa rfl)) ?_
        refine zaz rfl rfl (fun hgd=>by(try rw [hgd]); have hgd0:=hgd; (try simp only [Bool.not_eq_true',Bool.or_eq_false_iff,decide_eq_false_iff_not] at hgd0); exact(zah 0 tf3 rfl rfl rfl)) ?_
        refine zaz rfl rfl (fun hgd=>by(try rw [hgd]); have hgd0:=hgd; (try simp only [Bool.not_eq_true',Bool.or_eq_false_iff,decide_eq_false_iff_not] at hgd0); exact(zaY rfl rfl (by omega) (by omega))) ?_
        refine zaz rfl rfl (fun hgd=>by(try rw [hgd]); have hgd0:=hgd; (try simp only [Bool.not_eq_true',Bool.or_eq_false_iff,decide_eq_false_iff_not] at hgd0); exact(zab zdx rfl)) ?_
        refine zaz rfl rfl (fun hgd=>by(try rw [hgd]); have hgd0:=hgd; (try simp only [Bool.not_eq_true',Bool.or_eq_false_iff,decide_eq_false_iff_not] at hgd0); exact(zah 1 tf3 rfl rfl rfl)) ?_
        refine zaz rfl rfl (fun hgd=>by(try rw [hgd]); have hgd0:=hgd; (try simp only [Bool.not_eq_true',Bool.or_eq_false_iff,decide_eq_false_iff_not] at hgd0); exact(zeT rfl rfl)) ?_
        refine ph_y (zaR rfl rfl rfl) ?_
        refine ph_y (zad rfl) ?_
        refine zag (zae (T':=[(2,_),(3,_),(4,_),(5,_),(6,_),(7,_),(9,_)]) ⟨rfl,rfl,rfl,rfl,rfl,rfl,rfl,trivial⟩ ?_)
        refine zac (zaa (gM ?_))
        refine gQ (zbR rfl) ?_
        refine zag (zae (T':=[(2,_),(3,_),(4,_),(5,_),(6,_),(7,_),(167,_)]) ⟨rfl,rfl,rfl,rfl,rfl,rfl,rfl,trivial⟩ ?_)
        refine zap rfl (fun hc167=>?_) (fun hc167=>?_)
        ·have hm:zea (v.opens.getD (i).toNat default) (v.opens.getD (k).toNat default)=true:=by rw [znr]; exact hc167
         refine zac (zaa (gA ?_))
         refine zag (zae (T':=[(2,_),(3,_),(4,_),(5,_),(6,_),(7,_)]) ⟨rfl,rfl,rfl,rfl,rfl,rfl,trivial⟩ ?_)
         refine zaw (zay (zaC rfl (zau rfl)) ?_)
         rw [zhH g0 hc30 (zon k0 hc120 hc30 hm)]
        ·have hm:zea (v.opens.getD (i).toNat default) (v.opens.getD (k).toNat default)=false:=by rw [znr]; exact hc167
         refine zaq (zaa (gM ?_))
         refine gQ (zaY rfl rfl (by omega) (by omega)) ?_
         refine gA ?_
         refine zag (zae (T':=[(2,_),(3,_),(4,_),(5,_),(6,_),(7,_)]) ⟨rfl,rfl,rfl,rfl,rfl,rfl,trivial⟩ ?_)
         refine zaK 0 rfl ?_
         exact za1 (k+1) ⟨rfl,rfl,rfl,rfl,rfl,rfl,trivial⟩ rfl ⟨by omega,by omega,zdP (f:=fun j=>zea (v.opens.getD (i).toNat default) (v.opens.getD j default)) k0 k2 hm⟩ (by omega)
       ·have hc120:=of_decide_eq_false hc120
        have hyes:=zoo hc30 hfit2 hc120 k2
        refine za8 rfl ?_
        refine zaa (gM ?_)
        refine gQ (zaY rfl rfl (by omega) (by omega)) ?_
        refine gA ?_
        refine zag (zae (T':=[(2,_),(3,_),(4,_),(5,_)]) ⟨rfl,rfl,rfl,rfl,trivial⟩ ?_)
        refine zaK 0 rfl ?_
        exact za1 (i+1) ⟨rfl,rfl,rfl,rfl,trivial⟩ rfl ⟨by omega,by omega,zdu g0 g2 hyes⟩ (by omega)
   ·have hc30:=of_decide_eq_false hc30
    refine za8 rfl ?_
    refine zac (zaa (gA ?_))
    refine zag (zae (T':=[(4,_)]) ⟨rfl,trivial⟩ ?_)
    refine zaw (zay (zaC rfl (zau rfl)) ?_)
    rw [zn0 hw0 hc30 g2]
set_option maxRecDepth 100000 in
set_option maxHeartbeats 4000000 in
theorem zsf (a:Option Addr) (cap:Nat) (S:List ShC) (b:Option Addr) (bcap:Nat) (V:List WlC) (w:World) (hl:Has w (zaW a 20 zbH S)) (hs:Small S.length) (hlw:Has w (zaW b 4 zbS V)) (hsw:Small V.length) (hsh:∀ z∈S,Has w (Ints z.a z.s.heights)) (hss:∀ z∈S,Small z.s.heights.length) (hwo:∀ z∈V,Has w (zaW z.a 5 zba z.s.opens)) (hsv:∀ z∈V,Small z.s.opens.length) (_hcp:∀ z∈V,z.s.opens.length≤z.cap) (hkn:∀ z∈V,∀ o∈z.s.opens,Knd o) (hfS:∀ z∈S,Fits z.s.name.size) (hfV:∀ z∈V,Fits z.s.name.size) (hco:∀ z∈S,0≤z.s.cope) :
  Calls Tryz.prog 15 #[.agg #[.slice a S.length cap,.slice b V.length bcap]] w (Pure (.bool (zc4 S V)) w):=by
 refine zan (vs:=[_]) Tryz.func15 rfl rfl (Nat.le_of_ble_eq_true rfl) ?_
 refine zac (zaa (zaG rfl rfl (za3 (vs:=[_,_]) rfl rfl) fun b1=>?_))
 refine gA ?_
 refine zag (zae (T':=[(1,_),(2,_)]) ⟨rfl,rfl,trivial⟩ ?_)
 refine zac (zac (zaa (gA ?_)))
 refine zag (zae (T':=[(1,_),(2,_),(3,_)]) ⟨rfl,rfl,rfl,trivial⟩ ?_)
 refine zas ?_
 refine zbf (X:=Int) (fun(i:Int)=>[(1,.pointer (some ⟨b1,0,none⟩)),(2,.bool false),(3,.int .i64 i)]) (fun(i:Int)=>[Box b1 [.slice a S.length cap,.slice b V.length bcap] 25]) (fun(i:Int)=>(0≤i∧i≤S.length∧∀ j:Nat,(j:Int) < i→shAt S j=true)) (fun(i:Int)=>(S.length - i).toNat) 0 ⟨rfl,rfl,rfl,trivial⟩ rfl ?_ ?_
 ·exact⟨by omega,by omega,fun j hj=>by omega⟩
 ·rintro i hI
  obtain⟨g0,g1,g2⟩:=hI
  refine zac (zac (zaa (gM ?_)))
  refine gQ (zab zd6 rfl) ?_
  refine gQ (zah 0 tf22 rfl rfl rfl) ?_
  refine gQ (zaV (Tryz.underlying22) rfl) ?_
  refine gQ (zbw rfl rfl) ?_
  refine zag (zae (T':=[(1,_),(2,_),(3,_),(10,_)]) ⟨rfl,rfl,rfl,rfl,trivial⟩ ?_)
  refine zap rfl (fun hc10=>?_) (fun hc10=>?_)
  ·have hc10:=of_decide_eq_true hc10
   refine zaq (zac (zas ?_))
   refine zac (zbb 19 (fun _=>mixed) (by kernel_rfl) ?_)
   refine ph_y (zab zd6 rfl) ?_
   refine ph_y (zah 0 tf22 rfl rfl rfl) ?_
   refine ph_y (zaf rfl) ?_
   refine ph_y (zaE se22 rfl rfl (fun _ hw=>(Rd.has (Has.rd hl) hw)) (by omega) (by omega)) ?_
   refine ph_y (zbv (vs:=[_,_,_,_,_,_,_,_,_,_,_,_,_,_,_,_,_,_,_,_]) tf37 rfl (fun _ hw=>(Rd.has (Has.rd hl) hw)) (by omega) (by omega) rfl) ?_
   refine ph_y (zaJ en19 rfl (fun w hw=>zkm ((S.getD (i).toNat default).a) ((S.getD (i).toNat default).cap) ((S.getD (i).toNat default).s) w (Rd.has (Has.rd (hsh _ (za0 (by omega)))) hw) (hss _ (za0 (by omega))) (hco _ (za0 (by omega))) (hfS _ (za0 (by omega))))) ?_
   refine ph_y (zbR rfl) ?_
   refine ph_y (zaf rfl) ?_
   refine zaz rfl rfl (fun hgd=>by(try rw [hgd]); have hgd0:=hgd; (try simp only [Bool.not_eq_true',Bool.not_eq_false'] at hgd0); exact(zat 0 tf25 rfl rfl (vs:=[_,_]) rfl rfl)) ?_
   refine zaz rfl rfl (fun hgd=>by(try rw [hgd]); have hgd0:=hgd; (try simp only [Bool.not_eq_true',Bool.not_eq_false'] at hgd0); exact(zab zd6 rfl)) ?_
   refine zaz rfl rfl (fun hgd=>by(try rw [hgd]); have hgd0:=hgd; (try simp only [Bool.not_eq_true',Bool.not_eq_false'] at hgd0); exact(zah 0 tf22 rfl rfl rfl)) ?_
   refine zaz rfl rfl (fun hgd=>by(try rw [hgd]); have hgd0:=hgd; (try simp only [Bool.not_eq_true',Bool.not_eq_false'] at hgd0); exact(zaf rfl)) ?_
   refine zaz rfl rfl (fun hgd=>by(try rw [hgd]); have hgd0:=hgd; (try simp only [Bool.not_eq_true',Bool.not_eq_false'] at hgd0); exact(zaE se22 rfl rfl (fun _ hw=>(Rd.has (Has.rd hl) hw)) (by omega) (by omega))) ?_
   refine zaz rfl rfl (fun hgd=>by(try rw [hgd]); have hgd0:=hgd; (try simp only [Bool.not_eq_true',Bool.not_eq_false'] at hgd0); exact(zbh zkW rfl (fun w hw=>zaO (i:=i) (Rd.has (Has.rd hl) hw) (by omega) (by omega)))) ?_
   refine zaz rfl rfl (fun hgd=>by(try rw [hgd]); have hgd0:=hgd; (try simp only [Bool.not_eq_true',Bool.not_eq_false'] at hgd0); exact(zbn tf9 rfl (fun _ hw=>(Rd.has (Has.rd hl) hw)) (by omega) (by omega) rfl)) ?_
   refine zaz rfl rfl (fun hgd=>by(try rw [hgd]); have hgd0:=hgd; (try simp only [Bool.not_eq_true',Bool.not_eq_false'] at hgd0); exact(zaJ (v:=.int .i64 (zaS S ((S.getD (i).toNat default).s.name))) en41 rfl (fun w hw=>zfq _ _ S _ _ _ _ w (Rd.has (Has.rd hl) hw) (by assumption)))) ?_
   refine zaz rfl rfl (fun hgd=>by(try rw [hgd]); have hgd0:=hgd; (try simp only [Bool.not_eq_true',Bool.not_eq_false'] at hgd0); exact(zaf rfl)) ?_
   refine zaz rfl rfl (fun hgd=>by(try rw [hgd]); have hgd0:=hgd; (try simp only [Bool.not_eq_true',Bool.not_eq_false'] at hgd0); exact(zcr rfl rfl)) ?_
   refine ph_y (zaR rfl rfl rfl) ?_
   refine zag (zae (T':=[(1,_),(2,_),(3,_),(31,_)]) ⟨rfl,rfl,rfl,rfl,trivial⟩ ?_)
   refine zap rfl (fun hc31=>?_) (fun hc31=>?_)
   ·have hno:shAt S i.toNat=false:=zqg ((znR g0 hc10).symm.trans hc31)
    refine zac (zaa (gA ?_))
    refine zag (zae (T':=[(1,_),(2,_),(3,_)]) ⟨rfl,rfl,rfl,trivial⟩ ?_)
    refine zaw (zay (zaC rfl (zau rfl)) ?_)
    rw [znF g0 hc10 hno]
   ·have hyes:shAt S i.toNat=true:=zll ((znR g0 hc10).symm.trans hc31)
    refine zaq (zaa (gM ?_))
    refine gQ (zaY rfl rfl (by omega) (by omega)) ?_
    refine gA ?_
    refine zag (zae (T':=[(1,_),(2,_),(3,_)]) ⟨rfl,rfl,rfl,trivial⟩ ?_)
    exact za1 (i+1) ⟨rfl,rfl,rfl,trivial⟩ rfl ⟨by omega,by omega,zdu g0 g2 hyes⟩ (by omega)
  ·have hc10:=of_decide_eq_false hc10
   have hS:=zg3 (S:=S) (fun j hj=>g2 j (by omega))
   refine za8 rfl ?_
   refine zac (zac (zaa (gA ?_)))
   refine zag (zae (T':=[(1,_),(2,_),(4,_)]) ⟨rfl,rfl,rfl,trivial⟩ ?_)
   refine zas ?_
   refine zbf (X:=Int) (fun(i:Int)=>[(1,.pointer (some ⟨b1,0,none⟩)),(2,.bool false),(4,.int .i64 i)]) (fun(i:Int)=>[Box b1 [.slice a S.length cap,.slice b V.length bcap] 25]) (fun(i:Int)=>(0≤i∧i≤V.length∧∀ j:Nat,(j:Int) < i→wlAt S V j=true)) (fun(i:Int)=>(V.length - i).toNat) 0 ⟨rfl,rfl,rfl,trivial⟩ rfl ?_ ?_
   ·exact⟨by omega,by omega,fun j hj=>by omega⟩
   ·rintro i hI
    obtain⟨k0,k1,k2⟩:=hI
    refine zac (zac (zaa (gM ?_)))
    refine gQ (zab zdT rfl) ?_
    refine gQ (zah 0 tf23 rfl rfl rfl) ?_
    refine gQ (zaV (Tryz.underlying23) rfl) ?_
    refine gQ (zbw rfl rfl) ?_
    refine zag (zae (T':=[(1,_),(2,_),(4,_),(36,_)]) ⟨rfl,rfl,rfl,rfl,trivial⟩ ?_)
    refine zap rfl (fun hc36=>?_) (fun hc36=>?_)
    ·have hc36:=of_decide_eq_true hc36
     have hlt:=fun h=>ziE (S:=S) (n:=(V.getD (i).toNat default).s.sheet) h
     refine zaq (zac (zas ?_))
     refine zac (zbb 9 (fun _=>mixed) (by kernel_rfl) ?_)
     refine ph_y (zat 0 tf25 rfl rfl (vs:=[_,_]) rfl rfl) ?_
     refine ph_y (zab zdT rfl) ?_
     refine ph_y (zah 0 tf23 rfl rfl rfl) ?_
     refine ph_y (zaf rfl) ?_
     refine ph_y (zaE se23 rfl rfl (fun _ hw=>(Rd.has (Has.rd hlw) hw)) (by omega) (by omega)) ?_
     refine ph_y (zbh zpy rfl (fun w hw=>zaO (i:=i) (Rd.has (Has.rd hlw) hw) (by omega) (by omega))) ?_
     refine ph_y (zbn tf9 rfl (fun _ hw=>(Rd.has (Has.rd hlw) hw)) (by omega) (by omega) rfl) ?_
     refine ph_y (zaJ en41 rfl (fun w hw=>zfq _ _ S _ _ _ _ w (Rd.has (Has.rd hl) hw) (by assumption))) ?_
     refine ph_y (zad rfl) ?_
     refine zag (zae (T':=[(1,_),(2,_),(4,_),(5,_)]) ⟨rfl,rfl,rfl,rfl,trivial⟩ ?_)
     refine zac (zbb 28 (fun _=>mixed) (by kernel_rfl) ?_)
     refine ph_y (zaf rfl) ?_
     refine ph_y (zbw rfl rfl) ?_
     refine ph_y (zaf rfl) ?_
     refine zaz rfl rfl (fun hgd=>by(try rw [hgd]); have hgd0:=hgd; (try simp only [Bool.not_eq_true',decide_eq_false_iff_not] at hgd0); exact(zab zdT rfl)) ?_
     refine zaz rfl rfl (fun hgd=>by(try rw [hgd]); have hgd0:=hgd; (try simp only [Bool.not_eq_true',decide_eq_false_iff_not] at hgd0); exact(zah 0 tf23 rfl rfl rfl)) ?_
     refine zaz rfl rfl (fun hgd=>by(try rw [hgd]); have hgd0:=hgd; (try simp only [Bool.not_eq_true',decide_eq_false_iff_not] at hgd0); exact(zaf rfl)) ?_
     refine zaz rfl rfl (fun hgd=>by(try rw [hgd]); have hgd0:=hgd; (try simp only [Bool.not_eq_true',decide_eq_false_iff_not] at hgd0); exact(zaE se23 rfl rfl (fun _ hw=>(Rd.has (Has.rd hlw) hw)) (by omega) (by omega))) ?_
     refine zaz rfl rfl (fun hgd=>by(try rw [hgd]); have hgd0:=hgd; (try simp only [Bool.not_eq_true',decide_eq_false_iff_not] at hgd0); exact(zbv (vs:=[_,_,_,_]) tf65 rfl (fun _ hw=>(Rd.has (Has.rd hlw) hw)) (by omega) (by omega) rfl)) ?_
     refine zaz rfl rfl (fun hgd=>by(try rw [hgd]); have hgd0:=hgd; (try simp only [Bool.not_eq_true',decide_eq_false_iff_not] at hgd0); exact(zab zd6 rfl)) ?_
     refine zaz rfl rfl (fun hgd=>by(try rw [hgd]); have hgd0:=hgd; (try simp only [Bool.not_eq_true',decide_eq_false_iff_not] at hgd0); exact(zah 0 tf22 rfl rfl rfl)) ?_
     refine zaz rfl rfl (fun hgd=>by(try rw [hgd]); have hgd0:=hgd; (try simp only [Bool.not_eq_true',decide_eq_false_iff_not] at hgd0); exact(zaf rfl)) ?_
     refine zaz rfl rfl (fun hgd=>by(try rw [hgd]); have hgd0:=hgd; (try simp only [Bool.not_eq_true',decide_eq_false_iff_not] at hgd0); exact(zaE se22 rfl rfl (fun _ hw=>(Rd.has (Has.rd hl) hw)) (by omega) (by omega))) ?_
     refine zaz rfl rfl (fun hgd=>by(try rw [hgd]); have hgd0:=hgd; (try simp only [Bool.not_eq_true',decide_eq_false_iff_not] at hgd0); exact(zbv (vs:=[_,_,_,_,_,_,_,_,_,_,_,_,_,_,_,_,_,_,_,_]) tf37 rfl (fun _ hw=>(Rd.has (Has.rd hl) hw)) (by omega) (by omega) rfl)) ?_
     refine zaz rfl rfl (fun hgd=>by(try rw [hgd]); have hgd0:=hgd; (try simp only [Bool.not_eq_true',decide_eq_false_iff_not] at hgd0); exact(zaJ (v:=.bool (zd1 ((S.getD ((zaS S ((V.getD (i).toNat default).s.sheet))).toNat default).s).height ((V.getD (i).toNat default).s))) en45 rfl (fun w hw=>zlx ((V.getD (i).toNat default).a) ((V.getD (i).toNat default).cap) ((V.getD (i).toNat default).s) ((S.getD ((zaS S ((V.getD (i).toNat default).s.sheet))).toNat default).a) ((S.getD ((zaS S ((V.getD (i).toNat default).s.sheet))).toNat default).cap) ((S.getD ((zaS S ((V.getD (i).toNat default).s.sheet))).toNat default).s) w (Rd.has (Has.rd (hwo _ (za0 (by omega)))) hw) (hsv _ (za0 (by omega))) (hkn _ (za0 (by omega))) (by have:=(zaZ (hS _ (za0 (l:=S) (i:=(zaS S (V.getD (i).toNat default).s.sheet).toNat) (by omega)))).height; omega) (hfV _ (za0 (by omega)))))) ?_
     refine zaz rfl rfl (fun hgd=>by(try rw [hgd]); have hgd0:=hgd; (try simp only [Bool.not_eq_true',decide_eq_false_iff_not] at hgd0); exact(zbR rfl)) ?_
     refine ph_y (zaR rfl rfl rfl) ?_
     refine ph_y (zaf rfl) ?_
     refine zaz rfl rfl (fun hgd=>by(try rw [hgd]); have hgd0:=hgd; (try simp only [Bool.not_eq_true',Bool.or_eq_false_iff,Bool.not_eq_false',decide_eq_false_iff_not] at hgd0); exact(zat 0 tf25 rfl rfl (vs:=[_,_]) rfl rfl)) ?_
     refine zaz rfl rfl (fun hgd=>by(try rw [hgd]); have hgd0:=hgd; (try simp only [Bool.not_eq_true',Bool.or_eq_false_iff,Bool.not_eq_false',decide_eq_false_iff_not] at hgd0); exact(zab zdT rfl)) ?_
     refine zaz rfl rfl (fun hgd=>by(try rw [hgd]); have hgd0:=hgd; (try simp only [Bool.not_eq_true',Bool.or_eq_false_iff,Bool.not_eq_false',decide_eq_false_iff_not] at hgd0); exact(zah 0 tf23 rfl rfl rfl)) ?_
     refine zaz rfl rfl (fun hgd=>by(try rw [hgd]); have hgd0:=hgd; (try simp only [Bool.not_eq_true',Bool.or_eq_false_iff,Bool.not_eq_false',decide_eq_false_iff_not] at hgd0); exact(zaf rfl)) ?_
     refine zaz rfl rfl (fun hgd=>by(try rw [hgd]); have hgd0:=hgd; (try simp only [Bool.not_eq_true',Bool.or_eq_false_iff,Bool.not_eq_false',decide_eq_false_iff_not] at hgd0); exact(zaE se23 rfl rfl (fun _ hw=>(Rd.has (Has.rd hlw) hw)) (by omega) (by omega))) ?_
     refine zaz rfl rfl (fun hgd=>by(try rw [hgd]); have hgd0:=hgd; (try simp only [Bool.not_eq_true',Bool.or_eq_false_iff,Bool.not_eq_false',decide_eq_false_iff_not] at hgd0); exact(zbh znf rfl (fun w hw=>zaO (i:=i) (Rd.has (Has.rd hlw) hw) (by omega) (by omega)))) ?_
     refine zaz rfl rfl (fun hgd=>by(try rw [hgd]); have hgd0:=hgd; (try simp only [Bool.not_eq_true',Bool.or_eq_false_iff,Bool.not_eq_false',decide_eq_false_iff_not] at hgd0); exact(zbn tf9 rfl (fun _ hw=>(Rd.has (Has.rd hlw) hw)) (by omega) (by omega) rfl)) ?_
     refine zaz rfl rfl (fun hgd=>by(try rw [hgd]); have hgd0:=hgd; (try simp only [Bool.not_eq_true',Bool.or_eq_false_iff,Bool.not_eq_false',decide_eq_false_iff_not] at hgd0); exact(zaJ (v:=.int .i64 (zaM V ((V.getD (i).toNat default).s.name))) en27 rfl (fun w hw=>zf9 _ _ _ _ _ V _ w (Rd.has (Has.rd hlw) hw) (by assumption)))) ?_
     refine zaz rfl rfl (fun hgd=>by(try rw [hgd]); have hgd0:=hgd; (try simp only [Bool.not_eq_true',Bool.or_eq_false_iff,Bool.not_eq_false',decide_eq_false_iff_not] at hgd0); exact(zaf rfl)) ?_
     refine zaz rfl rfl (fun hgd=>by(try rw [hgd]); have hgd0:=hgd; (try simp only [Bool.not_eq_true',Bool.or_eq_false_iff,Bool.not_eq_false',decide_eq_false_iff_not] at hgd0); exact(zcr rfl rfl)) ?_
     refine ph_y (zaR rfl rfl rfl) ?_
     refine zag (zae (T':=[(1,_),(2,_),(4,_),(74,_)]) ⟨rfl,rfl,rfl,rfl,trivial⟩ ?_)
     refine zap rfl (fun hc74=>?_) (fun hc74=>?_)
     ·have hno:wlAt S V i.toNat=false:=zqg ((zn4 k0 hc36).symm.trans hc74)
      refine zac (zaa (gA ?_))
      refine zag (zae (T':=[(1,_),(2,_),(4,_)]) ⟨rfl,rfl,rfl,trivial⟩ ?_)
      refine zaw (zay (zaC rfl (zau rfl)) ?_)
      rw [znG k0 hc36 hno]
     ·have hyes:wlAt S V i.toNat=true:=zll ((zn4 k0 hc36).symm.trans hc74)
      refine zaq (zaa (gM ?_))
      refine gQ (zaY rfl rfl (by omega) (by omega)) ?_
      refine gA ?_
      refine zag (zae (T':=[(1,_),(2,_),(4,_)]) ⟨rfl,rfl,rfl,trivial⟩ ?_)
      exact za1 (i+1) ⟨rfl,rfl,rfl,trivial⟩ rfl ⟨by omega,by omega,zdu k0 k2 hyes⟩ (by omega)
    ·have hc36:=of_decide_eq_false hc36
     refine za8 rfl ?_
     refine zac (zbb 11 (fun _=>mixed) (by kernel_rfl) ?_)
     refine ph_y (zab zd6 rfl) ?_
     refine ph_y (zah 0 tf22 rfl rfl rfl) ?_
     refine ph_y (zaV (Tryz.underlying22) rfl) ?_
     refine ph_y (zeT rfl rfl) ?_
     refine ph_y (zaf rfl) ?_
     refine zaH rfl rfl (fun hgd=>by(try rw [hgd]); exact(zab zdT rfl)) ?_
     refine zaH rfl rfl (fun hgd=>by(try rw [hgd]); exact(zah 0 tf23 rfl rfl rfl)) ?_
     refine zaH rfl rfl (fun hgd=>by(try rw [hgd]); exact(zaV (Tryz.underlying23) rfl)) ?_
     refine zaH rfl rfl (fun hgd=>by(try rw [hgd]); exact(zeT rfl rfl)) ?_
     refine ph_y (zaX rfl rfl rfl) ?_
     refine ph_y (zad rfl) ?_
     refine zag (zae (T':=[(2,_)]) ⟨rfl,trivial⟩ ?_)
     refine zaw (zay (zaC rfl (zau rfl)) ?_)
     rw [znH hc10 hc36 g2 k2]
end Go.Proofs.YtdcfcfhmkfkgmaaGreatDoor
namespace Go.Proofs.YtdcfcfhmkfkgmaaGreatDoor
open Go.K Go.Stn Go.Pln Go.RowKit
noncomputable def daleT:ByteArray:=match Tryz.f42.body with
 | some (.seq _ (.seq (.region _ ops _) _))=>(match ops[0]? with
  | some o=>(match o.op with
   | .assign (.const (.string b))=>b
   | _=>⟨#[]⟩)
  | none=>⟨#[]⟩)
 | _=>⟨#[]⟩
set_option maxRecDepth 100000 in
set_option maxHeartbeats 1000000 in
theorem zvl  (w:World)  :
  Calls Tryz.prog 42 #[] w (Pure (.string daleT) w):=by
 refine zan (vs:=[]) Tryz.func42 rfl rfl (Nat.le_of_ble_eq_true rfl) ?_
 refine zac (zaa (gA ?_))
 refine zag (zae (T':=[(0,_)]) ⟨rfl,trivial⟩ ?_)
 refine zac (zaa (gA ?_))
 refine zag (zae (T':=[(0,_)]) ⟨rfl,trivial⟩ ?_)
 refine zaw (zay (zaC rfl (zau rfl)) ?_)
 rfl
theorem zpe:daleT.size≤40000:=by decide +kernel
end Go.Proofs.YtdcfcfhmkfkgmaaGreatDoor
namespace Go.Proofs.YtdcfcfhmkfkgmaaGreatDoor
open Go Go.K Go.Stn Go.Pln Go.RowKit Go.Txt
theorem zkC {c:UInt8} {l:List UInt8} (h:l.all (fun x=>!(x == c))=true):∀ x∈l,x≠c:=fun x hx=>by
 have:=List.all_eq_true.1 h x hx
 simpa using this
theorem zbk {c:UInt8} {L:List UInt8} (k n:Nat) (h0:((L.drop k).take n).all (fun x=>!(x == c))=true) (h1:(L.drop k)[n]?=some c):cutL c (L.drop k)=(L.drop k).take n :: cutL c (L.drop (k+n+1)):=by
 obtain⟨h,h2⟩:=List.getElem?_eq_some_iff.1 h1
 have e:L.drop k=(L.drop k).take n++c :: L.drop (k+n+1):=by
  rw [←h2,show k+n+1=k+(n+1) from rfl,←List.drop_drop,←List.drop_eq_getElem_cons h,List.take_append_drop]
 conv=>lhs; rw [e]
 exact zhx (zkC h0)
theorem zui {W:List ByteArray} (h:0 < W.length):zdp W=.ok (W.getD 0 default,W.drop 1):=by
 cases W with
 | nil=>simp at h
 | cons x r=>rfl
theorem znw {W:List ByteArray} {k:Nat} (h:k < W.length):zdp (W.drop k)=.ok (W.getD k default,W.drop (k+1)):=by
 rw [List.drop_eq_getElem_cons h,List.getD_eq_getElem?_getD,List.getElem?_eq_getElem h]; rfl
theorem zuh {W:List ByteArray} {k:Nat} (h:k < W.length) (h1:zgx (W.getD k default)=true):zes (W.drop k)=.ok (W.getD k default,W.drop (k+1)):=by
 rw [zes,znw h,zak]; exact if_pos h1
theorem sayD {W:List ByteArray} {u:ByteArray} {k:Nat} (h:k < W.length) (h1:((W.getD k default).toList == u.toList)=true):sayE u (W.drop k)=.ok ((),W.drop (k+1)):=by
 rw [sayE,znw h,zak]; exact if_pos h1
theorem numD {W:List ByteArray} {k:Nat} {n:Int} (h:k < W.length) (h1:numW (W.getD k default)=true) (h2:zdO (W.getD k default)=n):numE (W.drop k)=.ok (n,W.drop (k+1)):=by
 rw [numE,znw h,zak,←h2]; exact if_pos h1
theorem zqd {W:List ByteArray} {k:Nat} {n:Int} (h:k < W.length) (h1:numW (W.getD k default)=true) (h2:zdO (W.getD k default)=n):zco 1 (W.drop k)=.ok ([n],W.drop (k+1)):=by
 rw [zco,numD h h1 h2]; rfl
theorem zqe {W:List ByteArray} {k m:Nat} {n:Int} {l:List Int} {r:List ByteArray} (h:k < W.length) (h1:numW (W.getD k default)=true) (h2:zdO (W.getD k default)=n) (h3:zco m (W.drop (k+1))=.ok (l,r)):zco (m+1) (W.drop k)=.ok (n :: l,r):=by
 rw [zco,numD h h1 h2,zak]
 show(zco m (W.drop (k+1)) >>= _)=_
 rw [h3]; rfl
theorem zs3 {W:List ByteArray} {k:Nat} {n n2:Int} (h:k+1 < W.length) (h1:numW (W.getD k default)=true) (h2:zdO (W.getD k default)=n) (h3:numW (W.getD (k+1) default)=true) (h4:zdO (W.getD (k+1) default)=n2):zco 2 (W.drop k)=.ok ([n,n2],W.drop (k+2)):=
 zqe (by omega) h1 h2 (zqd h h3 h4)
theorem zs4 {W:List ByteArray} {k:Nat} {n n2 n3:Int} (h:k+2 < W.length) (h1:numW (W.getD k default)=true) (h2:zdO (W.getD k default)=n) (h3:numW (W.getD (k+1) default)=true) (h4:zdO (W.getD (k+1) default)=n2) (h5:numW (W.getD (k+1+1) default)=true) (h6:zdO (W.getD (k+1+1) default)=n3):zco 3 (W.drop k)=.ok ([n,n2,n3],W.drop (k+3)):=
 zqe (by omega) h1 h2 (zs3 h h3 h4 h5 h6)
theorem zv9 {W:List ByteArray} {k:Nat} {n n2 n3 n4:Int} (h:k+3 < W.length) (h1:numW (W.getD k default)=true) (h2:zdO (W.getD k default)=n) (h3:numW (W.getD (k+1) default)=true) (h4:zdO (W.getD (k+1) default)=n2) (h5:numW (W.getD (k+1+1) default)=true) (h6:zdO (W.getD (k+1+1) default)=n3) (h7:numW (W.getD (k+1+1+1) default)=true) (h8:zdO (W.getD (k+1+1+1) default)=n4):zco 4 (W.drop k)=.ok ([n,n2,n3,n4],W.drop (k+4)):=
 zqe (by omega) h1 h2 (zs4 (by omega) h3 h4 h5 h6 h7 h8)
theorem zlm {W:List ByteArray} {u:ByteArray} {k:Nat} {n:Int} (h:k+1 < W.length) (h0:((W.getD k default).toList == u.toList)=true) (h1:numW (W.getD (k+1) default)=true) (h2:zdO (W.getD (k+1) default)=n):oneE u 1 (W.drop k)=.ok ([n],W.drop (k+2)):=by
 rw [oneE,sayD (by omega) h0,zak]; exact zqd h h1 h2
theorem zur {W:List ByteArray} {u:ByteArray} {k:Nat} {n n2:Int} (h:k+2 < W.length) (h0:((W.getD k default).toList == u.toList)=true) (h1:numW (W.getD (k+1) default)=true) (h2:zdO (W.getD (k+1) default)=n) (h3:numW (W.getD (k+1+1) default)=true) (h4:zdO (W.getD (k+1+1) default)=n2):oneE u 2 (W.drop k)=.ok ([n,n2],W.drop (k+3)):=by
 rw [oneE,sayD (by omega) h0,zak]; exact zs3 h h1 h2 h3 h4
theorem zpU {W:List ByteArray} {acc acc2:List Int} {k:Nat} (h:k < W.length) (h1:((W.getD k default).toList == wLeast.toList)=false) (h2:numW (W.getD k default)=true) (h3:acc++[zdO (W.getD k default)]=acc2):zbF acc (W.drop k)=zbF acc2 (W.drop (k+1)):=by
 rw [List.getD_eq_getElem?_getD,List.getElem?_eq_getElem h,Option.getD_some] at h1 h2 h3
 rw [List.drop_eq_getElem_cons h,zbF,if_neg (by rw [show(W[k].toList == wLeast.toList)=false from h1]; exact Bool.false_ne_true),if_pos h2,←h3]
theorem zt1 {W:List ByteArray} {acc:List Int} {k:Nat} (h:k < W.length) (h1:((W.getD k default).toList == wLeast.toList)=true):zbF acc (W.drop k)=.ok (acc,W.drop k):=by
 rw [List.getD_eq_getElem?_getD,List.getElem?_eq_getElem h,Option.getD_some] at h1
 rw [List.drop_eq_getElem_cons h,zbF,if_pos h1]
theorem zv4 {W l:List ByteArray} {f k:Nat} {n:Int} (h:k < W.length) (h1:¬ zbJ (fun y=>(W.getD k default).toList == y.toList) (l.drop f) < 0∧zbJ (fun y=>(W.getD k default).toList == y.toList) (l.drop f)+f=n):zfk l f (W.drop k)=.ok (n,W.drop (k+1)):=by
 rw [zfk,znw h,zak,←h1.2]; exact if_neg h1.1
noncomputable def dB:List UInt8:=daleT.data.toList
noncomputable def dQ0:List UInt8:=(dB.drop 0).take 170
set_option maxRecDepth 100000 in
theorem dct0:cutL 10 (dB.drop 0)=dQ0 :: cutL 10 (dB.drop 171):=zbk 0 170 (by decide +kernel) (by decide +kernel)
noncomputable def dQ1:List UInt8:=(dB.drop 171).take 20
set_option maxRecDepth 100000 in
theorem dct1:cutL 10 (dB.drop 171)=dQ1 :: cutL 10 (dB.drop 192):=zbk 171 20 (by decide +kernel) (by decide +kernel)
noncomputable def dQ2:List UInt8:=(dB.drop 192).take 25
set_option maxRecDepth 100000 in
theorem dct2:cutL 10 (dB.drop 192)=dQ2 :: cutL 10 (dB.drop 218):=zbk 192 25 (by decide +kernel) (by decide +kernel)
set_option maxRecDepth 100000 in
theorem dct3:cutL 10 (dB.drop 218)=[dB.drop 218]:=zeD (zkC (by decide +kernel))
set_option maxRecDepth 100000 in
theorem zob:zcb daleT=[mkB dQ0,mkB dQ1,mkB dQ2]:=by
 unfold zcb
 rw [zcT]
 show zfN ((cutL 10 (dB.drop 0)).map mkB)=_
 rw [dct0,dct1,dct2,dct3]
 show zfN [mkB dQ0,mkB dQ1,mkB dQ2,mkB (dB.drop 218)]=_
 rw [zfN,zfN,zfN,zfN,if_pos (by decide +kernel)]
set_option maxRecDepth 100000 in
theorem zwD:cutL 32 (dQ0.drop 0)=(dQ0.drop 0).take 5 :: cutL 32 (dQ0.drop 6):=zbk 0 5 (by decide +kernel) (by decide +kernel)
set_option maxRecDepth 100000 in
theorem zwE:cutL 32 (dQ0.drop 6)=(dQ0.drop 6).take 4 :: cutL 32 (dQ0.drop 11):=zbk 6 4 (by decide +kernel) (by decide +kernel)
set_option maxRecDepth 100000 in
theorem zwF:cutL 32 (dQ0.drop 11)=(dQ0.drop 11).take 4 :: cutL 32 (dQ0.drop 16):=zbk 11 4 (by decide +kernel) (by decide +kernel)
set_option maxRecDepth 100000 in
theorem zwG:cutL 32 (dQ0.drop 16)=(dQ0.drop 16).take 3 :: cutL 32 (dQ0.drop 20):=zbk 16 3 (by decide +kernel) (by decide +kernel)
set_option maxRecDepth 100000 in
theorem zwH:cutL 32 (dQ0.drop 20)=(dQ0.drop 20).take 6 :: cutL 32 (dQ0.drop 27):=zbk 20 6 (by decide +kernel) (by decide +kernel)
set_option maxRecDepth 100000 in
theorem zwI:cutL 32 (dQ0.drop 27)=(dQ0.drop 27).take 3 :: cutL 32 (dQ0.drop 31):=zbk 27 3 (by decide +kernel) (by decide +kernel)
set_option maxRecDepth 100000 in
theorem zwJ:cutL 32 (dQ0.drop 31)=(dQ0.drop 31).take 6 :: cutL 32 (dQ0.drop 38):=zbk 31 6 (by decide +kernel) (by decide +kernel)
set_option maxRecDepth 100000 in
theorem zwK:cutL 32 (dQ0.drop 38)=(dQ0.drop 38).take 4 :: cutL 32 (dQ0.drop 43):=zbk 38 4 (by decide +kernel) (by decide +kernel)
set_option maxRecDepth 100000 in
theorem zwL:cutL 32 (dQ0.drop 43)=(dQ0.drop 43).take 4 :: cutL 32 (dQ0.drop 48):=zbk 43 4 (by decide +kernel) (by decide +kernel)
set_option maxRecDepth 100000 in
theorem zwM:cutL 32 (dQ0.drop 48)=(dQ0.drop 48).take 3 :: cutL 32 (dQ0.drop 52):=zbk 48 3 (by decide +kernel) (by decide +kernel)
set_option maxRecDepth 100000 in
theorem zvr:cutL 32 (dQ0.drop 52)=(dQ0.drop 52).take 7 :: cutL 32 (dQ0.drop 60):=zbk 52 7 (by decide +kernel) (by decide +kernel)
set_option maxRecDepth 100000 in
theorem zvs:cutL 32 (dQ0.drop 60)=(dQ0.drop 60).take 3 :: cutL 32 (dQ0.drop 64):=zbk 60 3 (by decide +kernel) (by decide +kernel)
set_option maxRecDepth 100000 in
theorem zvt:cutL 32 (dQ0.drop 64)=(dQ0.drop 64).take 3 :: cutL 32 (dQ0.drop 68):=zbk 64 3 (by decide +kernel) (by decide +kernel)
set_option maxRecDepth 100000 in
theorem zvu:cutL 32 (dQ0.drop 68)=(dQ0.drop 68).take 5 :: cutL 32 (dQ0.drop 74):=zbk 68 5 (by decide +kernel) (by decide +kernel)
set_option maxRecDepth 100000 in
theorem zvv:cutL 32 (dQ0.drop 74)=(dQ0.drop 74).take 2 :: cutL 32 (dQ0.drop 77):=zbk 74 2 (by decide +kernel) (by decide +kernel)
set_option maxRecDepth 100000 in
theorem zvw:cutL 32 (dQ0.drop 77)=(dQ0.drop 77).take 3 :: cutL 32 (dQ0.drop 81):=zbk 77 3 (by decide +kernel) (by decide +kernel)
set_option maxRecDepth 100000 in
theorem zvx:cutL 32 (dQ0.drop 81)=(dQ0.drop 81).take 2 :: cutL 32 (dQ0.drop 84):=zbk 81 2 (by decide +kernel) (by decide +kernel)
set_option maxRecDepth 100000 in
theorem zvy:cutL 32 (dQ0.drop 84)=(dQ0.drop 84).take 3 :: cutL 32 (dQ0.drop 88):=zbk 84 3 (by decide +kernel) (by decide +kernel)
set_option maxRecDepth 100000 in
theorem zvz:cutL 32 (dQ0.drop 88)=(dQ0.drop 88).take 1 :: cutL 32 (dQ0.drop 90):=zbk 88 1 (by decide +kernel) (by decide +kernel)
set_option maxRecDepth 100000 in
theorem zvA:cutL 32 (dQ0.drop 90)=(dQ0.drop 90).take 7 :: cutL 32 (dQ0.drop 98):=zbk 90 7 (by decide +kernel) (by decide +kernel)
set_option maxRecDepth 100000 in
theorem zvB:cutL 32 (dQ0.drop 98)=(dQ0.drop 98).take 3 :: cutL 32 (dQ0.drop 102):=zbk 98 3 (by decide +kernel) (by decide +kernel)
set_option maxRecDepth 100000 in
theorem zvC:cutL 32 (dQ0.drop 102)=(dQ0.drop 102).take 3 :: cutL 32 (dQ0.drop 106):=zbk 102 3 (by decide +kernel) (by decide +kernel)
set_option maxRecDepth 100000 in
theorem zvD:cutL 32 (dQ0.drop 106)=(dQ0.drop 106).take 7 :: cutL 32 (dQ0.drop 114):=zbk 106 7 (by decide +kernel) (by decide +kernel)
set_option maxRecDepth 100000 in
theorem zvE:cutL 32 (dQ0.drop 114)=(dQ0.drop 114).take 3 :: cutL 32 (dQ0.drop 118):=zbk 114 3 (by decide +kernel) (by decide +kernel)
set_option maxRecDepth 100000 in
theorem zvF:cutL 32 (dQ0.drop 118)=(dQ0.drop 118).take 3 :: cutL 32 (dQ0.drop 122):=zbk 118 3 (by decide +kernel) (by decide +kernel)
set_option maxRecDepth 100000 in
theorem zvG:cutL 32 (dQ0.drop 122)=(dQ0.drop 122).take 4 :: cutL 32 (dQ0.drop 127):=zbk 122 4 (by decide +kernel) (by decide +kernel)
set_option maxRecDepth 100000 in
theorem zvH:cutL 32 (dQ0.drop 127)=(dQ0.drop 127).take 4 :: cutL 32 (dQ0.drop 132):=zbk 127 4 (by decide +kernel) (by decide +kernel)
set_option maxRecDepth 100000 in
theorem zvI:cutL 32 (dQ0.drop 132)=(dQ0.drop 132).take 3 :: cutL 32 (dQ0.drop 136):=zbk 132 3 (by decide +kernel) (by decide +kernel)
set_option maxRecDepth 100000 in
theorem zvJ:cutL 32 (dQ0.drop 136)=(dQ0.drop 136).take 3 :: cutL 32 (dQ0.drop 140):=zbk 136 3 (by decide +kernel) (by decide +kernel)
set_option maxRecDepth 100000 in
theorem zvK:cutL 32 (dQ0.drop 140)=(dQ0.drop 140).take 3 :: cutL 32 (dQ0.drop 144):=zbk 140 3 (by decide +kernel) (by decide +kernel)
set_option maxRecDepth 100000 in
theorem zvL:cutL 32 (dQ0.drop 144)=(dQ0.drop 144).take 8 :: cutL 32 (dQ0.drop 153):=zbk 144 8 (by decide +kernel) (by decide +kernel)
set_option maxRecDepth 100000 in
theorem zvM:cutL 32 (dQ0.drop 153)=(dQ0.drop 153).take 3 :: cutL 32 (dQ0.drop 157):=zbk 153 3 (by decide +kernel) (by decide +kernel)
set_option maxRecDepth 100000 in
theorem zvN:cutL 32 (dQ0.drop 157)=(dQ0.drop 157).take 3 :: cutL 32 (dQ0.drop 161):=zbk 157 3 (by decide +kernel) (by decide +kernel)
set_option maxRecDepth 100000 in
theorem zvO:cutL 32 (dQ0.drop 161)=(dQ0.drop 161).take 4 :: cutL 32 (dQ0.drop 166):=zbk 161 4 (by decide +kernel) (by decide +kernel)
set_option maxRecDepth 100000 in
theorem zvP:cutL 32 (dQ0.drop 166)=[dQ0.drop 166]:=zeD (zkC (by decide +kernel))
noncomputable def dW0:List ByteArray:=[mkB ((dQ0.drop 0).take 5),mkB ((dQ0.drop 6).take 4),mkB ((dQ0.drop 11).take 4),mkB ((dQ0.drop 16).take 3),mkB ((dQ0.drop 20).take 6),mkB ((dQ0.drop 27).take 3),mkB ((dQ0.drop 31).take 6),mkB ((dQ0.drop 38).take 4),mkB ((dQ0.drop 43).take 4),mkB ((dQ0.drop 48).take 3),mkB ((dQ0.drop 52).take 7),mkB ((dQ0.drop 60).take 3),mkB ((dQ0.drop 64).take 3),mkB ((dQ0.drop 68).take 5),mkB ((dQ0.drop 74).take 2),mkB ((dQ0.drop 77).take 3),mkB ((dQ0.drop 81).take 2),mkB ((dQ0.drop 84).take 3),mkB ((dQ0.drop 88).take 1),mkB ((dQ0.drop 90).take 7),mkB ((dQ0.drop 98).take 3),mkB ((dQ0.drop 102).take 3),mkB ((dQ0.drop 106).take 7),mkB ((dQ0.drop 114).take 3),mkB ((dQ0.drop 118).take 3),mkB ((dQ0.drop 122).take 4),mkB ((dQ0.drop 127).take 4),mkB ((dQ0.drop 132).take 3),mkB ((dQ0.drop 136).take 3),mkB ((dQ0.drop 140).take 3),mkB ((dQ0.drop 144).take 8),mkB ((dQ0.drop 153).take 3),mkB ((dQ0.drop 157).take 3),mkB ((dQ0.drop 161).take 4),mkB (dQ0.drop 166)]
set_option maxRecDepth 100000 in
theorem zvh:zcn (mkB dQ0) 32=dW0:=by
 rw [zcT]
 show(cutL 32 (dQ0.drop 0)).map mkB=_
 rw [zwD,zwE,zwF,zwG,zwH,zwI,zwJ,zwK,zwL,zwM,zvr,zvs,zvt,zvu,zvv,zvw,zvx,zvy,zvz,zvA,zvB,zvC,zvD,zvE,zvF,zvG,zvH,zvI,zvJ,zvK,zvL,zvM,zvN,zvO,zvP]
 rfl
set_option maxRecDepth 100000 in
theorem zxn:idle (mkB dQ0)=false:=by decide +kernel
set_option maxRecDepth 100000 in
theorem zwN:cutL 32 (dQ1.drop 0)=(dQ1.drop 0).take 4 :: cutL 32 (dQ1.drop 5):=zbk 0 4 (by decide +kernel) (by decide +kernel)
set_option maxRecDepth 100000 in
theorem zwO:cutL 32 (dQ1.drop 5)=(dQ1.drop 5).take 5 :: cutL 32 (dQ1.drop 11):=zbk 5 5 (by decide +kernel) (by decide +kernel)
set_option maxRecDepth 100000 in
theorem zwP:cutL 32 (dQ1.drop 11)=(dQ1.drop 11).take 4 :: cutL 32 (dQ1.drop 16):=zbk 11 4 (by decide +kernel) (by decide +kernel)
set_option maxRecDepth 100000 in
theorem zwQ:cutL 32 (dQ1.drop 16)=[dQ1.drop 16]:=zeD (zkC (by decide +kernel))
noncomputable def dW1:List ByteArray:=[mkB ((dQ1.drop 0).take 4),mkB ((dQ1.drop 5).take 5),mkB ((dQ1.drop 11).take 4),mkB (dQ1.drop 16)]
set_option maxRecDepth 100000 in
theorem zvi:zcn (mkB dQ1) 32=dW1:=by
 rw [zcT]
 show(cutL 32 (dQ1.drop 0)).map mkB=_
 rw [zwN,zwO,zwP,zwQ]
 rfl
set_option maxRecDepth 100000 in
theorem zxo:idle (mkB dQ1)=false:=by decide +kernel
set_option maxRecDepth 100000 in
theorem zwR:cutL 32 (dQ2.drop 0)=(dQ2.drop 0).take 4 :: cutL 32 (dQ2.drop 5):=zbk 0 4 (by decide +kernel) (by decide +kernel)
set_option maxRecDepth 100000 in
theorem zwS:cutL 32 (dQ2.drop 5)=(dQ2.drop 5).take 5 :: cutL 32 (dQ2.drop 11):=zbk 5 5 (by decide +kernel) (by decide +kernel)
set_option maxRecDepth 100000 in
theorem zwT:cutL 32 (dQ2.drop 11)=(dQ2.drop 11).take 4 :: cutL 32 (dQ2.drop 16):=zbk 11 4 (by decide +kernel) (by decide +kernel)
set_option maxRecDepth 100000 in
theorem zwU:cutL 32 (dQ2.drop 16)=(dQ2.drop 16).take 3 :: cutL 32 (dQ2.drop 20):=zbk 16 3 (by decide +kernel) (by decide +kernel)
set_option maxRecDepth 100000 in
theorem zwV:cutL 32 (dQ2.drop 20)=(dQ2.drop 20).take 1 :: cutL 32 (dQ2.drop 22):=zbk 20 1 (by decide +kernel) (by decide +kernel)
set_option maxRecDepth 100000 in
theorem zwW:cutL 32 (dQ2.drop 22)=[dQ2.drop 22]:=zeD (zkC (by decide +kernel))
noncomputable def dW2:List ByteArray:=[mkB ((dQ2.drop 0).take 4),mkB ((dQ2.drop 5).take 5),mkB ((dQ2.drop 11).take 4),mkB ((dQ2.drop 16).take 3),mkB ((dQ2.drop 20).take 1),mkB (dQ2.drop 22)]
set_option maxRecDepth 100000 in
theorem zvj:zcn (mkB dQ2) 32=dW2:=by
 rw [zcT]
 show(cutL 32 (dQ2.drop 0)).map mkB=_
 rw [zwR,zwS,zwT,zwU,zwV,zwW]
 rfl
set_option maxRecDepth 100000 in
theorem zxp:idle (mkB dQ2)=false:=by decide +kernel
set_option maxRecDepth 100000 in
theorem dn0:zes (dW0.drop 1)=.ok ((mkB ((dQ0.drop 6).take 4)),dW0.drop 2):=zuh (by decide) (by decide +kernel)
set_option maxRecDepth 100000 in
theorem zwz:oneE ⟨#[98,97,115,101]⟩ 1 (dW0.drop 2)=.ok ([700],dW0.drop 4):=zlm (by decide) (by decide +kernel) (by decide +kernel) (by decide +kernel)
set_option maxRecDepth 100000 in
theorem ztC:oneE ⟨#[98,97,116,116,101,114]⟩ 1 (dW0.drop 4)=.ok ([100],dW0.drop 6):=zlm (by decide) (by decide +kernel) (by decide +kernel) (by decide +kernel)
set_option maxRecDepth 100000 in
theorem ztD:oneE ⟨#[104,101,105,103,104,116]⟩ 1 (dW0.drop 6)=.ok ([1200],dW0.drop 8):=zlm (by decide) (by decide +kernel) (by decide +kernel) (by decide +kernel)
set_option maxRecDepth 100000 in
theorem zwX:oneE ⟨#[115,107,105,110]⟩ 1 (dW0.drop 8)=.ok ([250],dW0.drop 10):=zlm (by decide) (by decide +kernel) (by decide +kernel) (by decide +kernel)
set_option maxRecDepth 100000 in
theorem zrm:sayE ⟨#[104,101,105,103,104,116,115]⟩ (dW0.drop 10)=.ok ((),dW0.drop 11):=sayD (by decide) (by decide +kernel)
set_option maxRecDepth 100000 in
theorem dh0:zbF [] (dW0.drop 11)=zbF [200] (dW0.drop 12):=zpU (by decide) (by decide +kernel) (by decide +kernel) (by decide +kernel)
set_option maxRecDepth 100000 in
theorem dh1:zbF [200] (dW0.drop 12)=zbF [200,180] (dW0.drop 13):=zpU (by decide) (by decide +kernel) (by decide +kernel) (by decide +kernel)
set_option maxRecDepth 100000 in
theorem dhe:zbF [200,180] (dW0.drop 13)=.ok ([200,180],dW0.drop 13):=zt1 (by decide) (by decide +kernel)
set_option maxRecDepth 100000 in
theorem dhs:zbF [] (dW0.drop 11)=.ok ([200,180],dW0.drop 13):=by rw [dh0,dh1,dhe]
set_option maxRecDepth 100000 in
theorem zvm:oneE ⟨#[108,101,97,115,116]⟩ 1 (dW0.drop 13)=.ok ([60],dW0.drop 15):=zlm (by decide) (by decide +kernel) (by decide +kernel) (by decide +kernel)
set_option maxRecDepth 100000 in
theorem dlap:oneE ⟨#[108,97,112]⟩ 1 (dW0.drop 15)=.ok ([60],dW0.drop 17):=zlm (by decide) (by decide +kernel) (by decide +kernel) (by decide +kernel)
set_option maxRecDepth 100000 in
theorem drun:oneE ⟨#[114,117,110]⟩ 1 (dW0.drop 17)=.ok ([2],dW0.drop 19):=zlm (by decide) (by decide +kernel) (by decide +kernel) (by decide +kernel)
set_option maxRecDepth 100000 in
theorem zrn:oneE ⟨#[116,104,114,111,117,103,104]⟩ 2 (dW0.drop 19)=.ok ([900,500],dW0.drop 22):=zur (by decide) (by decide +kernel) (by decide +kernel) (by decide +kernel) (by decide +kernel) (by decide +kernel)
set_option maxRecDepth 100000 in
theorem zrl:oneE ⟨#[102,111,111,116,105,110,103]⟩ 2 (dW0.drop 22)=.ok ([200,100],dW0.drop 25):=zur (by decide) (by decide +kernel) (by decide +kernel) (by decide +kernel) (by decide +kernel) (by decide +kernel)
set_option maxRecDepth 100000 in
theorem zwA:sayE ⟨#[99,111,112,101]⟩ (dW0.drop 25)=.ok ((),dW0.drop 26):=sayD (by decide) (by decide +kernel)
set_option maxRecDepth 100000 in
theorem zwB:zfk copesW 0 (dW0.drop 26)=.ok (3,dW0.drop 27):=zv4 (by decide) (by decide +kernel)
set_option maxRecDepth 100000 in
theorem dc3:zco 3 (dW0.drop 27)=.ok ([300,200,150],dW0.drop 30):=zs4 (by decide) (by decide +kernel) (by decide +kernel) (by decide +kernel) (by decide +kernel) (by decide +kernel) (by decide +kernel)
set_option maxRecDepth 100000 in
theorem zpg:oneE ⟨#[102,114,105,99,116,105,111,110]⟩ 2 (dW0.drop 30)=.ok ([500,700],dW0.drop 33):=zur (by decide) (by decide +kernel) (by decide +kernel) (by decide +kernel) (by decide +kernel) (by decide +kernel)
set_option maxRecDepth 100000 in
theorem zwC:oneE ⟨#[114,111,111,100]⟩ 1 (dW0.drop 33)=.ok ([6000],dW0.drop 35):=zlm (by decide) (by decide +kernel) (by decide +kernel) (by decide +kernel)
noncomputable def dSh:Sht:=⟨(mkB ((dQ0.drop 6).take 4)),700,100,1200,250,[200,180],60,60,2,900,500,200,100,3,300,200,150,500,700,6000⟩
set_option maxRecDepth 100000 in
theorem zvQ:zci (dW0.drop 1)=.ok (dSh,dW0.drop 35):=by
 unfold zci
 simp only [dn0,zwz,ztC,ztD,zwX,zrm,dhs,zvm,dlap,drun,zrn,zrl,zwA,zwB,dc3,zpg,zwC,zak]
 rfl
set_option maxRecDepth 100000 in
theorem zpj:za4 dSh=true:=by decide +kernel
set_option maxRecDepth 100000 in
theorem zvn:zcu ⟨[],[]⟩ ((mkB dQ0))=.ok ⟨[dSh],[]⟩:=by
 have h1:zff ⟨[],[]⟩ (mkB ((dQ0.drop 0).take 5)) (dW0.drop 1)=zb3 ⟨[],[]⟩ (dW0.drop 1):=if_pos (by decide +kernel)
 have h2:endE (dW0.drop 35)=.ok ((),dW0.drop 35):=if_pos (by decide)
 unfold zcu
 rw [zvh,zui (W:=dW0) (by decide),zak]
 show zff ⟨[],[]⟩ (mkB ((dQ0.drop 0).take 5)) (dW0.drop 1)=_
 rw [h1]
 unfold zb3
 simp only [zvQ,zak,h2]
 rw [if_neg (by decide),if_pos zpj]
 rfl
noncomputable def dWl0:Wll:=⟨(mkB ((dQ1.drop 5).take 5)),(mkB ((dQ1.drop 11).take 4)),3000,[]⟩
set_option maxRecDepth 100000 in
theorem zvo:zcu ⟨[dSh],[]⟩ ((mkB dQ1))=.ok ⟨[dSh],[dWl0]⟩:=by
 have h1:zff ⟨[dSh],[]⟩ (mkB ((dQ1.drop 0).take 4)) (dW1.drop 1)=zb1 ⟨[dSh],[]⟩ (dW1.drop 1):=(if_neg (by decide +kernel)).trans (if_pos (by decide +kernel))
 have h2:zes (dW1.drop 1)=.ok ((mkB ((dQ1.drop 5).take 5)),dW1.drop 2):=zuh (by decide) (by decide +kernel)
 have h3:zes (dW1.drop 2)=.ok ((mkB ((dQ1.drop 11).take 4)),dW1.drop 3):=zuh (by decide) (by decide +kernel)
 have h4:zco 1 (dW1.drop 3)=.ok ([3000],dW1.drop 4):=zqd (by decide) (by decide +kernel) (by decide +kernel)
 have h5:endE (dW1.drop 4)=.ok ((),dW1.drop 4):=if_pos (by decide)
 unfold zcu
 rw [zvi,zui (W:=dW1) (by decide),zak]
 show zff ⟨[dSh],[]⟩ (mkB ((dQ1.drop 0).take 4)) (dW1.drop 1)=_
 rw [h1]
 unfold zb1
 simp only [h2,h3,h4,h5,zak]
 rw [if_neg (by decide),if_pos (by decide +kernel),if_pos (by decide +kernel)]
 rfl
def dOp:Opn:=⟨1,1000,250,0,220⟩
noncomputable def dWl:Wll:=more dWl0 dOp
set_option maxRecDepth 100000 in
theorem zvp:zcu ⟨[dSh],[dWl0]⟩ ((mkB dQ2))=.ok ⟨[dSh],[dWl]⟩:=by
 have h1:zff ⟨[dSh],[dWl0]⟩ (mkB ((dQ2.drop 0).take 4)) (dW2.drop 1)=zch ⟨[dSh],[dWl0]⟩ (dW2.drop 1):=(if_neg (by decide +kernel)).trans ((if_neg (by decide +kernel)).trans (if_pos (by decide +kernel)))
 have h2:zfk opensW 1 (dW2.drop 1)=.ok (1,dW2.drop 2):=zv4 (by decide) (by decide +kernel)
 have h3:zco 4 (dW2.drop 2)=.ok ([1000,250,0,220],dW2.drop 6):=zv9 (by decide) (by decide +kernel) (by decide +kernel) (by decide +kernel) (by decide +kernel) (by decide +kernel) (by decide +kernel) (by decide +kernel) (by decide +kernel)
 have h5:endE (dW2.drop 6)=.ok ((),dW2.drop 6):=if_pos (by decide)
 have h6:zd1 (getS [dSh] dWl0.sheet).height (more dWl0 dOp)=true:=by decide +kernel
 unfold zcu
 rw [zvj,zui (W:=dW2) (by decide),zak]
 show zff ⟨[dSh],[dWl0]⟩ (mkB ((dQ2.drop 0).take 4)) (dW2.drop 1)=_
 rw [h1]
 unfold zch
 simp only [h2,h3,h5,zak]
 exact(if_neg (by decide)).trans (if_pos h6)
set_option maxRecDepth 100000 in
theorem zgT:zgA daleT=(⟨[dSh],[dWl]⟩,0,0):=by
 refine zkf (by have:=zpe; omega) ?_
 rw [zob,zhB zxn zvn,zhB zxo zvo,zhB zxp zvp]
 rfl
end Go.Proofs.YtdcfcfhmkfkgmaaGreatDoor
namespace Go.Pln
open Go Go.K Go.RowKit Go.Stn
def smS (S:List ShC) (i:Nat):Bool:=!(decide (20 < ((S.getD i default).s.heights.length:Int))||decide (40 < ((S.getD i default).s.name.size:Int)))
def smW (V:List WlC) (i:Nat):Bool:=!(decide (25 < ((V.getD i default).s.opens.length:Int)))
def zgI (S:List ShC) (V:List WlC):Bool:=allI S.length (smS S)&&(allI V.length (smW V)&&(decide ((S.length:Int)≤25)&&decide ((V.length:Int)≤60)))
section
variable {S:List ShC} {V:List WlC} {i:Int}
theorem zqO (h0:0≤i) (h:i < (S.length:Int)) (hn:smS S i.toNat=false):zgI S V=false:=by
 unfold zgI; rw [zc9 (i:=i.toNat) (by omega) hn,Bool.false_and]
theorem zqP (h0:0≤i) (h:i < (V.length:Int)) (hn:smW V i.toNat=false):zgI S V=false:=by
 unfold zgI; rw [zc9 (i:=i.toNat) (by omega) hn,Bool.false_and,Bool.and_false]
theorem zqN {k:Int} (h1:¬ i < (S.length:Int)) (h2:∀ j:Nat,(j:Int) < i→smS S j=true) (h3:¬ k < (V.length:Int)) (h4:∀ j:Nat,(j:Int) < k→smW V j=true) :
  zgI S V=(decide ((S.length:Int)≤25)&&decide ((V.length:Int)≤60)):=by
 unfold zgI
 rw [zdN (fun j hj=>h2 j (by omega)),zdN (fun j hj=>h4 j (by omega)),Bool.true_and,Bool.true_and]
structure zoN (S:List ShC) (V:List WlC):Prop where
 ls:S.length≤25
 lv:V.length≤60
 sh:∀ z∈S,z.s.heights.length≤20∧z.s.name.size≤40
 wl:∀ z∈V,z.s.opens.length≤25
theorem zmC (h:zgI S V=true):zoN S V:=by
 unfold zgI at h
 simp only [Bool.and_eq_true,decide_eq_true_eq] at h
 obtain⟨h1,h2,h3,h4⟩:=h
 refine⟨by omega,by omega,fun z hz=>?_,fun z hz=>?_⟩
 ·obtain⟨i,hi,rfl⟩:=List.getElem_of_mem hz
  have:=zdf.1 h1 i hi
  unfold smS at this
  rw [List.getD_eq_getElem?_getD,List.getElem?_eq_getElem hi] at this
  simp only [Option.getD_some,Bool.not_eq_true',Bool.or_eq_false_iff,decide_eq_false_iff_not] at this
  omega
 ·obtain⟨i,hi,rfl⟩:=List.getElem_of_mem hz
  have:=zdf.1 h2 i hi
  unfold smW at this
  rw [List.getD_eq_getElem?_getD,List.getElem?_eq_getElem hi] at this
  simp only [Option.getD_some,Bool.not_eq_true',decide_eq_false_iff_not] at this
  omega
end
end Go.Pln
namespace Go.Proofs.YtdcfcfhmkfkgmaaGreatDoor
open Go.K Go.Stn Go.Pln Go.RowKit
set_option maxRecDepth 100000 in
set_option maxHeartbeats 4000000 in
theorem zuI (a:Option Addr) (cap:Nat) (S:List ShC) (b:Option Addr) (bcap:Nat) (V:List WlC) (w:World) (hl:Has w (zaW a 20 zbH S)) (hs:Small S.length) (hlw:Has w (zaW b 4 zbS V)) (hsw:V.length≤4398046511104) (_hfS:∀ z∈S,Fits z.s.name.size) :
  Calls Tryz.prog 12 #[.agg #[.slice a S.length cap,.slice b V.length bcap]] w (Pure (.bool (zgI S V)) w):=by
 refine zan (vs:=[_]) Tryz.func12 rfl rfl (Nat.le_of_ble_eq_true rfl) ?_
 refine zac (zaa (zaG rfl rfl (za3 (vs:=[_,_]) rfl rfl) fun b1=>?_))
 refine gA ?_
 refine zag (zae (T':=[(1,_),(2,_)]) ⟨rfl,rfl,trivial⟩ ?_)
 refine zac (zac (zaa (gA ?_)))
 refine zag (zae (T':=[(1,_),(2,_),(3,_)]) ⟨rfl,rfl,rfl,trivial⟩ ?_)
 refine zas ?_
 refine zbf (X:=Int) (fun(i:Int)=>[(1,.pointer (some ⟨b1,0,none⟩)),(2,.bool false),(3,.int .i64 i)]) (fun(i:Int)=>[Box b1 [.slice a S.length cap,.slice b V.length bcap] 25]) (fun(i:Int)=>(0≤i∧i≤S.length∧∀ j:Nat,(j:Int) < i→smS S j=true)) (fun(i:Int)=>(S.length - i).toNat) 0 ⟨rfl,rfl,rfl,trivial⟩ rfl ?_ ?_
 ·exact⟨by omega,by omega,fun j hj=>by omega⟩
 ·rintro i hI
  obtain⟨g0,g1,g2⟩:=hI
  refine zac (zac (zaa (gM ?_)))
  refine gQ (zab zd6 rfl) ?_
  refine gQ (zah 0 tf22 rfl rfl rfl) ?_
  refine gQ (zaV (Tryz.underlying22) rfl) ?_
  refine gQ (zbw rfl rfl) ?_
  refine zag (zae (T':=[(1,_),(2,_),(3,_),(9,_)]) ⟨rfl,rfl,rfl,rfl,trivial⟩ ?_)
  refine zap rfl (fun hc9=>?_) (fun hc9=>?_)
  ·have hc9:=of_decide_eq_true hc9
   refine zaq (zac (zas ?_))
   refine zac (zbb 18 (fun _=>mixed) (by kernel_rfl) ?_)
   refine ph_y (zab zd6 rfl) ?_
   refine ph_y (zah 0 tf22 rfl rfl rfl) ?_
   refine ph_y (zaf rfl) ?_
   refine ph_y (zaE se22 rfl rfl (fun _ hw=>(Rd.has (Has.rd hl) hw)) (by omega) (by omega)) ?_
   refine ph_y (zbh zgl rfl (fun w hw=>zaO (i:=i) (Rd.has (Has.rd hl) hw) (by omega) (by omega))) ?_
   refine ph_y (zbn tf35 rfl (fun _ hw=>(Rd.has (Has.rd hl) hw)) (by omega) (by omega) rfl) ?_
   refine ph_y (zaV (Tryz.underlying35) rfl) ?_
   refine ph_y (zc6 rfl rfl) ?_
   refine ph_y (zaf rfl) ?_
   refine zaz rfl rfl (fun hgd=>by(try rw [hgd]); exact(zab zd6 rfl)) ?_
   refine zaz rfl rfl (fun hgd=>by(try rw [hgd]); exact(zah 0 tf22 rfl rfl rfl)) ?_
   refine zaz rfl rfl (fun hgd=>by(try rw [hgd]); exact(zaf rfl)) ?_
   refine zaz rfl rfl (fun hgd=>by(try rw [hgd]); exact(zaE se22 rfl rfl (fun _ hw=>(Rd.has (Has.rd hl) hw)) (by omega) (by omega))) ?_
   refine zaz rfl rfl (fun hgd=>by(try rw [hgd]); exact(zbh zkW rfl (fun w hw=>zaO (i:=i) (Rd.has (Has.rd hl) hw) (by omega) (by omega)))) ?_
   refine zaz rfl rfl (fun hgd=>by(try rw [hgd]); exact(zbn tf9 rfl (fun _ hw=>(Rd.has (Has.rd hl) hw)) (by omega) (by omega) rfl)) ?_
   refine zaz rfl rfl (fun hgd=>by(try rw [hgd]); exact(zeO (Tryz.underlying9) rfl)) ?_
   refine zaz rfl rfl (fun hgd=>by(try rw [hgd]); exact(zc6 rfl rfl)) ?_
   refine ph_y (zaR rfl rfl rfl) ?_
   refine zag (zae (T':=[(1,_),(2,_),(3,_),(29,_)]) ⟨rfl,rfl,rfl,rfl,trivial⟩ ?_)
   refine zap rfl (fun hc29=>?_) (fun hc29=>?_)
   ·have hno:smS S i.toNat=false:=by unfold smS; rw [hc29]; rfl
    refine zac (zaa (gA ?_))
    refine zag (zae (T':=[(1,_),(2,_),(3,_)]) ⟨rfl,rfl,rfl,trivial⟩ ?_)
    refine zaw (zay (zaC rfl (zau rfl)) ?_)
    rw [zqO g0 hc9 hno]
   ·have hyes:smS S i.toNat=true:=by unfold smS; rw [hc29]; rfl
    refine zaq (zaa (gM ?_))
    refine gQ (zaY rfl rfl (by omega) (by omega)) ?_
    refine gA ?_
    refine zag (zae (T':=[(1,_),(2,_),(3,_)]) ⟨rfl,rfl,rfl,trivial⟩ ?_)
    exact za1 (i+1) ⟨rfl,rfl,rfl,trivial⟩ rfl ⟨by omega,by omega,zdu g0 g2 hyes⟩ (by omega)
  ·have hc9:=of_decide_eq_false hc9
   refine za8 rfl ?_
   refine zac (zac (zaa (gA ?_)))
   refine zag (zae (T':=[(1,_),(2,_),(4,_)]) ⟨rfl,rfl,rfl,trivial⟩ ?_)
   refine zas ?_
   refine zbf (X:=Int) (fun(i:Int)=>[(1,.pointer (some ⟨b1,0,none⟩)),(2,.bool false),(4,.int .i64 i)]) (fun(i:Int)=>[Box b1 [.slice a S.length cap,.slice b V.length bcap] 25]) (fun(i:Int)=>(0≤i∧i≤V.length∧∀ j:Nat,(j:Int) < i→smW V j=true)) (fun(i:Int)=>(V.length - i).toNat) 0 ⟨rfl,rfl,rfl,trivial⟩ rfl ?_ ?_
   ·exact⟨by omega,by omega,fun j hj=>by omega⟩
   ·rintro i hI
    have gi2:=g2; have hgi:=hc9
    rename_i ii
    obtain⟨k0,k1,k2⟩:=hI
    refine zac (zac (zaa (gM ?_)))
    refine gQ (zab zdT rfl) ?_
    refine gQ (zah 0 tf23 rfl rfl rfl) ?_
    refine gQ (zaV (Tryz.underlying23) rfl) ?_
    refine gQ (zbw rfl rfl) ?_
    refine zag (zae (T':=[(1,_),(2,_),(4,_),(34,_)]) ⟨rfl,rfl,rfl,rfl,trivial⟩ ?_)
    refine zap rfl (fun hc34=>?_) (fun hc34=>?_)
    ·have hc34:=of_decide_eq_true hc34
     refine zaq (zac (zas ?_))
     refine zac (zaa (gk_y rfl rfl (zab zdT rfl) ?_))
     refine gQ (zah 0 tf23 rfl rfl rfl) ?_
     refine gM ?_
     refine gQ (zaE se23 rfl rfl (fun _ hw=>(Rd.has (Has.rd hlw) hw)) (by omega) (by omega)) ?_
     refine gQ (zbh zgn rfl (fun w hw=>zaO (i:=i) (Rd.has (Has.rd hlw) hw) (by omega) (by omega))) ?_
     refine gQ (zbn tf63 rfl (fun _ hw=>(Rd.has (Has.rd hlw) hw)) (by omega) (by omega) rfl) ?_
     refine gQ (zaV (Tryz.underlying63) rfl) ?_
     refine gQ (zc6 rfl rfl) ?_
     refine zag (zae (T':=[(1,_),(2,_),(4,_),(44,_)]) ⟨rfl,rfl,rfl,rfl,trivial⟩ ?_)
     refine zap rfl (fun hc44=>?_) (fun hc44=>?_)
     ·have hno:smW V i.toNat=false:=by unfold smW; rw [hc44]; rfl
      refine zac (zaa (gA ?_))
      refine zag (zae (T':=[(1,_),(2,_),(4,_)]) ⟨rfl,rfl,rfl,trivial⟩ ?_)
      refine zaw (zay (zaC rfl (zau rfl)) ?_)
      rw [zqP k0 hc34 hno]
     ·have hyes:smW V i.toNat=true:=by unfold smW; rw [hc44]; rfl
      refine zaq (zaa (gM ?_))
      refine gQ (zaY rfl rfl (by omega) (by omega)) ?_
      refine gA ?_
      refine zag (zae (T':=[(1,_),(2,_),(4,_)]) ⟨rfl,rfl,rfl,trivial⟩ ?_)
      exact za1 (i+1) ⟨rfl,rfl,rfl,trivial⟩ rfl ⟨by omega,by omega,zdu k0 k2 hyes⟩ (by omega)
    ·have hc34:=of_decide_eq_false hc34
     refine za8 rfl ?_
     refine zac (zbb 11 (fun _=>mixed) (by kernel_rfl) ?_)
     refine ph_y (zab zd6 rfl) ?_
     refine ph_y (zah 0 tf22 rfl rfl rfl) ?_
     refine ph_y (zaV (Tryz.underlying22) rfl) ?_
     refine ph_y (zeT rfl rfl) ?_
     refine ph_y (zaf rfl) ?_
     refine zaH rfl rfl (fun hgd=>by(try rw [hgd]); exact(zab zdT rfl)) ?_
     refine zaH rfl rfl (fun hgd=>by(try rw [hgd]); exact(zah 0 tf23 rfl rfl rfl)) ?_
     refine zaH rfl rfl (fun hgd=>by(try rw [hgd]); exact(zaV (Tryz.underlying23) rfl)) ?_
     refine zaH rfl rfl (fun hgd=>by(try rw [hgd]); exact(zeT rfl rfl)) ?_
     refine ph_y (zaX rfl rfl rfl) ?_
     refine ph_y (zad rfl) ?_
     refine zag (zae (T':=[(2,_)]) ⟨rfl,trivial⟩ ?_)
     refine zaw (zay (zaC rfl (zau rfl)) ?_)
     rw [zqN hc9 g2 hc34 k2]
end Go.Proofs.YtdcfcfhmkfkgmaaGreatDoor
namespace Go.Proofs.YtdcfcfhmkfkgmaaGreatDoor
open Go.K Go.Stn Go.Pln Go.RowKit
set_option maxRecDepth 100000 in
set_option maxHeartbeats 8000000 in
theorem zzW (s:Sht) (a:Option Addr) (cap:Nat) (b:Option Addr) (bcap:Nat) (w:World) (hl:Has w (Ints a s.heights)) (hl2:Has w (Ints b s.heights)) (hs:Small s.heights.length) :
  Calls Tryz.prog 39 #[.agg #[.string s.name,.int .i64 s.base,.int .i64 s.batter,.int .i64 s.height,.int .i64 s.skin,.slice a s.heights.length cap,.int .i64 s.least,.int .i64 s.lap,.int .i64 s.run,.int .i64 s.every,.int .i64 s.at_,.int .i64 s.footing,.int .i64 s.spread,.int .u8 s.cope,.int .i64 s.tall,.int .i64 s.short,.int .i64 s.thick,.int .i64 s.low,.int .i64 s.high,.int .i64 s.rood],.agg #[.string s.name,.int .i64 s.base,.int .i64 s.batter,.int .i64 s.height,.int .i64 s.skin,.slice b s.heights.length bcap,.int .i64 s.least,.int .i64 s.lap,.int .i64 s.run,.int .i64 s.every,.int .i64 s.at_,.int .i64 s.footing,.int .i64 s.spread,.int .u8 s.cope,.int .i64 s.tall,.int .i64 s.short,.int .i64 s.thick,.int .i64 s.low,.int .i64 s.high,.int .i64 s.rood]] w (Pure (.bool true) w):=by
 refine zan (vs:=[_,_]) Tryz.func39 rfl rfl (Nat.le_of_ble_eq_true rfl) ?_
 refine zac (zaa (zaG rfl rfl (za3 (vs:=[_,_,_,_,_,_,_,_,_,_,_,_,_,_,_,_,_,_,_,_]) rfl rfl) fun b2=>?_))
 refine zaG rfl rfl (za3 (vs:=[_,_,_,_,_,_,_,_,_,_,_,_,_,_,_,_,_,_,_,_]) rfl rfl) fun b3=>?_
 refine gA ?_
 refine zag (zae (T':=[(2,_),(3,_),(4,_)]) ⟨rfl,rfl,rfl,trivial⟩ ?_)
 refine zac (zac (zaa (gk_y rfl rfl (zab zia rfl) ?_)))
 refine gQ (zah 1 tf35 rfl rfl rfl) ?_
 refine gQ (zaV (Tryz.underlying35) rfl) ?_
 refine gQ (zab zgl rfl) ?_
 refine gQ (zah 0 tf35 rfl rfl rfl) ?_
 refine gQ (zaV (Tryz.underlying35) rfl) ?_
 refine gQ (zcr rfl rfl) ?_
 refine zag (zae (T':=[(2,_),(3,_),(4,_),(12,_)]) ⟨rfl,rfl,rfl,rfl,trivial⟩ ?_)
 refine zap rfl (fun hc12=>?_) (fun hc12=>?_)
 ·exfalso; simp at hc12
 ·simp only [Bool.not_eq_false',decide_eq_true_eq] at hc12
  refine zaq (zac (zac (zaa (gA ?_))))
  refine zag (zae (T':=[(2,_),(3,_),(4,_),(5,_)]) ⟨rfl,rfl,rfl,rfl,trivial⟩ ?_)
  refine zas ?_
  refine zbf (X:=Int) (fun(i:Int)=>[(2,.pointer (some ⟨b2,0,none⟩)),(3,.pointer (some ⟨b3,0,none⟩)),(4,.bool false),(5,.int .i64 i)]) (fun(i:Int)=>[Box b3 [.string s.name,.int .i64 s.base,.int .i64 s.batter,.int .i64 s.height,.int .i64 s.skin,.slice b s.heights.length bcap,.int .i64 s.least,.int .i64 s.lap,.int .i64 s.run,.int .i64 s.every,.int .i64 s.at_,.int .i64 s.footing,.int .i64 s.spread,.int .u8 s.cope,.int .i64 s.tall,.int .i64 s.short,.int .i64 s.thick,.int .i64 s.low,.int .i64 s.high,.int .i64 s.rood] 37,Box b2 [.string s.name,.int .i64 s.base,.int .i64 s.batter,.int .i64 s.height,.int .i64 s.skin,.slice a s.heights.length cap,.int .i64 s.least,.int .i64 s.lap,.int .i64 s.run,.int .i64 s.every,.int .i64 s.at_,.int .i64 s.footing,.int .i64 s.spread,.int .u8 s.cope,.int .i64 s.tall,.int .i64 s.short,.int .i64 s.thick,.int .i64 s.low,.int .i64 s.high,.int .i64 s.rood] 41]) (fun(i:Int)=>(0≤i∧i≤s.heights.length)) (fun(i:Int)=>(s.heights.length - i).toNat) 0 ⟨rfl,rfl,rfl,rfl,trivial⟩ rfl ?_ ?_
  ·exact⟨by omega,by omega⟩
  ·rintro i hI
   obtain⟨g0,g1⟩:=hI
   refine zac (zac (zaa (gM ?_)))
   refine gQ (zab zia rfl) ?_
   refine gQ (zah 1 tf35 rfl rfl rfl) ?_
   refine gQ (zaV (Tryz.underlying35) rfl) ?_
   refine gQ (zbw rfl rfl) ?_
   refine zag (zae (T':=[(2,_),(3,_),(4,_),(5,_),(17,_)]) ⟨rfl,rfl,rfl,rfl,rfl,trivial⟩ ?_)
   refine zap rfl (fun hc17=>?_) (fun hc17=>?_)
   ·have hc17:=of_decide_eq_true hc17
    refine zaq (zac (zas ?_))
    refine zac (zbb 11 (fun _=>mixed) (by kernel_rfl) ?_)
    refine ph_y (zab zia rfl) ?_
    refine ph_y (zah 1 tf35 rfl rfl rfl) ?_
    refine ph_y (zaf rfl) ?_
    refine ph_y (zaE se35 rfl rfl (fun _ hw=>(Rd.has (Has.rd hl) hw)) (by omega) (by omega)) ?_
    refine ph_y (zcE tf3 rfl (fun _ hw=>(Rd.has (Has.rd hl) hw)) (by omega) (by omega) rfl) ?_
    refine ph_y (zab zgl rfl) ?_
    refine ph_y (zah 0 tf35 rfl rfl rfl) ?_
    refine ph_y (zaf rfl) ?_
    refine ph_y (zaE se35 rfl rfl (fun _ hw=>(Rd.has (Has.rd hl2) hw)) (by omega) (by omega)) ?_
    refine ph_y (zcE tf3 rfl (fun _ hw=>(Rd.has (Has.rd hl2) hw)) (by omega) (by omega) rfl) ?_
    refine ph_y (zcr rfl rfl) ?_
    refine zag (zae (T':=[(2,_),(3,_),(4,_),(5,_),(30,_)]) ⟨rfl,rfl,rfl,rfl,rfl,trivial⟩ ?_)
    refine zap rfl (fun hc30=>?_) (fun hc30=>?_)
    ·exfalso; simp at hc30
    ·simp only [Bool.not_eq_false',decide_eq_true_eq] at hc30
     refine zaq (zaa (gM ?_))
     refine gQ (zaY rfl rfl (by omega) (by omega)) ?_
     refine gA ?_
     refine zag (zae (T':=[(2,_),(3,_),(4,_),(5,_)]) ⟨rfl,rfl,rfl,rfl,trivial⟩ ?_)
     exact za1 (i+1) ⟨rfl,rfl,rfl,rfl,trivial⟩ rfl ⟨by omega,by omega⟩ (by omega)
   ·
    refine za8 rfl ?_
    refine zac (zac (zbb 68 (fun _=>mixed) (by kernel_rfl) ?_))
    refine ph_y (zab znb rfl) ?_
    refine ph_y (zah 1 tf9 rfl rfl rfl) ?_
    refine ph_y (zab zkW rfl) ?_
    refine ph_y (zah 0 tf9 rfl rfl rfl) ?_
    refine ph_y (ziV rfl rfl) ?_
    refine ph_y (zaf rfl) ?_
    refine zaz rfl rfl (fun hgd=>by(try rw [hgd]); exact(zab znc rfl)) ?_
    refine zaz rfl rfl (fun hgd=>by(try rw [hgd]); exact(zah 1 tf3 rfl rfl rfl)) ?_
    refine zaz rfl rfl (fun hgd=>by(try rw [hgd]); exact(zab zna rfl)) ?_
    refine zaz rfl rfl (fun hgd=>by(try rw [hgd]); exact(zah 0 tf3 rfl rfl rfl)) ?_
    refine zaz rfl rfl (fun hgd=>by(try rw [hgd]); exact(zcr rfl rfl)) ?_
    refine ph_y (zaR rfl rfl rfl) ?_
    refine ph_y (zaf rfl) ?_
    refine zaz rfl rfl (fun hgd=>by(try rw [hgd]); exact(zab zpv rfl)) ?_
    refine zaz rfl rfl (fun hgd=>by(try rw [hgd]); exact(zah 1 tf3 rfl rfl rfl)) ?_
    refine zaz rfl rfl (fun hgd=>by(try rw [hgd]); exact(zab zps rfl)) ?_
    refine zaz rfl rfl (fun hgd=>by(try rw [hgd]); exact(zah 0 tf3 rfl rfl rfl)) ?_
    refine zaz rfl rfl (fun hgd=>by(try rw [hgd]); exact(zcr rfl rfl)) ?_
    refine ph_y (zaR rfl rfl rfl) ?_
    refine ph_y (zaf rfl) ?_
    refine zaz rfl rfl (fun hgd=>by(try rw [hgd]); exact(zab zep rfl)) ?_
    refine zaz rfl rfl (fun hgd=>by(try rw [hgd]); exact(zah 1 tf3 rfl rfl rfl)) ?_
    refine zaz rfl rfl (fun hgd=>by(try rw [hgd]); exact(zab zdC rfl)) ?_
    refine zaz rfl rfl (fun hgd=>by(try rw [hgd]); exact(zah 0 tf3 rfl rfl rfl)) ?_
    refine zaz rfl rfl (fun hgd=>by(try rw [hgd]); exact(zcr rfl rfl)) ?_
    refine ph_y (zaR rfl rfl rfl) ?_
    refine ph_y (zaf rfl) ?_
    refine zaz rfl rfl (fun hgd=>by(try rw [hgd]); exact(zab znd rfl)) ?_
    refine zaz rfl rfl (fun hgd=>by(try rw [hgd]); exact(zah 1 tf3 rfl rfl rfl)) ?_
    refine zaz rfl rfl (fun hgd=>by(try rw [hgd]); exact(zab zkX rfl)) ?_
    refine zaz rfl rfl (fun hgd=>by(try rw [hgd]); exact(zah 0 tf3 rfl rfl rfl)) ?_
    refine zaz rfl rfl (fun hgd=>by(try rw [hgd]); exact(zcr rfl rfl)) ?_
    refine ph_y (zaR rfl rfl rfl) ?_
    refine ph_y (zaf rfl) ?_
    refine zaz rfl rfl (fun hgd=>by(try rw [hgd]); exact(zab zpw rfl)) ?_
    refine zaz rfl rfl (fun hgd=>by(try rw [hgd]); exact(zah 1 tf3 rfl rfl rfl)) ?_
    refine zaz rfl rfl (fun hgd=>by(try rw [hgd]); exact(zab zpt rfl)) ?_
    refine zaz rfl rfl (fun hgd=>by(try rw [hgd]); exact(zah 0 tf3 rfl rfl rfl)) ?_
    refine zaz rfl rfl (fun hgd=>by(try rw [hgd]); exact(zcr rfl rfl)) ?_
    refine ph_y (zaR rfl rfl rfl) ?_
    refine ph_y (zaf rfl) ?_
    refine zaz rfl rfl (fun hgd=>by(try rw [hgd]); exact(zab zsK rfl)) ?_
    refine zaz rfl rfl (fun hgd=>by(try rw [hgd]); exact(zah 1 tf3 rfl rfl rfl)) ?_
    refine zaz rfl rfl (fun hgd=>by(try rw [hgd]); exact(zab zsI rfl)) ?_
    refine zaz rfl rfl (fun hgd=>by(try rw [hgd]); exact(zah 0 tf3 rfl rfl rfl)) ?_
    refine zaz rfl rfl (fun hgd=>by(try rw [hgd]); exact(zcr rfl rfl)) ?_
    refine ph_y (zaR rfl rfl rfl) ?_
    refine ph_y (zaf rfl) ?_
    refine zaz rfl rfl (fun hgd=>by(try rw [hgd]); exact(zab zsL rfl)) ?_
    refine zaz rfl rfl (fun hgd=>by(try rw [hgd]); exact(zah 1 tf3 rfl rfl rfl)) ?_
    refine zaz rfl rfl (fun hgd=>by(try rw [hgd]); exact(zab zsJ rfl)) ?_
    refine zaz rfl rfl (fun hgd=>by(try rw [hgd]); exact(zah 0 tf3 rfl rfl rfl)) ?_
    refine zaz rfl rfl (fun hgd=>by(try rw [hgd]); exact(zcr rfl rfl)) ?_
    refine ph_y (zaR rfl rfl rfl) ?_
    refine ph_y (zaf rfl) ?_
    refine zaz rfl rfl (fun hgd=>by(try rw [hgd]); exact(zab zhc rfl)) ?_
    refine zaz rfl rfl (fun hgd=>by(try rw [hgd]); exact(zah 1 tf3 rfl rfl rfl)) ?_
    refine zaz rfl rfl (fun hgd=>by(try rw [hgd]); exact(zab zjh rfl)) ?_
    refine zaz rfl rfl (fun hgd=>by(try rw [hgd]); exact(zah 0 tf3 rfl rfl rfl)) ?_
    refine zaz rfl rfl (fun hgd=>by(try rw [hgd]); exact(zcr rfl rfl)) ?_
    refine ph_y (zaR rfl rfl rfl) ?_
    refine ph_y (zaf rfl) ?_
    refine zaz rfl rfl (fun hgd=>by(try rw [hgd]); exact(zab zh9 rfl)) ?_
    refine zaz rfl rfl (fun hgd=>by(try rw [hgd]); exact(zah 1 tf3 rfl rfl rfl)) ?_
    refine zaz rfl rfl (fun hgd=>by(try rw [hgd]); exact(zab zjU rfl)) ?_
    refine zaz rfl rfl (fun hgd=>by(try rw [hgd]); exact(zah 0 tf3 rfl rfl rfl)) ?_
    refine zaz rfl rfl (fun hgd=>by(try rw [hgd]); exact(zcr rfl rfl)) ?_
    refine ph_y (zaR rfl rfl rfl) ?_
    refine zag (zae (T':=[(2,_),(3,_),(4,_),(98,_)]) ⟨rfl,rfl,rfl,rfl,trivial⟩ ?_)
    refine zap rfl (fun hc98=>?_) (fun hc98=>?_)
    ·exfalso; simp at hc98
    ·simp only [Bool.or_eq_false_iff,Bool.not_eq_false',decide_eq_true_eq] at hc98
     refine zaq (zac (zbb 62 (fun _=>mixed) (by kernel_rfl) ?_))
     refine ph_y (zab zl8 rfl) ?_
     refine ph_y (zah 1 tf3 rfl rfl rfl) ?_
     refine ph_y (zab zl4 rfl) ?_
     refine ph_y (zah 0 tf3 rfl rfl rfl) ?_
     refine ph_y (zbL rfl rfl) ?_
     refine ph_y (zaf rfl) ?_
     refine zaH rfl rfl (fun hgd=>by(try rw [hgd]); exact(zab zl9 rfl)) ?_
     refine zaH rfl rfl (fun hgd=>by(try rw [hgd]); exact(zah 1 tf3 rfl rfl rfl)) ?_
     refine zaH rfl rfl (fun hgd=>by(try rw [hgd]); exact(zab zl5 rfl)) ?_
     refine zaH rfl rfl (fun hgd=>by(try rw [hgd]); exact(zah 0 tf3 rfl rfl rfl)) ?_
     refine zaH rfl rfl (fun hgd=>by(try rw [hgd]); exact(zbL rfl rfl)) ?_
     refine ph_y (zaX rfl rfl rfl) ?_
     refine ph_y (zaf rfl) ?_
     refine zaH rfl rfl (fun hgd=>by(try rw [hgd]); exact(zab zjW rfl)) ?_
     refine zaH rfl rfl (fun hgd=>by(try rw [hgd]); exact(zah 1 tf5 rfl rfl rfl)) ?_
     refine zaH rfl rfl (fun hgd=>by(try rw [hgd]); exact(zab zfb rfl)) ?_
     refine zaH rfl rfl (fun hgd=>by(try rw [hgd]); exact(zah 0 tf5 rfl rfl rfl)) ?_
     refine zaH rfl rfl (fun hgd=>by(try rw [hgd]); exact(zbL rfl rfl)) ?_
     refine ph_y (zaX rfl rfl rfl) ?_
     refine ph_y (zaf rfl) ?_
     refine zaH rfl rfl (fun hgd=>by(try rw [hgd]); exact(zab zfc rfl)) ?_
     refine zaH rfl rfl (fun hgd=>by(try rw [hgd]); exact(zah 1 tf3 rfl rfl rfl)) ?_
     refine zaH rfl rfl (fun hgd=>by(try rw [hgd]); exact(zab zjV rfl)) ?_
     refine zaH rfl rfl (fun hgd=>by(try rw [hgd]); exact(zah 0 tf3 rfl rfl rfl)) ?_
     refine zaH rfl rfl (fun hgd=>by(try rw [hgd]); exact(zbL rfl rfl)) ?_
     refine ph_y (zaX rfl rfl rfl) ?_
     refine ph_y (zaf rfl) ?_
     refine zaH rfl rfl (fun hgd=>by(try rw [hgd]); exact(zab zf1 rfl)) ?_
     refine zaH rfl rfl (fun hgd=>by(try rw [hgd]); exact(zah 1 tf3 rfl rfl rfl)) ?_
     refine zaH rfl rfl (fun hgd=>by(try rw [hgd]); exact(zab zh7 rfl)) ?_
     refine zaH rfl rfl (fun hgd=>by(try rw [hgd]); exact(zah 0 tf3 rfl rfl rfl)) ?_
     refine zaH rfl rfl (fun hgd=>by(try rw [hgd]); exact(zbL rfl rfl)) ?_
     refine ph_y (zaX rfl rfl rfl) ?_
     refine ph_y (zaf rfl) ?_
     refine zaH rfl rfl (fun hgd=>by(try rw [hgd]); exact(zab zfd rfl)) ?_
     refine zaH rfl rfl (fun hgd=>by(try rw [hgd]); exact(zah 1 tf3 rfl rfl rfl)) ?_
     refine zaH rfl rfl (fun hgd=>by(try rw [hgd]); exact(zab zh8 rfl)) ?_
     refine zaH rfl rfl (fun hgd=>by(try rw [hgd]); exact(zah 0 tf3 rfl rfl rfl)) ?_
     refine zaH rfl rfl (fun hgd=>by(try rw [hgd]); exact(zbL rfl rfl)) ?_
     refine ph_y (zaX rfl rfl rfl) ?_
     refine ph_y (zaf rfl) ?_
     refine zaH rfl rfl (fun hgd=>by(try rw [hgd]); exact(zab zpu rfl)) ?_
     refine zaH rfl rfl (fun hgd=>by(try rw [hgd]); exact(zah 1 tf3 rfl rfl rfl)) ?_
     refine zaH rfl rfl (fun hgd=>by(try rw [hgd]); exact(zab zpr rfl)) ?_
     refine zaH rfl rfl (fun hgd=>by(try rw [hgd]); exact(zah 0 tf3 rfl rfl rfl)) ?_
     refine zaH rfl rfl (fun hgd=>by(try rw [hgd]); exact(zbL rfl rfl)) ?_
     refine ph_y (zaX rfl rfl rfl) ?_
     refine ph_y (zaf rfl) ?_
     refine zaH rfl rfl (fun hgd=>by(try rw [hgd]); exact(zab zma rfl)) ?_
     refine zaH rfl rfl (fun hgd=>by(try rw [hgd]); exact(zah 1 tf3 rfl rfl rfl)) ?_
     refine zaH rfl rfl (fun hgd=>by(try rw [hgd]); exact(zab zl6 rfl)) ?_
     refine zaH rfl rfl (fun hgd=>by(try rw [hgd]); exact(zah 0 tf3 rfl rfl rfl)) ?_
     refine zaH rfl rfl (fun hgd=>by(try rw [hgd]); exact(zbL rfl rfl)) ?_
     refine ph_y (zaX rfl rfl rfl) ?_
     refine ph_y (zaf rfl) ?_
     refine zaH rfl rfl (fun hgd=>by(try rw [hgd]); exact(zab zmb rfl)) ?_
     refine zaH rfl rfl (fun hgd=>by(try rw [hgd]); exact(zah 1 tf3 rfl rfl rfl)) ?_
     refine zaH rfl rfl (fun hgd=>by(try rw [hgd]); exact(zab zl7 rfl)) ?_
     refine zaH rfl rfl (fun hgd=>by(try rw [hgd]); exact(zah 0 tf3 rfl rfl rfl)) ?_
     refine zaH rfl rfl (fun hgd=>by(try rw [hgd]); exact(zbL rfl rfl)) ?_
     refine ph_y (zaX rfl rfl rfl) ?_
     refine ph_y (zad rfl) ?_
     refine zag (zae (T':=[(4,_)]) ⟨rfl,trivial⟩ ?_)
     refine zaw (zay (zaC rfl (zau rfl)) ?_)
     simp
set_option maxRecDepth 100000 in
set_option maxHeartbeats 8000000 in
theorem zAi (v:Wll) (a:Option Addr) (cap:Nat) (b:Option Addr) (bcap:Nat) (w:World) (hl:Has w (zaW a 5 zba v.opens)) (hl2:Has w (zaW b 5 zba v.opens)) (hs:Small v.opens.length) :
  Calls Tryz.prog 38 #[.agg #[.string v.name,.string v.sheet,.int .i64 v.length,.slice a v.opens.length cap],.agg #[.string v.name,.string v.sheet,.int .i64 v.length,.slice b v.opens.length bcap]] w (Pure (.bool true) w):=by
 refine zan (vs:=[_,_]) Tryz.func38 rfl rfl (Nat.le_of_ble_eq_true rfl) ?_
 refine zac (zaa (zaG rfl rfl (za3 (vs:=[_,_,_,_]) rfl rfl) fun b2=>?_))
 refine zaG rfl rfl (za3 (vs:=[_,_,_,_]) rfl rfl) fun b3=>?_
 refine gA ?_
 refine zag (zae (T':=[(2,_),(3,_),(4,_)]) ⟨rfl,rfl,rfl,trivial⟩ ?_)
 refine zac (zac (zbb 28 (fun _=>mixed) (by kernel_rfl) ?_))
 refine ph_y (zab znh rfl) ?_
 refine ph_y (zah 1 tf9 rfl rfl rfl) ?_
 refine ph_y (zab znf rfl) ?_
 refine ph_y (zah 0 tf9 rfl rfl rfl) ?_
 refine ph_y (ziV rfl rfl) ?_
 refine ph_y (zaf rfl) ?_
 refine zaz rfl rfl (fun hgd=>by(try rw [hgd]); exact(zab zni rfl)) ?_
 refine zaz rfl rfl (fun hgd=>by(try rw [hgd]); exact(zah 1 tf9 rfl rfl rfl)) ?_
 refine zaz rfl rfl (fun hgd=>by(try rw [hgd]); exact(zab zpy rfl)) ?_
 refine zaz rfl rfl (fun hgd=>by(try rw [hgd]); exact(zah 0 tf9 rfl rfl rfl)) ?_
 refine zaz rfl rfl (fun hgd=>by(try rw [hgd]); exact(ziV rfl rfl)) ?_
 refine ph_y (zaR rfl rfl rfl) ?_
 refine ph_y (zaf rfl) ?_
 refine zaz rfl rfl (fun hgd=>by(try rw [hgd]); exact(zab zgo rfl)) ?_
 refine zaz rfl rfl (fun hgd=>by(try rw [hgd]); exact(zah 1 tf3 rfl rfl rfl)) ?_
 refine zaz rfl rfl (fun hgd=>by(try rw [hgd]); exact(zab zfS rfl)) ?_
 refine zaz rfl rfl (fun hgd=>by(try rw [hgd]); exact(zah 0 tf3 rfl rfl rfl)) ?_
 refine zaz rfl rfl (fun hgd=>by(try rw [hgd]); exact(zcr rfl rfl)) ?_
 refine ph_y (zaR rfl rfl rfl) ?_
 refine ph_y (zaf rfl) ?_
 refine zaz rfl rfl (fun hgd=>by(try rw [hgd]); exact(zab zhe rfl)) ?_
 refine zaz rfl rfl (fun hgd=>by(try rw [hgd]); exact(zah 1 tf92 rfl rfl rfl)) ?_
 refine zaz rfl rfl (fun hgd=>by(try rw [hgd]); exact(zaV (Tryz.underlying92) rfl)) ?_
 refine zaz rfl rfl (fun hgd=>by(try rw [hgd]); exact(zab zgn rfl)) ?_
 refine zaz rfl rfl (fun hgd=>by(try rw [hgd]); exact(zah 0 tf63 rfl rfl rfl)) ?_
 refine zaz rfl rfl (fun hgd=>by(try rw [hgd]); exact(zaV (Tryz.underlying63) rfl)) ?_
 refine zaz rfl rfl (fun hgd=>by(try rw [hgd]); exact(zcr rfl rfl)) ?_
 refine ph_y (zaR rfl rfl rfl) ?_
 refine zag (zae (T':=[(2,_),(3,_),(4,_),(35,_)]) ⟨rfl,rfl,rfl,rfl,trivial⟩ ?_)
 refine zap rfl (fun hc35=>?_) (fun hc35=>?_)
 ·exfalso; simp at hc35
 ·simp only [Bool.or_eq_false_iff,Bool.not_eq_false',decide_eq_true_eq] at hc35
  refine zaq (zac (zac (zaa (gA ?_))))
  refine zag (zae (T':=[(2,_),(3,_),(4,_),(5,_)]) ⟨rfl,rfl,rfl,rfl,trivial⟩ ?_)
  refine zas ?_
  refine zbf (X:=Int) (fun(i:Int)=>[(2,.pointer (some ⟨b2,0,none⟩)),(3,.pointer (some ⟨b3,0,none⟩)),(4,.bool false),(5,.int .i64 i)]) (fun(i:Int)=>[Box b3 [.string v.name,.string v.sheet,.int .i64 v.length,.slice b v.opens.length bcap] 65,Box b2 [.string v.name,.string v.sheet,.int .i64 v.length,.slice a v.opens.length cap] 94]) (fun(i:Int)=>(0≤i∧i≤v.opens.length)) (fun(i:Int)=>(v.opens.length - i).toNat) 0 ⟨rfl,rfl,rfl,rfl,trivial⟩ rfl ?_ ?_
  ·exact⟨by omega,by omega⟩
  ·rintro i hI
   obtain⟨g0,g1⟩:=hI
   refine zac (zac (zaa (gM ?_)))
   refine gQ (zab zhe rfl) ?_
   refine gQ (zah 1 tf92 rfl rfl rfl) ?_
   refine gQ (zaV (Tryz.underlying92) rfl) ?_
   refine gQ (zbw rfl rfl) ?_
   refine zag (zae (T':=[(2,_),(3,_),(4,_),(5,_),(40,_)]) ⟨rfl,rfl,rfl,rfl,rfl,trivial⟩ ?_)
   refine zap rfl (fun hc40=>?_) (fun hc40=>?_)
   ·have hc40:=of_decide_eq_true hc40
    refine zaq (zac (zas ?_))
    refine zac (zf3 (ch [(10,Nat),(11,Nat)]) 14 [0,1,0,7,15,0,32,0,224,480,0,0,3103,8191] (fun _=>mixed) (by kernel_rfl) (zjK _ ⟨inferInstance,inferInstance,trivial⟩) ?_)
    refine zbD (fun ρ=>zab zhe rfl) (fun ρ ρ' h=>by rfl) ?_
    refine zbD (fun ρ=>zah 1 tf92 rfl rfl rfl) (fun ρ ρ' h=>by rfl) ?_
    refine zbD (fun ρ=>zaf rfl) (fun ρ ρ' h=>by rfl) ?_
    refine zbD (fun ρ=>zaE se92 rfl rfl (fun _ hw=>(Rd.has (Has.rd hl) hw)) (by omega) (by omega)) (fun ρ ρ' h=>by rfl) ?_
    refine zbD (fun ρ=>zbv (vs:=[_,_,_,_,_]) tf98 rfl (fun _ hw=>(Rd.has (Has.rd hl) hw)) (by omega) (by omega) rfl) (fun ρ ρ' h=>by rfl) ?_
    refine zbD (fun ρ=>zab zgn rfl) (fun ρ ρ' h=>by rfl) ?_
    refine zbD (fun ρ=>zah 0 tf63 rfl rfl rfl) (fun ρ ρ' h=>by rfl) ?_
    refine zbD (fun ρ=>zaf rfl) (fun ρ ρ' h=>by rfl) ?_
    refine zbD (fun ρ=>zaE se63 rfl rfl (fun _ hw=>(Rd.has (Has.rd hl2) hw)) (by omega) (by omega)) (fun ρ ρ' h=>by rfl) ?_
    refine zbD (fun ρ=>zbv (vs:=[_,_,_,_,_]) zht rfl (fun _ hw=>(Rd.has (Has.rd hl2) hw)) (by omega) (by omega) rfl) (fun ρ ρ' h=>by rfl) ?_
    refine zgB (fun ρ=>zaL tf98 (zs:=[_,_,_,_,_]) rfl) (fun ρ ρ' h=>⟨by rfl,by rfl⟩) ?_
    refine zgB (fun ρ=>zaL zht (zs:=[_,_,_,_,_]) rfl) (fun ρ ρ' h=>⟨by rfl,by rfl⟩) ?_
    refine zlr (R:=fun ρ=>Box (ρ 10) [.int .u8 0,.int .i64 0,.int .i64 0,.int .i64 0,.int .i64 0] 98) (A:=fun ρ=>Box (ρ 10) [.int .u8 (v.opens.getD (i).toNat default).kind,.int .i64 (v.opens.getD (i).toNat default).at_,.int .i64 (v.opens.getD (i).toNat default).width,.int .i64 (v.opens.getD (i).toNat default).frm,.int .i64 (v.opens.getD (i).toNat default).high] 98) 10 rfl rfl (fun _=>rfl) (fun ρ=>zex tf98 rfl rfl (vs:=[_,_,_,_,_]) rfl rfl rfl rfl rfl) (fun ρ ρ' h=>by(first | rfl | simp only [h 10 rfl])) ?_
    refine zlr (R:=fun ρ=>Box (ρ 11) [.int .u8 0,.int .i64 0,.int .i64 0,.int .i64 0,.int .i64 0] 139) (A:=fun ρ=>Box (ρ 11) [.int .u8 (v.opens.getD (i).toNat default).kind,.int .i64 (v.opens.getD (i).toNat default).at_,.int .i64 (v.opens.getD (i).toNat default).width,.int .i64 (v.opens.getD (i).toNat default).frm,.int .i64 (v.opens.getD (i).toNat default).high] 139) 11 rfl rfl (fun _=>rfl) (fun ρ=>zex zht rfl rfl (vs:=[_,_,_,_,_]) rfl rfl rfl rfl rfl) (fun ρ ρ' h=>by(first | rfl | simp only [h 11 rfl])) ?_
    refine fun ρ=>zag (zf4 (X:=Nat×Nat) (ρ 10,ρ 11) (fun⟨b6,b7⟩=>[(2,.pointer (some ⟨b2,0,none⟩)),(3,.pointer (some ⟨b3,0,none⟩)),(4,.bool false),(5,.int .i64 i),(6,.pointer (some ⟨b6,0,none⟩)),(7,.pointer (some ⟨b7,0,none⟩))]) (fun⟨b6,b7⟩=>[Box b7 [.int .u8 (v.opens.getD (i).toNat default).kind,.int .i64 (v.opens.getD (i).toNat default).at_,.int .i64 (v.opens.getD (i).toNat default).width,.int .i64 (v.opens.getD (i).toNat default).frm,.int .i64 (v.opens.getD (i).toNat default).high] 139,Box b6 [.int .u8 (v.opens.getD (i).toNat default).kind,.int .i64 (v.opens.getD (i).toNat default).at_,.int .i64 (v.opens.getD (i).toNat default).width,.int .i64 (v.opens.getD (i).toNat default).frm,.int .i64 (v.opens.getD (i).toNat default).high] 98,Box b3 [.string v.name,.string v.sheet,.int .i64 v.length,.slice b v.opens.length bcap] 65,Box b2 [.string v.name,.string v.sheet,.int .i64 v.length,.slice a v.opens.length cap] 94]) ⟨rfl,rfl,rfl,rfl,rfl,rfl,trivial⟩ rfl ?_)
    rintro ⟨b6,b7⟩
    refine zac (zbb 33 (fun _=>mixed) (by kernel_rfl) ?_)
    refine ph_y (zab zpG rfl) ?_
    refine ph_y (zah 1 tf5 rfl rfl rfl) ?_
    refine ph_y (zab zjT rfl) ?_
    refine ph_y (zah 0 tf5 rfl rfl rfl) ?_
    refine ph_y (zcr rfl rfl) ?_
    refine ph_y (zaf rfl) ?_
    refine zaz rfl rfl (fun hgd=>by(try rw [hgd]); exact(zab zhf rfl)) ?_
    refine zaz rfl rfl (fun hgd=>by(try rw [hgd]); exact(zah 1 tf3 rfl rfl rfl)) ?_
    refine zaz rfl rfl (fun hgd=>by(try rw [hgd]); exact(zab zdS rfl)) ?_
    refine zaz rfl rfl (fun hgd=>by(try rw [hgd]); exact(zah 0 tf3 rfl rfl rfl)) ?_
    refine zaz rfl rfl (fun hgd=>by(try rw [hgd]); exact(zcr rfl rfl)) ?_
    refine ph_y (zaR rfl rfl rfl) ?_
    refine ph_y (zaf rfl) ?_
    refine zaz rfl rfl (fun hgd=>by(try rw [hgd]); exact(zab zji rfl)) ?_
    refine zaz rfl rfl (fun hgd=>by(try rw [hgd]); exact(zah 1 tf3 rfl rfl rfl)) ?_
    refine zaz rfl rfl (fun hgd=>by(try rw [hgd]); exact(zab zfZ rfl)) ?_
    refine zaz rfl rfl (fun hgd=>by(try rw [hgd]); exact(zah 0 tf3 rfl rfl rfl)) ?_
    refine zaz rfl rfl (fun hgd=>by(try rw [hgd]); exact(zcr rfl rfl)) ?_
    refine ph_y (zaR rfl rfl rfl) ?_
    refine ph_y (zaf rfl) ?_
    refine zaz rfl rfl (fun hgd=>by(try rw [hgd]); exact(zab zfe rfl)) ?_
    refine zaz rfl rfl (fun hgd=>by(try rw [hgd]); exact(zah 1 tf3 rfl rfl rfl)) ?_
    refine zaz rfl rfl (fun hgd=>by(try rw [hgd]); exact(zab zdx rfl)) ?_
    refine zaz rfl rfl (fun hgd=>by(try rw [hgd]); exact(zah 0 tf3 rfl rfl rfl)) ?_
    refine zaz rfl rfl (fun hgd=>by(try rw [hgd]); exact(zcr rfl rfl)) ?_
    refine ph_y (zaR rfl rfl rfl) ?_
    refine ph_y (zaf rfl) ?_
    refine zaz rfl rfl (fun hgd=>by(try rw [hgd]); exact(zab zhg rfl)) ?_
    refine zaz rfl rfl (fun hgd=>by(try rw [hgd]); exact(zah 1 tf3 rfl rfl rfl)) ?_
    refine zaz rfl rfl (fun hgd=>by(try rw [hgd]); exact(zab zfa rfl)) ?_
    refine zaz rfl rfl (fun hgd=>by(try rw [hgd]); exact(zah 0 tf3 rfl rfl rfl)) ?_
    refine zaz rfl rfl (fun hgd=>by(try rw [hgd]); exact(zcr rfl rfl)) ?_
    refine ph_y (zaR rfl rfl rfl) ?_
    refine zag (zae (T':=[(2,_),(3,_),(4,_),(5,_),(85,_)]) ⟨rfl,rfl,rfl,rfl,rfl,trivial⟩ ?_)
    refine zap rfl (fun hc85=>?_) (fun hc85=>?_)
    ·exfalso; simp at hc85
    ·simp only [Bool.or_eq_false_iff,Bool.not_eq_false',decide_eq_true_eq] at hc85
     refine zaq (zaa (gM ?_))
     refine gQ (zaY rfl rfl (by omega) (by omega)) ?_
     refine gA ?_
     refine zag (zae (T':=[(2,_),(3,_),(4,_),(5,_)]) ⟨rfl,rfl,rfl,rfl,trivial⟩ ?_)
     refine zaK 0 rfl ?_
     refine zaK 0 rfl ?_
     exact za1 (i+1) ⟨rfl,rfl,rfl,rfl,trivial⟩ rfl ⟨by omega,by omega⟩ (by omega)
   ·
    refine za8 rfl ?_
    refine zac (zaa (gA ?_))
    refine zag (zae (T':=[(4,_)]) ⟨rfl,trivial⟩ ?_)
    refine zaw (zay (zaC rfl (zau rfl)) ?_)
    rfl
end Go.Proofs.YtdcfcfhmkfkgmaaGreatDoor
namespace Go.Proofs.YtdcfcfhmkfkgmaaGreatDoor
open Go.K Go.Stn Go.Pln Go.RowKit
theorem en38:En Tryz.prog 38:=za7 Tryz.func38 (by kernel_rfl) (by kernel_rfl)
theorem en39:En Tryz.prog 39:=za7 Tryz.func39 (by kernel_rfl) (by kernel_rfl)
theorem zzR (s t:Sht) (a:Option Addr) (cap:Nat) (b:Option Addr) (bcap:Nat) (w:World) (h:t=s) (hl:Has w (Ints a s.heights)) (hl2:Has w (Ints b t.heights)) (hs:Small s.heights.length) :
  Calls Tryz.prog 39 #[.agg #[.string s.name,.int .i64 s.base,.int .i64 s.batter,.int .i64 s.height,.int .i64 s.skin,.slice a s.heights.length cap,.int .i64 s.least,.int .i64 s.lap,.int .i64 s.run,.int .i64 s.every,.int .i64 s.at_,.int .i64 s.footing,.int .i64 s.spread,.int .u8 s.cope,.int .i64 s.tall,.int .i64 s.short,.int .i64 s.thick,.int .i64 s.low,.int .i64 s.high,.int .i64 s.rood],.agg #[.string t.name,.int .i64 t.base,.int .i64 t.batter,.int .i64 t.height,.int .i64 t.skin,.slice b t.heights.length bcap,.int .i64 t.least,.int .i64 t.lap,.int .i64 t.run,.int .i64 t.every,.int .i64 t.at_,.int .i64 t.footing,.int .i64 t.spread,.int .u8 t.cope,.int .i64 t.tall,.int .i64 t.short,.int .i64 t.thick,.int .i64 t.low,.int .i64 t.high,.int .i64 t.rood]] w (Pure (.bool true) w):=by
 subst h; exact zzW _ _ _ _ _ w hl hl2 hs
theorem zzX (v u:Wll) (a:Option Addr) (cap:Nat) (b:Option Addr) (bcap:Nat) (w:World) (h:u=v) (hl:Has w (zaW a 5 zba v.opens)) (hl2:Has w (zaW b 5 zba u.opens)) (hs:Small v.opens.length) :
  Calls Tryz.prog 38 #[.agg #[.string v.name,.string v.sheet,.int .i64 v.length,.slice a v.opens.length cap],.agg #[.string u.name,.string u.sheet,.int .i64 u.length,.slice b u.opens.length bcap]] w (Pure (.bool true) w):=by
 subst h; exact zAi _ _ _ _ _ w hl hl2 hs
theorem zBb {S S2:List ShC} (h:S.map (·.s)=S2.map (·.s)) (i:Nat):(S2.getD i default).s=(S.getD i default).s:=by
 rw [←zeq (fun z:ShC=>z.s) rfl,←zeq (fun z:ShC=>z.s) rfl,h]
theorem zBc {S S2:List WlC} (h:S.map (·.s)=S2.map (·.s)) (i:Nat):(S2.getD i default).s=(S.getD i default).s:=by
 rw [←zeq (fun z:WlC=>z.s) rfl,←zeq (fun z:WlC=>z.s) rfl,h]
set_option maxRecDepth 100000 in
set_option maxHeartbeats 8000000 in
theorem zBz (a:Option Addr) (cap:Nat) (S:List ShC) (b:Option Addr) (bcap:Nat) (V:List WlC) (e:Option Addr) (ecap:Nat) (S2:List ShC) (f:Option Addr) (fcap:Nat) (V2:List WlC) (w:World) (hl:Has w (zaW a 20 zbH S)) (hs:Small S.length) (hlw:Has w (zaW b 4 zbS V)) (hsw:Small V.length) (hsh:∀ z∈S,Has w (Ints z.a z.s.heights)) (hss:∀ z∈S,Small z.s.heights.length) (hwo:∀ z∈V,Has w (zaW z.a 5 zba z.s.opens)) (hsv:∀ z∈V,Small z.s.opens.length) (hlb:Has w (zaW e 20 zbH S2)) (hlwb:Has w (zaW f 4 zbS V2)) (hsh2:∀ z∈S2,Has w (Ints z.a z.s.heights)) (hwo2:∀ z∈V2,Has w (zaW z.a 5 zba z.s.opens)) (hS:S.map (·.s)=S2.map (·.s)) (hV:V.map (·.s)=V2.map (·.s)) :
  Calls Tryz.prog 23 #[.agg #[.slice a S.length cap,.slice b V.length bcap],.agg #[.slice e S2.length ecap,.slice f V2.length fcap]] w (Pure (.bool true) w):=by
 have hlS:S2.length=S.length:=by have:=congrArg List.length hS; rw [List.length_map,List.length_map] at this; exact this.symm
 have hlV:V2.length=V.length:=by have:=congrArg List.length hV; rw [List.length_map,List.length_map] at this; exact this.symm
 refine zan (vs:=[_,_]) Tryz.func23 rfl rfl (Nat.le_of_ble_eq_true rfl) ?_
 refine zac (zaa (zaG rfl rfl (za3 (vs:=[_,_]) rfl rfl) fun b2=>?_))
 refine zaG rfl rfl (za3 (vs:=[_,_]) rfl rfl) fun b3=>?_
 refine gA ?_
 refine zag (zae (T':=[(2,_),(3,_),(4,_)]) ⟨rfl,rfl,rfl,trivial⟩ ?_)
 refine zac (zac (zbb 16 (fun _=>mixed) (by kernel_rfl) ?_))
 refine ph_y (zab zeo rfl) ?_
 refine ph_y (zah 1 tf28 rfl rfl rfl) ?_
 refine ph_y (zaV (Tryz.underlying28) rfl) ?_
 refine ph_y (zab zd6 rfl) ?_
 refine ph_y (zah 0 tf22 rfl rfl rfl) ?_
 refine ph_y (zaV (Tryz.underlying22) rfl) ?_
 refine ph_y (zcr rfl rfl) ?_
 refine ph_y (zaf rfl) ?_
 refine zaz rfl rfl (fun hgd=>by(try rw [hgd]); exact(zab zd7 rfl)) ?_
 refine zaz rfl rfl (fun hgd=>by(try rw [hgd]); exact(zah 1 tf29 rfl rfl rfl)) ?_
 refine zaz rfl rfl (fun hgd=>by(try rw [hgd]); exact(zaV (Tryz.underlying29) rfl)) ?_
 refine zaz rfl rfl (fun hgd=>by(try rw [hgd]); exact(zab zdT rfl)) ?_
 refine zaz rfl rfl (fun hgd=>by(try rw [hgd]); exact(zah 0 tf23 rfl rfl rfl)) ?_
 refine zaz rfl rfl (fun hgd=>by(try rw [hgd]); exact(zaV (Tryz.underlying23) rfl)) ?_
 refine zaz rfl rfl (fun hgd=>by(try rw [hgd]); exact(zcr rfl rfl)) ?_
 refine ph_y (zaR rfl rfl rfl) ?_
 refine zag (zae (T':=[(2,_),(3,_),(4,_),(22,_)]) ⟨rfl,rfl,rfl,rfl,trivial⟩ ?_)
 refine zap rfl (fun hc22=>?_) (fun hc22=>?_)
 ·exfalso; rw [hlS,hlV] at hc22; simp at hc22
 ·simp only [Bool.or_eq_false_iff,Bool.not_eq_false',decide_eq_true_eq] at hc22
  refine zaq (zac (zac (zaa (gA ?_))))
  refine zag (zae (T':=[(2,_),(3,_),(4,_),(5,_)]) ⟨rfl,rfl,rfl,rfl,trivial⟩ ?_)
  refine zas ?_
  refine zbf (X:=Int) (fun(i:Int)=>[(2,.pointer (some ⟨b2,0,none⟩)),(3,.pointer (some ⟨b3,0,none⟩)),(4,.bool false),(5,.int .i64 i)]) (fun(i:Int)=>[Box b3 [.slice e S2.length ecap,.slice f V2.length fcap] 25,Box b2 [.slice a S.length cap,.slice b V.length bcap] 31]) (fun(i:Int)=>(0≤i∧i≤S.length)) (fun(i:Int)=>(S.length - i).toNat) 0 ⟨rfl,rfl,rfl,rfl,trivial⟩ rfl ?_ ?_
  ·exact⟨by omega,by omega⟩
  ·rintro i hI
   obtain⟨g0,g1⟩:=hI
   refine zac (zac (zaa (gM ?_)))
   refine gQ (zab zeo rfl) ?_
   refine gQ (zah 1 tf28 rfl rfl rfl) ?_
   refine gQ (zaV (Tryz.underlying28) rfl) ?_
   refine gQ (zbw rfl rfl) ?_
   refine zag (zae (T':=[(2,_),(3,_),(4,_),(5,_),(27,_)]) ⟨rfl,rfl,rfl,rfl,rfl,trivial⟩ ?_)
   refine zap rfl (fun hc27=>?_) (fun hc27=>?_)
   ·have hc27:=of_decide_eq_true hc27
    refine zaq (zac (zas ?_))
    refine zac (zbb 12 (fun _=>mixed) (by kernel_rfl) ?_)
    refine ph_y (zab zeo rfl) ?_
    refine ph_y (zah 1 tf28 rfl rfl rfl) ?_
    refine ph_y (zaf rfl) ?_
    refine ph_y (zaE se28 rfl rfl (fun _ hw=>(Rd.has (Has.rd hl) hw)) (by omega) (by omega)) ?_
    refine ph_y (zbv (vs:=[_,_,_,_,_,_,_,_,_,_,_,_,_,_,_,_,_,_,_,_]) tf41 rfl (fun _ hw=>(Rd.has (Has.rd hl) hw)) (by omega) (by omega) rfl) ?_
    refine ph_y (zab zd6 rfl) ?_
    refine ph_y (zah 0 tf22 rfl rfl rfl) ?_
    refine ph_y (zaf rfl) ?_
    refine ph_y (zaE se22 rfl rfl (fun _ hw=>(Rd.has (Has.rd hlb) hw)) (by omega) (by omega)) ?_
    refine ph_y (zbv (vs:=[_,_,_,_,_,_,_,_,_,_,_,_,_,_,_,_,_,_,_,_]) tf37 rfl (fun _ hw=>(Rd.has (Has.rd hlb) hw)) (by omega) (by omega) rfl) ?_
    refine ph_y (zaJ en39 rfl (fun w hw=>zzR (S.getD i.toNat default).s (S2.getD i.toNat default).s _ _ _ _ w (zBb hS _) (Rd.has (Has.rd (hsh _ (za0 (by omega)))) hw) (Rd.has (Has.rd (hsh2 _ (za0 (by omega)))) hw) (hss _ (za0 (by omega))))) ?_
    refine ph_y (zbR rfl) ?_
    refine zag (zae (T':=[(2,_),(3,_),(4,_),(5,_),(41,_)]) ⟨rfl,rfl,rfl,rfl,rfl,trivial⟩ ?_)
    refine zd8 rfl ?_
    refine zaq (zaa (gM ?_))
    refine gQ (zaY rfl rfl (by omega) (by omega)) ?_
    refine gA ?_
    refine zag (zae (T':=[(2,_),(3,_),(4,_),(5,_)]) ⟨rfl,rfl,rfl,rfl,trivial⟩ ?_)
    exact za1 (i+1) ⟨rfl,rfl,rfl,rfl,trivial⟩ rfl ⟨by omega,by omega⟩ (by omega)
   ·
    refine za8 rfl ?_
    refine zac (zac (zaa (gA ?_)))
    refine zag (zae (T':=[(2,_),(3,_),(4,_),(6,_)]) ⟨rfl,rfl,rfl,rfl,trivial⟩ ?_)
    refine zas ?_
    refine zbf (X:=Int) (fun(i:Int)=>[(2,.pointer (some ⟨b2,0,none⟩)),(3,.pointer (some ⟨b3,0,none⟩)),(4,.bool false),(6,.int .i64 i)]) (fun(i:Int)=>[Box b3 [.slice e S2.length ecap,.slice f V2.length fcap] 25,Box b2 [.slice a S.length cap,.slice b V.length bcap] 31]) (fun(i:Int)=>(0≤i∧i≤V.length)) (fun(i:Int)=>(V.length - i).toNat) 0 ⟨rfl,rfl,rfl,rfl,trivial⟩ rfl ?_ ?_
    ·exact⟨by omega,by omega⟩
    ·rintro i hI
     rename_i ii
     obtain⟨g0,g1⟩:=hI
     refine zac (zac (zaa (gM ?_)))
     refine gQ (zab zd7 rfl) ?_
     refine gQ (zah 1 tf29 rfl rfl rfl) ?_
     refine gQ (zaV (Tryz.underlying29) rfl) ?_
     refine gQ (zbw rfl rfl) ?_
     refine zag (zae (T':=[(2,_),(3,_),(4,_),(6,_),(46,_)]) ⟨rfl,rfl,rfl,rfl,rfl,trivial⟩ ?_)
     refine zap rfl (fun hc46=>?_) (fun hc46=>?_)
     ·have hc46:=of_decide_eq_true hc46
      refine zaq (zac (zas ?_))
      refine zac (zbb 12 (fun _=>mixed) (by kernel_rfl) ?_)
      refine ph_y (zab zd7 rfl) ?_
      refine ph_y (zah 1 tf29 rfl rfl rfl) ?_
      refine ph_y (zaf rfl) ?_
      refine ph_y (zaE se29 rfl rfl (fun _ hw=>(Rd.has (Has.rd hlw) hw)) (by omega) (by omega)) ?_
      refine ph_y (zbv (vs:=[_,_,_,_]) tf94 rfl (fun _ hw=>(Rd.has (Has.rd hlw) hw)) (by omega) (by omega) rfl) ?_
      refine ph_y (zab zdT rfl) ?_
      refine ph_y (zah 0 tf23 rfl rfl rfl) ?_
      refine ph_y (zaf rfl) ?_
      refine ph_y (zaE se23 rfl rfl (fun _ hw=>(Rd.has (Has.rd hlwb) hw)) (by omega) (by omega)) ?_
      refine ph_y (zbv (vs:=[_,_,_,_]) tf65 rfl (fun _ hw=>(Rd.has (Has.rd hlwb) hw)) (by omega) (by omega) rfl) ?_
      refine ph_y (zaJ en38 rfl (fun w hw=>zzX (V.getD i.toNat default).s (V2.getD i.toNat default).s _ _ _ _ w (zBc hV _) (Rd.has (Has.rd (hwo _ (za0 (by omega)))) hw) (Rd.has (Has.rd (hwo2 _ (za0 (by omega)))) hw) (hsv _ (za0 (by omega))))) ?_
      refine ph_y (zbR rfl) ?_
      refine zag (zae (T':=[(2,_),(3,_),(4,_),(6,_),(60,_)]) ⟨rfl,rfl,rfl,rfl,rfl,trivial⟩ ?_)
      refine zd8 rfl ?_
      refine zaq (zaa (gM ?_))
      refine gQ (zaY rfl rfl (by omega) (by omega)) ?_
      refine gA ?_
      refine zag (zae (T':=[(2,_),(3,_),(4,_),(6,_)]) ⟨rfl,rfl,rfl,rfl,trivial⟩ ?_)
      exact za1 (i+1) ⟨rfl,rfl,rfl,rfl,trivial⟩ rfl ⟨by omega,by omega⟩ (by omega)
     ·
      refine za8 rfl ?_
      refine zac (zaa (gA ?_))
      refine zag (zae (T':=[(4,_)]) ⟨rfl,trivial⟩ ?_)
      refine zaw (zay (zaC rfl (zau rfl)) ?_)
      rfl
end Go.Proofs.YtdcfcfhmkfkgmaaGreatDoor
namespace Go.K
open Go Go.RowKit
section
variable {α:Type} {enc:α→List Value} {k:Nat} {c:Cx} {ds:List Deferred} {T:List (Nat×Value)} {H:List Res} {d:Option Nat} {x y:Operand} {ty:TypeId} {ps:String} {af:Array Edge} {g:Option (Nat×Bool)}
theorem zoJ {t e:TypeId} {by_:Nat} {zs:List Value} {a2:Option Addr} {c2:Nat} {m:List α} (hf:AF c.P t e k by_ zs) (he:Enc k enc)
  (hx:evo T x=some (.slice none 0 0)) (hy:evo T y=some (.slice a2 m.length c2)) (hm:∀ w,Hp c.U c.w0 H w→Has w (zaW a2 k enc m))
  (hb:m.length*by_≤140737488355328) (hlm:m.length≤maxLen) :
  YX c ds H T ⟨d,.call ⟨.builtin .append,#[x,y],#[t,t]⟩,ty,ps,af,g⟩ (fun z:Option Addr×Nat=>.slice z.1 m.length z.2) (fun z=>Row z.1 k z.2 e enc m):=by
 by_cases h0:m.length=0
 ·obtain rfl:=List.eq_nil_of_length_eq_zero h0
  refine⟨fun A w hs _=>?_⟩
  unfold Yld
  rw [zcp («as»:=[x,y]) (vs:=[.slice none 0 0,.slice a2 0 c2]) (by simp [evs,hx,hy]) hs w]
  simp only [builtin]
  rw [zbu (ziA hf (Nat.le_refl 0))]
  exact⟨(none,0),rfl,Ext.rfl,fun _=>False,fun _ h=>h.elim,.inl ⟨rfl,rfl,rfl⟩⟩
 ·exact zlO (a:=none) (cap:=0) (l:=[]) hf he hx hy (fun _ _=>⟨fun _=>False,fun _ h=>h.elim,.inl ⟨rfl,rfl,rfl⟩⟩) hm (by simpa using hb) (by simpa using hlm) (by simp; omega)
end
end Go.K
namespace Go.Stn
open Go Go.K Go.RowKit
theorem zoe {α:Type} [Inhabited α] {p:α→Bool} {l:List α} (h:zbJ p l≠-1):0≤zbJ p l∧zbJ p l < (l.length:Int)∧p (l.getD (zbJ p l).toNat default)=true∧∀ j:Nat,(j:Int) < zbJ p l→p (l.getD j default)=false:=by
 unfold zbJ at *
 by_cases ha:l.any p=true
 ·rw [if_pos ha] at *
  have hlt:l.findIdx p < l.length:=List.findIdx_lt_length_of_exists (by simpa using ha)
  have h1:=List.findIdx_getElem (w:=hlt)
  refine⟨by omega,by omega,?_,fun j hj=>?_⟩
  ·rw [show((l.findIdx p:Nat):Int).toNat=l.findIdx p from by omega]
   simpa [hlt] using h1
  ·have hj':j < l.findIdx p:=by omega
   have h2:=List.not_of_lt_findIdx hj'
   have:j < l.length:=by omega
   simpa [this] using h2
 ·rw [if_neg ha] at h
  exact absurd rfl h
theorem zod {α:Type} {p:α→Bool} {l:List α} (h:zbJ p l = -1):∀ x∈l,p x=false:=fun x hx=>by
 unfold zbJ at h
 cases hp:p x with
 | false=>rfl
 | true=>
  rw [if_pos (List.any_eq_true.2 ⟨x,hx,hp⟩)] at h
  omega
structure DelI (l m:List Pt) (i j:Int):Prop where
 i0:0≤i
 ij:i < j
 jl:j≤(l.length:Int)
 len:m.length=l.length
 front:m.take i.toNat=lowL (l.take j.toNat)
 back:m.drop j.toNat=l.drop j.toNat
theorem DelI.get {l m:List Pt} {i j:Int} (h:DelI l m i j):m.getD j.toNat default=l.getD j.toNat default:=by
 have hb:=congrArg (fun x:List Pt=>x[0]?) h.back
 simp only [List.getElem?_drop,Nat.add_zero] at hb
 simp only [List.getD_eq_getElem?_getD,hb]
theorem DelI.keep {l m:List Pt} {i j:Int} (h:DelI l m i j) (hj:j < (l.length:Int)) (hu:upB (m.getD j.toNat default)=false):DelI l (m.set i.toNat (m.getD j.toNat default)) (i+1) (j+1):=by
 have hi0:=h.i0; have hij:=h.ij; have hl:=h.len
 have hg:=h.get
 refine⟨by omega,by omega,by omega,by rw [List.length_set]; exact hl,?_,?_⟩
 ·rw [ziI (l:=l) (by omega) (by omega),ziI (l:=m.set _ _) hi0 (by rw [List.length_set]; omega)]
  unfold lowL
  rw [List.filter_append,List.filter_cons,if_pos (by rw [←hg,hu]; rfl),List.filter_nil]
  have h2:=h.front
  unfold lowL at h2
  rw [←h2,List.take_set_of_le (Nat.le_refl _),hg]
  congr 1
  rw [List.getD_eq_getElem?_getD,List.getElem?_set_self (by omega)]
  rfl
 ·rw [List.drop_set_of_lt (by omega),show(j+1).toNat=j.toNat+1 from by omega,←List.drop_drop,h.back,List.drop_drop]
theorem DelI.skip {l m:List Pt} {i j:Int} (h:DelI l m i j) (hj:j < (l.length:Int)) (hu:upB (m.getD j.toNat default)=true):DelI l m i (j+1):=by
 have hi0:=h.i0; have hij:=h.ij; have hl:=h.len
 have hg:=h.get
 refine⟨by omega,by omega,by omega,hl,?_,?_⟩
 ·rw [ziI (l:=l) (by omega) (by omega)]
  unfold lowL
  rw [List.filter_append,List.filter_cons,if_neg (by rw [←hg,hu]; decide),List.filter_nil,List.append_nil]
  exact h.front
 ·rw [show(j+1).toNat=j.toNat+1 from by omega,←List.drop_drop,h.back,List.drop_drop]
theorem DelI.done {l m:List Pt} {i j:Int} (h:DelI l m i j) (hj:¬ j < (l.length:Int)):m.take i.toNat=lowL l∧i.toNat=(lowL l).length∧m.length=l.length:=by
 have hi0:=h.i0; have hij:=h.ij; have hl:=h.len; have hjl:=h.jl
 have hf:=h.front
 rw [zsm (l:=l) (by omega)] at hf
 have:=congrArg List.length hf
 rw [List.length_take] at this
 exact⟨hf,by omega,hl⟩
end Go.Stn
namespace Go.Pln
open Go Go.K Go.RowKit Go.Stn
section
variable {α:Type} [Inhabited α] {p:α→Bool}
def offL (p:α→Bool) (l:List α):List α:=l.filter fun x=>!p x
def offZ (p:α→Bool) (l:List α):List α:=offL p l++List.replicate (l.length - (offL p l).length) default
structure OffI (p:α→Bool) (l m:List α) (i j:Int):Prop where
 i0:0≤i
 ij:i < j
 jl:j≤(l.length:Int)
 len:m.length=l.length
 front:m.take i.toNat=offL p (l.take j.toNat)
 back:m.drop j.toNat=l.drop j.toNat
theorem zey {l:List α} {i:Int} (h0:0≤i) (h:i < (l.length:Int)):l.take (i+1).toNat=l.take i.toNat++[l.getD i.toNat default]:=by
 rw [show(i+1).toNat=i.toNat+1 from by omega,List.take_add_one,List.getD_eq_getElem?_getD,List.getElem?_eq_getElem (by omega)]; rfl
omit [Inhabited α] in
theorem zrQ {l:List α} (h:zbJ p l = -1):offL p l=l:=by
 unfold offL
 rw [List.filter_eq_self]
 intro x hx
 rw [zod h x hx]; rfl
theorem zqh {l:List α} (h:¬ zbJ p l = -1):OffI p l l (zbJ p l) (zbJ p l+1):=by
 obtain⟨h0,h1,h2,h3⟩:=zoe h
 refine⟨h0,by omega,by omega,rfl,?_,rfl⟩
 rw [zey h0 h1]
 unfold offL
 rw [List.filter_append]
 have e1:(l.take (zbJ p l).toNat).filter (fun x=>!p x)=l.take (zbJ p l).toNat:=by
  rw [List.filter_eq_self]
  intro x hx
  obtain⟨j,hj,rfl⟩:=List.getElem_of_mem hx
  rw [List.length_take] at hj
  have:=h3 j (by omega)
  have hjl:j < l.length:=by omega
  rw [List.getElem_take]
  simp [hjl] at this
  simp [this]
 rw [e1]
 rw [List.filter_cons,if_neg (by rw [h2]; decide)]
 simp
theorem OffI.get {l m:List α} {i j:Int} (h:OffI p l m i j):m.getD j.toNat default=l.getD j.toNat default:=by
 have hb:=congrArg (fun x:List α=>x[0]?) h.back
 simp only [List.getElem?_drop,Nat.add_zero] at hb
 simp only [List.getD_eq_getElem?_getD,hb]
theorem OffI.keep {l m:List α} {i j:Int} (h:OffI p l m i j) (hj:j < (l.length:Int)) (hu:p (m.getD j.toNat default)=false):OffI p l (m.set i.toNat (m.getD j.toNat default)) (i+1) (j+1):=by
 have hi0:=h.i0; have hij:=h.ij; have hl:=h.len
 have hg:=h.get
 refine⟨by omega,by omega,by omega,by rw [List.length_set]; exact hl,?_,?_⟩
 ·rw [zey (l:=l) (by omega) (by omega),zey (l:=m.set _ _) hi0 (by rw [List.length_set]; omega)]
  unfold offL
  rw [List.filter_append,List.filter_cons,if_pos (by rw [←hg,hu]; rfl),List.filter_nil]
  have h2:=h.front
  unfold offL at h2
  rw [←h2,List.take_set_of_le (Nat.le_refl _),hg]
  congr 1
  rw [List.getD_eq_getElem?_getD,List.getElem?_set_self (by omega)]
  rfl
 ·rw [List.drop_set_of_lt (by omega),show(j+1).toNat=j.toNat+1 from by omega,←List.drop_drop,h.back,List.drop_drop]
theorem OffI.skip {l m:List α} {i j:Int} (h:OffI p l m i j) (hj:j < (l.length:Int)) (hu:p (m.getD j.toNat default)=true):OffI p l m i (j+1):=by
 have hi0:=h.i0; have hij:=h.ij; have hl:=h.len
 have hg:=h.get
 refine⟨by omega,by omega,by omega,hl,?_,?_⟩
 ·rw [zey (l:=l) (by omega) (by omega)]
  unfold offL
  rw [List.filter_append,List.filter_cons,if_neg (by rw [←hg,hu]; decide),List.filter_nil,List.append_nil]
  exact h.front
 ·rw [show(j+1).toNat=j.toNat+1 from by omega,←List.drop_drop,h.back,List.drop_drop]
omit [Inhabited α] in
theorem OffI.done {l m:List α} {i j:Int} (h:OffI p l m i j) (hj:¬ j < (l.length:Int)):m.take i.toNat=offL p l∧i.toNat=(offL p l).length∧m.length=l.length:=by
 have hi0:=h.i0; have hij:=h.ij; have hl:=h.len; have hjl:=h.jl
 have hf:=h.front
 rw [List.take_of_length_le (l:=l) (by omega)] at hf
 have:=congrArg List.length hf
 rw [List.length_take] at this
 exact⟨hf,by omega,hl⟩
omit [Inhabited α] in
theorem zun (l:List α):(offL p l).length≤l.length:=List.length_filter_le _ _
end
end Go.Pln
namespace Go.Proofs.YtdcfcfhmkfkgmaaGreatDoor
open Go.K Go.Stn Go.Pln Go.RowKit
theorem zbC (x0:ByteArray) (x1:Int) (x2:Int) (x3:Int) (x4:Int) (x5a:Option Addr) (x5n x5c:Nat) (x6:Int) (x7:Int) (x8:Int) (x9:Int) (x10:Int) (x11:Int) (x12:Int) (x13:Int) (x14:Int) (x15:Int) (x16:Int) (x17:Int) (x18:Int) (x19:Int) (w:World):(Instr.build 41 #[(0,.string x0),(1,.int .i64 x1),(2,.int .i64 x2),(3,.int .i64 x3),(4,.int .i64 x4),(5,.slice x5a x5n x5c),(6,.int .i64 x6),(7,.int .i64 x7),(8,.int .i64 x8),(9,.int .i64 x9),(10,.int .i64 x10),(11,.int .i64 x11),(12,.int .i64 x12),(13,.int .u8 x13),(14,.int .i64 x14),(15,.int .i64 x15),(16,.int .i64 x16),(17,.int .i64 x17),(18,.int .i64 x18),(19,.int .i64 x19)]).run Tryz.prog w=.ok (.agg #[.string x0,.int .i64 x1,.int .i64 x2,.int .i64 x3,.int .i64 x4,.slice x5a x5n x5c,.int .i64 x6,.int .i64 x7,.int .i64 x8,.int .i64 x9,.int .i64 x10,.int .i64 x11,.int .i64 x12,.int .u8 x13,.int .i64 x14,.int .i64 x15,.int .i64 x16,.int .i64 x17,.int .i64 x18,.int .i64 x19]) w:=by kernel_rfl
theorem zjI (x0:ByteArray) (x1:ByteArray) (x2:Int) (w:World):(Instr.build 94 #[(0,.string x0),(1,.string x1),(2,.int .i64 x2)]).run Tryz.prog w=.ok (.agg #[.string x0,.string x1,.int .i64 x2,.slice none 0 0]) w:=by kernel_rfl
theorem zfX (x0:Int) (x1:Int) (x2:Int) (x3:Int) (x4:Int) (w:World):(Instr.build 98 #[(0,.int .u8 x0),(1,.int .i64 x1),(2,.int .i64 x2),(3,.int .i64 x3),(4,.int .i64 x4)]).run Tryz.prog w=.ok (.agg #[.int .u8 x0,.int .i64 x1,.int .i64 x2,.int .i64 x3,.int .i64 x4]) w:=by kernel_rfl
set_option maxRecDepth 100000 in
set_option maxHeartbeats 8000000 in
theorem zrH (s:Sht) (b:Option Addr) (bcap:Nat) (w:World) (hl:Has w (Ints b s.heights)) (hs:Small s.heights.length) :
  Calls Tryz.prog 43 #[.agg #[.string s.name,.int .i64 s.base,.int .i64 s.batter,.int .i64 s.height,.int .i64 s.skin,.slice b s.heights.length bcap,.int .i64 s.least,.int .i64 s.lap,.int .i64 s.run,.int .i64 s.every,.int .i64 s.at_,.int .i64 s.footing,.int .i64 s.spread,.int .u8 s.cope,.int .i64 s.tall,.int .i64 s.short,.int .i64 s.thick,.int .i64 s.low,.int .i64 s.high,.int .i64 s.rood]] w (zcU (fun z:Option Addr×Nat=>.agg #[.string s.name,.int .i64 s.base,.int .i64 s.batter,.int .i64 s.height,.int .i64 s.skin,.slice z.1 s.heights.length z.2,.int .i64 s.least,.int .i64 s.lap,.int .i64 s.run,.int .i64 s.every,.int .i64 s.at_,.int .i64 s.footing,.int .i64 s.spread,.int .u8 s.cope,.int .i64 s.tall,.int .i64 s.short,.int .i64 s.thick,.int .i64 s.low,.int .i64 s.high,.int .i64 s.rood]) (fun z=>Row z.1 1 z.2 3 Go.Stn.encI s.heights) w):=by
 refine zan (vs:=[_]) Tryz.func43 rfl rfl (Nat.le_of_ble_eq_true rfl) ?_
 refine zac (zaa (zaG rfl rfl (za3 (vs:=[_,_,_,_,_,_,_,_,_,_,_,_,_,_,_,_,_,_,_,_]) rfl rfl) fun b1=>?_))
 refine zaG rfl rfl (zaL tf41 (zs:=[_,_,_,_,_,_,_,_,_,_,_,_,_,_,_,_,_,_,_,_]) rfl) fun b2=>?_
 refine zag (zae (T':=[(1,_),(2,_)]) ⟨rfl,rfl,trivial⟩ ?_)
 refine zac (zbb 41 (fun _=>mixed) (by kernel_rfl) ?_)
 refine ph_y (zab zkW rfl) ?_
 refine ph_y (zah 1 tf9 rfl rfl rfl) ?_
 refine ph_y (zab zna rfl) ?_
 refine ph_y (zah 1 tf3 rfl rfl rfl) ?_
 refine ph_y (zab zps rfl) ?_
 refine ph_y (zah 1 tf3 rfl rfl rfl) ?_
 refine ph_y (zab zdC rfl) ?_
 refine ph_y (zah 1 tf3 rfl rfl rfl) ?_
 refine ph_y (zab zkX rfl) ?_
 refine ph_y (zah 1 tf3 rfl rfl rfl) ?_
 refine ph_y (zab zgl rfl) ?_
 refine ph_y (zah 1 tf35 rfl rfl rfl) ?_
 refine zmr (zoJ (m:=s.heights) af35 Go.Stn.encI_ok rfl rfl (fun _ hw=>(Rd.has (Has.rd hl) hw)) (by have:=hs; unfold Small at *; omega) (by have:=hs; unfold Small at *; unfold maxLen; omega)) ?_
 refine ph_y (zab zpt rfl) ?_
 refine ph_y (zah 1 tf3 rfl rfl rfl) ?_
 refine ph_y (zab zsI rfl) ?_
 refine ph_y (zah 1 tf3 rfl rfl rfl) ?_
 refine ph_y (zab zsJ rfl) ?_
 refine ph_y (zah 1 tf3 rfl rfl rfl) ?_
 refine ph_y (zab zjh rfl) ?_
 refine ph_y (zah 1 tf3 rfl rfl rfl) ?_
 refine ph_y (zab zjU rfl) ?_
 refine ph_y (zah 1 tf3 rfl rfl rfl) ?_
 refine ph_y (zab zl4 rfl) ?_
 refine ph_y (zah 1 tf3 rfl rfl rfl) ?_
 refine ph_y (zab zl5 rfl) ?_
 refine ph_y (zah 1 tf3 rfl rfl rfl) ?_
 refine ph_y (zab zfb rfl) ?_
 refine ph_y (zah 1 tf5 rfl rfl rfl) ?_
 refine ph_y (zab zjV rfl) ?_
 refine ph_y (zah 1 tf3 rfl rfl rfl) ?_
 refine ph_y (zab zh7 rfl) ?_
 refine ph_y (zah 1 tf3 rfl rfl rfl) ?_
 refine ph_y (zab zh8 rfl) ?_
 refine ph_y (zah 1 tf3 rfl rfl rfl) ?_
 refine ph_y (zab zpr rfl) ?_
 refine ph_y (zah 1 tf3 rfl rfl rfl) ?_
 refine ph_y (zab zl6 rfl) ?_
 refine ph_y (zah 1 tf3 rfl rfl rfl) ?_
 refine ph_y (zab zl7 rfl) ?_
 refine ph_y (zah 1 tf3 rfl rfl rfl) ?_
 intro z15
 refine zae (T':=[(2,_),(4,_),(6,_),(8,_),(10,_),(12,_),(15,_),(17,_),(19,_),(21,_),(23,_),(25,_),(27,_),(29,_),(31,_),(33,_),(35,_),(37,_),(39,_),(41,_),(43,_)]) ⟨rfl,rfl,rfl,rfl,rfl,rfl,rfl,rfl,rfl,rfl,rfl,rfl,rfl,rfl,rfl,rfl,rfl,rfl,rfl,rfl,rfl,trivial⟩ ?_
 refine gQ (zaI rfl (zbC _ _ _ _ _ _ _ _ _ _ _ _ _ _ _ _ _ _ _ _ _ _)) ?_
 refine zbz 1 tf41 rfl rfl (vs:=[_,_,_,_,_,_,_,_,_,_,_,_,_,_,_,_,_,_,_,_]) rfl rfl rfl rfl rfl ?_
 refine zag (zae (T':=[(2,_)]) ⟨rfl,trivial⟩ ?_)
 refine zaw (zbd (z15.1,z15.2) 0 (zaC rfl (zbU (i:=1) (vs:=[.string s.name,.int .i64 s.base,.int .i64 s.batter,.int .i64 s.height,.int .i64 s.skin,.slice z15.1 s.heights.length z15.2,.int .i64 s.least,.int .i64 s.lap,.int .i64 s.run,.int .i64 s.every,.int .i64 s.at_,.int .i64 s.footing,.int .i64 s.spread,.int .u8 s.cope,.int .i64 s.tall,.int .i64 s.short,.int .i64 s.thick,.int .i64 s.low,.int .i64 s.high,.int .i64 s.rood]) tf41 rfl rfl rfl rfl)) ?_ rfl)
 rfl
set_option maxRecDepth 100000 in
set_option maxHeartbeats 8000000 in
theorem zuf (v:Wll) (b:Option Addr) (bcap:Nat) (w:World) (hv:Has w (zaW b 5 zba v.opens)) (hs:Small v.opens.length) :
  Calls Tryz.prog 44 #[.agg #[.string v.name,.string v.sheet,.int .i64 v.length,.slice b v.opens.length bcap]] w (zcU (fun z:Option Addr×Nat=>.agg #[.string v.name,.string v.sheet,.int .i64 v.length,.slice z.1 v.opens.length z.2]) (fun z=>Row z.1 5 z.2 98 zba v.opens) w):=by
 unfold Small at hs
 refine zan (vs:=[_]) Tryz.func44 rfl rfl (Nat.le_of_ble_eq_true rfl) ?_
 refine zac (zaa (zaG rfl rfl (za3 (vs:=[_,_,_,_]) rfl rfl) fun b1=>?_))
 refine zaG rfl rfl (zaL tf94 (zs:=[_,_,_,_]) rfl) fun b2=>?_
 refine zag (zae (T':=[(1,_),(2,_)]) ⟨rfl,rfl,trivial⟩ ?_)
 refine zac (zaa (gk_y rfl rfl (zab znf rfl) ?_))
 refine gQ (zah 1 tf9 rfl rfl rfl) ?_
 refine gQ (zab zpy rfl) ?_
 refine gQ (zah 1 tf9 rfl rfl rfl) ?_
 refine gQ (zab zfS rfl) ?_
 refine gQ (zah 1 tf3 rfl rfl rfl) ?_
 refine gQ (zaI rfl (zjI _ _ _)) ?_
 refine zaG rfl rfl (zaL tf94 (zs:=[_,_,_,_]) rfl) fun b3=>?_
 refine zaA 0 tf94 rfl rfl (vs:=[_,_,_,_]) rfl rfl rfl rfl rfl ?_
 refine zag (zae (T':=[(1,_),(2,_),(3,_)]) ⟨rfl,rfl,rfl,trivial⟩ ?_)
 refine zac (zac (zaa (gA ?_)))
 refine zag (zae (T':=[(1,_),(2,_),(3,_),(4,_)]) ⟨rfl,rfl,rfl,rfl,trivial⟩ ?_)
 refine zas ?_
 refine zbB 98 zba 5 ?_
 refine zbf (X:=Int×Option Addr×Nat×List Opn) (fun⟨i,ra,rc,M⟩=>[(1,.pointer (some ⟨b1,0,none⟩)),(2,.pointer (some ⟨b2,0,none⟩)),(3,.pointer (some ⟨b3,0,none⟩)),(4,.int .i64 i)]) (fun⟨i,ra,rc,M⟩=>[Row ra 5 rc 98 zba M,Box b3 [.string v.name,.string v.sheet,.int .i64 v.length,.slice ra M.length rc] 94,Box b2 [.string ⟨#[]⟩,.string ⟨#[]⟩,.int .i64 0,.slice none 0 0] 94,Box b1 [.string v.name,.string v.sheet,.int .i64 v.length,.slice b v.opens.length bcap] 65]) (fun⟨i,ra,rc,M⟩=>(0≤i∧i≤v.opens.length∧M=v.opens.take i.toNat)) (fun⟨i,ra,rc,M⟩=>(v.opens.length - i).toNat) (0,none,0,[]) ⟨rfl,rfl,rfl,rfl,trivial⟩ rfl ?_ ?_
 ·exact⟨by omega,by omega,rfl⟩
 ·rintro ⟨i,ra,rc,M⟩ hI
  obtain⟨g0,g1,g2⟩:=hI
  have hml:M.length≤v.opens.length:=by rw [g2,List.length_take]; omega
  refine zac (zac (zaa (gM ?_)))
  refine gQ (zab zgn rfl) ?_
  refine gQ (zah 3 tf63 rfl rfl rfl) ?_
  refine gQ (zaV (Tryz.underlying63) rfl) ?_
  refine gQ (zbw rfl rfl) ?_
  refine zag (zae (T':=[(1,_),(2,_),(3,_),(4,_),(17,_)]) ⟨rfl,rfl,rfl,rfl,rfl,trivial⟩ ?_)
  refine zap rfl (fun hc17=>?_) (fun hc17=>?_)
  ·have hc17:=of_decide_eq_true hc17
   refine zaq (zac (zas ?_))
   refine zac (zaa (gk_y rfl rfl (zab zgn rfl) ?_))
   refine gQ (zah 3 tf63 rfl rfl rfl) ?_
   refine gM ?_
   refine gQ (zaE se63 rfl rfl (fun _ hw=>(Rd.has (Has.rd hv) hw)) (by omega) (by omega)) ?_
   refine gQ (zbv (vs:=[_,_,_,_,_]) zht rfl (fun _ hw=>(Rd.has (Has.rd hv) hw)) (by omega) (by omega) rfl) ?_
   refine zaG rfl rfl (zaL zht (zs:=[_,_,_,_,_]) rfl) fun b5=>?_
   refine zaA 0 zht rfl rfl (vs:=[_,_,_,_,_]) rfl rfl rfl rfl rfl ?_
   refine zag (zae (T':=[(1,_),(2,_),(3,_),(4,_),(5,_)]) ⟨rfl,rfl,rfl,rfl,rfl,trivial⟩ ?_)
   refine zaa (gk_y rfl rfl (zab zhe rfl) ?_)
   refine gQ (zah 2 tf92 rfl rfl rfl) ?_
   refine gQ (zab zjT rfl) ?_
   refine gQ (zah 0 tf5 rfl rfl rfl) ?_
   refine gQ (zab zdS rfl) ?_
   refine gQ (zah 0 tf3 rfl rfl rfl) ?_
   refine gQ (zab zfZ rfl) ?_
   refine gQ (zah 0 tf3 rfl rfl rfl) ?_
   refine gQ (zab zdx rfl) ?_
   refine gQ (zah 0 tf3 rfl rfl rfl) ?_
   refine gQ (zab zfa rfl) ?_
   refine gQ (zah 0 tf3 rfl rfl rfl) ?_
   refine gQ (zaI rfl (zfX _ _ _ _ _)) ?_
   refine zaG rfl rfl (zaD rfl (zo2 _ _ _ _ _) encOpn_ok rfl) fun b38=>?_
   refine zb4 (m:=[(v.opens.getD (i).toNat default)]) 2 af92 encOpn_ok rfl rfl rfl rfl (fun _ hw=>(zam encOpn_ok (hw.has (p:=0) rfl))) (by first | omega | (simp only [List.length_cons,List.length_nil]; omega)) (by first | (unfold maxLen; omega) | (simp only [List.length_cons,List.length_nil,maxLen]; omega)) fun a39 c39=>?_
   refine gQ (zab zhe rfl) ?_
   refine zaA 3 tf92 rfl rfl (vs:=[_]) rfl rfl rfl rfl rfl ?_
   refine zag (zae (T':=[(1,_),(2,_),(3,_),(4,_)]) ⟨rfl,rfl,rfl,rfl,trivial⟩ ?_)
   refine zaa (gM ?_)
   refine gQ (zaY rfl rfl (by omega) (by omega)) ?_
   refine gA ?_
   refine zag (zae (T':=[(1,_),(2,_),(3,_),(4,_)]) ⟨rfl,rfl,rfl,rfl,trivial⟩ ?_)
   refine zaK 0 rfl ?_
   refine zaK 0 rfl ?_
   exact za1 (i+1,_,_,_) ⟨rfl,rfl,rfl,rfl,trivial⟩ rfl ⟨by omega,by omega,by rw [g2,zey g0 hc17]⟩ (by simp only []; omega)
  ·have hc17:=of_decide_eq_false hc17
   obtain rfl:M=v.opens:=by rw [g2,List.take_of_length_le (by omega)]
   refine za8 rfl ?_
   refine zac (zaa (gk_y rfl rfl (zat 1 tf94 rfl rfl (vs:=[_,_,_,_]) rfl rfl) ?_))
   refine zaA 2 tf94 rfl rfl (vs:=[_,_,_,_]) rfl rfl rfl rfl rfl ?_
   refine zag (zae (T':=[(2,_)]) ⟨rfl,trivial⟩ ?_)
   refine zaw (zbd (ra,rc) 0 (zaC rfl (zbU (i:=2) (vs:=[_,_,_,_]) tf94 rfl rfl rfl rfl)) ?_ rfl)
   rfl
end Go.Proofs.YtdcfcfhmkfkgmaaGreatDoor
namespace Go.Proofs.YtdcfcfhmkfkgmaaGreatDoor
open Go.K Go.Stn Go.Pln Go.RowKit
theorem en43:En Tryz.prog 43:=za7 Tryz.func43 (by kernel_rfl) (by kernel_rfl)
theorem en44:En Tryz.prog 44:=za7 Tryz.func44 (by kernel_rfl) (by kernel_rfl)
theorem map_take {α β:Type} [Inhabited α] (f:α→β) {l:List α} {m:List α} {i:Int} {x:α} (h0:0≤i) (h:i < (l.length:Int)) (hm:m.map f=(l.take i.toNat).map f) (hx:f x=f (l.getD i.toNat default)):(m++[x]).map f=(l.take (i+1).toNat).map f:=by
 rw [List.map_append,hm,show(i+1).toNat=i.toNat+1 from by omega,List.take_add_one,List.getElem?_eq_getElem (by omega),List.map_append]
 congr 1
 show [f x]=[f l[i.toNat]]
 rw [hx,List.getD_eq_getElem?_getD,List.getElem?_eq_getElem (by omega)]; rfl
set_option maxRecDepth 100000 in
set_option maxHeartbeats 16000000 in
theorem zue (a:Option Addr) (cap:Nat) (S:List ShC) (b:Option Addr) (bcap:Nat) (V:List WlC) (w:World) (hl:Has w (zaW a 20 zbH S)) (hs:Small S.length) (hlw:Has w (zaW b 4 zbS V)) (hsw:Small V.length) (hsh:∀ z∈S,Has w (Ints z.a z.s.heights)) (hss:∀ z∈S,Small z.s.heights.length) (hwo:∀ z∈V,Has w (zaW z.a 5 zba z.s.opens)) (hsv:∀ z∈V,Small z.s.opens.length) (hsl:S.length≤1000000) (hvl:V.length≤1000000) :
  Calls Tryz.prog 14 #[.agg #[.slice a S.length cap,.slice b V.length bcap]] w (zcU (fun z:(Option Addr×Nat×List ShC)×(Option Addr×Nat×List WlC)=>.agg #[.slice z.1.1 z.1.2.2.length z.1.2.1,.slice z.2.1 z.2.2.2.length z.2.2.1]) (fun z=>PlR yP z ⟨S.map (·.s),V.map (·.s)⟩) w):=by
 refine zan (vs:=[_]) Tryz.func14 rfl rfl (Nat.le_of_ble_eq_true rfl) ?_
 refine zac (zaa (zaG rfl rfl (za3 (vs:=[_,_]) rfl rfl) fun b1=>?_))
 refine zaG rfl rfl (zaL tf31 (zs:=[_,_]) rfl) fun b2=>?_
 refine zag (zae (T':=[(1,_),(2,_)]) ⟨rfl,rfl,trivial⟩ ?_)
 refine zac (zaa (zaG rfl rfl (zaL tf31 (zs:=[_,_]) rfl) fun b3=>?_))
 refine zag (zae (T':=[(1,_),(2,_),(3,_)]) ⟨rfl,rfl,rfl,trivial⟩ ?_)
 refine zac (zac (zaa (gA ?_)))
 refine zag (zae (T':=[(1,_),(2,_),(3,_),(4,_)]) ⟨rfl,rfl,rfl,rfl,trivial⟩ ?_)
 refine zas ?_
 refine zbB 41 zbH 20 ?_
 refine zjj (rowH 3) ?_
 refine zbf (X:=Int×Option Addr×Nat×List ShC) (fun⟨i,ra,rc,S2⟩=>[(1,.pointer (some ⟨b1,0,none⟩)),(2,.pointer (some ⟨b2,0,none⟩)),(3,.pointer (some ⟨b3,0,none⟩)),(4,.int .i64 i)]) (fun⟨i,ra,rc,S2⟩=>[Go.K.Rows (rowH 3) S2,Row ra 20 rc 41 zbH S2,Box b3 [.slice ra S2.length rc,.slice none 0 0] 31,Box b2 [.slice none 0 0,.slice none 0 0] 31,Box b1 [.slice a S.length cap,.slice b V.length bcap] 25]) (fun⟨i,ra,rc,S2⟩=>(0≤i∧i≤S.length∧S2.map (·.s)=(S.take i.toNat).map (·.s))) (fun⟨i,ra,rc,S2⟩=>(S.length - i).toNat) (0,none,0,[]) ⟨rfl,rfl,rfl,rfl,trivial⟩ rfl ?_ ?_
 ·exact⟨by omega,by omega,rfl⟩
 ·rintro ⟨i,ra,rc,S2⟩ hI
  obtain⟨g0,g1,g2⟩:=hI
  have hml:S2.length≤S.length:=by have:=congrArg List.length g2; rw [List.length_map,List.length_map,List.length_take] at this; omega
  refine zac (zac (zaa (gM ?_)))
  refine gQ (zab zd6 rfl) ?_
  refine gQ (zah 4 tf22 rfl rfl rfl) ?_
  refine gQ (zaV (Tryz.underlying22) rfl) ?_
  refine gQ (zbw rfl rfl) ?_
  refine zag (zae (T':=[(1,_),(2,_),(3,_),(4,_),(10,_)]) ⟨rfl,rfl,rfl,rfl,rfl,trivial⟩ ?_)
  refine zap rfl (fun hc10=>?_) (fun hc10=>?_)
  ·have hc10:=of_decide_eq_true hc10
   refine zaq (zac (zas ?_))
   refine zf3 (ch [(7,(Option Addr×Nat)),(8,Nat)]) 9 [0,1,0,4,0,28,60,124,252,511,1023,2047] (fun _=>mixed) (by kernel_rfl) (zjK _ ⟨inferInstance,inferInstance,trivial⟩) ?_
   refine zbD (fun ρ=>zab zeo rfl) (fun ρ ρ' h=>by rfl) ?_
   refine zbD (fun ρ=>zah 2 tf28 rfl rfl rfl) (fun ρ ρ' h=>by rfl) ?_
   refine zbD (fun ρ=>zab zd6 rfl) (fun ρ ρ' h=>by rfl) ?_
   refine zbD (fun ρ=>zah 4 tf22 rfl rfl rfl) (fun ρ ρ' h=>by rfl) ?_
   refine zbD (fun ρ=>zaf rfl) (fun ρ ρ' h=>by rfl) ?_
   refine zbD (fun ρ=>zaE se22 rfl rfl (fun _ hw=>(Rd.has (Has.rd hl) hw)) (by omega) (by omega)) (fun ρ ρ' h=>by rfl) ?_
   refine zbD (fun ρ=>zbv (vs:=[_,_,_,_,_,_,_,_,_,_,_,_,_,_,_,_,_,_,_,_]) tf37 rfl (fun _ hw=>(Rd.has (Has.rd hl) hw)) (by omega) (by omega) rfl) (fun ρ ρ' h=>by rfl) ?_
   refine zgB (fun ρ=>zbm en43 rfl (fun w hw=>zrH ((S.getD (i).toNat default).s) _ _ w (Rd.has (Has.rd (hsh _ (za0 (by omega)))) hw) (hss _ (za0 (by omega))))) (fun ρ ρ' h=>⟨by rfl,by rfl⟩) ?_
   refine zgB (fun ρ=>zaD rfl (zsC (⟨(S.getD (i).toNat default).s,(ρ 7).1,(ρ 7).2⟩:ShC)) zbI rfl) (fun ρ ρ' h=>⟨by(first | rfl | (simp only [h 7 rfl]; done) | (simp only [h 7 rfl]; rfl)),by(first | rfl | (simp only [h 7 rfl]; done) | (simp only [h 7 rfl]; rfl))⟩) ?_
   refine fun ρ=>zf4 (X:=(Option Addr×Nat)×Nat) (ρ 7,ρ 8) (fun⟨p20,b21⟩=>[(1,.pointer (some ⟨b1,0,none⟩)),(2,.pointer (some ⟨b2,0,none⟩)),(3,.pointer (some ⟨b3,0,none⟩)),(4,.int .i64 i),(14,.slice ra S2.length rc),(21,.slice (some ⟨b21,0,none⟩) 1 1)]) (fun⟨p20,b21⟩=>[Row (some ⟨b21,0,none⟩) 20 1 41 zbH [(⟨(S.getD (i).toNat default).s,p20.1,p20.2⟩:ShC)],Row p20.1 1 p20.2 3 Go.Stn.encI (S.getD (i).toNat default).s.heights,Go.K.Rows (rowH 3) S2,Row ra 20 rc 41 zbH S2,Box b3 [.slice ra S2.length rc,.slice none 0 0] 31,Box b2 [.slice none 0 0,.slice none 0 0] 31,Box b1 [.slice a S.length cap,.slice b V.length bcap] 25]) ⟨rfl,rfl,rfl,rfl,rfl,rfl,trivial⟩ rfl ?_
   rintro ⟨p20,b21⟩
   refine zb4 (m:=[(⟨(S.getD (i).toNat default).s,p20.1,p20.2⟩:ShC)]) 3 af28 zbI rfl rfl rfl rfl (fun _ hw=>(zam zbI (hw.has (p:=0) rfl))) (by first | omega | (simp only [List.length_cons,List.length_nil]; omega)) (by first | (unfold maxLen; omega) | (simp only [List.length_cons,List.length_nil,maxLen]; omega)) fun a22 c22=>?_
   refine gQ (zab zeo rfl) ?_
   refine zaA 4 tf28 rfl rfl (vs:=[_]) rfl rfl rfl rfl rfl ?_
   refine zag (zae (T':=[(1,_),(2,_),(3,_),(4,_)]) ⟨rfl,rfl,rfl,rfl,trivial⟩ ?_)
   refine zao 1 rfl ?_
   refine zao 2 rfl ?_
   refine zbT 2 ?_
   refine za2 (R':=Go.K.Rows (rowH 3) (S2++[(⟨(S.getD i.toNat default).s,p20.1,p20.2⟩:ShC)])) 0 rfl (fun B w hA=>zfr (f:=rowH 3) hA) ?_
   refine zaa (gM ?_)
   refine gQ (zaY rfl rfl (by omega) (by omega)) ?_
   refine gA ?_
   refine zag (zae (T':=[(1,_),(2,_),(3,_),(4,_)]) ⟨rfl,rfl,rfl,rfl,trivial⟩ ?_)
   refine zaK 1 rfl ?_
   exact za1 (i+1,_,_,_) ⟨rfl,rfl,rfl,rfl,trivial⟩ rfl ⟨by omega,by omega,map_take _ g0 hc10 g2 rfl⟩ (by simp only []; omega)
  ·have hc10:=of_decide_eq_false hc10
   have hS2:S2.map (·.s)=S.map (·.s):=by rw [g2,List.take_of_length_le (by omega)]
   clear g0 g1 g2 hml
   refine za8 rfl ?_
   refine zac (zac (zaa (gA ?_)))
   refine zag (zae (T':=[(1,_),(2,_),(3,_),(5,_)]) ⟨rfl,rfl,rfl,rfl,trivial⟩ ?_)
   refine zas ?_
   refine zbB 94 zbS 4 ?_
   refine zjj (rowO 98) ?_
   refine zbf (X:=Int×Option Addr×Nat×List WlC) (fun⟨i,rb,rd,V2⟩=>[(1,.pointer (some ⟨b1,0,none⟩)),(2,.pointer (some ⟨b2,0,none⟩)),(3,.pointer (some ⟨b3,0,none⟩)),(5,.int .i64 i)]) (fun⟨i,rb,rd,V2⟩=>[Go.K.Rows (rowO 98) V2,Row rb 4 rd 94 zbS V2,Go.K.Rows (rowH 3) S2,Row ra 20 rc 41 zbH S2,Box b3 [.slice ra S2.length rc,.slice rb V2.length rd] 31,Box b2 [.slice none 0 0,.slice none 0 0] 31,Box b1 [.slice a S.length cap,.slice b V.length bcap] 25]) (fun⟨i,rb,rd,V2⟩=>(0≤i∧i≤V.length∧V2.map (·.s)=(V.take i.toNat).map (·.s))) (fun⟨i,rb,rd,V2⟩=>(V.length - i).toNat) (0,none,0,[]) ⟨rfl,rfl,rfl,rfl,trivial⟩ rfl ?_ ?_
   ·exact⟨by omega,by omega,rfl⟩
   ·rintro ⟨i,rb,rd,V2⟩ hI
    obtain⟨g0,g1,g2⟩:=hI
    have hml:V2.length≤V.length:=by have:=congrArg List.length g2; rw [List.length_map,List.length_map,List.length_take] at this; omega
    refine zac (zac (zaa (gM ?_)))
    refine gQ (zab zdT rfl) ?_
    refine gQ (zah 6 tf23 rfl rfl rfl) ?_
    refine gQ (zaV (Tryz.underlying23) rfl) ?_
    refine gQ (zbw rfl rfl) ?_
    refine zag (zae (T':=[(1,_),(2,_),(3,_),(5,_),(28,_)]) ⟨rfl,rfl,rfl,rfl,rfl,trivial⟩ ?_)
    refine zap rfl (fun hc28=>?_) (fun hc28=>?_)
    ·have hc28:=of_decide_eq_true hc28
     refine zaq (zac (zas ?_))
     refine zf3 (ch [(7,(Option Addr×Nat)),(8,Nat)]) 9 [0,1,0,4,0,28,60,124,252,511,1023,2047] (fun _=>mixed) (by kernel_rfl) (zjK _ ⟨inferInstance,inferInstance,trivial⟩) ?_
     refine zbD (fun ρ=>zab zd7 rfl) (fun ρ ρ' h=>by rfl) ?_
     refine zbD (fun ρ=>zah 4 tf29 rfl rfl rfl) (fun ρ ρ' h=>by rfl) ?_
     refine zbD (fun ρ=>zab zdT rfl) (fun ρ ρ' h=>by rfl) ?_
     refine zbD (fun ρ=>zah 6 tf23 rfl rfl rfl) (fun ρ ρ' h=>by rfl) ?_
     refine zbD (fun ρ=>zaf rfl) (fun ρ ρ' h=>by rfl) ?_
     refine zbD (fun ρ=>zaE se23 rfl rfl (fun _ hw=>(Rd.has (Has.rd hlw) hw)) (by omega) (by omega)) (fun ρ ρ' h=>by rfl) ?_
     refine zbD (fun ρ=>zbv (vs:=[_,_,_,_]) tf65 rfl (fun _ hw=>(Rd.has (Has.rd hlw) hw)) (by omega) (by omega) rfl) (fun ρ ρ' h=>by rfl) ?_
     refine zgB (fun ρ=>zbm en44 rfl (fun w hw=>zuf ((V.getD (i).toNat default).s) _ _ w (Rd.has (Has.rd (hwo _ (za0 (by omega)))) hw) (hsv _ (za0 (by omega))))) (fun ρ ρ' h=>⟨by rfl,by rfl⟩) ?_
     refine zgB (fun ρ=>zaD rfl (zsD (⟨(V.getD (i).toNat default).s,(ρ 7).1,(ρ 7).2⟩:WlC)) zbo rfl) (fun ρ ρ' h=>⟨by(first | rfl | (simp only [h 7 rfl]; done) | (simp only [h 7 rfl]; rfl)),by(first | rfl | (simp only [h 7 rfl]; done) | (simp only [h 7 rfl]; rfl))⟩) ?_
     refine fun ρ=>zf4 (X:=(Option Addr×Nat)×Nat) (ρ 7,ρ 8) (fun⟨p38,b39⟩=>[(1,.pointer (some ⟨b1,0,none⟩)),(2,.pointer (some ⟨b2,0,none⟩)),(3,.pointer (some ⟨b3,0,none⟩)),(5,.int .i64 i),(32,.slice rb V2.length rd),(39,.slice (some ⟨b39,0,none⟩) 1 1)]) (fun⟨p38,b39⟩=>[Row (some ⟨b39,0,none⟩) 4 1 94 zbS [(⟨(V.getD (i).toNat default).s,p38.1,p38.2⟩:WlC)],Row p38.1 5 p38.2 98 zba (V.getD (i).toNat default).s.opens,Go.K.Rows (rowO 98) V2,Row rb 4 rd 94 zbS V2,Go.K.Rows (rowH 3) S2,Row ra 20 rc 41 zbH S2,Box b3 [.slice ra S2.length rc,.slice rb V2.length rd] 31,Box b2 [.slice none 0 0,.slice none 0 0] 31,Box b1 [.slice a S.length cap,.slice b V.length bcap] 25]) ⟨rfl,rfl,rfl,rfl,rfl,rfl,trivial⟩ rfl ?_
     rintro ⟨p38,b39⟩
     refine zb4 (m:=[(⟨(V.getD (i).toNat default).s,p38.1,p38.2⟩:WlC)]) 3 af29 zbo rfl rfl rfl rfl (fun _ hw=>(zam zbo (hw.has (p:=0) rfl))) (by first | omega | (simp only [List.length_cons,List.length_nil]; omega)) (by first | (unfold maxLen; omega) | (simp only [List.length_cons,List.length_nil,maxLen]; omega)) fun a40 c40=>?_
     refine gQ (zab zd7 rfl) ?_
     refine zaA 6 tf29 rfl rfl (vs:=[_]) rfl rfl rfl rfl rfl ?_
     refine zag (zae (T':=[(1,_),(2,_),(3,_),(5,_)]) ⟨rfl,rfl,rfl,rfl,trivial⟩ ?_)
     refine zao 1 rfl ?_
     refine zao 2 rfl ?_
     refine zbT 2 ?_
     refine za2 (R':=Go.K.Rows (rowO 98) (V2++[(⟨(V.getD i.toNat default).s,p38.1,p38.2⟩:WlC)])) 0 rfl (fun B w hA=>zfr (f:=rowO 98) hA) ?_
     refine zaa (gM ?_)
     refine gQ (zaY rfl rfl (by omega) (by omega)) ?_
     refine gA ?_
     refine zag (zae (T':=[(1,_),(2,_),(3,_),(5,_)]) ⟨rfl,rfl,rfl,rfl,trivial⟩ ?_)
     refine zaK 1 rfl ?_
     exact za1 (i+1,_,_,_) ⟨rfl,rfl,rfl,rfl,trivial⟩ rfl ⟨by omega,by omega,map_take _ g0 hc28 g2 rfl⟩ (by simp only []; omega)
    ·have hc28:=of_decide_eq_false hc28
     have hV2:V2.map (·.s)=V.map (·.s):=by rw [g2,List.take_of_length_le (by omega)]
     refine za8 rfl ?_
     refine zac (zaa (gk_y rfl rfl (zat 4 tf31 rfl rfl (vs:=[_,_]) rfl rfl) ?_))
     refine zaA 5 tf31 rfl rfl (vs:=[_,_]) rfl rfl rfl rfl rfl ?_
     refine zag (zae (T':=[(2,_)]) ⟨rfl,trivial⟩ ?_)
     refine zao 1 rfl ?_
     refine zao 2 rfl ?_
     refine zao 3 rfl ?_
     refine zbT 4 ?_
     refine za2 (R':=PlR yP ((ra,rc,S2),(rb,rd,V2)) ⟨S.map (·.s),V.map (·.s)⟩) 0 rfl (fun B w hA=>⟨hS2,hV2,hA⟩) ?_
     refine zaw (zbd ((ra,rc,S2),(rb,rd,V2)) 0 (zaC rfl (zbU (i:=2) (vs:=[_,_]) tf31 rfl rfl rfl rfl)) ?_ rfl)
     rfl
end Go.Proofs.YtdcfcfhmkfkgmaaGreatDoor
namespace Go.K
open Go Go.RowKit
section
variable {α:Type} [Inhabited α] {k:Nat} {enc:α→List Value}
open Go.Proofs in
theorem zoy {P:Program} {ρ:Go.Shelf.Ren} (L:SlLaysF0.n6 P ρ) (aE:∀ w,(isAgg (ρ.t 24)).run P w=.ok true w) (zE:∀ w,(Go.sizeOf (ρ.t 24)).run P w=.ok k w) (he:Enc k enc) (hk:0 < k) (h1:∀ x,∀ v∈enc x,v.oneCell' = true)
  (cf:α→α→Int) (hO:Go.Sort.SWO (ltOf cf)) (g:Nat) (cb:List Value) (eg:En P g)
  {a:Option Addr} {cap:Nat} {e:TypeId} {l:List α} {w:World} {B:Nat→Prop} (hc:∀ x y w',Mod B w w'→Calls P g (#[.agg (enc x).toArray,.agg (enc y).toArray]++cb.toArray) w' (Pure (.int .i64 (cf x y)) w'))
  (hB:∀ i,B i→i < w.heap.size) (hA:(Row a k cap e enc l).A B w) (hs:l.length < 4611686018427387904) :
  Calls P (ρ.f 6) #[.slice a l.length cap,.func (.func g) #[] cb.toArray] w (zho (fun _:List α=>.tuple #[]) (fun m=>Row a k cap e enc m) (fun m=>m.Perm l∧m.Pairwise fun x y=>ltOf cf y x=false) B w):=by
 rcases hA with ⟨rfl,rfl,rfl⟩ | ⟨b,off,cs,ha,hBb,hb,g1,g2,g3⟩
 ·refine(AnyF.slices_SortFunc_none L none 0 (.func (.func g) #[] cb.toArray) w).mono ?_
  rintro _ _ ⟨rfl,rfl⟩
  exact⟨[],B,rfl,⟨List.Perm.refl _,List.Pairwise.nil⟩,Mod.rfl,fun _ hk=>.inl hk,.inl ⟨rfl,rfl,rfl⟩⟩
 ·have hbl:b < w.heap.size:=hB b ((hBb b).2 rfl)
  have hcmp:CmpLays P g cb.toArray enc k cf b off l.toArray.size w:=fun m os dk hdk x y=>by
   have hm:=(zjs (n:=m) (os:=os) he hk (m:=dk.toList) (l:=l) (by simpa using hdk) hB ha hBb hb g1 g2).1
   rw [Array.toArray_toList] at hm
   refine(hc x y (Go.Proofs.sortWorldK enc k w b off m dk os) hm).mono ?_
   rintro _ w' ⟨rfl,hx⟩
   exact⟨rfl,hx.grown⟩
  have h:=AnyQ.slices_SortFunc L k aE zE enc he.len h1 cf hO g cb.toArray b off cap l.toArray w eg hcmp (zpW he hk hb g3) hbl (by simpa using hs)
  subst ha
  refine h.mono ?_
  rintro _ _ ⟨rfl,d',n,os,⟨hsz,_,hperm⟩,hso,rfl⟩
  have hsz':d'.size=l.length:=by simpa using hsz
  have e1:d'.extract 0 l.toArray.size=d':=by rw [←hsz]; exact Array.extract_size
  rw [e1,Array.extract_size] at hperm
  obtain⟨q1,q2⟩:=zjs (n:=n) (os:=os) he hk (m:=d'.toList) (l:=l) (by simpa using hsz') hB rfl hBb hb g1 g2
  rw [Array.toArray_toList] at q1 q2
  refine⟨d'.toList,B,rfl,⟨by simpa using hperm,?_⟩,q1,fun _ hk=>.inl hk,q2⟩
  rw [List.pairwise_iff_getElem]
  intro i j hi hj hij
  have hi':i < d'.size:=by simpa using hi
  have hj':j < d'.size:=by simpa using hj
  have:=hso i j (Nat.zero_le _) hij (by simpa using (by omega:j < l.length))
  rw [getElem!_pos d' j hj',getElem!_pos d' i hi'] at this
  simpa using this
end
end Go.K
namespace Go.Pln
open Go Go.K Go.RowKit Go.Stn
def zcH (l:List Opn) (x:Int):Bool:=l.all fun o=>!(decide (o.at_≤x)&&decide (x < o.at_+o.width))
theorem zdU {l:List Opn} {x:Int}:zcH l x=true↔∀ o∈l,¬ (o.at_≤x∧x < o.at_+o.width):=by
 unfold zcH
 rw [List.all_eq_true]
 have key:∀ o:Opn,(!(decide (o.at_≤x)&&decide (x < o.at_+o.width)))=true↔¬ (o.at_≤x∧x < o.at_+o.width):=fun o=>by
  rw [Bool.not_eq_true',Bool.and_eq_false_iff,decide_eq_false_iff_not,decide_eq_false_iff_not]
  omega
 exact⟨fun h o ho=>(key o).1 (h o ho),fun h o ho=>(key o).2 (h o ho)⟩
theorem znj {l:List Opn} {x:Int} {o:Opn} (ho:o∈l) (h:o.at_≤x∧x < o.at_+o.width):zcH l x=false:=by
 cases e:zcH l x with
 | false=>rfl
 | true=>exact absurd h (zdU.1 e o ho)
theorem zof {l m:List Opn} (h:l.Perm m):zcH l=zcH m:=by
 funext x
 rw [Bool.eq_iff_iff,zdU,zdU]
 exact⟨fun g o ho=>g o (h.mem_iff.2 ho),fun g o ho=>g o (h.mem_iff.1 ho)⟩
def Runs (f:Int→Bool) (hi:Int):Int→List Crs→Prop
 | lo,[]=>∀ x,lo≤x→x < hi→f x=false
 | lo,c :: r=>lo≤c.frm∧c.frm < c.to∧c.to≤hi∧(∀ x,lo≤x→x < c.frm→f x=false)∧(∀ x,c.frm≤x→x < c.to→f x=true)∧(c.to=hi∨f c.to=false)∧Runs f hi c.to r
theorem ziC {f:Int→Bool} {hi:Int}:∀ {lo:Int} {m n:List Crs},Runs f hi lo m→Runs f hi lo n→m=n
 | _,[],[],_,_=>rfl
 | _,[],c :: r,h,⟨a,b,d,_,e,_⟩=>by
  have:=h c.frm a (by omega)
  rw [e c.frm (Int.le_refl _) b] at this; cases this
 | _,c :: r,[],⟨a,b,d,_,e,_⟩,h=>by
  have:=h c.frm a (by omega)
  rw [e c.frm (Int.le_refl _) b] at this; cases this
 | _,c :: r,d :: s,⟨a1,a2,a3,a4,a5,a6,a7⟩,⟨b1,b2,b3,b4,b5,b6,b7⟩=>by
  have h1:c.frm=d.frm:=by
   rcases Int.lt_trichotomy c.frm d.frm with h | h | h
   ·have:=a5 c.frm (Int.le_refl _) a2
    rw [b4 c.frm a1 h] at this; cases this
   ·exact h
   ·have:=b5 d.frm (Int.le_refl _) b2
    rw [a4 d.frm b1 h] at this; cases this
  have h2:c.to=d.to:=by
   rcases Int.lt_trichotomy c.to d.to with h | h | h
   ·rcases a6 with e | e
    ·omega
    ·have:=b5 c.to (by omega) h
     rw [e] at this; cases this
   ·exact h
   ·rcases b6 with e | e
    ·omega
    ·have:=a5 d.to (by omega) h
     rw [e] at this; cases this
  obtain⟨cf,ct⟩:=c
  obtain⟨df,dt⟩:=d
  simp only at h1 h2
  subst h1 h2
  rw [ziC a7 b7]
theorem zeK {f:Int→Bool} {hi:Int}:∀ {lo:Int} {m:List Crs},Runs f hi lo m→∀ c∈m,lo≤c.frm∧c.frm < c.to∧c.to≤hi∧∀ x,c.frm≤x→x < c.to→f x=true
 | _,[],_,_,h=>by cases h
 | _,c :: r,⟨a1,a2,a3,_,a5,_,a7⟩,d,h=>by
  rcases List.mem_cons.1 h with rfl | h'
  ·exact⟨a1,a2,a3,a5⟩
  ·obtain⟨b1,b2,b3,b4⟩:=zeK a7 d h'
   exact⟨by omega,b2,b3,b4⟩
theorem zgG {f:Int→Bool} {a b:Int} (hab:a≤b) (hn:∀ x,a≤x→x < b→f x=false):∀ {lo:Int} {m:List Crs},Runs f a lo m→Runs f b lo m
 | _,[],h=>fun x h1 h2=>by
  rcases Int.lt_or_le x a with g | g
  ·exact h x h1 g
  ·exact hn x g h2
 | _,c :: r,⟨a1,a2,a3,a4,a5,a6,a7⟩=>⟨a1,a2,by omega,a4,a5,by
   rcases a6 with e | e
   ·rcases Int.lt_or_le a b with g | g
    ·exact .inr (hn _ (by omega) (by omega))
    ·exact .inl (by omega)
   ·exact .inr e,zgG hab hn a7⟩
theorem zhC {f:Int→Bool} {a b:Int} (hab:a < b) (hf:∀ x,a≤x→x < b→f x=true):∀ {lo:Int} {m:List Crs},lo≤a→(∀ c∈m,c.to < a)→Runs f a lo m→Runs f b lo (m++[⟨a,b⟩])
 | _,[],hlo,_,h=>⟨hlo,hab,Int.le_refl _,h,hf,.inl rfl,fun x h1 h2=>by simp only at h1; omega⟩
 | _,c :: r,_,hl,⟨a1,a2,a3,a4,a5,a6,a7⟩=>⟨a1,a2,by omega,a4,a5,by
   rcases a6 with e | e
   ·have:=hl c (List.mem_cons_self ..); omega
   ·exact .inr e,zhC hab hf a3 (fun d hd=>hl d (List.mem_cons_of_mem _ hd)) a7⟩
theorem zlw {f:Int→Bool} {a p:Int} (hf:f a=true):∀ {lo:Int} {m:List Crs},Runs f a lo (m++[⟨p,a⟩])→Runs f (a+1) lo (m++[⟨p,a+1⟩])
 | _,[],⟨a1,a2,a3,a4,a5,a6,a7⟩=>⟨a1,by simp only at *; omega,Int.le_refl _,a4,fun x h1 h2=>by
   simp only at *
   rcases Int.lt_or_le x a with g | g
   ·exact a5 x h1 g
   ·rw [show x=a from by omega]; exact hf,.inl rfl,fun x h1 h2=>by simp only at h1; omega⟩
 | _,c :: r,⟨a1,a2,a3,a4,a5,a6,a7⟩=>⟨a1,a2,by omega,a4,a5,by
   rcases a6 with e | e
   ·have:=(zeK a7 ⟨p,a⟩ (List.mem_append.2 (.inr (List.mem_cons_self ..))))
    simp only at this; omega
   ·exact .inr e,zlw hf a7⟩
theorem znO {f:Int→Bool} {hi:Int} (h:0 < hi) (hf:∀ x,0≤x→x < hi→f x=true):Runs f hi 0 [⟨0,hi⟩]:=
 ⟨Int.le_refl _,h,Int.le_refl _,fun x h1 h2=>by simp only at h2; omega,hf,.inl rfl,fun x h1 h2=>by simp only at h1; omega⟩
def bayS (f:Int→Bool) (m:List Crs) (x:Int):List Crs:=
 if f x=true then(if 0 < m.length∧(m.getD (m.length - 1) default).to=x then m.set (m.length - 1) ⟨(m.getD (m.length - 1) default).frm,x+1⟩ else m++[⟨x,x+1⟩]) else m
def bayN (f:Int→Bool):Nat→List Crs
 | 0=>[]
 | n+1=>bayS f (bayN f n) n
theorem zt8 {α:Type} [Inhabited α] {m:List α} (h:0 < m.length):m=m.take (m.length - 1)++[m.getD (m.length - 1) default]:=by
 rw [List.getD_eq_getElem?_getD,List.getElem?_eq_getElem (by omega),Option.getD_some]
 conv=>lhs; rw [←List.take_append_drop (m.length - 1) m]
 rw [List.drop_eq_getElem_cons (by omega),List.drop_of_length_le (by omega)]
theorem zrE {α:Type} [Inhabited α] {m:List α} {z:α} (h:0 < m.length):m.set (m.length - 1) z=m.take (m.length - 1)++[z]:=by
 rw [List.set_eq_take_append_cons_drop,if_pos (by omega),List.drop_of_length_le (by omega)]
theorem zoW {f:Int→Bool} {m:List Crs} {x:Int} (h0:0≤x) (h:Runs f x 0 m):Runs f (x+1) 0 (bayS f m x):=by
 unfold bayS
 by_cases hf:f x=true
 ·rw [if_pos hf]
  by_cases hl:0 < m.length∧(m.getD (m.length - 1) default).to=x
  ·rw [if_pos hl,zrE hl.1]
   have h2:=h
   rw [zt8 hl.1] at h2
   have e:m.getD (m.length - 1) default=⟨(m.getD (m.length - 1) default).frm,x⟩:=by
    rw [←hl.2]
   rw [e] at h2
   exact zlw hf h2
  ·rw [if_neg hl]
   refine zhC (by omega) (fun y h1 h2=>by rw [show y=x from by omega]; exact hf) h0 (fun c hc=>?_) h
   obtain⟨i,hi,rfl⟩:=List.getElem_of_mem hc
   have h1:=(zeK h _ hc).2.2.1
   rcases Int.lt_or_eq_of_le h1 with g | g
   ·exact g
   ·exfalso
    have hlast:i=m.length - 1:=by
     rcases Nat.lt_or_ge i (m.length - 1) with hi' | hi'
     ·exfalso
      have key:∀ {lo:Int} {m:List Crs} {i:Nat} (hi:i < m.length),Runs f x lo m→i+1 < m.length→m[i].to < x:=by
       intro lo m
       induction m generalizing lo with
       | nil=>intro i hi; simp at hi
       | cons c r ih=>
        intro i hi hr hi2
        cases i with
        | zero=>
         obtain⟨_,_,_,_,_,_,a7⟩:=hr
         cases r with
         | nil=>simp at hi2
         | cons d s=>
          obtain⟨b1,b2,b3,_⟩:=a7
          simp only [List.getElem_cons_zero]; omega
        | succ k=>
         simp only [List.getElem_cons_succ]
         exact ih (by simpa using hi) hr.2.2.2.2.2.2 (by simpa using hi2)
      have:=key hi h (by omega)
      omega
     ·omega
    subst hlast
    apply hl
    refine⟨by omega,?_⟩
    rw [List.getD_eq_getElem?_getD,List.getElem?_eq_getElem hi]; exact g
 ·rw [if_neg hf]
  exact zgG (by omega) (fun y h1 h2=>by rw [show y=x from by omega]; simpa using hf) h
theorem zkF (f:Int→Bool):∀ n:Nat,Runs f n 0 (bayN f n)
 | 0=>fun x h1 h2=>by omega
 | n+1=>by rw [bayN]; exact zoW (by omega) (zkF f n)
def bayL (f:Int→Bool) (L:Int):List Crs:=bayN f L.toNat
theorem zkE (f:Int→Bool) {L:Int} (h:0≤L):Runs f L 0 (bayL f L):=by
 have:=zkF f L.toNat
 rwa [show((L.toNat:Nat):Int)=L from by omega] at this
theorem zjF {f:Int→Bool} {L:Int} {m:List Crs} (h:0≤L) (hm:Runs f L 0 m):m=bayL f L:=ziC hm (zkE f h)
structure SwI (l:List Opn) (L:Int) (n:Nat) (a:Int) (m:List Crs):Prop where
 a0:0≤a
 aL:a≤L
 runs:Runs (zcH l) a 0 m
 past:∀ o∈l.take n,o.at_+o.width≤a
 edge:a=0∨zcH l (a - 1)=false
def InW (l:List Opn) (L:Int):Prop:=∀ o∈l,0≤o.at_∧1≤o.width∧o.at_+o.width≤L
theorem zsl (l:List Opn) {L:Int} (h:0≤L):SwI l L 0 0 []:=⟨Int.le_refl _,h,fun x h1 h2=>by omega,fun o ho=>by simp at ho,.inl rfl⟩
def swM (a to:Int) (m:List Crs):List Crs:=if a < to then m++[⟨a,to⟩] else m
theorem znU {l:List Opn} {L:Int} {n:Nat} {a:Int} {m:List Crs} (h:SwI l L n a m):∀ c∈m,c.to < a:=fun c hc=>by
 obtain⟨h1,h2,h3,h4⟩:=zeK h.runs c hc
 rcases Int.lt_or_eq_of_le h3 with g | g
 ·exact g
 ·rcases h.edge with e | e
  ·omega
  ·have:=h4 (a - 1) (by omega) (by omega)
   rw [e] at this; cases this
theorem zuK {l:List Opn} {L:Int} {n:Nat} {a:Int} {m:List Crs} (hw:InW l L) (hs:l.Pairwise fun x y=>x.at_≤y.at_) (h:SwI l L n a m) (hn:n < l.length) :
  SwI l L (n+1) (max a ((l.getD n default).at_+(l.getD n default).width)) (swM a (l.getD n default).at_ m):=by
 have hg:l.getD n default=l[n]:=by rw [List.getD_eq_getElem?_getD,List.getElem?_eq_getElem hn]; rfl
 rw [hg]
 have hm:l[n]∈l:=List.getElem_mem hn
 obtain⟨w1,w2,w3⟩:=hw _ hm
 have ha:=h.a0; have haL:=h.aL
 have hcov:∀ x,l[n].at_≤x→x < l[n].at_+l[n].width→zcH l x=false:=fun x h1 h2=>znj hm ⟨h1,h2⟩
 have hfree:∀ x,a≤x→x < l[n].at_→zcH l x=true:=fun x h1 h2=>by
  rw [zdU]
  intro o ho hx
  obtain⟨i,hi,rfl⟩:=List.getElem_of_mem ho
  rcases Nat.lt_or_ge i n with g | g
  ·have:=h.past l[i] (List.mem_take_iff_getElem.2 ⟨i,by omega,rfl⟩)
   omega
  ·rcases Nat.lt_or_eq_of_le g with g' | g'
   ·have:=(List.pairwise_iff_getElem.1 hs) n i hn hi g'
    omega
   ·subst g'; omega
 have hpast:∀ o∈l.take (n+1),o.at_+o.width≤max a (l[n].at_+l[n].width):=fun o ho=>by
  obtain⟨i,hi,rfl⟩:=List.mem_take_iff_getElem.1 ho
  rcases Nat.lt_or_ge i n with g | g
  ·have:=h.past l[i] (List.mem_take_iff_getElem.2 ⟨i,by omega,rfl⟩)
   omega
  ·have hin:i=n:=by omega
   subst hin; omega
 have hedge:max a (l[n].at_+l[n].width)=0∨zcH l (max a (l[n].at_+l[n].width) - 1)=false:=by
  rcases Int.lt_or_le a (l[n].at_+l[n].width) with g | g
  ·right
   rw [show max a (l[n].at_+l[n].width)=l[n].at_+l[n].width from by omega]
   exact hcov _ (by omega) (by omega)
  ·rw [show max a (l[n].at_+l[n].width)=a from by omega]
   exact h.edge
 refine⟨by omega,by omega,?_,hpast,hedge⟩
 unfold swM
 by_cases g:a < l[n].at_
 ·rw [if_pos g,show max a (l[n].at_+l[n].width)=l[n].at_+l[n].width from by omega]
  exact zgG (by omega) hcov (zhC g hfree ha (znU h) h.runs)
 ·rw [if_neg g]
  exact zgG (by omega) (fun x h1 h2=>hcov x (by omega) (by omega)) h.runs
theorem zwl {l:List Opn} {L:Int} {n:Nat} {a:Int} {m:List Crs} (h:SwI l L n a m) (hn:l.length≤n):swM a L m=bayL (zcH l) L:=by
 have ha:=h.a0; have haL:=h.aL
 refine zjF (by omega) ?_
 unfold swM
 by_cases g:a < L
 ·rw [if_pos g]
  refine zhC g (fun x h1 h2=>?_) ha (znU h) h.runs
  rw [zdU]
  intro o ho hx
  have:=h.past o (by rw [List.take_of_length_le hn]; exact ho)
  omega
 ·rw [if_neg g]
  have:a=L:=by omega
  rw [←this]; exact h.runs
theorem zkl {f:Int→Bool} {hi:Int}:∀ {lo:Int} {m:List Crs},lo≤hi→Runs f hi lo m→(m.length:Int)≤hi - lo
 | _,[],h,_=>by simp; omega
 | _,c :: r,h,⟨a1,a2,a3,a4,a5,a6,a7⟩=>by
  have:=zkl a3 a7
  rw [List.length_cons]; omega
theorem SwI.many {l:List Opn} {L:Int} {n:Nat} {a:Int} {m:List Crs} (h:SwI l L n a m):(m.length:Int)≤L:=by
 have:=zkl h.a0 h.runs
 have:=h.aL
 omega
def lenL (m:List Crs):Int:=(m.map fun c=>c.to - c.frm).sum
theorem znP {f:Int→Bool} {hi:Int}:∀ {lo:Int} {m:List Crs},lo≤hi→Runs f hi lo m→0≤lenL m∧lenL m≤hi - lo
 | _,[],h,_=>by simp [lenL]; omega
 | _,c :: r,h,⟨a1,a2,a3,a4,a5,a6,a7⟩=>by
  have:=znP a3 a7
  unfold lenL at *
  rw [List.map_cons,List.sum_cons]
  omega
end Go.Pln
namespace Go.Pln
open Go Go.K Go.RowKit Go.Stn
def SwR (ti tl te:TypeId) (p q:Nat) (a:Int) (m:List Crs):Res where
 A B w:=∃ (ra:Option Addr) (rc:Nat),(SepR [Box p [.int .i64 a] ti,Box q [.slice ra m.length rc] tl,Row ra 2 rc te zbq m]).A B w
 loc B w w' h hA:=let ⟨ra,rc,h1⟩:=hA; ⟨ra,rc,(SepR [Box p [.int .i64 a] ti,Box q [.slice ra m.length rc] tl,Row ra 2 rc te zbq m]).loc B w w' h h1⟩
section
variable {c:Cx} {ds:List Deferred} {T:List (Nat×Value)} {H:List Res} {K:Act→World→Prop} {ti tl te:TypeId} {p q:Nat} {a:Int} {m:List Crs}
theorem zii (h:∀ (ra:Option Addr) (rc:Nat),GK c ds K T (Box p [.int .i64 a] ti :: Box q [.slice ra m.length rc] tl :: Row ra 2 rc te zbq m :: H)):GK c ds K T (SwR ti tl te p q a m :: H):=by
 intro b w ha hw
 obtain⟨hb,B,hB,⟨ra,rc,h2⟩,hr⟩:=hw
 exact h ra rc b w ha (Hp.split (L:=[_,_,_]) ⟨hb,B,hB,h2,hr⟩)
theorem zfF {ra:Option Addr} {rc:Nat} (h:GK c ds K T (SwR ti tl te p q a m :: H)):GK c ds K T (Box p [.int .i64 a] ti :: Box q [.slice ra m.length rc] tl :: Row ra 2 rc te zbq m :: H):=by
 intro b w ha hw
 obtain⟨hb,B,hB,h2,hr⟩:=Hp.pack (L:=[_,_,_]) (H:=H) hw
 exact h b w ha ⟨hb,B,hB,⟨ra,rc,h2⟩,hr⟩
end
theorem zwm {a t:Int} {m:List Crs} (h:decide (a < t)=true):m++[⟨a,t⟩]=swM a t m:=by unfold swM; rw [if_pos (of_decide_eq_true h)]
theorem zxB {a t:Int} {m:List Crs} (h:decide (a < t)=false):m=swM a t m:=by unfold swM; rw [if_neg (of_decide_eq_false h)]
end Go.Pln
namespace Go.Pln
open Go Go.K Go.RowKit Go.Stn
def zgu (c:Crs) (o:Opn):Bool:=decide (o.frm < c.to)&&decide (c.frm < o.frm+o.high)
def zj4 (h:Int) (o:Opn):Bool:=decide (o.frm+o.high=h)
def zcW (p:Opn→Bool) (v:Wll):List Crs:=bayL (zcH (v.opens.filter p)) v.length
def zbg (v:Wll) (c:Crs):List Crs:=zcW (zgu c) v
def zbK (v:Wll) (s:Sht):List Crs:=zcW (zj4 s.height) v
def copF (t to:Int):Nat→Int→Int→Int→List Cpe
 | 0,_,_,_=>[]
 | f+1,x,h,o=>if x < to then⟨x,min t (to - x),h⟩ :: copF t to f (x+t) o h else []
def copB (t to x h o:Int):List Cpe:=copF t to (to - x).toNat x h o
theorem zkL {t to:Int} (ht:1≤t):∀ (f g:Nat) (x h o:Int),(to - x).toNat≤f→(to - x).toNat≤g→copF t to f x h o=copF t to g x h o
 | 0,0,_,_,_,_,_=>rfl
 | 0,g+1,x,h,o,hf,_=>by rw [copF,copF,if_neg (by omega)]
 | f+1,0,x,h,o,_,hg=>by rw [copF,copF,if_neg (by omega)]
 | f+1,g+1,x,h,o,hf,hg=>by
  rw [copF,copF]
  by_cases hx:x < to
  ·rw [if_pos hx,if_pos hx,zkL ht f g (x+t) o h (by omega) (by omega)]
  ·rw [if_neg hx,if_neg hx]
theorem zkK {t to x h o:Int} (ht:1≤t) (hx:x < to):copB t to x h o=⟨x,min t (to - x),h⟩ :: copB t to (x+t) o h:=by
 unfold copB
 obtain⟨f,hf⟩:∃ f,(to - x).toNat=f+1:=⟨(to - x).toNat - 1,by omega⟩
 rw [hf,copF,if_pos hx,zkL ht f ((to - (x+t)).toNat) (x+t) o h (by omega) (Nat.le_refl _)]
theorem zm0 {t to x h o:Int} (hx:¬ x < to):copB t to x h o=[]:=by
 unfold copB
 rw [show(to - x).toNat=0 from by omega]; rfl
theorem zm1 (t to:Int):∀ (f:Nat) (x h o:Int),(copF t to f x h o).length≤f
 | 0,_,_,_=>Nat.le_refl _
 | f+1,x,h,o=>by
  rw [copF]
  split
  ·rw [List.length_cons]; have:=zm1 t to f (x+t) o h; omega
  ·simp
theorem zrh (t to x h o:Int):(copB t to x h o).length≤(to - x).toNat:=zm1 _ _ _ _ _ _
def zdD (s:Sht):Int:=if s.cope=3 then s.short else s.tall
def zcP (s:Sht) (bs:List Crs):List Cpe:=bs.flatMap fun b=>copB s.thick b.to b.frm s.tall (zdD s)
def zbi (v:Wll) (s:Sht):List Cpe:=if s.cope=0 then [] else zcP s (zbK v s)
theorem zhS (s:Sht) (b:Crs) (r:List Crs):zcP s (b :: r)=copB s.thick b.to b.frm s.tall (zdD s)++zcP s r:=rfl
theorem zi8 {f:Int→Bool} {hi:Int} (s:Sht):∀ {lo:Int} {m:List Crs},lo≤hi→Runs f hi lo m→((zcP s m).length:Int)≤hi - lo
 | _,[],h,_=>by simp [zcP]; omega
 | _,b :: r,h,⟨a1,a2,a3,a4,a5,a6,a7⟩=>by
  rw [zhS,List.length_append]
  have h1:=zrh s.thick b.to b.frm s.tall (zdD s)
  have h2:=zi8 s a3 a7
  omega
def thrT (bs:List Crs) (x:Int):Bool:=bs.any fun b=>decide (b.frm < x)&&decide (x < b.to)
def thrF (bs:List Crs) (L e:Int):Nat→Int→List Int
 | 0,_=>[]
 | f+1,x=>if x < L then(if thrT bs x=true then x :: thrF bs L e f (x+e) else thrF bs L e f (x+e)) else []
def thrX (bs:List Crs) (L e x:Int):List Int:=thrF bs L e (L - x).toNat x
theorem zlG {bs:List Crs} {L e:Int} (he:1≤e):∀ (f g:Nat) (x:Int),(L - x).toNat≤f→(L - x).toNat≤g→thrF bs L e f x=thrF bs L e g x
 | 0,0,_,_,_=>rfl
 | 0,g+1,x,hf,_=>by rw [thrF,thrF,if_neg (by omega)]
 | f+1,0,x,_,hg=>by rw [thrF,thrF,if_neg (by omega)]
 | f+1,g+1,x,hf,hg=>by
  rw [thrF,thrF]
  by_cases hx:x < L
  ·rw [if_pos hx,if_pos hx,zlG he f g (x+e) (by omega) (by omega)]
  ·rw [if_neg hx,if_neg hx]
theorem zlH {bs:List Crs} {L e x:Int} (he:1≤e) (hx:x < L):thrX bs L e x=if thrT bs x=true then x :: thrX bs L e (x+e) else thrX bs L e (x+e):=by
 unfold thrX
 obtain⟨f,hf⟩:∃ f,(L - x).toNat=f+1:=⟨(L - x).toNat - 1,by omega⟩
 rw [hf,thrF,if_pos hx,zlG he f ((L - (x+e)).toNat) (x+e) (by omega) (Nat.le_refl _)]
theorem znW {bs:List Crs} {L e x:Int} (hx:¬ x < L):thrX bs L e x=[]:=by
 unfold thrX
 rw [show(L - x).toNat=0 from by omega]; rfl
def thrI (s:Sht):Int:=zbJ (fun c:Crs=>decide (s.at_≤c.frm)) (zaj s)
def zi3 (s:Sht):Bool:=decide (s.every=0)||decide (thrI s < 0)
def zi2 (s:Sht):Int:=if zi3 s=true then -1 else thrI s
def thrL (v:Wll) (s:Sht):List Int:=if zi3 s=true then [] else thrX (zbg v ((zaj s).getD (thrI s).toNat default)) v.length s.every (s.every.tdiv 2)
def sumB (f:Crs→Int) (bs:List Crs):Int:=(bs.map f).sum
theorem zft (f:Crs→Int) (b:Crs) (r:List Crs):sumB f (b :: r)=f b+sumB f r:=by unfold sumB; rw [List.map_cons,List.sum_cons]
def zcY (s:Sht) (c:Crs):Int:=min (2*s.skin) (zb5 s c.frm)
def zct (s:Sht) (c:Crs):Int:=max (zb5 s c.frm - 2*s.skin) 0
def zcw (c b:Crs):Int:=(b.to - b.frm)*(c.to - c.frm)
def zh0 (v:Wll) (s:Sht) (c:Crs):Int:=sumB (fun b=>zcw c b*zcY s c) (zbg v c)
def zfi (v:Wll) (s:Sht) (c:Crs):Int:=sumB (fun b=>zcw c b*zct s c) (zbg v c)
def zcJ (v:Wll) (s:Sht):Int:=sumB (zh0 v s) (zaj s)
def zca (v:Wll) (s:Sht):Int:=sumB (zfi v s) (zaj s)
def zdl (v:Wll) (s:Sht):Int:=v.length*s.footing*(s.base+2*s.spread)
def topF (s:Sht) (c:Cpe):Int:=c.width*c.high*zb5 s s.height
def topL (v:Wll) (s:Sht):Int:=((zbi v s).map (topF s)).sum
def zlt (v:Wll) (s:Sht):Int:=(100*v.length).tdiv s.rood
structure Qnt where
 face:Int
 heart:Int
 foot:Int
 top:Int
 throughs:Int
 copes:Int
 roods:Int
def zdz (v:Wll) (s:Sht):Qnt:=⟨zcJ v s,zca v s,zdl v s,topL v s,(thrL v s).length,(zbi v s).length,zlt v s⟩
end Go.Pln
namespace Go.Proofs
open Go.Shelf
def Tryz.sortOp_ren:Go.Shelf.Ren:=⟨fun | 6=>155 | 15=>174 | 14=>173 | 28=>191 | 29=>176 | 20=>183 | 21=>184 | 22=>185 | 23=>186 | 24=>187 | 25=>188 | 26=>189 | 27=>190 | 46=>196 | 47=>197 | 48=>198 | 49=>199 | 50=>200 | 57=>201 | n=>n,fun | 22=>92 | 24=>98 | 25=>216 | 3=>3 | 39=>90 | 0=>0 | 53=>234 | 55=>226 | 4=>4 | 46=>261 | 45=>260 | 50=>169 | 5=>5 | 9=>9 | 66=>271 | 70=>186 | 76=>278 | 77=>214 | n=>n,fun | n=>n⟩
theorem Tryz.sortOp:Go.Proofs.SlLaysF0.n6 Tryz.prog Tryz.sortOp_ren:={
 mixed:=by kernel_rfl
 f6:=⟨Tryz.f155.name,by decide,Tryz.func155.trans (congrArg some (by kernel_rfl))⟩
 f14:=⟨Tryz.f173.name,by decide,Tryz.func173.trans (congrArg some (by kernel_rfl))⟩
 f15:=Tryz.func174.trans (congrArg some (by kernel_rfl))
 f20:=⟨Tryz.f183.name,by decide,Tryz.func183.trans (congrArg some (by kernel_rfl))⟩
 f21:=⟨Tryz.f184.name,by decide,Tryz.func184.trans (congrArg some (by kernel_rfl))⟩
 f22:=⟨Tryz.f185.name,by decide,Tryz.func185.trans (congrArg some (by kernel_rfl))⟩
 f23:=⟨Tryz.f186.name,by decide,Tryz.func186.trans (congrArg some (by kernel_rfl))⟩
 f24:=⟨Tryz.f187.name,by decide,Tryz.func187.trans (congrArg some (by kernel_rfl))⟩
 f25:=⟨Tryz.f188.name,by decide,Tryz.func188.trans (congrArg some (by kernel_rfl))⟩
 f26:=⟨Tryz.f189.name,by decide,Tryz.func189.trans (congrArg some (by kernel_rfl))⟩
 f27:=⟨Tryz.f190.name,by decide,Tryz.func190.trans (congrArg some (by kernel_rfl))⟩
 f28:=Tryz.func191.trans (congrArg some (by kernel_rfl))
 f29:=Tryz.func176.trans (congrArg some (by kernel_rfl))
 f46:=⟨Tryz.f196.name,by decide,Tryz.func196.trans (congrArg some (by kernel_rfl))⟩
 f47:=Tryz.func197.trans (congrArg some (by kernel_rfl))
 f48:=Tryz.func198.trans (congrArg some (by kernel_rfl))
 f49:=⟨Tryz.f199.name,by decide,Tryz.func199.trans (congrArg some (by kernel_rfl))⟩
 f50:=⟨Tryz.f200.name,by decide,Tryz.func200.trans (congrArg some (by kernel_rfl))⟩
 f57:=⟨Tryz.f201.name,by decide,Tryz.func201.trans (congrArg some (by kernel_rfl))⟩
 t0:=Tryz.underlying0
 a0:=Tryz.isAgg0
 z0:=Tryz.sizeOf0
 v0:=Tryz.zeroValue0
 t3:=Tryz.underlying3
 a3:=Tryz.isAgg3
 z3:=Tryz.sizeOf3
 v3:=Tryz.zeroValue3
 t4:=Tryz.underlying4
 a4:=Tryz.isAgg4
 z4:=Tryz.sizeOf4
 v4:=Tryz.zeroValue4
 t5:=Tryz.underlying5
 a5:=Tryz.isAgg5
 z5:=Tryz.sizeOf5
 v5:=Tryz.zeroValue5
 t9:=Tryz.underlying9
 a9:=Tryz.isAgg9
 z9:=Tryz.sizeOf9
 v9:=Tryz.zeroValue9
 t22:=Tryz.underlying92
 a22:=Tryz.isAgg92
 z22:=Tryz.sizeOf92
 v22:=Tryz.zeroValue92
 t25:=Tryz.underlying216
 a25:=Tryz.isAgg216
 z25:=Tryz.sizeOf216
 v25:=Tryz.zeroValue216
 t39:=Tryz.underlying90
 a39:=Tryz.isAgg90
 z39:=Tryz.sizeOf90
 v39:=Tryz.zeroValue90
 t45:=Tryz.underlying260
 a45:=Tryz.isAgg260
 z45:=Tryz.sizeOf260
 v45:=Tryz.zeroValue260
 t46:=Tryz.underlying261
 a46:=Tryz.isAgg261
 z46:=Tryz.sizeOf261
 v46:=Tryz.zeroValue261
 t50:=Tryz.underlying169
 a50:=Tryz.isAgg169
 z50:=Tryz.sizeOf169
 v50:=Tryz.zeroValue169
 t53:=Tryz.underlying234
 a53:=Tryz.isAgg234
 z53:=Tryz.sizeOf234
 v53:=Tryz.zeroValue234
 t55:=Tryz.underlying226
 a55:=Tryz.isAgg226
 z55:=Tryz.sizeOf226
 v55:=Tryz.zeroValue226
 t66:=Tryz.underlying271
 a66:=Tryz.isAgg271
 z66:=Tryz.sizeOf271
 v66:=Tryz.zeroValue271
 t70:=Tryz.underlying186
 a70:=Tryz.isAgg186
 z70:=Tryz.sizeOf186
 v70:=Tryz.zeroValue186
 t76:=Tryz.underlying278
 a76:=Tryz.isAgg278
 z76:=Tryz.sizeOf278
 v76:=Tryz.zeroValue278
 t77:=Tryz.underlying214
 a77:=Tryz.isAgg214
 z77:=Tryz.sizeOf214
 v77:=Tryz.zeroValue214 }
end Go.Proofs
namespace Go.Proofs.YtdcfcfhmkfkgmaaGreatDoor
open Go.K Go.Stn Go.Pln Go.RowKit
theorem zuL:TF Tryz.prog 191 false 1 (.nilFunc):=⟨by kernel_rfl,by kernel_rfl⟩
theorem ztH:En Tryz.prog 120:=za7 Tryz.func120 (by kernel_rfl) (by kernel_rfl)
theorem zxh:En Tryz.prog 139:=za7 Tryz.func139 (by kernel_rfl) (by kernel_rfl)
theorem zxj:En Tryz.prog 154:=za7 Tryz.func154 (by kernel_rfl) (by kernel_rfl)
theorem zxk:En Tryz.prog 155:=za7 Tryz.func155 (by kernel_rfl) (by kernel_rfl)
theorem zxm:En Tryz.prog 172:=za7 Tryz.func172 (by kernel_rfl) (by kernel_rfl)
abbrev zke (o:Opn):List Value:=[.agg #[.int .u8 o.kind,.int .i64 o.at_,.int .i64 o.width,.int .i64 o.frm,.int .i64 o.high]]
theorem zrV {l:List Opn} {i:Int} (h0:0≤i) (h:i < (l.length:Int)):(l.map zke)[i.toNat]?=some (zke (l.getD i.toNat default)):=by
 rw [List.getElem?_map,List.getD_eq_getElem?_getD,List.getElem?_eq_getElem (by omega)]; rfl
theorem znC {l:List Opn} {n:Nat} {a:List Value} (h:(l.map zke)[n]?=some a):∃ o,l[n]?=some o∧a=zke o:=by
 rw [List.getElem?_map] at h
 cases e:l[n]? with
 | none=>rw [e] at h; cases h
 | some o=>rw [e] at h; cases h; exact⟨o,rfl,rfl⟩
theorem znD (l:List Opn):∀ a∈l.map zke,a.length=1:=fun a h=>by
 obtain⟨o,_,rfl⟩:=List.mem_map.1 h; rfl
theorem zoz {l:List Opn} {n:Nat} {o:Opn} (h:l[n]?=some o):l.take (n+1)=l.take n++[o]:=by
 rw [List.take_add_one,h]; rfl
set_option maxRecDepth 100000 in
set_option maxHeartbeats 1000000 in
theorem zqR (o:Opn) (w:World)  :
  Calls Tryz.prog 120 #[.agg #[.int .u8 o.kind,.int .i64 o.at_,.int .i64 o.width,.int .i64 o.frm,.int .i64 o.high]] w (Pure (.tuple #[.int .i64 o.at_,.int .i64 (W (o.at_+o.width))]) w):=by
 refine zan (vs:=[_]) Tryz.func120 rfl rfl (Nat.le_of_ble_eq_true rfl) ?_
 refine zac (zaa (zaG rfl rfl (za3 (vs:=[_,_,_,_,_]) rfl rfl) fun b1=>?_))
 refine gA ?_
 refine gA ?_
 refine zag (zae (T':=[(1,_),(2,_),(3,_)]) ⟨rfl,rfl,rfl,trivial⟩ ?_)
 refine zac (zbb 9 (fun _=>mixed) (by kernel_rfl) ?_)
 refine ph_y (zab zhf rfl) ?_
 refine ph_y (zah 0 tf3 rfl rfl rfl) ?_
 refine ph_y (zab zhf rfl) ?_
 refine ph_y (zah 0 tf3 rfl rfl rfl) ?_
 refine ph_y (zab zji rfl) ?_
 refine ph_y (zah 0 tf3 rfl rfl rfl) ?_
 refine ph_y (zfw rfl rfl) ?_
 refine ph_y (zad rfl) ?_
 refine ph_y (zad rfl) ?_
 refine zag (zae (T':=[(2,_),(3,_)]) ⟨rfl,rfl,trivial⟩ ?_)
 refine zaw (zay (zc2 rfl (zau rfl) (zau rfl)) ?_)
 rfl
set_option maxRecDepth 100000 in
set_option maxHeartbeats 1000000 in
theorem zr3 (x y:Opn) (b:Nat) (w:World) (hb:Has w (Box b [.func (.func 120) #[] #[]] 191)) :
  Calls Tryz.prog 138 #[.agg #[.int .u8 x.kind,.int .i64 x.at_,.int .i64 x.width,.int .i64 x.frm,.int .i64 x.high],.agg #[.int .u8 y.kind,.int .i64 y.at_,.int .i64 y.width,.int .i64 y.frm,.int .i64 y.high],.pointer (some ⟨b,0,none⟩)] w (Pure (.int .i64 (cmpI x.at_ y.at_)) w):=by
 refine zan (vs:=[_,_,_]) Tryz.func138 rfl rfl (Nat.le_of_ble_eq_true rfl) ?_
 refine zac (zaa (zaG rfl rfl (za3 (vs:=[_,_,_,_,_]) rfl rfl) fun b3=>?_))
 refine zaG rfl rfl (za3 (vs:=[_,_,_,_,_]) rfl rfl) fun b4=>?_
 refine gA ?_
 refine zag (zae (T':=[(2,_),(3,_),(4,_),(5,_)]) ⟨rfl,rfl,rfl,rfl,trivial⟩ ?_)
 refine zac (zaa (gk_y rfl rfl (zbW zuL rfl (fun _ hw=>zaQ (Rd.has (Has.rd hb) hw) rfl)) ?_))
 refine gQ (zat 1 tf98 rfl rfl (vs:=[_,_,_,_,_]) rfl rfl) ?_
 refine gQ (zde (fs:=[]) (cap:=[]) ztH rfl rfl (fun w hw=>zqR x w)) ?_
 refine gM ?_
 refine gQ (zaB rfl rfl) ?_
 refine gQ (zaB rfl rfl) ?_
 refine gA ?_
 refine gA ?_
 refine zag (zae (T':=[(2,_),(4,_),(5,_),(6,_)]) ⟨rfl,rfl,rfl,rfl,trivial⟩ ?_)
 refine zac (zaa (gk_y rfl rfl (zbW zuL rfl (fun _ hw=>zaQ (Rd.has (Has.rd hb) hw) rfl)) ?_))
 refine gQ (zat 0 tf98 rfl rfl (vs:=[_,_,_,_,_]) rfl rfl) ?_
 refine gQ (zde (fs:=[]) (cap:=[]) ztH rfl rfl (fun w hw=>zqR y w)) ?_
 refine gM ?_
 refine gQ (zaB rfl rfl) ?_
 refine gQ (zaB rfl rfl) ?_
 refine gA ?_
 refine gA ?_
 refine zag (zae (T':=[(5,_),(6,_),(8,_)]) ⟨rfl,rfl,rfl,trivial⟩ ?_)
 refine zac (zaa (gM ?_))
 refine gM ?_
 refine gQ (zaJ zxh rfl (fun w hw=>zo7 _ _ w)) ?_
 refine gA ?_
 refine zag (zae (T':=[(5,_)]) ⟨rfl,trivial⟩ ?_)
 refine zaw (zay (zaC rfl (zau rfl)) ?_)
 rfl
set_option maxRecDepth 100000 in
set_option maxHeartbeats 1000000 in
theorem zqV (l:List Opn) (a:Option Addr) (cap:Nat) (b:Nat) (hs:Small l.length) :
  SeqC Tryz.prog 156 [.pointer (some ⟨b,0,none⟩)] (l.map zke) (fun w=>Has w (Box b [.slice a l.length cap] 92)∧Has w (zaW a 5 zba l)):=by
 intro X J Rl D y w B x0 hB hA h0 hM hy
 refine zby hB hA (vs:=[_,_]) Tryz.func156 rfl rfl (Nat.le_of_ble_eq_true rfl) ?_
 have hmem:∀ {cz:Cx} {Hz:List Res} {xz:X} {pz:Nat} {w':World},Inside (fun k=>k < w.heap.size∧¬ B k) w cz→Hz[pz]?=some (J xz)→Hp cz.U cz.w0 Hz w'→(Has w' (Box b [.slice a l.length cap] 92)∧Has w' (zaW a 5 zba l)):=fun hin hp hw=>by
  obtain⟨B',q1,q2,q3,q4⟩:=zqm hin hp hw
  exact hM _ _ B' q4 q1 q2 q3
 have ins0:=zpY Tryz.prog Tryz.f156.ntmps w B
 refine zac (zaa (gk_y rfl rfl (zbW tf92 rfl (fun _ hw=>zaQ (hmem ins0 (pz:=0) rfl hw).1 rfl)) ?_))
 refine gQ (zaV (Tryz.underlying92) rfl) ?_
 refine gM ?_
 refine zag (zae (T':=[(0,_),(5,_),(6,_),(7,_)]) ⟨rfl,rfl,rfl,rfl,trivial⟩ ?_)
 refine zas ?_
 refine zbf (X:=Int×X) (fun⟨i,x2⟩=>[(0,.func (.yield y) #[] #[]),(5,.slice a l.length cap),(6,.int .i64 (l.length:Int)),(7,.int .i64 i)]) (fun⟨i,x2⟩=>[J x2]) (fun⟨i,x2⟩=>(0≤i∧i≤l.length∧Rl i.toNat x2)) (fun⟨i,x2⟩=>(l.length - i).toNat) (0,x0) ⟨rfl,rfl,rfl,rfl,trivial⟩ rfl ?_ ?_
 ·exact⟨by omega,by omega,h0⟩
 ·rintro ⟨i,x2⟩ hI
  obtain⟨g0,g1,g2⟩:=hI
  refine zac (zaa (gk_y rfl rfl (zbw rfl rfl) ?_))
  refine zag (zae (T':=[(0,_),(5,_),(6,_),(7,_),(8,_)]) ⟨rfl,rfl,rfl,rfl,rfl,trivial⟩ ?_)
  refine zac (zap rfl (fun hc8=>?_) (fun hc8=>?_))
  ·simp only [decide_eq_true_eq] at hc8
   refine zaq (zac (zas ?_))
   refine zac (zaa (gk_y rfl rfl (zaE se92 rfl rfl (fun _ hw=>(hmem ins0 (pz:=0) rfl hw).2) (by omega) (by omega)) ?_))
   refine gQ (zbv (vs:=[_,_,_,_,_]) tf98 rfl (fun _ hw=>(hmem ins0 (pz:=0) rfl hw).2) (by omega) (by omega) rfl) ?_
   refine zaG rfl rfl (zaL tf98 (zs:=[_,_,_,_,_]) rfl) fun b4=>?_
   refine zaA 0 tf98 rfl rfl (vs:=[_,_,_,_,_]) rfl rfl rfl rfl rfl ?_
   refine zag (zae (T':=[(0,_),(4,_),(5,_),(6,_),(7,_)]) ⟨rfl,rfl,rfl,rfl,rfl,trivial⟩ ?_)
   refine zac (zaa (gM ?_))
   refine gQ (zat 0 tf98 rfl rfl (vs:=[_,_,_,_,_]) rfl rfl) ?_
   refine znl 1 ins0 rfl rfl rfl rfl (hy _ _ _ (zrV g0 (by omega)) g2) fun b13 x13 hp13=>?_
   refine gQ (zbR rfl) ?_
   refine zag (zae (T':=[(0,_),(5,_),(6,_),(7,_),(14,_)]) ⟨rfl,rfl,rfl,rfl,rfl,trivial⟩ ?_)
   refine zap rfl (fun hc14=>?_) (fun hc14=>?_)
   ·
    refine zaw (zd9 x13 1 (zcN rfl) rfl rfl (.inr (by have:=hp13; rwa [show b13=false from by simpa using hc14,if_neg Bool.false_ne_true] at this)))
   ·
    refine zaq (zaa (gk_y rfl rfl (zaY rfl rfl (by omega) (by omega)) ?_))
    refine gM ?_
    refine zag (zae (T':=[(0,_),(5,_),(6,_),(7,_)]) ⟨rfl,rfl,rfl,rfl,trivial⟩ ?_)
    refine zaK 0 rfl ?_
    exact za1 (i+1,x13) ⟨rfl,rfl,rfl,rfl,trivial⟩ rfl ⟨by omega,by omega,by have:=hp13; rw [show b13=true from by simpa using hc14,if_pos rfl] at this; rwa [show(i+1).toNat=i.toNat+1 from by omega]⟩ (by simp only []; omega)
  ·simp only [decide_eq_false_iff_not] at hc8
   refine za8 rfl ?_
   refine zd9 x2 0 (zcN rfl) rfl rfl (.inl (by rw [List.length_map]; rwa [show i.toNat=l.length from by omega] at g2))
set_option maxRecDepth 100000 in
set_option maxHeartbeats 1000000 in
theorem zlQ (xs:List Opn) (gg:FuncId) (gcap:List Value) (w:World) (hs:Small xs.length) (M:World→Prop) (hM:∀ w',Ext w w'→M w') (hen:En Tryz.prog gg) (hseq:SeqC Tryz.prog gg gcap (xs.map zke) M) :
  Calls Tryz.prog 172 #[.slice none 0 0,.func (.func gg) #[] gcap.toArray] w (zcU (fun z:Option Addr×Nat=>.slice z.1 xs.length z.2) (fun z=>Row z.1 5 z.2 98 zba xs) w):=by
 refine zan (vs:=[_,_]) Tryz.func172 rfl rfl (Nat.le_of_ble_eq_true rfl) ?_
 refine zac (zaa (zaG rfl rfl (za3 (vs:=[_]) rfl rfl) fun b2=>?_))
 refine gA ?_
 refine zag (zae (T':=[(1,_),(2,_),(4,_)]) ⟨rfl,rfl,rfl,trivial⟩ ?_)
 refine zac (zac (zaa (gM ?_)))
 refine zag (zae (T':=[(2,_),(4,_),(6,_)]) ⟨rfl,rfl,rfl,trivial⟩ ?_)
 refine zas ?_
 refine zbB 98 zba 5 ?_
 refine zae (T':=[(2,_),(4,_),(6,_)]) ⟨rfl,rfl,rfl,trivial⟩ ?_
 refine zk1 (X:=Option Addr×Nat×List Opn) (fun⟨b,bc,m⟩=>[Row b 5 bc 98 zba m,Box b2 [.slice b m.length bc] 92]) (fun n ⟨b,bc,m⟩=>m=xs.take n) (fun⟨b,bc,m⟩=>False) [] (none,0,[]) rfl hen rfl rfl rfl hseq (fun⟨b,bc,m⟩ w hw=>hM _ hw.base.ext0) (znD _) rfl ?_ ?_ ?_ ?_
 ·rintro R1 R2 rl U' w' n ⟨b,bc,m⟩ args hget hR hrd hins hbeg
  obtain⟨o,hp,rfl⟩:=znC hget
  have hlen:m.length≤xs.length:=by rw [hR,List.length_take]; omega
  refine zae (T':=[(2,_),(7,_)]) ⟨rfl,rfl,trivial⟩ ?_
  refine zaa (zaG rfl rfl (zaL tf98 (zs:=[_,_,_,_,_]) rfl) fun b5=>?_)
  refine zaA 0 tf98 rfl rfl (vs:=[_,_,_,_,_]) rfl rfl rfl rfl rfl ?_
  refine zag (zae (T':=[(2,_),(5,_)]) ⟨rfl,rfl,trivial⟩ ?_)
  refine zao 1 rfl ?_
  refine hbeg _ _ _ ?_
  refine zas ?_
  refine zaa (gk_y rfl rfl (zah 3 tf92 rfl rfl rfl) ?_)
  refine gQ (zat 1 tf98 rfl rfl (vs:=[_,_,_,_,_]) rfl rfl) ?_
  refine zaG rfl rfl (zaD rfl (zo2 _ _ _ _ _) encOpn_ok rfl) fun b10=>?_
  refine zb4 (m:=[o]) 3 af92 encOpn_ok rfl rfl rfl rfl (fun _ hw=>(zam encOpn_ok (hw.has (p:=0) rfl))) (by first | omega | (simp only [List.length_cons,List.length_nil]; omega)) (by first | (unfold maxLen; omega) | (simp only [List.length_cons,List.length_nil,maxLen]; omega)) fun a11 c11=>?_
  refine zaA 4 tf92 rfl rfl (vs:=[_]) rfl rfl rfl rfl rfl ?_
  refine zag (zae (T':=[]) trivial ?_)
  refine zaK 0 rfl ?_
  refine zaK 1 rfl ?_
  exact zb9 (a11,c11,_) trivial rfl (by rw [zoz hp,←hR])
 ·rintro Dm ⟨b,bc,m⟩ hR
  obtain rfl:m=xs:=by rw [hR]; simp
  refine zac (zaa (gk_y rfl rfl (zah 2 tf92 rfl rfl rfl) ?_))
  refine gA ?_
  refine zag (zae (T':=[(4,_)]) ⟨rfl,trivial⟩ ?_)
  refine zaw (zil 0 rfl ?_)
  refine zbd (b,bc) 0 (zaC rfl (zau rfl)) ?_ rfl
  rfl
 ·exact fun _ _ h=>h.elim
 ·exact fun _ _ _ _ h=>absurd h (by simp)
set_option maxRecDepth 100000 in
set_option maxHeartbeats 1000000 in
theorem zo6 (xs:List Opn) (gg:FuncId) (gcap:List Value) (w:World) (hs:Small xs.length) (M:World→Prop) (hM:∀ w',Ext w w'→M w') (hen:En Tryz.prog gg) (hseq:SeqC Tryz.prog gg gcap (xs.map zke) M) :
  Calls Tryz.prog 154 #[.func (.func gg) #[] gcap.toArray] w (zcU (fun z:Option Addr×Nat=>.slice z.1 xs.length z.2) (fun z=>Row z.1 5 z.2 98 zba xs) w):=by
 refine zan (vs:=[_]) Tryz.func154 rfl rfl (Nat.le_of_ble_eq_true rfl) ?_
 refine zac (zaa (gA ?_))
 refine zag (zae (T':=[(0,_),(2,_)]) ⟨rfl,rfl,trivial⟩ ?_)
 refine zac (zaa (gM ?_))
 refine zaG rfl rfl (zbm zxm rfl (fun w hw=>zlQ xs _ _ w (by assumption) M (fun w' hx=>hM w' (hw.base.ext0.trans hx)) hen hseq)) fun p4=>?_
 refine gA ?_
 refine zag (zae (T':=[(2,_)]) ⟨rfl,trivial⟩ ?_)
 refine zaw (zbd p4 0 (zaC rfl (zau rfl)) ?_ rfl)
 rfl
theorem zwg {w w':World} {B:Nat→Prop} {R:Res} (h:Rd (fun k=>k < w.heap.size∧¬ B k) w R) (hm:Mod B w w'):Has w' R:=by
 obtain⟨C,hC,hA⟩:=h
 exact⟨C,fun k hk=>Nat.lt_of_lt_of_le (hC k hk).1 hm.size,R.loc C w w' (fun k hk=>hm.same k (hC k hk).1 (hC k hk).2) hA⟩
def Ord (xs m:List Opn):Prop:=m.Perm xs∧m.Pairwise fun x y=>x.at_≤y.at_
theorem zsk (a:Option Addr) (cap:Nat) (l:List Opn) (w:World) (B:Nat→Prop) (hB:∀ i,B i→i < w.heap.size) (hA:(Row a 5 cap 98 zba l).A B w) (hs:l.length < 4611686018427387904) (cg:FuncId) (ccap:List Value) (hcg:En Tryz.prog cg) (R:Res) (hS:Rd (fun k=>k < w.heap.size∧¬ B k) w R) (hcc:∀ x y w',Has w' R→Calls Tryz.prog cg (#[.agg (zba x).toArray,.agg (zba y).toArray]++ccap.toArray) w' (Pure (.int .i64 (cmpI x.at_ y.at_)) w')) :
  Calls Tryz.prog 155 #[.slice a l.length cap,.func (.func cg) #[] ccap.toArray] w (zho (fun _:List Opn=>.tuple #[]) (fun m=>Row a 5 cap 98 zba m) (Ord l) B w):=by
 have aE:∀ w,(isAgg (Tryz.sortOp_ren.t 24)).run Tryz.prog w=.ok true w:=fun w=>TF.agg tf98
 have zE:∀ w,(Go.sizeOf (Tryz.sortOp_ren.t 24)).run Tryz.prog w=.ok 5 w:=fun w=>TF.size tf98
 have hlt:∀ x y:Opn,Go.Proofs.ltOf (fun x y:Opn=>cmpI x.at_ y.at_) x y=decide (x.at_ < y.at_):=fun x y=>by
  unfold Go.Proofs.ltOf
  rw [decide_eq_decide]
  show cmpI x.at_ y.at_ < 0↔_
  unfold cmpI
  split
  ·omega
  ·split <;> omega
 refine(zoy Tryz.sortOp aE zE encOpn_ok (by decide) (fun x v hv=>zg0 (List.all_eq_true.1 (encOpn_ok.one x) v hv)) (fun x y:Opn=>cmpI x.at_ y.at_)
  ⟨fun x=>by rw [hlt,decide_eq_false_iff_not]; omega,fun x y z=>by simp only [hlt,decide_eq_true_eq]; omega,fun x y z=>by simp only [hlt,decide_eq_false_iff_not]; omega⟩ cg ccap hcg (fun x y w' hm=>hcc x y w' (zwg hS hm)) hB hA hs).mono ?_
 rintro e w' ⟨m,B',h1,⟨h2,h3⟩,h4,h5,h6⟩
 exact⟨m,B',h1,⟨h2,h3.imp fun {x y} h=>by rw [hlt,decide_eq_false_iff_not] at h; omega⟩,h4,h5,h6⟩
set_option maxRecDepth 100000 in
set_option maxHeartbeats 1000000 in
theorem zqQ (xs:List Opn) (gg:FuncId) (gcap:List Value) (cg:FuncId) (ccap:List Value) (hcg:En Tryz.prog cg) (R:Res) (w:World) (hs:Small xs.length) (M:World→Prop) (hM:∀ w',Ext w w'→M w') (hen:En Tryz.prog gg) (hseq:SeqC Tryz.prog gg gcap (xs.map zke) M) (hS:Has w R) (hcc:∀ x y w',Has w' R→Calls Tryz.prog cg (#[.agg (zba x).toArray,.agg (zba y).toArray]++ccap.toArray) w' (Pure (.int .i64 (cmpI x.at_ y.at_)) w')) :
  Calls Tryz.prog 136 #[.func (.func gg) #[] gcap.toArray,.func (.func cg) #[] ccap.toArray] w (zcU (fun z:{z:Option Addr×Nat×List Opn // Ord xs z.2.2}=>.slice z.1.1 z.1.2.2.length z.1.2.1) (fun z=>Row z.1.1 5 z.1.2.1 98 zba z.1.2.2) w):=by
 refine zan (vs:=[_,_]) Tryz.func136 rfl rfl (Nat.le_of_ble_eq_true rfl) ?_
 refine zac (zaa (gA ?_))
 refine zag (zae (T':=[(0,_),(1,_),(4,_)]) ⟨rfl,rfl,rfl,trivial⟩ ?_)
 refine zac (zaa (gM ?_))
 refine zaG rfl rfl (zbm zxj rfl (fun w hw=>zo6 xs _ _ w (by assumption) M (fun w' hx=>hM w' (hw.base.ext0.trans hx)) hen hseq)) fun p7=>?_
 refine gA ?_
 refine zag (zae (T':=[(1,_),(4,_),(5,_)]) ⟨rfl,rfl,rfl,trivial⟩ ?_)
 refine zac (zaa (gM ?_))
 refine gM ?_
 refine zjY 0 zxk rfl rfl rfl (fun w B hF=>zsk _ _ xs w B (fun k hk=>(hF.own k hk).2) hF.A (by unfold Small at hs; omega) cg ccap hcg R (hF.rd (Has.rd hS)) hcc) fun m10 hq10=>?_
 refine zag (zae (T':=[(4,_),(5,_)]) ⟨rfl,rfl,trivial⟩ ?_)
 refine zac (zaa (gM ?_))
 refine gA ?_
 refine zag (zae (T':=[(4,_)]) ⟨rfl,trivial⟩ ?_)
 refine zaw (zbd ⟨(p7.1,p7.2,m10),hq10⟩ 0 (zaC rfl (zau rfl)) ?_ rfl)
 show Value.slice p7.1 xs.length p7.2=Value.slice p7.1 m10.length p7.2
 rw [hq10.1.length_eq]
end Go.Proofs.YtdcfcfhmkfkgmaaGreatDoor
namespace Go.Proofs.YtdcfcfhmkfkgmaaGreatDoor
open Go.K Go.Stn Go.Pln Go.RowKit
theorem tf59:TF Tryz.prog 59 false 1 (.slice none 0 0):=⟨by kernel_rfl,by kernel_rfl⟩
theorem af59:AF Tryz.prog 59 69 2 16 [.int IntKind.i64 0,.int IntKind.i64 0]:=⟨Tryz.underlying59,by kernel_rfl,rfl⟩
theorem zxe:En Tryz.prog 136:=za7 Tryz.func136 (by kernel_rfl) (by kernel_rfl)
theorem zxf:En Tryz.prog 137:=za7 Tryz.func137 (by kernel_rfl) (by kernel_rfl)
theorem zxg:En Tryz.prog 138:=za7 Tryz.func138 (by kernel_rfl) (by kernel_rfl)
theorem zvT:En Tryz.prog 140:=za7 Tryz.func140 (by kernel_rfl) (by kernel_rfl)
theorem zxl:En Tryz.prog 156:=za7 Tryz.func156 (by kernel_rfl) (by kernel_rfl)
theorem zi7 (x0:Int) (x1:Int) (w:World):(Instr.build 69 #[(0,.int .i64 x0),(1,.int .i64 x1)]).run Tryz.prog w=.ok (.agg #[.int .i64 x0,.int .i64 x1]) w:=by kernel_rfl
theorem zvc (x0_0:Int) (x0_1:Int) (w:World):(Instr.buildSlice 59 1 #[(0,.agg #[.int .i64 x0_0,.int .i64 x0_1])]).run Tryz.prog w=.ok (.slice (some ⟨w.heap.size,0,none⟩) 1 1) (w.alloc (.cells (([⟨x0_0,x0_1⟩]:List (Crs)).flatMap zbq).toArray 69)):=by kernel_rfl
set_option maxRecDepth 100000 in
set_option maxHeartbeats 1000000 in
theorem znE (p q:Nat) (a:Int) (m:List Crs) (t:Int) (w:World) (B:Nat→Prop) (hB:∀ k,B k→k < w.heap.size) (hA:(SwR 3 59 69 p q a m).A B w) (hm:m.length≤100000) :
  Calls Tryz.prog 140 #[.int .i64 t,.pointer (some ⟨p,0,none⟩),.pointer (some ⟨q,0,none⟩)] w (zho (fun _:Unit=>.tuple #[]) (fun _=>SwR 3 59 69 p q a (swM a t m)) (fun _=>True) B w):=by
 refine zby hB hA (vs:=[_,_,_]) Tryz.func140 rfl rfl (Nat.le_of_ble_eq_true rfl) ?_
 refine zii fun ra1 rc1=>?_
 refine zac (zaa (gM ?_))
 refine gQ (zah 0 tf3 rfl rfl rfl) ?_
 refine gQ (zc6 rfl rfl) ?_
 refine zag (zae (T':=[(0,_),(1,_),(2,_),(6,_)]) ⟨rfl,rfl,rfl,rfl,trivial⟩ ?_)
 refine zap rfl (fun hc6=>?_) (fun hc6=>?_)
 ·
  refine zaa (gk_y rfl rfl (zah 1 tf59 rfl rfl rfl) ?_)
  refine gQ (zah 0 tf3 rfl rfl rfl) ?_
  refine gM ?_
  refine gQ (zaI rfl (zi7 _ _)) ?_
  refine zaG rfl rfl (zaD rfl (zvc _ _) zax rfl) fun b11=>?_
  refine zb4 (m:=[(⟨a,t⟩:Crs)]) 3 af59 zax rfl rfl rfl rfl (fun _ hw=>(zam zax (hw.has (p:=0) rfl))) (by first | omega | (simp only [List.length_cons,List.length_nil]; omega)) (by first | (unfold maxLen; omega) | (simp only [List.length_cons,List.length_nil,maxLen]; omega)) fun a12 c12=>?_
  refine zaA 2 tf59 rfl rfl (vs:=[_]) rfl rfl rfl rfl rfl ?_
  refine zag (zae (T':=[]) trivial ?_)
  refine zao 3 rfl ?_
  refine zao 3 rfl ?_
  refine zao 3 rfl ?_
  refine zfF (a:=a) ?_
  exact zd9 () 0 (zcN rfl) rfl (by rw [←zwm hc6]; rfl) trivial
 ·
  refine zaq (zao 2 rfl ?_)
  refine zao 2 rfl ?_
  refine zao 2 rfl ?_
  refine zfF (a:=a) ?_
  exact zd9 () 0 (zcN rfl) rfl (by rw [←zxB hc6]; rfl) trivial
set_option maxRecDepth 100000 in
set_option maxHeartbeats 1000000 in
theorem zsr (a:Option Addr) (cap:Nat) (l:List Opn) (w:World)  :
  Calls Tryz.prog 137 #[.slice a l.length cap] w (zcU (fun b:Nat=>.func (.func 156) #[] #[.pointer (some ⟨b,0,none⟩)]) (fun b=>Box b [.slice a l.length cap] 92) w):=by
 refine zan (vs:=[_]) Tryz.func137 rfl rfl (Nat.le_of_ble_eq_true rfl) ?_
 refine zac (zaa (zaG rfl rfl (za3 (vs:=[_]) rfl rfl) fun b1=>?_))
 refine gA ?_
 refine zag (zae (T':=[(1,_),(2,_)]) ⟨rfl,rfl,trivial⟩ ?_)
 refine zac (zaa (gk_y rfl rfl (zbO («as»:=[]) (bs:=[_]) rfl rfl) ?_))
 refine gA ?_
 refine zag (zae (T':=[(2,_)]) ⟨rfl,trivial⟩ ?_)
 refine zaw (zbd b1 0 (zaC rfl (zau rfl)) ?_ rfl)
 rfl
set_option maxRecDepth 100000 in
set_option maxHeartbeats 4000000 in
theorem zut (L:Int) (a:Option Addr) (cap:Nat) (l:List Opn) (w:World) (hl:Has w (zaW a 5 zba l)) (hs:Small l.length) (hL0:0≤L) (hL:L≤100000) (hw:InW l L) :
  Calls Tryz.prog 119 #[.int .i64 L,.slice a l.length cap,.func (.func 120) #[] #[]] w (zcU (fun z:Option Addr×Nat=>.slice z.1 (bayL (zcH l) L).length z.2) (fun z=>Row z.1 2 z.2 69 zbq (bayL (zcH l) L)) w):=by
 have hwin:=hw
 refine zan (vs:=[_,_,_]) Tryz.func119 rfl rfl (Nat.le_of_ble_eq_true rfl) ?_
 refine zac (zaa (zaG rfl rfl (za3 (vs:=[_]) rfl rfl) fun b5=>?_))
 refine gA ?_
 refine zag (zae (T':=[(0,_),(1,_),(5,_),(6,_)]) ⟨rfl,rfl,rfl,rfl,trivial⟩ ?_)
 refine zac (zaa (gM ?_))
 refine zaG rfl rfl (zbm zxf rfl (fun w hw=>zsr _ _ l w)) fun p15=>?_
 refine gQ (zbO («as»:=[]) (bs:=[_]) rfl rfl) ?_
 refine zaG rfl rfl (zbm zxe rfl (fun w hw=>zqQ l 156 _ 138 _ zxg (Box b5 [.func (.func 120) #[] #[]] 191) w (by assumption) (fun w'=>Has w' (Box p15 [.slice a l.length cap] 92)∧Has w' (zaW a 5 zba l)) (fun w' hx=>⟨Has.ext (hw.has (p:=0) rfl) hx,Has.ext (Rd.has (Has.rd hl) hw) hx⟩) zxl (zqV l a cap p15 (by assumption)) (hw.has (p:=1) rfl) (fun x y w' hb=>zr3 x y b5 w' hb))) fun p17=>?_
 refine gA ?_
 refine zag (zae (T':=[(0,_),(1,_),(5,_),(6,_)]) ⟨rfl,rfl,rfl,rfl,trivial⟩ ?_)
 have hwz:InW p17.1.2.2 L:=fun o ho=>hwin o (p17.2.1.mem_iff.1 ho)
 have hsz:=p17.2.2
 have hlz:p17.1.2.2.length=l.length:=p17.2.1.length_eq
 refine zac (zaa (zaG rfl rfl (zaL tf59 (zs:=[_]) rfl) fun b7=>?_))
 refine zag (zae (T':=[(0,_),(1,_),(5,_),(6,_),(7,_)]) ⟨rfl,rfl,rfl,rfl,rfl,trivial⟩ ?_)
 refine zac (zaa (zaG rfl rfl (zaL tf3 (zs:=[_]) rfl) fun b8=>?_))
 refine zaA 0 tf3 rfl rfl (vs:=[_]) rfl rfl rfl rfl rfl ?_
 refine zag (zae (T':=[(0,_),(1,_),(5,_),(6,_),(7,_),(8,_)]) ⟨rfl,rfl,rfl,rfl,rfl,rfl,trivial⟩ ?_)
 refine zac (zaa (gk_y rfl rfl (zbO («as»:=[]) (bs:=[_,_]) rfl rfl) ?_))
 refine gA ?_
 refine zag (zae (T':=[(0,_),(1,_),(5,_),(6,_),(7,_),(8,_),(9,_)]) ⟨rfl,rfl,rfl,rfl,rfl,rfl,rfl,trivial⟩ ?_)
 refine zac (zac (zaa (gM ?_)))
 refine gQ (zaV (Tryz.underlying92) rfl) ?_
 refine gM ?_
 refine zag (zae (T':=[(0,_),(5,_),(6,_),(7,_),(8,_),(9,_),(19,_),(20,_),(21,_)]) ⟨rfl,rfl,rfl,rfl,rfl,rfl,rfl,rfl,rfl,trivial⟩ ?_)
 refine zbB 69 zbq 2 ?_
 refine zao 2 rfl ?_
 refine zao 2 rfl ?_
 refine zfF (a:=0) (m:=[]) ?_
 refine zas ?_
 refine zbf (X:=Int×Int×List Crs) (fun⟨i,a2,m⟩=>[(0,.int .i64 L),(5,.pointer (some ⟨b5,0,none⟩)),(6,.slice none 0 0),(7,.pointer (some ⟨b7,0,none⟩)),(8,.pointer (some ⟨b8,0,none⟩)),(9,.func (.func 140) #[] #[.pointer (some ⟨b8,0,none⟩),.pointer (some ⟨b7,0,none⟩)]),(19,.slice p17.1.1 p17.1.2.2.length p17.1.2.1),(20,.int .i64 (p17.1.2.2.length:Int)),(21,.int .i64 i)]) (fun⟨i,a2,m⟩=>[SwR 3 59 69 b8 b7 a2 m,Row p17.1.1 5 p17.1.2.1 98 zba p17.1.2.2,Box p15 [.slice a l.length cap] 92,Box b5 [.func (.func 120) #[] #[]] 191]) (fun⟨i,a2,m⟩=>(0≤i∧i≤p17.1.2.2.length∧SwI p17.1.2.2 L i.toNat a2 m)) (fun⟨i,a2,m⟩=>(p17.1.2.2.length - i).toNat) (0,0,[]) ⟨rfl,rfl,rfl,rfl,rfl,rfl,rfl,rfl,rfl,trivial⟩ rfl ?_ ?_
 ·exact⟨by omega,by omega,zsl _ hL0⟩
 ·rintro ⟨i,a2,m⟩ hI
  obtain⟨g0,g1,g2⟩:=hI
  have hml:=g2.many
  refine zac (zaa (gk_y rfl rfl (zbw rfl rfl) ?_))
  refine zag (zae (T':=[(0,_),(5,_),(6,_),(7,_),(8,_),(9,_),(19,_),(20,_),(21,_),(22,_)]) ⟨rfl,rfl,rfl,rfl,rfl,rfl,rfl,rfl,rfl,rfl,trivial⟩ ?_)
  refine zac (zap rfl (fun hc22=>?_) (fun hc22=>?_))
  ·have hc22:=of_decide_eq_true hc22
   obtain⟨q1,q2,q3⟩:=hwz (p17.1.2.2.getD i.toNat default) (za0 (by omega))
   refine zaq (zac (zas ?_))
   refine zac (zaa (gk_y rfl rfl (zaE se92 rfl rfl (fun _ hw=>(zam encOpn_ok (hw.has (p:=1) rfl))) (by omega) (by omega)) ?_))
   refine gQ (zbv (vs:=[_,_,_,_,_]) tf98 rfl (fun _ hw=>(zam encOpn_ok (hw.has (p:=1) rfl))) (by omega) (by omega) rfl) ?_
   refine zaG rfl rfl (zaL tf98 (zs:=[_,_,_,_,_]) rfl) fun b11=>?_
   refine zaA 0 tf98 rfl rfl (vs:=[_,_,_,_,_]) rfl rfl rfl rfl rfl ?_
   refine zag (zae (T':=[(0,_),(5,_),(6,_),(7,_),(8,_),(9,_),(11,_),(19,_),(20,_),(21,_)]) ⟨rfl,rfl,rfl,rfl,rfl,rfl,rfl,rfl,rfl,rfl,trivial⟩ ?_)
   refine zac (zaa (gk_y rfl rfl (zah 4 zuL rfl rfl rfl) ?_))
   refine gQ (zat 0 tf98 rfl rfl (vs:=[_,_,_,_,_]) rfl rfl) ?_
   refine gQ (zde (fs:=[]) (cap:=[]) ztH rfl rfl (fun w hw=>zqR (p17.1.2.2.getD (i).toNat default) w)) ?_
   refine gM ?_
   refine gQ (zaB rfl rfl) ?_
   refine gQ (zaB rfl rfl) ?_
   refine gA ?_
   refine gA ?_
   refine zag (zae (T':=[(0,_),(5,_),(6,_),(7,_),(8,_),(9,_),(12,_),(13,_),(19,_),(20,_),(21,_)]) ⟨rfl,rfl,rfl,rfl,rfl,rfl,rfl,rfl,rfl,rfl,rfl,trivial⟩ ?_)
   refine zae (T':=[(0,_),(5,_),(6,_),(7,_),(8,_),(9,_),(12,_),(13,.int .i64 ((p17.1.2.2.getD i.toNat default).at_+(p17.1.2.2.getD i.toNat default).width)),(19,_),(20,_),(21,_)]) ⟨rfl,rfl,rfl,rfl,rfl,rfl,rfl,(by show some (Value.int .i64 (W ((p17.1.2.2.getD i.toNat default).at_+(p17.1.2.2.getD i.toNat default).width)))=_; rw [zbr (by omega) (by omega)]),rfl,rfl,rfl,trivial⟩ ?_
   refine zac (zaa (gM ?_))
   refine gM ?_
   refine zkZ (fs:=[]) (cap:=[_,_]) 1 zvT rfl rfl rfl rfl (fun w B hF=>znE _ _ _ _ _ w B (fun k hk=>(hF.own k hk).2) hF.A (by omega)) fun u33 hq33=>?_
   refine zag (zae (T':=[(0,_),(5,_),(6,_),(7,_),(8,_),(9,_),(13,_),(19,_),(20,_),(21,_)]) ⟨rfl,rfl,rfl,rfl,rfl,rfl,rfl,rfl,rfl,rfl,trivial⟩ ?_)
   refine zao 1 rfl ?_
   refine zii fun ra2 rc2=>?_
   refine zaa (gk_y rfl rfl (zah 0 tf3 rfl rfl rfl) ?_)
   refine gM ?_
   refine gQ (zws rfl rfl) ?_
   refine zaA 0 tf3 rfl rfl (vs:=[_]) rfl rfl rfl rfl rfl ?_
   refine zag (zae (T':=[(0,_),(5,_),(6,_),(7,_),(8,_),(9,_),(19,_),(20,_),(21,_)]) ⟨rfl,rfl,rfl,rfl,rfl,rfl,rfl,rfl,rfl,trivial⟩ ?_)
   refine zao 2 rfl ?_
   refine zao 2 rfl ?_
   refine zao 2 rfl ?_
   refine zfF (a:=(max a2 ((p17.1.2.2.getD i.toNat default).at_+(p17.1.2.2.getD i.toNat default).width))) (m:=(swM a2 (p17.1.2.2.getD i.toNat default).at_ m)) ?_
   refine zaa (gk_y rfl rfl (zaY rfl rfl (by omega) (by omega)) ?_)
   refine gM ?_
   refine zag (zae (T':=[(0,_),(5,_),(6,_),(7,_),(8,_),(9,_),(19,_),(20,_),(21,_)]) ⟨rfl,rfl,rfl,rfl,rfl,rfl,rfl,rfl,rfl,trivial⟩ ?_)
   refine zaK 1 rfl ?_
   exact za1 (i+1,max a2 ((p17.1.2.2.getD i.toNat default).at_+(p17.1.2.2.getD i.toNat default).width),swM a2 (p17.1.2.2.getD i.toNat default).at_ m) ⟨rfl,rfl,rfl,rfl,rfl,rfl,rfl,rfl,rfl,trivial⟩ rfl ⟨by omega,by omega,by rw [show(i+1).toNat=i.toNat+1 from by omega]; exact zuK hwz hsz g2 (by omega)⟩ (by simp only []; omega)
  ·have hc22:=of_decide_eq_false hc22
   have hend:swM a2 L m=bayL (zcH l) L:=by rw [zwl g2 (by omega),zof p17.2.1]
   refine za8 rfl ?_
   refine zac (zaa (gM ?_))
   refine gM ?_
   refine zkZ (fs:=[]) (cap:=[_,_]) 0 zvT rfl rfl rfl rfl (fun w B hF=>znE _ _ _ _ _ w B (fun k hk=>(hF.own k hk).2) hF.A (by omega)) fun u40 hq40=>?_
   refine zag (zae (T':=[(6,_),(7,_)]) ⟨rfl,rfl,trivial⟩ ?_)
   refine zii fun ra3 rc3=>?_
   refine zac (zaa (gk_y rfl rfl (zah 1 tf59 rfl rfl rfl) ?_))
   refine gA ?_
   refine zag (zae (T':=[(6,_)]) ⟨rfl,trivial⟩ ?_)
   refine zaw (zbd (ra3,rc3) 2 (zaC rfl (zau rfl)) ?_ (by rw [←hend]; rfl))
   rw [←hend]
end Go.Proofs.YtdcfcfhmkfkgmaaGreatDoor
namespace Go.Pln
open Go Go.K Go.RowKit Go.Stn
structure WallF (v:Wll) (top:Int):Prop where
 len:1≤v.length∧v.length≤100000
 num:v.opens.length≤20
 fit:∀ o∈v.opens,zn8 v.length top o
theorem zoC {v:Wll} {top:Int} (h:zd1 top v=true):WallF v top:=by
 have h0:=zqW h
 obtain⟨h1,h2⟩:=zgM h0
 refine⟨h1,h2,fun o ho=>?_⟩
 rw [zgN,Bool.and_eq_true] at h
 obtain⟨i,hi,rfl⟩:=List.getElem_of_mem ho
 have:=zf7 (zdf.1 h.2 i hi)
 simpa [hi] using this
theorem WallF.inW {v:Wll} {top:Int} (h:WallF v top) (p:Opn→Bool):InW (v.opens.filter p) v.length:=fun o ho=>by
 have hf:=h.fit o (List.mem_filter.1 ho).1
 exact⟨hf.a.1,hf.w.1,hf.a.2⟩
theorem zuo {α:Type} (p:α→Bool) (l:List α):offL (fun x=>!p x) l=l.filter p:=by
 unfold offL
 congr 1
 funext x
 rw [Bool.not_not]
def znn (c:Crs) (o:Opn):Bool:=decide (o.frm < c.to)&&decide (c.frm < W (o.frm+o.high))
def zno (h:Int) (o:Opn):Bool:=decide (W (o.frm+o.high)=h)
theorem zhK {v:Wll} {p q:Opn→Bool} (h:∀ o∈v.opens,p o=q o):zcW p v=zcW q v:=by
 unfold zcW
 rw [List.filter_congr h]
theorem zmV {v:Wll} {top:Int} (h:WallF v top) (ht:top≤3000) (c:Crs):zcW (znn c) v=zbg v c:=zhK fun o ho=>by
 have hf:=(h.fit o ho)
 have h1:=hf.h; have h2:=hf.f
 unfold znn zgu
 rw [zbr (by omega) (by omega)]
theorem zjG {v:Wll} {s:Sht} (h:WallF v s.height) (ht:s.height≤3000):zcW (zno s.height) v=zbK v s:=zhK fun o ho=>by
 have hf:=(h.fit o ho)
 have h1:=hf.h; have h2:=hf.f
 unfold zno zj4
 rw [zbr (by omega) (by omega)]
theorem zdK {v:Wll} {top:Int} (h:WallF v top) (p:Opn→Bool):Runs (zcH (v.opens.filter p)) v.length 0 (zcW p v):=zkE _ (by have:=h.len; omega)
theorem zek {v:Wll} {top:Int} (h:WallF v top) (p:Opn→Bool):((zcW p v).length:Int)≤100000:=by
 have h1:=h.len
 have:=zkl (by omega) (zdK h p)
 omega
theorem zmS {v:Wll} {top:Int} (h:WallF v top) {p:Opn→Bool} {i:Int} (h0:0≤i) (h1:i < ((zcW p v).length:Int)):0≤((zcW p v).getD i.toNat default).frm∧((zcW p v).getD i.toNat default).frm < ((zcW p v).getD i.toNat default).to∧((zcW p v).getD i.toNat default).to≤v.length:=by
 obtain⟨a,b,c,_⟩:=zeK (zdK h p) _ (za0 (l:=zcW p v) (i:=i.toNat) (by omega))
 exact⟨a,b,c⟩
def zb6 (S:List ShC) (V:List WlC) (n:ByteArray):Int:=if zc4 S V=true then(if 0≤zaM V n then 0 else 6) else 2
def zhq (V:List WlC) (n:ByteArray):WlC:=if 0≤zaM V n then V.getD (zaM V n).toNat default else default
def zaN (S:List ShC) (V:List WlC) (n:ByteArray):WlC:=if zb6 S V n=0 then zhq V n else default
def zar (S:List ShC) (V:List WlC) (n:ByteArray):ShC:=if zb6 S V n=0 then zav S (zhq V n).s.sheet else default
theorem zm8 {S:List ShC} {V:List WlC} {n:ByteArray} (h:¬ zc4 S V=true):zb6 S V n=2:=if_neg h
theorem zkV {S:List ShC} {V:List WlC} {n:ByteArray} (h:zc4 S V=true) (h2:¬ 0≤zaM V n):zb6 S V n=6:=by unfold zb6; rw [if_pos h,if_neg h2]
theorem zpp {S:List ShC} {V:List WlC} {n:ByteArray} (h:zc4 S V=true) (h2:0≤zaM V n):zb6 S V n=0:=by unfold zb6; rw [if_pos h,if_pos h2]
theorem zjR {S:List ShC} {V:List WlC} {n:ByteArray} (h:zb6 S V n=0):zc4 S V=true∧0≤zaM V n:=by
 unfold zb6 at h
 by_cases h1:zc4 S V=true
 ·rw [if_pos h1] at h
  refine⟨h1,?_⟩
  by_cases h2:0≤zaM V n
  ·exact h2
  ·rw [if_neg h2] at h; exact absurd h (by decide)
 ·rw [if_neg h1] at h; exact absurd h (by decide)
theorem zid {V:List WlC} {n:ByteArray} (h:0≤zaM V n):zhq V n∈V:=by
 unfold zhq
 rw [if_pos h]
 exact za0 (by have:=zky h; omega)
theorem zhF {S:List ShC} {V:List WlC} {n:ByteArray} (h:zb6 S V n=0):zaN S V n=zhq V n:=if_pos h
theorem zhE {S:List ShC} {V:List WlC} {n:ByteArray} (h:zb6 S V n=0):zar S V n=zav S (zhq V n).s.sheet:=if_pos h
theorem zfu {S:List ShC} {V:List WlC} {n:ByteArray} (h:zb6 S V n=0):zaN S V n∈V∧zar S V n∈S∧za4 (zar S V n).s=true∧WallF (zaN S V n).s (zar S V n).s.height:=by
 obtain⟨h1,h2⟩:=zjR h
 rw [zhF h,zhE h]
 obtain⟨h3,h4⟩:=zf8 h1 _ (zid h2)
 exact⟨zid h2,zgp h3,zls h1 _ (zgp h3),zoC h4⟩
end Go.Pln
namespace Go.Pln
open Go Go.K Go.RowKit Go.Stn
def zhJ (S:List ShC) (V:List WlC) (n:ByteArray) (k:Int):Int:=if zb6 S V n=0 then(if k < 0∨((zaj (zar S V n).s).length:Int)≤k then 3 else 0) else zb6 S V n
def ziX (S:List ShC) (V:List WlC) (n:ByteArray) (k:Int):List Crs:=if zhJ S V n k=0 then zbg (zaN S V n).s ((zaj (zar S V n).s).getD k.toNat default) else []
theorem zra {S:List ShC} {V:List WlC} {n:ByteArray} {k:Int} (h:¬ zb6 S V n=0):zhJ S V n k=zb6 S V n∧ziX S V n k=[]:=by
 have h1:zhJ S V n k=zb6 S V n:=if_neg h
 exact⟨h1,by unfold ziX; rw [h1,if_neg h]⟩
theorem zoX {S:List ShC} {V:List WlC} {n:ByteArray} {k:Int} (h:zb6 S V n=0) (hk:k < 0∨((zaj (zar S V n).s).length:Int)≤k):zhJ S V n k=3∧ziX S V n k=[]:=by
 have h1:zhJ S V n k=3:=by unfold zhJ; rw [if_pos h,if_pos hk]
 exact⟨h1,by unfold ziX; rw [h1]; rfl⟩
theorem zmT {S:List ShC} {V:List WlC} {n:ByteArray} {k:Int} (h:zb6 S V n=0) (hk:¬ (k < 0∨((zaj (zar S V n).s).length:Int)≤k)):zhJ S V n k=0∧ziX S V n k=zbg (zaN S V n).s ((zaj (zar S V n).s).getD k.toNat default):=by
 have h1:zhJ S V n k=0:=by unfold zhJ; rw [if_pos h,if_neg hk]
 exact⟨h1,by unfold ziX; rw [h1]; rfl⟩
def ziJ (S:List ShC) (V:List WlC) (n:ByteArray):Int:=if zb6 S V n=0 then zi2 (zar S V n).s else 0
def zei (S:List ShC) (V:List WlC) (n:ByteArray):List Int:=if zb6 S V n=0 then thrL (zaN S V n).s (zar S V n).s else []
def zcF (S:List ShC) (V:List WlC) (n:ByteArray):List Cpe:=if zb6 S V n=0 then zbi (zaN S V n).s (zar S V n).s else []
def zcx (S:List ShC) (V:List WlC) (n:ByteArray):Qnt:=if zb6 S V n=0 then zdz (zaN S V n).s (zar S V n).s else⟨0,0,0,0,0,0,0⟩
end Go.Pln
namespace Go.Pln
open Go Go.K Go.RowKit Go.Stn
theorem zlB {s:Sht} (h:za4 s=true):badP s=false:=by
 unfold za4 at h
 rw [Bool.and_eq_true,Bool.not_eq_true'] at h
 exact h.1
theorem zjQ {s:Sht} (h:za4 s=true) (h1:¬ s.every=0):1≤s.every∧s.every≤100000:=by
 have hb:=zlB h
 unfold badP at hb
 simp only [Bool.or_eq_false_iff,Bool.not_eq_false'] at hb
 have h2:=hb.1.1.1.2
 rw [ziP] at h2
 unfold zgJ at h2
 simp only [Bool.or_eq_true,Bool.and_eq_true,decide_eq_true_eq,zbp] at h2
 omega
theorem zlX {s:Sht} (h:za4 s=true) (h1:¬ s.cope=0):(1≤s.thick∧s.thick≤1000)∧(1≤s.tall∧s.tall≤1000)∧(1≤zdD s∧zdD s≤1000):=by
 have hb:=zlB h
 unfold badP at hb
 simp only [Bool.or_eq_false_iff,Bool.not_eq_false'] at hb
 have h2:=hb.2
 unfold zgh at h2
 rw [if_neg h1] at h2
 unfold zdD
 split at h2
 ·rename_i h3
  simp only [zcC,zdI,Bool.and_true,Bool.and_eq_true,zbp] at h2
  rw [if_neg (by omega)]
  omega
 ·split at h2
  ·rename_i h3
   simp only [zcC,zdI,Bool.and_true,Bool.and_eq_true,zbp] at h2
   rw [if_pos h3]
   omega
  ·cases h2
end Go.Pln
namespace Go.K
open Go
def Two (R S:Res):Res where
 A B w:=∃ C D,(∀ k,C k→B k)∧(∀ k,D k→B k)∧R.A C w∧S.A D w
 loc B w w' h hA:=by
  obtain⟨C,D,hC,hD,a,b⟩:=hA
  exact⟨C,D,hC,hD,R.loc C w w' (fun k hk=>h k (hC k hk)) a,S.loc D w w' (fun k hk=>h k (hD k hk)) b⟩
theorem ztZ {w:World} {R S:Res} (h:Has w (Two R S)):Has w R:=by
 obtain⟨B,hB,C,D,hC,hD,a,b⟩:=h
 exact⟨C,fun k hk=>hB k (hC k hk),a⟩
theorem zt0 {w:World} {R S:Res} (h:Has w (Two R S)):Has w S:=by
 obtain⟨B,hB,C,D,hC,hD,a,b⟩:=h
 exact⟨D,fun k hk=>hB k (hD k hk),b⟩
end Go.K