/- What the proof of the root text leans on, part 4: the layer, plain facts and walks. No statement of the seat is proved in this text. -/
import Derived.Laws.DeepStrings4
import Derived.Lib.AtoiAll
import Derived.Lib.IndexBytes
import Derived.Lib.IndexLaws
import Derived.Lib.ItoaNum
import Derived.Lib.SplitLaws
import Derived.Shelf.Strconv.AtoiAll
import Derived.Shelf.Strings.Cut
import Derived.Shelf.Strings.Split
import Derived.WideLaws
import Derived.Test.YtdcfcfhmkfkgmaaGreatDoorPc3
namespace Go.Proofs.YtdcfcfhmkfkgmaaGreatDoor
open Go.K Go.Stn Go.Pln Go.RowKit
theorem tf22:TF Tryz.prog 22 false 1 (.slice none 0 0):=⟨by kernel_rfl,by kernel_rfl⟩
theorem tf23:TF Tryz.prog 23 false 1 (.slice none 0 0):=⟨by kernel_rfl,by kernel_rfl⟩
theorem tf25:TF Tryz.prog 25 true 2 (.agg #[.slice none 0 0,.slice none 0 0]):=⟨by kernel_rfl,by kernel_rfl⟩
theorem tf63:TF Tryz.prog 63 false 1 (.slice none 0 0):=⟨by kernel_rfl,by kernel_rfl⟩
theorem tf65:TF Tryz.prog 65 true 4 (.agg #[.string ⟨#[]⟩,.string ⟨#[]⟩,.int IntKind.i64 0,.slice none 0 0]):=⟨by kernel_rfl,by kernel_rfl⟩
theorem tf139:TF Tryz.prog 139 true 5 (.agg #[.int IntKind.u8 0,.int IntKind.i64 0,.int IntKind.i64 0,.int IntKind.i64 0,.int IntKind.i64 0]):=⟨by kernel_rfl,by kernel_rfl⟩
theorem fo25_0:FO Tryz.prog 25 0 0:=⟨by kernel_rfl⟩
theorem fo25_1:FO Tryz.prog 25 1 1:=⟨by kernel_rfl⟩
theorem fo65_0:FO Tryz.prog 65 0 0:=⟨by kernel_rfl⟩
theorem fo65_1:FO Tryz.prog 65 1 1:=⟨by kernel_rfl⟩
theorem fo65_2:FO Tryz.prog 65 2 2:=⟨by kernel_rfl⟩
theorem fo65_3:FO Tryz.prog 65 3 3:=⟨by kernel_rfl⟩
theorem fo139_0:FO Tryz.prog 139 0 0:=⟨by kernel_rfl⟩
theorem fo139_1:FO Tryz.prog 139 1 1:=⟨by kernel_rfl⟩
theorem fo139_2:FO Tryz.prog 139 2 2:=⟨by kernel_rfl⟩
theorem fo139_3:FO Tryz.prog 139 3 3:=⟨by kernel_rfl⟩
theorem fo139_4:FO Tryz.prog 139 4 4:=⟨by kernel_rfl⟩
theorem se22:SE Tryz.prog 22 37 20:=⟨Tryz.underlying22,by kernel_rfl⟩
theorem se23:SE Tryz.prog 23 65 4:=⟨Tryz.underlying23,by kernel_rfl⟩
theorem se63:SE Tryz.prog 63 139 5:=⟨Tryz.underlying63,by kernel_rfl⟩
theorem en19:En Tryz.prog 19:=en_of Tryz.func19 (by kernel_rfl) (by kernel_rfl)
theorem en27:En Tryz.prog 27:=en_of Tryz.func27 (by kernel_rfl) (by kernel_rfl)
theorem en41:En Tryz.prog 41:=en_of Tryz.func41 (by kernel_rfl) (by kernel_rfl)
theorem en45:En Tryz.prog 45:=en_of Tryz.func45 (by kernel_rfl) (by kernel_rfl)
set_option maxRecDepth 100000 in
set_option maxHeartbeats 1000000 in
theorem rfindsheet_c (a:Option Addr) (cap:Nat) (S:List ShC) (b:Option Addr) (nw bcap:Nat) (n:ByteArray) (w:World) (hl:Has w (Elems a 20 encSht S)) (hs:Small S.length) :
  Calls Tryz.prog 41 #[.agg #[.slice a S.length cap,.slice b nw bcap],.string n] w (Pure (.int .i64 (sheetI S n)) w):=by
 refine calls_of_gk (vs:=[_,_]) Tryz.func41 rfl rfl (Nat.le_of_ble_eq_true rfl) ?_
 refine gk_seq ?_
 refine gk_region ?_
 refine gk_yx rfl rfl (yx_box (vs:=[_,_]) rfl rfl) fun b2=>?_
 refine gk_y rfl rfl (y_assign rfl) ?_
 refine gk_nil (gk_sub (T':=[(1,_),(2,_),(4,_)]) ⟨rfl,rfl,rfl,trivial⟩ ?_)
 refine gk_seq ?_
 refine gk_seq ?_
 refine gk_region ?_
 refine gk_y rfl rfl (y_assign rfl) ?_
 refine gk_nil (gk_sub (T':=[(1,_),(2,_),(4,_),(5,_)]) ⟨rfl,rfl,rfl,rfl,trivial⟩ ?_)
 refine gk_block ?_
 refine gk_loop (X:=Int) (fun(i:Int)=>[(1,.string n),(2,.pointer (some ⟨b2,0,none⟩)),(4,.int .i64 0),(5,.int .i64 i)]) (fun(i:Int)=>[Box b2 [.slice a S.length cap,.slice b nw bcap] 25]) (fun(i:Int)=>(0≤i∧i≤S.length∧∀ j:Nat,(j:Int) < i→((S.getD j default).s.name.toList == n.toList)=false)) (fun(i:Int)=>(S.length - i).toNat) 0 ⟨rfl,rfl,rfl,rfl,trivial⟩ rfl ?_ ?_
 ·exact⟨by omega,by omega,fun j hj=>by omega⟩
 ·rintro i hI
  obtain⟨g0,g1,g2⟩:=hI
  refine gk_seq ?_
  refine gk_seq ?_
  refine gk_region ?_
  refine gk_y rfl rfl (y_move rfl) ?_
  refine gk_y rfl rfl (y_fieldAddr fo25_0 rfl) ?_
  refine gk_y rfl rfl (y_loadB1 0 tf22 rfl rfl rfl) ?_
  refine gk_y rfl rfl (y_lenS (Tryz.underlying22) rfl) ?_
  refine gk_y rfl rfl (y_lss rfl rfl) ?_
  refine gk_nil (gk_sub (T':=[(1,_),(2,_),(4,_),(5,_),(10,_)]) ⟨rfl,rfl,rfl,rfl,rfl,trivial⟩ ?_)
  refine gk_cond rfl (fun hc10=>?_) (fun hc10=>?_)
  ·simp only [decide_eq_true_eq] at hc10
   refine gk_skip ?_
   refine gk_seq ?_
   refine gk_block ?_
   refine gk_seq ?_
   refine gk_region ?_
   refine gk_y rfl rfl (y_fieldAddr fo25_0 rfl) ?_
   refine gk_y rfl rfl (y_loadB1 0 tf22 rfl rfl rfl) ?_
   refine gk_y rfl rfl (y_move rfl) ?_
   refine gk_y rfl rfl (y_indexE se22 rfl rfl (fun _ hw=>(Rd.has (Has.rd hl) hw)) (by omega) (by omega)) ?_
   refine gk_y rfl rfl (y_fieldE fo37_0 rfl (fun w hw=>elems_addr (i:=i) (Rd.has (Has.rd hl) hw) (by omega) (by omega))) ?_
   refine gk_y rfl rfl (y_loadEF tf9 rfl (fun _ hw=>(Rd.has (Has.rd hl) hw)) (by omega) (by omega) rfl) ?_
   refine gk_y rfl rfl (y_move rfl) ?_
   refine gk_y rfl rfl (y_strEq rfl rfl) ?_
   refine gk_nil (gk_sub (T':=[(1,_),(2,_),(4,_),(5,_),(20,_)]) ⟨rfl,rfl,rfl,rfl,rfl,trivial⟩ ?_)
   refine gk_cond rfl (fun hc20=>?_) (fun hc20=>?_)
   ·
    refine gk_seq ?_
    refine gk_region ?_
    refine gk_y rfl rfl (y_move rfl) ?_
    refine gk_y rfl rfl (y_assign rfl) ?_
    refine gk_nil (gk_sub (T':=[(1,_),(2,_),(4,_),(5,_)]) ⟨rfl,rfl,rfl,rfl,trivial⟩ ?_)
    refine gk_ret ?_
    refine gk_pure (rv_one rfl (r1_tmp rfl)) ?_
    exact congrArg (fun x=>Value.int .i64 x) (findI_hit (p:=fun z:ShC=>z.s.name.toList == n.toList) g0 (by omega) g2 hc20).symm
   ·
    refine gk_skip ?_
    refine gk_region ?_
    refine gk_y rfl rfl (y_move rfl) ?_
    refine gk_y rfl rfl (y_addI rfl rfl (by omega) (by omega)) ?_
    refine gk_y rfl rfl (y_assign rfl) ?_
    refine gk_nil (gk_sub (T':=[(1,_),(2,_),(4,_),(5,_)]) ⟨rfl,rfl,rfl,rfl,trivial⟩ ?_)
    exact gk_next (i+1) ⟨rfl,rfl,rfl,rfl,trivial⟩ rfl ⟨by omega,by omega,below_nat (f:=fun j=>(S.getD j default).s.name.toList == n.toList) g0 g2 hc20⟩ (by omega)
  ·simp only [decide_eq_false_iff_not] at hc10
   refine gk_exit rfl ?_
   refine gk_seq ?_
   refine gk_region ?_
   refine gk_y rfl rfl (y_assign rfl) ?_
   refine gk_nil (gk_sub (T':=[(4,_)]) ⟨rfl,trivial⟩ ?_)
   refine gk_ret ?_
   refine gk_pure (rv_one rfl (r1_tmp rfl)) ?_
   exact congrArg (fun x=>Value.int .i64 x) (findI_none (p:=fun z:ShC=>z.s.name.toList == n.toList) (fun j hj=>g2 j (by omega))).symm
set_option maxRecDepth 100000 in
set_option maxHeartbeats 1000000 in
theorem rfindwall_c (a:Option Addr) (ns cap:Nat) (b:Option Addr) (bcap:Nat) (V:List WlC) (n:ByteArray) (w:World) (hlw:Has w (Elems b 4 encWll V)) (hsw:Small V.length) :
  Calls Tryz.prog 27 #[.agg #[.slice a ns cap,.slice b V.length bcap],.string n] w (Pure (.int .i64 (wallI V n)) w):=by
 refine calls_of_gk (vs:=[_,_]) Tryz.func27 rfl rfl (Nat.le_of_ble_eq_true rfl) ?_
 refine gk_seq ?_
 refine gk_region ?_
 refine gk_yx rfl rfl (yx_box (vs:=[_,_]) rfl rfl) fun b2=>?_
 refine gk_y rfl rfl (y_assign rfl) ?_
 refine gk_nil (gk_sub (T':=[(1,_),(2,_),(4,_)]) ⟨rfl,rfl,rfl,trivial⟩ ?_)
 refine gk_seq ?_
 refine gk_seq ?_
 refine gk_region ?_
 refine gk_y rfl rfl (y_assign rfl) ?_
 refine gk_nil (gk_sub (T':=[(1,_),(2,_),(4,_),(5,_)]) ⟨rfl,rfl,rfl,rfl,trivial⟩ ?_)
 refine gk_block ?_
 refine gk_loop (X:=Int) (fun(i:Int)=>[(1,.string n),(2,.pointer (some ⟨b2,0,none⟩)),(4,.int .i64 0),(5,.int .i64 i)]) (fun(i:Int)=>[Box b2 [.slice a ns cap,.slice b V.length bcap] 25]) (fun(i:Int)=>(0≤i∧i≤V.length∧∀ j:Nat,(j:Int) < i→((V.getD j default).s.name.toList == n.toList)=false)) (fun(i:Int)=>(V.length - i).toNat) 0 ⟨rfl,rfl,rfl,rfl,trivial⟩ rfl ?_ ?_
 ·exact⟨by omega,by omega,fun j hj=>by omega⟩
 ·rintro i hI
  obtain⟨g0,g1,g2⟩:=hI
  refine gk_seq ?_
  refine gk_seq ?_
  refine gk_region ?_
  refine gk_y rfl rfl (y_move rfl) ?_
  refine gk_y rfl rfl (y_fieldAddr fo25_1 rfl) ?_
  refine gk_y rfl rfl (y_loadB1 0 tf23 rfl rfl rfl) ?_
  refine gk_y rfl rfl (y_lenS (Tryz.underlying23) rfl) ?_
  refine gk_y rfl rfl (y_lss rfl rfl) ?_
  refine gk_nil (gk_sub (T':=[(1,_),(2,_),(4,_),(5,_),(10,_)]) ⟨rfl,rfl,rfl,rfl,rfl,trivial⟩ ?_)
  refine gk_cond rfl (fun hc10=>?_) (fun hc10=>?_)
  ·simp only [decide_eq_true_eq] at hc10
   refine gk_skip ?_
   refine gk_seq ?_
   refine gk_block ?_
   refine gk_seq ?_
   refine gk_region ?_
   refine gk_y rfl rfl (y_fieldAddr fo25_1 rfl) ?_
   refine gk_y rfl rfl (y_loadB1 0 tf23 rfl rfl rfl) ?_
   refine gk_y rfl rfl (y_move rfl) ?_
   refine gk_y rfl rfl (y_indexE se23 rfl rfl (fun _ hw=>(Rd.has (Has.rd hlw) hw)) (by omega) (by omega)) ?_
   refine gk_y rfl rfl (y_fieldE fo65_0 rfl (fun w hw=>elems_addr (i:=i) (Rd.has (Has.rd hlw) hw) (by omega) (by omega))) ?_
   refine gk_y rfl rfl (y_loadEF tf9 rfl (fun _ hw=>(Rd.has (Has.rd hlw) hw)) (by omega) (by omega) rfl) ?_
   refine gk_y rfl rfl (y_move rfl) ?_
   refine gk_y rfl rfl (y_strEq rfl rfl) ?_
   refine gk_nil (gk_sub (T':=[(1,_),(2,_),(4,_),(5,_),(20,_)]) ⟨rfl,rfl,rfl,rfl,rfl,trivial⟩ ?_)
   refine gk_cond rfl (fun hc20=>?_) (fun hc20=>?_)
   ·
    refine gk_seq ?_
    refine gk_region ?_
    refine gk_y rfl rfl (y_move rfl) ?_
    refine gk_y rfl rfl (y_assign rfl) ?_
    refine gk_nil (gk_sub (T':=[(1,_),(2,_),(4,_),(5,_)]) ⟨rfl,rfl,rfl,rfl,trivial⟩ ?_)
    refine gk_ret ?_
    refine gk_pure (rv_one rfl (r1_tmp rfl)) ?_
    exact congrArg (fun x=>Value.int .i64 x) (findI_hit (p:=fun z:WlC=>z.s.name.toList == n.toList) g0 (by omega) g2 hc20).symm
   ·
    refine gk_skip ?_
    refine gk_region ?_
    refine gk_y rfl rfl (y_move rfl) ?_
    refine gk_y rfl rfl (y_addI rfl rfl (by omega) (by omega)) ?_
    refine gk_y rfl rfl (y_assign rfl) ?_
    refine gk_nil (gk_sub (T':=[(1,_),(2,_),(4,_),(5,_)]) ⟨rfl,rfl,rfl,rfl,trivial⟩ ?_)
    exact gk_next (i+1) ⟨rfl,rfl,rfl,rfl,trivial⟩ rfl ⟨by omega,by omega,below_nat (f:=fun j=>(V.getD j default).s.name.toList == n.toList) g0 g2 hc20⟩ (by omega)
  ·simp only [decide_eq_false_iff_not] at hc10
   refine gk_exit rfl ?_
   refine gk_seq ?_
   refine gk_region ?_
   refine gk_y rfl rfl (y_assign rfl) ?_
   refine gk_nil (gk_sub (T':=[(4,_)]) ⟨rfl,trivial⟩ ?_)
   refine gk_ret ?_
   refine gk_pure (rv_one rfl (r1_tmp rfl)) ?_
   exact congrArg (fun x=>Value.int .i64 x) (findI_none (p:=fun z:WlC=>z.s.name.toList == n.toList) (fun j hj=>g2 j (by omega))).symm
set_option maxRecDepth 100000 in
set_option maxHeartbeats 4000000 in
theorem rvalidwall_c (b:Option Addr) (bcap:Nat) (v:Wll) (a:Option Addr) (cap:Nat) (s:Sht) (w:World) (hv:Has w (Elems b 5 encOpn v.opens)) (hsv:Small v.opens.length) (hkn:∀ o∈v.opens,Knd o) (hh:0≤s.height∧s.height≤3000) (hfit:Fits v.name.size) :
  Calls Tryz.prog 45 #[.agg #[.string v.name,.string v.sheet,.int .i64 v.length,.slice b v.opens.length bcap],.agg #[.string s.name,.int .i64 s.base,.int .i64 s.batter,.int .i64 s.height,.int .i64 s.skin,.slice a s.heights.length cap,.int .i64 s.least,.int .i64 s.lap,.int .i64 s.run,.int .i64 s.every,.int .i64 s.at_,.int .i64 s.footing,.int .i64 s.spread,.int .u8 s.cope,.int .i64 s.tall,.int .i64 s.short,.int .i64 s.thick,.int .i64 s.low,.int .i64 s.high,.int .i64 s.rood]] w (Pure (.bool (wallB s.height v)) w):=by
 refine calls_of_gk (vs:=[_,_]) Tryz.func45 rfl rfl (Nat.le_of_ble_eq_true rfl) ?_
 refine gk_seq ?_
 refine gk_region ?_
 refine gk_yx rfl rfl (yx_box (vs:=[_,_,_,_]) rfl rfl) fun b2=>?_
 refine gk_yx rfl rfl (yx_box (vs:=[_,_,_,_,_,_,_,_,_,_,_,_,_,_,_,_,_,_,_,_]) rfl rfl) fun b3=>?_
 refine gk_y rfl rfl (y_assign rfl) ?_
 refine gk_nil (gk_sub (T':=[(2,_),(3,_),(4,_)]) ⟨rfl,rfl,rfl,trivial⟩ ?_)
 refine gk_seq ?_
 refine gk_seq ?_
 refine gk_any 16 (fun _=>mixed) (by kernel_rfl) ?_
 refine ph_y (y_fieldAddr fo65_0 rfl) ?_
 refine ph_y (y_loadB1 1 tf9 rfl rfl rfl) ?_
 refine ph_y (y_call en51 rfl (fun w hw=>rnamed_c _ w (by assumption))) ?_
 refine ph_y (y_not rfl) ?_
 refine ph_y (y_move rfl) ?_
 refine ph_gF rfl rfl (fun hgd=>by(try rw [hgd]); exact(y_fieldAddr fo65_2 rfl)) ?_
 refine ph_gF rfl rfl (fun hgd=>by(try rw [hgd]); exact(y_loadB1 1 tf3 rfl rfl rfl)) ?_
 refine ph_gF rfl rfl (fun hgd=>by(try rw [hgd]); exact(y_call (v:=.bool (inB v.length 1 100000)) en52 rfl (fun w hw=>in_c _ _ _ w))) ?_
 refine ph_gF rfl rfl (fun hgd=>by(try rw [hgd]); exact(y_not rfl)) ?_
 refine ph_y (y_pickOr rfl rfl rfl) ?_
 refine ph_y (y_move rfl) ?_
 refine ph_gF rfl rfl (fun hgd=>by(try rw [hgd]); exact(y_fieldAddr fo65_3 rfl)) ?_
 refine ph_gF rfl rfl (fun hgd=>by(try rw [hgd]); exact(y_loadB1 1 tf63 rfl rfl rfl)) ?_
 refine ph_gF rfl rfl (fun hgd=>by(try rw [hgd]); exact(y_lenS (Tryz.underlying63) rfl)) ?_
 refine ph_gF rfl rfl (fun hgd=>by(try rw [hgd]); exact(y_gtr rfl rfl)) ?_
 refine ph_y (y_pickOr rfl rfl rfl) ?_
 refine gk_nil (gk_sub (T':=[(2,_),(3,_),(4,_),(25,_)]) ⟨rfl,rfl,rfl,rfl,trivial⟩ ?_)
 refine gk_cond rfl (fun hc25=>?_) (fun hc25=>?_)
 ·have hw0:wall0 v=false:=wall0_R' hc25
  refine gk_seq ?_
  refine gk_region ?_
  refine gk_y rfl rfl (y_assign rfl) ?_
  refine gk_nil (gk_sub (T':=[(2,_),(3,_),(4,_)]) ⟨rfl,rfl,rfl,trivial⟩ ?_)
  refine gk_ret ?_
  refine gk_pure (rv_one rfl (r1_tmp rfl)) ?_
  rw [wall_no0 hw0]
 ·have hw0:wall0 v=true:=wall0_R' hc25
  have hlen:=(wall0_len hw0).1
  refine gk_skip ?_
  refine gk_seq ?_
  refine gk_seq ?_
  refine gk_region ?_
  refine gk_y rfl rfl (y_assign rfl) ?_
  refine gk_nil (gk_sub (T':=[(2,_),(3,_),(4,_),(5,_)]) ⟨rfl,rfl,rfl,rfl,trivial⟩ ?_)
  refine gk_block ?_
  refine gk_loop (X:=Int) (fun(i:Int)=>[(2,.pointer (some ⟨b2,0,none⟩)),(3,.pointer (some ⟨b3,0,none⟩)),(4,.bool false),(5,.int .i64 i)]) (fun(i:Int)=>[Box b3 [.string s.name,.int .i64 s.base,.int .i64 s.batter,.int .i64 s.height,.int .i64 s.skin,.slice a s.heights.length cap,.int .i64 s.least,.int .i64 s.lap,.int .i64 s.run,.int .i64 s.every,.int .i64 s.at_,.int .i64 s.footing,.int .i64 s.spread,.int .u8 s.cope,.int .i64 s.tall,.int .i64 s.short,.int .i64 s.thick,.int .i64 s.low,.int .i64 s.high,.int .i64 s.rood] 37,Box b2 [.string v.name,.string v.sheet,.int .i64 v.length,.slice b v.opens.length bcap] 65]) (fun(i:Int)=>(0≤i∧i≤v.opens.length∧∀ j:Nat,(j:Int) < i→openAt s.height v j=true)) (fun(i:Int)=>(v.opens.length - i).toNat) 0 ⟨rfl,rfl,rfl,rfl,trivial⟩ rfl ?_ ?_
  ·exact⟨by omega,by omega,fun j hj=>by omega⟩
  ·rintro i hI
   obtain⟨g0,g1,g2⟩:=hI
   refine gk_seq ?_
   refine gk_seq ?_
   refine gk_region ?_
   refine gk_y rfl rfl (y_move rfl) ?_
   refine gk_y rfl rfl (y_fieldAddr fo65_3 rfl) ?_
   refine gk_y rfl rfl (y_loadB1 1 tf63 rfl rfl rfl) ?_
   refine gk_y rfl rfl (y_lenS (Tryz.underlying63) rfl) ?_
   refine gk_y rfl rfl (y_lss rfl rfl) ?_
   refine gk_nil (gk_sub (T':=[(2,_),(3,_),(4,_),(5,_),(30,_)]) ⟨rfl,rfl,rfl,rfl,rfl,trivial⟩ ?_)
   refine gk_cond rfl (fun hc30=>?_) (fun hc30=>?_)
   ·have hc30:=of_decide_eq_true hc30
    have hko:=hkn (v.opens.getD (i).toNat default) (getD_memS (by omega))
    have hwk:IntKind.i64.wrap (v.opens.getD (i).toNat default).kind=(v.opens.getD (i).toNat default).kind:=wrap_in (by omega) (by omega)
    refine gk_skip ?_
    refine gk_seq ?_
    refine gk_block ?_
    refine gk_seq ?_
    refine gk_region ?_
    refine gk_y rfl rfl (y_fieldAddr fo65_3 rfl) ?_
    refine gk_y rfl rfl (y_loadB1 1 tf63 rfl rfl rfl) ?_
    refine gk_y rfl rfl (y_move rfl) ?_
    refine gk_y rfl rfl (y_indexE se63 rfl rfl (fun _ hw=>(Rd.has (Has.rd hv) hw)) (by omega) (by omega)) ?_
    refine gk_y rfl rfl (y_loadE (vs:=[_,_,_,_,_]) tf139 rfl (fun _ hw=>(Rd.has (Has.rd hv) hw)) (by omega) (by omega) rfl) ?_
    refine gk_yx rfl rfl (yx_alloc tf139 (zs:=[_,_,_,_,_]) rfl) fun b6=>?_
    refine gk_storeV 0 tf139 rfl rfl (vs:=[_,_,_,_,_]) rfl rfl rfl rfl rfl ?_
    refine gk_nil (gk_sub (T':=[(2,_),(3,_),(4,_),(5,_),(6,_)]) ⟨rfl,rfl,rfl,rfl,rfl,trivial⟩ ?_)
    refine gk_seq ?_
    refine gk_seq ?_
    refine gk_any 57 (fun _=>mixed) (by kernel_rfl) ?_
    refine ph_y (y_fieldAddr fo139_0 rfl) ?_
    refine ph_y (y_loadB1 0 tf5 rfl rfl rfl) ?_
    refine ph_y (y_convInt (by kernel_rfl) (Tryz.underlying3) rfl) ?_
    refine ph_y (y_call en52 rfl (fun w hw=>in_c _ _ _ w)) ?_
    refine ph_y (y_not rfl) ?_
    refine ph_y (y_move rfl) ?_
    refine ph_gF rfl rfl (fun hgd=>by(try rw [hgd]); have hgd0:=hgd; (try simp only [Bool.not_eq_true',Bool.not_eq_false',in_iff] at hgd0); exact(y_fieldAddr fo139_1 rfl)) ?_
    refine ph_gF rfl rfl (fun hgd=>by(try rw [hgd]); have hgd0:=hgd; (try simp only [Bool.not_eq_true',Bool.not_eq_false',in_iff] at hgd0); exact(y_loadB1 0 tf3 rfl rfl rfl)) ?_
    refine ph_gF rfl rfl (fun hgd=>by(try rw [hgd]); have hgd0:=hgd; (try simp only [Bool.not_eq_true',Bool.not_eq_false',in_iff] at hgd0); exact(y_fieldAddr fo65_2 rfl)) ?_
    refine ph_gF rfl rfl (fun hgd=>by(try rw [hgd]); have hgd0:=hgd; (try simp only [Bool.not_eq_true',Bool.not_eq_false',in_iff] at hgd0); exact(y_loadB1 2 tf3 rfl rfl rfl)) ?_
    refine ph_gF rfl rfl (fun hgd=>by(try rw [hgd]); have hgd0:=hgd; (try simp only [Bool.not_eq_true',Bool.not_eq_false',in_iff] at hgd0); exact(y_call (v:=.bool (inB ((v.opens.getD (i).toNat default).at_) 0 v.length)) en52 rfl (fun w hw=>in_c _ _ _ w))) ?_
    refine ph_gF rfl rfl (fun hgd=>by(try rw [hgd]); have hgd0:=hgd; (try simp only [Bool.not_eq_true',Bool.not_eq_false',in_iff] at hgd0); exact(y_not rfl)) ?_
    refine ph_y (y_pickOr rfl rfl rfl) ?_
    refine ph_y (y_move rfl) ?_
    refine ph_gF rfl rfl (fun hgd=>by(try rw [hgd]); have hgd0:=hgd; (try simp only [Bool.not_eq_true',Bool.or_eq_false_iff,Bool.not_eq_false',in_iff] at hgd0); exact(y_fieldAddr fo139_2 rfl)) ?_
    refine ph_gF rfl rfl (fun hgd=>by(try rw [hgd]); have hgd0:=hgd; (try simp only [Bool.not_eq_true',Bool.or_eq_false_iff,Bool.not_eq_false',in_iff] at hgd0); exact(y_loadB1 0 tf3 rfl rfl rfl)) ?_
    refine ph_gF rfl rfl (fun hgd=>by(try rw [hgd]); have hgd0:=hgd; (try simp only [Bool.not_eq_true',Bool.or_eq_false_iff,Bool.not_eq_false',in_iff] at hgd0); exact(y_fieldAddr fo65_2 rfl)) ?_
    refine ph_gF rfl rfl (fun hgd=>by(try rw [hgd]); have hgd0:=hgd; (try simp only [Bool.not_eq_true',Bool.or_eq_false_iff,Bool.not_eq_false',in_iff] at hgd0); exact(y_loadB1 2 tf3 rfl rfl rfl)) ?_
    refine ph_gF rfl rfl (fun hgd=>by(try rw [hgd]); have hgd0:=hgd; (try simp only [Bool.not_eq_true',Bool.or_eq_false_iff,Bool.not_eq_false',in_iff] at hgd0); exact(y_call (v:=.bool (inB ((v.opens.getD (i).toNat default).width) 1 v.length)) en52 rfl (fun w hw=>in_c _ _ _ w))) ?_
    refine ph_gF rfl rfl (fun hgd=>by(try rw [hgd]); have hgd0:=hgd; (try simp only [Bool.not_eq_true',Bool.or_eq_false_iff,Bool.not_eq_false',in_iff] at hgd0); exact(y_not rfl)) ?_
    refine ph_y (y_pickOr rfl rfl rfl) ?_
    refine ph_y (y_move rfl) ?_
    refine ph_gF rfl rfl (fun hgd=>by(try rw [hgd]); have hgd0:=hgd; (try simp only [Bool.not_eq_true',Bool.or_eq_false_iff,Bool.not_eq_false',in_iff] at hgd0); exact(y_fieldAddr fo139_1 rfl)) ?_
    refine ph_gF rfl rfl (fun hgd=>by(try rw [hgd]); have hgd0:=hgd; (try simp only [Bool.not_eq_true',Bool.or_eq_false_iff,Bool.not_eq_false',in_iff] at hgd0); exact(y_loadB1 0 tf3 rfl rfl rfl)) ?_
    refine ph_gF rfl rfl (fun hgd=>by(try rw [hgd]); have hgd0:=hgd; (try simp only [Bool.not_eq_true',Bool.or_eq_false_iff,Bool.not_eq_false',in_iff] at hgd0); exact(y_fieldAddr fo139_2 rfl)) ?_
    refine ph_gF rfl rfl (fun hgd=>by(try rw [hgd]); have hgd0:=hgd; (try simp only [Bool.not_eq_true',Bool.or_eq_false_iff,Bool.not_eq_false',in_iff] at hgd0); exact(y_loadB1 0 tf3 rfl rfl rfl)) ?_
    refine ph_gF rfl rfl (fun hgd=>by(try rw [hgd]); have hgd0:=hgd; (try simp only [Bool.not_eq_true',Bool.or_eq_false_iff,Bool.not_eq_false',in_iff] at hgd0); exact(y_addI rfl rfl (by omega) (by omega))) ?_
    refine ph_gF rfl rfl (fun hgd=>by(try rw [hgd]); have hgd0:=hgd; (try simp only [Bool.not_eq_true',Bool.or_eq_false_iff,Bool.not_eq_false',in_iff] at hgd0); exact(y_fieldAddr fo65_2 rfl)) ?_
    refine ph_gF rfl rfl (fun hgd=>by(try rw [hgd]); have hgd0:=hgd; (try simp only [Bool.not_eq_true',Bool.or_eq_false_iff,Bool.not_eq_false',in_iff] at hgd0); exact(y_loadB1 2 tf3 rfl rfl rfl)) ?_
    refine ph_gF rfl rfl (fun hgd=>by(try rw [hgd]); have hgd0:=hgd; (try simp only [Bool.not_eq_true',Bool.or_eq_false_iff,Bool.not_eq_false',in_iff] at hgd0); exact(y_gtr rfl rfl)) ?_
    refine ph_y (y_pickOr rfl rfl rfl) ?_
    refine ph_y (y_move rfl) ?_
    refine ph_gF rfl rfl (fun hgd=>by(try rw [hgd]); have hgd0:=hgd; (try simp only [Bool.not_eq_true',Bool.or_eq_false_iff,Bool.not_eq_false',in_iff,decide_eq_false_iff_not] at hgd0); exact(y_fieldAddr fo139_3 rfl)) ?_
    refine ph_gF rfl rfl (fun hgd=>by(try rw [hgd]); have hgd0:=hgd; (try simp only [Bool.not_eq_true',Bool.or_eq_false_iff,Bool.not_eq_false',in_iff,decide_eq_false_iff_not] at hgd0); exact(y_loadB1 0 tf3 rfl rfl rfl)) ?_
    refine ph_gF rfl rfl (fun hgd=>by(try rw [hgd]); have hgd0:=hgd; (try simp only [Bool.not_eq_true',Bool.or_eq_false_iff,Bool.not_eq_false',in_iff,decide_eq_false_iff_not] at hgd0); exact(y_fieldAddr fo37_3 rfl)) ?_
    refine ph_gF rfl rfl (fun hgd=>by(try rw [hgd]); have hgd0:=hgd; (try simp only [Bool.not_eq_true',Bool.or_eq_false_iff,Bool.not_eq_false',in_iff,decide_eq_false_iff_not] at hgd0); exact(y_loadB1 1 tf3 rfl rfl rfl)) ?_
    refine ph_gF rfl rfl (fun hgd=>by(try rw [hgd]); have hgd0:=hgd; (try simp only [Bool.not_eq_true',Bool.or_eq_false_iff,Bool.not_eq_false',in_iff,decide_eq_false_iff_not] at hgd0); exact(y_call (v:=.bool (inB ((v.opens.getD (i).toNat default).frm) 0 s.height)) en52 rfl (fun w hw=>in_c _ _ _ w))) ?_
    refine ph_gF rfl rfl (fun hgd=>by(try rw [hgd]); have hgd0:=hgd; (try simp only [Bool.not_eq_true',Bool.or_eq_false_iff,Bool.not_eq_false',in_iff,decide_eq_false_iff_not] at hgd0); exact(y_not rfl)) ?_
    refine ph_y (y_pickOr rfl rfl rfl) ?_
    refine ph_y (y_move rfl) ?_
    refine ph_gF rfl rfl (fun hgd=>by(try rw [hgd]); have hgd0:=hgd; (try simp only [Bool.not_eq_true',Bool.or_eq_false_iff,Bool.not_eq_false',in_iff,decide_eq_false_iff_not] at hgd0); exact(y_fieldAddr fo139_4 rfl)) ?_
    refine ph_gF rfl rfl (fun hgd=>by(try rw [hgd]); have hgd0:=hgd; (try simp only [Bool.not_eq_true',Bool.or_eq_false_iff,Bool.not_eq_false',in_iff,decide_eq_false_iff_not] at hgd0); exact(y_loadB1 0 tf3 rfl rfl rfl)) ?_
    refine ph_gF rfl rfl (fun hgd=>by(try rw [hgd]); have hgd0:=hgd; (try simp only [Bool.not_eq_true',Bool.or_eq_false_iff,Bool.not_eq_false',in_iff,decide_eq_false_iff_not] at hgd0); exact(y_fieldAddr fo37_3 rfl)) ?_
    refine ph_gF rfl rfl (fun hgd=>by(try rw [hgd]); have hgd0:=hgd; (try simp only [Bool.not_eq_true',Bool.or_eq_false_iff,Bool.not_eq_false',in_iff,decide_eq_false_iff_not] at hgd0); exact(y_loadB1 1 tf3 rfl rfl rfl)) ?_
    refine ph_gF rfl rfl (fun hgd=>by(try rw [hgd]); have hgd0:=hgd; (try simp only [Bool.not_eq_true',Bool.or_eq_false_iff,Bool.not_eq_false',in_iff,decide_eq_false_iff_not] at hgd0); exact(y_call (v:=.bool (inB ((v.opens.getD (i).toNat default).high) 1 s.height)) en52 rfl (fun w hw=>in_c _ _ _ w))) ?_
    refine ph_gF rfl rfl (fun hgd=>by(try rw [hgd]); have hgd0:=hgd; (try simp only [Bool.not_eq_true',Bool.or_eq_false_iff,Bool.not_eq_false',in_iff,decide_eq_false_iff_not] at hgd0); exact(y_not rfl)) ?_
    refine ph_y (y_pickOr rfl rfl rfl) ?_
    refine ph_y (y_move rfl) ?_
    refine ph_gF rfl rfl (fun hgd=>by(try rw [hgd]); have hgd0:=hgd; (try simp only [Bool.not_eq_true',Bool.or_eq_false_iff,Bool.not_eq_false',in_iff,decide_eq_false_iff_not] at hgd0); exact(y_fieldAddr fo139_3 rfl)) ?_
    refine ph_gF rfl rfl (fun hgd=>by(try rw [hgd]); have hgd0:=hgd; (try simp only [Bool.not_eq_true',Bool.or_eq_false_iff,Bool.not_eq_false',in_iff,decide_eq_false_iff_not] at hgd0); exact(y_loadB1 0 tf3 rfl rfl rfl)) ?_
    refine ph_gF rfl rfl (fun hgd=>by(try rw [hgd]); have hgd0:=hgd; (try simp only [Bool.not_eq_true',Bool.or_eq_false_iff,Bool.not_eq_false',in_iff,decide_eq_false_iff_not] at hgd0); exact(y_fieldAddr fo139_4 rfl)) ?_
    refine ph_gF rfl rfl (fun hgd=>by(try rw [hgd]); have hgd0:=hgd; (try simp only [Bool.not_eq_true',Bool.or_eq_false_iff,Bool.not_eq_false',in_iff,decide_eq_false_iff_not] at hgd0); exact(y_loadB1 0 tf3 rfl rfl rfl)) ?_
    refine ph_gF rfl rfl (fun hgd=>by(try rw [hgd]); have hgd0:=hgd; (try simp only [Bool.not_eq_true',Bool.or_eq_false_iff,Bool.not_eq_false',in_iff,decide_eq_false_iff_not] at hgd0); exact(y_addI rfl rfl (by omega) (by omega))) ?_
    refine ph_gF rfl rfl (fun hgd=>by(try rw [hgd]); have hgd0:=hgd; (try simp only [Bool.not_eq_true',Bool.or_eq_false_iff,Bool.not_eq_false',in_iff,decide_eq_false_iff_not] at hgd0); exact(y_fieldAddr fo37_3 rfl)) ?_
    refine ph_gF rfl rfl (fun hgd=>by(try rw [hgd]); have hgd0:=hgd; (try simp only [Bool.not_eq_true',Bool.or_eq_false_iff,Bool.not_eq_false',in_iff,decide_eq_false_iff_not] at hgd0); exact(y_loadB1 1 tf3 rfl rfl rfl)) ?_
    refine ph_gF rfl rfl (fun hgd=>by(try rw [hgd]); have hgd0:=hgd; (try simp only [Bool.not_eq_true',Bool.or_eq_false_iff,Bool.not_eq_false',in_iff,decide_eq_false_iff_not] at hgd0); exact(y_gtr rfl rfl)) ?_
    refine ph_y (y_pickOr rfl rfl rfl) ?_
    refine gk_nil (gk_sub (T':=[(2,_),(3,_),(4,_),(5,_),(6,_),(94,_)]) ⟨rfl,rfl,rfl,rfl,rfl,rfl,trivial⟩ ?_)
    refine gk_cond rfl (fun hc94=>?_) (fun hc94=>?_)
    ·rw [hwk] at hc94
     have hno:openAt s.height v i.toNat=false:=openAt_no1 (by rw [rfits hlen,show rf1 _ _ _=true from hc94]; rfl)
     refine gk_seq ?_
     refine gk_region ?_
     refine gk_y rfl rfl (y_assign rfl) ?_
     refine gk_nil (gk_sub (T':=[(2,_),(3,_),(4,_),(5,_),(6,_)]) ⟨rfl,rfl,rfl,rfl,rfl,trivial⟩ ?_)
     refine gk_ret ?_
     refine gk_pure (rv_one rfl (r1_tmp rfl)) ?_
     rw [wall_noI g0 hc30 hno]
    ·rw [hwk] at hc94
     have hF:=rf1_facts hc94
     refine gk_skip ?_
     refine gk_seq ?_
     refine gk_seq ?_
     refine gk_any 23 (fun _=>mixed) (by kernel_rfl) ?_
     refine ph_y (y_fieldAddr fo139_0 rfl) ?_
     refine ph_y (y_loadB1 0 tf5 rfl rfl rfl) ?_
     refine ph_y (y_geq rfl rfl) ?_
     refine ph_y (y_move rfl) ?_
     refine ph_gT rfl rfl (fun hgd=>by(try rw [hgd]); have hgd0:=hgd; (try simp only [decide_eq_true_eq] at hgd0); exact(y_fieldAddr fo139_3 rfl)) ?_
     refine ph_gT rfl rfl (fun hgd=>by(try rw [hgd]); have hgd0:=hgd; (try simp only [decide_eq_true_eq] at hgd0); exact(y_loadB1 0 tf3 rfl rfl rfl)) ?_
     refine ph_gT rfl rfl (fun hgd=>by(try rw [hgd]); have hgd0:=hgd; (try simp only [decide_eq_true_eq] at hgd0); exact(y_fieldAddr fo139_4 rfl)) ?_
     refine ph_gT rfl rfl (fun hgd=>by(try rw [hgd]); have hgd0:=hgd; (try simp only [decide_eq_true_eq] at hgd0); exact(y_loadB1 0 tf3 rfl rfl rfl)) ?_
     refine ph_gT rfl rfl (fun hgd=>by(try rw [hgd]); have hgd0:=hgd; (try simp only [decide_eq_true_eq] at hgd0); exact(y_addI rfl rfl (by omega) (by omega))) ?_
     refine ph_gT rfl rfl (fun hgd=>by(try rw [hgd]); have hgd0:=hgd; (try simp only [decide_eq_true_eq] at hgd0); exact(y_fieldAddr fo37_3 rfl)) ?_
     refine ph_gT rfl rfl (fun hgd=>by(try rw [hgd]); have hgd0:=hgd; (try simp only [decide_eq_true_eq] at hgd0); exact(y_loadB1 1 tf3 rfl rfl rfl)) ?_
     refine ph_gT rfl rfl (fun hgd=>by(try rw [hgd]); have hgd0:=hgd; (try simp only [decide_eq_true_eq] at hgd0); exact(y_neq rfl rfl)) ?_
     refine ph_y (y_pickAnd rfl rfl rfl) ?_
     refine ph_y (y_move rfl) ?_
     refine ph_gF rfl rfl (fun hgd=>by(try rw [hgd]); have hgd0:=hgd; (try simp only [Bool.not_eq_true'] at hgd0); exact(y_fieldAddr fo139_0 rfl)) ?_
     refine ph_gF rfl rfl (fun hgd=>by(try rw [hgd]); have hgd0:=hgd; (try simp only [Bool.not_eq_true'] at hgd0); exact(y_loadB1 0 tf5 rfl rfl rfl)) ?_
     refine ph_gF rfl rfl (fun hgd=>by(try rw [hgd]); have hgd0:=hgd; (try simp only [Bool.not_eq_true'] at hgd0); exact(y_eql rfl rfl)) ?_
     refine ph_gF rfl rfl (fun hgd=>by(try rw [hgd]); have hgd0:=hgd; (try simp only [Bool.not_eq_true'] at hgd0); exact(y_move rfl)) ?_
     refine ph_gTT rfl rfl (fun hgd=>by(try rw [hgd]); have hgd0:=hgd; (try simp only [Bool.not_eq_true',Bool.and_eq_true,decide_eq_true_eq] at hgd0); exact(y_fieldAddr fo139_3 rfl)) ?_
     refine ph_gTT rfl rfl (fun hgd=>by(try rw [hgd]); have hgd0:=hgd; (try simp only [Bool.not_eq_true',Bool.and_eq_true,decide_eq_true_eq] at hgd0); exact(y_loadB1 0 tf3 rfl rfl rfl)) ?_
     refine ph_gTT rfl rfl (fun hgd=>by(try rw [hgd]); have hgd0:=hgd; (try simp only [Bool.not_eq_true',Bool.and_eq_true,decide_eq_true_eq] at hgd0); exact(y_neq rfl rfl)) ?_
     refine ph_gF rfl rfl (fun hgd=>by(try rw [hgd]); have hgd0:=hgd; (try simp only [Bool.not_eq_true'] at hgd0); exact(y_pickAnd rfl rfl rfl)) ?_
     refine ph_y (y_pickOr rfl rfl rfl) ?_
     refine gk_nil (gk_sub (T':=[(2,_),(3,_),(4,_),(5,_),(6,_),(117,_)]) ⟨rfl,rfl,rfl,rfl,rfl,rfl,trivial⟩ ?_)
     refine gk_cond rfl (fun hc117=>?_) (fun hc117=>?_)
     ·have hno:openAt s.height v i.toNat=false:=openAt_no1 (by rw [rfits hlen,show rf2 _ _=true from hc117,Bool.or_true]; rfl)
      refine gk_seq ?_
      refine gk_region ?_
      refine gk_y rfl rfl (y_assign rfl) ?_
      refine gk_nil (gk_sub (T':=[(2,_),(3,_),(4,_),(5,_),(6,_)]) ⟨rfl,rfl,rfl,rfl,rfl,trivial⟩ ?_)
      refine gk_ret ?_
      refine gk_pure (rv_one rfl (r1_tmp rfl)) ?_
      rw [wall_noI g0 hc30 hno]
     ·have hfit2:fitsB v.length s.height (v.opens.getD (i).toNat default)=true:=by rw [rfits hlen,show rf1 _ _ _=false from hc94,show rf2 _ _=false from hc117]; rfl
      refine gk_skip ?_
      refine gk_seq ?_
      refine gk_region ?_
      refine gk_y rfl rfl (y_assign rfl) ?_
      refine gk_nil (gk_sub (T':=[(2,_),(3,_),(4,_),(5,_),(6,_),(7,_)]) ⟨rfl,rfl,rfl,rfl,rfl,rfl,trivial⟩ ?_)
      refine gk_block ?_
      refine gk_loop (X:=Int) (fun(k:Int)=>[(2,.pointer (some ⟨b2,0,none⟩)),(3,.pointer (some ⟨b3,0,none⟩)),(4,.bool false),(5,.int .i64 i),(6,.pointer (some ⟨b6,0,none⟩)),(7,.int .i64 k)]) (fun(k:Int)=>[Box b6 [.int .u8 (v.opens.getD (i).toNat default).kind,.int .i64 (v.opens.getD (i).toNat default).at_,.int .i64 (v.opens.getD (i).toNat default).width,.int .i64 (v.opens.getD (i).toNat default).frm,.int .i64 (v.opens.getD (i).toNat default).high] 139,Box b3 [.string s.name,.int .i64 s.base,.int .i64 s.batter,.int .i64 s.height,.int .i64 s.skin,.slice a s.heights.length cap,.int .i64 s.least,.int .i64 s.lap,.int .i64 s.run,.int .i64 s.every,.int .i64 s.at_,.int .i64 s.footing,.int .i64 s.spread,.int .u8 s.cope,.int .i64 s.tall,.int .i64 s.short,.int .i64 s.thick,.int .i64 s.low,.int .i64 s.high,.int .i64 s.rood] 37,Box b2 [.string v.name,.string v.sheet,.int .i64 v.length,.slice b v.opens.length bcap] 65]) (fun(k:Int)=>(0≤k∧k≤i∧∀ j:Nat,(j:Int) < k→meetsB (v.opens.getD (i).toNat default) (v.opens.getD j default)=false)) (fun(k:Int)=>(i - k).toNat) 0 ⟨rfl,rfl,rfl,rfl,rfl,rfl,trivial⟩ rfl ?_ ?_
      ·exact⟨by omega,by omega,fun j hj=>by omega⟩
      ·rintro k hI
       obtain⟨k0,k1,k2⟩:=hI
       refine gk_seq ?_
       refine gk_seq ?_
       refine gk_region ?_
       refine gk_y rfl rfl (y_move rfl) ?_
       refine gk_y rfl rfl (y_move rfl) ?_
       refine gk_y rfl rfl (y_lss rfl rfl) ?_
       refine gk_nil (gk_sub (T':=[(2,_),(3,_),(4,_),(5,_),(6,_),(7,_),(120,_)]) ⟨rfl,rfl,rfl,rfl,rfl,rfl,rfl,trivial⟩ ?_)
       refine gk_cond rfl (fun hc120=>?_) (fun hc120=>?_)
       ·have hc120:=of_decide_eq_true hc120
        have hQ:=openAt_fits (g2 k.toNat (by omega))
        have q1:=hQ.a; have q2:=hQ.w; have q3:=hQ.h; have q4:=hQ.f
        refine gk_skip ?_
        refine gk_seq ?_
        refine gk_block ?_
        refine gk_seq ?_
        refine gk_region ?_
        refine gk_y rfl rfl (y_fieldAddr fo65_3 rfl) ?_
        refine gk_y rfl rfl (y_loadB1 2 tf63 rfl rfl rfl) ?_
        refine gk_y rfl rfl (y_move rfl) ?_
        refine gk_y rfl rfl (y_indexE se63 rfl rfl (fun _ hw=>(Rd.has (Has.rd hv) hw)) (by omega) (by omega)) ?_
        refine gk_y rfl rfl (y_loadE (vs:=[_,_,_,_,_]) tf139 rfl (fun _ hw=>(Rd.has (Has.rd hv) hw)) (by omega) (by omega) rfl) ?_
        refine gk_yx rfl rfl (yx_alloc tf139 (zs:=[_,_,_,_,_]) rfl) fun b8=>?_
        refine gk_storeV 0 tf139 rfl rfl (vs:=[_,_,_,_,_]) rfl rfl rfl rfl rfl ?_
        refine gk_nil (gk_sub (T':=[(2,_),(3,_),(4,_),(5,_),(6,_),(7,_),(8,_)]) ⟨rfl,rfl,rfl,rfl,rfl,rfl,rfl,trivial⟩ ?_)
        refine gk_seq ?_
        refine gk_any 39 (fun _=>mixed) (by kernel_rfl) ?_
        refine ph_y (y_fieldAddr fo139_1 rfl) ?_
        refine ph_y (y_loadB1 1 tf3 rfl rfl rfl) ?_
        refine ph_y (y_fieldAddr fo139_2 rfl) ?_
        refine ph_y (y_loadB1 1 tf3 rfl rfl rfl) ?_
        refine ph_y (y_addI rfl rfl (by omega) (by omega)) ?_
        refine ph_y (y_fieldAddr fo139_1 rfl) ?_
        refine ph_y (y_loadB1 0 tf3 rfl rfl rfl) ?_
        refine ph_y (y_leq rfl rfl) ?_
        refine ph_y (y_move rfl) ?_
        refine ph_gF rfl rfl (fun hgd=>by(try rw [hgd]); have hgd0:=hgd; (try simp only [Bool.not_eq_true',decide_eq_false_iff_not] at hgd0); exact(y_fieldAddr fo139_1 rfl)) ?_
        refine ph_gF rfl rfl (fun hgd=>by(try rw [hgd]); have hgd0:=hgd; (try simp only [Bool.not_eq_true',decide_eq_false_iff_not] at hgd0); exact(y_loadB1 0 tf3 rfl rfl rfl)) ?_
        refine ph_gF rfl rfl (fun hgd=>by(try rw [hgd]); have hgd0:=hgd; (try simp only [Bool.not_eq_true',decide_eq_false_iff_not] at hgd0); exact(y_fieldAddr fo139_2 rfl)) ?_
        refine ph_gF rfl rfl (fun hgd=>by(try rw [hgd]); have hgd0:=hgd; (try simp only [Bool.not_eq_true',decide_eq_false_iff_not] at hgd0); exact(y_loadB1 0 tf3 rfl rfl rfl)) ?_
        refine ph_gF rfl rfl (fun hgd=>by(try rw [hgd]); have hgd0:=hgd; (try simp only [Bool.not_eq_true',decide_eq_false_iff_not] at hgd0); exact(y_addI rfl rfl (by omega) (by omega))) ?_
        refine ph_gF rfl rfl (fun hgd=>by(try rw [hgd]); have hgd0:=hgd; (try simp only [Bool.not_eq_true',decide_eq_false_iff_not] at hgd0); exact(y_fieldAddr fo139_1 rfl)) ?_
        refine ph_gF rfl rfl (fun hgd=>by(try rw [hgd]); have hgd0:=hgd; (try simp only [Bool.not_eq_true',decide_eq_false_iff_not] at hgd0); exact(y_loadB1 1 tf3 rfl rfl rfl)) ?_
        refine ph_gF rfl rfl (fun hgd=>by(try rw [hgd]); have hgd0:=hgd; (try simp only [Bool.not_eq_true',decide_eq_false_iff_not] at hgd0); exact(y_leq rfl rfl)) ?_
        refine ph_y (y_pickOr rfl rfl rfl) ?_
        refine ph_y (y_move rfl) ?_
        refine ph_gF rfl rfl (fun hgd=>by(try rw [hgd]); have hgd0:=hgd; (try simp only [Bool.not_eq_true',Bool.or_eq_false_iff,decide_eq_false_iff_not] at hgd0); exact(y_fieldAddr fo139_3 rfl)) ?_
        refine ph_gF rfl rfl (fun hgd=>by(try rw [hgd]); have hgd0:=hgd; (try simp only [Bool.not_eq_true',Bool.or_eq_false_iff,decide_eq_false_iff_not] at hgd0); exact(y_loadB1 1 tf3 rfl rfl rfl)) ?_
        refine ph_gF rfl rfl (fun hgd=>by(try rw [hgd]); have hgd0:=hgd; (try simp only [Bool.not_eq_true',Bool.or_eq_false_iff,decide_eq_false_iff_not] at hgd0); exact(y_fieldAddr fo139_4 rfl)) ?_
        refine ph_gF rfl rfl (fun hgd=>by(try rw [hgd]); have hgd0:=hgd; (try simp only [Bool.not_eq_true',Bool.or_eq_false_iff,decide_eq_false_iff_not] at hgd0); exact(y_loadB1 1 tf3 rfl rfl rfl)) ?_
        refine ph_gF rfl rfl (fun hgd=>by(try rw [hgd]); have hgd0:=hgd; (try simp only [Bool.not_eq_true',Bool.or_eq_false_iff,decide_eq_false_iff_not] at hgd0); exact(y_addI rfl rfl (by omega) (by omega))) ?_
        refine ph_gF rfl rfl (fun hgd=>by(try rw [hgd]); have hgd0:=hgd; (try simp only [Bool.not_eq_true',Bool.or_eq_false_iff,decide_eq_false_iff_not] at hgd0); exact(y_fieldAddr fo139_3 rfl)) ?_
        refine ph_gF rfl rfl (fun hgd=>by(try rw [hgd]); have hgd0:=hgd; (try simp only [Bool.not_eq_true',Bool.or_eq_false_iff,decide_eq_false_iff_not] at hgd0); exact(y_loadB1 0 tf3 rfl rfl rfl)) ?_
        refine ph_gF rfl rfl (fun hgd=>by(try rw [hgd]); have hgd0:=hgd; (try simp only [Bool.not_eq_true',Bool.or_eq_false_iff,decide_eq_false_iff_not] at hgd0); exact(y_leq rfl rfl)) ?_
        refine ph_y (y_pickOr rfl rfl rfl) ?_
        refine ph_y (y_move rfl) ?_
        refine ph_gF rfl rfl (fun hgd=>by(try rw [hgd]); have hgd0:=hgd; (try simp only [Bool.not_eq_true',Bool.or_eq_false_iff,decide_eq_false_iff_not] at hgd0); exact(y_fieldAddr fo139_3 rfl)) ?_
        refine ph_gF rfl rfl (fun hgd=>by(try rw [hgd]); have hgd0:=hgd; (try simp only [Bool.not_eq_true',Bool.or_eq_false_iff,decide_eq_false_iff_not] at hgd0); exact(y_loadB1 0 tf3 rfl rfl rfl)) ?_
        refine ph_gF rfl rfl (fun hgd=>by(try rw [hgd]); have hgd0:=hgd; (try simp only [Bool.not_eq_true',Bool.or_eq_false_iff,decide_eq_false_iff_not] at hgd0); exact(y_fieldAddr fo139_4 rfl)) ?_
        refine ph_gF rfl rfl (fun hgd=>by(try rw [hgd]); have hgd0:=hgd; (try simp only [Bool.not_eq_true',Bool.or_eq_false_iff,decide_eq_false_iff_not] at hgd0); exact(y_loadB1 0 tf3 rfl rfl rfl)) ?_
        refine ph_gF rfl rfl (fun hgd=>by(try rw [hgd]); have hgd0:=hgd; (try simp only [Bool.not_eq_true',Bool.or_eq_false_iff,decide_eq_false_iff_not] at hgd0); exact(y_addI rfl rfl (by omega) (by omega))) ?_
        refine ph_gF rfl rfl (fun hgd=>by(try rw [hgd]); have hgd0:=hgd; (try simp only [Bool.not_eq_true',Bool.or_eq_false_iff,decide_eq_false_iff_not] at hgd0); exact(y_fieldAddr fo139_3 rfl)) ?_
        refine ph_gF rfl rfl (fun hgd=>by(try rw [hgd]); have hgd0:=hgd; (try simp only [Bool.not_eq_true',Bool.or_eq_false_iff,decide_eq_false_iff_not] at hgd0); exact(y_loadB1 1 tf3 rfl rfl rfl)) ?_
        refine ph_gF rfl rfl (fun hgd=>by(try rw [hgd]); have hgd0:=hgd; (try simp only [Bool.not_eq_true',Bool.or_eq_false_iff,decide_eq_false_iff_not] at hgd0); exact(y_leq rfl rfl)) ?_
        refine ph_y (y_pickOr rfl rfl rfl) ?_
        refine ph_y (y_assign rfl) ?_
        refine gk_nil (gk_sub (T':=[(2,_),(3,_),(4,_),(5,_),(6,_),(7,_),(9,_)]) ⟨rfl,rfl,rfl,rfl,rfl,rfl,rfl,trivial⟩ ?_)
        refine gk_seq ?_
        refine gk_region ?_
        refine gk_y rfl rfl (y_move rfl) ?_
        refine gk_y rfl rfl (y_not rfl) ?_
        refine gk_nil (gk_sub (T':=[(2,_),(3,_),(4,_),(5,_),(6,_),(7,_),(167,_)]) ⟨rfl,rfl,rfl,rfl,rfl,rfl,rfl,trivial⟩ ?_)
        refine gk_cond rfl (fun hc167=>?_) (fun hc167=>?_)
        ·have hm:meetsB (v.opens.getD (i).toNat default) (v.opens.getD (k).toNat default)=true:=by rw [meets_eq]; exact hc167
         refine gk_seq ?_
         refine gk_region ?_
         refine gk_y rfl rfl (y_assign rfl) ?_
         refine gk_nil (gk_sub (T':=[(2,_),(3,_),(4,_),(5,_),(6,_),(7,_)]) ⟨rfl,rfl,rfl,rfl,rfl,rfl,trivial⟩ ?_)
         refine gk_ret ?_
         refine gk_pure (rv_one rfl (r1_tmp rfl)) ?_
         rw [wall_noI g0 hc30 (openAt_no2 k0 hc120 hc30 hm)]
        ·have hm:meetsB (v.opens.getD (i).toNat default) (v.opens.getD (k).toNat default)=false:=by rw [meets_eq]; exact hc167
         refine gk_skip ?_
         refine gk_region ?_
         refine gk_y rfl rfl (y_move rfl) ?_
         refine gk_y rfl rfl (y_addI rfl rfl (by omega) (by omega)) ?_
         refine gk_y rfl rfl (y_assign rfl) ?_
         refine gk_nil (gk_sub (T':=[(2,_),(3,_),(4,_),(5,_),(6,_),(7,_)]) ⟨rfl,rfl,rfl,rfl,rfl,rfl,trivial⟩ ?_)
         refine gk_dropAt 0 rfl ?_
         exact gk_next (k+1) ⟨rfl,rfl,rfl,rfl,rfl,rfl,trivial⟩ rfl ⟨by omega,by omega,below_nat (f:=fun j=>meetsB (v.opens.getD (i).toNat default) (v.opens.getD j default)) k0 k2 hm⟩ (by omega)
       ·have hc120:=of_decide_eq_false hc120
        have hyes:=openAt_yes hc30 hfit2 hc120 k2
        refine gk_exit rfl ?_
        refine gk_region ?_
        refine gk_y rfl rfl (y_move rfl) ?_
        refine gk_y rfl rfl (y_addI rfl rfl (by omega) (by omega)) ?_
        refine gk_y rfl rfl (y_assign rfl) ?_
        refine gk_nil (gk_sub (T':=[(2,_),(3,_),(4,_),(5,_)]) ⟨rfl,rfl,rfl,rfl,trivial⟩ ?_)
        refine gk_dropAt 0 rfl ?_
        exact gk_next (i+1) ⟨rfl,rfl,rfl,rfl,trivial⟩ rfl ⟨by omega,by omega,true_succ g0 g2 hyes⟩ (by omega)
   ·have hc30:=of_decide_eq_false hc30
    refine gk_exit rfl ?_
    refine gk_seq ?_
    refine gk_region ?_
    refine gk_y rfl rfl (y_assign rfl) ?_
    refine gk_nil (gk_sub (T':=[(4,_)]) ⟨rfl,trivial⟩ ?_)
    refine gk_ret ?_
    refine gk_pure (rv_one rfl (r1_tmp rfl)) ?_
    rw [wall_yes hw0 hc30 g2]
set_option maxRecDepth 100000 in
set_option maxHeartbeats 4000000 in
theorem rvalid_c (a:Option Addr) (cap:Nat) (S:List ShC) (b:Option Addr) (bcap:Nat) (V:List WlC) (w:World) (hl:Has w (Elems a 20 encSht S)) (hs:Small S.length) (hlw:Has w (Elems b 4 encWll V)) (hsw:Small V.length) (hsh:∀ z∈S,Has w (Ints z.a z.s.heights)) (hss:∀ z∈S,Small z.s.heights.length) (hwo:∀ z∈V,Has w (Elems z.a 5 encOpn z.s.opens)) (hsv:∀ z∈V,Small z.s.opens.length) (_hcp:∀ z∈V,z.s.opens.length≤z.cap) (hkn:∀ z∈V,∀ o∈z.s.opens,Knd o) (hfS:∀ z∈S,Fits z.s.name.size) (hfV:∀ z∈V,Fits z.s.name.size) (hco:∀ z∈S,0≤z.s.cope) :
  Calls Tryz.prog 15 #[.agg #[.slice a S.length cap,.slice b V.length bcap]] w (Pure (.bool (planP S V)) w):=by
 refine calls_of_gk (vs:=[_]) Tryz.func15 rfl rfl (Nat.le_of_ble_eq_true rfl) ?_
 refine gk_seq ?_
 refine gk_region ?_
 refine gk_yx rfl rfl (yx_box (vs:=[_,_]) rfl rfl) fun b1=>?_
 refine gk_y rfl rfl (y_assign rfl) ?_
 refine gk_nil (gk_sub (T':=[(1,_),(2,_)]) ⟨rfl,rfl,trivial⟩ ?_)
 refine gk_seq ?_
 refine gk_seq ?_
 refine gk_region ?_
 refine gk_y rfl rfl (y_assign rfl) ?_
 refine gk_nil (gk_sub (T':=[(1,_),(2,_),(3,_)]) ⟨rfl,rfl,rfl,trivial⟩ ?_)
 refine gk_block ?_
 refine gk_loop (X:=Int) (fun(i:Int)=>[(1,.pointer (some ⟨b1,0,none⟩)),(2,.bool false),(3,.int .i64 i)]) (fun(i:Int)=>[Box b1 [.slice a S.length cap,.slice b V.length bcap] 25]) (fun(i:Int)=>(0≤i∧i≤S.length∧∀ j:Nat,(j:Int) < i→shAt S j=true)) (fun(i:Int)=>(S.length - i).toNat) 0 ⟨rfl,rfl,rfl,trivial⟩ rfl ?_ ?_
 ·exact⟨by omega,by omega,fun j hj=>by omega⟩
 ·rintro i hI
  obtain⟨g0,g1,g2⟩:=hI
  refine gk_seq ?_
  refine gk_seq ?_
  refine gk_region ?_
  refine gk_y rfl rfl (y_move rfl) ?_
  refine gk_y rfl rfl (y_fieldAddr fo25_0 rfl) ?_
  refine gk_y rfl rfl (y_loadB1 0 tf22 rfl rfl rfl) ?_
  refine gk_y rfl rfl (y_lenS (Tryz.underlying22) rfl) ?_
  refine gk_y rfl rfl (y_lss rfl rfl) ?_
  refine gk_nil (gk_sub (T':=[(1,_),(2,_),(3,_),(10,_)]) ⟨rfl,rfl,rfl,rfl,trivial⟩ ?_)
  refine gk_cond rfl (fun hc10=>?_) (fun hc10=>?_)
  ·have hc10:=of_decide_eq_true hc10
   refine gk_skip ?_
   refine gk_seq ?_
   refine gk_block ?_
   refine gk_seq ?_
   refine gk_any 19 (fun _=>mixed) (by kernel_rfl) ?_
   refine ph_y (y_fieldAddr fo25_0 rfl) ?_
   refine ph_y (y_loadB1 0 tf22 rfl rfl rfl) ?_
   refine ph_y (y_move rfl) ?_
   refine ph_y (y_indexE se22 rfl rfl (fun _ hw=>(Rd.has (Has.rd hl) hw)) (by omega) (by omega)) ?_
   refine ph_y (y_loadE (vs:=[_,_,_,_,_,_,_,_,_,_,_,_,_,_,_,_,_,_,_,_]) tf37 rfl (fun _ hw=>(Rd.has (Has.rd hl) hw)) (by omega) (by omega) rfl) ?_
   refine ph_y (y_call en19 rfl (fun w hw=>rvalidsheet_c ((S.getD (i).toNat default).a) ((S.getD (i).toNat default).cap) ((S.getD (i).toNat default).s) w (Rd.has (Has.rd (hsh _ (getD_memS (by omega)))) hw) (hss _ (getD_memS (by omega))) (hco _ (getD_memS (by omega))) (hfS _ (getD_memS (by omega))))) ?_
   refine ph_y (y_not rfl) ?_
   refine ph_y (y_move rfl) ?_
   refine ph_gF rfl rfl (fun hgd=>by(try rw [hgd]); have hgd0:=hgd; (try simp only [Bool.not_eq_true',Bool.not_eq_false'] at hgd0); exact(y_loadBA 0 tf25 rfl rfl (vs:=[_,_]) rfl rfl)) ?_
   refine ph_gF rfl rfl (fun hgd=>by(try rw [hgd]); have hgd0:=hgd; (try simp only [Bool.not_eq_true',Bool.not_eq_false'] at hgd0); exact(y_fieldAddr fo25_0 rfl)) ?_
   refine ph_gF rfl rfl (fun hgd=>by(try rw [hgd]); have hgd0:=hgd; (try simp only [Bool.not_eq_true',Bool.not_eq_false'] at hgd0); exact(y_loadB1 0 tf22 rfl rfl rfl)) ?_
   refine ph_gF rfl rfl (fun hgd=>by(try rw [hgd]); have hgd0:=hgd; (try simp only [Bool.not_eq_true',Bool.not_eq_false'] at hgd0); exact(y_move rfl)) ?_
   refine ph_gF rfl rfl (fun hgd=>by(try rw [hgd]); have hgd0:=hgd; (try simp only [Bool.not_eq_true',Bool.not_eq_false'] at hgd0); exact(y_indexE se22 rfl rfl (fun _ hw=>(Rd.has (Has.rd hl) hw)) (by omega) (by omega))) ?_
   refine ph_gF rfl rfl (fun hgd=>by(try rw [hgd]); have hgd0:=hgd; (try simp only [Bool.not_eq_true',Bool.not_eq_false'] at hgd0); exact(y_fieldE fo37_0 rfl (fun w hw=>elems_addr (i:=i) (Rd.has (Has.rd hl) hw) (by omega) (by omega)))) ?_
   refine ph_gF rfl rfl (fun hgd=>by(try rw [hgd]); have hgd0:=hgd; (try simp only [Bool.not_eq_true',Bool.not_eq_false'] at hgd0); exact(y_loadEF tf9 rfl (fun _ hw=>(Rd.has (Has.rd hl) hw)) (by omega) (by omega) rfl)) ?_
   refine ph_gF rfl rfl (fun hgd=>by(try rw [hgd]); have hgd0:=hgd; (try simp only [Bool.not_eq_true',Bool.not_eq_false'] at hgd0); exact(y_call (v:=.int .i64 (sheetI S ((S.getD (i).toNat default).s.name))) en41 rfl (fun w hw=>rfindsheet_c _ _ S _ _ _ _ w (Rd.has (Has.rd hl) hw) (by assumption)))) ?_
   refine ph_gF rfl rfl (fun hgd=>by(try rw [hgd]); have hgd0:=hgd; (try simp only [Bool.not_eq_true',Bool.not_eq_false'] at hgd0); exact(y_move rfl)) ?_
   refine ph_gF rfl rfl (fun hgd=>by(try rw [hgd]); have hgd0:=hgd; (try simp only [Bool.not_eq_true',Bool.not_eq_false'] at hgd0); exact(y_neq rfl rfl)) ?_
   refine ph_y (y_pickOr rfl rfl rfl) ?_
   refine gk_nil (gk_sub (T':=[(1,_),(2,_),(3,_),(31,_)]) ⟨rfl,rfl,rfl,rfl,trivial⟩ ?_)
   refine gk_cond rfl (fun hc31=>?_) (fun hc31=>?_)
   ·have hno:shAt S i.toNat=false:=of_nt ((shAt_ref g0 hc10).symm.trans hc31)
    refine gk_seq ?_
    refine gk_region ?_
    refine gk_y rfl rfl (y_assign rfl) ?_
    refine gk_nil (gk_sub (T':=[(1,_),(2,_),(3,_)]) ⟨rfl,rfl,rfl,trivial⟩ ?_)
    refine gk_ret ?_
    refine gk_pure (rv_one rfl (r1_tmp rfl)) ?_
    rw [plan_noS g0 hc10 hno]
   ·have hyes:shAt S i.toNat=true:=of_nf ((shAt_ref g0 hc10).symm.trans hc31)
    refine gk_skip ?_
    refine gk_region ?_
    refine gk_y rfl rfl (y_move rfl) ?_
    refine gk_y rfl rfl (y_addI rfl rfl (by omega) (by omega)) ?_
    refine gk_y rfl rfl (y_assign rfl) ?_
    refine gk_nil (gk_sub (T':=[(1,_),(2,_),(3,_)]) ⟨rfl,rfl,rfl,trivial⟩ ?_)
    exact gk_next (i+1) ⟨rfl,rfl,rfl,trivial⟩ rfl ⟨by omega,by omega,true_succ g0 g2 hyes⟩ (by omega)
  ·have hc10:=of_decide_eq_false hc10
   have hS:=sheets_all (S:=S) (fun j hj=>g2 j (by omega))
   refine gk_exit rfl ?_
   refine gk_seq ?_
   refine gk_seq ?_
   refine gk_region ?_
   refine gk_y rfl rfl (y_assign rfl) ?_
   refine gk_nil (gk_sub (T':=[(1,_),(2,_),(4,_)]) ⟨rfl,rfl,rfl,trivial⟩ ?_)
   refine gk_block ?_
   refine gk_loop (X:=Int) (fun(i:Int)=>[(1,.pointer (some ⟨b1,0,none⟩)),(2,.bool false),(4,.int .i64 i)]) (fun(i:Int)=>[Box b1 [.slice a S.length cap,.slice b V.length bcap] 25]) (fun(i:Int)=>(0≤i∧i≤V.length∧∀ j:Nat,(j:Int) < i→wlAt S V j=true)) (fun(i:Int)=>(V.length - i).toNat) 0 ⟨rfl,rfl,rfl,trivial⟩ rfl ?_ ?_
   ·exact⟨by omega,by omega,fun j hj=>by omega⟩
   ·rintro i hI
    obtain⟨k0,k1,k2⟩:=hI
    refine gk_seq ?_
    refine gk_seq ?_
    refine gk_region ?_
    refine gk_y rfl rfl (y_move rfl) ?_
    refine gk_y rfl rfl (y_fieldAddr fo25_1 rfl) ?_
    refine gk_y rfl rfl (y_loadB1 0 tf23 rfl rfl rfl) ?_
    refine gk_y rfl rfl (y_lenS (Tryz.underlying23) rfl) ?_
    refine gk_y rfl rfl (y_lss rfl rfl) ?_
    refine gk_nil (gk_sub (T':=[(1,_),(2,_),(4,_),(36,_)]) ⟨rfl,rfl,rfl,rfl,trivial⟩ ?_)
    refine gk_cond rfl (fun hc36=>?_) (fun hc36=>?_)
    ·have hc36:=of_decide_eq_true hc36
     have hlt:=fun h=>sheetI_lt (S:=S) (n:=(V.getD (i).toNat default).s.sheet) h
     refine gk_skip ?_
     refine gk_seq ?_
     refine gk_block ?_
     refine gk_seq ?_
     refine gk_any 9 (fun _=>mixed) (by kernel_rfl) ?_
     refine ph_y (y_loadBA 0 tf25 rfl rfl (vs:=[_,_]) rfl rfl) ?_
     refine ph_y (y_fieldAddr fo25_1 rfl) ?_
     refine ph_y (y_loadB1 0 tf23 rfl rfl rfl) ?_
     refine ph_y (y_move rfl) ?_
     refine ph_y (y_indexE se23 rfl rfl (fun _ hw=>(Rd.has (Has.rd hlw) hw)) (by omega) (by omega)) ?_
     refine ph_y (y_fieldE fo65_1 rfl (fun w hw=>elems_addr (i:=i) (Rd.has (Has.rd hlw) hw) (by omega) (by omega))) ?_
     refine ph_y (y_loadEF tf9 rfl (fun _ hw=>(Rd.has (Has.rd hlw) hw)) (by omega) (by omega) rfl) ?_
     refine ph_y (y_call en41 rfl (fun w hw=>rfindsheet_c _ _ S _ _ _ _ w (Rd.has (Has.rd hl) hw) (by assumption))) ?_
     refine ph_y (y_assign rfl) ?_
     refine gk_nil (gk_sub (T':=[(1,_),(2,_),(4,_),(5,_)]) ⟨rfl,rfl,rfl,rfl,trivial⟩ ?_)
     refine gk_seq ?_
     refine gk_any 28 (fun _=>mixed) (by kernel_rfl) ?_
     refine ph_y (y_move rfl) ?_
     refine ph_y (y_lss rfl rfl) ?_
     refine ph_y (y_move rfl) ?_
     refine ph_gF rfl rfl (fun hgd=>by(try rw [hgd]); have hgd0:=hgd; (try simp only [Bool.not_eq_true',decide_eq_false_iff_not] at hgd0); exact(y_fieldAddr fo25_1 rfl)) ?_
     refine ph_gF rfl rfl (fun hgd=>by(try rw [hgd]); have hgd0:=hgd; (try simp only [Bool.not_eq_true',decide_eq_false_iff_not] at hgd0); exact(y_loadB1 0 tf23 rfl rfl rfl)) ?_
     refine ph_gF rfl rfl (fun hgd=>by(try rw [hgd]); have hgd0:=hgd; (try simp only [Bool.not_eq_true',decide_eq_false_iff_not] at hgd0); exact(y_move rfl)) ?_
     refine ph_gF rfl rfl (fun hgd=>by(try rw [hgd]); have hgd0:=hgd; (try simp only [Bool.not_eq_true',decide_eq_false_iff_not] at hgd0); exact(y_indexE se23 rfl rfl (fun _ hw=>(Rd.has (Has.rd hlw) hw)) (by omega) (by omega))) ?_
     refine ph_gF rfl rfl (fun hgd=>by(try rw [hgd]); have hgd0:=hgd; (try simp only [Bool.not_eq_true',decide_eq_false_iff_not] at hgd0); exact(y_loadE (vs:=[_,_,_,_]) tf65 rfl (fun _ hw=>(Rd.has (Has.rd hlw) hw)) (by omega) (by omega) rfl)) ?_
     refine ph_gF rfl rfl (fun hgd=>by(try rw [hgd]); have hgd0:=hgd; (try simp only [Bool.not_eq_true',decide_eq_false_iff_not] at hgd0); exact(y_fieldAddr fo25_0 rfl)) ?_
     refine ph_gF rfl rfl (fun hgd=>by(try rw [hgd]); have hgd0:=hgd; (try simp only [Bool.not_eq_true',decide_eq_false_iff_not] at hgd0); exact(y_loadB1 0 tf22 rfl rfl rfl)) ?_
     refine ph_gF rfl rfl (fun hgd=>by(try rw [hgd]); have hgd0:=hgd; (try simp only [Bool.not_eq_true',decide_eq_false_iff_not] at hgd0); exact(y_move rfl)) ?_
     refine ph_gF rfl rfl (fun hgd=>by(try rw [hgd]); have hgd0:=hgd; (try simp only [Bool.not_eq_true',decide_eq_false_iff_not] at hgd0); exact(y_indexE se22 rfl rfl (fun _ hw=>(Rd.has (Has.rd hl) hw)) (by omega) (by omega))) ?_
     refine ph_gF rfl rfl (fun hgd=>by(try rw [hgd]); have hgd0:=hgd; (try simp only [Bool.not_eq_true',decide_eq_false_iff_not] at hgd0); exact(y_loadE (vs:=[_,_,_,_,_,_,_,_,_,_,_,_,_,_,_,_,_,_,_,_]) tf37 rfl (fun _ hw=>(Rd.has (Has.rd hl) hw)) (by omega) (by omega) rfl)) ?_
     refine ph_gF rfl rfl (fun hgd=>by(try rw [hgd]); have hgd0:=hgd; (try simp only [Bool.not_eq_true',decide_eq_false_iff_not] at hgd0); exact(y_call (v:=.bool (wallB ((S.getD ((sheetI S ((V.getD (i).toNat default).s.sheet))).toNat default).s).height ((V.getD (i).toNat default).s))) en45 rfl (fun w hw=>rvalidwall_c ((V.getD (i).toNat default).a) ((V.getD (i).toNat default).cap) ((V.getD (i).toNat default).s) ((S.getD ((sheetI S ((V.getD (i).toNat default).s.sheet))).toNat default).a) ((S.getD ((sheetI S ((V.getD (i).toNat default).s.sheet))).toNat default).cap) ((S.getD ((sheetI S ((V.getD (i).toNat default).s.sheet))).toNat default).s) w (Rd.has (Has.rd (hwo _ (getD_memS (by omega)))) hw) (hsv _ (getD_memS (by omega))) (hkn _ (getD_memS (by omega))) (by have:=(sheetP_nums (hS _ (getD_memS (l:=S) (i:=(sheetI S (V.getD (i).toNat default).s.sheet).toNat) (by omega)))).height; omega) (hfV _ (getD_memS (by omega)))))) ?_
     refine ph_gF rfl rfl (fun hgd=>by(try rw [hgd]); have hgd0:=hgd; (try simp only [Bool.not_eq_true',decide_eq_false_iff_not] at hgd0); exact(y_not rfl)) ?_
     refine ph_y (y_pickOr rfl rfl rfl) ?_
     refine ph_y (y_move rfl) ?_
     refine ph_gF rfl rfl (fun hgd=>by(try rw [hgd]); have hgd0:=hgd; (try simp only [Bool.not_eq_true',Bool.or_eq_false_iff,Bool.not_eq_false',decide_eq_false_iff_not] at hgd0); exact(y_loadBA 0 tf25 rfl rfl (vs:=[_,_]) rfl rfl)) ?_
     refine ph_gF rfl rfl (fun hgd=>by(try rw [hgd]); have hgd0:=hgd; (try simp only [Bool.not_eq_true',Bool.or_eq_false_iff,Bool.not_eq_false',decide_eq_false_iff_not] at hgd0); exact(y_fieldAddr fo25_1 rfl)) ?_
     refine ph_gF rfl rfl (fun hgd=>by(try rw [hgd]); have hgd0:=hgd; (try simp only [Bool.not_eq_true',Bool.or_eq_false_iff,Bool.not_eq_false',decide_eq_false_iff_not] at hgd0); exact(y_loadB1 0 tf23 rfl rfl rfl)) ?_
     refine ph_gF rfl rfl (fun hgd=>by(try rw [hgd]); have hgd0:=hgd; (try simp only [Bool.not_eq_true',Bool.or_eq_false_iff,Bool.not_eq_false',decide_eq_false_iff_not] at hgd0); exact(y_move rfl)) ?_
     refine ph_gF rfl rfl (fun hgd=>by(try rw [hgd]); have hgd0:=hgd; (try simp only [Bool.not_eq_true',Bool.or_eq_false_iff,Bool.not_eq_false',decide_eq_false_iff_not] at hgd0); exact(y_indexE se23 rfl rfl (fun _ hw=>(Rd.has (Has.rd hlw) hw)) (by omega) (by omega))) ?_
     refine ph_gF rfl rfl (fun hgd=>by(try rw [hgd]); have hgd0:=hgd; (try simp only [Bool.not_eq_true',Bool.or_eq_false_iff,Bool.not_eq_false',decide_eq_false_iff_not] at hgd0); exact(y_fieldE fo65_0 rfl (fun w hw=>elems_addr (i:=i) (Rd.has (Has.rd hlw) hw) (by omega) (by omega)))) ?_
     refine ph_gF rfl rfl (fun hgd=>by(try rw [hgd]); have hgd0:=hgd; (try simp only [Bool.not_eq_true',Bool.or_eq_false_iff,Bool.not_eq_false',decide_eq_false_iff_not] at hgd0); exact(y_loadEF tf9 rfl (fun _ hw=>(Rd.has (Has.rd hlw) hw)) (by omega) (by omega) rfl)) ?_
     refine ph_gF rfl rfl (fun hgd=>by(try rw [hgd]); have hgd0:=hgd; (try simp only [Bool.not_eq_true',Bool.or_eq_false_iff,Bool.not_eq_false',decide_eq_false_iff_not] at hgd0); exact(y_call (v:=.int .i64 (wallI V ((V.getD (i).toNat default).s.name))) en27 rfl (fun w hw=>rfindwall_c _ _ _ _ _ V _ w (Rd.has (Has.rd hlw) hw) (by assumption)))) ?_
     refine ph_gF rfl rfl (fun hgd=>by(try rw [hgd]); have hgd0:=hgd; (try simp only [Bool.not_eq_true',Bool.or_eq_false_iff,Bool.not_eq_false',decide_eq_false_iff_not] at hgd0); exact(y_move rfl)) ?_
     refine ph_gF rfl rfl (fun hgd=>by(try rw [hgd]); have hgd0:=hgd; (try simp only [Bool.not_eq_true',Bool.or_eq_false_iff,Bool.not_eq_false',decide_eq_false_iff_not] at hgd0); exact(y_neq rfl rfl)) ?_
     refine ph_y (y_pickOr rfl rfl rfl) ?_
     refine gk_nil (gk_sub (T':=[(1,_),(2,_),(4,_),(74,_)]) ⟨rfl,rfl,rfl,rfl,trivial⟩ ?_)
     refine gk_cond rfl (fun hc74=>?_) (fun hc74=>?_)
     ·have hno:wlAt S V i.toNat=false:=of_nt ((wlAt_ref k0 hc36).symm.trans hc74)
      refine gk_seq ?_
      refine gk_region ?_
      refine gk_y rfl rfl (y_assign rfl) ?_
      refine gk_nil (gk_sub (T':=[(1,_),(2,_),(4,_)]) ⟨rfl,rfl,rfl,trivial⟩ ?_)
      refine gk_ret ?_
      refine gk_pure (rv_one rfl (r1_tmp rfl)) ?_
      rw [plan_noW k0 hc36 hno]
     ·have hyes:wlAt S V i.toNat=true:=of_nf ((wlAt_ref k0 hc36).symm.trans hc74)
      refine gk_skip ?_
      refine gk_region ?_
      refine gk_y rfl rfl (y_move rfl) ?_
      refine gk_y rfl rfl (y_addI rfl rfl (by omega) (by omega)) ?_
      refine gk_y rfl rfl (y_assign rfl) ?_
      refine gk_nil (gk_sub (T':=[(1,_),(2,_),(4,_)]) ⟨rfl,rfl,rfl,trivial⟩ ?_)
      exact gk_next (i+1) ⟨rfl,rfl,rfl,trivial⟩ rfl ⟨by omega,by omega,true_succ k0 k2 hyes⟩ (by omega)
    ·have hc36:=of_decide_eq_false hc36
     refine gk_exit rfl ?_
     refine gk_seq ?_
     refine gk_any 11 (fun _=>mixed) (by kernel_rfl) ?_
     refine ph_y (y_fieldAddr fo25_0 rfl) ?_
     refine ph_y (y_loadB1 0 tf22 rfl rfl rfl) ?_
     refine ph_y (y_lenS (Tryz.underlying22) rfl) ?_
     refine ph_y (y_leq rfl rfl) ?_
     refine ph_y (y_move rfl) ?_
     refine ph_gT rfl rfl (fun hgd=>by(try rw [hgd]); exact(y_fieldAddr fo25_1 rfl)) ?_
     refine ph_gT rfl rfl (fun hgd=>by(try rw [hgd]); exact(y_loadB1 0 tf23 rfl rfl rfl)) ?_
     refine ph_gT rfl rfl (fun hgd=>by(try rw [hgd]); exact(y_lenS (Tryz.underlying23) rfl)) ?_
     refine ph_gT rfl rfl (fun hgd=>by(try rw [hgd]); exact(y_leq rfl rfl)) ?_
     refine ph_y (y_pickAnd rfl rfl rfl) ?_
     refine ph_y (y_assign rfl) ?_
     refine gk_nil (gk_sub (T':=[(2,_)]) ⟨rfl,trivial⟩ ?_)
     refine gk_ret ?_
     refine gk_pure (rv_one rfl (r1_tmp rfl)) ?_
     rw [plan_yes hc10 hc36 g2 k2]
end Go.Proofs.YtdcfcfhmkfkgmaaGreatDoor
namespace Go.Proofs.YtdcfcfhmkfkgmaaGreatDoor
open Go.K Go.Stn Go.Pln Go.RowKit
noncomputable def daleT:ByteArray:=match Tryz.f42.body with
 | some (.seq _ (.seq (.region _ ops _) _))=>(match ops[0]? with
  | some o=>(match o.op with
   | .assign (.const (.string b))=>b
   | _=>⟨#[]⟩)
  | none=>⟨#[]⟩)
 | _=>⟨#[]⟩
set_option maxRecDepth 100000 in
set_option maxHeartbeats 1000000 in
theorem dale_c  (w:World)  :
  Calls Tryz.prog 42 #[] w (Pure (.string daleT) w):=by
 refine calls_of_gk (vs:=[]) Tryz.func42 rfl rfl (Nat.le_of_ble_eq_true rfl) ?_
 refine gk_seq ?_
 refine gk_region ?_
 refine gk_y rfl rfl (y_assign rfl) ?_
 refine gk_nil (gk_sub (T':=[(0,_)]) ⟨rfl,trivial⟩ ?_)
 refine gk_seq ?_
 refine gk_region ?_
 refine gk_y rfl rfl (y_assign rfl) ?_
 refine gk_nil (gk_sub (T':=[(0,_)]) ⟨rfl,trivial⟩ ?_)
 refine gk_ret ?_
 refine gk_pure (rv_one rfl (r1_tmp rfl)) ?_
 rfl
theorem dale_size:daleT.size≤40000:=by decide +kernel
end Go.Proofs.YtdcfcfhmkfkgmaaGreatDoor
namespace Go.K
open Go Go.RowKit
section
variable {α:Type} {k:Nat} {enc:α→List Value} {P:Program}
theorem run_append_new {t ty e:TypeId} {by_:Nat} {zs:List Value} (hf:AF P t e k by_ zs) (he:Enc k enc) {a a2:Option Addr} {cap c2:Nat} {l m:List α} {w:World} (hRo:Has w (Row a k cap e enc l)) (hm:Has w (Elems a2 k enc m)) (hb:(l.length+m.length)*by_≤140737488355328) (hl:l.length+m.length≤maxLen) (hg:cap < l.length+m.length) :
  ∃ a' cap' w',(Builtin.append_ #[t,t] ty #[.slice a l.length cap,.slice a2 m.length c2]).run P w=.ok (.slice a' (l++m).length cap') w'∧Ext w w'∧New w w' (Row a' k cap' e enc (l++m)):=by
 obtain⟨B,_,hR⟩:=hRo
 have hi:=hf.i
 cases hu:P.info? e with
 | none=>rw [hu] at hi; cases hi
 | some i=>
 rw [hu] at hi
 simp only [Option.map_some,Option.some.injEq,Prod.mk.injEq] at hi
 obtain⟨hsz,hby,hz⟩:=hi
 cases hz0:i.zero with
 | none=>rw [hz0] at hz; cases hz
 | some z=>
 have hzl:z.cells.size=i.size:=by
  rw [hz0] at hz
  simp only [Option.map_some,Option.some.injEq] at hz
  rw [hsz,←hf.zl,←hz]; simp
 have hcap:=Row.bounds hR
 have hsmall:l.length+m.length≤9223372036854775807:=by simp only [maxLen] at hl; omega
 have hm0:m≠[]:=fun h=>by subst h; simp at hg; omega
 obtain⟨x0,m',hm1⟩:∃ x m',m=x :: m':=by cases m with
  | nil=>exact absurd rfl hm0
  | cons x m'=>exact⟨x,m',rfl⟩
 obtain⟨b2,off2,ha2,_⟩:=elems_at hm (i:=0) (x:=x0) (by rw [hm1]; rfl)
 have hmlen:0 < m.length:=by rw [hm1]; simp
 have hnl:(m.flatMap enc).length=m.length*i.size:=by rw [flat_len he,hsz]
 have hnews:∀ j v,(m.flatMap enc)[j]?=some v→w.cell? ((⟨b2,off2,none⟩:Addr).add j)=some v:=by
  intro j v hj
  have hjl:j < m.length*k:=by rw [←flat_len he]; exact(List.getElem?_eq_some_iff.1 hj).1
  have hq:j / k < m.length:=Nat.div_lt_of_lt_mul (by rwa [Nat.mul_comm])
  obtain⟨b3,off3,ha3,hc3⟩:=elems_at hm (i:=j / k) (x:=m[j / k]) (by simp [hq])
  rw [ha2] at ha3
  simp only [Option.some.injEq,Addr.mk.injEq] at ha3
  obtain⟨rfl,rfl,_⟩:=ha3
  have hg:=flat_get he m (j / k) m[j / k] (by simp [hq])
  have hmod:j % k < k:=Nat.mod_lt _ he.pos
  have hdm:j / k*k+j % k=j:=by rw [Nat.mul_comm]; exact Nat.div_add_mod j k
  have hv:(enc m[j / k])[j % k]?=some v:=by
   rw [←hg,List.getElem?_take,if_pos hmod,List.getElem?_drop,hdm]; exact hj
  have:=cellsAt_get _ _ _ _ hc3 hv
  rw [addr_add]
  rwa [Nat.add_assoc,hdm] at this
 have hone:∀ u∈m.flatMap enc,u.oneCell' = true:=fun u hu'=>oneCell_of (List.all_eq_true.1 (flat_all he m) u hu')
 subst hsz; subst hby
 rcases hR with ⟨ha,hc0,hl0⟩ | ⟨b,off,cs,ha,hB,hbk,h1,h2,h3⟩
 ·subst ha; subst hc0; subst hl0
  have hr:=run_append_nil (P:=P) w t ty e i z hf.u hu hz0 ⟨b2,off2,none⟩ m.length c2 (m.flatMap enc) hnl hnews hmlen (by simp at hsmall; omega) (by simp at hb; omega)
  subst ha2
  refine⟨some ⟨w.heap.size,0,none⟩,grownCap w m.length 0 e,w.drew.alloc (.cells ((m.flatMap enc).toArray++Builtin.zeroCells z.cells (grownCap w m.length 0 e - m.length)) e),by simpa only [List.length_nil,Nat.zero_add,List.nil_append] using hr,⟨rfl,⟨rfl,Nat.le_succ _⟩,rfl,by simp,fun j hj=>heap_alloc_old w.drew _ hj⟩,(· = w.heap.size),fun j hj=>⟨by omega,by subst hj; simp⟩,.inr ⟨w.heap.size,0,m.flatMap enc++(Builtin.zeroCells z.cells (grownCap w m.length 0 e - m.length)).toList,rfl,fun _=>Iff.rfl,?_,?_,?_,?_⟩⟩
  ·refine(World.alloc_heap_new w.drew _).trans ?_
   congr 2
   exact Array.ext' (by simp)
  ·simpa using grownCap_ge w m.length 0 e
  ·have:=grownCap_ge w m.length 0 e
   simp only [List.length_append,hnl,Array.length_toList,size_zeroCells,hzl,Nat.zero_add,←Nat.add_mul]
   exact Nat.mul_le_mul_right _ (by omega)
  ·simp only [List.drop_zero,List.nil_append,←hnl,List.take_left]
 ·subst ha
  have holds:∀ j v,(l.flatMap enc)[j]?=some v→w.cell? ((⟨b,off,none⟩:Addr).add j)=some v:=by
   intro j v hj
   rw [addr_add,row_cells hbk]
   rw [←h3,List.getElem?_take] at hj
   split at hj
   ·rwa [List.getElem?_drop] at hj
   ·cases hj
  have hlo:(l.flatMap enc).length=l.length*i.size:=flat_len he l
  have hr:=run_append_grow (P:=P) w t ty e i z hf.u hu hz0 ⟨b,off,none⟩ l.length cap (l.flatMap enc) hlo holds ⟨b2,off2,none⟩ m.length c2 (m.flatMap enc) hnl hnews hg (by omega) (growslice_fits hg hb)
  subst ha2
  refine⟨some ⟨w.heap.size,0,none⟩,grownCap w (l.length+m.length) cap e,w.drew.alloc (.cells ((l.flatMap enc).toArray++(m.flatMap enc).toArray++Builtin.zeroCells z.cells (grownCap w (l.length+m.length) cap e - (l.length+m.length))) e),by simpa only [List.length_append] using hr,⟨rfl,⟨rfl,Nat.le_succ _⟩,rfl,by simp,fun j hj=>heap_alloc_old w.drew _ hj⟩,(· = w.heap.size),fun j hj=>⟨by omega,by subst hj; simp⟩,.inr ⟨w.heap.size,0,l.flatMap enc++m.flatMap enc++(Builtin.zeroCells z.cells (grownCap w (l.length+m.length) cap e - (l.length+m.length))).toList,rfl,fun _=>Iff.rfl,?_,?_,?_,?_⟩⟩
  ·refine(World.alloc_heap_new w.drew _).trans ?_
   congr 2
   exact Array.ext' (by simp)
  ·simpa using grownCap_ge w (l.length+m.length) cap e
  ·have:=grownCap_ge w (l.length+m.length) cap e
   simp only [List.length_append,hnl,hlo,Array.length_toList,size_zeroCells,hzl,Nat.zero_add,←Nat.add_mul]
   exact Nat.mul_le_mul_right _ (by omega)
  ·simp only [List.drop_zero,List.flatMap_append,List.length_append,Nat.add_mul]
   rw [←hlo,←hnl,←List.length_append,List.take_left]
variable {c:Cx} {ds:List Deferred} {H:List Res} {T:List (Nat×Value)} {d:Option Nat} {ty:TypeId} {ps:String} {af:Array Edge} {g:Option (Nat×Bool)} {x y:Operand}
theorem run_append_none {t ty e:TypeId} {by_:Nat} {zs:List Value} (hf:AF P t e k by_ zs) {a a2:Option Addr} {n cap c2:Nat} {w:World} (hcap:n≤cap) :
  (Builtin.append_ #[t,t] ty #[.slice a n cap,.slice a2 0 c2]).run P w=.ok (.slice a n cap) w:=by
 have hi:=hf.i
 cases hu:P.info? e with
 | none=>rw [hu] at hi; cases hi
 | some i=>
 have hfc:(Builtin.firstCells i.size 0 (.slice a2 0 c2)).run P w=.ok #[] w:=by
  cases a2 with
  | none=>exact run_firstCells_none w _ _ _ _
  | some b2=>exact run_firstCells_some w i.size 0 b2 _ _ [] (by simp) (by simp)
 cases a with
 | none=>simp [Builtin.append_,run_underlying hf.u,sizeOf,typeInfo,hu,Builtin.lenOf,hcap,hfc]
 | some b1=>simp [Builtin.append_,run_underlying hf.u,sizeOf,typeInfo,hu,Builtin.lenOf,hcap,hfc,storeCells]
theorem yx_appendNew {t e:TypeId} {by_:Nat} {zs:List Value} {a a2:Option Addr} {cap c2:Nat} {l m:List α} (hf:AF c.P t e k by_ zs) (he:Enc k enc)
  (hx:evo T x=some (.slice a l.length cap)) (hy:evo T y=some (.slice a2 m.length c2)) (hl:∀ w,Hp c.U c.w0 H w→Has w (Row a k cap e enc l)) (hm:∀ w,Hp c.U c.w0 H w→Has w (Elems a2 k enc m))
  (hb:(l.length+m.length)*by_≤140737488355328) (hlm:l.length+m.length≤maxLen) (hg:cap < l.length+m.length) :
  YX c ds H T ⟨d,.call ⟨.builtin .append,#[x,y],#[t,t]⟩,ty,ps,af,g⟩ (fun z:Option Addr×Nat=>.slice z.1 (l++m).length z.2) (fun z=>Row z.1 k z.2 e enc (l++m)):=by
 refine⟨fun A w hs hw=>?_⟩
 obtain⟨a',cap',w',hr,hx',hn⟩:=run_append_new (P:=c.P) (ty:=ty) hf he (c2:=c2) (hl w hw) (hm w hw) hb hlm hg
 unfold Yld
 rw [run_builtin («as»:=[x,y]) (vs:=[.slice a l.length cap,.slice a2 m.length c2]) (by simp [evs,hx,hy]) hs w]
 simp only [builtin]
 rw [run_val hr]
 exact⟨(a',cap'),rfl,hx',hn⟩
end
end Go.K
namespace Go.K
open Go Go.RowKit Go.Shelf Go.Proofs
theorem ext_bytesWorld (w:World) (e:TypeId) (s:ByteArray):Ext w (Lib.bytesWorld w e s):=by
 have h1:Ext w (w.drew.alloc (.cells (Lib.bytesCells w e s) e)):=⟨rfl,⟨rfl,Nat.le_succ _⟩,rfl,by simp,fun j hj=>heap_alloc_old w.drew _ hj⟩
 have hw:Lib.bytesWorld w e s={ (w.drew.alloc (.cells (Lib.bytesCells w e s) e)) with heap:=(Lib.bytesWorld w e s).heap }:=by
  unfold Lib.bytesWorld World.freeze
  rfl
 rw [hw]
 refine⟨rfl,⟨rfl,Nat.le_succ _⟩,rfl,?_,fun k hk=>?_⟩
 ·show w.heap.size≤(Lib.bytesWorld w e s).heap.size
  unfold Lib.bytesWorld World.freeze
  simp
 ·show(Lib.bytesWorld w e s).heap[k]?=_
  unfold Lib.bytesWorld World.freeze
  refine Array.getElem?_modify.trans ?_
  rw [if_neg (by show ¬ w.heap.size=k; omega)]
  exact h1.block k hk
end Go.K
namespace Go.Txt
open Go
def cutL (b:UInt8):List UInt8→List (List UInt8)
 | []=>[[]]
 | x :: r=>if x=b then [] :: cutL b r else match cutL b r with
  | []=>[[x]]
  | h :: t=>(x :: h) :: t
theorem cutL_end {b:UInt8}:∀ {p:List UInt8},(∀ x∈p,x≠b)→cutL b p=[p]
 | [],_=>rfl
 | x :: r,h=>by
  rw [cutL,if_neg (h x (by simp)),cutL_end (p:=r) (fun y hy=>h y (by simp [hy]))]
theorem cutL_hit {b:UInt8} {r:List UInt8}:∀ {p:List UInt8},(∀ x∈p,x≠b)→cutL b (p++b :: r)=p :: cutL b r
 | [],_=>by rw [List.nil_append,cutL,if_pos rfl]
 | x :: q,h=>by
  rw [List.cons_append,cutL,if_neg (h x (by simp)),cutL_hit (p:=q) (fun y hy=>h y (by simp [hy]))]
theorem cutL_pos (b:UInt8) (l:List UInt8):0 < (cutL b l).length:=by
 induction l with
 | nil=>simp [cutL]
 | cons x r ih=>
  rw [cutL]
  split
  ·simp
  ·split <;> simp
theorem cut_spec (l:List UInt8) (b:UInt8):(∃ p r,l=p++b :: r∧(∀ x∈p,x≠b)∧Lib.cut l [b]=(p,r,true))∨((∀ x∈l,x≠b)∧Lib.cut l [b]=(l,[],false)):=by
 have hge:=Lib.indexByte_ge l b
 by_cases h:Lib.indexByte l b = -1
 ·right
  refine⟨fun x hx e=>?_,?_⟩
  ·obtain⟨k,hk,rfl⟩:=List.getElem_of_mem hx
   exact Lib.indexByte_none h k (by rw [List.getElem?_eq_getElem hk,e])
  ·unfold Lib.cut
   rw [Lib.index_one,if_neg (by omega)]
 ·left
  obtain⟨o,ho⟩:∃ o:Nat,Lib.indexByte l b=o:=⟨(Lib.indexByte l b).toNat,by omega⟩
  obtain⟨h1,h2⟩:=Lib.indexByte_some ho
  have hlt:o < l.length:=(List.getElem?_eq_some_iff.1 h1).1
  refine⟨l.take o,l.drop (o+1),?_,fun x hx e=>?_,?_⟩
  ·have:l.drop o=b :: l.drop (o+1):=by
    rw [List.drop_eq_getElem_cons hlt]
    congr 1
    exact(List.getElem?_eq_some_iff.1 h1).2
   rw [←this,List.take_append_drop]
  ·obtain⟨k,hk,rfl⟩:=List.mem_take_iff_getElem.1 hx
   exact h2 k (by omega) (by rw [List.getElem?_eq_getElem (by omega),e])
  ·unfold Lib.cut
   rw [Lib.index_one,ho,if_pos (by omega)]
   simp
theorem split_spec (c:UInt8):∀ (k:Nat) (l:List UInt8),l.count c=k→Lib.splitK [c] 0 k l=cutL c l
 | 0,l,h=>by
  rw [Lib.splitK,cutL_end]
  intro x hx e
  subst e
  exact absurd (List.count_pos_iff.2 hx) (by omega)
 | k+1,l,h=>by
  rw [Lib.splitK,Lib.index_one]
  have hge:=Lib.indexByte_ge l c
  have hm:¬ Lib.indexByte l c = -1:=fun e=>by
   have h0:c∈l:=List.count_pos_iff.1 (by omega)
   obtain⟨j,hj,e2⟩:=List.getElem_of_mem h0
   exact Lib.indexByte_none e j (by rw [List.getElem?_eq_getElem hj,e2])
  rw [if_neg (fun e=>hm (beq_iff_eq.1 e))]
  obtain⟨o,ho⟩:∃ o:Nat,Lib.indexByte l c=o:=⟨(Lib.indexByte l c).toNat,by omega⟩
  obtain⟨h1,h2⟩:=Lib.indexByte_some ho
  have hlt:o < l.length:=(List.getElem?_eq_some_iff.1 h1).1
  have hl:l=l.take o++c :: l.drop (o+1):=by
   have:l.drop o=c :: l.drop (o+1):=by
    rw [List.drop_eq_getElem_cons hlt]
    congr 1
    exact(List.getElem?_eq_some_iff.1 h1).2
   rw [←this,List.take_append_drop]
  have hp:∀ x∈l.take o,x≠c:=fun x hx e=>by
   obtain⟨k,hk,rfl⟩:=List.mem_take_iff_getElem.1 hx
   exact h2 k (by omega) (by rw [List.getElem?_eq_getElem (by omega),e])
  have hc:(l.drop (o+1)).count c=k:=by
   have h3:=congrArg (List.count c) hl
   rw [h,List.count_append,List.count_cons_self,List.count_eq_zero_of_not_mem (fun hx=>hp c hx rfl)] at h3
   omega
  have ih:=split_spec c k (l.drop (o+1)) hc
  rw [ho,Int.toNat_natCast,Nat.add_zero,show o+[c].length=o+1 from rfl,ih]
  conv=>rhs; rw [hl]
  rw [cutL_hit hp]
def isDig (c:UInt8):Prop:=48≤c.toNat∧c.toNat≤57
instance (c:UInt8):Decidable (isDig c):=inferInstanceAs (Decidable (_∧_))
def decVal (acc:Nat) (l:List UInt8):Nat:=l.foldl (fun a c=>a*10+(c.toNat - 48)) acc
theorem decVal_cons (a:Nat) (c:UInt8) (r:List UInt8):decVal a (c :: r)=decVal (a*10+(c.toNat - 48)) r:=by unfold decVal; rw [List.foldl_cons]
theorem parse_digs:∀ (l:List UInt8) (acc:Nat),(∀ c∈l,isDig c)→(acc+1)*10 ^ l.length≤10 ^ 18→Lib.parseUint10 acc l=.ok (decVal acc l)
 | [],_,_,_=>rfl
 | c :: r,acc,hd,hb=>by
  have hc:=hd c (by simp)
  unfold isDig at hc
  rw [List.length_cons,Nat.pow_succ,Nat.mul_comm (10 ^ r.length) 10,←Nat.mul_assoc] at hb
  have hp:1≤10 ^ r.length:=Nat.pos_of_ne_zero (by simp)
  have h1:(acc+1)*10≤10 ^ 18:=Nat.le_trans (Nat.le_mul_of_pos_right _ hp) hb
  have h18:(10:Nat) ^ 18=1000000000000000000:=rfl
  rw [Lib.parseUint10,if_pos hc,if_neg (by omega),if_neg (by omega),decVal_cons]
  refine parse_digs r _ (fun x hx=>hd x (by simp [hx])) (Nat.le_trans (Nat.mul_le_mul_right _ ?_) hb)
  omega
end Go.Txt
namespace Go.K
open Go Go.RowKit Go.Shelf Go.Proofs
abbrev encS (s:ByteArray):List Value:=[.string s]
theorem encS_ok:Enc 1 encS:=⟨fun _=>rfl,fun _=>rfl,by decide⟩
def IntV (b:Nat):Res where
 A B w:=(∀ k,B k↔k=b)∧∃ m,w.cell? ⟨b,0,none⟩=some (.int .i64 m)
 loc _ w w' h hA:=⟨hA.1,let ⟨m,hm⟩:=hA.2; ⟨m,by
  have:=h b ((hA.1 b).2 rfl)
  simp only [World.cell?] at hm ⊢
  rw [this]; exact hm⟩⟩
theorem ext_drewN (w:World) (n:Nat):Ext w (w.drewN n):=⟨rfl,⟨rfl,Nat.le_add_right _ _⟩,rfl,Nat.le_refl _,fun _ _=>rfl⟩
section
variable {P:Program} {ρ:Ren}
abbrev mkB (l:List UInt8):ByteArray:=⟨l.toArray⟩
def cutV (s sep:ByteArray):Value:=.tuple #[.string (mkB (Lib.cut s.data.toList sep.data.toList).1),.string (mkB (Lib.cut s.data.toList sep.data.toList).2.1),.bool (Lib.cut s.data.toList sep.data.toList).2.2]
theorem cut_pure (L:Lays.n145 P ρ) (s sep:ByteArray) (w:World) (hs:s.size < 4294967281) (hm:Has w (IntV (ρ.g 1))):Calls P (ρ.f 145) #[.string s,.string sep] w (Pure (cutV s sep) w):=by
 obtain⟨_,_,_,m,hm⟩:=hm
 refine(Any.strings_Cut L s sep m w hs hm).mono ?_
 rintro e w' ⟨rfl,n,rfl⟩
 exact⟨rfl,ext_drewN w n⟩
def splitL (s:ByteArray) (c:UInt8):List ByteArray:=Lib.splitB ⟨#[c]⟩ 0 (Lib.countB s ⟨#[c]⟩) s
theorem splitL_data (s:ByteArray) (c:UInt8):(splitL s c).map (·.data.toList)=Txt.cutL c s.data.toList:=by
 unfold splitL
 rw [Lib.splitB_data]
 exact Txt.split_spec c _ _ (by rw [←Lib.count_one])
theorem split_gives (L:Lays.n146 P ρ) (hi9:(P.info? (ρ.t 9)).map (fun i=>(i.zero,i.size,i.bytes))=some (some (.string ByteArray.empty),1,16)) (s:ByteArray) (c:UInt8) (w:World) (hs:s.size < 4294967281) (hm:Has w (IntV (ρ.g 1))) :
  Calls P (ρ.f 146) #[.string s,.string ⟨#[c]⟩] w (Gives (fun b:Nat=>.slice (some ⟨b,0,none⟩) (splitL s c).length (splitL s c).length) (fun b=>Row (some ⟨b,0,none⟩) 1 (splitL s c).length (ρ.t 9) encS (splitL s c)) w):=by
 obtain⟨_,_,_,m,hm⟩:=hm
 have hlen:(splitL s c).length=Lib.countB s ⟨#[c]⟩+1:=Lib.splitB_all _ (show 1≤(⟨#[c]⟩:ByteArray).size from Nat.le_refl 1) 0 _ s rfl
 refine(Any.strings_Split L hi9 s ⟨#[c]⟩ m w hs hm (show 1≤(⟨#[c]⟩:ByteArray).size from Nat.le_refl 1)).mono ?_
 rintro e w' ⟨rfl,rfl⟩
 refine⟨w.heap.size,by rw [hlen],ext_alloc _,(· = w.heap.size),fun k hk=>by subst hk; simp,.inr ⟨w.heap.size,0,(splitL s c).map Value.string,rfl,fun _=>Iff.rfl,World.alloc_heap_new w _,Nat.le_refl _,by simp,?_⟩⟩
 rw [List.drop_zero,Nat.mul_one,←List.length_map (f:=Value.string),List.take_length]
 induction splitL s c with
 | nil=>rfl
 | cons x r ih=>rw [List.map_cons,List.flatMap_cons,ih]; rfl
def isNilI:Value→Bool
 | .nilIface=>true
 | _=>false
def atoiV (s:ByteArray):Int:=match Lib.atoiAll s.data.toList with
 | .ok v=>v
 | .range=>Lib.atoiSat s.data.toList
 | _=>0
end
section
variable {c:Cx} {ds:List Deferred} {T:List (Nat×Value)} {H:List Res} {d:Option Nat} {ty:TypeId} {ps:String} {af:Array Edge} {g:Option (Nat×Bool)} {x y z:Operand}
theorem y_ifaceNil {t t':TypeId} {v:Value} (ht:c.P.underlying t=some (.interface (c.P.methodsAt t))) (hx:evo T x=some v) (hv:v=.nilIface∨∃ u z,v=.iface u z) :
  Y c ds H T ⟨d,.binOp .eql t x (.const .nilIface) t',ty,ps,af,g⟩ (.bool (isNilI v)):=
 y_run fun a w ha _=>by
  have hxe:=ha.eval hx
  have hye:a.eval (.const .nilIface)=.nilIface:=rfl
  simp only [execOp,hxe,hye]
  rcases hv with rfl | ⟨u,z,rfl⟩
  ·have hg:(eqGuard .eql t x (.const .nilIface) .nilIface .nilIface).run c.P w=.ok () w:=by rw [eqGuard_nil_constR]; rfl
   refine run_val ?_
   rw [run_bind_ok hg]
   exact run_eql_nil_nil w t ht
  ·have hg:(eqGuard .eql t x (.const .nilIface) (.iface u z) .nilIface).run c.P w=.ok () w:=rfl
   refine run_val ?_
   rw [run_bind_ok hg]
   exact run_eql_held_nil w t u z ht
end
end Go.K
namespace Go.K
open Go Go.RowKit
abbrev encFld (p:Nat×Nat):List Value:=[.pointer (some ⟨p.1,p.2,none⟩)]
theorem encFld_ok:Enc 1 encFld:=⟨fun _=>rfl,fun _=>rfl,by decide⟩
theorem elems_dropA {α:Type} {k cap:Nat} {enc:α→List Value} {a:Option Addr} {l:List α} {B:Nat→Prop} {w:World} {n:Nat} (h:(Elems a k enc l).A B w) (hc:l.length≤cap) (h1:n≤l.length):(Elems (subA a k n cap) k enc (l.drop n)).A B w:=by
 by_cases hd:l.drop n=[]
 ·exact .inl hd
 ·rcases h with rfl | ⟨b,off,rfl,hB,hx⟩
  ·simp at hd
  ·refine .inr ⟨b,off+n*k,?_,hB,fun i x hi=>?_⟩
   ·unfold subA
    rw [if_neg (fun e=>hd (by rw [List.drop_eq_nil_iff]; omega))]
    simp [addr_add]
   ·rw [List.getElem?_drop] at hi
    have:=hx (n+i) x hi
    rwa [show off+n*k+i*k=off+(n+i)*k by rw [Nat.add_mul]; omega]
def Rdr (tb:TypeId) (r:Nat) (ws:List ByteArray):Res where
 A B w:=∃ a1 c1,ws.length≤c1∧(SepR [Box r [.slice a1 ws.length c1] tb,Elems a1 1 encS ws]).A B w
 loc B w w' h hA:=let ⟨a1,c1,h1,h2⟩:=hA; ⟨a1,c1,h1,(SepR [Box r [.slice a1 ws.length c1] tb,Elems a1 1 encS ws]).loc B w w' h h2⟩
section
variable {c:Cx} {ds:List Deferred} {T:List (Nat×Value)} {H:List Res} {K:Act→World→Prop} {tb:TypeId} {r:Nat} {ws:List ByteArray}
theorem gk_openRdr (h:∀ a1 c1,ws.length≤c1→GK c ds K T (Box r [.slice a1 ws.length c1] tb :: Elems a1 1 encS ws :: H)):GK c ds K T (Rdr tb r ws :: H):=by
 intro a w ha hw
 obtain⟨hb,B,hB,⟨a1,c1,h1,h2⟩,hr⟩:=hw
 exact h a1 c1 h1 a w ha (Hp.split (L:=[_,_]) ⟨hb,B,hB,h2,hr⟩)
theorem gk_closeRdr {a1:Option Addr} {c1:Nat} (h1:ws.length≤c1) (h:GK c ds K T (Rdr tb r ws :: H)):GK c ds K T (Box r [.slice a1 ws.length c1] tb :: Elems a1 1 encS ws :: H):=by
 intro a w ha hw
 obtain⟨hb,B,hB,h2,hr⟩:=Hp.pack (L:=[_,_]) (H:=H) hw
 exact h a w ha ⟨hb,B,hB,⟨a1,c1,h1,h2⟩,hr⟩
theorem gk_nextRdr {a1:Option Addr} {c1:Nat} (h1:ws.length≤c1) (h0:1≤ws.length) (h:GK c ds K T (Rdr tb r (ws.drop 1) :: H)):GK c ds K T (Box r [.slice (subA a1 1 1 c1) (ws.drop 1).length (c1 - 1)] tb :: Elems a1 1 encS ws :: H):=by
 intro a w ha hw
 refine gk_closeRdr (a1:=subA a1 1 1 c1) (c1:=c1 - 1) (by rw [List.length_drop]; omega) h a w ha ?_
 have h2:=hw.swap
 obtain⟨hb,B,hB,hA,hr⟩:=h2
 exact Hp.swap ⟨hb,B,hB,elems_dropA hA h1 h0,hr⟩
end
theorem ok_bind {α β:Type} (a:α) (f:α→Except Int β):(Except.ok a >>= f)=f a:=rfl
theorem err_bind {α β:Type} (k:Int) (f:α→Except Int β):((Except.error k:Except Int α) >>= f)=.error k:=rfl
end Go.K
namespace Go.Pln
open Go Go.K Go.RowKit Go.Stn
def nextE:List ByteArray→Except Int (ByteArray×List ByteArray)
 | []=>.error 4
 | x :: r=>.ok (x,r)
def sayE (u:ByteArray) (ws:List ByteArray):Except Int (Unit×List ByteArray):=do
 let x ←nextE ws
 if (x.1.toList == u.toList)=true then .ok ((),x.2) else .error 4
def nameE (ws:List ByteArray):Except Int (ByteArray×List ByteArray):=do
 let x ←nextE ws
 if namedB x.1=true then .ok (x.1,x.2) else .error 4
def endE (ws:List ByteArray):Except Int (Unit×List ByteArray):=if ws.length=0 then .ok ((),ws) else .error 4
def numE (ws:List ByteArray):Except Int (Int×List ByteArray):=do
 let x ←nextE ws
 if numW x.1=true then .ok (atoiV x.1,x.2) else .error 4
def numsE:Nat→List ByteArray→Except Int (List Int×List ByteArray)
 | 0,ws=>.ok ([],ws)
 | n+1,ws=>do
  let x ←numE ws
  let y ←numsE n x.2
  .ok (x.1 :: y.1,y.2)
def setAll:List Value→List Nat→List Int→List Value
 | cs,[],_=>cs
 | cs,o :: os,l=>setAll (cs.set o (.int .i64 (l.getD 0 0))) os (l.drop 1)
def kindE (l:List ByteArray) (f:Nat) (ws:List ByteArray):Except Int (Int×List ByteArray):=do
 let x ←nextE ws
 if findI (fun y=>x.1.toList == y.toList) (l.drop f) < 0 then .error 4 else .ok (findI (fun y=>x.1.toList == y.toList) (l.drop f)+f,x.2)
def oneE (u:ByteArray) (n:Nat) (ws:List ByteArray):Except Int (List Int×List ByteArray):=do
 let x ←sayE u ws
 numsE n x.2
def wLeast:ByteArray:=⟨#[108,101,97,115,116]⟩
def heightsA (acc:List Int):List ByteArray→Except Int (List Int×List ByteArray)
 | []=>.ok (acc,[])
 | x :: r=>if (x.toList == wLeast.toList)=true then .ok (acc,x :: r) else if numW x=true then heightsA (acc++[atoiV x]) r else .error 4
def copesW:List ByteArray:=[⟨#[110,111,110,101]⟩,⟨#[102,108,97,116]⟩,⟨#[117,112,114,105,103,104,116]⟩,⟨#[98,117,99,107]⟩]
def opensW:List ByteArray:=[⟨#[]⟩,⟨#[115,109,111,111,116]⟩,⟨#[108,117,110,107,121]⟩,⟨#[115,116,105,108,101]⟩,⟨#[103,97,116,101]⟩]
def sheetE (ws:List ByteArray):Except Int (Sht×List ByteArray):=do
 let x0 ←nameE ws
 let x1 ←oneE ⟨#[98,97,115,101]⟩ 1 x0.2
 let x2 ←oneE ⟨#[98,97,116,116,101,114]⟩ 1 x1.2
 let x3 ←oneE ⟨#[104,101,105,103,104,116]⟩ 1 x2.2
 let x4 ←oneE ⟨#[115,107,105,110]⟩ 1 x3.2
 let x5 ←sayE ⟨#[104,101,105,103,104,116,115]⟩ x4.2
 let x6 ←heightsA [] x5.2
 let x7 ←oneE ⟨#[108,101,97,115,116]⟩ 1 x6.2
 let x8 ←oneE ⟨#[108,97,112]⟩ 1 x7.2
 let x9 ←oneE ⟨#[114,117,110]⟩ 1 x8.2
 let x10 ←oneE ⟨#[116,104,114,111,117,103,104]⟩ 2 x9.2
 let x11 ←oneE ⟨#[102,111,111,116,105,110,103]⟩ 2 x10.2
 let x12 ←sayE ⟨#[99,111,112,101]⟩ x11.2
 let x13 ←kindE copesW 0 x12.2
 let x14 ←numsE 3 x13.2
 let x15 ←oneE ⟨#[102,114,105,99,116,105,111,110]⟩ 2 x14.2
 let x16 ←oneE ⟨#[114,111,111,100]⟩ 1 x15.2
 if x6.1.length=0 then .error 4 else
 .ok (⟨x0.1,x1.1.getD 0 0,x2.1.getD 0 0,x3.1.getD 0 0,x4.1.getD 0 0,x6.1,x7.1.getD 0 0,x8.1.getD 0 0,x9.1.getD 0 0,x10.1.getD 0 0,(x10.1.drop 1).getD 0 0,x11.1.getD 0 0,(x11.1.drop 1).getD 0 0,x13.1,
  x14.1.getD 0 0,(x14.1.drop 1).getD 0 0,((x14.1.drop 1).drop 1).getD 0 0,x15.1.getD 0 0,(x15.1.drop 1).getD 0 0,x16.1.getD 0 0⟩,x16.2)
structure Plan where
 S:List Sht
 V:List Wll
def sheetJ (S:List Sht) (n:ByteArray):Int:=findI (fun z=>z.name.toList == n.toList) S
def wallJ (V:List Wll) (n:ByteArray):Int:=findI (fun z=>z.name.toList == n.toList) V
def getS (S:List Sht) (n:ByteArray):Sht:=if 0≤sheetJ S n then S.getD (sheetJ S n).toNat default else default
theorem findI_map {α β:Type} (f:α→β) (p:β→Bool) (l:List α):findI p (l.map f)=findI (fun x=>p (f x)) l:=by
 unfold findI
 rw [List.any_map,List.findIdx_map]; rfl
theorem sheetI_J (S:List ShC) (n:ByteArray):sheetI S n=sheetJ (S.map (·.s)) n:=(findI_map (fun z:ShC=>z.s) (fun z=>z.name.toList == n.toList) S).symm
theorem wallI_J (V:List WlC) (n:ByteArray):wallI V n=wallJ (V.map (·.s)) n:=(findI_map (fun z:WlC=>z.s) (fun z=>z.name.toList == n.toList) V).symm
theorem getD_map' {α β:Type} [Inhabited α] [Inhabited β] (f:α→β) (hf:f default=default) (l:List α) (i:Nat):(l.map f).getD i default=f (l.getD i default):=by
 rw [List.getD_eq_getElem?_getD,List.getD_eq_getElem?_getD,List.getElem?_map]
 cases l[i]? <;> simp [hf]
theorem getSh_S (S:List ShC) (n:ByteArray):(getSh S n).s=getS (S.map (·.s)) n:=by
 unfold getSh getS
 rw [←sheetI_J]
 split
 ·rw [getD_map' (fun z:ShC=>z.s) rfl]
 ·rfl
def sheetLineE (q:Plan) (ws:List ByteArray):Except Int Plan:=do
 let a ←sheetE ws
 let _ ←endE a.2
 if 0≤sheetJ q.S a.1.name then .error 7 else if sheetP a.1=true then(if q.S.length=20 then .error 5 else .ok ⟨q.S++[a.1],q.V⟩) else .error 2
def wallLineE (q:Plan) (ws:List ByteArray):Except Int Plan:=do
 let a ←nameE ws
 let b ←nameE a.2
 let c ←numsE 1 b.2
 let _ ←endE c.2
 if 0≤wallJ q.V a.1 then .error 7 else if 0≤sheetJ q.S b.1 then
  (if wallB (getS q.S b.1).height ⟨a.1,b.1,c.1.getD 0 0,[]⟩=true then(if q.V.length=50 then .error 5 else .ok ⟨q.S,q.V++[⟨a.1,b.1,c.1.getD 0 0,[]⟩]⟩) else .error 2) else .error 6
def more (v:Wll) (o:Opn):Wll:=⟨v.name,v.sheet,v.length,v.opens++[o]⟩
def openLineE (q:Plan) (ws:List ByteArray):Except Int Plan:=do
 let a ←kindE opensW 1 ws
 let b ←numsE 4 a.2
 let _ ←endE b.2
 if q.V.length=0 then .error 4 else
  let o:Opn:=⟨a.1,b.1.getD 0 0,(b.1.drop 1).getD 0 0,((b.1.drop 1).drop 1).getD 0 0,(((b.1.drop 1).drop 1).drop 1).getD 0 0⟩
  let v:=q.V.getD (q.V.length - 1) default
  if wallB (getS q.S v.sheet).height (more v o)=true then .ok ⟨q.S,q.V.set (q.V.length - 1) (more v o)⟩ else .error 2
def formE (q:Plan) (u:ByteArray) (ws:List ByteArray):Except Int Plan:=
 if (u == ⟨#[115,104,101,101,116]⟩)=true then sheetLineE q ws
 else if (u == ⟨#[119,97,108,108]⟩)=true then wallLineE q ws
 else if (u == ⟨#[111,112,101,110]⟩)=true then openLineE q ws
 else .error 4
def lineE (q:Plan) (t:ByteArray):Except Int Plan:=do
 let x ←nextE (splitL t 32)
 formE q x.1 x.2
def codeE {α:Type}:Except Int α→Int
 | .ok _=>0
 | .error k=>k
structure OkQ (q:Plan):Prop where
 sh:∀ s∈q.S,sheetP s=true
 ls:q.S.length≤20
 lv:q.V.length≤50
 wv:∀ v∈q.V,v.opens.length≤20∧∀ o∈v.opens,Knd o
theorem kindE_in {l:List ByteArray} {f:Nat} {ws:List ByteArray} {x:Int×List ByteArray} (h:kindE l f ws=.ok x):(f:Int)≤x.1∧x.1 < (l.length:Int):=by
 unfold kindE at h
 cases hx:nextE ws with
 | error k=>rw [hx,err_bind] at h; cases h
 | ok y=>
  rw [hx,ok_bind] at h
  split at h
  ·cases h
  ·rename_i h0
   cases h
   have:=findI_lt (fun z=>y.1.toList == z.toList) (l.drop f)
   rw [List.length_drop] at this
   dsimp only
   omega
theorem wallB_count {top:Int} {v:Wll} (h:wallB top v=true):v.opens.length≤20:=(wall0_len (wallB_0 h)).2
theorem okQ_sheet {q q':Plan} {ws:List ByteArray} (h:OkQ q) (he:sheetLineE q ws=.ok q'):OkQ q':=by
 unfold sheetLineE at he
 cases h1:sheetE ws with
 | error k=>rw [h1,err_bind] at he; cases he
 | ok a=>
  rw [h1,ok_bind] at he
  cases h2:endE a.2 with
  | error k=>rw [h2,err_bind] at he; cases he
  | ok b=>
   rw [h2,ok_bind] at he
   split at he
   ·cases he
   ·split at he
    ·rename_i hs
     split at he
     ·cases he
     ·rename_i hl
      cases he
      exact⟨fun s hs'=>by
       rcases List.mem_append.1 hs' with h' | h'
       ·exact h.sh s h'
       ·rw [List.mem_singleton] at h'; rw [h']; exact hs,by have:=h.ls; simp only [List.length_append,List.length_cons,List.length_nil]; omega,h.lv,h.wv⟩
    ·cases he
theorem okQ_wall {q q':Plan} {ws:List ByteArray} (h:OkQ q) (he:wallLineE q ws=.ok q'):OkQ q':=by
 unfold wallLineE at he
 cases h1:nameE ws with
 | error k=>rw [h1,err_bind] at he; cases he
 | ok a=>
  rw [h1,ok_bind] at he
  cases h2:nameE a.2 with
  | error k=>rw [h2,err_bind] at he; cases he
  | ok b=>
   rw [h2,ok_bind] at he
   cases h3:numsE 1 b.2 with
   | error k=>rw [h3,err_bind] at he; cases he
   | ok c=>
    rw [h3,ok_bind] at he
    cases h4:endE c.2 with
    | error k=>rw [h4,err_bind] at he; cases he
    | ok d=>
     rw [h4,ok_bind] at he
     split at he
     ·cases he
     ·split at he
      ·split at he
       ·split at he
        ·cases he
        ·rename_i hl
         cases he
         exact⟨h.sh,h.ls,by have:=h.lv; simp only [List.length_append,List.length_cons,List.length_nil]; omega,fun v hv=>by
          rcases List.mem_append.1 hv with h' | h'
          ·exact h.wv v h'
          ·rw [List.mem_singleton] at h'; rw [h']; exact⟨by simp,fun o ho=>by cases ho⟩⟩
       ·cases he
      ·cases he
theorem okQ_open {q q':Plan} {ws:List ByteArray} (h:OkQ q) (he:openLineE q ws=.ok q'):OkQ q':=by
 unfold openLineE at he
 cases h1:kindE opensW 1 ws with
 | error k=>rw [h1,err_bind] at he; cases he
 | ok a=>
  have hk:=kindE_in h1
  rw [h1,ok_bind] at he
  cases h2:numsE 4 a.2 with
  | error k=>rw [h2,err_bind] at he; cases he
  | ok b=>
   rw [h2,ok_bind] at he
   cases h3:endE b.2 with
   | error k=>rw [h3,err_bind] at he; cases he
   | ok d=>
    rw [h3,ok_bind] at he
    split at he
    ·cases he
    ·rename_i h0
     dsimp only at he
     split at he
     ·rename_i hw
      cases he
      refine⟨h.sh,h.ls,by rw [List.length_set]; exact h.lv,fun v hv=>?_⟩
      rcases List.mem_or_eq_of_mem_set hv with h' | h'
      ·exact h.wv v h'
      ·rw [h']
       refine⟨wallB_count hw,fun o ho=>?_⟩
       rcases List.mem_append.1 ho with h'' | h''
       ·exact(h.wv _ (getD_memS (by omega))).2 o h''
       ·rw [List.mem_singleton] at h''
        rw [h'']
        have:(opensW.length:Int)=5:=rfl
        exact⟨by dsimp only; omega,by dsimp only; omega⟩
     ·cases he
theorem okQ_line {q q':Plan} {t:ByteArray} (h:OkQ q) (he:lineE q t=.ok q'):OkQ q':=by
 unfold lineE at he
 cases h1:nextE (splitL t 32) with
 | error k=>rw [h1,err_bind] at he; cases he
 | ok x=>
  rw [h1,ok_bind] at he
  unfold formE at he
  split at he
  ·exact okQ_sheet h he
  ·split at he
   ·exact okQ_wall h he
   ·split at he
    ·exact okQ_open h he
    ·cases he
theorem next_ok {ws:List ByteArray} (h:¬ ws.length=0):nextE ws=.ok (ws.getD 0 default,ws.drop 1):=by
 cases ws with
 | nil=>exact absurd rfl h
 | cons x r=>rfl
theorem next_err {ws:List ByteArray} (h:ws.length=0):nextE ws=.error 4:=by
 cases ws with
 | nil=>rfl
 | cons x r=>simp at h
theorem numsE_one (ws:List ByteArray):numsE 1 ws=(numE ws >>= fun x=>.ok ([x.1],x.2)):=by
 unfold numsE
 cases numE ws <;> rfl
theorem numW_len {s:ByteArray} (h:numW s=true):s.size≤6:=by
 unfold numW at h
 simp only [Bool.and_eq_true,decide_eq_true_eq] at h
 omega
theorem numE_len {ws:List ByteArray} {x:Int×List ByteArray} (h:numE ws=.ok x):x.2.length < ws.length:=by
 cases ws with
 | nil=>cases h
 | cons y r=>
  unfold numE at h
  rw [show nextE (y :: r)=.ok (y,r) from rfl,ok_bind] at h
  split at h
  ·cases h; simp
  ·cases h
theorem nums1_len {ws:List ByteArray} {x:List Int×List ByteArray} (h:numsE 1 ws=.ok x):x.2.length < ws.length:=by
 rw [numsE_one] at h
 cases h1:numE ws with
 | error k=>rw [h1] at h; cases h
 | ok y=>rw [h1,ok_bind] at h; cases h; exact numE_len h1
theorem next_len {ws:List ByteArray} {x:ByteArray×List ByteArray} (h:nextE ws=.ok x):x.2.length < ws.length:=by
 cases ws with
 | nil=>cases h
 | cons y r=>cases h; simp
theorem say_len {u:ByteArray} {ws:List ByteArray} {x:Unit×List ByteArray} (h:sayE u ws=.ok x):x.2.length < ws.length:=by
 unfold sayE at h
 cases h1:nextE ws with
 | error k=>rw [h1,err_bind] at h; cases h
 | ok y=>
  rw [h1,ok_bind] at h
  split at h
  ·cases h; exact next_len h1
  ·cases h
theorem name_len {ws:List ByteArray} {x:ByteArray×List ByteArray} (h:nameE ws=.ok x):x.2.length < ws.length:=by
 unfold nameE at h
 cases h1:nextE ws with
 | error k=>rw [h1,err_bind] at h; cases h
 | ok y=>
  rw [h1,ok_bind] at h
  split at h
  ·cases h; exact next_len h1
  ·cases h
theorem nums_len:∀ (n:Nat) {ws:List ByteArray} {x:List Int×List ByteArray},numsE n ws=.ok x→x.2.length≤ws.length
 | 0,ws,x,h=>by cases h; exact Nat.le_refl _
 | n+1,ws,x,h=>by
  rw [numsE] at h
  cases h1:numE ws with
  | error k=>rw [h1,err_bind] at h; cases h
  | ok y=>
   rw [h1,ok_bind] at h
   cases h2:numsE n y.2 with
   | error k=>rw [h2,err_bind] at h; cases h
   | ok z=>
    rw [h2,ok_bind] at h; cases h
    have:=nums_len n h2
    have:=numE_len h1
    dsimp only; omega
theorem one_len {u:ByteArray} {n:Nat} {ws:List ByteArray} {x:List Int×List ByteArray} (h:oneE u n ws=.ok x):x.2.length < ws.length:=by
 unfold oneE at h
 cases h1:sayE u ws with
 | error k=>rw [h1,err_bind] at h; cases h
 | ok y=>
  rw [h1,ok_bind] at h
  have:=nums_len n h
  have:=say_len h1
  omega
end Go.Pln
namespace Go.Pln
open Go Go.K Go.RowKit Go.Stn Go.Txt
theorem toList_nilB (s:ByteArray):(s.toList == (⟨#[]⟩:ByteArray).toList)=decide ((s.size:Int) < 1):=by
 rw [ByteArray.toList_eq,ByteArray.toList_eq,Bool.eq_iff_iff,beq_iff_eq,decide_eq_true_eq]
 have hz:s.size=s.data.toList.length:=rfl
 rw [hz]
 constructor
 ·intro h
  rw [h]; decide
 ·intro h
  have h0:s.data.toList.length=0:=by omega
  rw [List.length_eq_zero_iff.1 h0]
theorem num_pos {s:ByteArray} {b c:Bool} (h:(((!(s.toList == (⟨#[]⟩:ByteArray).toList))&&b)&&c)=true):1≤s.size:=by
 simp only [Bool.and_eq_true,Bool.not_eq_true',toList_nilB,decide_eq_false_iff_not] at h
 omega
def ndigW (b:Int):Bool:=decide (b < 48)||decide (57 < b)
theorem idxN_iff (s:ByteArray):∀ (m p:Nat),s.size - p=m→(0≤idxRune oddN s p↔∃ j,p≤j∧j < s.size∧ndigW (byteI s (j:Nat))=true):=by
 intro m
 induction m using Nat.strongRecOn with
 | _ m ih=>
  intro p hm
  by_cases hp:p < s.size
  ·by_cases hlow:(s.get! p).toNat < 128
   ·have hd:=Go.Stn.decode_low hlow
    have hb:=byteI_get hp
    cases ho:ndigW (byteI s (p:Int)) with
    | true=>
     rw [idxRune_hit hp (by rw [hd]; rw [hb] at ho; exact ho)]
     exact⟨fun _=>⟨p,Nat.le_refl _,hp,ho⟩,fun _=>by omega⟩
    | false=>
     rw [idxRune_next hp (by rw [hd]; rw [hb] at ho; exact ho),hd]
     rw [ih (s.size - (p+1)) (by omega) (p+1) rfl]
     constructor
     ·rintro ⟨j,h1,h2,h3⟩; exact⟨j,by omega,h2,h3⟩
     ·rintro ⟨j,h1,h2,h3⟩
      refine⟨j,?_,h2,h3⟩
      by_cases hj:j=p
      ·subst hj; rw [ho] at h3; cases h3
      ·omega
   ·have hd:=Go.Stn.decode_high hlow
    rw [idxRune_hit hp (by unfold oddN; simp; omega)]
    refine⟨fun _=>⟨p,Nat.le_refl _,hp,?_⟩,fun _=>by omega⟩
    rw [byteI_get hp]
    unfold ndigW; simp; omega
  ·rw [idxRune_end hp]
   refine⟨fun h=>by omega,?_⟩
   rintro ⟨j,h1,h2,_⟩; omega
theorem byteI_list (s:ByteArray) (i:Nat) (h:i < s.size):byteI s (i:Int)=((s.data.toList[i]'(by simpa using h)).toNat:Int):=by
 rw [byteI_get h]
 congr 2
 cases s with
 | mk d=>
  have hd:i < d.size:=h
  simp only [ByteArray.get!]
  rw [getElem!_pos d i hd,Array.getElem_toList]
theorem byte0 {s:ByteArray} {c:UInt8} {r:List UInt8} (hl:s.data.toList=c :: r):byteI s 0=(c.toNat:Int):=by
 have h0:0 < s.size:=by
  have hz:s.size=s.data.toList.length:=rfl
  rw [hz,hl]; simp
 have:=byteI_list s 0 h0
 rw [show((0:Nat):Int)=0 from rfl] at this
 rw [this]
 congr 2
 have h1:s.data.toList[0]?=some c:=by rw [hl]; rfl
 rw [List.getElem?_eq_getElem (by rw [hl]; simp)] at h1
 injection h1
def digW (l:List UInt8):Prop:=1≤l.length∧l.length≤6∧(∀ c∈l,isDig c)∧(l=[48]∨∃ c r,l=c :: r∧c≠48)
theorem dig_iff {c:UInt8}:ndigW (c.toNat:Int)=false↔isDig c:=by
 unfold ndigW isDig
 simp only [Bool.or_eq_false_iff,decide_eq_false_iff_not]
 omega
theorem numW_iff (s:ByteArray):numW s=true↔digW s.data.toList:=by
 have hz:s.size=s.data.toList.length:=rfl
 unfold numW digW
 rw [toList_nilB,ByteArray.toList_eq,ByteArray.toList_eq]
 simp only [Bool.and_eq_true,Bool.or_eq_true,Bool.not_eq_true',decide_eq_false_iff_not,decide_eq_true_eq,beq_iff_eq,idxN_iff s s.size 0 (by omega)]
 have hall:(¬ ∃ j,0≤j∧j < s.size∧ndigW (byteI s (j:Nat))=true)↔∀ c∈s.data.toList,isDig c:=by
  constructor
  ·intro h c hc
   obtain⟨j,hj,rfl⟩:=List.getElem_of_mem hc
   refine dig_iff.1 ?_
   cases hb:ndigW ((s.data.toList[j].toNat:Nat):Int) with
   | false=>rfl
   | true=>exact absurd ⟨j,Nat.zero_le _,by omega,by rw [byteI_list s j (by omega)]; exact hb⟩ h
  ·rintro h ⟨j,_,hj,hb⟩
   rw [byteI_list s j hj,dig_iff.2 (h _ (List.getElem_mem _))] at hb
   cases hb
 rw [hall]
 constructor
 ·rintro ⟨⟨⟨h1,h2⟩,h3⟩,h4⟩
  refine⟨by omega,by omega,h3,?_⟩
  rcases h4 with h4 | h4
  ·right
   cases hl:s.data.toList with
   | nil=>rw [hl,List.length_nil] at hz; omega
   | cons c r=>
    refine⟨c,r,rfl,fun e=>h4 ?_⟩
    rw [byte0 hl,e]; rfl
  ·left; exact h4
 ·rintro ⟨h1,h2,h3,h4⟩
  refine⟨⟨⟨by omega,by omega⟩,h3⟩,?_⟩
  rcases h4 with h4 | ⟨c,r,hl,hc⟩
  ·exact .inr h4
  ·left
   intro e
   rw [byte0 hl] at e
   exact hc (UInt8.toNat_inj.1 (by have h48:(48:UInt8).toNat=48:=rfl; omega))
theorem dec_small {l:List UInt8} (h:digW l):decVal 0 l < 10 ^ 6:=by
 have key:∀ (l:List UInt8) (a:Nat),(∀ c∈l,isDig c)→decVal a l < (a+1)*10 ^ l.length:=by
  intro l
  induction l with
  | nil=>intro a _; simp [decVal]
  | cons c r ih=>
   intro a hd
   have hc:=hd c (by simp)
   unfold isDig at hc
   rw [decVal_cons,List.length_cons,Nat.pow_succ,Nat.mul_comm (10 ^ r.length) 10,←Nat.mul_assoc]
   refine Nat.lt_of_lt_of_le (ih _ (fun x hx=>hd x (by simp [hx]))) (Nat.mul_le_mul_right _ (by omega))
 have h1:=key l 0 h.2.2.1
 rw [Nat.zero_add,Nat.one_mul] at h1
 exact Nat.lt_of_lt_of_le h1 (Nat.pow_le_pow_right (by decide) h.2.1)
theorem atoi_dig {l:List UInt8} (h:digW l):Lib.atoiAll l=.ok (decVal 0 l:Int):=by
 have hs:=dec_small h
 obtain⟨h1,h2,h3,h4⟩:=h
 have hb:(0+1)*10 ^ l.length≤10 ^ 18:=by
  rw [Nat.zero_add,Nat.one_mul]
  exact Nat.pow_le_pow_right (by decide) (by omega)
 have hp:=parse_digs l 0 h3 hb
 have hm:Lib.parseMag l=.ok (decVal 0 l):=by
  unfold Lib.parseMag
  rw [if_neg (by intro e; rw [e] at h1; simp at h1)]; exact hp
 cases hl:l with
 | nil=>rw [hl] at h1; simp at h1
 | cons c r=>
  rw [hl] at hm h3 hs
  have hc:=h3 c (by simp)
  unfold isDig at hc
  have h6:(10:Nat) ^ 6=1000000:=rfl
  unfold Lib.atoiAll
  simp only [if_neg (show ¬ (c.toNat=43∨c.toNat=45) by omega),hm]
  rw [if_neg (by omega),if_neg (by omega),if_neg (by omega)]
theorem atoiV_num {s:ByteArray} (h:numW s=true):Lib.atoiAll s.data.toList=.ok (atoiV s)∧atoiV s=(decVal 0 s.data.toList:Int):=by
 have:=atoi_dig ((numW_iff s).1 h)
 unfold atoiV
 rw [this]
 exact⟨rfl,rfl⟩
def putE (os:List Nat) (cs:List Value) (ws:List ByteArray):Except Int (List Value×List ByteArray):=numsE os.length ws >>= fun x=>.ok (setAll cs os x.1,x.2)
theorem putE_nil (cs:List Value) (ws:List ByteArray):putE [] cs ws=.ok (cs,ws):=rfl
theorem putE_cons (o:Nat) (os:List Nat) (cs:List Value) (ws:List ByteArray):putE (o :: os) cs ws=(numE ws >>= fun x=>putE os (cs.set o (.int .i64 x.1)) x.2):=by
 unfold putE
 rw [List.length_cons,numsE]
 cases h1:numE ws with
 | error k=>rfl
 | ok x=>
  rw [ok_bind,ok_bind]
  cases h2:numsE os.length x.2 with
  | error k=>rfl
  | ok y=>rfl
theorem put_ok {os:List Nat} {cs cs':List Value} {ws ws':List ByteArray} (h:.ok (cs',ws')=putE os cs ws):∃ l,numsE os.length ws=.ok (l,ws')∧cs' = setAll cs os l:=by
 unfold putE at h
 cases h2:numsE os.length ws with
 | error k=>rw [h2] at h; cases h
 | ok x=>
  rw [h2,ok_bind] at h
  injection h with h3
  injection h3 with h4 h5
  exact⟨x.1,by rw [h5],h4⟩
theorem put_err {os:List Nat} {cs:List Value} {ws:List ByteArray} {k:Int} (h:.error k=putE os cs ws):numsE os.length ws=.error k:=by
 unfold putE at h
 cases h2:numsE os.length ws with
 | error k'=>rw [h2,err_bind] at h; injection h with h3; rw [h3]
 | ok x=>rw [h2,ok_bind] at h; cases h
theorem put_step {os:List Nat} {i:Int} (h0:0≤i) (h1:i < (os.length:Int)):os.drop i.toNat=os.getD i.toNat 0 :: os.drop (i+1).toNat:=by
 rw [List.drop_eq_getElem_cons (by omega),show(i+1).toNat=i.toNat+1 by omega]
 congr 1
 simp [show i.toNat < os.length by omega]
theorem fld_get {b:Nat} {os:List Nat} {i:Int} (h0:0≤i) (h1:i < (os.length:Int)):(os.map (fun o=>(b,o))).getD i.toNat default=(b,os.getD i.toNat 0):=by
 have:i.toNat < os.length:=by omega
 simp [this]
theorem heightsA_step {acc:List Int} {ws:List ByteArray} (h:¬ ws.length=0) (hl:¬ ((ws.getD 0 default).toList == wLeast.toList)=true):heightsA acc ws=(numsE 1 ws >>= fun x=>heightsA (acc++[x.1.getD 0 0]) x.2):=by
 cases ws with
 | nil=>exact absurd rfl h
 | cons x r=>
  replace hl:¬ (x.toList == wLeast.toList)=true:=hl
  rw [heightsA,if_neg hl,numsE_one]
  unfold numE
  rw [show nextE (x :: r)=.ok (x,r) from rfl,ok_bind]
  by_cases hn:numW x=true
  ·rw [if_pos hn,if_pos hn]; rfl
  ·rw [if_neg hn,if_neg hn]; rfl
theorem heightsA_end {acc:List Int} {ws:List ByteArray} (h:ws.length=0∨((ws.getD 0 default).toList == wLeast.toList)=true):heightsA acc ws=.ok (acc,ws):=by
 cases ws with
 | nil=>rfl
 | cons x r=>
  have h2:(x.toList == wLeast.toList)=true:=h.resolve_left (by simp)
  rw [heightsA,if_pos h2]
theorem wrapU8 {n:Int} (h:0≤n) (h2:n≤255):IntKind.u8.wrap n=n:=by
 unfold IntKind.wrap
 simp only [IntKind.signed,IntKind.bits,Bool.false_and]
 rw [if_neg (by simp)]
 omega
theorem bind_ok {α β:Type} {r:Except Int α} {f:α→Except Int β} {y:β} (h:(r >>= f)=.ok y):∃ x,r=.ok x∧f x=.ok y:=by
 cases r with
 | error k=>cases h
 | ok x=>exact⟨x,rfl,h⟩
theorem heightsA_len:∀ (us:List ByteArray) (acc:List Int) {x:List Int×List ByteArray},heightsA acc us=.ok x→x.1.length+x.2.length≤acc.length+us.length
 | [],acc,x,h=>by cases h; simp
 | u :: us,acc,x,h=>by
  rw [heightsA] at h
  split at h
  ·cases h; exact Nat.le_refl _
  ·split at h
   ·have:=heightsA_len us _ h
    simp only [List.length_append,List.length_cons,List.length_nil] at this ⊢
    omega
   ·cases h
theorem sheet_heights {ws:List ByteArray} {x:Sht×List ByteArray} (h:sheetE ws=.ok x):x.1.heights.length≤ws.length:=by
 unfold sheetE at h
 obtain⟨x0,h0,h⟩:=bind_ok h
 obtain⟨x1,h1,h⟩:=bind_ok h
 obtain⟨x2,h2,h⟩:=bind_ok h
 obtain⟨x3,h3,h⟩:=bind_ok h
 obtain⟨x4,h4,h⟩:=bind_ok h
 obtain⟨x5,h5,h⟩:=bind_ok h
 obtain⟨x6,h6,h⟩:=bind_ok h
 obtain⟨x7,h7,h⟩:=bind_ok h
 obtain⟨x8,h8,h⟩:=bind_ok h
 obtain⟨x9,h9,h⟩:=bind_ok h
 obtain⟨x10,h10,h⟩:=bind_ok h
 obtain⟨x11,h11,h⟩:=bind_ok h
 obtain⟨x12,h12,h⟩:=bind_ok h
 obtain⟨x13,h13,h⟩:=bind_ok h
 obtain⟨x14,h14,h⟩:=bind_ok h
 obtain⟨x15,h15,h⟩:=bind_ok h
 obtain⟨x16,h16,h⟩:=bind_ok h
 split at h
 ·cases h
 ·cases h
  have a0:=name_len h0; have a1:=one_len h1; have a2:=one_len h2; have a3:=one_len h3; have a4:=one_len h4; have a5:=say_len h5
  have a6:=heightsA_len _ _ h6
  simp only [List.length_nil] at a6
  dsimp only
  omega
end Go.Pln
namespace Go.K
open Go Go.RowKit
section
variable {c:Cx} {ds:List Deferred} {p:Post} {T:List (Nat×Value)} {H:List Res} {ops:Array Oper} {rest:List Oper} {ty:TypeId} {ps:String} {af:Array Edge} {x y:Operand}
theorem gk_storeN {t:TypeId} {gg:Bool} {b o:Nat} {z v:Value} {cs:List Value} {e:TypeId} (i:Nat) (ht:TF c.P t gg 1 z) (hx:evo T x=some (.pointer (some ⟨b,o,none⟩))) (hy:evo T y=some v)
  (hv:v.cells=#[v]) (h1:cell1 v=true) (hi:H[i]?=some (Box b cs e)) (ho:o < cs.length)
  (kk:GK c ds (KL c ops p rest) T (H.set i (Box b (cs.set o v) e))):GK c ds (KL c ops p (⟨none,.store t x y,ty,ps,af,none⟩ :: rest)) T H:=
 gk_storeV i ht hx hy (vs:=[v]) hv rfl (by simp [h1]) hi (Nat.ble_eq_true_of_le ho) kk
end
section
variable {c:Cx} {T:List (Nat×Value)} {H H':List Res} {R:Ending→World→Prop} {fn:Func}
theorem gk_return2 {g:FuncId} {cap:List Value} {v:Value} (he:En c.P g)
  (hc:∀ w,Hp c.U c.w0 H w→CallsDIn Fence.wide 0 c.P g cap.toArray .returning w (fun e u' w'=>(∃ v,e=.returned v)∧settle u' = .returning∧Hp c.U c.w0 H' w'))
  (hv:RV c [] T H' fn v) (h:∀ w,Hp c.U c.w0 H' w→R (.returned v) w):GK c [{ target:=.fn (.func g) cap.toArray,args:=#[] }] (RetP c.P fn R) T H:=by
 intro a w ha hw
 show LeavesInM Fence.wide 0 c.P fn a.tmps R a.defers .returning w
 rw [ha.defers]
 refine leaves_one he (by simp) (CallsDIn.mono (hc w hw) ?_)
 rintro e u' w' ⟨hr,hs,hx⟩
 exact⟨hr,hs,v,hv { a with defers:=[] } w' ⟨ha.size,ha.val,rfl⟩ hx,h w' hx⟩
end
end Go.K
namespace Go.K
open Go Go.RowKit
def SeqCP (P:Program) (f:FuncId) (cap:List Value) (xs:List (List Value)) (O S:Res):Prop:=
 ∀ {X:Type} (J:X→Res) (Rl:Nat→X→Prop) (D:X→Prop) (l:Nat) (w:World) (B C:Nat→Prop) (x0:X),(∀ k,B k→k < w.heap.size)→(∀ k,C k→k < w.heap.size∧¬ B k)→(J x0).A B w→O.A C w→Rl 0 x0→Rd (fun k=>k < w.heap.size∧¬ (B k∨C k)) w S →
  (∀ i x args,xs[i]?=some args→Rl i x→YieldC P w (fun k=>B k∨C k) l args J x (fun b x'=>if b=true then Rl (i+1) x' else D x')) →
  Calls P f (Value.func (.yield l) #[] #[] :: cap).toArray w (Turns (fun _=>.tuple #[]) J (fun x=>Rl xs.length x∨D x) (fun k=>B k∨C k) w)
theorem sep_twoP {R S:Res} {B C:Nat→Prop} {w:World} (h1:R.A B w) (h2:S.A C w) (hd:∀ k,C k→¬ B k):(SepR [R,S]).A (fun k=>B k∨C k) w:=
 ⟨B,C,fun _ h=>.inl h,fun k h=>⟨.inr h,hd k h⟩,h1,C,fun _=>False,fun _ h=>h,fun _ h=>h.elim,h2,trivial⟩
theorem gk_rangeFuncP {c:Cx} {ds:List Deferred} {p:Post} {T:List (Nat×Value)} {H:List Res} {g:Operand} {ps:List Tmp} {assign body:Code} {f:FuncId} {cap:List Value} {xs:List (List Value)} {O S:Res} {X:Type}
  (Hf:X→List Res) (Rl:Nat→X→Prop) (Dr:X→Prop) (exs:List (Nat×(X→Prop))) (x0:X)
  (hr:c.r=none) (he:En c.P f) (hg:evo T g=some (.func (.func f) #[] cap.toArray)) (hH:O :: Hf x0=H) (h0:Rl 0 x0)
  (hseq:SeqCP c.P f cap xs O S) (hSR:Rd c.U c.w0 S) (hps:∀ a∈xs,a.length=ps.length) (hpn':ps.all (fun t=>Nat.blt t c.n)=true)
  (hbody:∀ (R1 R2:Res) (l:Nat) (U':Nat→Prop) (w':World) (i:Nat) (x:X) (args:List Value),xs[i]?=some args→Rl i x →
   (∀ S,Rd c.U c.w0 S→Rd U' w' S)→Inside c.U c.w0 ⟨some l,c.P,c.n,U',w'⟩→(∀ T' H' K,GK ⟨some l,c.P,c.n,U',w'⟩ [] K T' (R2 :: H')→GK ⟨some l,c.P,c.n,U',w'⟩ [] (Beg c.P l K) T' (R1 :: H')) →
   GK ⟨some l,c.P,c.n,U',w'⟩ [] (KC ⟨some l,c.P,c.n,U',w'⟩ assign { nrm:=Beg c.P l (KC ⟨some l,c.P,c.n,U',w'⟩ body (rndPost ⟨some l,c.P,c.n,U',w'⟩ R2 Hf (Rl (i+1)) Dr exs)),ret:=fun _ _=>False,ex:=[] }) (zipT ps args T) (R1 :: Hf x))
  (hnext:∀ D x,Rl xs.length x→GK c (mark D :: ds) p.nrm T (Dfr D :: Hf x))
  (hret:∀ D x,Dr x→GK c (mark D :: ds) p.ret T (Dfr D :: Hf x))
  (hex:∀ D x id Q,(id,Q)∈exs→Q x→∃ K,lke p.ex id=some K∧GK c (mark D :: ds) K T (Dfr D :: Hf x)) :
  GK c ds (KC c (.rangeFunc g ps.toArray assign body) p) T H:=by
 subst hH
 have hpn:∀ t∈ps,t < c.n:=fun t ht=>Nat.le_of_ble_eq_true (List.all_eq_true.1 hpn' t ht)
 intro a w ha hw
 show(Code.rangeFunc g ps.toArray assign body).wpIn (FW c.r) 0 c.P p.Q a w
 rw [hr]
 refine wpIn_rangeFunc ?_
 intro fn hfn
 let D:=w.heap.size
 let l:=w.heap.size+1
 let rec_:LoopState→Option Code→Res:=fun st pe=>SepR [Rec l st pe fn a.tmps ps.toArray assign body D,Dfr D]
 obtain⟨W1,hW1⟩:∃ W1,W1=(w.alloc (.deferred (some []))).alloc (.loop { state:=.ready,pending:=none,fn:=fn,tmps:=a.tmps,params:=ps.toArray,assign:=assign,body:=body,defers:=D }):=⟨_,rfl⟩
 have hdef:Hp c.U c.w0 (Dfr D :: O :: Hf x0) (w.alloc (.deferred (some []))):=
  hw.new (ext_alloc _) (B:=fun k=>k=D) (fun k hk=>by subst hk; exact⟨Nat.le_refl _,by simp [D]⟩) ⟨fun _=>Iff.rfl,World.alloc_heap_new w _⟩
 have hrec:Hp c.U c.w0 (Rec l .ready none fn a.tmps ps.toArray assign body D :: Dfr D :: O :: Hf x0) W1:=by
  rw [hW1]
  refine hdef.new (ext_alloc _) (B:=fun k=>k=l) (fun k hk=>by subst hk; exact⟨by simp [l],by simp [l]⟩) ⟨fun _=>Iff.rfl,?_⟩
  have:=World.alloc_heap_new (w.alloc (.deferred (some []))) (.loop { state:=.ready,pending:=none,fn:=fn,tmps:=a.tmps,params:=ps.toArray,assign:=assign,body:=body,defers:=D })
  rwa [World.size_alloc] at this
 have hst:Hp c.U c.w0 (O :: rec_ .ready none :: Hf x0) W1:=(Hp.pack (L:=[_,_]) hrec).swap
 obtain⟨C,hC,hAO,hrest⟩:=hst.holds
 let J:X×LoopState×Option Code→Res:=fun z=>SepR (rec_ z.2.1 z.2.2 :: Hf z.1)
 have hJ:∃ B,(∀ k,B k→¬ (c.U k∨C k)∧k < W1.heap.size)∧(J (x0,.ready,none)).A B W1:=all_of_holds _ _ hrest
 obtain⟨B0,hB0,hA⟩:=hJ
 let B:Nat→Prop:=fun k=>B0 k∨C k
 have hB:∀ k,B k→¬ c.U k∧k < W1.heap.size:=fun k hk=>hk.elim (fun h=>⟨fun hu=>(hB0 k h).1 (.inl hu),(hB0 k h).2⟩) (hC k)
 have hSR':Rd (fun k=>k < W1.heap.size∧¬ (B0 k∨C k)) W1 S:=by
  obtain⟨E,hE,hSA⟩:=hSR
  have hbase:Base c.U c.w0 W1:=hst.base
  exact⟨E,fun k hk=>⟨Nat.lt_of_lt_of_le (hbase.lt k (hE k hk)) hbase.size,fun h=>h.elim (fun h=>(hB0 k h).1 (.inl (hE k hk))) (fun h=>(hC k h).1 (hE k hk))⟩,S.loc E c.w0 W1 (fun k hk=>hbase.same k (hE k hk)) hSA⟩
 have hcalls:=hseq J (fun i z=>z.2.1=.ready∧z.2.2=none∧Rl i z.1)
  (fun z=>z.2.1=.done∧((z.2.2=some .ret∧Dr z.1)∨∃ id Q,z.2.2=some (.exit id)∧(id,Q)∈exs∧Q z.1))
  l W1 B0 C (x0,.ready,none) (fun k hk=>(hB0 k hk).2) (fun k hk=>⟨(hC k hk).2,fun h=>(hB0 k h).1 (.inr hk)⟩) hA hAO ⟨rfl,rfl,h0⟩ hSR' ?rounds
 case rounds=>
  rintro i ⟨x,st,pe⟩ args hargs ⟨hst1,hst2,hR⟩
  simp only at hst1 hst2 hR
  subst hst1; subst hst2
  intro w' B' hm ho hlt hA'
  have hp1:Hp (fun k=>k < w'.heap.size∧¬ B' k) w' (rec_ .ready none :: Hf x) w':=
   ⟨⟨rfl,Tp.same _,rfl,Nat.le_refl _,fun _ h=>h.1,fun _ _=>rfl⟩,holds_of_all _ _ B' (fun k hk=>⟨fun h=>h.2 hk,hlt k hk⟩) hA'⟩
  have hl:=(hp_rec (st':=.ready) (pe':=none) hp1).1
  have hy:=run_yield (P:=c.P) (args:=args.toArray) hl (by simp [hps args (List.mem_of_getElem? hargs)])
  refine⟨_,_,_,_,hy,roundIn_of_wpIn trivial ?_⟩
  have hb:=hbody (rec_ .ready none) (rec_ .busy none) l (fun k=>k < w'.heap.size∧¬ B' k) w' i x args hargs hR ?rd ?ins ?beg
  case ins=>
   have hb':Base c.U c.w0 w':=hst.base.mod hm (fun k hk=>(hB k hk).1)
   refine⟨fun k hk=>⟨Nat.lt_of_lt_of_le (hb'.lt k hk) hb'.size,fun hbk=>?_⟩,hb'⟩
   rcases ho k hbk with hb2 | ⟨h1,_⟩
   ·exact(hB k hb2).1 hk
   ·have:=hst.base.lt k hk; have:=hst.base.size; omega
  case rd=>
   rintro S ⟨C,hC,hS⟩
   have hb':Base c.U c.w0 w':=hst.base.mod hm (fun k hk=>(hB k hk).1)
   refine⟨C,fun k hk=>⟨Nat.lt_of_lt_of_le (hb'.lt k (hC k hk)) hb'.size,fun hbk=>?_⟩,S.loc C c.w0 w' (fun k hk=>hb'.same k (hC k hk)) hS⟩
   rcases ho k hbk with hb2 | ⟨h1,_⟩
   ·exact(hB k hb2).1 (hC k hk)
   ·have:=hst.base.lt k (hC k hk); have:=hst.base.size; omega
  case beg=>
   intro T' H' K hK a1 w1 ha1 hw1
   obtain⟨hl1,hw2⟩:=hp_rec (st':=.busy) (pe':=none) hw1
   exact⟨_,run_beginRound hl1 rfl,hK a1 _ ha1 hw2⟩
  have hs:=sat_zip ps args T a.tmps hpn (Sat.mk ha.size ha.val rfl)
  have hwalk:=hb _ w' hs hp1
  have harr:((ps.toArray.zip args.toArray).foldl (fun tmps (t,a)=>tmps.setIfInBounds t a) a.tmps)=(ps.zip args).foldl (fun t (p,v)=>t.setIfInBounds p v) a.tmps:=by
   rw [List.zip_toArray,List.foldl_toArray]
  rw [harr]
  refine Go.wpIn_mono hwalk ?_
  intro e a1 w1 hq
  cases e with
  | normal=>
   obtain⟨w2,hbr,hwb⟩:=hq
   refine⟨w2,hbr,Go.wpIn_mono hwb ?_⟩
   intro e a2 w2 hq2
   have fin:∀ (x':X) (j:Option Code),Hp (fun k=>k < w'.heap.size∧¬ B' k) w' (rec_ .busy none :: Hf x') w2→∃ w4,(Instr.endRound l j).run c.P w2=.ok (.bool j.isNone) w4 ∧
     ∃ B'',Mod B' w' w4∧Own B' B'' w' w4∧(J (x',(if j.isNone then .ready else .done),j)).A B'' w4:=by
    intro x' j hw2
    obtain⟨hl2,hw4⟩:=hp_rec (st':=if j.isNone then .ready else .done) (pe':=j) hw2
    refine⟨_,run_endRound j hl2,?_⟩
    obtain⟨B'',hB'',hA''⟩:=all_of_holds _ _ hw4.holds
    refine⟨B'',⟨hw4.base.os,hw4.base.tape,hw4.base.output,hw4.base.size,fun k hk hb=>hw4.base.same k ⟨hk,hb⟩⟩,fun k hk=>?_,hA''⟩
    by_cases hbk:B' k
    ·exact .inl hbk
    ·exact .inr ⟨Nat.le_of_not_lt fun hlt=>(hB'' k hk).1 ⟨hlt,hbk⟩,(hB'' k hk).2⟩
   cases e with
   | normal=>
    obtain⟨x',_,hw3,hN⟩:=hq2
    obtain⟨w4,hend,B'',hm4,ho4,hA4⟩:=fin x' none hw3
    exact⟨_,w4,hend,true,(x',.ready,none),B'',rfl,(if_pos rfl).mpr ⟨rfl,rfl,hN⟩,hm4,ho4,hA4⟩
   | ret=>
    obtain⟨x',_,hw3,hD⟩:=hq2
    obtain⟨w4,hend,B'',hm4,ho4,hA4⟩:=fin x' (some .ret) hw3
    exact⟨_,w4,hend,false,(x',.done,some .ret),B'',rfl,(if_neg Bool.false_ne_true).mpr ⟨rfl,.inl ⟨rfl,hD⟩⟩,hm4,ho4,hA4⟩
   | exit id=>
    change (match lke (exs.map fun e=>(e.1,Join _ [] (fun _=>[]) (fun x=>rec_ .busy none :: Hf x) e.2)) id with | some K=>K a2 w2 | none=>False) at hq2
    cases hk:lke (exs.map fun e=>(e.1,Join _ [] (fun _=>[]) (fun x=>rec_ .busy none :: Hf x) e.2)) id with
    | none=>rw [hk] at hq2; exact hq2.elim
    | some K=>
     rw [hk] at hq2
     obtain⟨Q,hmem,rfl⟩:=lke_map (fun Q=>Join _ [] (fun _=>[]) (fun x=>rec_ .busy none :: Hf x) Q) exs id K hk
     obtain⟨x',_,hw3,hD⟩:=hq2
     obtain⟨w4,hend,B'',hm4,ho4,hA4⟩:=fin x' (some (.exit id)) hw3
     exact⟨_,w4,hend,false,(x',.done,some (.exit id)),B'',rfl,(if_neg Bool.false_ne_true).mpr ⟨rfl,.inr ⟨id,Q,rfl,hmem,hD⟩⟩,hm4,ho4,hA4⟩
   | goto t=>exact hq2.elim
   | panic ch=>exact hq2.elim
   | outgrown=>exact hq2.elim
  | ret=>exact hq.elim
  | exit id=>exact hq.elim
  | goto t=>exact hq.elim
  | panic ch=>exact hq.elim
  | outgrown=>exact hq.elim
 refine⟨l,[mark D],W1,{ target:=.fn (.func f) cap.toArray,args:=#[.func (.yield l) #[] #[]] },W1,f,#[.func (.yield l) #[] #[]]++cap.toArray,W1,?_,?_,fun _ _=>trivial,?_,fun h=>by simp [FW] at h,?_⟩
 ·rw [hW1]; exact run_enterLoop_outer _ _ _ _ _
 ·simp only [resolve,ha.eval hg,Deferred.ofValue]
  simp [pure,Act.eval]
 ·exact he _ W1
 ·refine callsIn_FW.2 ?_
  have e2:(#[Value.func (.yield l) #[] #[]]++cap.toArray:Array Value)=(Value.func (.yield l) #[] #[] :: cap).toArray:=by simp
  rw [e2]
  refine hcalls.mono ?_
  rintro e w3 ⟨⟨x',st,pe⟩,B',rfl,hQ,hm,ho,hA'⟩
  have hlt':∀ k,B' k→k < w3.heap.size:=fun k hk=>by
   rcases ho k hk with hb | ⟨_,h2⟩
   ·exact Nat.lt_of_lt_of_le (hB k hb).2 hm.size
   ·exact h2
  have hw3:Hp c.U c.w0 (rec_ st pe :: Hf x') w3:=⟨hst.base.mod hm (fun k hk=>(hB k hk).1),holds_of_all _ _ B' (fun k hk=>⟨fun hu=>by
   rcases ho k hk with hb | ⟨h1,_⟩
   ·exact(hB k hb).1 hu
   ·have:=hst.base.lt k hu; have:=hst.base.size; omega,hlt' k hk⟩) hA'⟩
  obtain⟨hl3,hw4⟩:=hp_rec (st':=.exhausted) (pe':=pe) hw3
  have hnb:st≠.busy:=by rcases hQ with ⟨h,_⟩ | ⟨h,_⟩ <;> (simp only at h; subst h; decide)
  refine⟨pe,_,run_endLoop hl3 hnb,?_⟩
  have hw5:Hp c.U c.w0 (Dfr D :: Hf x') _:=(Hp.split (L:=[_,_]) hw4).drop
  have ha5:Sat c.n T (mark D :: ds) { a with defers:=[mark D]++a.defers }:=⟨ha.size,ha.val,by simp [ha.defers]⟩
  rcases hQ with ⟨_,h2,h3⟩ | ⟨_,⟨h2,h3⟩ | ⟨id,Q,h2,h3,h4⟩⟩
  ·simp only at h2 h3; subst h2
   exact hnext D x' h3 _ _ ha5 hw5
  ·simp only at h2 h3; subst h2
   exact wpIn_ret (hret D x' h3 _ _ ha5 hw5)
  ·simp only at h2 h4; subst h2
   obtain⟨K,hk,hG⟩:=hex D x' id Q h3 h4
   exact wpIn_exit (by show(match lke p.ex id with | some K=>K _ _ | none=>False); rw [hk]; exact hG _ _ ha5 hw5)
end Go.K
namespace Go.K
open Go Go.RowKit
def TurnsF {X M:Type} (te:TypeId) (res:Except Int X) (V:X→M→Value) (J:X→M→Res) (E:Res) (B:Nat→Prop) (w:World):Ending→World→Prop:=fun e w'=>
 match res with
 | .ok x=>∃ m B',e=.returned (V x m)∧Mod B w w'∧Own B B' w w'∧(J x m).A B' w'
 | .error k=>∃ B',e=.panicked (thrC (errT te k))∧Mod B w w'∧Own B B' w w'∧E.A B' w'
section
variable {c:Cx} {ds:List Deferred} {p:Post} {T:List (Nat×Value)} {H:List Res} {ops:Array Oper} {rest:List Oper} {d:Option Nat} {ty:TypeId} {ps:String} {af:Array Edge}
theorem gk_callVF {X M:Type} {te:TypeId} {res:Except Int X} {V:X→M→Value} {J:X→M→Res} {E R:Res} {t:Nat} {f:FuncId} (i:Nat) (he:En c.P f) {fs cap:List Value} (hf:evo T (.tmp t)=some (.func (.func f) fs.toArray cap.toArray)) {os:List Operand} {tys:Array TypeId} {vs:List Value} (hn:dstOk d c.n=true) (ha:evs T os=some vs) (hi:H[i]?=some R)
  (hc:∀ w B,Foc c H i R B w→Calls c.P f (fs++vs++cap).toArray w (TurnsF te res V J E B w))
  (kt:∀ k,res=.error k→GK c ds (fun a w=>p.pn a (thrC (errT te k)) w) T (H.set i E))
  (k:∀ x m,res=.ok x→GK c ds (KL c ops p rest) (putT d (V x m) T) (H.set i (J x m))) :
  GK c ds (KL c ops p (⟨d,.call ⟨.value (.tmp t),os.toArray,tys⟩,ty,ps,af,none⟩ :: rest)) T H:=by
 refine gk_opT rfl rfl fun a w hs hw=>?_
 obtain⟨B,hF⟩:=hw.foc hi
 unfold YldT
 rw [run_callV he hf ha hs w]
 have:=hc w B hF
 rw [show(fs++vs++cap).toArray=fs.toArray++vs.toArray++cap.toArray from by simp] at this
 refine this.mono ?_
 intro e w' he'
 cases hres:res with
 | ok x=>
  rw [hres] at he'
  obtain⟨m,B',rfl,hm,ho,hA⟩:=he'
  exact .inl ⟨V x m,rfl,k x m hres _ _ (hs.putT hn _) (hF.upd hi hm ho hA)⟩
 | error q=>
  rw [hres] at he'
  obtain⟨B',rfl,hm,ho,hA⟩:=he'
  exact .inr ⟨_,rfl,kt q hres a w' hs (hF.upd hi hm ho hA)⟩
end
section
variable {P:Program} {n:Nat} {w0:World} {B:Nat→Prop} {T:List (Nat×Value)} {H:List Res} {fn:Func} {X M:Type} {te:TypeId} {res:Except Int X} {V:X→M→Value} {J:X→M→Res} {E:Res}
theorem gk_turnsF {v:Value} (x:X) (m:M) (i:Nat) (hv:RV (cxB P n w0 B) [] T H fn v) (hu:v=V x m) (hi:H[i]?=some (J x m)) (hq:res=.ok x) :
  GK (cxB P n w0 B) [] (RetP P fn (TurnsF te res V J E B w0)) T H:=gk_return hv fun w hw=>by
 obtain⟨B',h1,h2,_,h3⟩:=own_of_hp hw hi
 subst hq
 exact⟨m,B',by rw [hu],h1,h2,h3⟩
theorem gk_thrownF {k:Int} {R:Res} (i:Nat) (hi:H[i]?=some R) (hR:∀ B w,R.A B w→E.A B w) (hq:res=.error k):GK (cxB P n w0 B) [] (fun a w=>(poOf P fn (TurnsF te res V J E B w0)).pn a (thrC (errT te k)) w) T H:=
 gk_thrown (c:=cxB P n w0 B) fun w hw=>by
  obtain⟨B',h1,h2,_,h3⟩:=own_of_hp hw hi
  subst hq
  exact⟨B',rfl,h1,h2,hR _ _ h3⟩
end
end Go.K
namespace Go.Pln
open Go Go.K Go.RowKit Go.Stn
structure PTy where
 p:TypeId
 s:TypeId
 w:TypeId
 i:TypeId
 o:TypeId
def plH (y:PTy) (p:Nat) (sa:Option Addr) (sc:Nat) (S:List ShC) (wa:Option Addr) (wc:Nat) (V:List WlC):List Res:=
 [Box p [.slice sa S.length sc,.slice wa V.length wc] y.p,Row sa 20 sc y.s encSht S,Go.K.Rows (rowH y.i) S,Row wa 4 wc y.w encWll V,Go.K.Rows (rowO y.o) V]
def PlE (y:PTy) (p:Nat) (q:Plan):Res where
 A B w:=∃ (sa:Option Addr) (sc:Nat) (S:List ShC) (wa:Option Addr) (wc:Nat) (V:List WlC),S.map (·.s)=q.S∧V.map (·.s)=q.V∧(SepR (plH y p sa sc S wa wc V)).A B w
 loc B w w' h hA:=let ⟨sa,sc,S,wa,wc,V,h1,h2,h3⟩:=hA; ⟨sa,sc,S,wa,wc,V,h1,h2,(SepR (plH y p sa sc S wa wc V)).loc B w w' h h3⟩
def plAt (y:PTy) (p:Nat):Res where
 A B w:=∃ B':Nat→Prop,(∀ k,B' k→B k)∧∃ (a:Option Addr) (n c:Nat) (b:Option Addr) (m d:Nat),(Box p [.slice a n c,.slice b m d] y.p).A B' w
 loc _B w w' h hA:=let ⟨B',h1,a,n,c,b,m,d,h2⟩:=hA; ⟨B',h1,a,n,c,b,m,d,(Box p [.slice a n c,.slice b m d] y.p).loc B' w w' (fun k hk=>h k (h1 k hk)) h2⟩
def plOr (y:PTy) (p:Nat):Except Int Plan→Res
 | .ok q=>PlE y p q
 | .error _=>plAt y p
theorem plAt_pl {y:PTy} {p:Nat} {q:Plan} (B:Nat→Prop) (w:World) (hA:(PlE y p q).A B w):(plAt y p).A B w:=by
 obtain⟨sa,sc,S,wa,wc,V,_,_,C,E,h1,_,h3,_⟩:=hA
 exact⟨C,h1,sa,_,sc,wa,_,wc,h3⟩
theorem plAt_box {y:PTy} {p:Nat} {a b:Option Addr} {n c m d:Nat} (B:Nat→Prop) (w:World) (hA:(Box p [.slice a n c,.slice b m d] y.p).A B w):(plAt y p).A B w:=
 ⟨B,fun _ h=>h,a,n,c,b,m,d,hA⟩
theorem plAt_at {y:PTy} {p:Nat} (B:Nat→Prop) (w:World) (hA:(plAt y p).A B w):(plAt y p).A B w:=hA
section
variable {c:Cx} {ds:List Deferred} {T:List (Nat×Value)} {H:List Res} {K:Act→World→Prop} {y:PTy} {p:Nat} {q:Plan}
theorem gk_openPl (h:∀ (sa:Option Addr) (sc:Nat) (S:List ShC) (wa:Option Addr) (wc:Nat) (V:List WlC),S.map (·.s)=q.S→V.map (·.s)=q.V→GK c ds K T (plH y p sa sc S wa wc V++H)):GK c ds K T (PlE y p q :: H):=by
 intro a w ha hw
 obtain⟨hb,B,hB,⟨sa,sc,S,wa,wc,V,h1,h2,h3⟩,hr⟩:=hw
 exact h sa sc S wa wc V h1 h2 a w ha (Hp.split ⟨hb,B,hB,h3,hr⟩)
theorem gk_openAt (h:∀ (a:Option Addr) (n m:Nat) (b:Option Addr) (e d:Nat),GK c ds K T (Box p [.slice a n m,.slice b e d] y.p :: H)):GK c ds K T (plAt y p :: H):=by
 intro a w ha hw
 obtain⟨hb,B,hB,⟨B',h1,x,n,m,b,e,d,h2⟩,hr⟩:=hw
 exact h x n m b e d a w ha ⟨hb,B',fun k hk=>hB k (h1 k hk),h2,Holds.anti H (fun k hk=>hk.elim .inl (fun h=>.inr (h1 k h))) hr⟩
theorem gk_closePl {sa:Option Addr} {sc:Nat} {S:List ShC} {wa:Option Addr} {wc:Nat} {V:List WlC} (h1:S.map (·.s)=q.S) (h2:V.map (·.s)=q.V) (h:GK c ds K T (PlE y p q :: H)):GK c ds K T (plH y p sa sc S wa wc V++H):=by
 intro a w ha hw
 obtain⟨hb,B,hB,h3,hr⟩:=Hp.pack (L:=plH y p sa sc S wa wc V) (H:=H) hw
 exact h a w ha ⟨hb,B,hB,⟨sa,sc,S,wa,wc,V,h1,h2,h3⟩,hr⟩
end
theorem all_split {w:World} {R:Res}:∀ (X:List Res) (B:Nat→Prop),All (X++[R]) B w→∃ C D:Nat→Prop,(∀ k,C k→B k)∧(∀ k,D k→B k∧¬ C k)∧All X C w∧R.A D w
 | [],B,⟨C,E,h1,h2,hA,_⟩=>⟨fun _=>False,C,fun _ h=>h.elim,fun k hk=>⟨h1 k hk,fun h=>h⟩,trivial,hA⟩
 | S :: X,B,⟨C,E,h1,h2,hA,hr⟩=>by
  obtain⟨C',D,g1,g2,g3,g4⟩:=all_split X E hr
  refine⟨fun k=>C k∨C' k,D,fun k hk=>hk.elim (h1 k) (fun h=>(h2 k (g1 k h)).1),fun k hk=>⟨(h2 k (g2 k hk).1).1,fun h=>h.elim (h2 k (g2 k hk).1).2 (g2 k hk).2⟩,⟨C,C',fun k hk=>.inl hk,fun k hk=>⟨.inr hk,(h2 k (g1 k hk)).2⟩,hA,g3⟩,g4⟩
theorem set_last {α:Type} [Inhabited α] {V:List α} {x:α} (h:0 < V.length):V.set (V.length - 1) x=V.take (V.length - 1)++[x]:=by
 rw [List.set_eq_take_append_cons_drop,if_pos (by omega),List.drop_of_length_le (by omega)]
theorem take_last {α:Type} [Inhabited α] {V:List α} (h:0 < V.length):V=V.take (V.length - 1)++[V.getD (V.length - 1) default]:=by
 have h1:V.drop (V.length - 1)=[V.getD (V.length - 1) default]:=by
  rw [List.drop_eq_getElem_cons (by omega),List.drop_of_length_le (by omega)]
  simp [show V.length - 1 < V.length by omega]
 conv=>lhs; rw [←List.take_append_drop (V.length - 1) V,h1]
theorem rows_last {α:Type} [Inhabited α] {f:α→Res} {V:List α} {B:Nat→Prop} {w:World} (h:0 < V.length) (hA:(Go.K.Rows f V).A B w):(SepR [Go.K.Rows f (V.take (V.length - 1)),f (V.getD (V.length - 1) default)]).A B w:=by
 have h2:All (V.map f) B w:=hA
 rw [take_last h,List.map_append] at h2
 obtain⟨C,D,g1,g2,g3,g4⟩:=all_split _ _ h2
 exact⟨C,D,g1,g2,g3,D,fun _=>False,fun _ h=>h,fun _ h=>h.elim,g4,trivial⟩
theorem rows_set {α:Type} [Inhabited α] {f:α→Res} {V:List α} {x:α} {B:Nat→Prop} {w:World} (h:0 < V.length) (hA:(SepR [Go.K.Rows f (V.take (V.length - 1)),f x]).A B w):(Go.K.Rows f (V.set (V.length - 1) x)).A B w:=by
 rw [set_last h]
 exact rows_snoc hA
end Go.Pln
namespace Go.Pln
open Go Go.K Go.RowKit Go.Stn Go.Txt
theorem cutL_numP (c:UInt8):∀ l:List UInt8,(cutL c l).length≤l.length+1
 | []=>by simp [cutL]
 | x :: r=>by
  have:=cutL_numP c r
  rw [cutL]
  split
  ·simp; omega
  ·split
   ·simp
   ·rename_i e; rw [e] at this; simp at this ⊢; omega
theorem split_numP (s:ByteArray) (c:UInt8):1≤(splitL s c).length∧(splitL s c).length≤s.size+1:=by
 have h1:=cutL_numP c s.data.toList
 have h2:=cutL_pos c s.data.toList
 rw [←splitL_data,List.length_map] at h1 h2
 have h3:s.data.toList.length=s.size:=by rw [Array.length_toList]; rfl
 omega
theorem mkB_data (s:ByteArray):mkB s.data.toList=s:=by
 cases s; simp [mkB]
theorem splitL_map (s:ByteArray) (c:UInt8):splitL s c=(cutL c s.data.toList).map mkB:=by
 rw [←splitL_data,List.map_map]
 conv=>lhs; rw [←List.map_id (splitL s c)]
 exact List.map_congr_left fun x _=>(mkB_data x).symm
def dropE:List ByteArray→List ByteArray
 | []=>[]
 | [x]=>if x.size=0 then [] else [x]
 | x :: y :: r=>x :: dropE (y :: r)
def linesL (t:ByteArray):List ByteArray:=dropE (splitL t 10)
def cutA (t:ByteArray):ByteArray:=mkB (Lib.cut t.data.toList [10]).1
def cutB (t:ByteArray):ByteArray:=mkB (Lib.cut t.data.toList [10]).2.1
theorem mkB_size (l:List UInt8):(mkB l).size=l.length:=by show l.toArray.size=l.length; simp
theorem lines_nil {t:ByteArray} (h:t.size=0):linesL t=[]:=by
 have h1:t.data.toList=[]:=List.eq_nil_of_length_eq_zero (by rw [Array.length_toList]; exact h)
 unfold linesL
 rw [splitL_map,h1]
 rfl
theorem lines_cons {t:ByteArray} (h:t.size≠0):linesL t=cutA t :: linesL (cutB t):=by
 unfold linesL cutA cutB
 rw [splitL_map,splitL_map]
 rcases cut_spec t.data.toList 10 with ⟨p,r,h1,h2,h3⟩ | ⟨h1,h2⟩
 ·rw [h3,h1,cutL_hit h2]
  show dropE (mkB p :: (cutL 10 r).map mkB)=mkB p :: dropE ((cutL 10 r).map mkB)
  have:=cutL_pos 10 r
  cases hc:cutL 10 r with
  | nil=>rw [hc] at this; simp at this
  | cons a b=>rfl
 ·rw [h2,cutL_end h1]
  show(if (mkB t.data.toList).size=0 then [] else [mkB t.data.toList])=mkB t.data.toList :: []
  rw [if_neg (by rw [mkB_data]; exact h)]
theorem cutB_size {t:ByteArray} (h:t.size≠0):(cutB t).size < t.size:=by
 have h3:t.data.toList.length=t.size:=by rw [Array.length_toList]; rfl
 unfold cutB
 rw [mkB_size]
 rcases cut_spec t.data.toList 10 with ⟨p,r,h1,h2,h3⟩ | ⟨h1,h2⟩
 ·rw [h3]
  have:=congrArg List.length h1
  simp at this
  dsimp only
  omega
 ·rw [h2]; dsimp only; simp; omega
theorem lines_drop {t u:ByteArray} {i:Nat} (h:linesL u=(linesL t).drop i) (hu:u.size≠0):linesL (cutB u)=(linesL t).drop (i+1)∧(linesL t)[i]?=some (cutA u):=by
 rw [lines_cons hu] at h
 constructor
 ·rw [show(linesL t).drop (i+1)=((linesL t).drop i).drop 1 from by rw [List.drop_drop],←h]; rfl
 ·have:=congrArg (fun l=>l[0]?) h
  simpa using this.symm
theorem lines_end {t u:ByteArray} {i:Nat} (h:linesL u=(linesL t).drop i) (hu:u.size=0) (hi:i≤(linesL t).length):i=(linesL t).length:=by
 rw [lines_nil hu] at h
 have:=congrArg List.length h
 simp at this
 omega
theorem mem_dropE:∀ {l:List ByteArray} {x:ByteArray},x∈dropE l→x∈l
 | [],_,h=>h
 | [x],y,h=>by
  rw [dropE] at h
  split at h
  ·cases h
  ·exact h
 | a :: b :: r,y,h=>by
  rw [dropE] at h
  rcases List.mem_cons.1 h with h' | h'
  ·exact List.mem_cons.2 (.inl h')
  ·exact List.mem_cons_of_mem _ (mem_dropE h')
def idle (t:ByteArray):Bool:=t.size == 0||byteI t 0 == 35
def linesE (q:Plan) (n:Int):List ByteArray→Except (Int×Int) Plan
 | []=>.ok q
 | t :: r=>if idle t=true then linesE q (n+1) r else match lineE q t with
  | .error k=>.error (n,k)
  | .ok q'=>linesE q' (n+1) r
def parseE (t:ByteArray):Plan×Int×Int:=
 if t.size > 40000 then(⟨[],[]⟩,0,5) else match linesE ⟨[],[]⟩ 1 (linesL t) with
 | .ok q=>(q,0,0)
 | .error x=>(⟨[],[]⟩,x.1,x.2)
end Go.Pln
namespace Go.Pln
open Go Go.K Go.RowKit Go.Stn Go.Txt
def NZ {α:Type} (r:Except Int α):Prop:=∀ k,r=.error k→k≠0
theorem NZ_ok {α:Type} (x:α):NZ (.ok x:Except Int α):=fun _ h=>by cases h
theorem NZ_err {α:Type} {k:Int} (h:k≠0):NZ (.error k:Except Int α):=fun _ e=>by cases e; exact h
theorem NZ_bind {α β:Type} {a:Except Int α} {f:α→Except Int β} (h1:NZ a) (h2:∀ x,NZ (f x)):NZ (a >>= f):=by
 cases a with
 | ok x=>rw [ok_bind]; exact h2 x
 | error k=>rw [err_bind]; exact NZ_err (h1 k rfl)
theorem NZ_ite {α:Type} {p:Prop} [Decidable p] {a b:Except Int α} (h1:NZ a) (h2:NZ b):NZ (if p then a else b):=by
 split
 ·exact h1
 ·exact h2
theorem next_nz:∀ ws:List ByteArray,NZ (nextE ws)
 | []=>NZ_err (by decide)
 | _ :: _=>NZ_ok _
theorem say_nz (u:ByteArray) (ws:List ByteArray):NZ (sayE u ws):=NZ_bind (next_nz ws) fun _=>NZ_ite (NZ_ok _) (NZ_err (by decide))
theorem name_nz (ws:List ByteArray):NZ (nameE ws):=NZ_bind (next_nz ws) fun _=>NZ_ite (NZ_ok _) (NZ_err (by decide))
theorem end_nz (ws:List ByteArray):NZ (endE ws):=NZ_ite (NZ_ok _) (NZ_err (by decide))
theorem num_nz (ws:List ByteArray):NZ (numE ws):=NZ_bind (next_nz ws) fun _=>NZ_ite (NZ_ok _) (NZ_err (by decide))
theorem nums_nz:∀ (n:Nat) (ws:List ByteArray),NZ (numsE n ws)
 | 0,_=>NZ_ok _
 | n+1,ws=>NZ_bind (num_nz ws) fun x=>NZ_bind (nums_nz n x.2) fun _=>NZ_ok _
theorem kind_nz (l:List ByteArray) (f:Nat) (ws:List ByteArray):NZ (kindE l f ws):=NZ_bind (next_nz ws) fun _=>NZ_ite (NZ_err (by decide)) (NZ_ok _)
theorem one_nz (u:ByteArray) (n:Nat) (ws:List ByteArray):NZ (oneE u n ws):=NZ_bind (say_nz u ws) fun x=>nums_nz n x.2
theorem heights_nz:∀ (ws:List ByteArray) (acc:List Int),NZ (heightsA acc ws)
 | [],_=>NZ_ok _
 | _ :: r,acc=>by
  rw [heightsA]
  exact NZ_ite (NZ_ok _) (NZ_ite (heights_nz r _) (NZ_err (by decide)))
theorem sheet_nz (ws:List ByteArray):NZ (sheetE ws):=by
 unfold sheetE
 refine NZ_bind (name_nz _) fun _=>NZ_bind (one_nz _ _ _) fun _=>NZ_bind (one_nz _ _ _) fun _=>NZ_bind (one_nz _ _ _) fun _=>NZ_bind (one_nz _ _ _) fun _=>NZ_bind (say_nz _ _) fun _=>NZ_bind (heights_nz _ _) fun _=>?_
 refine NZ_bind (one_nz _ _ _) fun _=>NZ_bind (one_nz _ _ _) fun _=>NZ_bind (one_nz _ _ _) fun _=>NZ_bind (one_nz _ _ _) fun _=>NZ_bind (one_nz _ _ _) fun _=>NZ_bind (say_nz _ _) fun _=>NZ_bind (kind_nz _ _ _) fun _=>NZ_bind (nums_nz _ _) fun _=>?_
 exact NZ_bind (one_nz _ _ _) fun _=>NZ_bind (one_nz _ _ _) fun _=>NZ_ite (NZ_err (by decide)) (NZ_ok _)
theorem sheetL_nz (q:Plan) (ws:List ByteArray):NZ (sheetLineE q ws):=
 NZ_bind (sheet_nz ws) fun _=>NZ_bind (end_nz _) fun _=>NZ_ite (NZ_err (by decide)) (NZ_ite (NZ_ite (NZ_err (by decide)) (NZ_ok _)) (NZ_err (by decide)))
theorem wallL_nz (q:Plan) (ws:List ByteArray):NZ (wallLineE q ws):=
 NZ_bind (name_nz ws) fun _=>NZ_bind (name_nz _) fun _=>NZ_bind (nums_nz _ _) fun _=>NZ_bind (end_nz _) fun _=>NZ_ite (NZ_err (by decide)) (NZ_ite (NZ_ite (NZ_ite (NZ_err (by decide)) (NZ_ok _)) (NZ_err (by decide))) (NZ_err (by decide)))
theorem openL_nz (q:Plan) (ws:List ByteArray):NZ (openLineE q ws):=
 NZ_bind (kind_nz _ _ ws) fun _=>NZ_bind (nums_nz _ _) fun _=>NZ_bind (end_nz _) fun _=>NZ_ite (NZ_err (by decide)) (NZ_ite (NZ_ok _) (NZ_err (by decide)))
theorem line_nz (q:Plan) (t:ByteArray):NZ (lineE q t):=by
 unfold lineE
 refine NZ_bind (next_nz _) fun x=>?_
 unfold formE
 exact NZ_ite (sheetL_nz _ _) (NZ_ite (wallL_nz _ _) (NZ_ite (openL_nz _ _) (NZ_err (by decide))))
theorem code_err {q:Plan} {t:ByteArray} (h:¬ codeE (lineE q t)=0):lineE q t=.error (codeE (lineE q t)):=by
 cases hl:lineE q t with
 | ok x=>rw [hl] at h; exact absurd rfl h
 | error k=>rfl
theorem code_ok {q:Plan} {t:ByteArray} (h:codeE (lineE q t)=0):∃ q',lineE q t=.ok q':=by
 cases hl:lineE q t with
 | ok x=>exact⟨x,rfl⟩
 | error k=>rw [hl] at h; exact absurd h (line_nz q t k hl)
theorem okQ_nil:OkQ ⟨[],[]⟩:=⟨fun s h=>(by cases h),Nat.zero_le _,Nat.zero_le _,fun v h=>(by cases h)⟩
theorem plain_idle {q:Plan} {n:Int} {t:ByteArray} {r:List ByteArray} (h:idle t=true):linesE q n (t :: r)=linesE q (n+1) r:=by rw [linesE,if_pos h]
theorem plain_err {q:Plan} {n:Int} {t:ByteArray} {r:List ByteArray} {k:Int} (h:idle t=false) (he:lineE q t=.error k):linesE q n (t :: r)=.error (n,k):=by
 rw [linesE,if_neg (by rw [h]; exact Bool.false_ne_true),he]
theorem plain_ok {q q':Plan} {n:Int} {t:ByteArray} {r:List ByteArray} (h:idle t=false) (he:lineE q t=.ok q'):linesE q n (t :: r)=linesE q' (n+1) r:=by
 rw [linesE,if_neg (by rw [h]; exact Bool.false_ne_true),he]
theorem drop_at {l:List ByteArray} {i:Nat} {u:ByteArray} (h:l[i]?=some u):l.drop i=u :: l.drop (i+1):=by
 obtain⟨h1,rfl⟩:=List.getElem?_eq_some_iff.1 h
 exact List.drop_eq_getElem_cons h1
def PlR (y:PTy) (z:(Option Addr×Nat×List ShC)×(Option Addr×Nat×List WlC)) (q:Plan):Res where
 A B w:=z.1.2.2.map (·.s)=q.S∧z.2.2.2.map (·.s)=q.V∧(SepR [Row z.1.1 20 z.1.2.1 y.s encSht z.1.2.2,Go.K.Rows (rowH y.i) z.1.2.2,Row z.2.1 4 z.2.2.1 y.w encWll z.2.2.2,Go.K.Rows (rowO y.o) z.2.2.2]).A B w
 loc B w w' h hA:=⟨hA.1,hA.2.1,(SepR [Row z.1.1 20 z.1.2.1 y.s encSht z.1.2.2,Go.K.Rows (rowH y.i) z.1.2.2,Row z.2.1 4 z.2.2.1 y.w encWll z.2.2.2,Go.K.Rows (rowO y.o) z.2.2.2]).loc B w w' h hA.2.2⟩
theorem plNil {y:PTy} {p:Nat} {B:Nat→Prop} {w:World} (hA:(Box p [.slice none 0 0,.slice none 0 0] y.p).A B w):(PlE y p ⟨[],[]⟩).A B w:=
 ⟨none,0,[],none,0,[],rfl,rfl,B,fun _=>False,fun _ h=>h,fun _ h=>h.elim,hA,fun _=>False,fun _=>False,fun _ h=>h,fun _ h=>h.elim,.inl ⟨rfl,rfl,rfl⟩,fun _=>False,fun _=>False,fun _ h=>h,fun _ h=>h.elim,trivial,
  fun _=>False,fun _=>False,fun _ h=>h,fun _ h=>h.elim,.inl ⟨rfl,rfl,rfl⟩,fun _=>False,fun _=>False,fun _ h=>h,fun _ h=>h.elim,trivial,trivial⟩
theorem gk_nilR {c:Cx} {ds:List Deferred} {T:List (Nat×Value)} {H:List Res} {K:Act→World→Prop} (y:PTy) (h:GK c ds K T (PlR y ((none,0,[]),(none,0,[])) ⟨[],[]⟩ :: H)):GK c ds K T H:=fun a w ha hw=>
 h a w ha ⟨hw.base,fun _=>False,fun _ hk=>hk.elim,⟨rfl,rfl,fun _=>False,fun _=>False,fun _ h=>h,fun _ h=>h.elim,.inl ⟨rfl,rfl,rfl⟩,fun _=>False,fun _=>False,fun _ h=>h,fun _ h=>h.elim,trivial,
  fun _=>False,fun _=>False,fun _ h=>h,fun _ h=>h.elim,.inl ⟨rfl,rfl,rfl⟩,fun _=>False,fun _=>False,fun _ h=>h,fun _ h=>h.elim,trivial,trivial⟩,Holds.anti H (fun _ hk=>hk.elim id False.elim) hw.holds⟩
def stR (y:PTy) (p:Nat):Except (Int×Int) Plan→Res
 | .ok q=>PlE y p q
 | .error _=>Box p [.slice none 0 0,.slice none 0 0] y.p
def lnE:Except (Int×Int) Plan→Int
 | .ok _=>0
 | .error x=>x.1
def erE:Except (Int×Int) Plan→Int
 | .ok _=>0
 | .error x=>x.2
theorem cutL_lenP {c:UInt8}:∀ {l:List UInt8} {p:List UInt8},p∈cutL c l→p.length≤l.length
 | [],p,h=>by simp [cutL] at h; subst h; simp
 | x :: r,p,h=>by
  rw [cutL] at h
  split at h
  ·rcases List.mem_cons.1 h with rfl | h
   ·simp
   ·have:=cutL_lenP h; simp; omega
  ·split at h
   ·simp at h; subst h; simp
   ·rename_i q t e
    rcases List.mem_cons.1 h with rfl | h
    ·have:=cutL_lenP (c:=c) (l:=r) (p:=q) (by rw [e]; simp); simp; omega
    ·have:=cutL_lenP (c:=c) (l:=r) (p:=p) (by rw [e]; simp [h]); simp; omega
theorem lines_size {t u:ByteArray} {i:Nat} (h:(linesL t)[i]?=some u):u.size≤t.size:=by
 have h1:=mem_dropE (List.mem_of_getElem? h)
 rw [splitL_map] at h1
 obtain⟨p,hp,rfl⟩:=List.mem_map.1 h1
 have:=cutL_lenP hp
 rw [mkB_size]
 rwa [Array.length_toList] at this
theorem idle_b {u:ByteArray} (h:decide (byteI u 0=35)=true):idle u=true:=by
 unfold idle
 rw [Bool.or_eq_true]
 exact .inr (by simpa using h)
theorem idle_no {u:ByteArray} (h1:¬ u.size=0) (h:decide (byteI u 0=35)=false):idle u=false:=by
 unfold idle
 simp only [Bool.or_eq_false_iff]
 exact⟨by simpa using h1,by simpa using h⟩
theorem idle_0 {u:ByteArray} (h:u.size=0):idle u=true:=by
 unfold idle
 rw [h]; rfl
theorem parse_long {t:ByteArray} (h:t.size > 40000):parseE t=(⟨[],[]⟩,0,5):=if_pos h
theorem parse_ok {t:ByteArray} {q:Plan} (h:¬ t.size > 40000) (he:linesE ⟨[],[]⟩ 1 (linesL t)=.ok q):parseE t=(q,0,0):=by
 unfold parseE
 rw [if_neg h,he]
theorem parse_err {t:ByteArray} {x:Int×Int} (h:¬ t.size > 40000) (he:linesE ⟨[],[]⟩ 1 (linesL t)=.error x):parseE t=(⟨[],[]⟩,x.1,x.2):=by
 unfold parseE
 rw [if_neg h,he]
end Go.Pln
namespace Go.Proofs.YtdcfcfhmkfkgmaaGreatDoor
open Go Go.K Go.Stn Go.Pln Go.RowKit Go.Txt
theorem all_ne {c:UInt8} {l:List UInt8} (h:l.all (fun x=>!(x == c))=true):∀ x∈l,x≠c:=fun x hx=>by
 have:=List.all_eq_true.1 h x hx
 simpa using this
theorem cut_atk {c:UInt8} {L:List UInt8} (k n:Nat) (h0:((L.drop k).take n).all (fun x=>!(x == c))=true) (h1:(L.drop k)[n]?=some c):cutL c (L.drop k)=(L.drop k).take n :: cutL c (L.drop (k+n+1)):=by
 obtain⟨h,h2⟩:=List.getElem?_eq_some_iff.1 h1
 have e:L.drop k=(L.drop k).take n++c :: L.drop (k+n+1):=by
  rw [←h2,show k+n+1=k+(n+1) from rfl,←List.drop_drop,←List.drop_eq_getElem_cons h,List.take_append_drop]
 conv=>lhs; rw [e]
 exact cutL_hit (all_ne h0)
theorem nextD {W:List ByteArray} (h:0 < W.length):nextE W=.ok (W.getD 0 default,W.drop 1):=by
 cases W with
 | nil=>simp at h
 | cons x r=>rfl
theorem nextDk {W:List ByteArray} {k:Nat} (h:k < W.length):nextE (W.drop k)=.ok (W.getD k default,W.drop (k+1)):=by
 rw [List.drop_eq_getElem_cons h,List.getD_eq_getElem?_getD,List.getElem?_eq_getElem h]; rfl
theorem nameD {W:List ByteArray} {k:Nat} (h:k < W.length) (h1:namedB (W.getD k default)=true):nameE (W.drop k)=.ok (W.getD k default,W.drop (k+1)):=by
 rw [nameE,nextDk h,ok_bind]; exact if_pos h1
theorem sayD {W:List ByteArray} {u:ByteArray} {k:Nat} (h:k < W.length) (h1:((W.getD k default).toList == u.toList)=true):sayE u (W.drop k)=.ok ((),W.drop (k+1)):=by
 rw [sayE,nextDk h,ok_bind]; exact if_pos h1
theorem numD {W:List ByteArray} {k:Nat} {n:Int} (h:k < W.length) (h1:numW (W.getD k default)=true) (h2:atoiV (W.getD k default)=n):numE (W.drop k)=.ok (n,W.drop (k+1)):=by
 rw [numE,nextDk h,ok_bind,←h2]; exact if_pos h1
theorem numsD1 {W:List ByteArray} {k:Nat} {n:Int} (h:k < W.length) (h1:numW (W.getD k default)=true) (h2:atoiV (W.getD k default)=n):numsE 1 (W.drop k)=.ok ([n],W.drop (k+1)):=by
 rw [numsE,numD h h1 h2]; rfl
theorem numsDs {W:List ByteArray} {k m:Nat} {n:Int} {l:List Int} {r:List ByteArray} (h:k < W.length) (h1:numW (W.getD k default)=true) (h2:atoiV (W.getD k default)=n) (h3:numsE m (W.drop (k+1))=.ok (l,r)):numsE (m+1) (W.drop k)=.ok (n :: l,r):=by
 rw [numsE,numD h h1 h2,ok_bind]
 show(numsE m (W.drop (k+1)) >>= _)=_
 rw [h3]; rfl
theorem numsD2 {W:List ByteArray} {k:Nat} {n n2:Int} (h:k+1 < W.length) (h1:numW (W.getD k default)=true) (h2:atoiV (W.getD k default)=n) (h3:numW (W.getD (k+1) default)=true) (h4:atoiV (W.getD (k+1) default)=n2):numsE 2 (W.drop k)=.ok ([n,n2],W.drop (k+2)):=
 numsDs (by omega) h1 h2 (numsD1 h h3 h4)
theorem numsD3 {W:List ByteArray} {k:Nat} {n n2 n3:Int} (h:k+2 < W.length) (h1:numW (W.getD k default)=true) (h2:atoiV (W.getD k default)=n) (h3:numW (W.getD (k+1) default)=true) (h4:atoiV (W.getD (k+1) default)=n2) (h5:numW (W.getD (k+1+1) default)=true) (h6:atoiV (W.getD (k+1+1) default)=n3):numsE 3 (W.drop k)=.ok ([n,n2,n3],W.drop (k+3)):=
 numsDs (by omega) h1 h2 (numsD2 h h3 h4 h5 h6)
theorem numsD4 {W:List ByteArray} {k:Nat} {n n2 n3 n4:Int} (h:k+3 < W.length) (h1:numW (W.getD k default)=true) (h2:atoiV (W.getD k default)=n) (h3:numW (W.getD (k+1) default)=true) (h4:atoiV (W.getD (k+1) default)=n2) (h5:numW (W.getD (k+1+1) default)=true) (h6:atoiV (W.getD (k+1+1) default)=n3) (h7:numW (W.getD (k+1+1+1) default)=true) (h8:atoiV (W.getD (k+1+1+1) default)=n4):numsE 4 (W.drop k)=.ok ([n,n2,n3,n4],W.drop (k+4)):=
 numsDs (by omega) h1 h2 (numsD3 (by omega) h3 h4 h5 h6 h7 h8)
theorem oneD1 {W:List ByteArray} {u:ByteArray} {k:Nat} {n:Int} (h:k+1 < W.length) (h0:((W.getD k default).toList == u.toList)=true) (h1:numW (W.getD (k+1) default)=true) (h2:atoiV (W.getD (k+1) default)=n):oneE u 1 (W.drop k)=.ok ([n],W.drop (k+2)):=by
 rw [oneE,sayD (by omega) h0,ok_bind]; exact numsD1 h h1 h2
theorem oneD2 {W:List ByteArray} {u:ByteArray} {k:Nat} {n n2:Int} (h:k+2 < W.length) (h0:((W.getD k default).toList == u.toList)=true) (h1:numW (W.getD (k+1) default)=true) (h2:atoiV (W.getD (k+1) default)=n) (h3:numW (W.getD (k+1+1) default)=true) (h4:atoiV (W.getD (k+1+1) default)=n2):oneE u 2 (W.drop k)=.ok ([n,n2],W.drop (k+3)):=by
 rw [oneE,sayD (by omega) h0,ok_bind]; exact numsD2 h h1 h2 h3 h4
theorem heightD {W:List ByteArray} {acc acc2:List Int} {k:Nat} (h:k < W.length) (h1:((W.getD k default).toList == wLeast.toList)=false) (h2:numW (W.getD k default)=true) (h3:acc++[atoiV (W.getD k default)]=acc2):heightsA acc (W.drop k)=heightsA acc2 (W.drop (k+1)):=by
 rw [List.getD_eq_getElem?_getD,List.getElem?_eq_getElem h,Option.getD_some] at h1 h2 h3
 rw [List.drop_eq_getElem_cons h,heightsA,if_neg (by rw [show(W[k].toList == wLeast.toList)=false from h1]; exact Bool.false_ne_true),if_pos h2,←h3]
theorem heightE {W:List ByteArray} {acc:List Int} {k:Nat} (h:k < W.length) (h1:((W.getD k default).toList == wLeast.toList)=true):heightsA acc (W.drop k)=.ok (acc,W.drop k):=by
 rw [List.getD_eq_getElem?_getD,List.getElem?_eq_getElem h,Option.getD_some] at h1
 rw [List.drop_eq_getElem_cons h,heightsA,if_pos h1]
theorem kindD {W l:List ByteArray} {f k:Nat} {n:Int} (h:k < W.length) (h1:¬ findI (fun y=>(W.getD k default).toList == y.toList) (l.drop f) < 0∧findI (fun y=>(W.getD k default).toList == y.toList) (l.drop f)+f=n):kindE l f (W.drop k)=.ok (n,W.drop (k+1)):=by
 rw [kindE,nextDk h,ok_bind,←h1.2]; exact if_neg h1.1
noncomputable def dB:List UInt8:=daleT.data.toList
noncomputable def dQ0:List UInt8:=(dB.drop 0).take 170
set_option maxRecDepth 100000 in
theorem dct0:cutL 10 (dB.drop 0)=dQ0 :: cutL 10 (dB.drop 171):=cut_atk 0 170 (by decide +kernel) (by decide +kernel)
noncomputable def dQ1:List UInt8:=(dB.drop 171).take 20
set_option maxRecDepth 100000 in
theorem dct1:cutL 10 (dB.drop 171)=dQ1 :: cutL 10 (dB.drop 192):=cut_atk 171 20 (by decide +kernel) (by decide +kernel)
noncomputable def dQ2:List UInt8:=(dB.drop 192).take 25
set_option maxRecDepth 100000 in
theorem dct2:cutL 10 (dB.drop 192)=dQ2 :: cutL 10 (dB.drop 218):=cut_atk 192 25 (by decide +kernel) (by decide +kernel)
set_option maxRecDepth 100000 in
theorem dct3:cutL 10 (dB.drop 218)=[dB.drop 218]:=cutL_end (all_ne (by decide +kernel))
set_option maxRecDepth 100000 in
theorem dale_lines:linesL daleT=[mkB dQ0,mkB dQ1,mkB dQ2]:=by
 unfold linesL
 rw [splitL_map]
 show dropE ((cutL 10 (dB.drop 0)).map mkB)=_
 rw [dct0,dct1,dct2,dct3]
 show dropE [mkB dQ0,mkB dQ1,mkB dQ2,mkB (dB.drop 218)]=_
 rw [dropE,dropE,dropE,dropE,if_pos (by decide +kernel)]
set_option maxRecDepth 100000 in
theorem ds0_0:cutL 32 (dQ0.drop 0)=(dQ0.drop 0).take 5 :: cutL 32 (dQ0.drop 6):=cut_atk 0 5 (by decide +kernel) (by decide +kernel)
set_option maxRecDepth 100000 in
theorem ds0_1:cutL 32 (dQ0.drop 6)=(dQ0.drop 6).take 4 :: cutL 32 (dQ0.drop 11):=cut_atk 6 4 (by decide +kernel) (by decide +kernel)
set_option maxRecDepth 100000 in
theorem ds0_2:cutL 32 (dQ0.drop 11)=(dQ0.drop 11).take 4 :: cutL 32 (dQ0.drop 16):=cut_atk 11 4 (by decide +kernel) (by decide +kernel)
set_option maxRecDepth 100000 in
theorem ds0_3:cutL 32 (dQ0.drop 16)=(dQ0.drop 16).take 3 :: cutL 32 (dQ0.drop 20):=cut_atk 16 3 (by decide +kernel) (by decide +kernel)
set_option maxRecDepth 100000 in
theorem ds0_4:cutL 32 (dQ0.drop 20)=(dQ0.drop 20).take 6 :: cutL 32 (dQ0.drop 27):=cut_atk 20 6 (by decide +kernel) (by decide +kernel)
set_option maxRecDepth 100000 in
theorem ds0_5:cutL 32 (dQ0.drop 27)=(dQ0.drop 27).take 3 :: cutL 32 (dQ0.drop 31):=cut_atk 27 3 (by decide +kernel) (by decide +kernel)
set_option maxRecDepth 100000 in
theorem ds0_6:cutL 32 (dQ0.drop 31)=(dQ0.drop 31).take 6 :: cutL 32 (dQ0.drop 38):=cut_atk 31 6 (by decide +kernel) (by decide +kernel)
set_option maxRecDepth 100000 in
theorem ds0_7:cutL 32 (dQ0.drop 38)=(dQ0.drop 38).take 4 :: cutL 32 (dQ0.drop 43):=cut_atk 38 4 (by decide +kernel) (by decide +kernel)
set_option maxRecDepth 100000 in
theorem ds0_8:cutL 32 (dQ0.drop 43)=(dQ0.drop 43).take 4 :: cutL 32 (dQ0.drop 48):=cut_atk 43 4 (by decide +kernel) (by decide +kernel)
set_option maxRecDepth 100000 in
theorem ds0_9:cutL 32 (dQ0.drop 48)=(dQ0.drop 48).take 3 :: cutL 32 (dQ0.drop 52):=cut_atk 48 3 (by decide +kernel) (by decide +kernel)
set_option maxRecDepth 100000 in
theorem ds0_10:cutL 32 (dQ0.drop 52)=(dQ0.drop 52).take 7 :: cutL 32 (dQ0.drop 60):=cut_atk 52 7 (by decide +kernel) (by decide +kernel)
set_option maxRecDepth 100000 in
theorem ds0_11:cutL 32 (dQ0.drop 60)=(dQ0.drop 60).take 3 :: cutL 32 (dQ0.drop 64):=cut_atk 60 3 (by decide +kernel) (by decide +kernel)
set_option maxRecDepth 100000 in
theorem ds0_12:cutL 32 (dQ0.drop 64)=(dQ0.drop 64).take 3 :: cutL 32 (dQ0.drop 68):=cut_atk 64 3 (by decide +kernel) (by decide +kernel)
set_option maxRecDepth 100000 in
theorem ds0_13:cutL 32 (dQ0.drop 68)=(dQ0.drop 68).take 5 :: cutL 32 (dQ0.drop 74):=cut_atk 68 5 (by decide +kernel) (by decide +kernel)
set_option maxRecDepth 100000 in
theorem ds0_14:cutL 32 (dQ0.drop 74)=(dQ0.drop 74).take 2 :: cutL 32 (dQ0.drop 77):=cut_atk 74 2 (by decide +kernel) (by decide +kernel)
set_option maxRecDepth 100000 in
theorem ds0_15:cutL 32 (dQ0.drop 77)=(dQ0.drop 77).take 3 :: cutL 32 (dQ0.drop 81):=cut_atk 77 3 (by decide +kernel) (by decide +kernel)
set_option maxRecDepth 100000 in
theorem ds0_16:cutL 32 (dQ0.drop 81)=(dQ0.drop 81).take 2 :: cutL 32 (dQ0.drop 84):=cut_atk 81 2 (by decide +kernel) (by decide +kernel)
set_option maxRecDepth 100000 in
theorem ds0_17:cutL 32 (dQ0.drop 84)=(dQ0.drop 84).take 3 :: cutL 32 (dQ0.drop 88):=cut_atk 84 3 (by decide +kernel) (by decide +kernel)
set_option maxRecDepth 100000 in
theorem ds0_18:cutL 32 (dQ0.drop 88)=(dQ0.drop 88).take 1 :: cutL 32 (dQ0.drop 90):=cut_atk 88 1 (by decide +kernel) (by decide +kernel)
set_option maxRecDepth 100000 in
theorem ds0_19:cutL 32 (dQ0.drop 90)=(dQ0.drop 90).take 7 :: cutL 32 (dQ0.drop 98):=cut_atk 90 7 (by decide +kernel) (by decide +kernel)
set_option maxRecDepth 100000 in
theorem ds0_20:cutL 32 (dQ0.drop 98)=(dQ0.drop 98).take 3 :: cutL 32 (dQ0.drop 102):=cut_atk 98 3 (by decide +kernel) (by decide +kernel)
set_option maxRecDepth 100000 in
theorem ds0_21:cutL 32 (dQ0.drop 102)=(dQ0.drop 102).take 3 :: cutL 32 (dQ0.drop 106):=cut_atk 102 3 (by decide +kernel) (by decide +kernel)
set_option maxRecDepth 100000 in
theorem ds0_22:cutL 32 (dQ0.drop 106)=(dQ0.drop 106).take 7 :: cutL 32 (dQ0.drop 114):=cut_atk 106 7 (by decide +kernel) (by decide +kernel)
set_option maxRecDepth 100000 in
theorem ds0_23:cutL 32 (dQ0.drop 114)=(dQ0.drop 114).take 3 :: cutL 32 (dQ0.drop 118):=cut_atk 114 3 (by decide +kernel) (by decide +kernel)
set_option maxRecDepth 100000 in
theorem ds0_24:cutL 32 (dQ0.drop 118)=(dQ0.drop 118).take 3 :: cutL 32 (dQ0.drop 122):=cut_atk 118 3 (by decide +kernel) (by decide +kernel)
set_option maxRecDepth 100000 in
theorem ds0_25:cutL 32 (dQ0.drop 122)=(dQ0.drop 122).take 4 :: cutL 32 (dQ0.drop 127):=cut_atk 122 4 (by decide +kernel) (by decide +kernel)
set_option maxRecDepth 100000 in
theorem ds0_26:cutL 32 (dQ0.drop 127)=(dQ0.drop 127).take 4 :: cutL 32 (dQ0.drop 132):=cut_atk 127 4 (by decide +kernel) (by decide +kernel)
set_option maxRecDepth 100000 in
theorem ds0_27:cutL 32 (dQ0.drop 132)=(dQ0.drop 132).take 3 :: cutL 32 (dQ0.drop 136):=cut_atk 132 3 (by decide +kernel) (by decide +kernel)
set_option maxRecDepth 100000 in
theorem ds0_28:cutL 32 (dQ0.drop 136)=(dQ0.drop 136).take 3 :: cutL 32 (dQ0.drop 140):=cut_atk 136 3 (by decide +kernel) (by decide +kernel)
set_option maxRecDepth 100000 in
theorem ds0_29:cutL 32 (dQ0.drop 140)=(dQ0.drop 140).take 3 :: cutL 32 (dQ0.drop 144):=cut_atk 140 3 (by decide +kernel) (by decide +kernel)
set_option maxRecDepth 100000 in
theorem ds0_30:cutL 32 (dQ0.drop 144)=(dQ0.drop 144).take 8 :: cutL 32 (dQ0.drop 153):=cut_atk 144 8 (by decide +kernel) (by decide +kernel)
set_option maxRecDepth 100000 in
theorem ds0_31:cutL 32 (dQ0.drop 153)=(dQ0.drop 153).take 3 :: cutL 32 (dQ0.drop 157):=cut_atk 153 3 (by decide +kernel) (by decide +kernel)
set_option maxRecDepth 100000 in
theorem ds0_32:cutL 32 (dQ0.drop 157)=(dQ0.drop 157).take 3 :: cutL 32 (dQ0.drop 161):=cut_atk 157 3 (by decide +kernel) (by decide +kernel)
set_option maxRecDepth 100000 in
theorem ds0_33:cutL 32 (dQ0.drop 161)=(dQ0.drop 161).take 4 :: cutL 32 (dQ0.drop 166):=cut_atk 161 4 (by decide +kernel) (by decide +kernel)
set_option maxRecDepth 100000 in
theorem ds0_34:cutL 32 (dQ0.drop 166)=[dQ0.drop 166]:=cutL_end (all_ne (by decide +kernel))
noncomputable def dW0:List ByteArray:=[mkB ((dQ0.drop 0).take 5),mkB ((dQ0.drop 6).take 4),mkB ((dQ0.drop 11).take 4),mkB ((dQ0.drop 16).take 3),mkB ((dQ0.drop 20).take 6),mkB ((dQ0.drop 27).take 3),mkB ((dQ0.drop 31).take 6),mkB ((dQ0.drop 38).take 4),mkB ((dQ0.drop 43).take 4),mkB ((dQ0.drop 48).take 3),mkB ((dQ0.drop 52).take 7),mkB ((dQ0.drop 60).take 3),mkB ((dQ0.drop 64).take 3),mkB ((dQ0.drop 68).take 5),mkB ((dQ0.drop 74).take 2),mkB ((dQ0.drop 77).take 3),mkB ((dQ0.drop 81).take 2),mkB ((dQ0.drop 84).take 3),mkB ((dQ0.drop 88).take 1),mkB ((dQ0.drop 90).take 7),mkB ((dQ0.drop 98).take 3),mkB ((dQ0.drop 102).take 3),mkB ((dQ0.drop 106).take 7),mkB ((dQ0.drop 114).take 3),mkB ((dQ0.drop 118).take 3),mkB ((dQ0.drop 122).take 4),mkB ((dQ0.drop 127).take 4),mkB ((dQ0.drop 132).take 3),mkB ((dQ0.drop 136).take 3),mkB ((dQ0.drop 140).take 3),mkB ((dQ0.drop 144).take 8),mkB ((dQ0.drop 153).take 3),mkB ((dQ0.drop 157).take 3),mkB ((dQ0.drop 161).take 4),mkB (dQ0.drop 166)]
set_option maxRecDepth 100000 in
theorem dW0_eq:splitL (mkB dQ0) 32=dW0:=by
 rw [splitL_map]
 show(cutL 32 (dQ0.drop 0)).map mkB=_
 rw [ds0_0,ds0_1,ds0_2,ds0_3,ds0_4,ds0_5,ds0_6,ds0_7,ds0_8,ds0_9,ds0_10,ds0_11,ds0_12,ds0_13,ds0_14,ds0_15,ds0_16,ds0_17,ds0_18,ds0_19,ds0_20,ds0_21,ds0_22,ds0_23,ds0_24,ds0_25,ds0_26,ds0_27,ds0_28,ds0_29,ds0_30,ds0_31,ds0_32,ds0_33,ds0_34]
 rfl
set_option maxRecDepth 100000 in
theorem idle0:idle (mkB dQ0)=false:=by decide +kernel
set_option maxRecDepth 100000 in
theorem ds1_0:cutL 32 (dQ1.drop 0)=(dQ1.drop 0).take 4 :: cutL 32 (dQ1.drop 5):=cut_atk 0 4 (by decide +kernel) (by decide +kernel)
set_option maxRecDepth 100000 in
theorem ds1_1:cutL 32 (dQ1.drop 5)=(dQ1.drop 5).take 5 :: cutL 32 (dQ1.drop 11):=cut_atk 5 5 (by decide +kernel) (by decide +kernel)
set_option maxRecDepth 100000 in
theorem ds1_2:cutL 32 (dQ1.drop 11)=(dQ1.drop 11).take 4 :: cutL 32 (dQ1.drop 16):=cut_atk 11 4 (by decide +kernel) (by decide +kernel)
set_option maxRecDepth 100000 in
theorem ds1_3:cutL 32 (dQ1.drop 16)=[dQ1.drop 16]:=cutL_end (all_ne (by decide +kernel))
noncomputable def dW1:List ByteArray:=[mkB ((dQ1.drop 0).take 4),mkB ((dQ1.drop 5).take 5),mkB ((dQ1.drop 11).take 4),mkB (dQ1.drop 16)]
set_option maxRecDepth 100000 in
theorem dW1_eq:splitL (mkB dQ1) 32=dW1:=by
 rw [splitL_map]
 show(cutL 32 (dQ1.drop 0)).map mkB=_
 rw [ds1_0,ds1_1,ds1_2,ds1_3]
 rfl
set_option maxRecDepth 100000 in
theorem idle1:idle (mkB dQ1)=false:=by decide +kernel
set_option maxRecDepth 100000 in
theorem ds2_0:cutL 32 (dQ2.drop 0)=(dQ2.drop 0).take 4 :: cutL 32 (dQ2.drop 5):=cut_atk 0 4 (by decide +kernel) (by decide +kernel)
set_option maxRecDepth 100000 in
theorem ds2_1:cutL 32 (dQ2.drop 5)=(dQ2.drop 5).take 5 :: cutL 32 (dQ2.drop 11):=cut_atk 5 5 (by decide +kernel) (by decide +kernel)
set_option maxRecDepth 100000 in
theorem ds2_2:cutL 32 (dQ2.drop 11)=(dQ2.drop 11).take 4 :: cutL 32 (dQ2.drop 16):=cut_atk 11 4 (by decide +kernel) (by decide +kernel)
set_option maxRecDepth 100000 in
theorem ds2_3:cutL 32 (dQ2.drop 16)=(dQ2.drop 16).take 3 :: cutL 32 (dQ2.drop 20):=cut_atk 16 3 (by decide +kernel) (by decide +kernel)
set_option maxRecDepth 100000 in
theorem ds2_4:cutL 32 (dQ2.drop 20)=(dQ2.drop 20).take 1 :: cutL 32 (dQ2.drop 22):=cut_atk 20 1 (by decide +kernel) (by decide +kernel)
set_option maxRecDepth 100000 in
theorem ds2_5:cutL 32 (dQ2.drop 22)=[dQ2.drop 22]:=cutL_end (all_ne (by decide +kernel))
noncomputable def dW2:List ByteArray:=[mkB ((dQ2.drop 0).take 4),mkB ((dQ2.drop 5).take 5),mkB ((dQ2.drop 11).take 4),mkB ((dQ2.drop 16).take 3),mkB ((dQ2.drop 20).take 1),mkB (dQ2.drop 22)]
set_option maxRecDepth 100000 in
theorem dW2_eq:splitL (mkB dQ2) 32=dW2:=by
 rw [splitL_map]
 show(cutL 32 (dQ2.drop 0)).map mkB=_
 rw [ds2_0,ds2_1,ds2_2,ds2_3,ds2_4,ds2_5]
 rfl
set_option maxRecDepth 100000 in
theorem idle2:idle (mkB dQ2)=false:=by decide +kernel
set_option maxRecDepth 100000 in
theorem dn0:nameE (dW0.drop 1)=.ok ((mkB ((dQ0.drop 6).take 4)),dW0.drop 2):=nameD (by decide) (by decide +kernel)
set_option maxRecDepth 100000 in
theorem dbase:oneE ⟨#[98,97,115,101]⟩ 1 (dW0.drop 2)=.ok ([700],dW0.drop 4):=oneD1 (by decide) (by decide +kernel) (by decide +kernel) (by decide +kernel)
set_option maxRecDepth 100000 in
theorem dbatter:oneE ⟨#[98,97,116,116,101,114]⟩ 1 (dW0.drop 4)=.ok ([100],dW0.drop 6):=oneD1 (by decide) (by decide +kernel) (by decide +kernel) (by decide +kernel)
set_option maxRecDepth 100000 in
theorem dheight:oneE ⟨#[104,101,105,103,104,116]⟩ 1 (dW0.drop 6)=.ok ([1200],dW0.drop 8):=oneD1 (by decide) (by decide +kernel) (by decide +kernel) (by decide +kernel)
set_option maxRecDepth 100000 in
theorem dskin:oneE ⟨#[115,107,105,110]⟩ 1 (dW0.drop 8)=.ok ([250],dW0.drop 10):=oneD1 (by decide) (by decide +kernel) (by decide +kernel) (by decide +kernel)
set_option maxRecDepth 100000 in
theorem dheights:sayE ⟨#[104,101,105,103,104,116,115]⟩ (dW0.drop 10)=.ok ((),dW0.drop 11):=sayD (by decide) (by decide +kernel)
set_option maxRecDepth 100000 in
theorem dh0:heightsA [] (dW0.drop 11)=heightsA [200] (dW0.drop 12):=heightD (by decide) (by decide +kernel) (by decide +kernel) (by decide +kernel)
set_option maxRecDepth 100000 in
theorem dh1:heightsA [200] (dW0.drop 12)=heightsA [200,180] (dW0.drop 13):=heightD (by decide) (by decide +kernel) (by decide +kernel) (by decide +kernel)
set_option maxRecDepth 100000 in
theorem dhe:heightsA [200,180] (dW0.drop 13)=.ok ([200,180],dW0.drop 13):=heightE (by decide) (by decide +kernel)
set_option maxRecDepth 100000 in
theorem dhs:heightsA [] (dW0.drop 11)=.ok ([200,180],dW0.drop 13):=by rw [dh0,dh1,dhe]
set_option maxRecDepth 100000 in
theorem dleast:oneE ⟨#[108,101,97,115,116]⟩ 1 (dW0.drop 13)=.ok ([60],dW0.drop 15):=oneD1 (by decide) (by decide +kernel) (by decide +kernel) (by decide +kernel)
set_option maxRecDepth 100000 in
theorem dlap:oneE ⟨#[108,97,112]⟩ 1 (dW0.drop 15)=.ok ([60],dW0.drop 17):=oneD1 (by decide) (by decide +kernel) (by decide +kernel) (by decide +kernel)
set_option maxRecDepth 100000 in
theorem drun:oneE ⟨#[114,117,110]⟩ 1 (dW0.drop 17)=.ok ([2],dW0.drop 19):=oneD1 (by decide) (by decide +kernel) (by decide +kernel) (by decide +kernel)
set_option maxRecDepth 100000 in
theorem dthrough:oneE ⟨#[116,104,114,111,117,103,104]⟩ 2 (dW0.drop 19)=.ok ([900,500],dW0.drop 22):=oneD2 (by decide) (by decide +kernel) (by decide +kernel) (by decide +kernel) (by decide +kernel) (by decide +kernel)
set_option maxRecDepth 100000 in
theorem dfooting:oneE ⟨#[102,111,111,116,105,110,103]⟩ 2 (dW0.drop 22)=.ok ([200,100],dW0.drop 25):=oneD2 (by decide) (by decide +kernel) (by decide +kernel) (by decide +kernel) (by decide +kernel) (by decide +kernel)
set_option maxRecDepth 100000 in
theorem dcope:sayE ⟨#[99,111,112,101]⟩ (dW0.drop 25)=.ok ((),dW0.drop 26):=sayD (by decide) (by decide +kernel)
set_option maxRecDepth 100000 in
theorem dkind:kindE copesW 0 (dW0.drop 26)=.ok (3,dW0.drop 27):=kindD (by decide) (by decide +kernel)
set_option maxRecDepth 100000 in
theorem dc3:numsE 3 (dW0.drop 27)=.ok ([300,200,150],dW0.drop 30):=numsD3 (by decide) (by decide +kernel) (by decide +kernel) (by decide +kernel) (by decide +kernel) (by decide +kernel) (by decide +kernel)
set_option maxRecDepth 100000 in
theorem dfriction:oneE ⟨#[102,114,105,99,116,105,111,110]⟩ 2 (dW0.drop 30)=.ok ([500,700],dW0.drop 33):=oneD2 (by decide) (by decide +kernel) (by decide +kernel) (by decide +kernel) (by decide +kernel) (by decide +kernel)
set_option maxRecDepth 100000 in
theorem drood:oneE ⟨#[114,111,111,100]⟩ 1 (dW0.drop 33)=.ok ([6000],dW0.drop 35):=oneD1 (by decide) (by decide +kernel) (by decide +kernel) (by decide +kernel)
noncomputable def dSh:Sht:=⟨(mkB ((dQ0.drop 6).take 4)),700,100,1200,250,[200,180],60,60,2,900,500,200,100,3,300,200,150,500,700,6000⟩
set_option maxRecDepth 100000 in
theorem dsheet:sheetE (dW0.drop 1)=.ok (dSh,dW0.drop 35):=by
 unfold sheetE
 simp only [dn0,dbase,dbatter,dheight,dskin,dheights,dhs,dleast,dlap,drun,dthrough,dfooting,dcope,dkind,dc3,dfriction,drood,ok_bind]
 rfl
set_option maxRecDepth 100000 in
theorem dsh_ok:sheetP dSh=true:=by decide +kernel
set_option maxRecDepth 100000 in
theorem dline0:lineE ⟨[],[]⟩ ((mkB dQ0))=.ok ⟨[dSh],[]⟩:=by
 have h1:formE ⟨[],[]⟩ (mkB ((dQ0.drop 0).take 5)) (dW0.drop 1)=sheetLineE ⟨[],[]⟩ (dW0.drop 1):=if_pos (by decide +kernel)
 have h2:endE (dW0.drop 35)=.ok ((),dW0.drop 35):=if_pos (by decide)
 unfold lineE
 rw [dW0_eq,nextD (W:=dW0) (by decide),ok_bind]
 show formE ⟨[],[]⟩ (mkB ((dQ0.drop 0).take 5)) (dW0.drop 1)=_
 rw [h1]
 unfold sheetLineE
 simp only [dsheet,ok_bind,h2]
 rw [if_neg (by decide),if_pos dsh_ok]
 rfl
noncomputable def dWl0:Wll:=⟨(mkB ((dQ1.drop 5).take 5)),(mkB ((dQ1.drop 11).take 4)),3000,[]⟩
set_option maxRecDepth 100000 in
theorem dline1:lineE ⟨[dSh],[]⟩ ((mkB dQ1))=.ok ⟨[dSh],[dWl0]⟩:=by
 have h1:formE ⟨[dSh],[]⟩ (mkB ((dQ1.drop 0).take 4)) (dW1.drop 1)=wallLineE ⟨[dSh],[]⟩ (dW1.drop 1):=(if_neg (by decide +kernel)).trans (if_pos (by decide +kernel))
 have h2:nameE (dW1.drop 1)=.ok ((mkB ((dQ1.drop 5).take 5)),dW1.drop 2):=nameD (by decide) (by decide +kernel)
 have h3:nameE (dW1.drop 2)=.ok ((mkB ((dQ1.drop 11).take 4)),dW1.drop 3):=nameD (by decide) (by decide +kernel)
 have h4:numsE 1 (dW1.drop 3)=.ok ([3000],dW1.drop 4):=numsD1 (by decide) (by decide +kernel) (by decide +kernel)
 have h5:endE (dW1.drop 4)=.ok ((),dW1.drop 4):=if_pos (by decide)
 unfold lineE
 rw [dW1_eq,nextD (W:=dW1) (by decide),ok_bind]
 show formE ⟨[dSh],[]⟩ (mkB ((dQ1.drop 0).take 4)) (dW1.drop 1)=_
 rw [h1]
 unfold wallLineE
 simp only [h2,h3,h4,h5,ok_bind]
 rw [if_neg (by decide),if_pos (by decide +kernel),if_pos (by decide +kernel)]
 rfl
def dOp:Opn:=⟨1,1000,250,0,220⟩
noncomputable def dWl:Wll:=more dWl0 dOp
set_option maxRecDepth 100000 in
theorem dline2:lineE ⟨[dSh],[dWl0]⟩ ((mkB dQ2))=.ok ⟨[dSh],[dWl]⟩:=by
 have h1:formE ⟨[dSh],[dWl0]⟩ (mkB ((dQ2.drop 0).take 4)) (dW2.drop 1)=openLineE ⟨[dSh],[dWl0]⟩ (dW2.drop 1):=(if_neg (by decide +kernel)).trans ((if_neg (by decide +kernel)).trans (if_pos (by decide +kernel)))
 have h2:kindE opensW 1 (dW2.drop 1)=.ok (1,dW2.drop 2):=kindD (by decide) (by decide +kernel)
 have h3:numsE 4 (dW2.drop 2)=.ok ([1000,250,0,220],dW2.drop 6):=numsD4 (by decide) (by decide +kernel) (by decide +kernel) (by decide +kernel) (by decide +kernel) (by decide +kernel) (by decide +kernel) (by decide +kernel) (by decide +kernel)
 have h5:endE (dW2.drop 6)=.ok ((),dW2.drop 6):=if_pos (by decide)
 have h6:wallB (getS [dSh] dWl0.sheet).height (more dWl0 dOp)=true:=by decide +kernel
 unfold lineE
 rw [dW2_eq,nextD (W:=dW2) (by decide),ok_bind]
 show formE ⟨[dSh],[dWl0]⟩ (mkB ((dQ2.drop 0).take 4)) (dW2.drop 1)=_
 rw [h1]
 unfold openLineE
 simp only [h2,h3,h5,ok_bind]
 exact(if_neg (by decide)).trans (if_pos h6)
set_option maxRecDepth 100000 in
theorem dale_parse:parseE daleT=(⟨[dSh],[dWl]⟩,0,0):=by
 refine parse_ok (by have:=dale_size; omega) ?_
 rw [dale_lines,plain_ok idle0 dline0,plain_ok idle1 dline1,plain_ok idle2 dline2]
 rfl
end Go.Proofs.YtdcfcfhmkfkgmaaGreatDoor
namespace Go.Pln
open Go Go.K Go.RowKit Go.Stn
def smS (S:List ShC) (i:Nat):Bool:=!(decide (20 < ((S.getD i default).s.heights.length:Int))||decide (40 < ((S.getD i default).s.name.size:Int)))
def smW (V:List WlC) (i:Nat):Bool:=!(decide (25 < ((V.getD i default).s.opens.length:Int)))
def smallP (S:List ShC) (V:List WlC):Bool:=allI S.length (smS S)&&(allI V.length (smW V)&&(decide ((S.length:Int)≤25)&&decide ((V.length:Int)≤60)))
section
variable {S:List ShC} {V:List WlC} {i:Int}
theorem small_noS (h0:0≤i) (h:i < (S.length:Int)) (hn:smS S i.toNat=false):smallP S V=false:=by
 unfold smallP; rw [allI_false (i:=i.toNat) (by omega) hn,Bool.false_and]
theorem small_noW (h0:0≤i) (h:i < (V.length:Int)) (hn:smW V i.toNat=false):smallP S V=false:=by
 unfold smallP; rw [allI_false (i:=i.toNat) (by omega) hn,Bool.false_and,Bool.and_false]
theorem small_all {k:Int} (h1:¬ i < (S.length:Int)) (h2:∀ j:Nat,(j:Int) < i→smS S j=true) (h3:¬ k < (V.length:Int)) (h4:∀ j:Nat,(j:Int) < k→smW V j=true) :
  smallP S V=(decide ((S.length:Int)≤25)&&decide ((V.length:Int)≤60)):=by
 unfold smallP
 rw [allI_true (fun j hj=>h2 j (by omega)),allI_true (fun j hj=>h4 j (by omega)),Bool.true_and,Bool.true_and]
structure SmallF (S:List ShC) (V:List WlC):Prop where
 ls:S.length≤25
 lv:V.length≤60
 sh:∀ z∈S,z.s.heights.length≤20∧z.s.name.size≤40
 wl:∀ z∈V,z.s.opens.length≤25
theorem small_facts (h:smallP S V=true):SmallF S V:=by
 unfold smallP at h
 simp only [Bool.and_eq_true,decide_eq_true_eq] at h
 obtain⟨h1,h2,h3,h4⟩:=h
 refine⟨by omega,by omega,fun z hz=>?_,fun z hz=>?_⟩
 ·obtain⟨i,hi,rfl⟩:=List.getElem_of_mem hz
  have:=allI_iff.1 h1 i hi
  unfold smS at this
  rw [List.getD_eq_getElem?_getD,List.getElem?_eq_getElem hi] at this
  simp only [Option.getD_some,Bool.not_eq_true',Bool.or_eq_false_iff,decide_eq_false_iff_not] at this
  omega
 ·obtain⟨i,hi,rfl⟩:=List.getElem_of_mem hz
  have:=allI_iff.1 h2 i hi
  unfold smW at this
  rw [List.getD_eq_getElem?_getD,List.getElem?_eq_getElem hi] at this
  simp only [Option.getD_some,Bool.not_eq_true',decide_eq_false_iff_not] at this
  omega
end
end Go.Pln
namespace Go.Proofs.YtdcfcfhmkfkgmaaGreatDoor
open Go.K Go.Stn Go.Pln Go.RowKit
set_option maxRecDepth 100000 in
set_option maxHeartbeats 4000000 in
theorem small_c (a:Option Addr) (cap:Nat) (S:List ShC) (b:Option Addr) (bcap:Nat) (V:List WlC) (w:World) (hl:Has w (Elems a 20 encSht S)) (hs:Small S.length) (hlw:Has w (Elems b 4 encWll V)) (hsw:V.length≤4398046511104) (_hfS:∀ z∈S,Fits z.s.name.size) :
  Calls Tryz.prog 12 #[.agg #[.slice a S.length cap,.slice b V.length bcap]] w (Pure (.bool (smallP S V)) w):=by
 refine calls_of_gk (vs:=[_]) Tryz.func12 rfl rfl (Nat.le_of_ble_eq_true rfl) ?_
 refine gk_seq ?_
 refine gk_region ?_
 refine gk_yx rfl rfl (yx_box (vs:=[_,_]) rfl rfl) fun b1=>?_
 refine gk_y rfl rfl (y_assign rfl) ?_
 refine gk_nil (gk_sub (T':=[(1,_),(2,_)]) ⟨rfl,rfl,trivial⟩ ?_)
 refine gk_seq ?_
 refine gk_seq ?_
 refine gk_region ?_
 refine gk_y rfl rfl (y_assign rfl) ?_
 refine gk_nil (gk_sub (T':=[(1,_),(2,_),(3,_)]) ⟨rfl,rfl,rfl,trivial⟩ ?_)
 refine gk_block ?_
 refine gk_loop (X:=Int) (fun(i:Int)=>[(1,.pointer (some ⟨b1,0,none⟩)),(2,.bool false),(3,.int .i64 i)]) (fun(i:Int)=>[Box b1 [.slice a S.length cap,.slice b V.length bcap] 25]) (fun(i:Int)=>(0≤i∧i≤S.length∧∀ j:Nat,(j:Int) < i→smS S j=true)) (fun(i:Int)=>(S.length - i).toNat) 0 ⟨rfl,rfl,rfl,trivial⟩ rfl ?_ ?_
 ·exact⟨by omega,by omega,fun j hj=>by omega⟩
 ·rintro i hI
  obtain⟨g0,g1,g2⟩:=hI
  refine gk_seq ?_
  refine gk_seq ?_
  refine gk_region ?_
  refine gk_y rfl rfl (y_move rfl) ?_
  refine gk_y rfl rfl (y_fieldAddr fo25_0 rfl) ?_
  refine gk_y rfl rfl (y_loadB1 0 tf22 rfl rfl rfl) ?_
  refine gk_y rfl rfl (y_lenS (Tryz.underlying22) rfl) ?_
  refine gk_y rfl rfl (y_lss rfl rfl) ?_
  refine gk_nil (gk_sub (T':=[(1,_),(2,_),(3,_),(9,_)]) ⟨rfl,rfl,rfl,rfl,trivial⟩ ?_)
  refine gk_cond rfl (fun hc9=>?_) (fun hc9=>?_)
  ·have hc9:=of_decide_eq_true hc9
   refine gk_skip ?_
   refine gk_seq ?_
   refine gk_block ?_
   refine gk_seq ?_
   refine gk_any 18 (fun _=>mixed) (by kernel_rfl) ?_
   refine ph_y (y_fieldAddr fo25_0 rfl) ?_
   refine ph_y (y_loadB1 0 tf22 rfl rfl rfl) ?_
   refine ph_y (y_move rfl) ?_
   refine ph_y (y_indexE se22 rfl rfl (fun _ hw=>(Rd.has (Has.rd hl) hw)) (by omega) (by omega)) ?_
   refine ph_y (y_fieldE fo37_5 rfl (fun w hw=>elems_addr (i:=i) (Rd.has (Has.rd hl) hw) (by omega) (by omega))) ?_
   refine ph_y (y_loadEF tf35 rfl (fun _ hw=>(Rd.has (Has.rd hl) hw)) (by omega) (by omega) rfl) ?_
   refine ph_y (y_lenS (Tryz.underlying35) rfl) ?_
   refine ph_y (y_gtr rfl rfl) ?_
   refine ph_y (y_move rfl) ?_
   refine ph_gF rfl rfl (fun hgd=>by(try rw [hgd]); exact(y_fieldAddr fo25_0 rfl)) ?_
   refine ph_gF rfl rfl (fun hgd=>by(try rw [hgd]); exact(y_loadB1 0 tf22 rfl rfl rfl)) ?_
   refine ph_gF rfl rfl (fun hgd=>by(try rw [hgd]); exact(y_move rfl)) ?_
   refine ph_gF rfl rfl (fun hgd=>by(try rw [hgd]); exact(y_indexE se22 rfl rfl (fun _ hw=>(Rd.has (Has.rd hl) hw)) (by omega) (by omega))) ?_
   refine ph_gF rfl rfl (fun hgd=>by(try rw [hgd]); exact(y_fieldE fo37_0 rfl (fun w hw=>elems_addr (i:=i) (Rd.has (Has.rd hl) hw) (by omega) (by omega)))) ?_
   refine ph_gF rfl rfl (fun hgd=>by(try rw [hgd]); exact(y_loadEF tf9 rfl (fun _ hw=>(Rd.has (Has.rd hl) hw)) (by omega) (by omega) rfl)) ?_
   refine ph_gF rfl rfl (fun hgd=>by(try rw [hgd]); exact(y_lenStr (Tryz.underlying9) rfl)) ?_
   refine ph_gF rfl rfl (fun hgd=>by(try rw [hgd]); exact(y_gtr rfl rfl)) ?_
   refine ph_y (y_pickOr rfl rfl rfl) ?_
   refine gk_nil (gk_sub (T':=[(1,_),(2,_),(3,_),(29,_)]) ⟨rfl,rfl,rfl,rfl,trivial⟩ ?_)
   refine gk_cond rfl (fun hc29=>?_) (fun hc29=>?_)
   ·have hno:smS S i.toNat=false:=by unfold smS; rw [hc29]; rfl
    refine gk_seq ?_
    refine gk_region ?_
    refine gk_y rfl rfl (y_assign rfl) ?_
    refine gk_nil (gk_sub (T':=[(1,_),(2,_),(3,_)]) ⟨rfl,rfl,rfl,trivial⟩ ?_)
    refine gk_ret ?_
    refine gk_pure (rv_one rfl (r1_tmp rfl)) ?_
    rw [small_noS g0 hc9 hno]
   ·have hyes:smS S i.toNat=true:=by unfold smS; rw [hc29]; rfl
    refine gk_skip ?_
    refine gk_region ?_
    refine gk_y rfl rfl (y_move rfl) ?_
    refine gk_y rfl rfl (y_addI rfl rfl (by omega) (by omega)) ?_
    refine gk_y rfl rfl (y_assign rfl) ?_
    refine gk_nil (gk_sub (T':=[(1,_),(2,_),(3,_)]) ⟨rfl,rfl,rfl,trivial⟩ ?_)
    exact gk_next (i+1) ⟨rfl,rfl,rfl,trivial⟩ rfl ⟨by omega,by omega,true_succ g0 g2 hyes⟩ (by omega)
  ·have hc9:=of_decide_eq_false hc9
   refine gk_exit rfl ?_
   refine gk_seq ?_
   refine gk_seq ?_
   refine gk_region ?_
   refine gk_y rfl rfl (y_assign rfl) ?_
   refine gk_nil (gk_sub (T':=[(1,_),(2,_),(4,_)]) ⟨rfl,rfl,rfl,trivial⟩ ?_)
   refine gk_block ?_
   refine gk_loop (X:=Int) (fun(i:Int)=>[(1,.pointer (some ⟨b1,0,none⟩)),(2,.bool false),(4,.int .i64 i)]) (fun(i:Int)=>[Box b1 [.slice a S.length cap,.slice b V.length bcap] 25]) (fun(i:Int)=>(0≤i∧i≤V.length∧∀ j:Nat,(j:Int) < i→smW V j=true)) (fun(i:Int)=>(V.length - i).toNat) 0 ⟨rfl,rfl,rfl,trivial⟩ rfl ?_ ?_
   ·exact⟨by omega,by omega,fun j hj=>by omega⟩
   ·rintro i hI
    have gi2:=g2; have hgi:=hc9
    rename_i ii
    obtain⟨k0,k1,k2⟩:=hI
    refine gk_seq ?_
    refine gk_seq ?_
    refine gk_region ?_
    refine gk_y rfl rfl (y_move rfl) ?_
    refine gk_y rfl rfl (y_fieldAddr fo25_1 rfl) ?_
    refine gk_y rfl rfl (y_loadB1 0 tf23 rfl rfl rfl) ?_
    refine gk_y rfl rfl (y_lenS (Tryz.underlying23) rfl) ?_
    refine gk_y rfl rfl (y_lss rfl rfl) ?_
    refine gk_nil (gk_sub (T':=[(1,_),(2,_),(4,_),(34,_)]) ⟨rfl,rfl,rfl,rfl,trivial⟩ ?_)
    refine gk_cond rfl (fun hc34=>?_) (fun hc34=>?_)
    ·have hc34:=of_decide_eq_true hc34
     refine gk_skip ?_
     refine gk_seq ?_
     refine gk_block ?_
     refine gk_seq ?_
     refine gk_region ?_
     refine gk_y rfl rfl (y_fieldAddr fo25_1 rfl) ?_
     refine gk_y rfl rfl (y_loadB1 0 tf23 rfl rfl rfl) ?_
     refine gk_y rfl rfl (y_move rfl) ?_
     refine gk_y rfl rfl (y_indexE se23 rfl rfl (fun _ hw=>(Rd.has (Has.rd hlw) hw)) (by omega) (by omega)) ?_
     refine gk_y rfl rfl (y_fieldE fo65_3 rfl (fun w hw=>elems_addr (i:=i) (Rd.has (Has.rd hlw) hw) (by omega) (by omega))) ?_
     refine gk_y rfl rfl (y_loadEF tf63 rfl (fun _ hw=>(Rd.has (Has.rd hlw) hw)) (by omega) (by omega) rfl) ?_
     refine gk_y rfl rfl (y_lenS (Tryz.underlying63) rfl) ?_
     refine gk_y rfl rfl (y_gtr rfl rfl) ?_
     refine gk_nil (gk_sub (T':=[(1,_),(2,_),(4,_),(44,_)]) ⟨rfl,rfl,rfl,rfl,trivial⟩ ?_)
     refine gk_cond rfl (fun hc44=>?_) (fun hc44=>?_)
     ·have hno:smW V i.toNat=false:=by unfold smW; rw [hc44]; rfl
      refine gk_seq ?_
      refine gk_region ?_
      refine gk_y rfl rfl (y_assign rfl) ?_
      refine gk_nil (gk_sub (T':=[(1,_),(2,_),(4,_)]) ⟨rfl,rfl,rfl,trivial⟩ ?_)
      refine gk_ret ?_
      refine gk_pure (rv_one rfl (r1_tmp rfl)) ?_
      rw [small_noW k0 hc34 hno]
     ·have hyes:smW V i.toNat=true:=by unfold smW; rw [hc44]; rfl
      refine gk_skip ?_
      refine gk_region ?_
      refine gk_y rfl rfl (y_move rfl) ?_
      refine gk_y rfl rfl (y_addI rfl rfl (by omega) (by omega)) ?_
      refine gk_y rfl rfl (y_assign rfl) ?_
      refine gk_nil (gk_sub (T':=[(1,_),(2,_),(4,_)]) ⟨rfl,rfl,rfl,trivial⟩ ?_)
      exact gk_next (i+1) ⟨rfl,rfl,rfl,trivial⟩ rfl ⟨by omega,by omega,true_succ k0 k2 hyes⟩ (by omega)
    ·have hc34:=of_decide_eq_false hc34
     refine gk_exit rfl ?_
     refine gk_seq ?_
     refine gk_any 11 (fun _=>mixed) (by kernel_rfl) ?_
     refine ph_y (y_fieldAddr fo25_0 rfl) ?_
     refine ph_y (y_loadB1 0 tf22 rfl rfl rfl) ?_
     refine ph_y (y_lenS (Tryz.underlying22) rfl) ?_
     refine ph_y (y_leq rfl rfl) ?_
     refine ph_y (y_move rfl) ?_
     refine ph_gT rfl rfl (fun hgd=>by(try rw [hgd]); exact(y_fieldAddr fo25_1 rfl)) ?_
     refine ph_gT rfl rfl (fun hgd=>by(try rw [hgd]); exact(y_loadB1 0 tf23 rfl rfl rfl)) ?_
     refine ph_gT rfl rfl (fun hgd=>by(try rw [hgd]); exact(y_lenS (Tryz.underlying23) rfl)) ?_
     refine ph_gT rfl rfl (fun hgd=>by(try rw [hgd]); exact(y_leq rfl rfl)) ?_
     refine ph_y (y_pickAnd rfl rfl rfl) ?_
     refine ph_y (y_assign rfl) ?_
     refine gk_nil (gk_sub (T':=[(2,_)]) ⟨rfl,trivial⟩ ?_)
     refine gk_ret ?_
     refine gk_pure (rv_one rfl (r1_tmp rfl)) ?_
     rw [small_all hc9 g2 hc34 k2]
end Go.Proofs.YtdcfcfhmkfkgmaaGreatDoor
namespace Go.Proofs.YtdcfcfhmkfkgmaaGreatDoor
open Go.K Go.Stn Go.Pln Go.RowKit
theorem fo94_1:FO Tryz.prog 94 1 1:=⟨by kernel_rfl⟩
set_option maxRecDepth 100000 in
set_option maxHeartbeats 8000000 in
theorem samesheet_c (s:Sht) (a:Option Addr) (cap:Nat) (b:Option Addr) (bcap:Nat) (w:World) (hl:Has w (Ints a s.heights)) (hl2:Has w (Ints b s.heights)) (hs:Small s.heights.length) :
  Calls Tryz.prog 39 #[.agg #[.string s.name,.int .i64 s.base,.int .i64 s.batter,.int .i64 s.height,.int .i64 s.skin,.slice a s.heights.length cap,.int .i64 s.least,.int .i64 s.lap,.int .i64 s.run,.int .i64 s.every,.int .i64 s.at_,.int .i64 s.footing,.int .i64 s.spread,.int .u8 s.cope,.int .i64 s.tall,.int .i64 s.short,.int .i64 s.thick,.int .i64 s.low,.int .i64 s.high,.int .i64 s.rood],.agg #[.string s.name,.int .i64 s.base,.int .i64 s.batter,.int .i64 s.height,.int .i64 s.skin,.slice b s.heights.length bcap,.int .i64 s.least,.int .i64 s.lap,.int .i64 s.run,.int .i64 s.every,.int .i64 s.at_,.int .i64 s.footing,.int .i64 s.spread,.int .u8 s.cope,.int .i64 s.tall,.int .i64 s.short,.int .i64 s.thick,.int .i64 s.low,.int .i64 s.high,.int .i64 s.rood]] w (Pure (.bool true) w):=by
 refine calls_of_gk (vs:=[_,_]) Tryz.func39 rfl rfl (Nat.le_of_ble_eq_true rfl) ?_
 refine gk_seq ?_
 refine gk_region ?_
 refine gk_yx rfl rfl (yx_box (vs:=[_,_,_,_,_,_,_,_,_,_,_,_,_,_,_,_,_,_,_,_]) rfl rfl) fun b2=>?_
 refine gk_yx rfl rfl (yx_box (vs:=[_,_,_,_,_,_,_,_,_,_,_,_,_,_,_,_,_,_,_,_]) rfl rfl) fun b3=>?_
 refine gk_y rfl rfl (y_assign rfl) ?_
 refine gk_nil (gk_sub (T':=[(2,_),(3,_),(4,_)]) ⟨rfl,rfl,rfl,trivial⟩ ?_)
 refine gk_seq ?_
 refine gk_seq ?_
 refine gk_region ?_
 refine gk_y rfl rfl (y_fieldAddr fo41_5 rfl) ?_
 refine gk_y rfl rfl (y_loadB1 1 tf35 rfl rfl rfl) ?_
 refine gk_y rfl rfl (y_lenS (Tryz.underlying35) rfl) ?_
 refine gk_y rfl rfl (y_fieldAddr fo37_5 rfl) ?_
 refine gk_y rfl rfl (y_loadB1 0 tf35 rfl rfl rfl) ?_
 refine gk_y rfl rfl (y_lenS (Tryz.underlying35) rfl) ?_
 refine gk_y rfl rfl (y_neq rfl rfl) ?_
 refine gk_nil (gk_sub (T':=[(2,_),(3,_),(4,_),(12,_)]) ⟨rfl,rfl,rfl,rfl,trivial⟩ ?_)
 refine gk_cond rfl (fun hc12=>?_) (fun hc12=>?_)
 ·exfalso; simp at hc12
 ·simp only [Bool.not_eq_false',decide_eq_true_eq] at hc12
  refine gk_skip ?_
  refine gk_seq ?_
  refine gk_seq ?_
  refine gk_region ?_
  refine gk_y rfl rfl (y_assign rfl) ?_
  refine gk_nil (gk_sub (T':=[(2,_),(3,_),(4,_),(5,_)]) ⟨rfl,rfl,rfl,rfl,trivial⟩ ?_)
  refine gk_block ?_
  refine gk_loop (X:=Int) (fun(i:Int)=>[(2,.pointer (some ⟨b2,0,none⟩)),(3,.pointer (some ⟨b3,0,none⟩)),(4,.bool false),(5,.int .i64 i)]) (fun(i:Int)=>[Box b3 [.string s.name,.int .i64 s.base,.int .i64 s.batter,.int .i64 s.height,.int .i64 s.skin,.slice b s.heights.length bcap,.int .i64 s.least,.int .i64 s.lap,.int .i64 s.run,.int .i64 s.every,.int .i64 s.at_,.int .i64 s.footing,.int .i64 s.spread,.int .u8 s.cope,.int .i64 s.tall,.int .i64 s.short,.int .i64 s.thick,.int .i64 s.low,.int .i64 s.high,.int .i64 s.rood] 37,Box b2 [.string s.name,.int .i64 s.base,.int .i64 s.batter,.int .i64 s.height,.int .i64 s.skin,.slice a s.heights.length cap,.int .i64 s.least,.int .i64 s.lap,.int .i64 s.run,.int .i64 s.every,.int .i64 s.at_,.int .i64 s.footing,.int .i64 s.spread,.int .u8 s.cope,.int .i64 s.tall,.int .i64 s.short,.int .i64 s.thick,.int .i64 s.low,.int .i64 s.high,.int .i64 s.rood] 41]) (fun(i:Int)=>(0≤i∧i≤s.heights.length)) (fun(i:Int)=>(s.heights.length - i).toNat) 0 ⟨rfl,rfl,rfl,rfl,trivial⟩ rfl ?_ ?_
  ·exact⟨by omega,by omega⟩
  ·rintro i hI
   obtain⟨g0,g1⟩:=hI
   refine gk_seq ?_
   refine gk_seq ?_
   refine gk_region ?_
   refine gk_y rfl rfl (y_move rfl) ?_
   refine gk_y rfl rfl (y_fieldAddr fo41_5 rfl) ?_
   refine gk_y rfl rfl (y_loadB1 1 tf35 rfl rfl rfl) ?_
   refine gk_y rfl rfl (y_lenS (Tryz.underlying35) rfl) ?_
   refine gk_y rfl rfl (y_lss rfl rfl) ?_
   refine gk_nil (gk_sub (T':=[(2,_),(3,_),(4,_),(5,_),(17,_)]) ⟨rfl,rfl,rfl,rfl,rfl,trivial⟩ ?_)
   refine gk_cond rfl (fun hc17=>?_) (fun hc17=>?_)
   ·have hc17:=of_decide_eq_true hc17
    refine gk_skip ?_
    refine gk_seq ?_
    refine gk_block ?_
    refine gk_seq ?_
    refine gk_any 11 (fun _=>mixed) (by kernel_rfl) ?_
    refine ph_y (y_fieldAddr fo41_5 rfl) ?_
    refine ph_y (y_loadB1 1 tf35 rfl rfl rfl) ?_
    refine ph_y (y_move rfl) ?_
    refine ph_y (y_indexE se35 rfl rfl (fun _ hw=>(Rd.has (Has.rd hl) hw)) (by omega) (by omega)) ?_
    refine ph_y (y_loadE1 tf3 rfl (fun _ hw=>(Rd.has (Has.rd hl) hw)) (by omega) (by omega) rfl) ?_
    refine ph_y (y_fieldAddr fo37_5 rfl) ?_
    refine ph_y (y_loadB1 0 tf35 rfl rfl rfl) ?_
    refine ph_y (y_move rfl) ?_
    refine ph_y (y_indexE se35 rfl rfl (fun _ hw=>(Rd.has (Has.rd hl2) hw)) (by omega) (by omega)) ?_
    refine ph_y (y_loadE1 tf3 rfl (fun _ hw=>(Rd.has (Has.rd hl2) hw)) (by omega) (by omega) rfl) ?_
    refine ph_y (y_neq rfl rfl) ?_
    refine gk_nil (gk_sub (T':=[(2,_),(3,_),(4,_),(5,_),(30,_)]) ⟨rfl,rfl,rfl,rfl,rfl,trivial⟩ ?_)
    refine gk_cond rfl (fun hc30=>?_) (fun hc30=>?_)
    ·exfalso; simp at hc30
    ·simp only [Bool.not_eq_false',decide_eq_true_eq] at hc30
     refine gk_skip ?_
     refine gk_region ?_
     refine gk_y rfl rfl (y_move rfl) ?_
     refine gk_y rfl rfl (y_addI rfl rfl (by omega) (by omega)) ?_
     refine gk_y rfl rfl (y_assign rfl) ?_
     refine gk_nil (gk_sub (T':=[(2,_),(3,_),(4,_),(5,_)]) ⟨rfl,rfl,rfl,rfl,trivial⟩ ?_)
     exact gk_next (i+1) ⟨rfl,rfl,rfl,rfl,trivial⟩ rfl ⟨by omega,by omega⟩ (by omega)
   ·
    refine gk_exit rfl ?_
    refine gk_seq ?_
    refine gk_seq ?_
    refine gk_any 68 (fun _=>mixed) (by kernel_rfl) ?_
    refine ph_y (y_fieldAddr fo41_0 rfl) ?_
    refine ph_y (y_loadB1 1 tf9 rfl rfl rfl) ?_
    refine ph_y (y_fieldAddr fo37_0 rfl) ?_
    refine ph_y (y_loadB1 0 tf9 rfl rfl rfl) ?_
    refine ph_y (y_strNe rfl rfl) ?_
    refine ph_y (y_move rfl) ?_
    refine ph_gF rfl rfl (fun hgd=>by(try rw [hgd]); exact(y_fieldAddr fo41_1 rfl)) ?_
    refine ph_gF rfl rfl (fun hgd=>by(try rw [hgd]); exact(y_loadB1 1 tf3 rfl rfl rfl)) ?_
    refine ph_gF rfl rfl (fun hgd=>by(try rw [hgd]); exact(y_fieldAddr fo37_1 rfl)) ?_
    refine ph_gF rfl rfl (fun hgd=>by(try rw [hgd]); exact(y_loadB1 0 tf3 rfl rfl rfl)) ?_
    refine ph_gF rfl rfl (fun hgd=>by(try rw [hgd]); exact(y_neq rfl rfl)) ?_
    refine ph_y (y_pickOr rfl rfl rfl) ?_
    refine ph_y (y_move rfl) ?_
    refine ph_gF rfl rfl (fun hgd=>by(try rw [hgd]); exact(y_fieldAddr fo41_2 rfl)) ?_
    refine ph_gF rfl rfl (fun hgd=>by(try rw [hgd]); exact(y_loadB1 1 tf3 rfl rfl rfl)) ?_
    refine ph_gF rfl rfl (fun hgd=>by(try rw [hgd]); exact(y_fieldAddr fo37_2 rfl)) ?_
    refine ph_gF rfl rfl (fun hgd=>by(try rw [hgd]); exact(y_loadB1 0 tf3 rfl rfl rfl)) ?_
    refine ph_gF rfl rfl (fun hgd=>by(try rw [hgd]); exact(y_neq rfl rfl)) ?_
    refine ph_y (y_pickOr rfl rfl rfl) ?_
    refine ph_y (y_move rfl) ?_
    refine ph_gF rfl rfl (fun hgd=>by(try rw [hgd]); exact(y_fieldAddr fo41_3 rfl)) ?_
    refine ph_gF rfl rfl (fun hgd=>by(try rw [hgd]); exact(y_loadB1 1 tf3 rfl rfl rfl)) ?_
    refine ph_gF rfl rfl (fun hgd=>by(try rw [hgd]); exact(y_fieldAddr fo37_3 rfl)) ?_
    refine ph_gF rfl rfl (fun hgd=>by(try rw [hgd]); exact(y_loadB1 0 tf3 rfl rfl rfl)) ?_
    refine ph_gF rfl rfl (fun hgd=>by(try rw [hgd]); exact(y_neq rfl rfl)) ?_
    refine ph_y (y_pickOr rfl rfl rfl) ?_
    refine ph_y (y_move rfl) ?_
    refine ph_gF rfl rfl (fun hgd=>by(try rw [hgd]); exact(y_fieldAddr fo41_4 rfl)) ?_
    refine ph_gF rfl rfl (fun hgd=>by(try rw [hgd]); exact(y_loadB1 1 tf3 rfl rfl rfl)) ?_
    refine ph_gF rfl rfl (fun hgd=>by(try rw [hgd]); exact(y_fieldAddr fo37_4 rfl)) ?_
    refine ph_gF rfl rfl (fun hgd=>by(try rw [hgd]); exact(y_loadB1 0 tf3 rfl rfl rfl)) ?_
    refine ph_gF rfl rfl (fun hgd=>by(try rw [hgd]); exact(y_neq rfl rfl)) ?_
    refine ph_y (y_pickOr rfl rfl rfl) ?_
    refine ph_y (y_move rfl) ?_
    refine ph_gF rfl rfl (fun hgd=>by(try rw [hgd]); exact(y_fieldAddr fo41_6 rfl)) ?_
    refine ph_gF rfl rfl (fun hgd=>by(try rw [hgd]); exact(y_loadB1 1 tf3 rfl rfl rfl)) ?_
    refine ph_gF rfl rfl (fun hgd=>by(try rw [hgd]); exact(y_fieldAddr fo37_6 rfl)) ?_
    refine ph_gF rfl rfl (fun hgd=>by(try rw [hgd]); exact(y_loadB1 0 tf3 rfl rfl rfl)) ?_
    refine ph_gF rfl rfl (fun hgd=>by(try rw [hgd]); exact(y_neq rfl rfl)) ?_
    refine ph_y (y_pickOr rfl rfl rfl) ?_
    refine ph_y (y_move rfl) ?_
    refine ph_gF rfl rfl (fun hgd=>by(try rw [hgd]); exact(y_fieldAddr fo41_7 rfl)) ?_
    refine ph_gF rfl rfl (fun hgd=>by(try rw [hgd]); exact(y_loadB1 1 tf3 rfl rfl rfl)) ?_
    refine ph_gF rfl rfl (fun hgd=>by(try rw [hgd]); exact(y_fieldAddr fo37_7 rfl)) ?_
    refine ph_gF rfl rfl (fun hgd=>by(try rw [hgd]); exact(y_loadB1 0 tf3 rfl rfl rfl)) ?_
    refine ph_gF rfl rfl (fun hgd=>by(try rw [hgd]); exact(y_neq rfl rfl)) ?_
    refine ph_y (y_pickOr rfl rfl rfl) ?_
    refine ph_y (y_move rfl) ?_
    refine ph_gF rfl rfl (fun hgd=>by(try rw [hgd]); exact(y_fieldAddr fo41_8 rfl)) ?_
    refine ph_gF rfl rfl (fun hgd=>by(try rw [hgd]); exact(y_loadB1 1 tf3 rfl rfl rfl)) ?_
    refine ph_gF rfl rfl (fun hgd=>by(try rw [hgd]); exact(y_fieldAddr fo37_8 rfl)) ?_
    refine ph_gF rfl rfl (fun hgd=>by(try rw [hgd]); exact(y_loadB1 0 tf3 rfl rfl rfl)) ?_
    refine ph_gF rfl rfl (fun hgd=>by(try rw [hgd]); exact(y_neq rfl rfl)) ?_
    refine ph_y (y_pickOr rfl rfl rfl) ?_
    refine ph_y (y_move rfl) ?_
    refine ph_gF rfl rfl (fun hgd=>by(try rw [hgd]); exact(y_fieldAddr fo41_9 rfl)) ?_
    refine ph_gF rfl rfl (fun hgd=>by(try rw [hgd]); exact(y_loadB1 1 tf3 rfl rfl rfl)) ?_
    refine ph_gF rfl rfl (fun hgd=>by(try rw [hgd]); exact(y_fieldAddr fo37_9 rfl)) ?_
    refine ph_gF rfl rfl (fun hgd=>by(try rw [hgd]); exact(y_loadB1 0 tf3 rfl rfl rfl)) ?_
    refine ph_gF rfl rfl (fun hgd=>by(try rw [hgd]); exact(y_neq rfl rfl)) ?_
    refine ph_y (y_pickOr rfl rfl rfl) ?_
    refine ph_y (y_move rfl) ?_
    refine ph_gF rfl rfl (fun hgd=>by(try rw [hgd]); exact(y_fieldAddr fo41_10 rfl)) ?_
    refine ph_gF rfl rfl (fun hgd=>by(try rw [hgd]); exact(y_loadB1 1 tf3 rfl rfl rfl)) ?_
    refine ph_gF rfl rfl (fun hgd=>by(try rw [hgd]); exact(y_fieldAddr fo37_10 rfl)) ?_
    refine ph_gF rfl rfl (fun hgd=>by(try rw [hgd]); exact(y_loadB1 0 tf3 rfl rfl rfl)) ?_
    refine ph_gF rfl rfl (fun hgd=>by(try rw [hgd]); exact(y_neq rfl rfl)) ?_
    refine ph_y (y_pickOr rfl rfl rfl) ?_
    refine gk_nil (gk_sub (T':=[(2,_),(3,_),(4,_),(98,_)]) ⟨rfl,rfl,rfl,rfl,trivial⟩ ?_)
    refine gk_cond rfl (fun hc98=>?_) (fun hc98=>?_)
    ·exfalso; simp at hc98
    ·simp only [Bool.or_eq_false_iff,Bool.not_eq_false',decide_eq_true_eq] at hc98
     refine gk_skip ?_
     refine gk_seq ?_
     refine gk_any 62 (fun _=>mixed) (by kernel_rfl) ?_
     refine ph_y (y_fieldAddr fo41_11 rfl) ?_
     refine ph_y (y_loadB1 1 tf3 rfl rfl rfl) ?_
     refine ph_y (y_fieldAddr fo37_11 rfl) ?_
     refine ph_y (y_loadB1 0 tf3 rfl rfl rfl) ?_
     refine ph_y (y_eql rfl rfl) ?_
     refine ph_y (y_move rfl) ?_
     refine ph_gT rfl rfl (fun hgd=>by(try rw [hgd]); exact(y_fieldAddr fo41_12 rfl)) ?_
     refine ph_gT rfl rfl (fun hgd=>by(try rw [hgd]); exact(y_loadB1 1 tf3 rfl rfl rfl)) ?_
     refine ph_gT rfl rfl (fun hgd=>by(try rw [hgd]); exact(y_fieldAddr fo37_12 rfl)) ?_
     refine ph_gT rfl rfl (fun hgd=>by(try rw [hgd]); exact(y_loadB1 0 tf3 rfl rfl rfl)) ?_
     refine ph_gT rfl rfl (fun hgd=>by(try rw [hgd]); exact(y_eql rfl rfl)) ?_
     refine ph_y (y_pickAnd rfl rfl rfl) ?_
     refine ph_y (y_move rfl) ?_
     refine ph_gT rfl rfl (fun hgd=>by(try rw [hgd]); exact(y_fieldAddr fo41_13 rfl)) ?_
     refine ph_gT rfl rfl (fun hgd=>by(try rw [hgd]); exact(y_loadB1 1 tf5 rfl rfl rfl)) ?_
     refine ph_gT rfl rfl (fun hgd=>by(try rw [hgd]); exact(y_fieldAddr fo37_13 rfl)) ?_
     refine ph_gT rfl rfl (fun hgd=>by(try rw [hgd]); exact(y_loadB1 0 tf5 rfl rfl rfl)) ?_
     refine ph_gT rfl rfl (fun hgd=>by(try rw [hgd]); exact(y_eql rfl rfl)) ?_
     refine ph_y (y_pickAnd rfl rfl rfl) ?_
     refine ph_y (y_move rfl) ?_
     refine ph_gT rfl rfl (fun hgd=>by(try rw [hgd]); exact(y_fieldAddr fo41_14 rfl)) ?_
     refine ph_gT rfl rfl (fun hgd=>by(try rw [hgd]); exact(y_loadB1 1 tf3 rfl rfl rfl)) ?_
     refine ph_gT rfl rfl (fun hgd=>by(try rw [hgd]); exact(y_fieldAddr fo37_14 rfl)) ?_
     refine ph_gT rfl rfl (fun hgd=>by(try rw [hgd]); exact(y_loadB1 0 tf3 rfl rfl rfl)) ?_
     refine ph_gT rfl rfl (fun hgd=>by(try rw [hgd]); exact(y_eql rfl rfl)) ?_
     refine ph_y (y_pickAnd rfl rfl rfl) ?_
     refine ph_y (y_move rfl) ?_
     refine ph_gT rfl rfl (fun hgd=>by(try rw [hgd]); exact(y_fieldAddr fo41_15 rfl)) ?_
     refine ph_gT rfl rfl (fun hgd=>by(try rw [hgd]); exact(y_loadB1 1 tf3 rfl rfl rfl)) ?_
     refine ph_gT rfl rfl (fun hgd=>by(try rw [hgd]); exact(y_fieldAddr fo37_15 rfl)) ?_
     refine ph_gT rfl rfl (fun hgd=>by(try rw [hgd]); exact(y_loadB1 0 tf3 rfl rfl rfl)) ?_
     refine ph_gT rfl rfl (fun hgd=>by(try rw [hgd]); exact(y_eql rfl rfl)) ?_
     refine ph_y (y_pickAnd rfl rfl rfl) ?_
     refine ph_y (y_move rfl) ?_
     refine ph_gT rfl rfl (fun hgd=>by(try rw [hgd]); exact(y_fieldAddr fo41_16 rfl)) ?_
     refine ph_gT rfl rfl (fun hgd=>by(try rw [hgd]); exact(y_loadB1 1 tf3 rfl rfl rfl)) ?_
     refine ph_gT rfl rfl (fun hgd=>by(try rw [hgd]); exact(y_fieldAddr fo37_16 rfl)) ?_
     refine ph_gT rfl rfl (fun hgd=>by(try rw [hgd]); exact(y_loadB1 0 tf3 rfl rfl rfl)) ?_
     refine ph_gT rfl rfl (fun hgd=>by(try rw [hgd]); exact(y_eql rfl rfl)) ?_
     refine ph_y (y_pickAnd rfl rfl rfl) ?_
     refine ph_y (y_move rfl) ?_
     refine ph_gT rfl rfl (fun hgd=>by(try rw [hgd]); exact(y_fieldAddr fo41_17 rfl)) ?_
     refine ph_gT rfl rfl (fun hgd=>by(try rw [hgd]); exact(y_loadB1 1 tf3 rfl rfl rfl)) ?_
     refine ph_gT rfl rfl (fun hgd=>by(try rw [hgd]); exact(y_fieldAddr fo37_17 rfl)) ?_
     refine ph_gT rfl rfl (fun hgd=>by(try rw [hgd]); exact(y_loadB1 0 tf3 rfl rfl rfl)) ?_
     refine ph_gT rfl rfl (fun hgd=>by(try rw [hgd]); exact(y_eql rfl rfl)) ?_
     refine ph_y (y_pickAnd rfl rfl rfl) ?_
     refine ph_y (y_move rfl) ?_
     refine ph_gT rfl rfl (fun hgd=>by(try rw [hgd]); exact(y_fieldAddr fo41_18 rfl)) ?_
     refine ph_gT rfl rfl (fun hgd=>by(try rw [hgd]); exact(y_loadB1 1 tf3 rfl rfl rfl)) ?_
     refine ph_gT rfl rfl (fun hgd=>by(try rw [hgd]); exact(y_fieldAddr fo37_18 rfl)) ?_
     refine ph_gT rfl rfl (fun hgd=>by(try rw [hgd]); exact(y_loadB1 0 tf3 rfl rfl rfl)) ?_
     refine ph_gT rfl rfl (fun hgd=>by(try rw [hgd]); exact(y_eql rfl rfl)) ?_
     refine ph_y (y_pickAnd rfl rfl rfl) ?_
     refine ph_y (y_move rfl) ?_
     refine ph_gT rfl rfl (fun hgd=>by(try rw [hgd]); exact(y_fieldAddr fo41_19 rfl)) ?_
     refine ph_gT rfl rfl (fun hgd=>by(try rw [hgd]); exact(y_loadB1 1 tf3 rfl rfl rfl)) ?_
     refine ph_gT rfl rfl (fun hgd=>by(try rw [hgd]); exact(y_fieldAddr fo37_19 rfl)) ?_
     refine ph_gT rfl rfl (fun hgd=>by(try rw [hgd]); exact(y_loadB1 0 tf3 rfl rfl rfl)) ?_
     refine ph_gT rfl rfl (fun hgd=>by(try rw [hgd]); exact(y_eql rfl rfl)) ?_
     refine ph_y (y_pickAnd rfl rfl rfl) ?_
     refine ph_y (y_assign rfl) ?_
     refine gk_nil (gk_sub (T':=[(4,_)]) ⟨rfl,trivial⟩ ?_)
     refine gk_ret ?_
     refine gk_pure (rv_one rfl (r1_tmp rfl)) ?_
     simp
set_option maxRecDepth 100000 in
set_option maxHeartbeats 8000000 in
theorem samewall_c (v:Wll) (a:Option Addr) (cap:Nat) (b:Option Addr) (bcap:Nat) (w:World) (hl:Has w (Elems a 5 encOpn v.opens)) (hl2:Has w (Elems b 5 encOpn v.opens)) (hs:Small v.opens.length) :
  Calls Tryz.prog 38 #[.agg #[.string v.name,.string v.sheet,.int .i64 v.length,.slice a v.opens.length cap],.agg #[.string v.name,.string v.sheet,.int .i64 v.length,.slice b v.opens.length bcap]] w (Pure (.bool true) w):=by
 refine calls_of_gk (vs:=[_,_]) Tryz.func38 rfl rfl (Nat.le_of_ble_eq_true rfl) ?_
 refine gk_seq ?_
 refine gk_region ?_
 refine gk_yx rfl rfl (yx_box (vs:=[_,_,_,_]) rfl rfl) fun b2=>?_
 refine gk_yx rfl rfl (yx_box (vs:=[_,_,_,_]) rfl rfl) fun b3=>?_
 refine gk_y rfl rfl (y_assign rfl) ?_
 refine gk_nil (gk_sub (T':=[(2,_),(3,_),(4,_)]) ⟨rfl,rfl,rfl,trivial⟩ ?_)
 refine gk_seq ?_
 refine gk_seq ?_
 refine gk_any 28 (fun _=>mixed) (by kernel_rfl) ?_
 refine ph_y (y_fieldAddr fo94_0 rfl) ?_
 refine ph_y (y_loadB1 1 tf9 rfl rfl rfl) ?_
 refine ph_y (y_fieldAddr fo65_0 rfl) ?_
 refine ph_y (y_loadB1 0 tf9 rfl rfl rfl) ?_
 refine ph_y (y_strNe rfl rfl) ?_
 refine ph_y (y_move rfl) ?_
 refine ph_gF rfl rfl (fun hgd=>by(try rw [hgd]); exact(y_fieldAddr fo94_1 rfl)) ?_
 refine ph_gF rfl rfl (fun hgd=>by(try rw [hgd]); exact(y_loadB1 1 tf9 rfl rfl rfl)) ?_
 refine ph_gF rfl rfl (fun hgd=>by(try rw [hgd]); exact(y_fieldAddr fo65_1 rfl)) ?_
 refine ph_gF rfl rfl (fun hgd=>by(try rw [hgd]); exact(y_loadB1 0 tf9 rfl rfl rfl)) ?_
 refine ph_gF rfl rfl (fun hgd=>by(try rw [hgd]); exact(y_strNe rfl rfl)) ?_
 refine ph_y (y_pickOr rfl rfl rfl) ?_
 refine ph_y (y_move rfl) ?_
 refine ph_gF rfl rfl (fun hgd=>by(try rw [hgd]); exact(y_fieldAddr fo94_2 rfl)) ?_
 refine ph_gF rfl rfl (fun hgd=>by(try rw [hgd]); exact(y_loadB1 1 tf3 rfl rfl rfl)) ?_
 refine ph_gF rfl rfl (fun hgd=>by(try rw [hgd]); exact(y_fieldAddr fo65_2 rfl)) ?_
 refine ph_gF rfl rfl (fun hgd=>by(try rw [hgd]); exact(y_loadB1 0 tf3 rfl rfl rfl)) ?_
 refine ph_gF rfl rfl (fun hgd=>by(try rw [hgd]); exact(y_neq rfl rfl)) ?_
 refine ph_y (y_pickOr rfl rfl rfl) ?_
 refine ph_y (y_move rfl) ?_
 refine ph_gF rfl rfl (fun hgd=>by(try rw [hgd]); exact(y_fieldAddr fo94_3 rfl)) ?_
 refine ph_gF rfl rfl (fun hgd=>by(try rw [hgd]); exact(y_loadB1 1 tf92 rfl rfl rfl)) ?_
 refine ph_gF rfl rfl (fun hgd=>by(try rw [hgd]); exact(y_lenS (Tryz.underlying92) rfl)) ?_
 refine ph_gF rfl rfl (fun hgd=>by(try rw [hgd]); exact(y_fieldAddr fo65_3 rfl)) ?_
 refine ph_gF rfl rfl (fun hgd=>by(try rw [hgd]); exact(y_loadB1 0 tf63 rfl rfl rfl)) ?_
 refine ph_gF rfl rfl (fun hgd=>by(try rw [hgd]); exact(y_lenS (Tryz.underlying63) rfl)) ?_
 refine ph_gF rfl rfl (fun hgd=>by(try rw [hgd]); exact(y_neq rfl rfl)) ?_
 refine ph_y (y_pickOr rfl rfl rfl) ?_
 refine gk_nil (gk_sub (T':=[(2,_),(3,_),(4,_),(35,_)]) ⟨rfl,rfl,rfl,rfl,trivial⟩ ?_)
 refine gk_cond rfl (fun hc35=>?_) (fun hc35=>?_)
 ·exfalso; simp at hc35
 ·simp only [Bool.or_eq_false_iff,Bool.not_eq_false',decide_eq_true_eq] at hc35
  refine gk_skip ?_
  refine gk_seq ?_
  refine gk_seq ?_
  refine gk_region ?_
  refine gk_y rfl rfl (y_assign rfl) ?_
  refine gk_nil (gk_sub (T':=[(2,_),(3,_),(4,_),(5,_)]) ⟨rfl,rfl,rfl,rfl,trivial⟩ ?_)
  refine gk_block ?_
  refine gk_loop (X:=Int) (fun(i:Int)=>[(2,.pointer (some ⟨b2,0,none⟩)),(3,.pointer (some ⟨b3,0,none⟩)),(4,.bool false),(5,.int .i64 i)]) (fun(i:Int)=>[Box b3 [.string v.name,.string v.sheet,.int .i64 v.length,.slice b v.opens.length bcap] 65,Box b2 [.string v.name,.string v.sheet,.int .i64 v.length,.slice a v.opens.length cap] 94]) (fun(i:Int)=>(0≤i∧i≤v.opens.length)) (fun(i:Int)=>(v.opens.length - i).toNat) 0 ⟨rfl,rfl,rfl,rfl,trivial⟩ rfl ?_ ?_
  ·exact⟨by omega,by omega⟩
  ·rintro i hI
   obtain⟨g0,g1⟩:=hI
   refine gk_seq ?_
   refine gk_seq ?_
   refine gk_region ?_
   refine gk_y rfl rfl (y_move rfl) ?_
   refine gk_y rfl rfl (y_fieldAddr fo94_3 rfl) ?_
   refine gk_y rfl rfl (y_loadB1 1 tf92 rfl rfl rfl) ?_
   refine gk_y rfl rfl (y_lenS (Tryz.underlying92) rfl) ?_
   refine gk_y rfl rfl (y_lss rfl rfl) ?_
   refine gk_nil (gk_sub (T':=[(2,_),(3,_),(4,_),(5,_),(40,_)]) ⟨rfl,rfl,rfl,rfl,rfl,trivial⟩ ?_)
   refine gk_cond rfl (fun hc40=>?_) (fun hc40=>?_)
   ·have hc40:=of_decide_eq_true hc40
    refine gk_skip ?_
    refine gk_seq ?_
    refine gk_block ?_
    refine gk_seq ?_
    refine gk_any3 (ch [(10,Nat),(11,Nat)]) 14 [0,1,0,7,15,0,32,0,224,480,0,0,3103,8191] (fun _=>mixed) (by kernel_rfl) (ch_ne _ ⟨inferInstance,inferInstance,trivial⟩) ?_
    refine ph3_y (fun ρ=>y_fieldAddr fo94_3 rfl) (fun ρ ρ' h=>by rfl) ?_
    refine ph3_y (fun ρ=>y_loadB1 1 tf92 rfl rfl rfl) (fun ρ ρ' h=>by rfl) ?_
    refine ph3_y (fun ρ=>y_move rfl) (fun ρ ρ' h=>by rfl) ?_
    refine ph3_y (fun ρ=>y_indexE se92 rfl rfl (fun _ hw=>(Rd.has (Has.rd hl) hw)) (by omega) (by omega)) (fun ρ ρ' h=>by rfl) ?_
    refine ph3_y (fun ρ=>y_loadE (vs:=[_,_,_,_,_]) tf98 rfl (fun _ hw=>(Rd.has (Has.rd hl) hw)) (by omega) (by omega) rfl) (fun ρ ρ' h=>by rfl) ?_
    refine ph3_y (fun ρ=>y_fieldAddr fo65_3 rfl) (fun ρ ρ' h=>by rfl) ?_
    refine ph3_y (fun ρ=>y_loadB1 0 tf63 rfl rfl rfl) (fun ρ ρ' h=>by rfl) ?_
    refine ph3_y (fun ρ=>y_move rfl) (fun ρ ρ' h=>by rfl) ?_
    refine ph3_y (fun ρ=>y_indexE se63 rfl rfl (fun _ hw=>(Rd.has (Has.rd hl2) hw)) (by omega) (by omega)) (fun ρ ρ' h=>by rfl) ?_
    refine ph3_y (fun ρ=>y_loadE (vs:=[_,_,_,_,_]) tf139 rfl (fun _ hw=>(Rd.has (Has.rd hl2) hw)) (by omega) (by omega) rfl) (fun ρ ρ' h=>by rfl) ?_
    refine ph3_yx (fun ρ=>yx_alloc tf98 (zs:=[_,_,_,_,_]) rfl) (fun ρ ρ' h=>⟨by rfl,by rfl⟩) ?_
    refine ph3_yx (fun ρ=>yx_alloc tf139 (zs:=[_,_,_,_,_]) rfl) (fun ρ ρ' h=>⟨by rfl,by rfl⟩) ?_
    refine ph3_st (R:=fun ρ=>Box (ρ 10) [.int .u8 0,.int .i64 0,.int .i64 0,.int .i64 0,.int .i64 0] 98) (A:=fun ρ=>Box (ρ 10) [.int .u8 (v.opens.getD (i).toNat default).kind,.int .i64 (v.opens.getD (i).toNat default).at_,.int .i64 (v.opens.getD (i).toNat default).width,.int .i64 (v.opens.getD (i).toNat default).frm,.int .i64 (v.opens.getD (i).toNat default).high] 98) 10 rfl rfl (fun _=>rfl) (fun ρ=>so_box tf98 rfl rfl (vs:=[_,_,_,_,_]) rfl rfl rfl rfl rfl) (fun ρ ρ' h=>by(first | rfl | simp only [h 10 rfl])) ?_
    refine ph3_st (R:=fun ρ=>Box (ρ 11) [.int .u8 0,.int .i64 0,.int .i64 0,.int .i64 0,.int .i64 0] 139) (A:=fun ρ=>Box (ρ 11) [.int .u8 (v.opens.getD (i).toNat default).kind,.int .i64 (v.opens.getD (i).toNat default).at_,.int .i64 (v.opens.getD (i).toNat default).width,.int .i64 (v.opens.getD (i).toNat default).frm,.int .i64 (v.opens.getD (i).toNat default).high] 139) 11 rfl rfl (fun _=>rfl) (fun ρ=>so_box tf139 rfl rfl (vs:=[_,_,_,_,_]) rfl rfl rfl rfl rfl) (fun ρ ρ' h=>by(first | rfl | simp only [h 11 rfl])) ?_
    refine fun ρ=>gk_nil (gk_name (X:=Nat×Nat) (ρ 10,ρ 11) (fun⟨b6,b7⟩=>[(2,.pointer (some ⟨b2,0,none⟩)),(3,.pointer (some ⟨b3,0,none⟩)),(4,.bool false),(5,.int .i64 i),(6,.pointer (some ⟨b6,0,none⟩)),(7,.pointer (some ⟨b7,0,none⟩))]) (fun⟨b6,b7⟩=>[Box b7 [.int .u8 (v.opens.getD (i).toNat default).kind,.int .i64 (v.opens.getD (i).toNat default).at_,.int .i64 (v.opens.getD (i).toNat default).width,.int .i64 (v.opens.getD (i).toNat default).frm,.int .i64 (v.opens.getD (i).toNat default).high] 139,Box b6 [.int .u8 (v.opens.getD (i).toNat default).kind,.int .i64 (v.opens.getD (i).toNat default).at_,.int .i64 (v.opens.getD (i).toNat default).width,.int .i64 (v.opens.getD (i).toNat default).frm,.int .i64 (v.opens.getD (i).toNat default).high] 98,Box b3 [.string v.name,.string v.sheet,.int .i64 v.length,.slice b v.opens.length bcap] 65,Box b2 [.string v.name,.string v.sheet,.int .i64 v.length,.slice a v.opens.length cap] 94]) ⟨rfl,rfl,rfl,rfl,rfl,rfl,trivial⟩ rfl ?_)
    rintro ⟨b6,b7⟩
    refine gk_seq ?_
    refine gk_any 33 (fun _=>mixed) (by kernel_rfl) ?_
    refine ph_y (y_fieldAddr fo98_0 rfl) ?_
    refine ph_y (y_loadB1 1 tf5 rfl rfl rfl) ?_
    refine ph_y (y_fieldAddr fo139_0 rfl) ?_
    refine ph_y (y_loadB1 0 tf5 rfl rfl rfl) ?_
    refine ph_y (y_neq rfl rfl) ?_
    refine ph_y (y_move rfl) ?_
    refine ph_gF rfl rfl (fun hgd=>by(try rw [hgd]); exact(y_fieldAddr fo98_1 rfl)) ?_
    refine ph_gF rfl rfl (fun hgd=>by(try rw [hgd]); exact(y_loadB1 1 tf3 rfl rfl rfl)) ?_
    refine ph_gF rfl rfl (fun hgd=>by(try rw [hgd]); exact(y_fieldAddr fo139_1 rfl)) ?_
    refine ph_gF rfl rfl (fun hgd=>by(try rw [hgd]); exact(y_loadB1 0 tf3 rfl rfl rfl)) ?_
    refine ph_gF rfl rfl (fun hgd=>by(try rw [hgd]); exact(y_neq rfl rfl)) ?_
    refine ph_y (y_pickOr rfl rfl rfl) ?_
    refine ph_y (y_move rfl) ?_
    refine ph_gF rfl rfl (fun hgd=>by(try rw [hgd]); exact(y_fieldAddr fo98_2 rfl)) ?_
    refine ph_gF rfl rfl (fun hgd=>by(try rw [hgd]); exact(y_loadB1 1 tf3 rfl rfl rfl)) ?_
    refine ph_gF rfl rfl (fun hgd=>by(try rw [hgd]); exact(y_fieldAddr fo139_2 rfl)) ?_
    refine ph_gF rfl rfl (fun hgd=>by(try rw [hgd]); exact(y_loadB1 0 tf3 rfl rfl rfl)) ?_
    refine ph_gF rfl rfl (fun hgd=>by(try rw [hgd]); exact(y_neq rfl rfl)) ?_
    refine ph_y (y_pickOr rfl rfl rfl) ?_
    refine ph_y (y_move rfl) ?_
    refine ph_gF rfl rfl (fun hgd=>by(try rw [hgd]); exact(y_fieldAddr fo98_3 rfl)) ?_
    refine ph_gF rfl rfl (fun hgd=>by(try rw [hgd]); exact(y_loadB1 1 tf3 rfl rfl rfl)) ?_
    refine ph_gF rfl rfl (fun hgd=>by(try rw [hgd]); exact(y_fieldAddr fo139_3 rfl)) ?_
    refine ph_gF rfl rfl (fun hgd=>by(try rw [hgd]); exact(y_loadB1 0 tf3 rfl rfl rfl)) ?_
    refine ph_gF rfl rfl (fun hgd=>by(try rw [hgd]); exact(y_neq rfl rfl)) ?_
    refine ph_y (y_pickOr rfl rfl rfl) ?_
    refine ph_y (y_move rfl) ?_
    refine ph_gF rfl rfl (fun hgd=>by(try rw [hgd]); exact(y_fieldAddr fo98_4 rfl)) ?_
    refine ph_gF rfl rfl (fun hgd=>by(try rw [hgd]); exact(y_loadB1 1 tf3 rfl rfl rfl)) ?_
    refine ph_gF rfl rfl (fun hgd=>by(try rw [hgd]); exact(y_fieldAddr fo139_4 rfl)) ?_
    refine ph_gF rfl rfl (fun hgd=>by(try rw [hgd]); exact(y_loadB1 0 tf3 rfl rfl rfl)) ?_
    refine ph_gF rfl rfl (fun hgd=>by(try rw [hgd]); exact(y_neq rfl rfl)) ?_
    refine ph_y (y_pickOr rfl rfl rfl) ?_
    refine gk_nil (gk_sub (T':=[(2,_),(3,_),(4,_),(5,_),(85,_)]) ⟨rfl,rfl,rfl,rfl,rfl,trivial⟩ ?_)
    refine gk_cond rfl (fun hc85=>?_) (fun hc85=>?_)
    ·exfalso; simp at hc85
    ·simp only [Bool.or_eq_false_iff,Bool.not_eq_false',decide_eq_true_eq] at hc85
     refine gk_skip ?_
     refine gk_region ?_
     refine gk_y rfl rfl (y_move rfl) ?_
     refine gk_y rfl rfl (y_addI rfl rfl (by omega) (by omega)) ?_
     refine gk_y rfl rfl (y_assign rfl) ?_
     refine gk_nil (gk_sub (T':=[(2,_),(3,_),(4,_),(5,_)]) ⟨rfl,rfl,rfl,rfl,trivial⟩ ?_)
     refine gk_dropAt 0 rfl ?_
     refine gk_dropAt 0 rfl ?_
     exact gk_next (i+1) ⟨rfl,rfl,rfl,rfl,trivial⟩ rfl ⟨by omega,by omega⟩ (by omega)
   ·
    refine gk_exit rfl ?_
    refine gk_seq ?_
    refine gk_region ?_
    refine gk_y rfl rfl (y_assign rfl) ?_
    refine gk_nil (gk_sub (T':=[(4,_)]) ⟨rfl,trivial⟩ ?_)
    refine gk_ret ?_
    refine gk_pure (rv_one rfl (r1_tmp rfl)) ?_
    rfl
end Go.Proofs.YtdcfcfhmkfkgmaaGreatDoor
namespace Go.Proofs.YtdcfcfhmkfkgmaaGreatDoor
open Go.K Go.Stn Go.Pln Go.RowKit
theorem en38:En Tryz.prog 38:=en_of Tryz.func38 (by kernel_rfl) (by kernel_rfl)
theorem en39:En Tryz.prog 39:=en_of Tryz.func39 (by kernel_rfl) (by kernel_rfl)
theorem samesheet2_c (s t:Sht) (a:Option Addr) (cap:Nat) (b:Option Addr) (bcap:Nat) (w:World) (h:t=s) (hl:Has w (Ints a s.heights)) (hl2:Has w (Ints b t.heights)) (hs:Small s.heights.length) :
  Calls Tryz.prog 39 #[.agg #[.string s.name,.int .i64 s.base,.int .i64 s.batter,.int .i64 s.height,.int .i64 s.skin,.slice a s.heights.length cap,.int .i64 s.least,.int .i64 s.lap,.int .i64 s.run,.int .i64 s.every,.int .i64 s.at_,.int .i64 s.footing,.int .i64 s.spread,.int .u8 s.cope,.int .i64 s.tall,.int .i64 s.short,.int .i64 s.thick,.int .i64 s.low,.int .i64 s.high,.int .i64 s.rood],.agg #[.string t.name,.int .i64 t.base,.int .i64 t.batter,.int .i64 t.height,.int .i64 t.skin,.slice b t.heights.length bcap,.int .i64 t.least,.int .i64 t.lap,.int .i64 t.run,.int .i64 t.every,.int .i64 t.at_,.int .i64 t.footing,.int .i64 t.spread,.int .u8 t.cope,.int .i64 t.tall,.int .i64 t.short,.int .i64 t.thick,.int .i64 t.low,.int .i64 t.high,.int .i64 t.rood]] w (Pure (.bool true) w):=by
 subst h; exact samesheet_c _ _ _ _ _ w hl hl2 hs
theorem samewall2_c (v u:Wll) (a:Option Addr) (cap:Nat) (b:Option Addr) (bcap:Nat) (w:World) (h:u=v) (hl:Has w (Elems a 5 encOpn v.opens)) (hl2:Has w (Elems b 5 encOpn u.opens)) (hs:Small v.opens.length) :
  Calls Tryz.prog 38 #[.agg #[.string v.name,.string v.sheet,.int .i64 v.length,.slice a v.opens.length cap],.agg #[.string u.name,.string u.sheet,.int .i64 u.length,.slice b u.opens.length bcap]] w (Pure (.bool true) w):=by
 subst h; exact samewall_c _ _ _ _ _ w hl hl2 hs
theorem same_sh {S S2:List ShC} (h:S.map (·.s)=S2.map (·.s)) (i:Nat):(S2.getD i default).s=(S.getD i default).s:=by
 rw [←getD_map' (fun z:ShC=>z.s) rfl,←getD_map' (fun z:ShC=>z.s) rfl,h]
theorem same_wl {S S2:List WlC} (h:S.map (·.s)=S2.map (·.s)) (i:Nat):(S2.getD i default).s=(S.getD i default).s:=by
 rw [←getD_map' (fun z:WlC=>z.s) rfl,←getD_map' (fun z:WlC=>z.s) rfl,h]
set_option maxRecDepth 100000 in
set_option maxHeartbeats 8000000 in
theorem same_c (a:Option Addr) (cap:Nat) (S:List ShC) (b:Option Addr) (bcap:Nat) (V:List WlC) (e:Option Addr) (ecap:Nat) (S2:List ShC) (f:Option Addr) (fcap:Nat) (V2:List WlC) (w:World) (hl:Has w (Elems a 20 encSht S)) (hs:Small S.length) (hlw:Has w (Elems b 4 encWll V)) (hsw:Small V.length) (hsh:∀ z∈S,Has w (Ints z.a z.s.heights)) (hss:∀ z∈S,Small z.s.heights.length) (hwo:∀ z∈V,Has w (Elems z.a 5 encOpn z.s.opens)) (hsv:∀ z∈V,Small z.s.opens.length) (hlb:Has w (Elems e 20 encSht S2)) (hlwb:Has w (Elems f 4 encWll V2)) (hsh2:∀ z∈S2,Has w (Ints z.a z.s.heights)) (hwo2:∀ z∈V2,Has w (Elems z.a 5 encOpn z.s.opens)) (hS:S.map (·.s)=S2.map (·.s)) (hV:V.map (·.s)=V2.map (·.s)) :
  Calls Tryz.prog 23 #[.agg #[.slice a S.length cap,.slice b V.length bcap],.agg #[.slice e S2.length ecap,.slice f V2.length fcap]] w (Pure (.bool true) w):=by
 have hlS:S2.length=S.length:=by have:=congrArg List.length hS; rw [List.length_map,List.length_map] at this; exact this.symm
 have hlV:V2.length=V.length:=by have:=congrArg List.length hV; rw [List.length_map,List.length_map] at this; exact this.symm
 refine calls_of_gk (vs:=[_,_]) Tryz.func23 rfl rfl (Nat.le_of_ble_eq_true rfl) ?_
 refine gk_seq ?_
 refine gk_region ?_
 refine gk_yx rfl rfl (yx_box (vs:=[_,_]) rfl rfl) fun b2=>?_
 refine gk_yx rfl rfl (yx_box (vs:=[_,_]) rfl rfl) fun b3=>?_
 refine gk_y rfl rfl (y_assign rfl) ?_
 refine gk_nil (gk_sub (T':=[(2,_),(3,_),(4,_)]) ⟨rfl,rfl,rfl,trivial⟩ ?_)
 refine gk_seq ?_
 refine gk_seq ?_
 refine gk_any 16 (fun _=>mixed) (by kernel_rfl) ?_
 refine ph_y (y_fieldAddr fo31_0 rfl) ?_
 refine ph_y (y_loadB1 1 tf28 rfl rfl rfl) ?_
 refine ph_y (y_lenS (Tryz.underlying28) rfl) ?_
 refine ph_y (y_fieldAddr fo25_0 rfl) ?_
 refine ph_y (y_loadB1 0 tf22 rfl rfl rfl) ?_
 refine ph_y (y_lenS (Tryz.underlying22) rfl) ?_
 refine ph_y (y_neq rfl rfl) ?_
 refine ph_y (y_move rfl) ?_
 refine ph_gF rfl rfl (fun hgd=>by(try rw [hgd]); exact(y_fieldAddr fo31_1 rfl)) ?_
 refine ph_gF rfl rfl (fun hgd=>by(try rw [hgd]); exact(y_loadB1 1 tf29 rfl rfl rfl)) ?_
 refine ph_gF rfl rfl (fun hgd=>by(try rw [hgd]); exact(y_lenS (Tryz.underlying29) rfl)) ?_
 refine ph_gF rfl rfl (fun hgd=>by(try rw [hgd]); exact(y_fieldAddr fo25_1 rfl)) ?_
 refine ph_gF rfl rfl (fun hgd=>by(try rw [hgd]); exact(y_loadB1 0 tf23 rfl rfl rfl)) ?_
 refine ph_gF rfl rfl (fun hgd=>by(try rw [hgd]); exact(y_lenS (Tryz.underlying23) rfl)) ?_
 refine ph_gF rfl rfl (fun hgd=>by(try rw [hgd]); exact(y_neq rfl rfl)) ?_
 refine ph_y (y_pickOr rfl rfl rfl) ?_
 refine gk_nil (gk_sub (T':=[(2,_),(3,_),(4,_),(22,_)]) ⟨rfl,rfl,rfl,rfl,trivial⟩ ?_)
 refine gk_cond rfl (fun hc22=>?_) (fun hc22=>?_)
 ·exfalso; rw [hlS,hlV] at hc22; simp at hc22
 ·simp only [Bool.or_eq_false_iff,Bool.not_eq_false',decide_eq_true_eq] at hc22
  refine gk_skip ?_
  refine gk_seq ?_
  refine gk_seq ?_
  refine gk_region ?_
  refine gk_y rfl rfl (y_assign rfl) ?_
  refine gk_nil (gk_sub (T':=[(2,_),(3,_),(4,_),(5,_)]) ⟨rfl,rfl,rfl,rfl,trivial⟩ ?_)
  refine gk_block ?_
  refine gk_loop (X:=Int) (fun(i:Int)=>[(2,.pointer (some ⟨b2,0,none⟩)),(3,.pointer (some ⟨b3,0,none⟩)),(4,.bool false),(5,.int .i64 i)]) (fun(i:Int)=>[Box b3 [.slice e S2.length ecap,.slice f V2.length fcap] 25,Box b2 [.slice a S.length cap,.slice b V.length bcap] 31]) (fun(i:Int)=>(0≤i∧i≤S.length)) (fun(i:Int)=>(S.length - i).toNat) 0 ⟨rfl,rfl,rfl,rfl,trivial⟩ rfl ?_ ?_
  ·exact⟨by omega,by omega⟩
  ·rintro i hI
   obtain⟨g0,g1⟩:=hI
   refine gk_seq ?_
   refine gk_seq ?_
   refine gk_region ?_
   refine gk_y rfl rfl (y_move rfl) ?_
   refine gk_y rfl rfl (y_fieldAddr fo31_0 rfl) ?_
   refine gk_y rfl rfl (y_loadB1 1 tf28 rfl rfl rfl) ?_
   refine gk_y rfl rfl (y_lenS (Tryz.underlying28) rfl) ?_
   refine gk_y rfl rfl (y_lss rfl rfl) ?_
   refine gk_nil (gk_sub (T':=[(2,_),(3,_),(4,_),(5,_),(27,_)]) ⟨rfl,rfl,rfl,rfl,rfl,trivial⟩ ?_)
   refine gk_cond rfl (fun hc27=>?_) (fun hc27=>?_)
   ·have hc27:=of_decide_eq_true hc27
    refine gk_skip ?_
    refine gk_seq ?_
    refine gk_block ?_
    refine gk_seq ?_
    refine gk_any 12 (fun _=>mixed) (by kernel_rfl) ?_
    refine ph_y (y_fieldAddr fo31_0 rfl) ?_
    refine ph_y (y_loadB1 1 tf28 rfl rfl rfl) ?_
    refine ph_y (y_move rfl) ?_
    refine ph_y (y_indexE se28 rfl rfl (fun _ hw=>(Rd.has (Has.rd hl) hw)) (by omega) (by omega)) ?_
    refine ph_y (y_loadE (vs:=[_,_,_,_,_,_,_,_,_,_,_,_,_,_,_,_,_,_,_,_]) tf41 rfl (fun _ hw=>(Rd.has (Has.rd hl) hw)) (by omega) (by omega) rfl) ?_
    refine ph_y (y_fieldAddr fo25_0 rfl) ?_
    refine ph_y (y_loadB1 0 tf22 rfl rfl rfl) ?_
    refine ph_y (y_move rfl) ?_
    refine ph_y (y_indexE se22 rfl rfl (fun _ hw=>(Rd.has (Has.rd hlb) hw)) (by omega) (by omega)) ?_
    refine ph_y (y_loadE (vs:=[_,_,_,_,_,_,_,_,_,_,_,_,_,_,_,_,_,_,_,_]) tf37 rfl (fun _ hw=>(Rd.has (Has.rd hlb) hw)) (by omega) (by omega) rfl) ?_
    refine ph_y (y_call en39 rfl (fun w hw=>samesheet2_c (S.getD i.toNat default).s (S2.getD i.toNat default).s _ _ _ _ w (same_sh hS _) (Rd.has (Has.rd (hsh _ (getD_memS (by omega)))) hw) (Rd.has (Has.rd (hsh2 _ (getD_memS (by omega)))) hw) (hss _ (getD_memS (by omega))))) ?_
    refine ph_y (y_not rfl) ?_
    refine gk_nil (gk_sub (T':=[(2,_),(3,_),(4,_),(5,_),(41,_)]) ⟨rfl,rfl,rfl,rfl,rfl,trivial⟩ ?_)
    refine gk_condF rfl ?_
    refine gk_skip ?_
    refine gk_region ?_
    refine gk_y rfl rfl (y_move rfl) ?_
    refine gk_y rfl rfl (y_addI rfl rfl (by omega) (by omega)) ?_
    refine gk_y rfl rfl (y_assign rfl) ?_
    refine gk_nil (gk_sub (T':=[(2,_),(3,_),(4,_),(5,_)]) ⟨rfl,rfl,rfl,rfl,trivial⟩ ?_)
    exact gk_next (i+1) ⟨rfl,rfl,rfl,rfl,trivial⟩ rfl ⟨by omega,by omega⟩ (by omega)
   ·
    refine gk_exit rfl ?_
    refine gk_seq ?_
    refine gk_seq ?_
    refine gk_region ?_
    refine gk_y rfl rfl (y_assign rfl) ?_
    refine gk_nil (gk_sub (T':=[(2,_),(3,_),(4,_),(6,_)]) ⟨rfl,rfl,rfl,rfl,trivial⟩ ?_)
    refine gk_block ?_
    refine gk_loop (X:=Int) (fun(i:Int)=>[(2,.pointer (some ⟨b2,0,none⟩)),(3,.pointer (some ⟨b3,0,none⟩)),(4,.bool false),(6,.int .i64 i)]) (fun(i:Int)=>[Box b3 [.slice e S2.length ecap,.slice f V2.length fcap] 25,Box b2 [.slice a S.length cap,.slice b V.length bcap] 31]) (fun(i:Int)=>(0≤i∧i≤V.length)) (fun(i:Int)=>(V.length - i).toNat) 0 ⟨rfl,rfl,rfl,rfl,trivial⟩ rfl ?_ ?_
    ·exact⟨by omega,by omega⟩
    ·rintro i hI
     rename_i ii
     obtain⟨g0,g1⟩:=hI
     refine gk_seq ?_
     refine gk_seq ?_
     refine gk_region ?_
     refine gk_y rfl rfl (y_move rfl) ?_
     refine gk_y rfl rfl (y_fieldAddr fo31_1 rfl) ?_
     refine gk_y rfl rfl (y_loadB1 1 tf29 rfl rfl rfl) ?_
     refine gk_y rfl rfl (y_lenS (Tryz.underlying29) rfl) ?_
     refine gk_y rfl rfl (y_lss rfl rfl) ?_
     refine gk_nil (gk_sub (T':=[(2,_),(3,_),(4,_),(6,_),(46,_)]) ⟨rfl,rfl,rfl,rfl,rfl,trivial⟩ ?_)
     refine gk_cond rfl (fun hc46=>?_) (fun hc46=>?_)
     ·have hc46:=of_decide_eq_true hc46
      refine gk_skip ?_
      refine gk_seq ?_
      refine gk_block ?_
      refine gk_seq ?_
      refine gk_any 12 (fun _=>mixed) (by kernel_rfl) ?_
      refine ph_y (y_fieldAddr fo31_1 rfl) ?_
      refine ph_y (y_loadB1 1 tf29 rfl rfl rfl) ?_
      refine ph_y (y_move rfl) ?_
      refine ph_y (y_indexE se29 rfl rfl (fun _ hw=>(Rd.has (Has.rd hlw) hw)) (by omega) (by omega)) ?_
      refine ph_y (y_loadE (vs:=[_,_,_,_]) tf94 rfl (fun _ hw=>(Rd.has (Has.rd hlw) hw)) (by omega) (by omega) rfl) ?_
      refine ph_y (y_fieldAddr fo25_1 rfl) ?_
      refine ph_y (y_loadB1 0 tf23 rfl rfl rfl) ?_
      refine ph_y (y_move rfl) ?_
      refine ph_y (y_indexE se23 rfl rfl (fun _ hw=>(Rd.has (Has.rd hlwb) hw)) (by omega) (by omega)) ?_
      refine ph_y (y_loadE (vs:=[_,_,_,_]) tf65 rfl (fun _ hw=>(Rd.has (Has.rd hlwb) hw)) (by omega) (by omega) rfl) ?_
      refine ph_y (y_call en38 rfl (fun w hw=>samewall2_c (V.getD i.toNat default).s (V2.getD i.toNat default).s _ _ _ _ w (same_wl hV _) (Rd.has (Has.rd (hwo _ (getD_memS (by omega)))) hw) (Rd.has (Has.rd (hwo2 _ (getD_memS (by omega)))) hw) (hsv _ (getD_memS (by omega))))) ?_
      refine ph_y (y_not rfl) ?_
      refine gk_nil (gk_sub (T':=[(2,_),(3,_),(4,_),(6,_),(60,_)]) ⟨rfl,rfl,rfl,rfl,rfl,trivial⟩ ?_)
      refine gk_condF rfl ?_
      refine gk_skip ?_
      refine gk_region ?_
      refine gk_y rfl rfl (y_move rfl) ?_
      refine gk_y rfl rfl (y_addI rfl rfl (by omega) (by omega)) ?_
      refine gk_y rfl rfl (y_assign rfl) ?_
      refine gk_nil (gk_sub (T':=[(2,_),(3,_),(4,_),(6,_)]) ⟨rfl,rfl,rfl,rfl,trivial⟩ ?_)
      exact gk_next (i+1) ⟨rfl,rfl,rfl,rfl,trivial⟩ rfl ⟨by omega,by omega⟩ (by omega)
     ·
      refine gk_exit rfl ?_
      refine gk_seq ?_
      refine gk_region ?_
      refine gk_y rfl rfl (y_assign rfl) ?_
      refine gk_nil (gk_sub (T':=[(4,_)]) ⟨rfl,trivial⟩ ?_)
      refine gk_ret ?_
      refine gk_pure (rv_one rfl (r1_tmp rfl)) ?_
      rfl
end Go.Proofs.YtdcfcfhmkfkgmaaGreatDoor
namespace Go.K
open Go Go.RowKit
section
variable {α:Type} {enc:α→List Value} {k:Nat} {c:Cx} {ds:List Deferred} {T:List (Nat×Value)} {H:List Res} {d:Option Nat} {x y:Operand} {ty:TypeId} {ps:String} {af:Array Edge} {g:Option (Nat×Bool)}
theorem yx_append0 {t e:TypeId} {by_:Nat} {zs:List Value} {a2:Option Addr} {c2:Nat} {m:List α} (hf:AF c.P t e k by_ zs) (he:Enc k enc)
  (hx:evo T x=some (.slice none 0 0)) (hy:evo T y=some (.slice a2 m.length c2)) (hm:∀ w,Hp c.U c.w0 H w→Has w (Elems a2 k enc m))
  (hb:m.length*by_≤140737488355328) (hlm:m.length≤maxLen) :
  YX c ds H T ⟨d,.call ⟨.builtin .append,#[x,y],#[t,t]⟩,ty,ps,af,g⟩ (fun z:Option Addr×Nat=>.slice z.1 m.length z.2) (fun z=>Row z.1 k z.2 e enc m):=by
 by_cases h0:m.length=0
 ·obtain rfl:=List.eq_nil_of_length_eq_zero h0
  refine⟨fun A w hs _=>?_⟩
  unfold Yld
  rw [run_builtin («as»:=[x,y]) (vs:=[.slice none 0 0,.slice a2 0 c2]) (by simp [evs,hx,hy]) hs w]
  simp only [builtin]
  rw [run_val (run_append_none hf (Nat.le_refl 0))]
  exact⟨(none,0),rfl,Ext.rfl,fun _=>False,fun _ h=>h.elim,.inl ⟨rfl,rfl,rfl⟩⟩
 ·exact yx_appendNew (a:=none) (cap:=0) (l:=[]) hf he hx hy (fun _ _=>⟨fun _=>False,fun _ h=>h.elim,.inl ⟨rfl,rfl,rfl⟩⟩) hm (by simpa using hb) (by simpa using hlm) (by simp; omega)
end
end Go.K
namespace Go.Proofs.YtdcfcfhmkfkgmaaGreatDoor
open Go.K Go.Stn Go.Pln Go.RowKit
theorem tf124:TF Tryz.prog 124 false 1 (.slice none 0 0):=⟨by kernel_rfl,by kernel_rfl⟩
theorem fo161_0:FO Tryz.prog 161 0 0:=⟨by kernel_rfl⟩
theorem se124:SE Tryz.prog 124 9 1:=⟨Tryz.underlying124,by kernel_rfl⟩
theorem if33:IF Tryz.prog 33:=⟨_,Tryz.underlying33,fun _ h=>by cases h⟩
theorem en90:En Tryz.prog 90:=en_of Tryz.func90 (by kernel_rfl) (by kernel_rfl)
theorem en91:En Tryz.prog 91:=en_of Tryz.func91 (by kernel_rfl) (by kernel_rfl)
set_option maxRecDepth 100000 in
set_option maxHeartbeats 1000000 in
theorem fail_c (k:Int) (w:World)  :
  Calls Tryz.prog 91 #[.int .i64 k] w ((fun e w'=>e=.panicked (thrC (errT 33 k))∧Ext w w')):=by
 refine calls_of_gk (vs:=[_]) Tryz.func91 rfl rfl (Nat.le_of_ble_eq_true rfl) ?_
 refine gk_region ?_
 refine gk_y rfl rfl (y_move rfl) ?_
 refine gk_y rfl rfl (y_iface if33 rfl) ?_
 refine gk_panicI rfl ?_
 exact gk_thrown fun w hw=>⟨rfl,hw.base.ext0⟩
set_option maxRecDepth 100000 in
set_option maxHeartbeats 1000000 in
theorem next_c (r:Nat) (ws:List ByteArray) (w:World) (B:Nat→Prop) (hB:∀ k,B k→k < w.heap.size) (hA:(Rdr 161 r ws).A B w)  :
  Calls Tryz.prog 90 #[.pointer (some ⟨r,0,none⟩)] w (TurnsE 33 (nextE ws) (fun x (_:Unit)=>.string x.1) (fun x _=>Rdr 161 r x.2) B w):=by
 refine calls_of_gkB hB hA (vs:=[_]) Tryz.func90 rfl rfl (Nat.le_of_ble_eq_true rfl) ?_
 refine gk_openRdr fun a1 c1 hc1=>?_
 refine gk_seq ?_
 refine gk_region ?_
 refine gk_y rfl rfl (y_assign rfl) ?_
 refine gk_nil (gk_sub (T':=[(0,_),(2,_)]) ⟨rfl,rfl,trivial⟩ ?_)
 refine gk_seq ?_
 refine gk_seq ?_
 refine gk_region ?_
 refine gk_y rfl rfl (y_move rfl) ?_
 refine gk_y rfl rfl (y_nilCheck rfl) ?_
 refine gk_y rfl rfl (y_fieldAddr fo161_0 rfl) ?_
 refine gk_y rfl rfl (y_loadB1 0 tf124 rfl rfl rfl) ?_
 refine gk_y rfl rfl (y_lenS (Tryz.underlying124) rfl) ?_
 refine gk_y rfl rfl (y_eql rfl rfl) ?_
 refine gk_nil (gk_sub (T':=[(0,_),(2,_),(9,_)]) ⟨rfl,rfl,rfl,trivial⟩ ?_)
 refine gk_cond rfl (fun hc9=>?_) (fun hc9=>?_)
 ·have h0:ws.length=0:=by have:=of_decide_eq_true hc9; omega
  refine gk_region ?_
  refine gk_callP en91 rfl (fun w hw=>fail_c _ w) ?_
  exact gk_thrownE (next_err h0)
 ·have h0:¬ ws.length=0:=by have:=of_decide_eq_false hc9; omega
  refine gk_skip ?_
  refine gk_seq ?_
  refine gk_region ?_
  refine gk_y rfl rfl (y_move rfl) ?_
  refine gk_y rfl rfl (y_nilCheck rfl) ?_
  refine gk_y rfl rfl (y_fieldAddr fo161_0 rfl) ?_
  refine gk_y rfl rfl (y_loadB1 0 tf124 rfl rfl rfl) ?_
  refine gk_y rfl rfl (y_indexE se124 rfl rfl (fun _ hw=>(hw.has (p:=1) rfl)) (by omega) (by omega)) ?_
  refine gk_y rfl rfl (y_loadE1 tf9 rfl (fun _ hw=>(hw.has (p:=1) rfl)) (by omega) (by omega) rfl) ?_
  refine gk_y rfl rfl (y_assign rfl) ?_
  refine gk_nil (gk_sub (T':=[(0,_),(2,_),(3,_)]) ⟨rfl,rfl,rfl,trivial⟩ ?_)
  refine gk_seq ?_
  refine gk_region ?_
  refine gk_y rfl rfl (y_move rfl) ?_
  refine gk_y rfl rfl (y_move rfl) ?_
  refine gk_y rfl rfl (y_nilCheck rfl) ?_
  refine gk_y rfl rfl (y_fieldAddr fo161_0 rfl) ?_
  refine gk_y rfl rfl (y_loadB1 0 tf124 rfl rfl rfl) ?_
  refine gk_y rfl rfl (y_sliceLoL se124 rfl rfl (by omega) (by omega)) ?_
  refine gk_y rfl rfl (y_nilCheck rfl) ?_
  refine gk_y rfl rfl (y_fieldAddr fo161_0 rfl) ?_
  refine gk_storeV 0 tf124 rfl rfl (vs:=[_]) rfl rfl rfl rfl rfl ?_
  refine gk_nil (gk_sub (T':=[(2,_),(3,_)]) ⟨rfl,rfl,trivial⟩ ?_)
  refine gk_seq ?_
  refine gk_region ?_
  refine gk_y rfl rfl (y_move rfl) ?_
  refine gk_y rfl rfl (y_assign rfl) ?_
  refine gk_nil (gk_sub (T':=[(2,_)]) ⟨rfl,trivial⟩ ?_)
  refine gk_ret ?_
  refine gk_nextRdr hc1 (by omega) ?_
  exact gk_turnsE (ws.getD 0 default,ws.drop 1) () 0 (rv_one rfl (r1_tmp rfl)) rfl rfl (next_ok h0)
set_option maxRecDepth 100000 in
set_option maxHeartbeats 1000000 in
theorem say_c (r:Nat) (ws:List ByteArray) (u:ByteArray) (w:World) (B:Nat→Prop) (hB:∀ k,B k→k < w.heap.size) (hA:(Rdr 161 r ws).A B w)  :
  Calls Tryz.prog 132 #[.pointer (some ⟨r,0,none⟩),.string u] w (TurnsE 33 (sayE u ws) (fun _x (_:Unit)=>.tuple #[]) (fun x _=>Rdr 161 r x.2) B w):=by
 refine calls_of_gkB hB hA (vs:=[_,_]) Tryz.func132 rfl rfl (Nat.le_of_ble_eq_true rfl) ?_
 refine gk_seq ?_
 refine gk_region ?_
 refine gk_y rfl rfl (y_move rfl) ?_
 refine gk_callE (res:=nextE ws) 0 en90 rfl rfl rfl (fun w B hF=>next_c r ws w B (fun k hk=>(hF.own k hk).2) hF.A) (fun k hk5=>?_) (fun x5 m5 hx5=>?_)
 ·
  exact gk_thrownE (by rw [sayE,hk5]; rfl)
 refine gk_y rfl rfl (y_move rfl) ?_
 refine gk_y rfl rfl (y_strNe rfl rfl) ?_
 refine gk_nil (gk_sub (T':=[(7,_)]) ⟨rfl,trivial⟩ ?_)
 refine gk_cond rfl (fun hc7=>?_) (fun hc7=>?_)
 ·have h7:¬ (x5.1.toList == u.toList)=true:=by simpa using hc7
  refine gk_region ?_
  refine gk_callP en91 rfl (fun w hw=>fail_c _ w) ?_
  exact gk_thrownE (by rw [sayE,hx5,ok_bind,if_neg h7])
 ·have h7:(x5.1.toList == u.toList)=true:=by simpa using hc7
  refine gk_skip ?_
  exact gk_turnsE ((),x5.2) () 0 (rv_none rfl) rfl rfl (by rw [sayE,hx5,ok_bind,if_pos h7])
set_option maxRecDepth 100000 in
set_option maxHeartbeats 1000000 in
theorem name_c (r:Nat) (ws:List ByteArray) (w:World) (B:Nat→Prop) (hB:∀ k,B k→k < w.heap.size) (hA:(Rdr 161 r ws).A B w)  :
  Calls Tryz.prog 113 #[.pointer (some ⟨r,0,none⟩)] w (TurnsE 33 (nameE ws) (fun x (_:Unit)=>.string x.1) (fun x _=>Rdr 161 r x.2) B w):=by
 refine calls_of_gkB hB hA (vs:=[_]) Tryz.func113 rfl rfl (Nat.le_of_ble_eq_true rfl) ?_
 refine gk_seq ?_
 refine gk_region ?_
 refine gk_y rfl rfl (y_assign rfl) ?_
 refine gk_nil (gk_sub (T':=[(0,_),(2,_)]) ⟨rfl,rfl,trivial⟩ ?_)
 refine gk_seq ?_
 refine gk_region ?_
 refine gk_y rfl rfl (y_move rfl) ?_
 refine gk_callE (res:=nextE ws) 0 en90 rfl rfl rfl (fun w B hF=>next_c r ws w B (fun k hk=>(hF.own k hk).2) hF.A) (fun k hk5=>?_) (fun x5 m5 hx5=>?_)
 ·
  exact gk_thrownE (by rw [nameE,hk5]; rfl)
 refine gk_y rfl rfl (y_assign rfl) ?_
 refine gk_nil (gk_sub (T':=[(2,_),(3,_)]) ⟨rfl,rfl,trivial⟩ ?_)
 refine gk_seq ?_
 refine gk_seq ?_
 refine gk_region ?_
 refine gk_y rfl rfl (y_move rfl) ?_
 refine gk_y rfl rfl (y_call en55 rfl (fun w hw=>named_c _ w)) ?_
 refine gk_y rfl rfl (y_not rfl) ?_
 refine gk_nil (gk_sub (T':=[(2,_),(3,_),(8,_)]) ⟨rfl,rfl,rfl,trivial⟩ ?_)
 refine gk_cond rfl (fun hc8=>?_) (fun hc8=>?_)
 ·have h8:¬ namedB x5.1=true:=by simpa using hc8
  refine gk_region ?_
  refine gk_callP en91 rfl (fun w hw=>fail_c _ w) ?_
  exact gk_thrownE (by rw [nameE,hx5,ok_bind,if_neg h8])
 ·have h8:namedB x5.1=true:=by simpa using hc8
  refine gk_skip ?_
  refine gk_seq ?_
  refine gk_region ?_
  refine gk_y rfl rfl (y_move rfl) ?_
  refine gk_y rfl rfl (y_assign rfl) ?_
  refine gk_nil (gk_sub (T':=[(2,_)]) ⟨rfl,trivial⟩ ?_)
  refine gk_ret ?_
  exact gk_turnsE (x5.1,x5.2) () 0 (rv_one rfl (r1_tmp rfl)) rfl rfl (by rw [nameE,hx5,ok_bind,if_pos h8])
set_option maxRecDepth 100000 in
set_option maxHeartbeats 1000000 in
theorem end_c (r:Nat) (ws:List ByteArray) (w:World) (B:Nat→Prop) (hB:∀ k,B k→k < w.heap.size) (hA:(Rdr 161 r ws).A B w)  :
  Calls Tryz.prog 111 #[.pointer (some ⟨r,0,none⟩)] w (TurnsE 33 (endE ws) (fun _x (_:Unit)=>.tuple #[]) (fun x _=>Rdr 161 r x.2) B w):=by
 refine calls_of_gkB hB hA (vs:=[_]) Tryz.func111 rfl rfl (Nat.le_of_ble_eq_true rfl) ?_
 refine gk_openRdr fun a1 c1 hc1=>?_
 refine gk_seq ?_
 refine gk_region ?_
 refine gk_y rfl rfl (y_move rfl) ?_
 refine gk_y rfl rfl (y_nilCheck rfl) ?_
 refine gk_y rfl rfl (y_fieldAddr fo161_0 rfl) ?_
 refine gk_y rfl rfl (y_loadB1 0 tf124 rfl rfl rfl) ?_
 refine gk_y rfl rfl (y_lenS (Tryz.underlying124) rfl) ?_
 refine gk_y rfl rfl (y_gtr rfl rfl) ?_
 refine gk_nil (gk_sub (T':=[(7,_)]) ⟨rfl,trivial⟩ ?_)
 refine gk_cond rfl (fun hc7=>?_) (fun hc7=>?_)
 ·have h7:¬ ws.length=0:=by have:=of_decide_eq_true hc7; omega
  refine gk_region ?_
  refine gk_callP en91 rfl (fun w hw=>fail_c _ w) ?_
  exact gk_thrownE (if_neg h7)
 ·have h7:ws.length=0:=by have:=of_decide_eq_false hc7; omega
  refine gk_skip ?_
  refine gk_closeRdr hc1 ?_
  exact gk_turnsE ((),ws) () 0 (rv_none rfl) rfl rfl (if_pos h7)
end Go.Proofs.YtdcfcfhmkfkgmaaGreatDoor