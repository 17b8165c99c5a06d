/- What the proof of the root text leans on, part 3: the layer, plain facts and walks. No statement of the seat is proved in this text. -/
import Derived.Laws.DeepStrings4
import Derived.Lib.AtoiAll
import Derived.Lib.IndexBytes
import Derived.Lib.IndexLaws
import Derived.Lib.ItoaNum
import Derived.Lib.SplitLaws
import Derived.Shelf.Strconv.AtoiAll
import Derived.Shelf.Strconv.Itoa3
import Derived.Shelf.Strings.Cut
import Derived.Shelf.Strings.Split
import Derived.Test.YtdcfcfhmkfkgmaaGreatDoorProg
import Derived.WideLaws
import Derived.Test.YtdcfcfhmkfkgmaaGreatDoorPr2
namespace Go.Proofs.YtdcfcfhmkfkgmaaGreatDoor
open Go.K Go.Stn Go.Pln Go.RowKit
theorem tf9:TF Tryz.prog 9 false 1 (.string ⟨#[]⟩):=⟨by kernel_rfl,by kernel_rfl⟩
theorem tf35:TF Tryz.prog 35 false 1 (.slice none 0 0):=⟨by kernel_rfl,by kernel_rfl⟩
theorem tf37:TF Tryz.prog 37 true 20 (.agg #[.string ⟨#[]⟩,.int IntKind.i64 0,.int IntKind.i64 0,.int IntKind.i64 0,.int IntKind.i64 0,.slice none 0 0,.int IntKind.i64 0,.int IntKind.i64 0,.int IntKind.i64 0,.int IntKind.i64 0,.int IntKind.i64 0,.int IntKind.i64 0,.int IntKind.i64 0,.int IntKind.u8 0,.int IntKind.i64 0,.int IntKind.i64 0,.int IntKind.i64 0,.int IntKind.i64 0,.int IntKind.i64 0,.int IntKind.i64 0]):=⟨by kernel_rfl,by kernel_rfl⟩
theorem tf41:TF Tryz.prog 41 true 20 (.agg #[.string ⟨#[]⟩,.int IntKind.i64 0,.int IntKind.i64 0,.int IntKind.i64 0,.int IntKind.i64 0,.slice none 0 0,.int IntKind.i64 0,.int IntKind.i64 0,.int IntKind.i64 0,.int IntKind.i64 0,.int IntKind.i64 0,.int IntKind.i64 0,.int IntKind.i64 0,.int IntKind.u8 0,.int IntKind.i64 0,.int IntKind.i64 0,.int IntKind.i64 0,.int IntKind.i64 0,.int IntKind.i64 0,.int IntKind.i64 0]):=⟨by kernel_rfl,by kernel_rfl⟩
theorem zkW:FO Tryz.prog 37 0 0:=⟨by kernel_rfl⟩
theorem zdC:FO Tryz.prog 37 3 3:=⟨by kernel_rfl⟩
theorem zkX:FO Tryz.prog 37 4 4:=⟨by kernel_rfl⟩
theorem zgl:FO Tryz.prog 37 5 5:=⟨by kernel_rfl⟩
theorem zpt:FO Tryz.prog 37 6 6:=⟨by kernel_rfl⟩
theorem zsI:FO Tryz.prog 37 7 7:=⟨by kernel_rfl⟩
theorem zsJ:FO Tryz.prog 37 8 8:=⟨by kernel_rfl⟩
theorem zjh:FO Tryz.prog 37 9 9:=⟨by kernel_rfl⟩
theorem zjU:FO Tryz.prog 37 10 10:=⟨by kernel_rfl⟩
theorem zl4:FO Tryz.prog 37 11 11:=⟨by kernel_rfl⟩
theorem zl5:FO Tryz.prog 37 12 12:=⟨by kernel_rfl⟩
theorem zfb:FO Tryz.prog 37 13 13:=⟨by kernel_rfl⟩
theorem zjV:FO Tryz.prog 37 14 14:=⟨by kernel_rfl⟩
theorem zh7:FO Tryz.prog 37 15 15:=⟨by kernel_rfl⟩
theorem zh8:FO Tryz.prog 37 16 16:=⟨by kernel_rfl⟩
theorem zpr:FO Tryz.prog 37 17 17:=⟨by kernel_rfl⟩
theorem zl6:FO Tryz.prog 37 18 18:=⟨by kernel_rfl⟩
theorem zl7:FO Tryz.prog 37 19 19:=⟨by kernel_rfl⟩
theorem znb:FO Tryz.prog 41 0 0:=⟨by kernel_rfl⟩
theorem zep:FO Tryz.prog 41 3 3:=⟨by kernel_rfl⟩
theorem znd:FO Tryz.prog 41 4 4:=⟨by kernel_rfl⟩
theorem zia:FO Tryz.prog 41 5 5:=⟨by kernel_rfl⟩
theorem zpw:FO Tryz.prog 41 6 6:=⟨by kernel_rfl⟩
theorem zsK:FO Tryz.prog 41 7 7:=⟨by kernel_rfl⟩
theorem zsL:FO Tryz.prog 41 8 8:=⟨by kernel_rfl⟩
theorem zhc:FO Tryz.prog 41 9 9:=⟨by kernel_rfl⟩
theorem zh9:FO Tryz.prog 41 10 10:=⟨by kernel_rfl⟩
theorem zl8:FO Tryz.prog 41 11 11:=⟨by kernel_rfl⟩
theorem zl9:FO Tryz.prog 41 12 12:=⟨by kernel_rfl⟩
theorem zpu:FO Tryz.prog 41 17 17:=⟨by kernel_rfl⟩
theorem zma:FO Tryz.prog 41 18 18:=⟨by kernel_rfl⟩
theorem zmb:FO Tryz.prog 41 19 19:=⟨by kernel_rfl⟩
theorem zpx:FO Tryz.prog 49 1 1:=⟨by kernel_rfl⟩
theorem zgm:FO Tryz.prog 50 1 1:=⟨by kernel_rfl⟩
theorem se38:SE Tryz.prog 38 49 2:=⟨Tryz.underlying38,by kernel_rfl⟩
theorem se46:SE Tryz.prog 46 50 2:=⟨Tryz.underlying46,by kernel_rfl⟩
theorem af38:AF Tryz.prog 38 49 2 16 [.int IntKind.i64 0,.int IntKind.i64 0]:=⟨Tryz.underlying38,by kernel_rfl,rfl⟩
theorem af46:AF Tryz.prog 46 50 2 16 [.int IntKind.i64 0,.int IntKind.i64 0]:=⟨Tryz.underlying46,by kernel_rfl,rfl⟩
theorem en20:En Tryz.prog 20:=za7 Tryz.func20 (by kernel_rfl) (by kernel_rfl)
theorem en21:En Tryz.prog 21:=za7 Tryz.func21 (by kernel_rfl) (by kernel_rfl)
theorem en22:En Tryz.prog 22:=za7 Tryz.func22 (by kernel_rfl) (by kernel_rfl)
theorem en49:En Tryz.prog 49:=za7 Tryz.func49 (by kernel_rfl) (by kernel_rfl)
theorem en50:En Tryz.prog 50:=za7 Tryz.func50 (by kernel_rfl) (by kernel_rfl)
theorem en51:En Tryz.prog 51:=za7 Tryz.func51 (by kernel_rfl) (by kernel_rfl)
theorem en52:En Tryz.prog 52:=za7 Tryz.func52 (by kernel_rfl) (by kernel_rfl)
theorem en54:En Tryz.prog 54:=za7 Tryz.func54 (by kernel_rfl) (by kernel_rfl)
theorem en55:En Tryz.prog 55:=za7 Tryz.func55 (by kernel_rfl) (by kernel_rfl)
theorem en56:En Tryz.prog 56:=za7 Tryz.func56 (by kernel_rfl) (by kernel_rfl)
theorem en57:En Tryz.prog 57:=za7 Tryz.func57 (by kernel_rfl) (by kernel_rfl)
theorem zgQ (x0:Int) (x1:Int) (w:World):(Instr.build 49 #[(0,.int .i64 x0),(1,.int .i64 x1)]).run Tryz.prog w=.ok (.agg #[.int .i64 x0,.int .i64 x1]) w:=by kernel_rfl
theorem zfy (x0:Int) (x1:Int) (w:World):(Instr.build 50 #[(0,.int .i64 x0),(1,.int .i64 x1)]).run Tryz.prog w=.ok (.agg #[.int .i64 x0,.int .i64 x1]) w:=by kernel_rfl
theorem zsE (x0_0:Int) (x0_1:Int) (w:World):(Instr.buildSlice 38 1 #[(0,.agg #[.int .i64 x0_0,.int .i64 x0_1])]).run Tryz.prog w=.ok (.slice (some ⟨w.heap.size,0,none⟩) 1 1) (w.alloc (.cells (([⟨x0_0,x0_1⟩]:List (Crs)).flatMap zbq).toArray 49)):=by kernel_rfl
theorem zo1 (x0_0:Int) (x0_1:Int) (w:World):(Instr.buildSlice 46 1 #[(0,.agg #[.int .i64 x0_0,.int .i64 x0_1])]).run Tryz.prog w=.ok (.slice (some ⟨w.heap.size,0,none⟩) 1 1) (w.alloc (.cells (([⟨x0_0,x0_1⟩]:List (Crs)).flatMap zbq).toArray 50)):=by kernel_rfl
theorem zlS (x0_0:Int) (x0_1:Int) (x0_2:Int) (x1_0:Int) (x1_1:Int) (x1_2:Int) (w:World):(Instr.buildSlice 148 2 #[(0,.agg #[.int .i64 x0_0,.int .i64 x0_1,.int .i64 x0_2]),(1,.agg #[.int .i64 x1_0,.int .i64 x1_1,.int .i64 x1_2])]).run Tryz.prog w=.ok (.slice (some ⟨w.heap.size,0,none⟩) 2 2) (w.alloc (.cells (([⟨x0_0,x0_1,x0_2⟩,⟨x1_0,x1_1,x1_2⟩]:List (Lim)).flatMap zgk).toArray 117)):=by kernel_rfl
theorem zrc (x0_0:Int) (x0_1:Int) (x0_2:Int) (x1_0:Int) (x1_1:Int) (x1_2:Int) (x2_0:Int) (x2_1:Int) (x2_2:Int) (x3_0:Int) (x3_1:Int) (x3_2:Int) (x4_0:Int) (x4_1:Int) (x4_2:Int) (x5_0:Int) (x5_1:Int) (x5_2:Int) (x6_0:Int) (x6_1:Int) (x6_2:Int) (x7_0:Int) (x7_1:Int) (x7_2:Int) (x8_0:Int) (x8_1:Int) (x8_2:Int) (x9_0:Int) (x9_1:Int) (x9_2:Int) (x10_0:Int) (x10_1:Int) (x10_2:Int) (x11_0:Int) (x11_1:Int) (x11_2:Int) (x12_0:Int) (x12_1:Int) (x12_2:Int) (w:World):(Instr.buildSlice 148 13 #[(0,.agg #[.int .i64 x0_0,.int .i64 x0_1,.int .i64 x0_2]),(1,.agg #[.int .i64 x1_0,.int .i64 x1_1,.int .i64 x1_2]),(2,.agg #[.int .i64 x2_0,.int .i64 x2_1,.int .i64 x2_2]),(3,.agg #[.int .i64 x3_0,.int .i64 x3_1,.int .i64 x3_2]),(4,.agg #[.int .i64 x4_0,.int .i64 x4_1,.int .i64 x4_2]),(5,.agg #[.int .i64 x5_0,.int .i64 x5_1,.int .i64 x5_2]),(6,.agg #[.int .i64 x6_0,.int .i64 x6_1,.int .i64 x6_2]),(7,.agg #[.int .i64 x7_0,.int .i64 x7_1,.int .i64 x7_2]),(8,.agg #[.int .i64 x8_0,.int .i64 x8_1,.int .i64 x8_2]),(9,.agg #[.int .i64 x9_0,.int .i64 x9_1,.int .i64 x9_2]),(10,.agg #[.int .i64 x10_0,.int .i64 x10_1,.int .i64 x10_2]),(11,.agg #[.int .i64 x11_0,.int .i64 x11_1,.int .i64 x11_2]),(12,.agg #[.int .i64 x12_0,.int .i64 x12_1,.int .i64 x12_2])]).run Tryz.prog w=.ok (.slice (some ⟨w.heap.size,0,none⟩) 13 13) (w.alloc (.cells (([⟨x0_0,x0_1,x0_2⟩,⟨x1_0,x1_1,x1_2⟩,⟨x2_0,x2_1,x2_2⟩,⟨x3_0,x3_1,x3_2⟩,⟨x4_0,x4_1,x4_2⟩,⟨x5_0,x5_1,x5_2⟩,⟨x6_0,x6_1,x6_2⟩,⟨x7_0,x7_1,x7_2⟩,⟨x8_0,x8_1,x8_2⟩,⟨x9_0,x9_1,x9_2⟩,⟨x10_0,x10_1,x10_2⟩,⟨x11_0,x11_1,x11_2⟩,⟨x12_0,x12_1,x12_2⟩]:List (Lim)).flatMap zgk).toArray 117)):=by kernel_rfl
set_option maxRecDepth 100000 in
set_option maxHeartbeats 2000000 in
theorem ze3 (a:Option Addr) (cap:Nat) (s:Sht) (w:World) (hl:Has w (Ints a s.heights)) (hn:Nums s) :
  Calls Tryz.prog 49 #[.agg #[.string s.name,.int .i64 s.base,.int .i64 s.batter,.int .i64 s.height,.int .i64 s.skin,.slice a s.heights.length cap,.int .i64 s.least,.int .i64 s.lap,.int .i64 s.run,.int .i64 s.every,.int .i64 s.at_,.int .i64 s.footing,.int .i64 s.spread,.int .u8 s.cope,.int .i64 s.tall,.int .i64 s.short,.int .i64 s.thick,.int .i64 s.low,.int .i64 s.high,.int .i64 s.rood]] w (zcU (fun z:Option Addr×Nat=>.slice z.1 (zaj s).length z.2) (fun z=>Row z.1 2 z.2 49 zbq (zaj s)) w):=by
 refine zan (vs:=[_]) Tryz.func49 rfl rfl (Nat.le_of_ble_eq_true rfl) ?_
 refine zac ?_
 refine zaa ?_
 refine zaG rfl rfl (za3 (vs:=[_,_,_,_,_,_,_,_,_,_,_,_,_,_,_,_,_,_,_,_]) rfl rfl) fun b1=>?_
 refine gQ (zad rfl) ?_
 refine zag (zae (T':=[(1,_),(2,_)]) ⟨rfl,rfl,trivial⟩ ?_)
 refine zac ?_
 refine zaa ?_
 refine gQ (zad rfl) ?_
 refine zag (zae (T':=[(1,_),(2,_),(3,_)]) ⟨rfl,rfl,rfl,trivial⟩ ?_)
 refine zac ?_
 refine zaa ?_
 refine gQ (zad rfl) ?_
 refine zag (zae (T':=[(1,_),(2,_),(3,_),(4,_)]) ⟨rfl,rfl,rfl,rfl,trivial⟩ ?_)
 refine zac ?_
 refine zac ?_
 refine zaa ?_
 refine gQ (zad rfl) ?_
 refine zag (zae (T':=[(1,_),(2,_),(3,_),(4,_),(5,_)]) ⟨rfl,rfl,rfl,rfl,rfl,trivial⟩ ?_)
 refine zas ?_
 refine zbB 49 zbq 2 ?_
 refine zbf (X:=Nat×Int×Option Addr×Nat×List Crs) (fun⟨n,z,b,bc,L⟩=>[(1,.pointer (some ⟨b1,0,none⟩)),(2,.slice none 0 0),(3,.slice b L.length bc),(4,.int .i64 z),(5,.int .i64 (n:Int))]) (fun⟨n,z,b,bc,L⟩=>[Row b 2 bc 49 zbq L,Box b1 [.string s.name,.int .i64 s.base,.int .i64 s.batter,.int .i64 s.height,.int .i64 s.skin,.slice a s.heights.length cap,.int .i64 s.least,.int .i64 s.lap,.int .i64 s.run,.int .i64 s.every,.int .i64 s.at_,.int .i64 s.footing,.int .i64 s.spread,.int .u8 s.cope,.int .i64 s.tall,.int .i64 s.short,.int .i64 s.thick,.int .i64 s.low,.int .i64 s.high,.int .i64 s.rood] 41]) (fun⟨n,z,b,bc,L⟩=>(L=crsN s n∧z=zAt s n∧∀ j,j < n→zc5 s j=true)) (fun⟨n,z,b,bc,L⟩=>3001 - n) (0,0,none,0,[]) ⟨rfl,rfl,rfl,rfl,rfl,trivial⟩ rfl ?_ ?_
 ·exact⟨rfl,rfl,fun j hj=>by omega⟩
 ·rintro ⟨n,z,b,bc,L⟩ hI
  obtain⟨gL,gz,gu⟩:=hI
  have hnl:=hn.len
  have hnh:=hn.height
  have he:=zeg hn n
  have hz0:=zjC hn n
  have hz1:=zn7 (by omega) gu
  have hn3:=zjb hn gu
  have hll:L.length=n:=by rw [gL,zeC]
  refine zac ?_
  refine zas ?_
  refine zac ?_
  refine zaa ?_
  refine gQ (zab zia rfl) ?_
  refine gQ (zah 1 tf35 rfl rfl rfl) ?_
  refine gQ (zaf rfl) ?_
  refine gQ (zab zia rfl) ?_
  refine gQ (zah 1 tf35 rfl rfl rfl) ?_
  refine gQ (zaV (Tryz.underlying35) rfl) ?_
  refine gQ (zfV rfl rfl (by omega) (by omega)) ?_
  refine gQ (zsy rfl rfl) ?_
  refine gQ (zaE se35 rfl rfl (fun _ hw=>(Rd.has (Has.rd hl) hw)) (by omega) (by omega)) ?_
  refine gQ (zcE tf3 rfl (fun _ hw=>(Rd.has (Has.rd hl) hw)) (by omega) (by omega) rfl) ?_
  refine gQ (zad rfl) ?_
  refine zag (zae (T':=[(1,_),(2,_),(3,_),(4,_),(5,_),(6,_)]) ⟨rfl,rfl,rfl,rfl,rfl,rfl,trivial⟩ ?_)
  refine zae (T':=[(1,_),(2,_),(3,_),(4,_),(5,_),(6,.int .i64 (zce s n))]) ⟨rfl,rfl,rfl,rfl,rfl,(by rw [←zxq hnl.1 n]; rfl),trivial⟩ ?_
  refine zac ?_
  refine zac ?_
  refine zaa ?_
  refine gQ (zaf rfl) ?_
  refine gQ (zaf rfl) ?_
  refine gQ (zaY rfl rfl (by omega) (by omega)) ?_
  refine gQ (zab zep rfl) ?_
  refine gQ (zah 1 tf3 rfl rfl rfl) ?_
  refine gQ (zc6 rfl rfl) ?_
  refine zag (zae (T':=[(1,_),(2,_),(3,_),(4,_),(5,_),(6,_),(25,_)]) ⟨rfl,rfl,rfl,rfl,rfl,rfl,rfl,trivial⟩ ?_)
  refine zap rfl (fun hc25=>?_) (fun hc25=>?_)
  ·have hc25:=of_decide_eq_true hc25
   have hcn:=zsG hn gu (by rw [←gz]; omega)
   refine za8 rfl ?_
   refine zac ?_
   refine zac ?_
   refine zaa ?_
   refine gQ (zab zep rfl) ?_
   refine gQ (zah 1 tf3 rfl rfl rfl) ?_
   refine gQ (zaf rfl) ?_
   refine gQ (zfV rfl rfl (by omega) (by omega)) ?_
   refine gQ (zad rfl) ?_
   refine zag (zae (T':=[(1,_),(2,_),(3,_),(4,_),(7,_)]) ⟨rfl,rfl,rfl,rfl,rfl,trivial⟩ ?_)
   refine zas ?_
   refine zac ?_
   refine zaa ?_
   refine gQ (zaf rfl) ?_
   refine gQ (zbL rfl rfl) ?_
   refine gQ (zad rfl) ?_
   refine zag (zae (T':=[(1,_),(2,_),(3,_),(4,_),(7,_),(49,_)]) ⟨rfl,rfl,rfl,rfl,rfl,rfl,trivial⟩ ?_)
   refine zap rfl (fun hc49=>?_) (fun hc49=>?_)
   ·have h0:s.height - zAt s n=0:=by rw [←gz]; exact of_decide_eq_true hc49
    have hcs:zaj s=L:=(ze6 hcn h0).trans gL.symm
    refine zaq ?_
    refine zac ?_
    refine zaa ?_
    refine gQ (zaf rfl) ?_
    refine gQ (zad rfl) ?_
    refine zag (zae (T':=[(2,_)]) ⟨rfl,trivial⟩ ?_)
    refine zaw ?_
    refine zbd (b,bc) 0 (zaC rfl (zau rfl)) ?_ (by rw [hcs]; rfl)
    first | (rw [hcs]; done) | (rw [hcs,List.length_set])
   ·have h0:¬ s.height - zAt s n=0:=by rw [←gz]; exact of_decide_eq_false hc49
    refine zac ?_
    refine zbb 10 (fun _=>mixed) (by kernel_rfl) ?_
    refine ph_y (zaf rfl) ?_
    refine ph_y (zab zpw rfl) ?_
    refine ph_y (zah 1 tf3 rfl rfl rfl) ?_
    refine ph_y (zfx rfl rfl) ?_
    refine ph_y (zaf rfl) ?_
    refine zaz rfl rfl (fun hgd=>by(try rw [hgd]); exact(zaf rfl)) ?_
    refine zaz rfl rfl (fun hgd=>by(try rw [hgd]); exact(zaV (Tryz.underlying38) rfl)) ?_
    refine zaz rfl rfl (fun hgd=>by(try rw [hgd]); exact(zbL rfl rfl)) ?_
    refine ph_y (zaR rfl rfl rfl) ?_
    refine ph_y (zad rfl) ?_
    refine zag (zae (T':=[(1,_),(2,_),(3,_),(4,_),(52,_)]) ⟨rfl,rfl,rfl,rfl,rfl,trivial⟩ ?_)
    refine zap rfl (fun hc52=>?_) (fun hc52=>?_)
    ·have hcs:zaj s=L++[⟨z,s.height⟩]:=by rw [ze5 hcn h0 (by simp only [Bool.or_eq_true,decide_eq_true_eq] at hc52; rw [←gz]; omega),gL,gz]
     refine zaa ?_
     refine gQ (zaf rfl) ?_
     refine gQ (zaf rfl) ?_
     refine gQ (zab zep rfl) ?_
     refine gQ (zah 1 tf3 rfl rfl rfl) ?_
     refine gQ (zaI rfl (zgQ _ _)) ?_
     refine zaG rfl rfl (zaD rfl (zsE _ _) zax rfl) fun b67=>?_
     refine zb4 (m:=[(⟨z,s.height⟩:Crs)]) 1 af38 zax rfl rfl rfl rfl (fun _ hw=>(zam zax (hw.has (p:=0) rfl))) (by first | omega | (simp only [List.length_cons,List.length_nil]; omega)) (by first | (unfold maxLen; omega) | (simp only [List.length_cons,List.length_nil,maxLen]; omega)) fun a68 c68=>?_
     refine gQ (zad rfl) ?_
     refine zag (zae (T':=[(2,_),(3,_)]) ⟨rfl,rfl,trivial⟩ ?_)
     refine zac ?_
     refine zaa ?_
     refine gQ (zaf rfl) ?_
     refine gQ (zad rfl) ?_
     refine zag (zae (T':=[(2,_)]) ⟨rfl,trivial⟩ ?_)
     refine zaw ?_
     refine zbd (a68,c68) 1 (zaC rfl (zau rfl)) ?_ (by rw [hcs]; rfl)
     first | (rw [hcs]; done) | (rw [hcs,List.length_set])
    ·simp only [Bool.or_eq_false_iff,decide_eq_false_iff_not] at hc52
     have hcs:zaj s=L.set ((L.length:Int) - 1).toNat ({ L.getD ((L.length:Int) - 1).toNat default with to:=s.height }):=by rw [ze4 hcn h0 (by rw [←gz]; omega),zlf gL (by omega),gL]
     refine zaa ?_
     refine gQ (zaf rfl) ?_
     refine gQ (zaf rfl) ?_
     refine gQ (zaV (Tryz.underlying38) rfl) ?_
     refine gQ (zfV rfl rfl (by omega) (by omega)) ?_
     refine gQ (zab zep rfl) ?_
     refine gQ (zah 1 tf3 rfl rfl rfl) ?_
     refine gQ (zaE se38 rfl rfl (fun _ hw=>(zam zax (hw.has (p:=0) rfl))) (by omega) (by omega)) ?_
     refine gQ (zbh zpx rfl (fun w hw=>zaO (i:=((L.length:Int) - 1)) (zam zax (hw.has (p:=0) rfl)) (by omega) (by omega))) ?_
     refine zfG (x':=({ (L.getD (((L.length:Int) - 1)).toNat default) with to:=s.height }:Crs)) 0 zax tf3 rfl rfl (vs:=[_]) rfl rfl (by decide) rfl rfl (by omega) (by omega) ?_
     refine zag (zae (T':=[(2,_),(3,_)]) ⟨rfl,rfl,trivial⟩ ?_)
     refine zac ?_
     refine zaa ?_
     refine gQ (zaf rfl) ?_
     refine gQ (zad rfl) ?_
     refine zag (zae (T':=[(2,_)]) ⟨rfl,trivial⟩ ?_)
     refine zaw ?_
     refine zbd (b,bc) 0 (zaC rfl (zau rfl)) ?_ (by rw [hcs]; rfl)
     first | (rw [hcs]; done) | (rw [hcs,List.length_set])
  ·have hc25:=of_decide_eq_false hc25
   refine zaq ?_
   refine zac ?_
   refine zaa ?_
   refine gQ (zaf rfl) ?_
   refine gQ (zaf rfl) ?_
   refine gQ (zaf rfl) ?_
   refine gQ (zaf rfl) ?_
   refine gQ (zaY rfl rfl (by omega) (by omega)) ?_
   refine gQ (zaI rfl (zgQ _ _)) ?_
   refine zaG rfl rfl (zaD rfl (zsE _ _) zax rfl) fun b32=>?_
   refine zb4 (m:=[(⟨z,(z+(zce s n))⟩:Crs)]) 1 af38 zax rfl rfl rfl rfl (fun _ hw=>(zam zax (hw.has (p:=0) rfl))) (by first | omega | (simp only [List.length_cons,List.length_nil]; omega)) (by first | (unfold maxLen; omega) | (simp only [List.length_cons,List.length_nil,maxLen]; omega)) fun a33 c33=>?_
   refine gQ (zad rfl) ?_
   refine zag (zae (T':=[(1,_),(2,_),(3,_),(4,_),(5,_),(6,_)]) ⟨rfl,rfl,rfl,rfl,rfl,rfl,trivial⟩ ?_)
   refine zaa ?_
   refine gQ (zaf rfl) ?_
   refine gQ (zaf rfl) ?_
   refine gQ (zaY rfl rfl (by omega) (by omega)) ?_
   refine gQ (zad rfl) ?_
   refine zag (zae (T':=[(1,_),(2,_),(3,_),(4,_),(5,_)]) ⟨rfl,rfl,rfl,rfl,rfl,trivial⟩ ?_)
   refine zaa ?_
   refine gQ (zaf rfl) ?_
   refine gQ (zaY rfl rfl (by omega) (by omega)) ?_
   refine gQ (zad rfl) ?_
   refine zag (zae (T':=[(1,_),(2,_),(3,_),(4,_),(5,_)]) ⟨rfl,rfl,rfl,rfl,rfl,trivial⟩ ?_)
   refine zaK 0 rfl ?_
   exact za1 (n+1,_,_,_,_) ⟨rfl,rfl,rfl,rfl,rfl,trivial⟩ rfl ⟨by rw [gL,ze7,gz]; rfl,by rw [gz]; rfl,zg7 gu (ziR (by rw [←gz]; omega))⟩ (by simp only []; omega)
set_option maxRecDepth 100000 in
set_option maxHeartbeats 2000000 in
theorem zd4 (a:Option Addr) (cap:Nat) (s:Sht) (w:World) (hl:Has w (Ints a s.heights)) (hs:zaP s.heights.length) :
  Calls Tryz.prog 20 #[.agg #[.string s.name,.int .i64 s.base,.int .i64 s.batter,.int .i64 s.height,.int .i64 s.skin,.slice a s.heights.length cap,.int .i64 s.least,.int .i64 s.lap,.int .i64 s.run,.int .i64 s.every,.int .i64 s.at_,.int .i64 s.footing,.int .i64 s.spread,.int .u8 s.cope,.int .i64 s.tall,.int .i64 s.short,.int .i64 s.thick,.int .i64 s.low,.int .i64 s.high,.int .i64 s.rood]] w (Pure (.int .i64 (zcX s)) w):=by
 refine zan (vs:=[_]) Tryz.func20 rfl rfl (Nat.le_of_ble_eq_true rfl) ?_
 refine zac ?_
 refine zaa ?_
 refine zaG rfl rfl (za3 (vs:=[_,_,_,_,_,_,_,_,_,_,_,_,_,_,_,_,_,_,_,_]) rfl rfl) fun b1=>?_
 refine gQ (zad rfl) ?_
 refine zag (zae (T':=[(1,_),(2,_)]) ⟨rfl,rfl,trivial⟩ ?_)
 refine zih (X:=Unit) (fun _=>[(1,.pointer (some ⟨b1,0,none⟩)),(2,.int .i64 0),(3,.bool (zdJ s))]) (fun _=>[Box b1 [.string s.name,.int .i64 s.base,.int .i64 s.batter,.int .i64 s.height,.int .i64 s.skin,.slice a s.heights.length cap,.int .i64 s.least,.int .i64 s.lap,.int .i64 s.run,.int .i64 s.every,.int .i64 s.at_,.int .i64 s.footing,.int .i64 s.spread,.int .u8 s.cope,.int .i64 s.tall,.int .i64 s.short,.int .i64 s.thick,.int .i64 s.low,.int .i64 s.high,.int .i64 s.rood] 41]) (fun _=>True) ?_ ?_
 ·
  refine zaa ?_
  refine gQ (zab zhc rfl) ?_
  refine gQ (zah 0 tf3 rfl rfl rfl) ?_
  refine gQ (zbL rfl rfl) ?_
  refine gQ (zaf rfl) ?_
  refine zai rfl rfl rfl rfl (fun hg9=>?_) (fun hg9=>?_)
  ·replace hg9:_=true:=hg9
   try rw [hg9]
   refine gQ (zab zh9 rfl) ?_
   refine zai rfl rfl rfl rfl (fun _=>?_) (fun h=>absurd h (by decide))
   refine gQ (zah 0 tf3 rfl rfl rfl) ?_
   refine zai rfl rfl rfl rfl (fun _=>?_) (fun h=>absurd h (by decide))
   refine gQ (zbL rfl rfl) ?_
   refine gQ (za5 rfl rfl rfl) ?_
   refine gQ (zaf rfl) ?_
   refine zai rfl rfl rfl rfl (fun hg14=>?_) (fun hg14=>?_)
   ·replace hg14:_=false:=hg14
    try rw [hg14]
    refine gQ (zab zhc rfl) ?_
    refine zai rfl rfl rfl rfl (fun _=>?_) (fun h=>absurd h (by decide))
    refine gQ (zah 0 tf3 rfl rfl rfl) ?_
    refine zai rfl rfl rfl rfl (fun _=>?_) (fun h=>absurd h (by decide))
    refine gQ (zaI rfl (zaF _ _ _)) ?_
    refine zai rfl rfl rfl rfl (fun _=>?_) (fun h=>absurd h (by decide))
    refine gQ (zab zh9 rfl) ?_
    refine zai rfl rfl rfl rfl (fun _=>?_) (fun h=>absurd h (by decide))
    refine gQ (zah 0 tf3 rfl rfl rfl) ?_
    refine zai rfl rfl rfl rfl (fun _=>?_) (fun h=>absurd h (by decide))
    refine gQ (zaI rfl (zaF _ _ _)) ?_
    refine zai rfl rfl rfl rfl (fun _=>?_) (fun h=>absurd h (by decide))
    refine zaG rfl rfl (zaD rfl (zlS _ _ _ _ _ _) zbM rfl) fun b21=>?_
    refine zai rfl rfl rfl rfl (fun _=>?_) (fun h=>absurd h (by decide))
    refine gQ (zaJ en53 rfl (fun w hw=>zfT _ _ ([(⟨s.every,1,100000⟩:Lim),(⟨s.at_,0,3000⟩:Lim)]) w (zam zbM (hw.has (p:=0) rfl)) (by simp [zaP]))) ?_
    refine gQ (za5 rfl rfl rfl) ?_
    refine gQ (zad rfl) ?_
    refine zag (zae (T':=[(1,_),(2,_),(3,_)]) ⟨rfl,rfl,rfl,trivial⟩ ?_)
    refine zaK 0 rfl ?_
    exact zb9 () ⟨rfl,rfl,(by refine congrArg (fun b=>some (Value.bool b)) ?_; first | exact ziM hg9 hg14 | exact ziN hg14 | exact ziO hg9),trivial⟩ rfl trivial
   ·replace hg14:_=true:=hg14
    try rw [hg14]
    refine zai rfl rfl rfl rfl (fun h=>absurd h (by decide)) (fun _=>?_)
    refine zai rfl rfl rfl rfl (fun h=>absurd h (by decide)) (fun _=>?_)
    refine zai rfl rfl rfl rfl (fun h=>absurd h (by decide)) (fun _=>?_)
    refine zai rfl rfl rfl rfl (fun h=>absurd h (by decide)) (fun _=>?_)
    refine zai rfl rfl rfl rfl (fun h=>absurd h (by decide)) (fun _=>?_)
    refine zai rfl rfl rfl rfl (fun h=>absurd h (by decide)) (fun _=>?_)
    refine zai rfl rfl rfl rfl (fun h=>absurd h (by decide)) (fun _=>?_)
    refine gQ (za5 rfl rfl rfl) ?_
    refine gQ (zad rfl) ?_
    refine zag (zae (T':=[(1,_),(2,_),(3,_)]) ⟨rfl,rfl,rfl,trivial⟩ ?_)
    exact zb9 () ⟨rfl,rfl,(by refine congrArg (fun b=>some (Value.bool b)) ?_; first | exact ziM hg9 hg14 | exact ziN hg14 | exact ziO hg9),trivial⟩ rfl trivial
  ·replace hg9:_=false:=hg9
   try rw [hg9]
   refine zai rfl rfl rfl rfl (fun h=>absurd h (by decide)) (fun _=>?_)
   refine zai rfl rfl rfl rfl (fun h=>absurd h (by decide)) (fun _=>?_)
   refine gQ (za5 rfl rfl rfl) ?_
   refine gQ (zaf rfl) ?_
   refine zai rfl rfl rfl rfl (fun _=>?_) (fun h=>absurd h (by decide))
   refine gQ (zab zhc rfl) ?_
   refine zai rfl rfl rfl rfl (fun _=>?_) (fun h=>absurd h (by decide))
   refine gQ (zah 0 tf3 rfl rfl rfl) ?_
   refine zai rfl rfl rfl rfl (fun _=>?_) (fun h=>absurd h (by decide))
   refine gQ (zaI rfl (zaF _ _ _)) ?_
   refine zai rfl rfl rfl rfl (fun _=>?_) (fun h=>absurd h (by decide))
   refine gQ (zab zh9 rfl) ?_
   refine zai rfl rfl rfl rfl (fun _=>?_) (fun h=>absurd h (by decide))
   refine gQ (zah 0 tf3 rfl rfl rfl) ?_
   refine zai rfl rfl rfl rfl (fun _=>?_) (fun h=>absurd h (by decide))
   refine gQ (zaI rfl (zaF _ _ _)) ?_
   refine zai rfl rfl rfl rfl (fun _=>?_) (fun h=>absurd h (by decide))
   refine zaG rfl rfl (zaD rfl (zlS _ _ _ _ _ _) zbM rfl) fun b21=>?_
   refine zai rfl rfl rfl rfl (fun _=>?_) (fun h=>absurd h (by decide))
   refine gQ (zaJ en53 rfl (fun w hw=>zfT _ _ ([(⟨s.every,1,100000⟩:Lim),(⟨s.at_,0,3000⟩:Lim)]) w (zam zbM (hw.has (p:=0) rfl)) (by simp [zaP]))) ?_
   refine gQ (za5 rfl rfl rfl) ?_
   refine gQ (zad rfl) ?_
   refine zag (zae (T':=[(1,_),(2,_),(3,_)]) ⟨rfl,rfl,rfl,trivial⟩ ?_)
   refine zaK 0 rfl ?_
   exact zb9 () ⟨rfl,rfl,(by refine congrArg (fun b=>some (Value.bool b)) ?_; first | exact ziM hg9 hg14 | exact ziN hg14 | exact ziO hg9),trivial⟩ rfl trivial
 ·rintro _ hJ
  refine zac ?_
  refine zaa ?_
  refine gQ (zab znc rfl) ?_
  refine gQ (zah 0 tf3 rfl rfl rfl) ?_
  refine gQ (zaI rfl (zaF _ _ _)) ?_
  refine gQ (zab zpv rfl) ?_
  refine gQ (zah 0 tf3 rfl rfl rfl) ?_
  refine gQ (zaI rfl (zaF _ _ _)) ?_
  refine gQ (zab zep rfl) ?_
  refine gQ (zah 0 tf3 rfl rfl rfl) ?_
  refine gQ (zaI rfl (zaF _ _ _)) ?_
  refine gQ (zab znd rfl) ?_
  refine gQ (zah 0 tf3 rfl rfl rfl) ?_
  refine gQ (zaI rfl (zaF _ _ _)) ?_
  refine gQ (zab zia rfl) ?_
  refine gQ (zah 0 tf35 rfl rfl rfl) ?_
  refine gQ (zaV (Tryz.underlying35) rfl) ?_
  refine gQ (zaI rfl (zaF _ _ _)) ?_
  refine gQ (zab zpw rfl) ?_
  refine gQ (zah 0 tf3 rfl rfl rfl) ?_
  refine gQ (zaI rfl (zaF _ _ _)) ?_
  refine gQ (zab zsK rfl) ?_
  refine gQ (zah 0 tf3 rfl rfl rfl) ?_
  refine gQ (zaI rfl (zaF _ _ _)) ?_
  refine gQ (zab zsL rfl) ?_
  refine gQ (zah 0 tf3 rfl rfl rfl) ?_
  refine gQ (zaI rfl (zaF _ _ _)) ?_
  refine gQ (zab zl8 rfl) ?_
  refine gQ (zah 0 tf3 rfl rfl rfl) ?_
  refine gQ (zaI rfl (zaF _ _ _)) ?_
  refine gQ (zab zl9 rfl) ?_
  refine gQ (zah 0 tf3 rfl rfl rfl) ?_
  refine gQ (zaI rfl (zaF _ _ _)) ?_
  refine gQ (zab zpu rfl) ?_
  refine gQ (zah 0 tf3 rfl rfl rfl) ?_
  refine gQ (zab zma rfl) ?_
  refine gQ (zah 0 tf3 rfl rfl rfl) ?_
  refine gQ (zaI rfl (zaF _ _ _)) ?_
  refine gQ (zab zma rfl) ?_
  refine gQ (zah 0 tf3 rfl rfl rfl) ?_
  refine gQ (zaI rfl (zaF _ _ _)) ?_
  refine gQ (zab zmb rfl) ?_
  refine gQ (zah 0 tf3 rfl rfl rfl) ?_
  refine gQ (zaI rfl (zaF _ _ _)) ?_
  refine zaG rfl rfl (zaD rfl (zrc _ _ _ _ _ _ _ _ _ _ _ _ _ _ _ _ _ _ _ _ _ _ _ _ _ _ _ _ _ _ _ _ _ _ _ _ _ _ _) zbM rfl) fun b66=>?_
  refine gQ (zaJ en53 rfl (fun w hw=>zfT _ _ ([(⟨s.base,1,3000⟩:Lim),(⟨s.batter,0,500⟩:Lim),(⟨s.height,1,3000⟩:Lim),(⟨s.skin,1,1500⟩:Lim),(⟨(s.heights.length:Int),1,12⟩:Lim),(⟨s.least,1,1000⟩:Lim),(⟨s.lap,0,500⟩:Lim),(⟨s.run,1,20⟩:Lim),(⟨s.footing,0,1000⟩:Lim),(⟨s.spread,0,1000⟩:Lim),(⟨s.low,0,s.high⟩:Lim),(⟨s.high,0,2000⟩:Lim),(⟨s.rood,1,100000⟩:Lim)]) w (zam zbM (hw.has (p:=0) rfl)) (by simp [zaP]))) ?_
  refine gQ (zad rfl) ?_
  refine zag (zae (T':=[(1,_),(2,_),(3,_),(4,_)]) ⟨rfl,rfl,rfl,rfl,trivial⟩ ?_)
  refine zac ?_
  refine zaa ?_
  refine gQ (zad rfl) ?_
  refine zag (zae (T':=[(1,_),(2,_),(3,_),(4,_),(5,_)]) ⟨rfl,rfl,rfl,rfl,rfl,trivial⟩ ?_)
  refine zac ?_
  refine zac ?_
  refine zaa ?_
  refine gQ (zab znb rfl) ?_
  refine gQ (zah 1 tf9 rfl rfl rfl) ?_
  refine gQ (zaJ en55 rfl (fun w hw=>zmo _ w)) ?_
  refine gQ (zbR rfl) ?_
  refine gQ (zaf rfl) ?_
  refine zai rfl rfl rfl rfl (fun hg72=>?_) (fun hg72=>?_)
  ·replace hg72:_=false:=hg72
   try rw [hg72]
   refine gQ (zaf rfl) ?_
   refine zai rfl rfl rfl rfl (fun _=>?_) (fun h=>absurd h (by decide))
   refine gQ (zbR rfl) ?_
   refine gQ (za5 rfl rfl rfl) ?_
   refine gQ (zaf rfl) ?_
   refine zai rfl rfl rfl rfl (fun hg76=>?_) (fun hg76=>?_)
   ·replace hg76:_=false:=hg76
    try rw [hg76]
    refine gQ (zaf rfl) ?_
    refine zai rfl rfl rfl rfl (fun _=>?_) (fun h=>absurd h (by decide))
    refine gQ (zbR rfl) ?_
    refine gQ (za5 rfl rfl rfl) ?_
    refine gQ (zaf rfl) ?_
    refine zai rfl rfl rfl rfl (fun hg80=>?_) (fun hg80=>?_)
    ·replace hg80:_=false:=hg80
     try rw [hg80]
     refine gQ (zab zia rfl) ?_
     refine zai rfl rfl rfl rfl (fun _=>?_) (fun h=>absurd h (by decide))
     refine gQ (zah 1 tf35 rfl rfl rfl) ?_
     refine zai rfl rfl rfl rfl (fun _=>?_) (fun h=>absurd h (by decide))
     refine gQ (zaf rfl) ?_
     refine zai rfl rfl rfl rfl (fun _=>?_) (fun h=>absurd h (by decide))
     refine gQ (zaJ en56 rfl (fun w hw=>zhP _ _ s.heights zgP _ [] [] w (Rd.has (Has.rd hl) hw) (by assumption) (fun _=>True) (fun _ _=>trivial) en54 (fun z w _=>zjL z w))) ?_
     refine gQ (za5 rfl rfl rfl) ?_
     refine gQ (zaf rfl) ?_
     refine zai rfl rfl rfl rfl (fun hg86=>?_) (fun hg86=>?_)
     ·replace hg86:_=false:=hg86
      try rw [hg86]
      refine gQ (zat 1 tf41 rfl rfl (vs:=[_,_,_,_,_,_,_,_,_,_,_,_,_,_,_,_,_,_,_,_]) rfl rfl) ?_
      refine zai rfl rfl rfl rfl (fun _=>?_) (fun h=>absurd h (by decide))
      refine gQ (zaJ en57 rfl (fun w hw=>ztv a cap s w)) ?_
      refine zai rfl rfl rfl rfl (fun _=>?_) (fun h=>absurd h (by decide))
      refine gQ (zbR rfl) ?_
      refine gQ (za5 rfl rfl rfl) ?_
      refine gQ (zaf rfl) ?_
      refine zai rfl rfl rfl rfl (fun hg91=>?_) (fun hg91=>?_)
      ·replace hg91:_=false:=hg91
       try rw [hg91]
       refine gQ (zat 1 tf41 rfl rfl (vs:=[_,_,_,_,_,_,_,_,_,_,_,_,_,_,_,_,_,_,_,_]) rfl rfl) ?_
       refine zai rfl rfl rfl rfl (fun _=>?_) (fun h=>absurd h (by decide))
       refine gQ (zab zep rfl) ?_
       refine zai rfl rfl rfl rfl (fun _=>?_) (fun h=>absurd h (by decide))
       refine gQ (zah 1 tf3 rfl rfl rfl) ?_
       refine zai rfl rfl rfl rfl (fun _=>?_) (fun h=>absurd h (by decide))
       refine gQ (zaJ en50 rfl (fun w hw=>zkA a cap s _ w)) ?_
       refine zai rfl rfl rfl rfl (fun _=>?_) (fun h=>absurd h (by decide))
       refine gQ (zbw rfl rfl) ?_
       refine gQ (za5 rfl rfl rfl) ?_
       refine gQ (zaf rfl) ?_
       refine zai rfl rfl rfl rfl (fun hg98=>?_) (fun hg98=>?_)
       ·replace hg98:_=false:=hg98
        try rw [hg98]
        refine gQ (zat 1 tf41 rfl rfl (vs:=[_,_,_,_,_,_,_,_,_,_,_,_,_,_,_,_,_,_,_,_]) rfl rfl) ?_
        refine zai rfl rfl rfl rfl (fun _=>?_) (fun h=>absurd h (by decide))
        refine zaG rfl rfl (zbm en49 rfl (fun w hw=>ze3 a cap s w (Rd.has (Has.rd hl) hw) (zgZ (zjE hg72 hg76 hg80 hg86 hg91)))) fun p100=>?_
        refine zai rfl rfl rfl rfl (fun _=>?_) (fun h=>absurd h (by decide))
        refine gQ (zaV (Tryz.underlying38) rfl) ?_
        refine zai rfl rfl rfl rfl (fun _=>?_) (fun h=>absurd h (by decide))
        refine gQ (zc6 rfl rfl) ?_
        refine gQ (za5 rfl rfl rfl) ?_
        refine zag (zae (T':=[(2,_),(103,_)]) ⟨rfl,rfl,trivial⟩ ?_)
        refine zap rfl (fun hc103=>?_) (fun hc103=>?_)
        ·simp only [decide_eq_true_eq] at hc103
         refine zac ?_
         refine zaa ?_
         refine gQ (zad rfl) ?_
         refine zag (zae (T':=[(2,_)]) ⟨rfl,trivial⟩ ?_)
         refine zaw ?_
         refine zay (zaC rfl (zau rfl)) ?_
         rw [zhM (zjE hg72 hg76 hg80 hg86 hg91) (of_decide_eq_false hg98),if_pos (by omega)]
        ·simp only [decide_eq_false_iff_not] at hc103
         refine zaq ?_
         refine zac ?_
         refine zaa ?_
         refine gQ (zad rfl) ?_
         refine zag (zae (T':=[(2,_)]) ⟨rfl,trivial⟩ ?_)
         refine zaw ?_
         refine zay (zaC rfl (zau rfl)) ?_
         rw [zhM (zjE hg72 hg76 hg80 hg86 hg91) (of_decide_eq_false hg98),if_neg (by omega)]
       ·replace hg98:_=true:=hg98
        try rw [hg98]
        refine zai rfl rfl rfl rfl (fun h=>absurd h (by decide)) (fun _=>?_)
        refine zai rfl rfl rfl rfl (fun h=>absurd h (by decide)) (fun _=>?_)
        refine zai rfl rfl rfl rfl (fun h=>absurd h (by decide)) (fun _=>?_)
        refine gQ (za5 rfl rfl rfl) ?_
        refine zag (zae (T':=[(2,_),(103,_)]) ⟨rfl,rfl,trivial⟩ ?_)
        refine zdg rfl ?_
        refine zac ?_
        refine zaa ?_
        refine gQ (zad rfl) ?_
        refine zag (zae (T':=[(2,_)]) ⟨rfl,trivial⟩ ?_)
        refine zaw ?_
        refine zay (zaC rfl (zau rfl)) ?_
        rw [zo4 (zjE hg72 hg76 hg80 hg86 hg91) (of_decide_eq_true hg98)]
      ·replace hg91:_=true:=hg91
       try rw [hg91]
       refine zai rfl rfl rfl rfl (fun h=>absurd h (by decide)) (fun _=>?_)
       refine zai rfl rfl rfl rfl (fun h=>absurd h (by decide)) (fun _=>?_)
       refine zai rfl rfl rfl rfl (fun h=>absurd h (by decide)) (fun _=>?_)
       refine zai rfl rfl rfl rfl (fun h=>absurd h (by decide)) (fun _=>?_)
       refine gQ (za5 rfl rfl rfl) ?_
       refine gQ (zaf rfl) ?_
       refine zai rfl rfl rfl rfl (fun h=>absurd h (by decide)) (fun _=>?_)
       refine zai rfl rfl rfl rfl (fun h=>absurd h (by decide)) (fun _=>?_)
       refine zai rfl rfl rfl rfl (fun h=>absurd h (by decide)) (fun _=>?_)
       refine zai rfl rfl rfl rfl (fun h=>absurd h (by decide)) (fun _=>?_)
       refine gQ (za5 rfl rfl rfl) ?_
       refine zag (zae (T':=[(2,_),(103,_)]) ⟨rfl,rfl,trivial⟩ ?_)
       refine zdg rfl ?_
       refine zac ?_
       refine zaa ?_
       refine gQ (zad rfl) ?_
       refine zag (zae (T':=[(2,_)]) ⟨rfl,trivial⟩ ?_)
       refine zaw ?_
       refine zay (zaC rfl (zau rfl)) ?_
       rw [zeX (zu8 hg91)]
     ·replace hg86:_=true:=hg86
      try rw [hg86]
      refine zai rfl rfl rfl rfl (fun h=>absurd h (by decide)) (fun _=>?_)
      refine zai rfl rfl rfl rfl (fun h=>absurd h (by decide)) (fun _=>?_)
      refine gQ (za5 rfl rfl rfl) ?_
      refine gQ (zaf rfl) ?_
      refine zai rfl rfl rfl rfl (fun h=>absurd h (by decide)) (fun _=>?_)
      refine zai rfl rfl rfl rfl (fun h=>absurd h (by decide)) (fun _=>?_)
      refine zai rfl rfl rfl rfl (fun h=>absurd h (by decide)) (fun _=>?_)
      refine zai rfl rfl rfl rfl (fun h=>absurd h (by decide)) (fun _=>?_)
      refine zai rfl rfl rfl rfl (fun h=>absurd h (by decide)) (fun _=>?_)
      refine gQ (za5 rfl rfl rfl) ?_
      refine gQ (zaf rfl) ?_
      refine zai rfl rfl rfl rfl (fun h=>absurd h (by decide)) (fun _=>?_)
      refine zai rfl rfl rfl rfl (fun h=>absurd h (by decide)) (fun _=>?_)
      refine zai rfl rfl rfl rfl (fun h=>absurd h (by decide)) (fun _=>?_)
      refine zai rfl rfl rfl rfl (fun h=>absurd h (by decide)) (fun _=>?_)
      refine gQ (za5 rfl rfl rfl) ?_
      refine zag (zae (T':=[(2,_),(103,_)]) ⟨rfl,rfl,trivial⟩ ?_)
      refine zdg rfl ?_
      refine zac ?_
      refine zaa ?_
      refine gQ (zad rfl) ?_
      refine zag (zae (T':=[(2,_)]) ⟨rfl,trivial⟩ ?_)
      refine zaw ?_
      refine zay (zaC rfl (zau rfl)) ?_
      rw [zeX (zu7 hg86)]
    ·replace hg80:_=true:=hg80
     try rw [hg80]
     refine zai rfl rfl rfl rfl (fun h=>absurd h (by decide)) (fun _=>?_)
     refine zai rfl rfl rfl rfl (fun h=>absurd h (by decide)) (fun _=>?_)
     refine zai rfl rfl rfl rfl (fun h=>absurd h (by decide)) (fun _=>?_)
     refine gQ (za5 rfl rfl rfl) ?_
     refine gQ (zaf rfl) ?_
     refine zai rfl rfl rfl rfl (fun h=>absurd h (by decide)) (fun _=>?_)
     refine zai rfl rfl rfl rfl (fun h=>absurd h (by decide)) (fun _=>?_)
     refine zai rfl rfl rfl rfl (fun h=>absurd h (by decide)) (fun _=>?_)
     refine gQ (za5 rfl rfl rfl) ?_
     refine gQ (zaf rfl) ?_
     refine zai rfl rfl rfl rfl (fun h=>absurd h (by decide)) (fun _=>?_)
     refine zai rfl rfl rfl rfl (fun h=>absurd h (by decide)) (fun _=>?_)
     refine zai rfl rfl rfl rfl (fun h=>absurd h (by decide)) (fun _=>?_)
     refine zai rfl rfl rfl rfl (fun h=>absurd h (by decide)) (fun _=>?_)
     refine zai rfl rfl rfl rfl (fun h=>absurd h (by decide)) (fun _=>?_)
     refine gQ (za5 rfl rfl rfl) ?_
     refine gQ (zaf rfl) ?_
     refine zai rfl rfl rfl rfl (fun h=>absurd h (by decide)) (fun _=>?_)
     refine zai rfl rfl rfl rfl (fun h=>absurd h (by decide)) (fun _=>?_)
     refine zai rfl rfl rfl rfl (fun h=>absurd h (by decide)) (fun _=>?_)
     refine zai rfl rfl rfl rfl (fun h=>absurd h (by decide)) (fun _=>?_)
     refine gQ (za5 rfl rfl rfl) ?_
     refine zag (zae (T':=[(2,_),(103,_)]) ⟨rfl,rfl,trivial⟩ ?_)
     refine zdg rfl ?_
     refine zac ?_
     refine zaa ?_
     refine gQ (zad rfl) ?_
     refine zag (zae (T':=[(2,_)]) ⟨rfl,trivial⟩ ?_)
     refine zaw ?_
     refine zay (zaC rfl (zau rfl)) ?_
     rw [zeX (zu6 hg80)]
   ·replace hg76:_=true:=hg76
    try rw [hg76]
    refine zai rfl rfl rfl rfl (fun h=>absurd h (by decide)) (fun _=>?_)
    refine gQ (za5 rfl rfl rfl) ?_
    refine gQ (zaf rfl) ?_
    refine zai rfl rfl rfl rfl (fun h=>absurd h (by decide)) (fun _=>?_)
    refine zai rfl rfl rfl rfl (fun h=>absurd h (by decide)) (fun _=>?_)
    refine zai rfl rfl rfl rfl (fun h=>absurd h (by decide)) (fun _=>?_)
    refine zai rfl rfl rfl rfl (fun h=>absurd h (by decide)) (fun _=>?_)
    refine gQ (za5 rfl rfl rfl) ?_
    refine gQ (zaf rfl) ?_
    refine zai rfl rfl rfl rfl (fun h=>absurd h (by decide)) (fun _=>?_)
    refine zai rfl rfl rfl rfl (fun h=>absurd h (by decide)) (fun _=>?_)
    refine zai rfl rfl rfl rfl (fun h=>absurd h (by decide)) (fun _=>?_)
    refine gQ (za5 rfl rfl rfl) ?_
    refine gQ (zaf rfl) ?_
    refine zai rfl rfl rfl rfl (fun h=>absurd h (by decide)) (fun _=>?_)
    refine zai rfl rfl rfl rfl (fun h=>absurd h (by decide)) (fun _=>?_)
    refine zai rfl rfl rfl rfl (fun h=>absurd h (by decide)) (fun _=>?_)
    refine zai rfl rfl rfl rfl (fun h=>absurd h (by decide)) (fun _=>?_)
    refine zai rfl rfl rfl rfl (fun h=>absurd h (by decide)) (fun _=>?_)
    refine gQ (za5 rfl rfl rfl) ?_
    refine gQ (zaf rfl) ?_
    refine zai rfl rfl rfl rfl (fun h=>absurd h (by decide)) (fun _=>?_)
    refine zai rfl rfl rfl rfl (fun h=>absurd h (by decide)) (fun _=>?_)
    refine zai rfl rfl rfl rfl (fun h=>absurd h (by decide)) (fun _=>?_)
    refine zai rfl rfl rfl rfl (fun h=>absurd h (by decide)) (fun _=>?_)
    refine gQ (za5 rfl rfl rfl) ?_
    refine zag (zae (T':=[(2,_),(103,_)]) ⟨rfl,rfl,trivial⟩ ?_)
    refine zdg rfl ?_
    refine zac ?_
    refine zaa ?_
    refine gQ (zad rfl) ?_
    refine zag (zae (T':=[(2,_)]) ⟨rfl,trivial⟩ ?_)
    refine zaw ?_
    refine zay (zaC rfl (zau rfl)) ?_
    rw [zeX (zu5 hg76)]
  ·replace hg72:_=true:=hg72
   try rw [hg72]
   refine zai rfl rfl rfl rfl (fun h=>absurd h (by decide)) (fun _=>?_)
   refine gQ (za5 rfl rfl rfl) ?_
   refine gQ (zaf rfl) ?_
   refine zai rfl rfl rfl rfl (fun h=>absurd h (by decide)) (fun _=>?_)
   refine zai rfl rfl rfl rfl (fun h=>absurd h (by decide)) (fun _=>?_)
   refine gQ (za5 rfl rfl rfl) ?_
   refine gQ (zaf rfl) ?_
   refine zai rfl rfl rfl rfl (fun h=>absurd h (by decide)) (fun _=>?_)
   refine zai rfl rfl rfl rfl (fun h=>absurd h (by decide)) (fun _=>?_)
   refine zai rfl rfl rfl rfl (fun h=>absurd h (by decide)) (fun _=>?_)
   refine zai rfl rfl rfl rfl (fun h=>absurd h (by decide)) (fun _=>?_)
   refine gQ (za5 rfl rfl rfl) ?_
   refine gQ (zaf rfl) ?_
   refine zai rfl rfl rfl rfl (fun h=>absurd h (by decide)) (fun _=>?_)
   refine zai rfl rfl rfl rfl (fun h=>absurd h (by decide)) (fun _=>?_)
   refine zai rfl rfl rfl rfl (fun h=>absurd h (by decide)) (fun _=>?_)
   refine gQ (za5 rfl rfl rfl) ?_
   refine gQ (zaf rfl) ?_
   refine zai rfl rfl rfl rfl (fun h=>absurd h (by decide)) (fun _=>?_)
   refine zai rfl rfl rfl rfl (fun h=>absurd h (by decide)) (fun _=>?_)
   refine zai rfl rfl rfl rfl (fun h=>absurd h (by decide)) (fun _=>?_)
   refine zai rfl rfl rfl rfl (fun h=>absurd h (by decide)) (fun _=>?_)
   refine zai rfl rfl rfl rfl (fun h=>absurd h (by decide)) (fun _=>?_)
   refine gQ (za5 rfl rfl rfl) ?_
   refine gQ (zaf rfl) ?_
   refine zai rfl rfl rfl rfl (fun h=>absurd h (by decide)) (fun _=>?_)
   refine zai rfl rfl rfl rfl (fun h=>absurd h (by decide)) (fun _=>?_)
   refine zai rfl rfl rfl rfl (fun h=>absurd h (by decide)) (fun _=>?_)
   refine zai rfl rfl rfl rfl (fun h=>absurd h (by decide)) (fun _=>?_)
   refine gQ (za5 rfl rfl rfl) ?_
   refine zag (zae (T':=[(2,_),(103,_)]) ⟨rfl,rfl,trivial⟩ ?_)
   refine zdg rfl ?_
   refine zac ?_
   refine zaa ?_
   refine gQ (zad rfl) ?_
   refine zag (zae (T':=[(2,_)]) ⟨rfl,trivial⟩ ?_)
   refine zaw ?_
   refine zay (zaC rfl (zau rfl)) ?_
   rw [zeX (zu4 hg72)]
theorem zda {s:Sht}:zcX s=0↔za4 s=true:=by
 unfold zcX
 cases za4 s <;> simp
theorem zkH {s:Sht} (h:¬ zcX s=0):za4 s=false∧zcX s=2:=by
 have h2:¬ za4 s=true:=fun x=>h (zda.2 x)
 exact⟨by simpa using h2,if_neg h2⟩
def zfC (s:Sht):List Crs:=if za4 s=true then zaj s else []
def zlL (s:Sht) (z:Int):Int:=if za4 s=true∧0≤z∧z≤s.height then zb5 s z else 0
def zlK (s:Sht) (z:Int):Int:=if za4 s=true then(if 0≤z∧z≤s.height then 0 else 3) else 2
set_option maxRecDepth 100000 in
set_option maxHeartbeats 1000000 in
theorem zoM (a:Option Addr) (cap:Nat) (s:Sht) (w:World) (hl:Has w (Ints a s.heights)) (hs:zaP s.heights.length) :
  Calls Tryz.prog 17 #[.agg #[.string s.name,.int .i64 s.base,.int .i64 s.batter,.int .i64 s.height,.int .i64 s.skin,.slice a s.heights.length cap,.int .i64 s.least,.int .i64 s.lap,.int .i64 s.run,.int .i64 s.every,.int .i64 s.at_,.int .i64 s.footing,.int .i64 s.spread,.int .u8 s.cope,.int .i64 s.tall,.int .i64 s.short,.int .i64 s.thick,.int .i64 s.low,.int .i64 s.high,.int .i64 s.rood]] w (zcU (fun z:Option Addr×Nat=>.tuple #[.slice z.1 (zfC s).length z.2,.int .i64 (zcX s)]) (fun z=>Row z.1 2 z.2 49 zbq (zfC s)) w):=by
 refine zan (vs:=[_]) Tryz.func17 rfl rfl (Nat.le_of_ble_eq_true rfl) ?_
 refine zac ?_
 refine zaa ?_
 refine zaG rfl rfl (za3 (vs:=[_,_,_,_,_,_,_,_,_,_,_,_,_,_,_,_,_,_,_,_]) rfl rfl) fun b1=>?_
 refine gQ (zad rfl) ?_
 refine gQ (zad rfl) ?_
 refine zag (zae (T':=[(1,_),(2,_),(3,_)]) ⟨rfl,rfl,rfl,trivial⟩ ?_)
 refine zac ?_
 refine zac ?_
 refine zaa ?_
 refine gQ (zat 0 tf41 rfl rfl (vs:=[_,_,_,_,_,_,_,_,_,_,_,_,_,_,_,_,_,_,_,_]) rfl rfl) ?_
 refine gQ (zaJ en20 rfl (fun w hw=>zd4 a cap s w (Rd.has (Has.rd hl) hw) (by assumption))) ?_
 refine gQ (zad rfl) ?_
 refine zag (zae (T':=[(1,_),(2,_),(3,_),(4,_)]) ⟨rfl,rfl,rfl,rfl,trivial⟩ ?_)
 refine zac ?_
 refine zaa ?_
 refine gQ (zaf rfl) ?_
 refine gQ (zcr rfl rfl) ?_
 refine zag (zae (T':=[(1,_),(2,_),(3,_),(4,_),(8,_)]) ⟨rfl,rfl,rfl,rfl,rfl,trivial⟩ ?_)
 refine zap rfl (fun hc8=>?_) (fun hc8=>?_)
 ·have hE:=(zkH (show ¬ zcX s=0 by simpa using hc8)).1
  have hcs:zfC s=[]:=if_neg (by rw [hE]; exact Bool.false_ne_true)
  refine zbB 49 zbq 2 ?_
  refine zac ?_
  refine zaa ?_
  refine gQ (zaf rfl) ?_
  refine gQ (zad rfl) ?_
  refine gQ (zad rfl) ?_
  refine zag (zae (T':=[(1,_),(2,_),(3,_)]) ⟨rfl,rfl,rfl,trivial⟩ ?_)
  refine zaw ?_
  refine zbd (none,0) 0 (zc2 rfl (zau rfl) (zau rfl)) ?_ (by rw [hcs]; rfl)
  rw [hcs]; rfl
 ·have hok:za4 s=true:=zda.1 (by simpa using hc8)
  have hcs:zfC s=zaj s:=if_pos hok
  refine zaq ?_
  refine zac ?_
  refine zaa ?_
  refine gQ (zat 0 tf41 rfl rfl (vs:=[_,_,_,_,_,_,_,_,_,_,_,_,_,_,_,_,_,_,_,_]) rfl rfl) ?_
  refine zaG rfl rfl (zbm en49 rfl (fun w hw=>ze3 a cap s w (Rd.has (Has.rd hl) hw) (zaZ hok))) fun p11=>?_
  refine gQ (zad rfl) ?_
  refine gQ (zad rfl) ?_
  refine zag (zae (T':=[(2,_),(3,_)]) ⟨rfl,rfl,trivial⟩ ?_)
  refine zaw ?_
  refine zbd (p11.1,p11.2) 0 (zc2 rfl (zau rfl) (zau rfl)) ?_ (by rw [hcs]; rfl)
  rw [hcs,zda.2 hok]
set_option maxRecDepth 100000 in
set_option maxHeartbeats 1000000 in
theorem ztc (a:Option Addr) (cap:Nat) (s:Sht) (z:Int) (w:World) (hl:Has w (Ints a s.heights)) (hs:zaP s.heights.length) :
  Calls Tryz.prog 18 #[.agg #[.string s.name,.int .i64 s.base,.int .i64 s.batter,.int .i64 s.height,.int .i64 s.skin,.slice a s.heights.length cap,.int .i64 s.least,.int .i64 s.lap,.int .i64 s.run,.int .i64 s.every,.int .i64 s.at_,.int .i64 s.footing,.int .i64 s.spread,.int .u8 s.cope,.int .i64 s.tall,.int .i64 s.short,.int .i64 s.thick,.int .i64 s.low,.int .i64 s.high,.int .i64 s.rood],.int .i64 z] w (Pure (.tuple #[.int .i64 (zlL s z),.int .i64 (zlK s z)]) w):=by
 refine zan (vs:=[_,_]) Tryz.func18 rfl rfl (Nat.le_of_ble_eq_true rfl) ?_
 refine zac ?_
 refine zaa ?_
 refine zaG rfl rfl (za3 (vs:=[_,_,_,_,_,_,_,_,_,_,_,_,_,_,_,_,_,_,_,_]) rfl rfl) fun b2=>?_
 refine gQ (zad rfl) ?_
 refine gQ (zad rfl) ?_
 refine zag (zae (T':=[(1,_),(2,_),(4,_),(5,_)]) ⟨rfl,rfl,rfl,rfl,trivial⟩ ?_)
 refine zac ?_
 refine zac ?_
 refine zaa ?_
 refine gQ (zat 0 tf41 rfl rfl (vs:=[_,_,_,_,_,_,_,_,_,_,_,_,_,_,_,_,_,_,_,_]) rfl rfl) ?_
 refine gQ (zaJ en20 rfl (fun w hw=>zd4 a cap s w (Rd.has (Has.rd hl) hw) (by assumption))) ?_
 refine gQ (zad rfl) ?_
 refine zag (zae (T':=[(1,_),(2,_),(4,_),(5,_),(6,_)]) ⟨rfl,rfl,rfl,rfl,rfl,trivial⟩ ?_)
 refine zac ?_
 refine zaa ?_
 refine gQ (zaf rfl) ?_
 refine gQ (zcr rfl rfl) ?_
 refine zag (zae (T':=[(1,_),(2,_),(4,_),(5,_),(6,_),(10,_)]) ⟨rfl,rfl,rfl,rfl,rfl,rfl,trivial⟩ ?_)
 refine zap rfl (fun hc10=>?_) (fun hc10=>?_)
 ·have hE:=zkH (show ¬ zcX s=0 by simpa using hc10)
  have hno:¬ za4 s=true:=by rw [hE.1]; exact Bool.false_ne_true
  refine zac ?_
  refine zaa ?_
  refine gQ (zaf rfl) ?_
  refine gQ (zad rfl) ?_
  refine gQ (zad rfl) ?_
  refine zag (zae (T':=[(1,_),(2,_),(4,_),(5,_)]) ⟨rfl,rfl,rfl,rfl,trivial⟩ ?_)
  refine zaw ?_
  refine zay (zc2 rfl (zau rfl) (zau rfl)) ?_
  rw [zlL,zlK,if_neg (fun h=>hno h.1),if_neg hno,hE.2]
 ·have hok:za4 s=true:=zda.1 (by simpa using hc10)
  have hn:=zaZ hok
  have hnh:=hn.height
  refine zaq ?_
  refine zac ?_
  refine zac ?_
  refine zbb 8 (fun _=>mixed) (by kernel_rfl) ?_
  refine ph_y (zaf rfl) ?_
  refine ph_y (zbw rfl rfl) ?_
  refine ph_y (zaf rfl) ?_
  refine zaz rfl rfl (fun hgd=>by(try rw [hgd]); exact(zaf rfl)) ?_
  refine zaz rfl rfl (fun hgd=>by(try rw [hgd]); exact(zab zep rfl)) ?_
  refine zaz rfl rfl (fun hgd=>by(try rw [hgd]); exact(zah 0 tf3 rfl rfl rfl)) ?_
  refine zaz rfl rfl (fun hgd=>by(try rw [hgd]); exact(zc6 rfl rfl)) ?_
  refine ph_y (zaR rfl rfl rfl) ?_
  refine zag (zae (T':=[(1,_),(2,_),(4,_),(5,_),(19,_)]) ⟨rfl,rfl,rfl,rfl,rfl,trivial⟩ ?_)
  refine zap rfl (fun hc19=>?_) (fun hc19=>?_)
  ·simp only [Bool.or_eq_true,decide_eq_true_eq] at hc19
   refine zac ?_
   refine zaa ?_
   refine gQ (zad rfl) ?_
   refine gQ (zad rfl) ?_
   refine zag (zae (T':=[(1,_),(2,_),(4,_),(5,_)]) ⟨rfl,rfl,rfl,rfl,trivial⟩ ?_)
   refine zaw ?_
   refine zay (zc2 rfl (zau rfl) (zau rfl)) ?_
   rw [zlL,zlK,if_neg (by omega),if_pos hok,if_neg (by omega)]
  ·simp only [Bool.or_eq_false_iff,decide_eq_false_iff_not] at hc19
   refine zaq ?_
   refine zac ?_
   refine zaa ?_
   refine gQ (zat 0 tf41 rfl rfl (vs:=[_,_,_,_,_,_,_,_,_,_,_,_,_,_,_,_,_,_,_,_]) rfl rfl) ?_
   refine gQ (zaf rfl) ?_
   refine gQ (zaJ en50 rfl (fun w hw=>zkA a cap s _ w)) ?_
   refine gQ (zad rfl) ?_
   refine gQ (zad rfl) ?_
   refine zag (zae (T':=[(4,_),(5,_)]) ⟨rfl,rfl,trivial⟩ ?_)
   refine zaw ?_
   refine zay (zc2 rfl (zau rfl) (zau rfl)) ?_
   rw [zlL,zlK,if_pos ⟨hok,by omega,by omega⟩,if_pos hok,if_pos (by omega),zfM hn.batter hn.base (by omega) (by omega)]
set_option maxRecDepth 100000 in
set_option maxHeartbeats 2000000 in
theorem zg2 (a:Option Addr) (cap:Nat) (s:Sht) (w:World) (hl:Has w (Ints a s.heights)) (hn:Nums s) :
  Calls Tryz.prog 21 #[.agg #[.string s.name,.int .i64 s.base,.int .i64 s.batter,.int .i64 s.height,.int .i64 s.skin,.slice a s.heights.length cap,.int .i64 s.least,.int .i64 s.lap,.int .i64 s.run,.int .i64 s.every,.int .i64 s.at_,.int .i64 s.footing,.int .i64 s.spread,.int .u8 s.cope,.int .i64 s.tall,.int .i64 s.short,.int .i64 s.thick,.int .i64 s.low,.int .i64 s.high,.int .i64 s.rood]] w (zcU (fun z:Option Addr×Nat=>.slice z.1 (zaj s).length z.2) (fun z=>Row z.1 2 z.2 50 zbq (zaj s)) w):=by
 refine zan (vs:=[_]) Tryz.func21 rfl rfl (Nat.le_of_ble_eq_true rfl) ?_
 refine zac ?_
 refine zaa ?_
 refine zaG rfl rfl (za3 (vs:=[_,_,_,_,_,_,_,_,_,_,_,_,_,_,_,_,_,_,_,_]) rfl rfl) fun b1=>?_
 refine gQ (zad rfl) ?_
 refine zag (zae (T':=[(1,_),(2,_)]) ⟨rfl,rfl,trivial⟩ ?_)
 refine zac ?_
 refine zaa ?_
 refine gQ (zad rfl) ?_
 refine zag (zae (T':=[(1,_),(2,_),(3,_)]) ⟨rfl,rfl,rfl,trivial⟩ ?_)
 refine zac ?_
 refine zaa ?_
 refine gQ (zad rfl) ?_
 refine gQ (zad rfl) ?_
 refine zag (zae (T':=[(1,_),(2,_),(3,_),(4,_),(5,_)]) ⟨rfl,rfl,rfl,rfl,rfl,trivial⟩ ?_)
 refine zac ?_
 refine zas ?_
 refine zbB 50 zbq 2 ?_
 refine zbf (X:=Nat×Int×Int×Option Addr×Nat×List Crs) (fun⟨n,z,i,b,bc,L⟩=>[(1,.pointer (some ⟨b1,0,none⟩)),(2,.slice none 0 0),(3,.slice b L.length bc),(4,.int .i64 z),(5,.int .i64 i)]) (fun⟨n,z,i,b,bc,L⟩=>[Row b 2 bc 50 zbq L,Box b1 [.string s.name,.int .i64 s.base,.int .i64 s.batter,.int .i64 s.height,.int .i64 s.skin,.slice a s.heights.length cap,.int .i64 s.least,.int .i64 s.lap,.int .i64 s.run,.int .i64 s.every,.int .i64 s.at_,.int .i64 s.footing,.int .i64 s.spread,.int .u8 s.cope,.int .i64 s.tall,.int .i64 s.short,.int .i64 s.thick,.int .i64 s.low,.int .i64 s.high,.int .i64 s.rood] 37]) (fun⟨n,z,i,b,bc,L⟩=>(L=crsN s n∧z=zAt s n∧i=((min n (s.heights.length - 1):Nat):Int)∧∀ j,j < n→zc5 s j=true)) (fun⟨n,z,i,b,bc,L⟩=>3001 - n) (0,0,0,none,0,[]) ⟨rfl,rfl,rfl,rfl,rfl,trivial⟩ rfl ?_ ?_
 ·exact⟨rfl,rfl,by simp,fun j hj=>by omega⟩
 ·rintro ⟨n,z,i,b,bc,L⟩ hI
  obtain⟨gL,gz,gi,gu⟩:=hI
  have hnl:=hn.len
  have hnh:=hn.height
  have he:=zeg hn n
  have hz0:=zjC hn n
  have hz1:=zn7 (by omega) gu
  have hn3:=zjb hn gu
  have hll:L.length=n:=by rw [gL,zeC]
  have hix:s.heights.getD i.toNat default=zce s n:=by rw [gi]; rfl
  refine zac ?_
  refine zac ?_
  refine zbb 10 (fun _=>mixed) (by kernel_rfl) ?_
  refine ph_y (zaf rfl) ?_
  refine ph_y (zab zgl rfl) ?_
  refine ph_y (zah 1 tf35 rfl rfl rfl) ?_
  refine ph_y (zaf rfl) ?_
  refine ph_y (zaE se35 rfl rfl (fun _ hw=>(Rd.has (Has.rd hl) hw)) (by omega) (by omega)) ?_
  refine ph_y (zcE tf3 rfl (fun _ hw=>(Rd.has (Has.rd hl) hw)) (by omega) (by omega) rfl) ?_
  refine ph_y (zaY rfl rfl (by omega) (by omega)) ?_
  refine ph_y (zab zdC rfl) ?_
  refine ph_y (zah 1 tf3 rfl rfl rfl) ?_
  refine ph_y (zeT rfl rfl) ?_
  refine zag (zae (T':=[(1,_),(2,_),(3,_),(4,_),(5,_),(16,_)]) ⟨rfl,rfl,rfl,rfl,rfl,rfl,trivial⟩ ?_)
  refine zap rfl (fun hc16=>?_) (fun hc16=>?_)
  ·have hc16:=of_decide_eq_true hc16
   refine zaq ?_
   refine zas ?_
   refine zac ?_
   refine zaa ?_
   refine gQ (zaf rfl) ?_
   refine gQ (zaf rfl) ?_
   refine gQ (zaf rfl) ?_
   refine gQ (zab zgl rfl) ?_
   refine gQ (zah 1 tf35 rfl rfl rfl) ?_
   refine gQ (zaf rfl) ?_
   refine gQ (zaE se35 rfl rfl (fun _ hw=>(Rd.has (Has.rd hl) hw)) (by omega) (by omega)) ?_
   refine gQ (zcE tf3 rfl (fun _ hw=>(Rd.has (Has.rd hl) hw)) (by omega) (by omega) rfl) ?_
   refine gQ (zaY rfl rfl (by omega) (by omega)) ?_
   refine gQ (zaI rfl (zfy _ _)) ?_
   refine zaG rfl rfl (zaD rfl (zo1 _ _) zax rfl) fun b27=>?_
   refine zb4 (m:=[(⟨z,(z+(s.heights.getD (i).toNat default))⟩:Crs)]) 1 af46 zax rfl rfl rfl rfl (fun _ hw=>(zam zax (hw.has (p:=0) rfl))) (by first | omega | (simp only [List.length_cons,List.length_nil]; omega)) (by first | (unfold maxLen; omega) | (simp only [List.length_cons,List.length_nil,maxLen]; omega)) fun a28 c28=>?_
   refine gQ (zad rfl) ?_
   refine zag (zae (T':=[(1,_),(2,_),(3,_),(4,_),(5,_)]) ⟨rfl,rfl,rfl,rfl,rfl,trivial⟩ ?_)
   refine zac ?_
   refine zaa ?_
   refine gQ (zaf rfl) ?_
   refine gQ (zab zgl rfl) ?_
   refine gQ (zah 2 tf35 rfl rfl rfl) ?_
   refine gQ (zaf rfl) ?_
   refine gQ (zaE se35 rfl rfl (fun _ hw=>(Rd.has (Has.rd hl) hw)) (by omega) (by omega)) ?_
   refine gQ (zcE tf3 rfl (fun _ hw=>(Rd.has (Has.rd hl) hw)) (by omega) (by omega) rfl) ?_
   refine gQ (zaY rfl rfl (by omega) (by omega)) ?_
   refine gQ (zad rfl) ?_
   refine zag (zae (T':=[(1,_),(2,_),(3,_),(4,_),(5,_)]) ⟨rfl,rfl,rfl,rfl,rfl,trivial⟩ ?_)
   refine zac ?_
   refine zaa ?_
   refine gQ (zaf rfl) ?_
   refine gQ (zaY rfl rfl (by omega) (by omega)) ?_
   refine gQ (zab zgl rfl) ?_
   refine gQ (zah 2 tf35 rfl rfl rfl) ?_
   refine gQ (zaV (Tryz.underlying35) rfl) ?_
   refine gQ (zbw rfl rfl) ?_
   refine zag (zae (T':=[(1,_),(2,_),(3,_),(4,_),(5,_),(41,_)]) ⟨rfl,rfl,rfl,rfl,rfl,rfl,trivial⟩ ?_)
   refine zap rfl (fun hc41=>?_) (fun hc41=>?_)
   ·simp only [decide_eq_true_eq] at hc41
    refine zaa ?_
    refine gQ (zaf rfl) ?_
    refine gQ (zaY rfl rfl (by omega) (by omega)) ?_
    refine gQ (zad rfl) ?_
    refine zag (zae (T':=[(1,_),(2,_),(3,_),(4,_),(5,_)]) ⟨rfl,rfl,rfl,rfl,rfl,trivial⟩ ?_)
    refine zaK 0 rfl ?_
    exact za1 (n+1,_,_,_,_,_) ⟨rfl,rfl,rfl,rfl,rfl,trivial⟩ rfl ⟨by rw [gL,ze7,gz,hix]; rfl,by rw [gz,hix]; rfl,by omega,zg7 gu (ziR (by rw [←gz]; omega))⟩ (by simp only []; omega)
   ·simp only [decide_eq_false_iff_not] at hc41
    refine zaq ?_
    refine zaK 0 rfl ?_
    exact za1 (n+1,_,_,_,_,_) ⟨rfl,rfl,rfl,rfl,rfl,trivial⟩ rfl ⟨by rw [gL,ze7,gz,hix]; rfl,by rw [gz,hix]; rfl,by omega,zg7 gu (ziR (by rw [←gz]; omega))⟩ (by simp only []; omega)
  ·have hc16:=of_decide_eq_false hc16
   have hcn:=zsG hn gu (by rw [←gz]; omega)
   refine za8 rfl ?_
   refine zac ?_
   refine zaa ?_
   refine gQ (zab zdC rfl) ?_
   refine gQ (zah 1 tf3 rfl rfl rfl) ?_
   refine gQ (zaf rfl) ?_
   refine gQ (zfV rfl rfl (by omega) (by omega)) ?_
   refine gQ (zad rfl) ?_
   refine zag (zae (T':=[(1,_),(2,_),(3,_),(4,_),(6,_)]) ⟨rfl,rfl,rfl,rfl,rfl,trivial⟩ ?_)
   refine zac ?_
   refine zac ?_
   refine zbb 13 (fun _=>mixed) (by kernel_rfl) ?_
   refine ph_y (zaf rfl) ?_
   refine ph_y (zab zpt rfl) ?_
   refine ph_y (zah 1 tf3 rfl rfl rfl) ?_
   refine ph_y (zfx rfl rfl) ?_
   refine ph_y (zaf rfl) ?_
   refine zaz rfl rfl (fun hgd=>by(try rw [hgd]); exact(zaf rfl)) ?_
   refine zaz rfl rfl (fun hgd=>by(try rw [hgd]); exact(zc6 rfl rfl)) ?_
   refine zaz rfl rfl (fun hgd=>by(try rw [hgd]); exact(zaf rfl)) ?_
   refine zdr rfl rfl (fun hgd=>by(try rw [hgd]); exact(zaf rfl)) ?_
   refine zdr rfl rfl (fun hgd=>by(try rw [hgd]); exact(zaV (Tryz.underlying46) rfl)) ?_
   refine zdr rfl rfl (fun hgd=>by(try rw [hgd]); exact(zbL rfl rfl)) ?_
   refine zaz rfl rfl (fun hgd=>by(try rw [hgd]); exact(zaX rfl rfl rfl)) ?_
   refine ph_y (zaR rfl rfl rfl) ?_
   refine zag (zae (T':=[(1,_),(2,_),(3,_),(4,_),(6,_),(60,_)]) ⟨rfl,rfl,rfl,rfl,rfl,rfl,trivial⟩ ?_)
   refine zap rfl (fun hc60=>?_) (fun hc60=>?_)
   ·simp only [Bool.or_eq_true,Bool.and_eq_true,decide_eq_true_eq] at hc60
    have hle:=hn.least
    have hcs:zaj s=L++[⟨z,s.height⟩]:=by rw [ze5 hcn (by rw [←gz]; omega) (by rw [←gz]; omega),gL,gz]
    refine zaa ?_
    refine gQ (zaf rfl) ?_
    refine gQ (zaf rfl) ?_
    refine gQ (zab zdC rfl) ?_
    refine gQ (zah 1 tf3 rfl rfl rfl) ?_
    refine gQ (zaI rfl (zfy _ _)) ?_
    refine zaG rfl rfl (zaD rfl (zo1 _ _) zax rfl) fun b66=>?_
    refine zb4 (m:=[(⟨z,s.height⟩:Crs)]) 1 af46 zax rfl rfl rfl rfl (fun _ hw=>(zam zax (hw.has (p:=0) rfl))) (by first | omega | (simp only [List.length_cons,List.length_nil]; omega)) (by first | (unfold maxLen; omega) | (simp only [List.length_cons,List.length_nil,maxLen]; omega)) fun a67 c67=>?_
    refine gQ (zad rfl) ?_
    refine zag (zae (T':=[(2,_),(3,_)]) ⟨rfl,rfl,trivial⟩ ?_)
    refine zac ?_
    refine zaa ?_
    refine gQ (zaf rfl) ?_
    refine gQ (zad rfl) ?_
    refine zag (zae (T':=[(2,_)]) ⟨rfl,trivial⟩ ?_)
    refine zaw ?_
    refine zbd (a67,c67) 1 (zaC rfl (zau rfl)) ?_ (by rw [hcs]; rfl)
    first | (rw [hcs]; done) | (rw [hcs,List.length_set])
   ·simp only [Bool.or_eq_false_iff,Bool.and_eq_false_iff,decide_eq_false_iff_not] at hc60
    refine zac ?_
    refine zaa ?_
    refine gQ (zaf rfl) ?_
    refine gQ (zc6 rfl rfl) ?_
    refine zag (zae (T':=[(1,_),(2,_),(3,_),(69,_)]) ⟨rfl,rfl,rfl,rfl,trivial⟩ ?_)
    refine zap rfl (fun hc69=>?_) (fun hc69=>?_)
    ·have hc69:=of_decide_eq_true hc69
     have hcs:zaj s=L.set ((L.length:Int) - 1).toNat ({ L.getD ((L.length:Int) - 1).toNat default with to:=s.height }):=by rw [ze4 hcn (by rw [←gz]; omega) (by rw [←gz]; omega),zlf gL (by omega),gL]
     refine zaa ?_
     refine gQ (zaf rfl) ?_
     refine gQ (zaf rfl) ?_
     refine gQ (zaV (Tryz.underlying46) rfl) ?_
     refine gQ (zfV rfl rfl (by omega) (by omega)) ?_
     refine gQ (zab zdC rfl) ?_
     refine gQ (zah 1 tf3 rfl rfl rfl) ?_
     refine gQ (zaE se46 rfl rfl (fun _ hw=>(zam zax (hw.has (p:=0) rfl))) (by omega) (by omega)) ?_
     refine gQ (zbh zgm rfl (fun w hw=>zaO (i:=((L.length:Int) - 1)) (zam zax (hw.has (p:=0) rfl)) (by omega) (by omega))) ?_
     refine zfG (x':=({ (L.getD (((L.length:Int) - 1)).toNat default) with to:=s.height }:Crs)) 0 zax tf3 rfl rfl (vs:=[_]) rfl rfl (by decide) rfl rfl (by omega) (by omega) ?_
     refine zag (zae (T':=[(2,_),(3,_)]) ⟨rfl,rfl,trivial⟩ ?_)
     refine zac ?_
     refine zaa ?_
     refine gQ (zaf rfl) ?_
     refine gQ (zad rfl) ?_
     refine zag (zae (T':=[(2,_)]) ⟨rfl,trivial⟩ ?_)
     refine zaw ?_
     refine zbd (b,bc) 0 (zaC rfl (zau rfl)) ?_ (by rw [hcs]; rfl)
     first | (rw [hcs]; done) | (rw [hcs,List.length_set])
    ·have hc69:=of_decide_eq_false hc69
     have hcs:zaj s=L:=(ze6 hcn (by rw [←gz]; omega)).trans gL.symm
     refine zaq ?_
     refine zac ?_
     refine zaa ?_
     refine gQ (zaf rfl) ?_
     refine gQ (zad rfl) ?_
     refine zag (zae (T':=[(2,_)]) ⟨rfl,trivial⟩ ?_)
     refine zaw ?_
     refine zbd (b,bc) 0 (zaC rfl (zau rfl)) ?_ (by rw [hcs]; rfl)
     first | (rw [hcs]; done) | (rw [hcs,List.length_set])
set_option maxRecDepth 100000 in
set_option maxHeartbeats 4000000 in
theorem zkm (a:Option Addr) (cap:Nat) (s:Sht) (w:World) (hl:Has w (Ints a s.heights)) (hs:zaP s.heights.length) (hco:0≤s.cope) (hfit:Fits s.name.size) :
  Calls Tryz.prog 19 #[.agg #[.string s.name,.int .i64 s.base,.int .i64 s.batter,.int .i64 s.height,.int .i64 s.skin,.slice a s.heights.length cap,.int .i64 s.least,.int .i64 s.lap,.int .i64 s.run,.int .i64 s.every,.int .i64 s.at_,.int .i64 s.footing,.int .i64 s.spread,.int .u8 s.cope,.int .i64 s.tall,.int .i64 s.short,.int .i64 s.thick,.int .i64 s.low,.int .i64 s.high,.int .i64 s.rood]] w (Pure (.bool (za4 s)) w):=by
 refine zan (vs:=[_]) Tryz.func19 rfl rfl (Nat.le_of_ble_eq_true rfl) ?_
 refine zac ?_
 refine zaa ?_
 refine zaG rfl rfl (za3 (vs:=[_,_,_,_,_,_,_,_,_,_,_,_,_,_,_,_,_,_,_,_]) rfl rfl) fun b1=>?_
 refine gQ (zad rfl) ?_
 refine zag (zae (T':=[(1,_),(2,_)]) ⟨rfl,rfl,trivial⟩ ?_)
 refine zac ?_
 refine zac ?_
 refine zbb 35 (fun _=>mixed) (by kernel_rfl) ?_
 refine ph_y (zab zkW rfl) ?_
 refine ph_y (zah 0 tf9 rfl rfl rfl) ?_
 refine ph_y (zaJ en51 rfl (fun w hw=>znM _ w (by assumption))) ?_
 refine ph_y (zbR rfl) ?_
 refine ph_y (zaf rfl) ?_
 refine zaz rfl rfl (fun hgd=>by(try rw [hgd]); exact(zab zna rfl)) ?_
 refine zaz rfl rfl (fun hgd=>by(try rw [hgd]); exact(zah 0 tf3 rfl rfl rfl)) ?_
 refine zaz rfl rfl (fun hgd=>by(try rw [hgd]); exact(zaJ (v:=.bool (inB s.base 1 3000)) en52 rfl (fun w hw=>in_c _ _ _ w))) ?_
 refine zaz rfl rfl (fun hgd=>by(try rw [hgd]); exact(zbR rfl)) ?_
 refine ph_y (zaR rfl rfl rfl) ?_
 refine ph_y (zaf rfl) ?_
 refine zaz rfl rfl (fun hgd=>by(try rw [hgd]); exact(zab zps rfl)) ?_
 refine zaz rfl rfl (fun hgd=>by(try rw [hgd]); exact(zah 0 tf3 rfl rfl rfl)) ?_
 refine zaz rfl rfl (fun hgd=>by(try rw [hgd]); exact(zaJ (v:=.bool (inB s.batter 0 500)) en52 rfl (fun w hw=>in_c _ _ _ w))) ?_
 refine zaz rfl rfl (fun hgd=>by(try rw [hgd]); exact(zbR rfl)) ?_
 refine ph_y (zaR rfl rfl rfl) ?_
 refine ph_y (zaf rfl) ?_
 refine zaz rfl rfl (fun hgd=>by(try rw [hgd]); exact(zab zdC rfl)) ?_
 refine zaz rfl rfl (fun hgd=>by(try rw [hgd]); exact(zah 0 tf3 rfl rfl rfl)) ?_
 refine zaz rfl rfl (fun hgd=>by(try rw [hgd]); exact(zaJ (v:=.bool (inB s.height 1 3000)) en52 rfl (fun w hw=>in_c _ _ _ w))) ?_
 refine zaz rfl rfl (fun hgd=>by(try rw [hgd]); exact(zbR rfl)) ?_
 refine ph_y (zaR rfl rfl rfl) ?_
 refine ph_y (zaf rfl) ?_
 refine zaz rfl rfl (fun hgd=>by(try rw [hgd]); exact(zab zkX rfl)) ?_
 refine zaz rfl rfl (fun hgd=>by(try rw [hgd]); exact(zah 0 tf3 rfl rfl rfl)) ?_
 refine zaz rfl rfl (fun hgd=>by(try rw [hgd]); exact(zaJ (v:=.bool (inB s.skin 1 1500)) en52 rfl (fun w hw=>in_c _ _ _ w))) ?_
 refine zaz rfl rfl (fun hgd=>by(try rw [hgd]); exact(zbR rfl)) ?_
 refine ph_y (zaR rfl rfl rfl) ?_
 refine ph_y (zaf rfl) ?_
 refine zaz rfl rfl (fun hgd=>by(try rw [hgd]); exact(zab zgl rfl)) ?_
 refine zaz rfl rfl (fun hgd=>by(try rw [hgd]); exact(zah 0 tf35 rfl rfl rfl)) ?_
 refine zaz rfl rfl (fun hgd=>by(try rw [hgd]); exact(zaV (Tryz.underlying35) rfl)) ?_
 refine zaz rfl rfl (fun hgd=>by(try rw [hgd]); exact(zaJ (v:=.bool (inB (s.heights.length:Int) 1 12)) en52 rfl (fun w hw=>in_c _ _ _ w))) ?_
 refine zaz rfl rfl (fun hgd=>by(try rw [hgd]); exact(zbR rfl)) ?_
 refine ph_y (zaR rfl rfl rfl) ?_
 refine zag (zae (T':=[(1,_),(2,_),(38,_)]) ⟨rfl,rfl,rfl,trivial⟩ ?_)
 refine zap rfl (fun hc38=>?_) (fun hc38=>?_)
 ·
  refine zac ?_
  refine zaa ?_
  refine gQ (zad rfl) ?_
  refine zag (zae (T':=[(1,_),(2,_)]) ⟨rfl,rfl,trivial⟩ ?_)
  refine zaw ?_
  refine zay (zaC rfl (zau rfl)) ?_
  rw [zcS (by rw [zdE hco,show v1 s=true from hc38]; simp)]
 ·
  refine zaq ?_
  refine zac ?_
  refine zac ?_
  refine zaa ?_
  refine gQ (zad rfl) ?_
  refine zag (zae (T':=[(1,_),(2,_),(3,_)]) ⟨rfl,rfl,rfl,trivial⟩ ?_)
  refine zas ?_
  refine zbf (X:=Int) (fun(i:Int)=>[(1,.pointer (some ⟨b1,0,none⟩)),(2,.bool false),(3,.int .i64 i)]) (fun(i:Int)=>[Box b1 [.string s.name,.int .i64 s.base,.int .i64 s.batter,.int .i64 s.height,.int .i64 s.skin,.slice a s.heights.length cap,.int .i64 s.least,.int .i64 s.lap,.int .i64 s.run,.int .i64 s.every,.int .i64 s.at_,.int .i64 s.footing,.int .i64 s.spread,.int .u8 s.cope,.int .i64 s.tall,.int .i64 s.short,.int .i64 s.thick,.int .i64 s.low,.int .i64 s.high,.int .i64 s.rood] 37]) (fun(i:Int)=>(0≤i∧i≤s.heights.length∧∀ j:Nat,(j:Int) < i→(!inB (s.heights.getD j default) 1 1000)=false)) (fun(i:Int)=>(s.heights.length - i).toNat) 0 ⟨rfl,rfl,rfl,trivial⟩ rfl ?_ ?_
  ·exact⟨by omega,by omega,fun j hj=>by omega⟩
  ·rintro i hI
   obtain⟨g0,g1,g2⟩:=hI
   refine zac ?_
   refine zac ?_
   refine zaa ?_
   refine gQ (zaf rfl) ?_
   refine gQ (zab zgl rfl) ?_
   refine gQ (zah 0 tf35 rfl rfl rfl) ?_
   refine gQ (zaV (Tryz.underlying35) rfl) ?_
   refine gQ (zbw rfl rfl) ?_
   refine zag (zae (T':=[(1,_),(2,_),(3,_),(43,_)]) ⟨rfl,rfl,rfl,rfl,trivial⟩ ?_)
   refine zap rfl (fun hc43=>?_) (fun hc43=>?_)
   ·simp only [decide_eq_true_eq] at hc43
    refine zaq ?_
    refine zac ?_
    refine zas ?_
    refine zac ?_
    refine zaa ?_
    refine gQ (zab zgl rfl) ?_
    refine gQ (zah 0 tf35 rfl rfl rfl) ?_
    refine gQ (zaf rfl) ?_
    refine gQ (zaE se35 rfl rfl (fun _ hw=>(Rd.has (Has.rd hl) hw)) (by omega) (by omega)) ?_
    refine gQ (zcE tf3 rfl (fun _ hw=>(Rd.has (Has.rd hl) hw)) (by omega) (by omega) rfl) ?_
    refine gQ (zaJ en52 rfl (fun w hw=>in_c _ _ _ w)) ?_
    refine gQ (zbR rfl) ?_
    refine zag (zae (T':=[(1,_),(2,_),(3,_),(52,_)]) ⟨rfl,rfl,rfl,rfl,trivial⟩ ?_)
    refine zap rfl (fun hc52=>?_) (fun hc52=>?_)
    ·
     refine zac ?_
     refine zaa ?_
     refine gQ (zad rfl) ?_
     refine zag (zae (T':=[(1,_),(2,_),(3,_)]) ⟨rfl,rfl,rfl,trivial⟩ ?_)
     refine zaw ?_
     refine zay (zaC rfl (zau rfl)) ?_
     rw [zcS (by rw [zdE hco,zuN g0 hc43 hc52]; simp)]
    ·
     refine zaq ?_
     refine zaa ?_
     refine gQ (zaf rfl) ?_
     refine gQ (zaY rfl rfl (by omega) (by omega)) ?_
     refine gQ (zad rfl) ?_
     refine zag (zae (T':=[(1,_),(2,_),(3,_)]) ⟨rfl,rfl,rfl,trivial⟩ ?_)
     exact za1 (i+1) ⟨rfl,rfl,rfl,trivial⟩ rfl ⟨by omega,by omega,zdP (f:=fun j=>!inB (s.heights.getD j default) 1 1000) g0 g2 hc52⟩ (by omega)
   ·simp only [decide_eq_false_iff_not] at hc43
    refine za8 rfl ?_
    refine zac ?_
    refine zac ?_
    refine zbb 28 (fun _=>mixed) (by kernel_rfl) ?_
    refine ph_y (zab zpt rfl) ?_
    refine ph_y (zah 0 tf3 rfl rfl rfl) ?_
    refine ph_y (zaJ en52 rfl (fun w hw=>in_c _ _ _ w)) ?_
    refine ph_y (zbR rfl) ?_
    refine ph_y (zaf rfl) ?_
    refine zaz rfl rfl (fun hgd=>by(try rw [hgd]); exact(zab zsI rfl)) ?_
    refine zaz rfl rfl (fun hgd=>by(try rw [hgd]); exact(zah 0 tf3 rfl rfl rfl)) ?_
    refine zaz rfl rfl (fun hgd=>by(try rw [hgd]); exact(zaJ (v:=.bool (inB s.lap 0 500)) en52 rfl (fun w hw=>in_c _ _ _ w))) ?_
    refine zaz rfl rfl (fun hgd=>by(try rw [hgd]); exact(zbR rfl)) ?_
    refine ph_y (zaR rfl rfl rfl) ?_
    refine ph_y (zaf rfl) ?_
    refine zaz rfl rfl (fun hgd=>by(try rw [hgd]); exact(zab zsJ rfl)) ?_
    refine zaz rfl rfl (fun hgd=>by(try rw [hgd]); exact(zah 0 tf3 rfl rfl rfl)) ?_
    refine zaz rfl rfl (fun hgd=>by(try rw [hgd]); exact(zaJ (v:=.bool (inB s.run 1 20)) en52 rfl (fun w hw=>in_c _ _ _ w))) ?_
    refine zaz rfl rfl (fun hgd=>by(try rw [hgd]); exact(zbR rfl)) ?_
    refine ph_y (zaR rfl rfl rfl) ?_
    refine ph_y (zaf rfl) ?_
    refine zaz rfl rfl (fun hgd=>by(try rw [hgd]); exact(zab zl4 rfl)) ?_
    refine zaz rfl rfl (fun hgd=>by(try rw [hgd]); exact(zah 0 tf3 rfl rfl rfl)) ?_
    refine zaz rfl rfl (fun hgd=>by(try rw [hgd]); exact(zaJ (v:=.bool (inB s.footing 0 1000)) en52 rfl (fun w hw=>in_c _ _ _ w))) ?_
    refine zaz rfl rfl (fun hgd=>by(try rw [hgd]); exact(zbR rfl)) ?_
    refine ph_y (zaR rfl rfl rfl) ?_
    refine ph_y (zaf rfl) ?_
    refine zaz rfl rfl (fun hgd=>by(try rw [hgd]); exact(zab zl5 rfl)) ?_
    refine zaz rfl rfl (fun hgd=>by(try rw [hgd]); exact(zah 0 tf3 rfl rfl rfl)) ?_
    refine zaz rfl rfl (fun hgd=>by(try rw [hgd]); exact(zaJ (v:=.bool (inB s.spread 0 1000)) en52 rfl (fun w hw=>in_c _ _ _ w))) ?_
    refine zaz rfl rfl (fun hgd=>by(try rw [hgd]); exact(zbR rfl)) ?_
    refine ph_y (zaR rfl rfl rfl) ?_
    refine zag (zae (T':=[(1,_),(2,_),(80,_)]) ⟨rfl,rfl,rfl,trivial⟩ ?_)
    refine zap rfl (fun hc80=>?_) (fun hc80=>?_)
    ·
     refine zac ?_
     refine zaa ?_
     refine gQ (zad rfl) ?_
     refine zag (zae (T':=[(1,_),(2,_)]) ⟨rfl,rfl,trivial⟩ ?_)
     refine zaw ?_
     refine zay (zaC rfl (zau rfl)) ?_
     rw [zcS (by rw [zdE hco,show v2 s=true from hc80]; simp)]
    ·
     refine zaq ?_
     refine zac ?_
     refine zac ?_
     refine zbb 20 (fun _=>mixed) (by kernel_rfl) ?_
     refine ph_y (zab zjh rfl) ?_
     refine ph_y (zah 0 tf3 rfl rfl rfl) ?_
     refine ph_y (zbL rfl rfl) ?_
     refine ph_y (zaf rfl) ?_
     refine zaH rfl rfl (fun hgd=>by(try rw [hgd]); exact(zab zjU rfl)) ?_
     refine zaH rfl rfl (fun hgd=>by(try rw [hgd]); exact(zah 0 tf3 rfl rfl rfl)) ?_
     refine zaH rfl rfl (fun hgd=>by(try rw [hgd]); exact(zbL rfl rfl)) ?_
     refine ph_y (zaX rfl rfl rfl) ?_
     refine ph_y (zbR rfl) ?_
     refine ph_y (zaf rfl) ?_
     refine zaH rfl rfl (fun hgd=>by(try rw [hgd]); exact(zab zjh rfl)) ?_
     refine zaH rfl rfl (fun hgd=>by(try rw [hgd]); exact(zah 0 tf3 rfl rfl rfl)) ?_
     refine zaH rfl rfl (fun hgd=>by(try rw [hgd]); exact(zaJ (v:=.bool (inB s.every 1 100000)) en52 rfl (fun w hw=>in_c _ _ _ w))) ?_
     refine zaH rfl rfl (fun hgd=>by(try rw [hgd]); exact(zaf rfl)) ?_
     refine zdr rfl rfl (fun hgd=>by(try rw [hgd]); exact(zab zjU rfl)) ?_
     refine zdr rfl rfl (fun hgd=>by(try rw [hgd]); exact(zah 0 tf3 rfl rfl rfl)) ?_
     refine zdr rfl rfl (fun hgd=>by(try rw [hgd]); exact(zaJ (v:=.bool (inB s.at_ 0 3000)) en52 rfl (fun w hw=>in_c _ _ _ w))) ?_
     refine zaH rfl rfl (fun hgd=>by(try rw [hgd]); exact(zaX rfl rfl rfl)) ?_
     refine zaH rfl rfl (fun hgd=>by(try rw [hgd]); exact(zbR rfl)) ?_
     refine ph_y (zaX rfl rfl rfl) ?_
     refine zag (zae (T':=[(1,_),(2,_),(100,_)]) ⟨rfl,rfl,rfl,trivial⟩ ?_)
     refine zap rfl (fun hc100=>?_) (fun hc100=>?_)
     ·
      refine zac ?_
      refine zaa ?_
      refine gQ (zad rfl) ?_
      refine zag (zae (T':=[(1,_),(2,_)]) ⟨rfl,rfl,trivial⟩ ?_)
      refine zaw ?_
      refine zay (zaC rfl (zau rfl)) ?_
      rw [zcS (by rw [zdE hco,show v3 s=true from hc100]; simp)]
     ·
      refine zaq ?_
      refine zac ?_
      refine zac ?_
      refine zbb 23 (fun _=>mixed) (by kernel_rfl) ?_
      refine ph_y (zab zl6 rfl) ?_
      refine ph_y (zah 0 tf3 rfl rfl rfl) ?_
      refine ph_y (zaJ en52 rfl (fun w hw=>in_c _ _ _ w)) ?_
      refine ph_y (zbR rfl) ?_
      refine ph_y (zaf rfl) ?_
      refine zaz rfl rfl (fun hgd=>by(try rw [hgd]); exact(zab zpr rfl)) ?_
      refine zaz rfl rfl (fun hgd=>by(try rw [hgd]); exact(zah 0 tf3 rfl rfl rfl)) ?_
      refine zaz rfl rfl (fun hgd=>by(try rw [hgd]); exact(zab zl6 rfl)) ?_
      refine zaz rfl rfl (fun hgd=>by(try rw [hgd]); exact(zah 0 tf3 rfl rfl rfl)) ?_
      refine zaz rfl rfl (fun hgd=>by(try rw [hgd]); exact(zaJ (v:=.bool (inB s.low 0 s.high)) en52 rfl (fun w hw=>in_c _ _ _ w))) ?_
      refine zaz rfl rfl (fun hgd=>by(try rw [hgd]); exact(zbR rfl)) ?_
      refine ph_y (zaR rfl rfl rfl) ?_
      refine ph_y (zaf rfl) ?_
      refine zaz rfl rfl (fun hgd=>by(try rw [hgd]); exact(zab zl7 rfl)) ?_
      refine zaz rfl rfl (fun hgd=>by(try rw [hgd]); exact(zah 0 tf3 rfl rfl rfl)) ?_
      refine zaz rfl rfl (fun hgd=>by(try rw [hgd]); exact(zaJ (v:=.bool (inB s.rood 1 100000)) en52 rfl (fun w hw=>in_c _ _ _ w))) ?_
      refine zaz rfl rfl (fun hgd=>by(try rw [hgd]); exact(zbR rfl)) ?_
      refine ph_y (zaR rfl rfl rfl) ?_
      refine ph_y (zaf rfl) ?_
      refine zaz rfl rfl (fun hgd=>by(try rw [hgd]); exact(zab zfb rfl)) ?_
      refine zaz rfl rfl (fun hgd=>by(try rw [hgd]); exact(zah 0 tf5 rfl rfl rfl)) ?_
      refine zaz rfl rfl (fun hgd=>by(try rw [hgd]); exact(zc6 rfl rfl)) ?_
      refine ph_y (zaR rfl rfl rfl) ?_
      refine zag (zae (T':=[(1,_),(2,_),(123,_)]) ⟨rfl,rfl,rfl,trivial⟩ ?_)
      refine zap rfl (fun hc123=>?_) (fun hc123=>?_)
      ·
       refine zac ?_
       refine zaa ?_
       refine gQ (zad rfl) ?_
       refine zag (zae (T':=[(1,_),(2,_)]) ⟨rfl,rfl,trivial⟩ ?_)
       refine zaw ?_
       refine zay (zaC rfl (zau rfl)) ?_
       rw [zcS (by rw [zdE hco,show v4 s=true from hc123]; simp)]
      ·
       refine zaq ?_
       refine zac ?_
       refine zac ?_
       refine zbb 18 (fun _=>mixed) (by kernel_rfl) ?_
       refine ph_y (zab zfb rfl) ?_
       refine ph_y (zah 0 tf5 rfl rfl rfl) ?_
       refine ph_y (zbL rfl rfl) ?_
       refine ph_y (zaf rfl) ?_
       refine zaH rfl rfl (fun hgd=>by(try rw [hgd]); exact(zab zjV rfl)) ?_
       refine zaH rfl rfl (fun hgd=>by(try rw [hgd]); exact(zah 0 tf3 rfl rfl rfl)) ?_
       refine zaH rfl rfl (fun hgd=>by(try rw [hgd]); exact(zcr rfl rfl)) ?_
       refine zaH rfl rfl (fun hgd=>by(try rw [hgd]); exact(zaf rfl)) ?_
       refine zc0 rfl rfl (fun hgd=>by(try rw [hgd]); exact(zab zh7 rfl)) ?_
       refine zc0 rfl rfl (fun hgd=>by(try rw [hgd]); exact(zah 0 tf3 rfl rfl rfl)) ?_
       refine zc0 rfl rfl (fun hgd=>by(try rw [hgd]); exact(zcr rfl rfl)) ?_
       refine zaH rfl rfl (fun hgd=>by(try rw [hgd]); exact(zaR rfl rfl rfl)) ?_
       refine zaH rfl rfl (fun hgd=>by(try rw [hgd]); exact(zaf rfl)) ?_
       refine zc0 rfl rfl (fun hgd=>by(try rw [hgd]); exact(zab zh8 rfl)) ?_
       refine zc0 rfl rfl (fun hgd=>by(try rw [hgd]); exact(zah 0 tf3 rfl rfl rfl)) ?_
       refine zc0 rfl rfl (fun hgd=>by(try rw [hgd]); exact(zcr rfl rfl)) ?_
       refine zaH rfl rfl (fun hgd=>by(try rw [hgd]); exact(zaR rfl rfl rfl)) ?_
       refine ph_y (zaX rfl rfl rfl) ?_
       refine zag (zae (T':=[(1,_),(2,_),(141,_)]) ⟨rfl,rfl,rfl,trivial⟩ ?_)
       refine zap rfl (fun hc141=>?_) (fun hc141=>?_)
       ·
        refine zac ?_
        refine zaa ?_
        refine gQ (zad rfl) ?_
        refine zag (zae (T':=[(1,_),(2,_)]) ⟨rfl,rfl,trivial⟩ ?_)
        refine zaw ?_
        refine zay (zaC rfl (zau rfl)) ?_
        rw [zcS (by rw [zdE hco,show v5 s=true from hc141]; simp)]
       ·
        refine zaq ?_
        refine zac ?_
        refine zac ?_
        refine zbb 15 (fun _=>mixed) (by kernel_rfl) ?_
        refine ph_y (zab zfb rfl) ?_
        refine ph_y (zah 0 tf5 rfl rfl rfl) ?_
        refine ph_y (zcr rfl rfl) ?_
        refine ph_y (zaf rfl) ?_
        refine zaH rfl rfl (fun hgd=>by(try rw [hgd]); exact(zab zjV rfl)) ?_
        refine zaH rfl rfl (fun hgd=>by(try rw [hgd]); exact(zah 0 tf3 rfl rfl rfl)) ?_
        refine zaH rfl rfl (fun hgd=>by(try rw [hgd]); exact(zaJ (v:=.bool (inB s.tall 1 1000)) en52 rfl (fun w hw=>in_c _ _ _ w))) ?_
        refine zaH rfl rfl (fun hgd=>by(try rw [hgd]); exact(zbR rfl)) ?_
        refine zaH rfl rfl (fun hgd=>by(try rw [hgd]); exact(zaf rfl)) ?_
        refine zc0 rfl rfl (fun hgd=>by(try rw [hgd]); exact(zab zh8 rfl)) ?_
        refine zc0 rfl rfl (fun hgd=>by(try rw [hgd]); exact(zah 0 tf3 rfl rfl rfl)) ?_
        refine zc0 rfl rfl (fun hgd=>by(try rw [hgd]); exact(zaJ (v:=.bool (inB s.thick 1 1000)) en52 rfl (fun w hw=>in_c _ _ _ w))) ?_
        refine zc0 rfl rfl (fun hgd=>by(try rw [hgd]); exact(zbR rfl)) ?_
        refine zaH rfl rfl (fun hgd=>by(try rw [hgd]); exact(zaR rfl rfl rfl)) ?_
        refine ph_y (zaX rfl rfl rfl) ?_
        refine zag (zae (T':=[(1,_),(2,_),(156,_)]) ⟨rfl,rfl,rfl,trivial⟩ ?_)
        refine zap rfl (fun hc156=>?_) (fun hc156=>?_)
        ·
         refine zac ?_
         refine zaa ?_
         refine gQ (zad rfl) ?_
         refine zag (zae (T':=[(1,_),(2,_)]) ⟨rfl,rfl,trivial⟩ ?_)
         refine zaw ?_
         refine zay (zaC rfl (zau rfl)) ?_
         rw [zcS (by rw [zdE hco,show v6 s=true from hc156]; simp)]
        ·
         refine zaq ?_
         refine zac ?_
         refine zac ?_
         refine zbb 19 (fun _=>mixed) (by kernel_rfl) ?_
         refine ph_y (zab zfb rfl) ?_
         refine ph_y (zah 0 tf5 rfl rfl rfl) ?_
         refine ph_y (zbL rfl rfl) ?_
         refine ph_y (zaf rfl) ?_
         refine zaH rfl rfl (fun hgd=>by(try rw [hgd]); exact(zab zh7 rfl)) ?_
         refine zaH rfl rfl (fun hgd=>by(try rw [hgd]); exact(zah 0 tf3 rfl rfl rfl)) ?_
         refine zaH rfl rfl (fun hgd=>by(try rw [hgd]); exact(zaJ (v:=.bool (inB s.short 1 1000)) en52 rfl (fun w hw=>in_c _ _ _ w))) ?_
         refine zaH rfl rfl (fun hgd=>by(try rw [hgd]); exact(zbR rfl)) ?_
         refine ph_y (zaX rfl rfl rfl) ?_
         refine ph_y (zaf rfl) ?_
         refine zaz rfl rfl (fun hgd=>by(try rw [hgd]); exact(zab zfb rfl)) ?_
         refine zaz rfl rfl (fun hgd=>by(try rw [hgd]); exact(zah 0 tf5 rfl rfl rfl)) ?_
         refine zaz rfl rfl (fun hgd=>by(try rw [hgd]); exact(zcr rfl rfl)) ?_
         refine zaz rfl rfl (fun hgd=>by(try rw [hgd]); exact(zaf rfl)) ?_
         refine zdr rfl rfl (fun hgd=>by(try rw [hgd]); exact(zab zh7 rfl)) ?_
         refine zdr rfl rfl (fun hgd=>by(try rw [hgd]); exact(zah 0 tf3 rfl rfl rfl)) ?_
         refine zdr rfl rfl (fun hgd=>by(try rw [hgd]); exact(zcr rfl rfl)) ?_
         refine zaz rfl rfl (fun hgd=>by(try rw [hgd]); exact(zaX rfl rfl rfl)) ?_
         refine ph_y (zaR rfl rfl rfl) ?_
         refine zag (zae (T':=[(1,_),(2,_),(175,_)]) ⟨rfl,rfl,rfl,trivial⟩ ?_)
         refine zap rfl (fun hc175=>?_) (fun hc175=>?_)
         ·
          refine zac ?_
          refine zaa ?_
          refine gQ (zad rfl) ?_
          refine zag (zae (T':=[(1,_),(2,_)]) ⟨rfl,rfl,trivial⟩ ?_)
          refine zaw ?_
          refine zay (zaC rfl (zau rfl)) ?_
          rw [zcS (by rw [zdE hco,show v7 s=true from hc175]; simp)]
         ·have hbad:=zq7 hco hc38 (zsq hc43 g2) hc80 hc100 hc123 hc141 hc156 hc175
          refine zaq ?_
          refine zac ?_
          refine zaa ?_
          refine gQ (zat 0 tf37 rfl rfl (vs:=[_,_,_,_,_,_,_,_,_,_,_,_,_,_,_,_,_,_,_,_]) rfl rfl) ?_
          refine gQ (zab zdC rfl) ?_
          refine gQ (zah 0 tf3 rfl rfl rfl) ?_
          refine gQ (zaJ en22 rfl (fun w hw=>zkn a cap s _ w)) ?_
          refine gQ (zfx rfl rfl) ?_
          refine gQ (zaf rfl) ?_
          refine zai rfl rfl rfl rfl (fun hg181=>?_) (fun hg181=>?_)
          ·replace hg181:_=true:=hg181
           try rw [hg181]
           refine gQ (zat 0 tf37 rfl rfl (vs:=[_,_,_,_,_,_,_,_,_,_,_,_,_,_,_,_,_,_,_,_]) rfl rfl) ?_
           refine zai rfl rfl rfl rfl (fun _=>?_) (fun h=>absurd h (by decide))
           refine zaG rfl rfl (zbm en21 rfl (fun w hw=>zg2 a cap s w (Rd.has (Has.rd hl) hw) (zgZ hbad))) fun p183=>?_
           refine zai rfl rfl rfl rfl (fun _=>?_) (fun h=>absurd h (by decide))
           refine gQ (zaV (Tryz.underlying46) rfl) ?_
           refine zai rfl rfl rfl rfl (fun _=>?_) (fun h=>absurd h (by decide))
           refine gQ (zeT rfl rfl) ?_
           refine gQ (za5 rfl rfl rfl) ?_
           refine gQ (zad rfl) ?_
           refine zag (zae (T':=[(2,_)]) ⟨rfl,trivial⟩ ?_)
           refine zaw ?_
           refine zay (zaC rfl (zau rfl)) ?_
           rw [zlD hbad,hg181]; rfl
          ·replace hg181:_=false:=hg181
           try rw [hg181]
           refine zai rfl rfl rfl rfl (fun h=>absurd h (by decide)) (fun _=>?_)
           refine zai rfl rfl rfl rfl (fun h=>absurd h (by decide)) (fun _=>?_)
           refine zai rfl rfl rfl rfl (fun h=>absurd h (by decide)) (fun _=>?_)
           refine gQ (za5 rfl rfl rfl) ?_
           refine gQ (zad rfl) ?_
           refine zag (zae (T':=[(2,_)]) ⟨rfl,trivial⟩ ?_)
           refine zaw ?_
           refine zay (zaC rfl (zau rfl)) ?_
           rw [zlD hbad,hg181]; rfl
end Go.Proofs.YtdcfcfhmkfkgmaaGreatDoor
namespace Go.Pln
open Go Go.K Go.RowKit Go.Stn
abbrev Knd (o:Opn):Prop:=0≤o.kind∧o.kind≤255
def zvV (len top:Int) (o:Opn):Bool:=zhr [⟨W o.kind,1,4⟩,⟨len,1,100000⟩,⟨o.width,1,len⟩,⟨o.at_,0,W (len - o.width)⟩,⟨o.high,1,top⟩,⟨o.frm,0,W (top - o.high)⟩]
theorem zbp {n lo hi:Int}:inB n lo hi=true↔lo≤n∧n≤hi:=by
 unfold inB; simp only [Bool.and_eq_true,decide_eq_true_eq]
theorem zh4 {len top:Int} {o:Opn} (hk:Knd o) (hl:1≤len∧len≤100000) (hh:0≤top∧top≤3000) :
  zvV len top o=true↔(1≤o.kind∧o.kind≤4)∧(1≤o.width∧o.width≤len)∧(0≤o.at_∧o.at_≤len - o.width)∧(1≤o.high∧o.high≤top)∧(0≤o.frm∧o.frm≤top - o.high):=by
 unfold zvV
 simp only [zcC,zdI,Bool.and_eq_true,zbp,and_true]
 rw [zbr (n:=o.kind) (by omega) (by omega)]
 constructor
 ·rintro ⟨a,b,c,d,e,f⟩
  rw [zbr (by omega) (by omega)] at d f
  exact⟨a,c,d,e,f⟩
 ·rintro ⟨a,c,d,e,f⟩
  rw [zbr (n:=len - o.width) (by omega) (by omega),zbr (n:=top - o.high) (by omega) (by omega)]
  exact⟨a,hl,c,d,e,f⟩
structure zn8 (len top:Int) (o:Opn):Prop where
 k:1≤o.kind∧o.kind≤4
 w:1≤o.width∧o.width≤len
 a:0≤o.at_∧o.at_+o.width≤len
 h:1≤o.high∧o.high≤top
 f:0≤o.frm∧o.frm+o.high≤top
 l:1≤len∧len≤100000
 s:o.kind=3→o.frm+o.high=top
 g:o.kind=4→o.frm+o.high=top∧o.frm=0
theorem zh3 {len top:Int} {o:Opn}:zfY len top o=true↔zn8 len top o:=by
 unfold zfY
 simp only [Bool.and_eq_true,Bool.or_eq_true,Bool.not_eq_true',decide_eq_true_eq,decide_eq_false_iff_not,zbp]
 constructor
 ·rintro ⟨⟨⟨⟨⟨⟨a,b⟩,c⟩,d⟩,e⟩,f⟩,g,h⟩
  exact⟨a,c,by omega,e,by omega,b,by omega,by omega⟩
 ·rintro ⟨a,b,c,d,e,f,g,h⟩
  refine⟨⟨⟨⟨⟨⟨a,f⟩,b⟩,by omega⟩,d⟩,by omega⟩,?_,?_⟩
  ·by_cases h3:o.kind=3
   ·exact .inr (g h3)
   ·exact .inl h3
  ·by_cases h4:o.kind=4
   ·exact .inr (h h4)
   ·exact .inl h4
theorem ztO {len top:Int} {o:Opn} (hk:Knd o) (hl:1≤len∧len≤100000) (hh:0≤top∧top≤3000) (h:(!zvV len top o)=true):zfY len top o=false:=by
 cases hb:zfY len top o with
 | false=>rfl
 | true=>
  have f:=zh3.1 hb
  have:=(zh4 hk hl hh).2 ⟨f.k,f.w,by have:=f.a; omega,f.h,by have:=f.f; omega⟩
  rw [this] at h; cases h
theorem zrq {len top:Int} {o:Opn} (hk:Knd o) (hl:1≤len∧len≤100000) (hh:0≤top∧top≤3000) (h:(!zvV len top o)=false) :
  zfY len top o=((!decide (o.kind=3)||decide (o.frm+o.high=top))&&(!decide (o.kind=4)||(decide (o.frm+o.high=top)&&decide (o.frm=0)))):=by
 have f:=(zh4 hk hl hh).1 (zll h)
 unfold zfY
 rw [show inB o.kind 1 4=true from zbp.2 f.1,show inB len 1 100000=true from zbp.2 hl,show inB o.width 1 len=true from zbp.2 f.2.1,show inB o.at_ 0 (len - o.width)=true from zbp.2 f.2.2.1,show inB o.high 1 top=true from zbp.2 f.2.2.2.1,show inB o.frm 0 (top - o.high)=true from zbp.2 f.2.2.2.2]
 simp
def zhk (o p:Opn):Bool:=decide (o.at_ < W (p.at_+p.width))&&decide (p.at_ < W (o.at_+o.width))&&decide (o.frm < W (p.frm+p.high))&&decide (p.frm < W (o.frm+o.high))
theorem zp8 {len top:Int} {o p:Opn} (hh:top≤3000) (ho:zn8 len top o) (hp:zn8 len top p):zhk o p=zea o p:=by
 have a1:=ho.a; have a2:=ho.f; have a3:=hp.a; have a4:=hp.f; have a5:=ho.w; have a6:=ho.h; have a7:=hp.w; have a8:=hp.h; have a9:=ho.l
 unfold zhk zea
 rw [zbr (n:=p.at_+p.width) (by omega) (by omega),zbr (n:=o.at_+o.width) (by omega) (by omega),zbr (n:=p.frm+p.high) (by omega) (by omega),zbr (n:=o.frm+o.high) (by omega) (by omega)]
theorem zf7 {top:Int} {w:Wll} {i:Nat} (h:zcI top w i=true):zn8 w.length top (w.opens.getD i default):=by
 unfold zcI at h
 simp only [Bool.and_eq_true] at h
 exact zh3.1 h.1
theorem zoS {top:Int} {w:Wll} {i:Int} (hh:top≤3000) (h0:0≤i) (h1:i < (w.opens.length:Int)) (hp:∀ j:Nat,(j:Int) < i→zcI top w j=true) (ho:zn8 w.length top (w.opens.getD i.toNat default)) :
  (w.opens.take i.toNat).any (zhk (w.opens.getD i.toNat default))=(w.opens.take i.toNat).any (fun q=>zea (w.opens.getD i.toNat default) q):=by
 have key:∀ q∈w.opens.take i.toNat,zhk (w.opens.getD i.toNat default) q=zea (w.opens.getD i.toNat default) q:=fun q hq=>by
  obtain⟨j,hj,rfl⟩:=List.getElem_of_mem hq
  rw [List.length_take] at hj
  have hf:=zf7 (hp j (by omega))
  rw [List.getD_eq_getElem?_getD,List.getElem?_eq_getElem (by omega)] at hf
  rw [List.getElem_take]
  exact zp8 hh ho hf
 rw [Bool.eq_iff_iff,List.any_eq_true,List.any_eq_true]
 exact⟨fun⟨q,h1,h2⟩=>⟨q,h1,by rw [←key q h1]; exact h2⟩,fun⟨q,h1,h2⟩=>⟨q,h1,by rw [key q h1]; exact h2⟩⟩
theorem zln {top:Int} {w:Wll} {i:Int} (hh:top≤3000) (h0:0≤i) (h1:i < (w.opens.length:Int)) (hp:∀ j:Nat,(j:Int) < i→zcI top w j=true) :
  (!zfY w.length top (w.opens.getD i.toNat default)||(w.opens.take i.toNat).any (zhk (w.opens.getD i.toNat default))) = !zcI top w i.toNat:=by
 unfold zcI
 cases hf:zfY w.length top (w.opens.getD i.toNat default) with
 | false=>rfl
 | true=>rw [zoS hh h0 h1 hp (zh3.1 hf)]; simp
def zfP (w:Wll):Bool:=zdY w.name&&inB w.length 1 100000&&inB (w.opens.length:Int) 0 20
theorem zgN (top:Int) (w:Wll):zd1 top w=(zfP w&&allI w.opens.length fun i=>zcI top w i):=rfl
theorem zkz {top:Int} {w:Wll} (h:zfP w=false):zd1 top w=false:=by rw [zgN,h]; rfl
theorem zhH {top:Int} {w:Wll} {i:Int} (h0:0≤i) (h1:i < (w.opens.length:Int)) (h:zcI top w i.toNat=false):zd1 top w=false:=by
 rw [zgN,zc9 (i:=i.toNat) (by omega) h,Bool.and_false]
theorem zn0 {top:Int} {w:Wll} {i:Int} (h:zfP w=true) (h1:¬ i < (w.opens.length:Int)) (hp:∀ j:Nat,(j:Int) < i→zcI top w j=true):zd1 top w=true:=by
 rw [zgN,h,zdN (fun j hj=>hp j (by omega))]; rfl
theorem zgM {w:Wll} (h:zfP w=true):(1≤w.length∧w.length≤100000)∧w.opens.length≤20:=by
 unfold zfP at h
 simp only [Bool.and_eq_true,zbp] at h
 omega
theorem zqW {top:Int} {w:Wll} (h:zd1 top w=true):zfP w=true:=by
 rw [zgN,Bool.and_eq_true] at h; exact h.1
theorem zmJ (w:Wll):zfP w = !(!zgx w.name||!zhr [⟨w.length,1,100000⟩,⟨(w.opens.length:Int),0,20⟩]):=by
 unfold zfP
 rw [zcC,zcC,zdI,znv]
 cases zdY w.name <;> cases inB w.length 1 100000 <;> cases inB (w.opens.length:Int) 0 20 <;> rfl
theorem zuO (w:Wll):zfP w = !(!zdY w.name||!inB w.length 1 100000||decide (20 < (w.opens.length:Int))):=by
 unfold zfP
 have:inB (w.opens.length:Int) 0 20 = !decide (20 < (w.opens.length:Int)):=by
  rw [Bool.eq_iff_iff,zbp,Bool.not_eq_true',decide_eq_false_iff_not]; omega
 rw [this]
 cases zdY w.name <;> cases inB w.length 1 100000 <;> cases decide (20 < (w.opens.length:Int)) <;> rfl
theorem zdu {f:Nat→Bool} {i:Int} (h0:0≤i) (h:∀ j:Nat,(j:Int) < i→f j=true) (hi:f i.toNat=true):∀ j:Nat,(j:Int) < i+1→f j=true:=fun j hj=>by
 rcases Int.lt_or_eq_of_le (show(j:Int)≤i by omega) with g | g
 ·exact h j g
 ·rw [show j=i.toNat from by omega]; exact hi
def zav (S:List ShC) (n:ByteArray):ShC:=if 0≤zaS S n then S.getD (zaS S n).toNat default else default
theorem findI_lt {α:Type} (p:α→Bool) (l:List α):zbJ p l < (l.length:Int)∨zbJ p l = -1:=by
 unfold zbJ
 split
 ·rename_i h
  left
  obtain⟨x,hx,hp⟩:=List.any_eq_true.1 h
  have:=List.findIdx_lt_length_of_exists ⟨x,hx,hp⟩
  omega
 ·right; rfl
theorem zrp {α:Type} (p:α→Bool) (l:List α):-1≤zbJ p l:=by unfold zbJ; split <;> omega
theorem ziE {S:List ShC} {n:ByteArray} (h:0≤zaS S n):zaS S n < (S.length:Int):=by
 rcases findI_lt (fun z:ShC=>z.s.name.toList == n.toList) S with g | g
 ·exact g
 ·unfold zaS at h; rw [g] at h; omega
theorem zky {S:List WlC} {n:ByteArray} (h:0≤zaM S n):zaM S n < (S.length:Int):=by
 rcases findI_lt (fun z:WlC=>z.s.name.toList == n.toList) S with g | g
 ·exact g
 ·unfold zaM at h; rw [g] at h; omega
theorem zgp {S:List ShC} {n:ByteArray} (h:0≤zaS S n):zav S n∈S:=by
 unfold zav
 rw [if_pos h]
 exact za0 (by have:=ziE h; omega)
theorem zpL {S:List ShC} {n:ByteArray} {w:World} (h:∀ z∈S,Has w (Ints z.a z.s.heights)):Has w (Ints (zav S n).a (zav S n).s.heights):=by
 by_cases h0:0≤zaS S n
 ·exact h _ (zgp h0)
 ·unfold zav
  rw [if_neg h0]
  exact⟨fun _=>False,fun _ hk=>hk.elim,.inl rfl⟩
theorem zrs {S:List ShC} {n:ByteArray} {P:ShC→Prop} (h:∀ z∈S,P z) (hd:P default):P (zav S n):=by
 by_cases h0:0≤zaS S n
 ·exact h _ (zgp h0)
 ·unfold zav; rw [if_neg h0]; exact hd
theorem zh2 {α:Type} [Inhabited α] {p:α→Bool} {l:List α} {i:Int} (h0:0≤i) (h1:i < (l.length:Int)) (hp:p (l.getD i.toNat default)=true):decide (zbJ p l=i) = !(l.take i.toNat).any p:=by
 rw [Bool.eq_iff_iff,decide_eq_true_eq,Bool.not_eq_true',List.any_eq_false]
 constructor
 ·intro h x hx
  obtain⟨j,hj,rfl⟩:=List.getElem_of_mem hx
  rw [List.length_take] at hj
  rw [List.getElem_take]
  have hany:l.any p=true:=List.any_eq_true.2 ⟨_,za0 (by omega),hp⟩
  unfold zbJ at h
  rw [if_pos hany] at h
  have:=List.not_of_lt_findIdx (p:=p) (xs:=l) (i:=j) (by omega)
  simpa using this
 ·intro h
  refine zcs h0 h1 (fun j hj=>?_) hp
  have:=h (l.getD j default) (by
   rw [List.getD_eq_getElem?_getD,List.getElem?_eq_getElem (by omega)]
   exact List.mem_take_iff_getElem.2 ⟨j,by omega,rfl⟩)
  simpa using this
theorem ztM {α:Type} [Inhabited α] {p:α→Bool} {l:List α} {i:Int} (h0:0≤i) (h1:i < (l.length:Int)) (hp:p (l.getD i.toNat default)=true):decide (zbJ p l < i) = !decide (zbJ p l=i):=by
 have hany:l.any p=true:=List.any_eq_true.2 ⟨_,za0 (by omega),hp⟩
 have hle:(l.findIdx p:Int)≤i:=by
  have:l.findIdx p≤i.toNat:=by
   rcases Nat.lt_or_ge i.toNat (l.findIdx p) with g | g
   ·have:=List.not_of_lt_findIdx g
    rw [List.getD_eq_getElem?_getD,List.getElem?_eq_getElem (by omega)] at hp
    simp at hp
    simp [hp] at this
   ·exact g
  omega
 unfold zbJ
 rw [if_pos hany,Bool.eq_iff_iff,decide_eq_true_eq,Bool.not_eq_true',decide_eq_false_iff_not]
 omega
def shAt (S:List ShC) (i:Nat):Bool:=!(S.take i).any (fun z=>z.s.name.toList == (S.getD i default).s.name.toList)&&za4 (S.getD i default).s
def wlAt (S:List ShC) (V:List WlC) (i:Nat):Bool:=decide (0≤zaS S (V.getD i default).s.sheet)&&!(V.take i).any (fun z=>z.s.name.toList == (V.getD i default).s.name.toList)&&zd1 (zav S (V.getD i default).s.sheet).s.height (V.getD i default).s
def zc4 (S:List ShC) (V:List WlC):Bool:=!(decide (20 < (S.length:Int))||decide (50 < (V.length:Int)))&&allI S.length (shAt S)&&allI V.length (wlAt S V)
def zeW (S:List ShC) (V:List WlC):Int:=if zc4 S V=true then 0 else 2
end Go.Pln
namespace Go.Proofs.YtdcfcfhmkfkgmaaGreatDoor
open Go.K Go.Stn Go.Pln Go.RowKit
theorem tf28:TF Tryz.prog 28 false 1 (.slice none 0 0):=⟨by kernel_rfl,by kernel_rfl⟩
theorem tf29:TF Tryz.prog 29 false 1 (.slice none 0 0):=⟨by kernel_rfl,by kernel_rfl⟩
theorem tf49:TF Tryz.prog 49 true 2 (.agg #[.int IntKind.i64 0,.int IntKind.i64 0]):=⟨by kernel_rfl,by kernel_rfl⟩
theorem tf69:TF Tryz.prog 69 true 2 (.agg #[.int IntKind.i64 0,.int IntKind.i64 0]):=⟨by kernel_rfl,by kernel_rfl⟩
theorem tf92:TF Tryz.prog 92 false 1 (.slice none 0 0):=⟨by kernel_rfl,by kernel_rfl⟩
theorem tf94:TF Tryz.prog 94 true 4 (.agg #[.string ⟨#[]⟩,.string ⟨#[]⟩,.int IntKind.i64 0,.slice none 0 0]):=⟨by kernel_rfl,by kernel_rfl⟩
theorem tf98:TF Tryz.prog 98 true 5 (.agg #[.int IntKind.u8 0,.int IntKind.i64 0,.int IntKind.i64 0,.int IntKind.i64 0,.int IntKind.i64 0]):=⟨by kernel_rfl,by kernel_rfl⟩
theorem zeo:FO Tryz.prog 31 0 0:=⟨by kernel_rfl⟩
theorem zd7:FO Tryz.prog 31 1 1:=⟨by kernel_rfl⟩
theorem znh:FO Tryz.prog 94 0 0:=⟨by kernel_rfl⟩
theorem zgo:FO Tryz.prog 94 2 2:=⟨by kernel_rfl⟩
theorem zhe:FO Tryz.prog 94 3 3:=⟨by kernel_rfl⟩
theorem zpG:FO Tryz.prog 98 0 0:=⟨by kernel_rfl⟩
theorem zhf:FO Tryz.prog 98 1 1:=⟨by kernel_rfl⟩
theorem zji:FO Tryz.prog 98 2 2:=⟨by kernel_rfl⟩
theorem zfe:FO Tryz.prog 98 3 3:=⟨by kernel_rfl⟩
theorem zhg:FO Tryz.prog 98 4 4:=⟨by kernel_rfl⟩
theorem se28:SE Tryz.prog 28 41 20:=⟨Tryz.underlying28,by kernel_rfl⟩
theorem se29:SE Tryz.prog 29 94 4:=⟨Tryz.underlying29,by kernel_rfl⟩
theorem se59:SE Tryz.prog 59 69 2:=⟨Tryz.underlying59,by kernel_rfl⟩
theorem se92:SE Tryz.prog 92 98 5:=⟨Tryz.underlying92,by kernel_rfl⟩
theorem en73:En Tryz.prog 73:=za7 Tryz.func73 (by kernel_rfl) (by kernel_rfl)
theorem en74:En Tryz.prog 74:=za7 Tryz.func74 (by kernel_rfl) (by kernel_rfl)
theorem en75:En Tryz.prog 75:=za7 Tryz.func75 (by kernel_rfl) (by kernel_rfl)
theorem en76:En Tryz.prog 76:=za7 Tryz.func76 (by kernel_rfl) (by kernel_rfl)
theorem en77:En Tryz.prog 77:=za7 Tryz.func77 (by kernel_rfl) (by kernel_rfl)
theorem en78:En Tryz.prog 78:=za7 Tryz.func78 (by kernel_rfl) (by kernel_rfl)
theorem en79:En Tryz.prog 79:=za7 Tryz.func79 (by kernel_rfl) (by kernel_rfl)
theorem zvR:En Tryz.prog 104:=za7 Tryz.func104 (by kernel_rfl) (by kernel_rfl)
theorem zw9:En Tryz.prog 121:=za7 Tryz.func121 (by kernel_rfl) (by kernel_rfl)
theorem ztl  (w:World):(Instr.build 41 #[]).run Tryz.prog w=.ok (.agg #[.string ⟨#[]⟩,.int IntKind.i64 0,.int IntKind.i64 0,.int IntKind.i64 0,.int IntKind.i64 0,.slice none 0 0,.int IntKind.i64 0,.int IntKind.i64 0,.int IntKind.i64 0,.int IntKind.i64 0,.int IntKind.i64 0,.int IntKind.i64 0,.int IntKind.i64 0,.int IntKind.u8 0,.int IntKind.i64 0,.int IntKind.i64 0,.int IntKind.i64 0,.int IntKind.i64 0,.int IntKind.i64 0,.int IntKind.i64 0]) w:=by kernel_rfl
theorem ztq (x0_0:Int) (x0_1:Int) (x0_2:Int) (x1_0:Int) (x1_1:Int) (x1_2:Int) (x2_0:Int) (x2_1:Int) (x2_2:Int) (x3_0:Int) (x3_1:Int) (x3_2:Int) (x4_0:Int) (x4_1:Int) (x4_2:Int) (x5_0:Int) (x5_1:Int) (x5_2:Int) (w:World):(Instr.buildSlice 148 6 #[(0,.agg #[.int .i64 x0_0,.int .i64 x0_1,.int .i64 x0_2]),(1,.agg #[.int .i64 x1_0,.int .i64 x1_1,.int .i64 x1_2]),(2,.agg #[.int .i64 x2_0,.int .i64 x2_1,.int .i64 x2_2]),(3,.agg #[.int .i64 x3_0,.int .i64 x3_1,.int .i64 x3_2]),(4,.agg #[.int .i64 x4_0,.int .i64 x4_1,.int .i64 x4_2]),(5,.agg #[.int .i64 x5_0,.int .i64 x5_1,.int .i64 x5_2])]).run Tryz.prog w=.ok (.slice (some ⟨w.heap.size,0,none⟩) 6 6) (w.alloc (.cells (([⟨x0_0,x0_1,x0_2⟩,⟨x1_0,x1_1,x1_2⟩,⟨x2_0,x2_1,x2_2⟩,⟨x3_0,x3_1,x3_2⟩,⟨x4_0,x4_1,x4_2⟩,⟨x5_0,x5_1,x5_2⟩]:List (Lim)).flatMap zgk).toArray 117)):=by kernel_rfl
set_option maxRecDepth 100000 in
set_option maxHeartbeats 1000000 in
theorem zhj (a:Option Addr) (cap:Nat) (l:List Opn) (f:Opn→Bool) (gg:FuncId) (gfs gcap:List Value) (w:World) (hl:Has w (zaW a 5 zba l)) (hs:zaP l.length) (M:World→Prop) (hM:∀ w',Ext w w'→M w') (hen:En Tryz.prog gg) (hg:∀ (z:Opn) w',M w'→Calls Tryz.prog gg (gfs++[Value.agg #[.int .u8 z.kind,.int .i64 z.at_,.int .i64 z.width,.int .i64 z.frm,.int .i64 z.high]]++gcap).toArray w' (Pure (.bool (f z)) w')) :
  Calls Tryz.prog 104 #[.slice a l.length cap,.func (.func gg) gfs.toArray gcap.toArray] w (Pure (.int .i64 (zbJ f l)) w):=by
 refine zan (vs:=[_,_]) Tryz.func104 rfl rfl (Nat.le_of_ble_eq_true rfl) ?_
 refine zac ?_
 refine zaa ?_
 refine gQ (zad rfl) ?_
 refine zag (zae (T':=[(0,_),(1,_),(4,_)]) ⟨rfl,rfl,rfl,trivial⟩ ?_)
 refine zac ?_
 refine zac ?_
 refine zaa ?_
 refine gQ (zaf rfl) ?_
 refine gQ (zaV (Tryz.underlying92) rfl) ?_
 refine gQ (zaf rfl) ?_
 refine zag (zae (T':=[(0,_),(1,_),(4,_),(7,_),(8,_)]) ⟨rfl,rfl,rfl,rfl,rfl,trivial⟩ ?_)
 refine zas ?_
 refine zbf (X:=Int) (fun(i:Int)=>[(0,.slice a l.length cap),(1,.func (.func gg) gfs.toArray gcap.toArray),(4,.int .i64 0),(7,.int .i64 (l.length:Int)),(8,.int .i64 i)]) (fun(i:Int)=>[]) (fun(i:Int)=>(0≤i∧i≤l.length∧∀ j:Nat,(j:Int) < i→f (l.getD j default)=false)) (fun(i:Int)=>(l.length - i).toNat) 0 ⟨rfl,rfl,rfl,rfl,rfl,trivial⟩ rfl ?_ ?_
 ·exact⟨by omega,by omega,fun j hj=>by omega⟩
 ·rintro i hI
  obtain⟨g0,g1,g2⟩:=hI
  refine zac ?_
  refine zaa ?_
  refine gQ (zbw rfl rfl) ?_
  refine zag (zae (T':=[(0,_),(1,_),(4,_),(7,_),(8,_),(9,_)]) ⟨rfl,rfl,rfl,rfl,rfl,rfl,trivial⟩ ?_)
  refine zac ?_
  refine zap rfl (fun hc9=>?_) (fun hc9=>?_)
  ·simp only [decide_eq_true_eq] at hc9
   refine zaq ?_
   refine zac ?_
   refine zas ?_
   refine zac ?_
   refine zaa ?_
   refine gQ (zaf rfl) ?_
   refine gQ (zad rfl) ?_
   refine zag (zae (T':=[(0,_),(1,_),(4,_),(5,_),(7,_),(8,_)]) ⟨rfl,rfl,rfl,rfl,rfl,rfl,trivial⟩ ?_)
   refine zac ?_
   refine zaa ?_
   refine gQ (zaf rfl) ?_
   refine gQ (zaf rfl) ?_
   refine gQ (zaf rfl) ?_
   refine gQ (zaE se92 rfl rfl (fun _ hw=>(Rd.has (Has.rd hl) hw)) (by omega) (by omega)) ?_
   refine gQ (zbv (vs:=[_,_,_,_,_]) tf98 rfl (fun _ hw=>(Rd.has (Has.rd hl) hw)) (by omega) (by omega) rfl) ?_
   refine gQ (zde (fs:=gfs) (cap:=gcap) hen rfl rfl (fun w hw=>hg (l.getD (i).toNat default) w (hM _ hw.base.ext0))) ?_
   refine zag (zae (T':=[(0,_),(1,_),(4,_),(5,_),(7,_),(8,_),(16,_)]) ⟨rfl,rfl,rfl,rfl,rfl,rfl,rfl,trivial⟩ ?_)
   refine zap rfl (fun hc16=>?_) (fun hc16=>?_)
   ·
    refine zac ?_
    refine zaa ?_
    refine gQ (zaf rfl) ?_
    refine gQ (zad rfl) ?_
    refine zag (zae (T':=[(0,_),(1,_),(4,_),(7,_),(8,_)]) ⟨rfl,rfl,rfl,rfl,rfl,trivial⟩ ?_)
    refine zaw ?_
    refine zay (zaC rfl (zau rfl)) ?_
    exact congrArg _ (zcs g0 (by omega) g2 hc16).symm
   ·
    refine zaq ?_
    refine zaa ?_
    refine gQ (zaY rfl rfl (by omega) (by omega)) ?_
    refine gQ (zaf rfl) ?_
    refine zag (zae (T':=[(0,_),(1,_),(4,_),(7,_),(8,_)]) ⟨rfl,rfl,rfl,rfl,rfl,trivial⟩ ?_)
    exact za1 _ ⟨rfl,rfl,rfl,rfl,rfl,trivial⟩ rfl ⟨by omega,by omega,fun j hj=>if h:(j:Int) < i then g2 j h else(by rw [show j=i.toNat from by omega]; exact hc16)⟩ (by omega)
  ·simp only [decide_eq_false_iff_not] at hc9
   refine za8 rfl ?_
   refine zac ?_
   refine zaa ?_
   refine gQ (zad rfl) ?_
   refine zag (zae (T':=[(4,_)]) ⟨rfl,trivial⟩ ?_)
   refine zaw ?_
   refine zay (zaC rfl (zau rfl)) ?_
   exact congrArg _ (zck (fun j hj=>g2 j (by omega))).symm
set_option maxRecDepth 100000 in
set_option maxHeartbeats 1000000 in
theorem zhR (a:Option Addr) (cap:Nat) (l:List Opn) (f:Opn→Bool) (gg:FuncId) (gfs gcap:List Value) (w:World) (hl:Has w (zaW a 5 zba l)) (hs:zaP l.length) (M:World→Prop) (hM:∀ w',Ext w w'→M w') (hen:En Tryz.prog gg) (hg:∀ (z:Opn) w',M w'→Calls Tryz.prog gg (gfs++[Value.agg #[.int .u8 z.kind,.int .i64 z.at_,.int .i64 z.width,.int .i64 z.frm,.int .i64 z.high]]++gcap).toArray w' (Pure (.bool (f z)) w')) :
  Calls Tryz.prog 78 #[.slice a l.length cap,.func (.func gg) gfs.toArray gcap.toArray] w (Pure (.bool (l.any f)) w):=by
 refine zan (vs:=[_,_]) Tryz.func78 rfl rfl (Nat.le_of_ble_eq_true rfl) ?_
 refine zac ?_
 refine zaa ?_
 refine gQ (zad rfl) ?_
 refine zag (zae (T':=[(0,_),(1,_),(4,_)]) ⟨rfl,rfl,rfl,trivial⟩ ?_)
 refine zac ?_
 refine zaa ?_
 refine gQ (zaf rfl) ?_
 refine gQ (zaf rfl) ?_
 refine gQ (zaJ zvR rfl (fun w hw=>zhj _ _ l f _ _ _ w (Rd.has (Has.rd hl) hw) (by assumption) M (fun w' h=>hM w' (hw.base.ext0.trans h)) hen hg)) ?_
 refine gQ (zfx rfl rfl) ?_
 refine gQ (zad rfl) ?_
 refine zag (zae (T':=[(4,_)]) ⟨rfl,trivial⟩ ?_)
 refine zaw ?_
 refine zay (zaC rfl (zau rfl)) ?_
 rw [ze9]
set_option maxRecDepth 100000 in
set_option maxHeartbeats 1000000 in
theorem zld (a:Option Addr) (cap:Nat) (l:List ShC) (f:ShC→Bool) (gg:FuncId) (gfs gcap:List Value) (w:World) (hl:Has w (zaW a 20 zbH l)) (hs:zaP l.length) (M:World→Prop) (hM:∀ w',Ext w w'→M w') (hen:En Tryz.prog gg) (hg:∀ (z:ShC) w',M w'→Calls Tryz.prog gg (gfs++[Value.agg #[.string z.s.name,.int .i64 z.s.base,.int .i64 z.s.batter,.int .i64 z.s.height,.int .i64 z.s.skin,.slice z.a z.s.heights.length z.cap,.int .i64 z.s.least,.int .i64 z.s.lap,.int .i64 z.s.run,.int .i64 z.s.every,.int .i64 z.s.at_,.int .i64 z.s.footing,.int .i64 z.s.spread,.int .u8 z.s.cope,.int .i64 z.s.tall,.int .i64 z.s.short,.int .i64 z.s.thick,.int .i64 z.s.low,.int .i64 z.s.high,.int .i64 z.s.rood]]++gcap).toArray w' (Pure (.bool (f z)) w')) :
  Calls Tryz.prog 73 #[.slice a l.length cap,.func (.func gg) gfs.toArray gcap.toArray] w (Pure (.int .i64 (zbJ f l)) w):=by
 refine zan (vs:=[_,_]) Tryz.func73 rfl rfl (Nat.le_of_ble_eq_true rfl) ?_
 refine zac ?_
 refine zaa ?_
 refine gQ (zad rfl) ?_
 refine zag (zae (T':=[(0,_),(1,_),(4,_)]) ⟨rfl,rfl,rfl,trivial⟩ ?_)
 refine zac ?_
 refine zac ?_
 refine zaa ?_
 refine gQ (zaf rfl) ?_
 refine gQ (zaV (Tryz.underlying28) rfl) ?_
 refine gQ (zaf rfl) ?_
 refine zag (zae (T':=[(0,_),(1,_),(4,_),(7,_),(8,_)]) ⟨rfl,rfl,rfl,rfl,rfl,trivial⟩ ?_)
 refine zas ?_
 refine zbf (X:=Int) (fun(i:Int)=>[(0,.slice a l.length cap),(1,.func (.func gg) gfs.toArray gcap.toArray),(4,.int .i64 0),(7,.int .i64 (l.length:Int)),(8,.int .i64 i)]) (fun(i:Int)=>[]) (fun(i:Int)=>(0≤i∧i≤l.length∧∀ j:Nat,(j:Int) < i→f (l.getD j default)=false)) (fun(i:Int)=>(l.length - i).toNat) 0 ⟨rfl,rfl,rfl,rfl,rfl,trivial⟩ rfl ?_ ?_
 ·exact⟨by omega,by omega,fun j hj=>by omega⟩
 ·rintro i hI
  obtain⟨g0,g1,g2⟩:=hI
  refine zac ?_
  refine zaa ?_
  refine gQ (zbw rfl rfl) ?_
  refine zag (zae (T':=[(0,_),(1,_),(4,_),(7,_),(8,_),(9,_)]) ⟨rfl,rfl,rfl,rfl,rfl,rfl,trivial⟩ ?_)
  refine zac ?_
  refine zap rfl (fun hc9=>?_) (fun hc9=>?_)
  ·simp only [decide_eq_true_eq] at hc9
   refine zaq ?_
   refine zac ?_
   refine zas ?_
   refine zac ?_
   refine zaa ?_
   refine gQ (zaf rfl) ?_
   refine gQ (zad rfl) ?_
   refine zag (zae (T':=[(0,_),(1,_),(4,_),(5,_),(7,_),(8,_)]) ⟨rfl,rfl,rfl,rfl,rfl,rfl,trivial⟩ ?_)
   refine zac ?_
   refine zaa ?_
   refine gQ (zaf rfl) ?_
   refine gQ (zaf rfl) ?_
   refine gQ (zaf rfl) ?_
   refine gQ (zaE se28 rfl rfl (fun _ hw=>(Rd.has (Has.rd hl) hw)) (by omega) (by omega)) ?_
   refine gQ (zbv (vs:=[_,_,_,_,_,_,_,_,_,_,_,_,_,_,_,_,_,_,_,_]) tf41 rfl (fun _ hw=>(Rd.has (Has.rd hl) hw)) (by omega) (by omega) rfl) ?_
   refine gQ (zde (fs:=gfs) (cap:=gcap) hen rfl rfl (fun w hw=>hg (l.getD (i).toNat default) w (hM _ hw.base.ext0))) ?_
   refine zag (zae (T':=[(0,_),(1,_),(4,_),(5,_),(7,_),(8,_),(16,_)]) ⟨rfl,rfl,rfl,rfl,rfl,rfl,rfl,trivial⟩ ?_)
   refine zap rfl (fun hc16=>?_) (fun hc16=>?_)
   ·
    refine zac ?_
    refine zaa ?_
    refine gQ (zaf rfl) ?_
    refine gQ (zad rfl) ?_
    refine zag (zae (T':=[(0,_),(1,_),(4,_),(7,_),(8,_)]) ⟨rfl,rfl,rfl,rfl,rfl,trivial⟩ ?_)
    refine zaw ?_
    refine zay (zaC rfl (zau rfl)) ?_
    exact congrArg _ (zcs g0 (by omega) g2 hc16).symm
   ·
    refine zaq ?_
    refine zaa ?_
    refine gQ (zaY rfl rfl (by omega) (by omega)) ?_
    refine gQ (zaf rfl) ?_
    refine zag (zae (T':=[(0,_),(1,_),(4,_),(7,_),(8,_)]) ⟨rfl,rfl,rfl,rfl,rfl,trivial⟩ ?_)
    exact za1 _ ⟨rfl,rfl,rfl,rfl,rfl,trivial⟩ rfl ⟨by omega,by omega,fun j hj=>if h:(j:Int) < i then g2 j h else(by rw [show j=i.toNat from by omega]; exact hc16)⟩ (by omega)
  ·simp only [decide_eq_false_iff_not] at hc9
   refine za8 rfl ?_
   refine zac ?_
   refine zaa ?_
   refine gQ (zad rfl) ?_
   refine zag (zae (T':=[(4,_)]) ⟨rfl,trivial⟩ ?_)
   refine zaw ?_
   refine zay (zaC rfl (zau rfl)) ?_
   exact congrArg _ (zck (fun j hj=>g2 j (by omega))).symm
set_option maxRecDepth 100000 in
set_option maxHeartbeats 1000000 in
theorem zle (a:Option Addr) (cap:Nat) (l:List WlC) (f:WlC→Bool) (gg:FuncId) (gfs gcap:List Value) (w:World) (hl:Has w (zaW a 4 zbS l)) (hs:zaP l.length) (M:World→Prop) (hM:∀ w',Ext w w'→M w') (hen:En Tryz.prog gg) (hg:∀ (z:WlC) w',M w'→Calls Tryz.prog gg (gfs++[Value.agg #[.string z.s.name,.string z.s.sheet,.int .i64 z.s.length,.slice z.a z.s.opens.length z.cap]]++gcap).toArray w' (Pure (.bool (f z)) w')) :
  Calls Tryz.prog 75 #[.slice a l.length cap,.func (.func gg) gfs.toArray gcap.toArray] w (Pure (.int .i64 (zbJ f l)) w):=by
 refine zan (vs:=[_,_]) Tryz.func75 rfl rfl (Nat.le_of_ble_eq_true rfl) ?_
 refine zac ?_
 refine zaa ?_
 refine gQ (zad rfl) ?_
 refine zag (zae (T':=[(0,_),(1,_),(4,_)]) ⟨rfl,rfl,rfl,trivial⟩ ?_)
 refine zac ?_
 refine zac ?_
 refine zaa ?_
 refine gQ (zaf rfl) ?_
 refine gQ (zaV (Tryz.underlying29) rfl) ?_
 refine gQ (zaf rfl) ?_
 refine zag (zae (T':=[(0,_),(1,_),(4,_),(7,_),(8,_)]) ⟨rfl,rfl,rfl,rfl,rfl,trivial⟩ ?_)
 refine zas ?_
 refine zbf (X:=Int) (fun(i:Int)=>[(0,.slice a l.length cap),(1,.func (.func gg) gfs.toArray gcap.toArray),(4,.int .i64 0),(7,.int .i64 (l.length:Int)),(8,.int .i64 i)]) (fun(i:Int)=>[]) (fun(i:Int)=>(0≤i∧i≤l.length∧∀ j:Nat,(j:Int) < i→f (l.getD j default)=false)) (fun(i:Int)=>(l.length - i).toNat) 0 ⟨rfl,rfl,rfl,rfl,rfl,trivial⟩ rfl ?_ ?_
 ·exact⟨by omega,by omega,fun j hj=>by omega⟩
 ·rintro i hI
  obtain⟨g0,g1,g2⟩:=hI
  refine zac ?_
  refine zaa ?_
  refine gQ (zbw rfl rfl) ?_
  refine zag (zae (T':=[(0,_),(1,_),(4,_),(7,_),(8,_),(9,_)]) ⟨rfl,rfl,rfl,rfl,rfl,rfl,trivial⟩ ?_)
  refine zac ?_
  refine zap rfl (fun hc9=>?_) (fun hc9=>?_)
  ·simp only [decide_eq_true_eq] at hc9
   refine zaq ?_
   refine zac ?_
   refine zas ?_
   refine zac ?_
   refine zaa ?_
   refine gQ (zaf rfl) ?_
   refine gQ (zad rfl) ?_
   refine zag (zae (T':=[(0,_),(1,_),(4,_),(5,_),(7,_),(8,_)]) ⟨rfl,rfl,rfl,rfl,rfl,rfl,trivial⟩ ?_)
   refine zac ?_
   refine zaa ?_
   refine gQ (zaf rfl) ?_
   refine gQ (zaf rfl) ?_
   refine gQ (zaf rfl) ?_
   refine gQ (zaE se29 rfl rfl (fun _ hw=>(Rd.has (Has.rd hl) hw)) (by omega) (by omega)) ?_
   refine gQ (zbv (vs:=[_,_,_,_]) tf94 rfl (fun _ hw=>(Rd.has (Has.rd hl) hw)) (by omega) (by omega) rfl) ?_
   refine gQ (zde (fs:=gfs) (cap:=gcap) hen rfl rfl (fun w hw=>hg (l.getD (i).toNat default) w (hM _ hw.base.ext0))) ?_
   refine zag (zae (T':=[(0,_),(1,_),(4,_),(5,_),(7,_),(8,_),(16,_)]) ⟨rfl,rfl,rfl,rfl,rfl,rfl,rfl,trivial⟩ ?_)
   refine zap rfl (fun hc16=>?_) (fun hc16=>?_)
   ·
    refine zac ?_
    refine zaa ?_
    refine gQ (zaf rfl) ?_
    refine gQ (zad rfl) ?_
    refine zag (zae (T':=[(0,_),(1,_),(4,_),(7,_),(8,_)]) ⟨rfl,rfl,rfl,rfl,rfl,trivial⟩ ?_)
    refine zaw ?_
    refine zay (zaC rfl (zau rfl)) ?_
    exact congrArg _ (zcs g0 (by omega) g2 hc16).symm
   ·
    refine zaq ?_
    refine zaa ?_
    refine gQ (zaY rfl rfl (by omega) (by omega)) ?_
    refine gQ (zaf rfl) ?_
    refine zag (zae (T':=[(0,_),(1,_),(4,_),(7,_),(8,_)]) ⟨rfl,rfl,rfl,rfl,rfl,trivial⟩ ?_)
    exact za1 _ ⟨rfl,rfl,rfl,rfl,rfl,trivial⟩ rfl ⟨by omega,by omega,fun j hj=>if h:(j:Int) < i then g2 j h else(by rw [show j=i.toNat from by omega]; exact hc16)⟩ (by omega)
  ·simp only [decide_eq_false_iff_not] at hc9
   refine za8 rfl ?_
   refine zac ?_
   refine zaa ?_
   refine gQ (zad rfl) ?_
   refine zag (zae (T':=[(4,_)]) ⟨rfl,trivial⟩ ?_)
   refine zaw ?_
   refine zay (zaC rfl (zau rfl)) ?_
   exact congrArg _ (zck (fun j hj=>g2 j (by omega))).symm
set_option maxRecDepth 100000 in
set_option maxHeartbeats 1000000 in
theorem zla (a:Option Addr) (cap:Nat) (l:List Crs) (f:Crs→Bool) (gg:FuncId) (gfs gcap:List Value) (w:World) (hl:Has w (zaW a 2 zbq l)) (hs:zaP l.length) (M:World→Prop) (hM:∀ w',Ext w w'→M w') (hen:En Tryz.prog gg) (hg:∀ (z:Crs) w',M w'→Calls Tryz.prog gg (gfs++[Value.agg #[.int .i64 z.frm,.int .i64 z.to]]++gcap).toArray w' (Pure (.bool (f z)) w')) :
  Calls Tryz.prog 97 #[.slice a l.length cap,.func (.func gg) gfs.toArray gcap.toArray] w (Pure (.int .i64 (zbJ f l)) w):=by
 refine zan (vs:=[_,_]) Tryz.func97 rfl rfl (Nat.le_of_ble_eq_true rfl) ?_
 refine zac ?_
 refine zaa ?_
 refine gQ (zad rfl) ?_
 refine zag (zae (T':=[(0,_),(1,_),(4,_)]) ⟨rfl,rfl,rfl,trivial⟩ ?_)
 refine zac ?_
 refine zac ?_
 refine zaa ?_
 refine gQ (zaf rfl) ?_
 refine gQ (zaV (Tryz.underlying38) rfl) ?_
 refine gQ (zaf rfl) ?_
 refine zag (zae (T':=[(0,_),(1,_),(4,_),(7,_),(8,_)]) ⟨rfl,rfl,rfl,rfl,rfl,trivial⟩ ?_)
 refine zas ?_
 refine zbf (X:=Int) (fun(i:Int)=>[(0,.slice a l.length cap),(1,.func (.func gg) gfs.toArray gcap.toArray),(4,.int .i64 0),(7,.int .i64 (l.length:Int)),(8,.int .i64 i)]) (fun(i:Int)=>[]) (fun(i:Int)=>(0≤i∧i≤l.length∧∀ j:Nat,(j:Int) < i→f (l.getD j default)=false)) (fun(i:Int)=>(l.length - i).toNat) 0 ⟨rfl,rfl,rfl,rfl,rfl,trivial⟩ rfl ?_ ?_
 ·exact⟨by omega,by omega,fun j hj=>by omega⟩
 ·rintro i hI
  obtain⟨g0,g1,g2⟩:=hI
  refine zac ?_
  refine zaa ?_
  refine gQ (zbw rfl rfl) ?_
  refine zag (zae (T':=[(0,_),(1,_),(4,_),(7,_),(8,_),(9,_)]) ⟨rfl,rfl,rfl,rfl,rfl,rfl,trivial⟩ ?_)
  refine zac ?_
  refine zap rfl (fun hc9=>?_) (fun hc9=>?_)
  ·simp only [decide_eq_true_eq] at hc9
   refine zaq ?_
   refine zac ?_
   refine zas ?_
   refine zac ?_
   refine zaa ?_
   refine gQ (zaf rfl) ?_
   refine gQ (zad rfl) ?_
   refine zag (zae (T':=[(0,_),(1,_),(4,_),(5,_),(7,_),(8,_)]) ⟨rfl,rfl,rfl,rfl,rfl,rfl,trivial⟩ ?_)
   refine zac ?_
   refine zaa ?_
   refine gQ (zaf rfl) ?_
   refine gQ (zaf rfl) ?_
   refine gQ (zaf rfl) ?_
   refine gQ (zaE se38 rfl rfl (fun _ hw=>(Rd.has (Has.rd hl) hw)) (by omega) (by omega)) ?_
   refine gQ (zbv (vs:=[_,_]) tf49 rfl (fun _ hw=>(Rd.has (Has.rd hl) hw)) (by omega) (by omega) rfl) ?_
   refine gQ (zde (fs:=gfs) (cap:=gcap) hen rfl rfl (fun w hw=>hg (l.getD (i).toNat default) w (hM _ hw.base.ext0))) ?_
   refine zag (zae (T':=[(0,_),(1,_),(4,_),(5,_),(7,_),(8,_),(16,_)]) ⟨rfl,rfl,rfl,rfl,rfl,rfl,rfl,trivial⟩ ?_)
   refine zap rfl (fun hc16=>?_) (fun hc16=>?_)
   ·
    refine zac ?_
    refine zaa ?_
    refine gQ (zaf rfl) ?_
    refine gQ (zad rfl) ?_
    refine zag (zae (T':=[(0,_),(1,_),(4,_),(7,_),(8,_)]) ⟨rfl,rfl,rfl,rfl,rfl,trivial⟩ ?_)
    refine zaw ?_
    refine zay (zaC rfl (zau rfl)) ?_
    exact congrArg _ (zcs g0 (by omega) g2 hc16).symm
   ·
    refine zaq ?_
    refine zaa ?_
    refine gQ (zaY rfl rfl (by omega) (by omega)) ?_
    refine gQ (zaf rfl) ?_
    refine zag (zae (T':=[(0,_),(1,_),(4,_),(7,_),(8,_)]) ⟨rfl,rfl,rfl,rfl,rfl,trivial⟩ ?_)
    exact za1 _ ⟨rfl,rfl,rfl,rfl,rfl,trivial⟩ rfl ⟨by omega,by omega,fun j hj=>if h:(j:Int) < i then g2 j h else(by rw [show j=i.toNat from by omega]; exact hc16)⟩ (by omega)
  ·simp only [decide_eq_false_iff_not] at hc9
   refine za8 rfl ?_
   refine zac ?_
   refine zaa ?_
   refine gQ (zad rfl) ?_
   refine zag (zae (T':=[(4,_)]) ⟨rfl,trivial⟩ ?_)
   refine zaw ?_
   refine zay (zaC rfl (zau rfl)) ?_
   exact congrArg _ (zck (fun j hj=>g2 j (by omega))).symm
set_option maxRecDepth 100000 in
set_option maxHeartbeats 1000000 in
theorem zk9 (a:Option Addr) (cap:Nat) (l:List Crs) (f:Crs→Bool) (gg:FuncId) (gfs gcap:List Value) (w:World) (hl:Has w (zaW a 2 zbq l)) (hs:zaP l.length) (M:World→Prop) (hM:∀ w',Ext w w'→M w') (hen:En Tryz.prog gg) (hg:∀ (z:Crs) w',M w'→Calls Tryz.prog gg (gfs++[Value.agg #[.int .i64 z.frm,.int .i64 z.to]]++gcap).toArray w' (Pure (.bool (f z)) w')) :
  Calls Tryz.prog 121 #[.slice a l.length cap,.func (.func gg) gfs.toArray gcap.toArray] w (Pure (.int .i64 (zbJ f l)) w):=by
 refine zan (vs:=[_,_]) Tryz.func121 rfl rfl (Nat.le_of_ble_eq_true rfl) ?_
 refine zac ?_
 refine zaa ?_
 refine gQ (zad rfl) ?_
 refine zag (zae (T':=[(0,_),(1,_),(4,_)]) ⟨rfl,rfl,rfl,trivial⟩ ?_)
 refine zac ?_
 refine zac ?_
 refine zaa ?_
 refine gQ (zaf rfl) ?_
 refine gQ (zaV (Tryz.underlying59) rfl) ?_
 refine gQ (zaf rfl) ?_
 refine zag (zae (T':=[(0,_),(1,_),(4,_),(7,_),(8,_)]) ⟨rfl,rfl,rfl,rfl,rfl,trivial⟩ ?_)
 refine zas ?_
 refine zbf (X:=Int) (fun(i:Int)=>[(0,.slice a l.length cap),(1,.func (.func gg) gfs.toArray gcap.toArray),(4,.int .i64 0),(7,.int .i64 (l.length:Int)),(8,.int .i64 i)]) (fun(i:Int)=>[]) (fun(i:Int)=>(0≤i∧i≤l.length∧∀ j:Nat,(j:Int) < i→f (l.getD j default)=false)) (fun(i:Int)=>(l.length - i).toNat) 0 ⟨rfl,rfl,rfl,rfl,rfl,trivial⟩ rfl ?_ ?_
 ·exact⟨by omega,by omega,fun j hj=>by omega⟩
 ·rintro i hI
  obtain⟨g0,g1,g2⟩:=hI
  refine zac ?_
  refine zaa ?_
  refine gQ (zbw rfl rfl) ?_
  refine zag (zae (T':=[(0,_),(1,_),(4,_),(7,_),(8,_),(9,_)]) ⟨rfl,rfl,rfl,rfl,rfl,rfl,trivial⟩ ?_)
  refine zac ?_
  refine zap rfl (fun hc9=>?_) (fun hc9=>?_)
  ·simp only [decide_eq_true_eq] at hc9
   refine zaq ?_
   refine zac ?_
   refine zas ?_
   refine zac ?_
   refine zaa ?_
   refine gQ (zaf rfl) ?_
   refine gQ (zad rfl) ?_
   refine zag (zae (T':=[(0,_),(1,_),(4,_),(5,_),(7,_),(8,_)]) ⟨rfl,rfl,rfl,rfl,rfl,rfl,trivial⟩ ?_)
   refine zac ?_
   refine zaa ?_
   refine gQ (zaf rfl) ?_
   refine gQ (zaf rfl) ?_
   refine gQ (zaf rfl) ?_
   refine gQ (zaE se59 rfl rfl (fun _ hw=>(Rd.has (Has.rd hl) hw)) (by omega) (by omega)) ?_
   refine gQ (zbv (vs:=[_,_]) tf69 rfl (fun _ hw=>(Rd.has (Has.rd hl) hw)) (by omega) (by omega) rfl) ?_
   refine gQ (zde (fs:=gfs) (cap:=gcap) hen rfl rfl (fun w hw=>hg (l.getD (i).toNat default) w (hM _ hw.base.ext0))) ?_
   refine zag (zae (T':=[(0,_),(1,_),(4,_),(5,_),(7,_),(8,_),(16,_)]) ⟨rfl,rfl,rfl,rfl,rfl,rfl,rfl,trivial⟩ ?_)
   refine zap rfl (fun hc16=>?_) (fun hc16=>?_)
   ·
    refine zac ?_
    refine zaa ?_
    refine gQ (zaf rfl) ?_
    refine gQ (zad rfl) ?_
    refine zag (zae (T':=[(0,_),(1,_),(4,_),(7,_),(8,_)]) ⟨rfl,rfl,rfl,rfl,rfl,trivial⟩ ?_)
    refine zaw ?_
    refine zay (zaC rfl (zau rfl)) ?_
    exact congrArg _ (zcs g0 (by omega) g2 hc16).symm
   ·
    refine zaq ?_
    refine zaa ?_
    refine gQ (zaY rfl rfl (by omega) (by omega)) ?_
    refine gQ (zaf rfl) ?_
    refine zag (zae (T':=[(0,_),(1,_),(4,_),(7,_),(8,_)]) ⟨rfl,rfl,rfl,rfl,rfl,trivial⟩ ?_)
    exact za1 _ ⟨rfl,rfl,rfl,rfl,rfl,trivial⟩ rfl ⟨by omega,by omega,fun j hj=>if h:(j:Int) < i then g2 j h else(by rw [show j=i.toNat from by omega]; exact hc16)⟩ (by omega)
  ·simp only [decide_eq_false_iff_not] at hc9
   refine za8 rfl ?_
   refine zac ?_
   refine zaa ?_
   refine gQ (zad rfl) ?_
   refine zag (zae (T':=[(4,_)]) ⟨rfl,trivial⟩ ?_)
   refine zaw ?_
   refine zay (zaC rfl (zau rfl)) ?_
   exact congrArg _ (zck (fun j hj=>g2 j (by omega))).symm
set_option maxRecDepth 100000 in
set_option maxHeartbeats 1000000 in
theorem zhO (a:Option Addr) (cap:Nat) (l:List Crs) (f:Crs→Bool) (gg:FuncId) (gfs gcap:List Value) (w:World) (hl:Has w (zaW a 2 zbq l)) (hs:zaP l.length) (M:World→Prop) (hM:∀ w',Ext w w'→M w') (hen:En Tryz.prog gg) (hg:∀ (z:Crs) w',M w'→Calls Tryz.prog gg (gfs++[Value.agg #[.int .i64 z.frm,.int .i64 z.to]]++gcap).toArray w' (Pure (.bool (f z)) w')) :
  Calls Tryz.prog 99 #[.slice a l.length cap,.func (.func gg) gfs.toArray gcap.toArray] w (Pure (.bool (l.any f)) w):=by
 refine zan (vs:=[_,_]) Tryz.func99 rfl rfl (Nat.le_of_ble_eq_true rfl) ?_
 refine zac ?_
 refine zaa ?_
 refine gQ (zad rfl) ?_
 refine zag (zae (T':=[(0,_),(1,_),(4,_)]) ⟨rfl,rfl,rfl,trivial⟩ ?_)
 refine zac ?_
 refine zaa ?_
 refine gQ (zaf rfl) ?_
 refine gQ (zaf rfl) ?_
 refine gQ (zaJ zw9 rfl (fun w hw=>zk9 _ _ l f _ _ _ w (Rd.has (Has.rd hl) hw) (by assumption) M (fun w' h=>hM w' (hw.base.ext0.trans h)) hen hg)) ?_
 refine gQ (zfx rfl rfl) ?_
 refine gQ (zad rfl) ?_
 refine zag (zae (T':=[(4,_)]) ⟨rfl,trivial⟩ ?_)
 refine zaw ?_
 refine zay (zaC rfl (zau rfl)) ?_
 rw [ze9]
set_option maxRecDepth 100000 in
set_option maxHeartbeats 1000000 in
theorem zsi (z:ShC) (n:ByteArray) (b:Nat) (w:World) (hb:Has w (Box b [.string n] 9)) :
  Calls Tryz.prog 74 #[.agg #[.string z.s.name,.int .i64 z.s.base,.int .i64 z.s.batter,.int .i64 z.s.height,.int .i64 z.s.skin,.slice z.a z.s.heights.length z.cap,.int .i64 z.s.least,.int .i64 z.s.lap,.int .i64 z.s.run,.int .i64 z.s.every,.int .i64 z.s.at_,.int .i64 z.s.footing,.int .i64 z.s.spread,.int .u8 z.s.cope,.int .i64 z.s.tall,.int .i64 z.s.short,.int .i64 z.s.thick,.int .i64 z.s.low,.int .i64 z.s.high,.int .i64 z.s.rood],.pointer (some ⟨b,0,none⟩)] w (Pure (.bool (z.s.name.toList == n.toList)) w):=by
 refine zan (vs:=[_,_]) Tryz.func74 rfl rfl (Nat.le_of_ble_eq_true rfl) ?_
 refine zac ?_
 refine zaa ?_
 refine zaG rfl rfl (za3 (vs:=[_,_,_,_,_,_,_,_,_,_,_,_,_,_,_,_,_,_,_,_]) rfl rfl) fun b2=>?_
 refine gQ (zad rfl) ?_
 refine zag (zae (T':=[(1,_),(2,_),(3,_)]) ⟨rfl,rfl,rfl,trivial⟩ ?_)
 refine zac ?_
 refine zaa ?_
 refine gQ (zab znb rfl) ?_
 refine gQ (zah 0 tf9 rfl rfl rfl) ?_
 refine gQ (zbW tf9 rfl (fun _ hw=>zaQ (Rd.has (Has.rd hb) hw) rfl)) ?_
 refine gQ (zge rfl rfl) ?_
 refine gQ (zad rfl) ?_
 refine zag (zae (T':=[(3,_)]) ⟨rfl,trivial⟩ ?_)
 refine zaw ?_
 refine zay (zaC rfl (zau rfl)) ?_
 rfl
set_option maxRecDepth 100000 in
set_option maxHeartbeats 1000000 in
theorem zuP (z:WlC) (n:ByteArray) (b:Nat) (w:World) (hb:Has w (Box b [.string n] 9)) :
  Calls Tryz.prog 76 #[.agg #[.string z.s.name,.string z.s.sheet,.int .i64 z.s.length,.slice z.a z.s.opens.length z.cap],.pointer (some ⟨b,0,none⟩)] w (Pure (.bool (z.s.name.toList == n.toList)) w):=by
 refine zan (vs:=[_,_]) Tryz.func76 rfl rfl (Nat.le_of_ble_eq_true rfl) ?_
 refine zac ?_
 refine zaa ?_
 refine zaG rfl rfl (za3 (vs:=[_,_,_,_]) rfl rfl) fun b2=>?_
 refine gQ (zad rfl) ?_
 refine zag (zae (T':=[(1,_),(2,_),(3,_)]) ⟨rfl,rfl,rfl,trivial⟩ ?_)
 refine zac ?_
 refine zaa ?_
 refine gQ (zab znh rfl) ?_
 refine gQ (zah 0 tf9 rfl rfl rfl) ?_
 refine gQ (zbW tf9 rfl (fun _ hw=>zaQ (Rd.has (Has.rd hb) hw) rfl)) ?_
 refine gQ (zge rfl rfl) ?_
 refine gQ (zad rfl) ?_
 refine zag (zae (T':=[(3,_)]) ⟨rfl,trivial⟩ ?_)
 refine zaw ?_
 refine zay (zaC rfl (zau rfl)) ?_
 rfl
set_option maxRecDepth 100000 in
set_option maxHeartbeats 1000000 in
theorem zeu (a:Option Addr) (cap:Nat) (S:List ShC) (b:Option Addr) (nw bcap:Nat) (n:ByteArray) (w:World) (hl:Has w (zaW a 20 zbH S)) (hs:zaP S.length) :
  Calls Tryz.prog 46 #[.agg #[.slice a S.length cap,.slice b nw bcap],.string n] w (Pure (.tuple #[.agg (zbH (zav S n)).toArray,.bool (decide (0≤zaS S n))]) w):=by
 have hlt:=fun h=>ziE (S:=S) (n:=n) h
 refine zan (vs:=[_,_]) Tryz.func46 rfl rfl (Nat.le_of_ble_eq_true rfl) ?_
 refine zac ?_
 refine zaa ?_
 refine zaG rfl rfl (za3 (vs:=[_,_]) rfl rfl) fun b2=>?_
 refine zaG rfl rfl (za3 (vs:=[_]) rfl rfl) fun b3=>?_
 refine zaG rfl rfl (zaL tf41 (zs:=[_,_,_,_,_,_,_,_,_,_,_,_,_,_,_,_,_,_,_,_]) rfl) fun b4=>?_
 refine gQ (zad rfl) ?_
 refine zag (zae (T':=[(2,_),(3,_),(4,_),(5,_)]) ⟨rfl,rfl,rfl,rfl,trivial⟩ ?_)
 refine zac ?_
 refine zaa ?_
 refine gQ (zab zeo rfl) ?_
 refine gQ (zah 2 tf28 rfl rfl rfl) ?_
 refine gQ (zbO («as»:=[]) (bs:=[_]) rfl rfl) ?_
 refine gQ (zaJ en73 rfl (fun w hw=>show Calls _ _ _ w (Pure (.int .i64 (zaS S n)) w) from zld _ _ S (fun z=>z.s.name.toList == n.toList) 74 [] [.pointer (some ⟨b3,0,none⟩)] w (Rd.has (Has.rd hl) hw) (by assumption) (fun w'=>Has w' (Box b3 [.string n] 9)) (fun w' hx=>Has.ext (hw.has (p:=1) rfl) hx) en74 (fun z w' hm=>zsi z n b3 w' hm))) ?_
 refine gQ (zad rfl) ?_
 refine zag (zae (T':=[(2,_),(4,_),(5,_),(6,_)]) ⟨rfl,rfl,rfl,rfl,trivial⟩ ?_)
 refine zac ?_
 refine zac ?_
 refine zaa ?_
 refine gQ (zaf rfl) ?_
 refine gQ (zbw rfl rfl) ?_
 refine zag (zae (T':=[(2,_),(4,_),(5,_),(6,_),(12,_)]) ⟨rfl,rfl,rfl,rfl,rfl,trivial⟩ ?_)
 refine zap rfl (fun hc12=>?_) (fun hc12=>?_)
 ·have h0:¬ 0≤zaS S n:=by have:=of_decide_eq_true hc12; omega
  refine zac ?_
  refine zaa ?_
  refine gQ (zaI (parts:=[]) rfl ztl) ?_
  refine zbz 0 tf41 rfl rfl (vs:=[_,_,_,_,_,_,_,_,_,_,_,_,_,_,_,_,_,_,_,_]) rfl rfl rfl rfl rfl ?_
  refine gQ (zad rfl) ?_
  refine zag (zae (T':=[(2,_),(4,_),(5,_),(6,_)]) ⟨rfl,rfl,rfl,rfl,trivial⟩ ?_)
  refine zaw ?_
  refine zay (zc2 rfl (zbU (i:=0) (vs:=[.string ⟨#[]⟩,.int .i64 0,.int .i64 0,.int .i64 0,.int .i64 0,.slice none 0 0,.int .i64 0,.int .i64 0,.int .i64 0,.int .i64 0,.int .i64 0,.int .i64 0,.int .i64 0,.int .u8 0,.int .i64 0,.int .i64 0,.int .i64 0,.int .i64 0,.int .i64 0,.int .i64 0]) tf41 rfl rfl rfl rfl) (zau rfl)) ?_
  rw [show zav S n=default from if_neg h0,decide_eq_false h0]; rfl
 ·have h0:0≤zaS S n:=by have:=of_decide_eq_false hc12; omega
  have h1:=hlt h0
  refine zaq ?_
  refine zac ?_
  refine zaa ?_
  refine gQ (zab zeo rfl) ?_
  refine gQ (zah 2 tf28 rfl rfl rfl) ?_
  refine gQ (zaf rfl) ?_
  refine gQ (zaE se28 rfl rfl (fun _ hw=>(Rd.has (Has.rd hl) hw)) (by omega) (by omega)) ?_
  refine gQ (zbv (vs:=[_,_,_,_,_,_,_,_,_,_,_,_,_,_,_,_,_,_,_,_]) tf41 rfl (fun _ hw=>(Rd.has (Has.rd hl) hw)) (by omega) (by omega) rfl) ?_
  refine zbz 0 tf41 rfl rfl (vs:=[_,_,_,_,_,_,_,_,_,_,_,_,_,_,_,_,_,_,_,_]) rfl rfl rfl rfl rfl ?_
  refine gQ (zad rfl) ?_
  refine zag (zae (T':=[(4,_),(5,_)]) ⟨rfl,rfl,trivial⟩ ?_)
  refine zaw ?_
  refine zay (zc2 rfl (zbU (i:=0) (vs:=[.string (S.getD ((zaS S n)).toNat default).s.name,.int .i64 ((S.getD ((zaS S n)).toNat default).s.base),.int .i64 ((S.getD ((zaS S n)).toNat default).s.batter),.int .i64 ((S.getD ((zaS S n)).toNat default).s.height),.int .i64 ((S.getD ((zaS S n)).toNat default).s.skin),.slice (S.getD ((zaS S n)).toNat default).a (S.getD ((zaS S n)).toNat default).s.heights.length (S.getD ((zaS S n)).toNat default).cap,.int .i64 ((S.getD ((zaS S n)).toNat default).s.least),.int .i64 ((S.getD ((zaS S n)).toNat default).s.lap),.int .i64 ((S.getD ((zaS S n)).toNat default).s.run),.int .i64 ((S.getD ((zaS S n)).toNat default).s.every),.int .i64 ((S.getD ((zaS S n)).toNat default).s.at_),.int .i64 ((S.getD ((zaS S n)).toNat default).s.footing),.int .i64 ((S.getD ((zaS S n)).toNat default).s.spread),.int .u8 (S.getD ((zaS S n)).toNat default).s.cope,.int .i64 ((S.getD ((zaS S n)).toNat default).s.tall),.int .i64 ((S.getD ((zaS S n)).toNat default).s.short),.int .i64 ((S.getD ((zaS S n)).toNat default).s.thick),.int .i64 ((S.getD ((zaS S n)).toNat default).s.low),.int .i64 ((S.getD ((zaS S n)).toNat default).s.high),.int .i64 ((S.getD ((zaS S n)).toNat default).s.rood)]) tf41 rfl rfl rfl rfl) (zau rfl)) ?_
  rw [show zav S n=S.getD (zaS S n).toNat default from if_pos h0,decide_eq_true h0]
set_option maxRecDepth 100000 in
set_option maxHeartbeats 1000000 in
theorem zkg (a:Option Addr) (ns cap:Nat) (b:Option Addr) (bcap:Nat) (V:List WlC) (n:ByteArray) (w:World) (hlw:Has w (zaW b 4 zbS V)) (hsw:zaP V.length) :
  Calls Tryz.prog 47 #[.agg #[.slice a ns cap,.slice b V.length bcap],.string n] w (Pure (.int .i64 (zaM V n)) w):=by
 refine zan (vs:=[_,_]) Tryz.func47 rfl rfl (Nat.le_of_ble_eq_true rfl) ?_
 refine zac ?_
 refine zaa ?_
 refine zaG rfl rfl (za3 (vs:=[_,_]) rfl rfl) fun b2=>?_
 refine zaG rfl rfl (za3 (vs:=[_]) rfl rfl) fun b3=>?_
 refine gQ (zad rfl) ?_
 refine zag (zae (T':=[(2,_),(3,_),(4,_)]) ⟨rfl,rfl,rfl,trivial⟩ ?_)
 refine zac ?_
 refine zaa ?_
 refine gQ (zab zd7 rfl) ?_
 refine gQ (zah 1 tf29 rfl rfl rfl) ?_
 refine gQ (zbO («as»:=[]) (bs:=[_]) rfl rfl) ?_
 refine gQ (zaJ en75 rfl (fun w hw=>show Calls _ _ _ w (Pure (.int .i64 (zaM V n)) w) from zle _ _ V (fun z=>z.s.name.toList == n.toList) 76 [] [.pointer (some ⟨b3,0,none⟩)] w (Rd.has (Has.rd hlw) hw) (by assumption) (fun w'=>Has w' (Box b3 [.string n] 9)) (fun w' hx=>Has.ext (hw.has (p:=0) rfl) hx) en76 (fun z w' hm=>zuP z n b3 w' hm))) ?_
 refine gQ (zad rfl) ?_
 refine zag (zae (T':=[(4,_)]) ⟨rfl,trivial⟩ ?_)
 refine zaw ?_
 refine zay (zaC rfl (zau rfl)) ?_
 rfl
set_option maxRecDepth 100000 in
set_option maxHeartbeats 1000000 in
theorem zvW (o:Opn) (b:Option Addr) (bcap:Nat) (v:Wll) (a:Option Addr) (cap:Nat) (s:Sht) (w:World) (hk:Knd o) (hlen:1≤v.length∧v.length≤100000) (hh:0≤s.height∧s.height≤3000) :
  Calls Tryz.prog 77 #[.agg #[.int .u8 o.kind,.int .i64 o.at_,.int .i64 o.width,.int .i64 o.frm,.int .i64 o.high],.agg #[.string v.name,.string v.sheet,.int .i64 v.length,.slice b v.opens.length bcap],.agg #[.string s.name,.int .i64 s.base,.int .i64 s.batter,.int .i64 s.height,.int .i64 s.skin,.slice a s.heights.length cap,.int .i64 s.least,.int .i64 s.lap,.int .i64 s.run,.int .i64 s.every,.int .i64 s.at_,.int .i64 s.footing,.int .i64 s.spread,.int .u8 s.cope,.int .i64 s.tall,.int .i64 s.short,.int .i64 s.thick,.int .i64 s.low,.int .i64 s.high,.int .i64 s.rood]] w (Pure (.bool (zfY v.length s.height o)) w):=by
 refine zan (vs:=[_,_,_]) Tryz.func77 rfl rfl (Nat.le_of_ble_eq_true rfl) ?_
 refine zac ?_
 refine zaa ?_
 refine zaG rfl rfl (za3 (vs:=[_,_,_,_,_]) rfl rfl) fun b3=>?_
 refine zaG rfl rfl (za3 (vs:=[_,_,_,_]) rfl rfl) fun b4=>?_
 refine zaG rfl rfl (za3 (vs:=[_,_,_,_,_,_,_,_,_,_,_,_,_,_,_,_,_,_,_,_]) rfl rfl) fun b5=>?_
 refine gQ (zad rfl) ?_
 refine zag (zae (T':=[(3,_),(4,_),(5,_),(6,_)]) ⟨rfl,rfl,rfl,rfl,trivial⟩ ?_)
 refine zac ?_
 refine zac ?_
 refine zaa ?_
 refine gQ (zab zpG rfl) ?_
 refine gQ (zah 2 tf5 rfl rfl rfl) ?_
 refine gQ (ziU (by kernel_rfl) (Tryz.underlying3) rfl) ?_
 refine gQ (zaI rfl (zaF _ _ _)) ?_
 refine gQ (zab zgo rfl) ?_
 refine gQ (zah 1 tf3 rfl rfl rfl) ?_
 refine gQ (zaI rfl (zaF _ _ _)) ?_
 refine gQ (zab zji rfl) ?_
 refine gQ (zah 2 tf3 rfl rfl rfl) ?_
 refine gQ (zab zgo rfl) ?_
 refine gQ (zah 1 tf3 rfl rfl rfl) ?_
 refine gQ (zaI rfl (zaF _ _ _)) ?_
 refine gQ (zab zhf rfl) ?_
 refine gQ (zah 2 tf3 rfl rfl rfl) ?_
 refine gQ (zab zgo rfl) ?_
 refine gQ (zah 1 tf3 rfl rfl rfl) ?_
 refine gQ (zab zji rfl) ?_
 refine gQ (zah 2 tf3 rfl rfl rfl) ?_
 refine gQ (ziW rfl rfl) ?_
 refine gQ (zaI rfl (zaF _ _ _)) ?_
 refine gQ (zab zhg rfl) ?_
 refine gQ (zah 2 tf3 rfl rfl rfl) ?_
 refine gQ (zab zep rfl) ?_
 refine gQ (zah 0 tf3 rfl rfl rfl) ?_
 refine gQ (zaI rfl (zaF _ _ _)) ?_
 refine gQ (zab zfe rfl) ?_
 refine gQ (zah 2 tf3 rfl rfl rfl) ?_
 refine gQ (zab zep rfl) ?_
 refine gQ (zah 0 tf3 rfl rfl rfl) ?_
 refine gQ (zab zhg rfl) ?_
 refine gQ (zah 2 tf3 rfl rfl rfl) ?_
 refine gQ (ziW rfl rfl) ?_
 refine gQ (zaI rfl (zaF _ _ _)) ?_
 refine zaG rfl rfl (zaD rfl (ztq _ _ _ _ _ _ _ _ _ _ _ _ _ _ _ _ _ _) zbM rfl) fun b41=>?_
 refine gQ (zaJ en53 rfl (fun w hw=>zfT _ _ ([(⟨(IntKind.i64.wrap o.kind),1,4⟩:Lim),(⟨v.length,1,100000⟩:Lim),(⟨o.width,1,v.length⟩:Lim),(⟨o.at_,0,(IntKind.i64.wrap (v.length - o.width))⟩:Lim),(⟨o.high,1,s.height⟩:Lim),(⟨o.frm,0,(IntKind.i64.wrap (s.height - o.high))⟩:Lim)]) w (zam zbM (hw.has (p:=0) rfl)) (by simp [zaP]))) ?_
 refine gQ (zbR rfl) ?_
 refine zag (zae (T':=[(3,_),(5,_),(6,_),(43,_)]) ⟨rfl,rfl,rfl,rfl,trivial⟩ ?_)
 refine zap rfl (fun hc43=>?_) (fun hc43=>?_)
 ·have hf:=ztO hk hlen hh hc43
  refine zac ?_
  refine zaa ?_
  refine gQ (zad rfl) ?_
  refine zag (zae (T':=[(3,_),(5,_),(6,_)]) ⟨rfl,rfl,rfl,trivial⟩ ?_)
  refine zaw ?_
  refine zay (zaC rfl (zau rfl)) ?_
  rw [hf]
 ·have hf:=zrq hk hlen hh hc43
  have hF:=(zh4 hk hlen hh).1 (zll hc43)
  refine zaq ?_
  refine zac ?_
  refine zaa ?_
  refine gQ (zab zfe rfl) ?_
  refine gQ (zah 3 tf3 rfl rfl rfl) ?_
  refine gQ (zab zhg rfl) ?_
  refine gQ (zah 3 tf3 rfl rfl rfl) ?_
  refine gQ (zaY rfl rfl (by omega) (by omega)) ?_
  refine gQ (zab zep rfl) ?_
  refine gQ (zah 1 tf3 rfl rfl rfl) ?_
  refine gQ (zbL rfl rfl) ?_
  refine gQ (zad rfl) ?_
  refine zag (zae (T':=[(3,_),(6,_),(7,_)]) ⟨rfl,rfl,rfl,trivial⟩ ?_)
  refine zac ?_
  refine zbb 20 (fun _=>mixed) (by kernel_rfl) ?_
  refine ph_y (zab zpG rfl) ?_
  refine ph_y (zah 3 tf5 rfl rfl rfl) ?_
  refine ph_y (zcr rfl rfl) ?_
  refine ph_y (zaf rfl) ?_
  refine zaz rfl rfl (fun hgd=>by(try rw [hgd]); exact(zaf rfl)) ?_
  refine ph_y (zaR rfl rfl rfl) ?_
  refine ph_y (zaf rfl) ?_
  refine zaH rfl rfl (fun hgd=>by(try rw [hgd]); exact(zab zpG rfl)) ?_
  refine zaH rfl rfl (fun hgd=>by(try rw [hgd]); exact(zah 3 tf5 rfl rfl rfl)) ?_
  refine zaH rfl rfl (fun hgd=>by(try rw [hgd]); exact(zcr rfl rfl)) ?_
  refine zaH rfl rfl (fun hgd=>by(try rw [hgd]); exact(zaf rfl)) ?_
  refine zc0 rfl rfl (fun hgd=>by(try rw [hgd]); exact(zaf rfl)) ?_
  refine zc0 rfl rfl (fun hgd=>by(try rw [hgd]); exact(zaf rfl)) ?_
  refine zdr rfl rfl (fun hgd=>by(try rw [hgd]); exact(zab zfe rfl)) ?_
  refine zdr rfl rfl (fun hgd=>by(try rw [hgd]); exact(zah 3 tf3 rfl rfl rfl)) ?_
  refine zdr rfl rfl (fun hgd=>by(try rw [hgd]); exact(zbL rfl rfl)) ?_
  refine zc0 rfl rfl (fun hgd=>by(try rw [hgd]); exact(zaX rfl rfl rfl)) ?_
  refine zaH rfl rfl (fun hgd=>by(try rw [hgd]); exact(zaR rfl rfl rfl)) ?_
  refine ph_y (zaX rfl rfl rfl) ?_
  refine ph_y (zad rfl) ?_
  refine zag (zae (T':=[(6,_)]) ⟨rfl,trivial⟩ ?_)
  refine zaw ?_
  refine zay (zaC rfl (zau rfl)) ?_
  rw [hf]
set_option maxRecDepth 100000 in
set_option maxHeartbeats 1000000 in
theorem zug (o p:Opn) (w:World)  :
  Calls Tryz.prog 79 #[.agg #[.int .u8 o.kind,.int .i64 o.at_,.int .i64 o.width,.int .i64 o.frm,.int .i64 o.high],.agg #[.int .u8 p.kind,.int .i64 p.at_,.int .i64 p.width,.int .i64 p.frm,.int .i64 p.high]] w (Pure (.bool (zhk o p)) w):=by
 refine zan (vs:=[_,_]) Tryz.func79 rfl rfl (Nat.le_of_ble_eq_true rfl) ?_
 refine zac ?_
 refine zaa ?_
 refine zaG rfl rfl (za3 (vs:=[_,_,_,_,_]) rfl rfl) fun b2=>?_
 refine zaG rfl rfl (za3 (vs:=[_,_,_,_,_]) rfl rfl) fun b3=>?_
 refine gQ (zad rfl) ?_
 refine zag (zae (T':=[(2,_),(3,_),(4,_)]) ⟨rfl,rfl,rfl,trivial⟩ ?_)
 refine zac ?_
 refine zbb 39 (fun _=>mixed) (by kernel_rfl) ?_
 refine ph_y (zab zhf rfl) ?_
 refine ph_y (zah 1 tf3 rfl rfl rfl) ?_
 refine ph_y (zab zhf rfl) ?_
 refine ph_y (zah 0 tf3 rfl rfl rfl) ?_
 refine ph_y (zab zji rfl) ?_
 refine ph_y (zah 0 tf3 rfl rfl rfl) ?_
 refine ph_y (zfw rfl rfl) ?_
 refine ph_y (zbw rfl rfl) ?_
 refine ph_y (zaf rfl) ?_
 refine zaH rfl rfl (fun hgd=>by(try rw [hgd]); exact(zab zhf rfl)) ?_
 refine zaH rfl rfl (fun hgd=>by(try rw [hgd]); exact(zah 0 tf3 rfl rfl rfl)) ?_
 refine zaH rfl rfl (fun hgd=>by(try rw [hgd]); exact(zab zhf rfl)) ?_
 refine zaH rfl rfl (fun hgd=>by(try rw [hgd]); exact(zah 1 tf3 rfl rfl rfl)) ?_
 refine zaH rfl rfl (fun hgd=>by(try rw [hgd]); exact(zab zji rfl)) ?_
 refine zaH rfl rfl (fun hgd=>by(try rw [hgd]); exact(zah 1 tf3 rfl rfl rfl)) ?_
 refine zaH rfl rfl (fun hgd=>by(try rw [hgd]); exact(zfw rfl rfl)) ?_
 refine zaH rfl rfl (fun hgd=>by(try rw [hgd]); exact(zbw rfl rfl)) ?_
 refine ph_y (zaX rfl rfl rfl) ?_
 refine ph_y (zaf rfl) ?_
 refine zaH rfl rfl (fun hgd=>by(try rw [hgd]); exact(zab zfe rfl)) ?_
 refine zaH rfl rfl (fun hgd=>by(try rw [hgd]); exact(zah 1 tf3 rfl rfl rfl)) ?_
 refine zaH rfl rfl (fun hgd=>by(try rw [hgd]); exact(zab zfe rfl)) ?_
 refine zaH rfl rfl (fun hgd=>by(try rw [hgd]); exact(zah 0 tf3 rfl rfl rfl)) ?_
 refine zaH rfl rfl (fun hgd=>by(try rw [hgd]); exact(zab zhg rfl)) ?_
 refine zaH rfl rfl (fun hgd=>by(try rw [hgd]); exact(zah 0 tf3 rfl rfl rfl)) ?_
 refine zaH rfl rfl (fun hgd=>by(try rw [hgd]); exact(zfw rfl rfl)) ?_
 refine zaH rfl rfl (fun hgd=>by(try rw [hgd]); exact(zbw rfl rfl)) ?_
 refine ph_y (zaX rfl rfl rfl) ?_
 refine ph_y (zaf rfl) ?_
 refine zaH rfl rfl (fun hgd=>by(try rw [hgd]); exact(zab zfe rfl)) ?_
 refine zaH rfl rfl (fun hgd=>by(try rw [hgd]); exact(zah 0 tf3 rfl rfl rfl)) ?_
 refine zaH rfl rfl (fun hgd=>by(try rw [hgd]); exact(zab zfe rfl)) ?_
 refine zaH rfl rfl (fun hgd=>by(try rw [hgd]); exact(zah 1 tf3 rfl rfl rfl)) ?_
 refine zaH rfl rfl (fun hgd=>by(try rw [hgd]); exact(zab zhg rfl)) ?_
 refine zaH rfl rfl (fun hgd=>by(try rw [hgd]); exact(zah 1 tf3 rfl rfl rfl)) ?_
 refine zaH rfl rfl (fun hgd=>by(try rw [hgd]); exact(zfw rfl rfl)) ?_
 refine zaH rfl rfl (fun hgd=>by(try rw [hgd]); exact(zbw rfl rfl)) ?_
 refine ph_y (zaX rfl rfl rfl) ?_
 refine ph_y (zad rfl) ?_
 refine zag (zae (T':=[(4,_)]) ⟨rfl,trivial⟩ ?_)
 refine zaw ?_
 refine zay (zaC rfl (zau rfl)) ?_
 rfl
set_option maxRecDepth 100000 in
set_option maxHeartbeats 4000000 in
theorem zmI (b:Option Addr) (bcap:Nat) (v:Wll) (a:Option Addr) (cap:Nat) (s:Sht) (w:World) (hv:Has w (zaW b 5 zba v.opens)) (hcap:v.opens.length≤bcap) (hsv:zaP v.opens.length) (hkn:∀ o∈v.opens,Knd o) (hh:0≤s.height∧s.height≤3000) :
  Calls Tryz.prog 48 #[.agg #[.string v.name,.string v.sheet,.int .i64 v.length,.slice b v.opens.length bcap],.agg #[.string s.name,.int .i64 s.base,.int .i64 s.batter,.int .i64 s.height,.int .i64 s.skin,.slice a s.heights.length cap,.int .i64 s.least,.int .i64 s.lap,.int .i64 s.run,.int .i64 s.every,.int .i64 s.at_,.int .i64 s.footing,.int .i64 s.spread,.int .u8 s.cope,.int .i64 s.tall,.int .i64 s.short,.int .i64 s.thick,.int .i64 s.low,.int .i64 s.high,.int .i64 s.rood]] w (Pure (.bool (zd1 s.height v)) w):=by
 refine zan (vs:=[_,_]) Tryz.func48 rfl rfl (Nat.le_of_ble_eq_true rfl) ?_
 refine zac ?_
 refine zaa ?_
 refine zaG rfl rfl (za3 (vs:=[_,_,_,_]) rfl rfl) fun b2=>?_
 refine zaG rfl rfl (za3 (vs:=[_,_,_,_,_,_,_,_,_,_,_,_,_,_,_,_,_,_,_,_]) rfl rfl) fun b3=>?_
 refine gQ (zad rfl) ?_
 refine zag (zae (T':=[(2,_),(3,_),(4,_)]) ⟨rfl,rfl,rfl,trivial⟩ ?_)
 refine zih (X:=Unit) (fun _=>[(2,.pointer (some ⟨b2,0,none⟩)),(3,.pointer (some ⟨b3,0,none⟩))]) (fun _=>[Box b3 [.string s.name,.int .i64 s.base,.int .i64 s.batter,.int .i64 s.height,.int .i64 s.skin,.slice a s.heights.length cap,.int .i64 s.least,.int .i64 s.lap,.int .i64 s.run,.int .i64 s.every,.int .i64 s.at_,.int .i64 s.footing,.int .i64 s.spread,.int .u8 s.cope,.int .i64 s.tall,.int .i64 s.short,.int .i64 s.thick,.int .i64 s.low,.int .i64 s.high,.int .i64 s.rood] 41,Box b2 [.string v.name,.string v.sheet,.int .i64 v.length,.slice b v.opens.length bcap] 94]) (fun _=>zfP v=true) ?_ ?_
 ·
  refine zac ?_
  refine zaa ?_
  refine gQ (zab znh rfl) ?_
  refine gQ (zah 1 tf9 rfl rfl rfl) ?_
  refine gQ (zaJ en55 rfl (fun w hw=>zmo _ w)) ?_
  refine gQ (zbR rfl) ?_
  refine gQ (zaf rfl) ?_
  refine zai rfl rfl rfl rfl (fun hg11=>?_) (fun hg11=>?_)
  ·replace hg11:_=false:=hg11
   try rw [hg11]
   refine gQ (zab zgo rfl) ?_
   refine zai rfl rfl rfl rfl (fun _=>?_) (fun h=>absurd h (by decide))
   refine gQ (zah 1 tf3 rfl rfl rfl) ?_
   refine zai rfl rfl rfl rfl (fun _=>?_) (fun h=>absurd h (by decide))
   refine gQ (zaI rfl (zaF _ _ _)) ?_
   refine zai rfl rfl rfl rfl (fun _=>?_) (fun h=>absurd h (by decide))
   refine gQ (zab zhe rfl) ?_
   refine zai rfl rfl rfl rfl (fun _=>?_) (fun h=>absurd h (by decide))
   refine gQ (zah 1 tf92 rfl rfl rfl) ?_
   refine zai rfl rfl rfl rfl (fun _=>?_) (fun h=>absurd h (by decide))
   refine gQ (zaV (Tryz.underlying92) rfl) ?_
   refine zai rfl rfl rfl rfl (fun _=>?_) (fun h=>absurd h (by decide))
   refine gQ (zaI rfl (zaF _ _ _)) ?_
   refine zai rfl rfl rfl rfl (fun _=>?_) (fun h=>absurd h (by decide))
   refine zaG rfl rfl (zaD rfl (zlS _ _ _ _ _ _) zbM rfl) fun b19=>?_
   refine zai rfl rfl rfl rfl (fun _=>?_) (fun h=>absurd h (by decide))
   refine gQ (zaJ en53 rfl (fun w hw=>zfT _ _ ([(⟨v.length,1,100000⟩:Lim),(⟨(v.opens.length:Int),0,20⟩:Lim)]) w (zam zbM (hw.has (p:=0) rfl)) (by simp [zaP]))) ?_
   refine zai rfl rfl rfl rfl (fun _=>?_) (fun h=>absurd h (by decide))
   refine gQ (zbR rfl) ?_
   refine gQ (za5 rfl rfl rfl) ?_
   refine zag (zae (T':=[(2,_),(3,_),(4,_),(22,_)]) ⟨rfl,rfl,rfl,rfl,trivial⟩ ?_)
   refine zap rfl (fun hc22=>?_) (fun hc22=>?_)
   ·have hw0:zfP v=false:=by rw [zmJ]; rw [show(!zhr _)=true from hc22]; simp
    refine zac ?_
    refine zaa ?_
    refine gQ (zad rfl) ?_
    refine zag (zae (T':=[(2,_),(3,_),(4,_)]) ⟨rfl,rfl,rfl,trivial⟩ ?_)
    refine zaw ?_
    refine zay (zaC rfl (zau rfl)) ?_
    rw [zkz hw0]
   ·have hw0:zfP v=true:=by rw [zmJ]; rw [show(!zgx _)=false from hg11,show(!zhr _)=false from hc22]; rfl
    refine zaq ?_
    refine zaK 0 rfl ?_
    exact zb9 () ⟨rfl,rfl,trivial⟩ rfl hw0
  ·replace hg11:_=true:=hg11
   try rw [hg11]
   refine zai rfl rfl rfl rfl (fun h=>absurd h (by decide)) (fun _=>?_)
   refine zai rfl rfl rfl rfl (fun h=>absurd h (by decide)) (fun _=>?_)
   refine zai rfl rfl rfl rfl (fun h=>absurd h (by decide)) (fun _=>?_)
   refine zai rfl rfl rfl rfl (fun h=>absurd h (by decide)) (fun _=>?_)
   refine zai rfl rfl rfl rfl (fun h=>absurd h (by decide)) (fun _=>?_)
   refine zai rfl rfl rfl rfl (fun h=>absurd h (by decide)) (fun _=>?_)
   refine zai rfl rfl rfl rfl (fun h=>absurd h (by decide)) (fun _=>?_)
   refine zai rfl rfl rfl rfl (fun h=>absurd h (by decide)) (fun _=>?_)
   refine zai rfl rfl rfl rfl (fun h=>absurd h (by decide)) (fun _=>?_)
   refine gQ (za5 rfl rfl rfl) ?_
   refine zag (zae (T':=[(2,_),(3,_),(4,_),(22,_)]) ⟨rfl,rfl,rfl,rfl,trivial⟩ ?_)
   refine zdg rfl ?_
   refine zac ?_
   refine zaa ?_
   refine gQ (zad rfl) ?_
   refine zag (zae (T':=[(2,_),(3,_),(4,_)]) ⟨rfl,rfl,rfl,trivial⟩ ?_)
   refine zaw ?_
   refine zay (zaC rfl (zau rfl)) ?_
   rw [zkz (by rw [zmJ,show(!zgx _)=true from hg11]; rfl)]
 ·rintro _ hJ
  have hlen:=(zgM hJ).1
  refine zac ?_
  refine zac ?_
  refine zaa ?_
  refine gQ (zab zhe rfl) ?_
  refine gQ (zah 1 tf92 rfl rfl rfl) ?_
  refine gQ (zaV (Tryz.underlying92) rfl) ?_
  refine gQ (zaf rfl) ?_
  refine zag (zae (T':=[(2,_),(3,_),(24,_),(25,_),(26,_)]) ⟨rfl,rfl,rfl,rfl,rfl,trivial⟩ ?_)
  refine zas ?_
  refine zbf (X:=Int) (fun(i:Int)=>[(2,.pointer (some ⟨b2,0,none⟩)),(3,.pointer (some ⟨b3,0,none⟩)),(24,.slice b v.opens.length bcap),(25,.int .i64 (v.opens.length:Int)),(26,.int .i64 i)]) (fun(i:Int)=>[Box b3 [.string s.name,.int .i64 s.base,.int .i64 s.batter,.int .i64 s.height,.int .i64 s.skin,.slice a s.heights.length cap,.int .i64 s.least,.int .i64 s.lap,.int .i64 s.run,.int .i64 s.every,.int .i64 s.at_,.int .i64 s.footing,.int .i64 s.spread,.int .u8 s.cope,.int .i64 s.tall,.int .i64 s.short,.int .i64 s.thick,.int .i64 s.low,.int .i64 s.high,.int .i64 s.rood] 41,Box b2 [.string v.name,.string v.sheet,.int .i64 v.length,.slice b v.opens.length bcap] 94]) (fun(i:Int)=>(0≤i∧i≤v.opens.length∧∀ j:Nat,(j:Int) < i→zcI s.height v j=true)) (fun(i:Int)=>(v.opens.length - i).toNat) 0 ⟨rfl,rfl,rfl,rfl,rfl,trivial⟩ rfl ?_ ?_
  ·exact⟨by omega,by omega,fun j hj=>by omega⟩
  ·rintro i hI
   obtain⟨g0,g1,g2⟩:=hI
   refine zac ?_
   refine zaa ?_
   refine gQ (zbw rfl rfl) ?_
   refine zag (zae (T':=[(2,_),(3,_),(24,_),(25,_),(26,_),(27,_)]) ⟨rfl,rfl,rfl,rfl,rfl,rfl,trivial⟩ ?_)
   refine zac ?_
   refine zap rfl (fun hc27=>?_) (fun hc27=>?_)
   ·simp only [decide_eq_true_eq] at hc27
    refine zaq ?_
    refine zac ?_
    refine zas ?_
    refine zac ?_
    refine zaa ?_
    refine gQ (zaf rfl) ?_
    refine gQ (zaE se92 rfl rfl (fun _ hw=>(Rd.has (Has.rd hv) hw)) (by omega) (by omega)) ?_
    refine gQ (zbv (vs:=[_,_,_,_,_]) tf98 rfl (fun _ hw=>(Rd.has (Has.rd hv) hw)) (by omega) (by omega) rfl) ?_
    refine zaG rfl rfl (zaL tf98 (zs:=[_,_,_,_,_]) rfl) fun b6=>?_
    refine gQ (zad rfl) ?_
    refine zaA 0 tf98 rfl rfl (vs:=[_,_,_,_,_]) rfl rfl rfl rfl rfl ?_
    refine zag (zae (T':=[(2,_),(3,_),(5,_),(6,_),(24,_),(25,_),(26,_)]) ⟨rfl,rfl,rfl,rfl,rfl,rfl,rfl,trivial⟩ ?_)
    refine zac ?_
    refine zbb 14 (fun _=>mixed) (by kernel_rfl) ?_
    refine ph_y (zat 0 tf98 rfl rfl (vs:=[_,_,_,_,_]) rfl rfl) ?_
    refine ph_y (zat 2 tf94 rfl rfl (vs:=[_,_,_,_]) rfl rfl) ?_
    refine ph_y (zat 1 tf41 rfl rfl (vs:=[_,_,_,_,_,_,_,_,_,_,_,_,_,_,_,_,_,_,_,_]) rfl rfl) ?_
    refine ph_y (zaJ en77 rfl (fun w hw=>zvW (v.opens.getD (i).toNat default) b bcap v a cap s w (hkn _ (za0 (by omega))) hlen hh)) ?_
    refine ph_y (zbR rfl) ?_
    refine ph_y (zaf rfl) ?_
    refine zaz rfl rfl (fun hgd=>by(try rw [hgd]); exact(zab zhe rfl)) ?_
    refine zaz rfl rfl (fun hgd=>by(try rw [hgd]); exact(zah 2 tf92 rfl rfl rfl)) ?_
    refine zaz rfl rfl (fun hgd=>by(try rw [hgd]); exact(zaf rfl)) ?_
    refine zaz rfl rfl (fun hgd=>by(try rw [hgd]); exact(zg8 se92 rfl rfl (by omega) (by omega) hcap)) ?_
    refine zaz rfl rfl (fun hgd=>by(try rw [hgd]); exact(zat 0 tf98 rfl rfl (vs:=[_,_,_,_,_]) rfl rfl)) ?_
    refine zaz rfl rfl (fun hgd=>by(try rw [hgd]); exact(zbO («as»:=[_]) (bs:=[]) rfl rfl)) ?_
    refine zaz rfl rfl (fun hgd=>by(try rw [hgd]); exact(zaJ (v:=.bool ((v.opens.take i.toNat).any (zhk (v.opens.getD (i).toNat default)))) en78 rfl (fun w hw=>zhR _ _ (v.opens.take i.toNat) (zhk (v.opens.getD (i).toNat default)) 79 [.agg (zba (v.opens.getD (i).toNat default)).toArray] [] w (zje (Rd.has (Has.rd hv) hw) (by omega) (by omega)) (by rw [List.length_take]; have:=hsv; unfold zaP at *; omega) (fun _=>True) (fun _ _=>trivial) en79 (fun z w _=>zug _ z w)))) ?_
    refine ph_y (zaR rfl rfl rfl) ?_
    refine zag (zae (T':=[(2,_),(3,_),(24,_),(25,_),(26,_),(44,_)]) ⟨rfl,rfl,rfl,rfl,rfl,rfl,trivial⟩ ?_)
    refine zap rfl (fun hc44=>?_) (fun hc44=>?_)
    ·have hno:zcI s.height v i.toNat=false:=zqg ((zln (by omega) g0 hc27 g2).symm.trans hc44)
     refine zac ?_
     refine zaa ?_
     refine gQ (zad rfl) ?_
     refine zag (zae (T':=[(2,_),(3,_),(4,_),(24,_),(25,_),(26,_)]) ⟨rfl,rfl,rfl,rfl,rfl,rfl,trivial⟩ ?_)
     refine zaw ?_
     refine zay (zaC rfl (zau rfl)) ?_
     rw [zhH g0 hc27 hno]
    ·have hyes:zcI s.height v i.toNat=true:=zll ((zln (by omega) g0 hc27 g2).symm.trans hc44)
     refine zaq ?_
     refine zaa ?_
     refine gQ (zaY rfl rfl (by omega) (by omega)) ?_
     refine gQ (zaf rfl) ?_
     refine zag (zae (T':=[(2,_),(3,_),(24,_),(25,_),(26,_)]) ⟨rfl,rfl,rfl,rfl,rfl,trivial⟩ ?_)
     refine zaK 0 rfl ?_
     exact za1 (i+1) ⟨rfl,rfl,rfl,rfl,rfl,trivial⟩ rfl ⟨by omega,by omega,zdu g0 g2 hyes⟩ (by omega)
   ·simp only [decide_eq_false_iff_not] at hc27
    refine za8 rfl ?_
    refine zac ?_
    refine zaa ?_
    refine gQ (zad rfl) ?_
    refine zag (zae (T':=[(4,_)]) ⟨rfl,trivial⟩ ?_)
    refine zaw ?_
    refine zay (zaC rfl (zau rfl)) ?_
    rw [zn0 hJ hc27 g2]
end Go.Proofs.YtdcfcfhmkfkgmaaGreatDoor
namespace Go.Pln
open Go Go.K Go.RowKit Go.Stn
theorem zgw (a:ByteArray):(a.toList == a.toList)=true:=beq_self_eq_true _
theorem zqK {S:List ShC} {i:Int} (_h0:0≤i) (_h1:i < (S.length:Int)) :
  (decide (0≤zaS (S.take i.toNat) (S.getD i.toNat default).s.name)||!decide (zcX (S.getD i.toNat default).s=0)) = !shAt S i.toNat:=by
 unfold shAt zaS
 rw [ze9]
 have:decide (zcX (S.getD i.toNat default).s=0)=za4 (S.getD i.toNat default).s:=by
  unfold zcX
  cases za4 (S.getD i.toNat default).s <;> rfl
 rw [this]
 cases (S.take i.toNat).any _ <;> cases za4 (S.getD i.toNat default).s <;> rfl
theorem zqY {S:List ShC} {V:List WlC} {i:Int} (h0:0≤i) (h1:i < (V.length:Int)) :
  ((!decide (0≤zaS S (V.getD i.toNat default).s.sheet)||decide (zaM V (V.getD i.toNat default).s.name < i))||!zd1 (zav S (V.getD i.toNat default).s.sheet).s.height (V.getD i.toNat default).s) = !wlAt S V i.toNat:=by
 unfold wlAt
 have h2:=zh2 (p:=fun z:WlC=>z.s.name.toList == (V.getD i.toNat default).s.name.toList) h0 h1 (zgw _)
 have h3:=ztM (p:=fun z:WlC=>z.s.name.toList == (V.getD i.toNat default).s.name.toList) h0 h1 (zgw _)
 rw [show zaM V (V.getD i.toNat default).s.name=zbJ (fun z:WlC=>z.s.name.toList == (V.getD i.toNat default).s.name.toList) V from rfl,h3,h2]
 cases decide (0≤zaS S (V.getD i.toNat default).s.sheet) <;> cases (V.take i.toNat).any _ <;> cases zd1 _ _ <;> rfl
theorem zox {S:List ShC} {i:Nat} (h:shAt S i=true):za4 (S.getD i default).s=true:=by
 unfold shAt at h
 rw [Bool.and_eq_true] at h
 exact h.2
theorem zg3 {S:List ShC} (h:∀ j:Nat,(j:Int) < (S.length:Int)→shAt S j=true):∀ z∈S,za4 z.s=true:=fun z hz=>by
 obtain⟨j,hj,rfl⟩:=List.getElem_of_mem hz
 have:=zox (h j (by omega))
 simpa [hj] using this
theorem zog {S:List ShC} {n:ByteArray} (h:∀ z∈S,za4 z.s=true):0≤(zav S n).s.height∧(zav S n).s.height≤3000:=
 zrs (P:=fun z=>0≤z.s.height∧z.s.height≤3000) (fun z hz=>by have:=(zaZ (h z hz)).height; omega) (by decide)
theorem zqs {S:List ShC} {V:List WlC} (h:(decide (20 < (S.length:Int))||decide (50 < (V.length:Int)))=true):zc4 S V=false:=by unfold zc4; rw [h]; rfl
theorem znF {S:List ShC} {V:List WlC} {i:Int} (h0:0≤i) (h1:i < (S.length:Int)) (h:shAt S i.toNat=false):zc4 S V=false:=by
 unfold zc4; rw [zc9 (i:=i.toNat) (by omega) h]; simp
theorem znG {S:List ShC} {V:List WlC} {i:Int} (h0:0≤i) (h1:i < (V.length:Int)) (h:wlAt S V i.toNat=false):zc4 S V=false:=by
 unfold zc4; rw [zc9 (i:=i.toNat) (by omega) h,Bool.and_false]
theorem znH {S:List ShC} {V:List WlC} {i k:Int} (hi:¬ i < (S.length:Int)) (hk:¬ k < (V.length:Int)) (h1:∀ j:Nat,(j:Int) < i→shAt S j=true) (h2:∀ j:Nat,(j:Int) < k→wlAt S V j=true) :
  zc4 S V=(decide ((S.length:Int)≤20)&&decide ((V.length:Int)≤50)):=by
 unfold zc4
 rw [zdN (fun j hj=>h1 j (by omega)),zdN (fun j hj=>h2 j (by omega)),Bool.and_true,Bool.and_true,Bool.not_or]
 congr 1 <;> (rw [Bool.eq_iff_iff,Bool.not_eq_true',decide_eq_false_iff_not,decide_eq_true_eq]; omega)
theorem zix {S:List ShC} {V:List WlC} (h:zc4 S V=true):S.length≤20∧V.length≤50∧(∀ j,j < S.length→shAt S j=true)∧(∀ j,j < V.length→wlAt S V j=true):=by
 unfold zc4 at h
 simp only [Bool.and_eq_true,Bool.not_eq_true',Bool.or_eq_false_iff,decide_eq_false_iff_not] at h
 exact⟨by omega,by omega,zdf.1 h.1.2,zdf.1 h.2⟩
theorem zls {S:List ShC} {V:List WlC} (h:zc4 S V=true):∀ z∈S,za4 z.s=true:=zg3 fun j hj=>(zix h).2.2.1 j (by omega)
theorem zoG {S:List ShC} {V:List WlC} {i:Nat} (h:wlAt S V i=true):0≤zaS S (V.getD i default).s.sheet∧zd1 (zav S (V.getD i default).s.sheet).s.height (V.getD i default).s=true:=by
 unfold wlAt at h
 simp only [Bool.and_eq_true,decide_eq_true_eq] at h
 exact⟨h.1.1,h.2⟩
theorem zf8 {S:List ShC} {V:List WlC} (h:zc4 S V=true):∀ z∈V,0≤zaS S z.s.sheet∧zd1 (zav S z.s.sheet).s.height z.s=true:=fun z hz=>by
 obtain⟨j,hj,rfl⟩:=List.getElem_of_mem hz
 have:=zoG ((zix h).2.2.2 j hj)
 simpa [hj] using this
theorem znZ {w:Wll} {b:Bool} (h:(!zdY w.name||!inB w.length 1 100000||decide (20 < (w.opens.length:Int)))=b):zfP w = !b:=by rw [zuO,h]
def rf1 (len top:Int) (o:Opn):Bool:=!inB o.kind 1 4||!inB o.at_ 0 len||!inB o.width 1 len||decide (len < o.at_+o.width)||!inB o.frm 0 top||!inB o.high 1 top||decide (top < o.frm+o.high)
def rf2 (top:Int) (o:Opn):Bool:=(decide (3≤o.kind)&&!decide (o.frm+o.high=top))||(decide (o.kind=4)&&!decide (o.frm=0))
theorem zuD {len top:Int} {o:Opn} (hl:1≤len∧len≤100000):zfY len top o = !(rf1 len top o||rf2 top o):=by
 rw [ztN (zbp.2 hl)]; rfl
theorem zqw {len top:Int} {o:Opn} (h:rf1 len top o=false):(1≤o.kind∧o.kind≤4)∧(0≤o.at_∧o.at_≤len)∧(1≤o.width∧o.width≤len)∧o.at_+o.width≤len∧(0≤o.frm∧o.frm≤top)∧(1≤o.high∧o.high≤top)∧o.frm+o.high≤top:=by
 unfold rf1 at h
 simp only [Bool.or_eq_false_iff,Bool.not_eq_false',zbp,decide_eq_false_iff_not] at h
 omega
theorem zjo {top:Int} {w:Wll} {i:Nat} (h:zfY w.length top (w.opens.getD i default)=false):zcI top w i=false:=by unfold zcI; rw [h]; rfl
theorem zon {top:Int} {w:Wll} {i k:Int} (h0:0≤k) (hk:k < i) (h1:i < (w.opens.length:Int)) (h:zea (w.opens.getD i.toNat default) (w.opens.getD k.toNat default)=true):zcI top w i.toNat=false:=by
 unfold zcI
 have:(w.opens.take i.toNat).any (fun q=>zea (w.opens.getD i.toNat default) q)=true:=List.any_eq_true.2 ⟨w.opens.getD k.toNat default,by
  rw [List.getD_eq_getElem?_getD (l:=w.opens) (i:=k.toNat),List.getElem?_eq_getElem (by omega)]
  exact List.mem_take_iff_getElem.2 ⟨k.toNat,by omega,rfl⟩,h⟩
 rw [this]; simp
theorem zoo {top:Int} {w:Wll} {i k:Int} (h1:i < (w.opens.length:Int)) (hf:zfY w.length top (w.opens.getD i.toNat default)=true) (hk:¬ k < i) (h:∀ j:Nat,(j:Int) < k→zea (w.opens.getD i.toNat default) (w.opens.getD j default)=false):zcI top w i.toNat=true:=by
 unfold zcI
 rw [hf,Bool.true_and,Bool.not_eq_true',List.any_eq_false]
 intro q hq
 obtain⟨j,hj,rfl⟩:=List.mem_take_iff_getElem.1 hq
 have:=h j (by omega)
 rw [List.getD_eq_getElem?_getD (l:=w.opens) (i:=j),List.getElem?_eq_getElem (by omega)] at this
 simpa using this
end Go.Pln
namespace Go.K
open Go Go.RowKit
section
variable {α:Type} {k:Nat} {enc:α→List Value} {P:Program}
theorem zi0 {t ty e:TypeId} {by_:Nat} {zs:List Value} (hf:AF P t e k by_ zs) (he:Enc k enc) {a a2:Option Addr} {cap c2:Nat} {l m:List α} {w:World} (hRo:Has w (Row a k cap e enc l)) (hm:Has w (zaW a2 k enc m)) (hb:(l.length+m.length)*by_≤140737488355328) (hl:l.length+m.length≤maxLen) (hg:cap < l.length+m.length) :
  ∃ a' cap' w',(Builtin.append_ #[t,t] ty #[.slice a l.length cap,.slice a2 m.length c2]).run P w=.ok (.slice a' (l++m).length cap') w'∧Ext w w'∧New w w' (Row a' k cap' e enc (l++m)):=by
 obtain⟨B,_,hR⟩:=hRo
 have hi:=hf.i
 cases hu:P.info? e with
 | none=>rw [hu] at hi; cases hi
 | some i=>
 rw [hu] at hi
 simp only [Option.map_some,Option.some.injEq,Prod.mk.injEq] at hi
 obtain⟨hsz,hby,hz⟩:=hi
 cases hz0:i.zero with
 | none=>rw [hz0] at hz; cases hz
 | some z=>
 have hzl:z.cells.size=i.size:=by
  rw [hz0] at hz
  simp only [Option.map_some,Option.some.injEq] at hz
  rw [hsz,←hf.zl,←hz]; simp
 have hcap:=Row.bounds hR
 have hsmall:l.length+m.length≤9223372036854775807:=by simp only [maxLen] at hl; omega
 have hm0:m≠[]:=fun h=>by subst h; simp at hg; omega
 obtain⟨x0,m',hm1⟩:∃ x m',m=x :: m':=by cases m with
  | nil=>exact absurd rfl hm0
  | cons x m'=>exact⟨x,m',rfl⟩
 obtain⟨b2,off2,ha2,_⟩:=zdG hm (i:=0) (x:=x0) (by rw [hm1]; rfl)
 have hmlen:0 < m.length:=by rw [hm1]; simp
 have hnl:(m.flatMap enc).length=m.length*i.size:=by rw [zcd he,hsz]
 have hnews:∀ j v,(m.flatMap enc)[j]?=some v→w.cell? ((⟨b2,off2,none⟩:Addr).add j)=some v:=by
  intro j v hj
  have hjl:j < m.length*k:=by rw [←zcd he]; exact(List.getElem?_eq_some_iff.1 hj).1
  have hq:j / k < m.length:=Nat.div_lt_of_lt_mul (by rwa [Nat.mul_comm])
  obtain⟨b3,off3,ha3,hc3⟩:=zdG hm (i:=j / k) (x:=m[j / k]) (by simp [hq])
  rw [ha2] at ha3
  simp only [Option.some.injEq,Addr.mk.injEq] at ha3
  obtain⟨rfl,rfl,_⟩:=ha3
  have hg:=zeG he m (j / k) m[j / k] (by simp [hq])
  have hmod:j % k < k:=Nat.mod_lt _ he.pos
  have hdm:j / k*k+j % k=j:=by rw [Nat.mul_comm]; exact Nat.div_add_mod j k
  have hv:(enc m[j / k])[j % k]?=some v:=by
   rw [←hg,List.getElem?_take,if_pos hmod,List.getElem?_drop,hdm]; exact hj
  have:=zdQ _ _ _ _ hc3 hv
  rw [zb2]
  rwa [Nat.add_assoc,hdm] at this
 have hone:∀ u∈m.flatMap enc,u.oneCell' = true:=fun u hu'=>zg0 (List.all_eq_true.1 (zfE he m) u hu')
 subst hsz; subst hby
 rcases hR with ⟨ha,hc0,hl0⟩ | ⟨b,off,cs,ha,hB,hbk,h1,h2,h3⟩
 ·subst ha; subst hc0; subst hl0
  have hr:=run_append_nil (P:=P) w t ty e i z hf.u hu hz0 ⟨b2,off2,none⟩ m.length c2 (m.flatMap enc) hnl hnews hmlen (by simp at hsmall; omega) (by simp at hb; omega)
  subst ha2
  refine⟨some ⟨w.heap.size,0,none⟩,grownCap w m.length 0 e,w.drew.alloc (.cells ((m.flatMap enc).toArray++Builtin.zeroCells z.cells (grownCap w m.length 0 e - m.length)) e),by simpa only [List.length_nil,Nat.zero_add,List.nil_append] using hr,⟨rfl,⟨rfl,Nat.le_succ _⟩,rfl,by simp,fun j hj=>heap_alloc_old w.drew _ hj⟩,(· = w.heap.size),fun j hj=>⟨by omega,by subst hj; simp⟩,.inr ⟨w.heap.size,0,m.flatMap enc++(Builtin.zeroCells z.cells (grownCap w m.length 0 e - m.length)).toList,rfl,fun _=>Iff.rfl,?_,?_,?_,?_⟩⟩
  ·refine(World.alloc_heap_new w.drew _).trans ?_
   congr 2
   exact Array.ext' (by simp)
  ·simpa using grownCap_ge w m.length 0 e
  ·have:=grownCap_ge w m.length 0 e
   simp only [List.length_append,hnl,Array.length_toList,size_zeroCells,hzl,Nat.zero_add,←Nat.add_mul]
   exact Nat.mul_le_mul_right _ (by omega)
  ·simp only [List.drop_zero,List.nil_append,←hnl,List.take_left]
 ·subst ha
  have holds:∀ j v,(l.flatMap enc)[j]?=some v→w.cell? ((⟨b,off,none⟩:Addr).add j)=some v:=by
   intro j v hj
   rw [zb2,zgD hbk]
   rw [←h3,List.getElem?_take] at hj
   split at hj
   ·rwa [List.getElem?_drop] at hj
   ·cases hj
  have hlo:(l.flatMap enc).length=l.length*i.size:=zcd he l
  have hr:=run_append_grow (P:=P) w t ty e i z hf.u hu hz0 ⟨b,off,none⟩ l.length cap (l.flatMap enc) hlo holds ⟨b2,off2,none⟩ m.length c2 (m.flatMap enc) hnl hnews hg (by omega) (growslice_fits hg hb)
  subst ha2
  refine⟨some ⟨w.heap.size,0,none⟩,grownCap w (l.length+m.length) cap e,w.drew.alloc (.cells ((l.flatMap enc).toArray++(m.flatMap enc).toArray++Builtin.zeroCells z.cells (grownCap w (l.length+m.length) cap e - (l.length+m.length))) e),by simpa only [List.length_append] using hr,⟨rfl,⟨rfl,Nat.le_succ _⟩,rfl,by simp,fun j hj=>heap_alloc_old w.drew _ hj⟩,(· = w.heap.size),fun j hj=>⟨by omega,by subst hj; simp⟩,.inr ⟨w.heap.size,0,l.flatMap enc++m.flatMap enc++(Builtin.zeroCells z.cells (grownCap w (l.length+m.length) cap e - (l.length+m.length))).toList,rfl,fun _=>Iff.rfl,?_,?_,?_,?_⟩⟩
  ·refine(World.alloc_heap_new w.drew _).trans ?_
   congr 2
   exact Array.ext' (by simp)
  ·simpa using grownCap_ge w (l.length+m.length) cap e
  ·have:=grownCap_ge w (l.length+m.length) cap e
   simp only [List.length_append,hnl,hlo,Array.length_toList,size_zeroCells,hzl,Nat.zero_add,←Nat.add_mul]
   exact Nat.mul_le_mul_right _ (by omega)
  ·simp only [List.drop_zero,List.flatMap_append,List.length_append,Nat.add_mul]
   rw [←hlo,←hnl,←List.length_append,List.take_left]
variable {c:Cx} {ds:List Deferred} {H:List Res} {T:List (Nat×Value)} {d:Option Nat} {ty:TypeId} {ps:String} {af:Array Edge} {g:Option (Nat×Bool)} {x y:Operand}
theorem ziA {t ty e:TypeId} {by_:Nat} {zs:List Value} (hf:AF P t e k by_ zs) {a a2:Option Addr} {n cap c2:Nat} {w:World} (hcap:n≤cap) :
  (Builtin.append_ #[t,t] ty #[.slice a n cap,.slice a2 0 c2]).run P w=.ok (.slice a n cap) w:=by
 have hi:=hf.i
 cases hu:P.info? e with
 | none=>rw [hu] at hi; cases hi
 | some i=>
 have hfc:(Builtin.firstCells i.size 0 (.slice a2 0 c2)).run P w=.ok #[] w:=by
  cases a2 with
  | none=>exact run_firstCells_none w _ _ _ _
  | some b2=>exact run_firstCells_some w i.size 0 b2 _ _ [] (by simp) (by simp)
 cases a with
 | none=>simp [Builtin.append_,run_underlying hf.u,sizeOf,typeInfo,hu,Builtin.lenOf,hcap,hfc]
 | some b1=>simp [Builtin.append_,run_underlying hf.u,sizeOf,typeInfo,hu,Builtin.lenOf,hcap,hfc,storeCells]
theorem zlO {t e:TypeId} {by_:Nat} {zs:List Value} {a a2:Option Addr} {cap c2:Nat} {l m:List α} (hf:AF c.P t e k by_ zs) (he:Enc k enc)
  (hx:evo T x=some (.slice a l.length cap)) (hy:evo T y=some (.slice a2 m.length c2)) (hl:∀ w,Hp c.U c.w0 H w→Has w (Row a k cap e enc l)) (hm:∀ w,Hp c.U c.w0 H w→Has w (zaW a2 k enc m))
  (hb:(l.length+m.length)*by_≤140737488355328) (hlm:l.length+m.length≤maxLen) (hg:cap < l.length+m.length) :
  YX c ds H T ⟨d,.call ⟨.builtin .append,#[x,y],#[t,t]⟩,ty,ps,af,g⟩ (fun z:Option Addr×Nat=>.slice z.1 (l++m).length z.2) (fun z=>Row z.1 k z.2 e enc (l++m)):=by
 refine⟨fun A w hs hw=>?_⟩
 obtain⟨a',cap',w',hr,hx',hn⟩:=zi0 (P:=c.P) (ty:=ty) hf he (c2:=c2) (hl w hw) (hm w hw) hb hlm hg
 unfold Yld
 rw [zcp («as»:=[x,y]) (vs:=[.slice a l.length cap,.slice a2 m.length c2]) (by simp [evs,hx,hy]) hs w]
 simp only [builtin]
 rw [zbu hr]
 exact⟨(a',cap'),rfl,hx',hn⟩
end
end Go.K
namespace Go.K
open Go Go.RowKit Go.Shelf Go.Proofs
theorem ziY (w:World) (e:TypeId) (s:ByteArray):Ext w (Lib.bytesWorld w e s):=by
 have h1:Ext w (w.drew.alloc (.cells (Lib.bytesCells w e s) e)):=⟨rfl,⟨rfl,Nat.le_succ _⟩,rfl,by simp,fun j hj=>heap_alloc_old w.drew _ hj⟩
 have hw:Lib.bytesWorld w e s={ (w.drew.alloc (.cells (Lib.bytesCells w e s) e)) with heap:=(Lib.bytesWorld w e s).heap }:=by
  unfold Lib.bytesWorld World.freeze
  rfl
 rw [hw]
 refine⟨rfl,⟨rfl,Nat.le_succ _⟩,rfl,?_,fun k hk=>?_⟩
 ·show w.heap.size≤(Lib.bytesWorld w e s).heap.size
  unfold Lib.bytesWorld World.freeze
  simp
 ·show(Lib.bytesWorld w e s).heap[k]?=_
  unfold Lib.bytesWorld World.freeze
  refine Array.getElem?_modify.trans ?_
  rw [if_neg (by show ¬ w.heap.size=k; omega)]
  exact h1.block k hk
end Go.K
namespace Go.Txt
open Go
def cutL (b:UInt8):List UInt8→List (List UInt8)
 | []=>[[]]
 | x :: r=>if x=b then [] :: cutL b r else match cutL b r with
  | []=>[[x]]
  | h :: t=>(x :: h) :: t
theorem zeD {b:UInt8}:∀ {p:List UInt8},(∀ x∈p,x≠b)→cutL b p=[p]
 | [],_=>rfl
 | x :: r,h=>by
  rw [cutL,if_neg (h x (by simp)),zeD (p:=r) (fun y hy=>h y (by simp [hy]))]
theorem zhx {b:UInt8} {r:List UInt8}:∀ {p:List UInt8},(∀ x∈p,x≠b)→cutL b (p++b :: r)=p :: cutL b r
 | [],_=>by rw [List.nil_append,cutL,if_pos rfl]
 | x :: q,h=>by
  rw [List.cons_append,cutL,if_neg (h x (by simp)),zhx (p:=q) (fun y hy=>h y (by simp [hy]))]
theorem zm4 (b:UInt8) (l:List UInt8):0 < (cutL b l).length:=by
 induction l with
 | nil=>simp [cutL]
 | cons x r ih=>
  rw [cutL]
  split
  ·simp
  ·split <;> simp
theorem zm5 (l:List UInt8) (b:UInt8):(∃ p r,l=p++b :: r∧(∀ x∈p,x≠b)∧Lib.cut l [b]=(p,r,true))∨((∀ x∈l,x≠b)∧Lib.cut l [b]=(l,[],false)):=by
 have hge:=Lib.indexByte_ge l b
 by_cases h:Lib.indexByte l b = -1
 ·right
  refine⟨fun x hx e=>?_,?_⟩
  ·obtain⟨k,hk,rfl⟩:=List.getElem_of_mem hx
   exact Lib.indexByte_none h k (by rw [List.getElem?_eq_getElem hk,e])
  ·unfold Lib.cut
   rw [Lib.index_one,if_neg (by omega)]
 ·left
  obtain⟨o,ho⟩:∃ o:Nat,Lib.indexByte l b=o:=⟨(Lib.indexByte l b).toNat,by omega⟩
  obtain⟨h1,h2⟩:=Lib.indexByte_some ho
  have hlt:o < l.length:=(List.getElem?_eq_some_iff.1 h1).1
  refine⟨l.take o,l.drop (o+1),?_,fun x hx e=>?_,?_⟩
  ·have:l.drop o=b :: l.drop (o+1):=by
    rw [List.drop_eq_getElem_cons hlt]
    congr 1
    exact(List.getElem?_eq_some_iff.1 h1).2
   rw [←this,List.take_append_drop]
  ·obtain⟨k,hk,rfl⟩:=List.mem_take_iff_getElem.1 hx
   exact h2 k (by omega) (by rw [List.getElem?_eq_getElem (by omega),e])
  ·unfold Lib.cut
   rw [Lib.index_one,ho,if_pos (by omega)]
   simp
theorem split_spec (c:UInt8):∀ (k:Nat) (l:List UInt8),l.count c=k→Lib.splitK [c] 0 k l=cutL c l
 | 0,l,h=>by
  rw [Lib.splitK,zeD]
  intro x hx e
  subst e
  exact absurd (List.count_pos_iff.2 hx) (by omega)
 | k+1,l,h=>by
  rw [Lib.splitK,Lib.index_one]
  have hge:=Lib.indexByte_ge l c
  have hm:¬ Lib.indexByte l c = -1:=fun e=>by
   have h0:c∈l:=List.count_pos_iff.1 (by omega)
   obtain⟨j,hj,e2⟩:=List.getElem_of_mem h0
   exact Lib.indexByte_none e j (by rw [List.getElem?_eq_getElem hj,e2])
  rw [if_neg (fun e=>hm (beq_iff_eq.1 e))]
  obtain⟨o,ho⟩:∃ o:Nat,Lib.indexByte l c=o:=⟨(Lib.indexByte l c).toNat,by omega⟩
  obtain⟨h1,h2⟩:=Lib.indexByte_some ho
  have hlt:o < l.length:=(List.getElem?_eq_some_iff.1 h1).1
  have hl:l=l.take o++c :: l.drop (o+1):=by
   have:l.drop o=c :: l.drop (o+1):=by
    rw [List.drop_eq_getElem_cons hlt]
    congr 1
    exact(List.getElem?_eq_some_iff.1 h1).2
   rw [←this,List.take_append_drop]
  have hp:∀ x∈l.take o,x≠c:=fun x hx e=>by
   obtain⟨k,hk,rfl⟩:=List.mem_take_iff_getElem.1 hx
   exact h2 k (by omega) (by rw [List.getElem?_eq_getElem (by omega),e])
  have hc:(l.drop (o+1)).count c=k:=by
   have h3:=congrArg (List.count c) hl
   rw [h,List.count_append,List.count_cons_self,List.count_eq_zero_of_not_mem (fun hx=>hp c hx rfl)] at h3
   omega
  have ih:=split_spec c k (l.drop (o+1)) hc
  rw [ho,Int.toNat_natCast,Nat.add_zero,show o+[c].length=o+1 from rfl,ih]
  conv=>rhs; rw [hl]
  rw [zhx hp]
def ziZ (c:UInt8):Prop:=48≤c.toNat∧c.toNat≤57
instance (c:UInt8):Decidable (ziZ c):=inferInstanceAs (Decidable (_∧_))
def zfQ (acc:Nat) (l:List UInt8):Nat:=l.foldl (fun a c=>a*10+(c.toNat - 48)) acc
theorem zhX (a:Nat) (c:UInt8) (r:List UInt8):zfQ a (c :: r)=zfQ (a*10+(c.toNat - 48)) r:=by unfold zfQ; rw [List.foldl_cons]
theorem zjp:∀ (l:List UInt8) (acc:Nat),(∀ c∈l,ziZ c)→(acc+1)*10 ^ l.length≤10 ^ 18→Lib.parseUint10 acc l=.ok (zfQ acc l)
 | [],_,_,_=>rfl
 | c :: r,acc,hd,hb=>by
  have hc:=hd c (by simp)
  unfold ziZ at hc
  rw [List.length_cons,Nat.pow_succ,Nat.mul_comm (10 ^ r.length) 10,←Nat.mul_assoc] at hb
  have hp:1≤10 ^ r.length:=Nat.pos_of_ne_zero (by simp)
  have h1:(acc+1)*10≤10 ^ 18:=Nat.le_trans (Nat.le_mul_of_pos_right _ hp) hb
  have h18:(10:Nat) ^ 18=1000000000000000000:=rfl
  rw [Lib.parseUint10,if_pos hc,if_neg (by omega),if_neg (by omega),zhX]
  refine zjp r _ (fun x hx=>hd x (by simp [hx])) (Nat.le_trans (Nat.mul_le_mul_right _ ?_) hb)
  omega
end Go.Txt
namespace Go.K
open Go Go.RowKit Go.Shelf Go.Proofs
abbrev encS (s:ByteArray):List Value:=[.string s]
theorem ztJ:Enc 1 encS:=⟨fun _=>rfl,fun _=>rfl,by decide⟩
def IntV (b:Nat):Res where
 A B w:=(∀ k,B k↔k=b)∧∃ m,w.cell? ⟨b,0,none⟩=some (.int .i64 m)
 loc _ w w' h hA:=⟨hA.1,let ⟨m,hm⟩:=hA.2; ⟨m,by
  have:=h b ((hA.1 b).2 rfl)
  simp only [World.cell?] at hm ⊢
  rw [this]; exact hm⟩⟩
theorem zpo (w:World) (n:Nat):Ext w (w.drewN n):=⟨rfl,⟨rfl,Nat.le_add_right _ _⟩,rfl,Nat.le_refl _,fun _ _=>rfl⟩
section
variable {P:Program} {ρ:Ren}
abbrev mkB (l:List UInt8):ByteArray:=⟨l.toArray⟩
def cutV (s sep:ByteArray):Value:=.tuple #[.string (mkB (Lib.cut s.data.toList sep.data.toList).1),.string (mkB (Lib.cut s.data.toList sep.data.toList).2.1),.bool (Lib.cut s.data.toList sep.data.toList).2.2]
theorem zrk (L:Lays.n145 P ρ) (s sep:ByteArray) (w:World) (hs:s.size < 4294967281) (hm:Has w (IntV (ρ.g 1))):Calls P (ρ.f 145) #[.string s,.string sep] w (Pure (cutV s sep) w):=by
 obtain⟨_,_,_,m,hm⟩:=hm
 refine(Any.strings_Cut L s sep m w hs hm).mono ?_
 rintro e w' ⟨rfl,n,rfl⟩
 exact⟨rfl,zpo w n⟩
def zcn (s:ByteArray) (c:UInt8):List ByteArray:=Lib.splitB ⟨#[c]⟩ 0 (Lib.countB s ⟨#[c]⟩) s
theorem ziG (s:ByteArray) (c:UInt8):(zcn s c).map (·.data.toList)=Txt.cutL c s.data.toList:=by
 unfold zcn
 rw [Lib.splitB_data]
 exact Txt.split_spec c _ _ (by rw [←Lib.count_one])
theorem zmD (L:Lays.n146 P ρ) (hi9:(P.info? (ρ.t 9)).map (fun i=>(i.zero,i.size,i.bytes))=some (some (.string ByteArray.empty),1,16)) (s:ByteArray) (c:UInt8) (w:World) (hs:s.size < 4294967281) (hm:Has w (IntV (ρ.g 1))) :
  Calls P (ρ.f 146) #[.string s,.string ⟨#[c]⟩] w (zcU (fun b:Nat=>.slice (some ⟨b,0,none⟩) (zcn s c).length (zcn s c).length) (fun b=>Row (some ⟨b,0,none⟩) 1 (zcn s c).length (ρ.t 9) encS (zcn s c)) w):=by
 obtain⟨_,_,_,m,hm⟩:=hm
 have hlen:(zcn s c).length=Lib.countB s ⟨#[c]⟩+1:=Lib.splitB_all _ (show 1≤(⟨#[c]⟩:ByteArray).size from Nat.le_refl 1) 0 _ s rfl
 refine(Any.strings_Split L hi9 s ⟨#[c]⟩ m w hs hm (show 1≤(⟨#[c]⟩:ByteArray).size from Nat.le_refl 1)).mono ?_
 rintro e w' ⟨rfl,rfl⟩
 refine⟨w.heap.size,by rw [hlen],zcG _,(· = w.heap.size),fun k hk=>by subst hk; simp,.inr ⟨w.heap.size,0,(zcn s c).map Value.string,rfl,fun _=>Iff.rfl,World.alloc_heap_new w _,Nat.le_refl _,by simp,?_⟩⟩
 rw [List.drop_zero,Nat.mul_one,←List.length_map (f:=Value.string),List.take_length]
 induction zcn s c with
 | nil=>rfl
 | cons x r ih=>rw [List.map_cons,List.flatMap_cons,ih]; rfl
def zv3:Value→Bool
 | .nilIface=>true
 | _=>false
def zdO (s:ByteArray):Int:=match Lib.atoiAll s.data.toList with
 | .ok v=>v
 | .range=>Lib.atoiSat s.data.toList
 | _=>0
end
section
variable {c:Cx} {ds:List Deferred} {T:List (Nat×Value)} {H:List Res} {d:Option Nat} {ty:TypeId} {ps:String} {af:Array Edge} {g:Option (Nat×Bool)} {x y z:Operand}
theorem zjA {t t':TypeId} {v:Value} (ht:c.P.underlying t=some (.interface (c.P.methodsAt t))) (hx:evo T x=some v) (hv:v=.nilIface∨∃ u z,v=.iface u z) :
  Y c ds H T ⟨d,.binOp .eql t x (.const .nilIface) t',ty,ps,af,g⟩ (.bool (zv3 v)):=
 zcz fun a w ha _=>by
  have hxe:=ha.eval hx
  have hye:a.eval (.const .nilIface)=.nilIface:=rfl
  simp only [execOp,hxe,hye]
  rcases hv with rfl | ⟨u,z,rfl⟩
  ·have hg:(eqGuard .eql t x (.const .nilIface) .nilIface .nilIface).run c.P w=.ok () w:=by rw [eqGuard_nil_constR]; rfl
   refine zbu ?_
   rw [zal hg]
   exact run_eql_nil_nil w t ht
  ·have hg:(eqGuard .eql t x (.const .nilIface) (.iface u z) .nilIface).run c.P w=.ok () w:=rfl
   refine zbu ?_
   rw [zal hg]
   exact run_eql_held_nil w t u z ht
theorem zzS {t:TypeId} {s:ByteArray} {kl kh:IntKind} {lo hi:Int} (ht:c.P.underlying t=some .string) (hx:evo T x=some (.string s)) (hl:evo T y=some (.int kl lo)) (hh:evo T z=some (.int kh hi)) (h0:0≤lo) (h1:lo≤hi) (h2:hi≤(s.size:Int)) :
  Y c ds H T ⟨d,.slice t x (some y) (some z) none,ty,ps,af,g⟩ (.string (s.extract lo.toNat hi.toNat)):=
 zcz fun a w ha _=>by
  simp only [execOp,ha.eval hx,Option.map_some,ha.eval hl,ha.eval hh,Option.map_none]
  refine zbu ?_
  rw [run_sliceAt_string _ _ _ _ _ _ ht,run_slice_string_if _ _ _ _ _ _ _ ht,if_pos ⟨by omega,h2⟩,if_pos ⟨h0,h1⟩]
theorem zzZ {t:TypeId} {s:ByteArray} {kl:IntKind} {lo:Int} (ht:c.P.underlying t=some .string) (hx:evo T x=some (.string s)) (hl:evo T y=some (.int kl lo)) (h0:0≤lo) (h1:lo≤(s.size:Int)) :
  Y c ds H T ⟨d,.slice t x (some y) none none,ty,ps,af,g⟩ (.string (s.extract lo.toNat s.size)):=
 zcz fun a w ha _=>by
  simp only [execOp,ha.eval hx,Option.map_some,ha.eval hl,Option.map_none]
  refine zbu ?_
  rw [run_sliceAt_string _ _ _ _ _ _ ht]
  unfold Instr.slice
  rw [zal (zaU ht)]
  simp [Instr.sliceBounds,Instr.sliceBound,asIntOf,h0,h1]
end
end Go.K
namespace Go.K
open Go Go.RowKit
abbrev zhZ (p:Nat×Nat):List Value:=[.pointer (some ⟨p.1,p.2,none⟩)]
theorem zbj:Enc 1 zhZ:=⟨fun _=>rfl,fun _=>rfl,by decide⟩
theorem zl2 {α:Type} {k cap:Nat} {enc:α→List Value} {a:Option Addr} {l:List α} {B:Nat→Prop} {w:World} {n:Nat} (h:(zaW a k enc l).A B w) (hc:l.length≤cap) (h1:n≤l.length):(zaW (subA a k n cap) k enc (l.drop n)).A B w:=by
 by_cases hd:l.drop n=[]
 ·exact .inl hd
 ·rcases h with rfl | ⟨b,off,rfl,hB,hx⟩
  ·simp at hd
  ·refine .inr ⟨b,off+n*k,?_,hB,fun i x hi=>?_⟩
   ·unfold subA
    rw [if_neg (fun e=>hd (by rw [List.drop_eq_nil_iff]; omega))]
    simp [zb2]
   ·rw [List.getElem?_drop] at hi
    have:=hx (n+i) x hi
    rwa [show off+n*k+i*k=off+(n+i)*k by rw [Nat.add_mul]; omega]
def Rdr (tb:TypeId) (r:Nat) (ws:List ByteArray):Res where
 A B w:=∃ a1 c1,ws.length≤c1∧(SepR [Box r [.slice a1 ws.length c1] tb,zaW a1 1 encS ws]).A B w
 loc B w w' h hA:=let ⟨a1,c1,h1,h2⟩:=hA; ⟨a1,c1,h1,(SepR [Box r [.slice a1 ws.length c1] tb,zaW a1 1 encS ws]).loc B w w' h h2⟩
section
variable {c:Cx} {ds:List Deferred} {T:List (Nat×Value)} {H:List Res} {K:Act→World→Prop} {tb:TypeId} {r:Nat} {ws:List ByteArray}
theorem zgV (h:∀ a1 c1,ws.length≤c1→GK c ds K T (Box r [.slice a1 ws.length c1] tb :: zaW a1 1 encS ws :: H)):GK c ds K T (Rdr tb r ws :: H):=by
 intro a w ha hw
 obtain⟨hb,B,hB,⟨a1,c1,h1,h2⟩,hr⟩:=hw
 exact h a1 c1 h1 a w ha (Hp.split (L:=[_,_]) ⟨hb,B,hB,h2,hr⟩)
theorem zeH {a1:Option Addr} {c1:Nat} (h1:ws.length≤c1) (h:GK c ds K T (Rdr tb r ws :: H)):GK c ds K T (Box r [.slice a1 ws.length c1] tb :: zaW a1 1 encS ws :: H):=by
 intro a w ha hw
 obtain⟨hb,B,hB,h2,hr⟩:=Hp.pack (L:=[_,_]) (H:=H) hw
 exact h a w ha ⟨hb,B,hB,⟨a1,c1,h1,h2⟩,hr⟩
theorem zoh {a1:Option Addr} {c1:Nat} (h1:ws.length≤c1) (h0:1≤ws.length) (h:GK c ds K T (Rdr tb r (ws.drop 1) :: H)):GK c ds K T (Box r [.slice (subA a1 1 1 c1) (ws.drop 1).length (c1 - 1)] tb :: zaW a1 1 encS ws :: H):=by
 intro a w ha hw
 refine zeH (a1:=subA a1 1 1 c1) (c1:=c1 - 1) (by rw [List.length_drop]; omega) h a w ha ?_
 have h2:=hw.swap
 obtain⟨hb,B,hB,hA,hr⟩:=h2
 exact Hp.swap ⟨hb,B,hB,zl2 hA h1 h0,hr⟩
end
theorem zak {α β:Type} (a:α) (f:α→Except Int β):(Except.ok a >>= f)=f a:=rfl
theorem zcc {α β:Type} (k:Int) (f:α→Except Int β):((Except.error k:Except Int α) >>= f)=.error k:=rfl
end Go.K
namespace Go.Pln
open Go Go.K Go.RowKit Go.Stn
def zdp:List ByteArray→Except Int (ByteArray×List ByteArray)
 | []=>.error 4
 | x :: r=>.ok (x,r)
def sayE (u:ByteArray) (ws:List ByteArray):Except Int (Unit×List ByteArray):=do
 let x ←zdp ws
 if (x.1.toList == u.toList)=true then .ok ((),x.2) else .error 4
def zes (ws:List ByteArray):Except Int (ByteArray×List ByteArray):=do
 let x ←zdp ws
 if zgx x.1=true then .ok (x.1,x.2) else .error 4
def endE (ws:List ByteArray):Except Int (Unit×List ByteArray):=if ws.length=0 then .ok ((),ws) else .error 4
def numE (ws:List ByteArray):Except Int (Int×List ByteArray):=do
 let x ←zdp ws
 if numW x.1=true then .ok (zdO x.1,x.2) else .error 4
def zco:Nat→List ByteArray→Except Int (List Int×List ByteArray)
 | 0,ws=>.ok ([],ws)
 | n+1,ws=>do
  let x ←numE ws
  let y ←zco n x.2
  .ok (x.1 :: y.1,y.2)
def zlz:List Value→List Nat→List Int→List Value
 | cs,[],_=>cs
 | cs,o :: os,l=>zlz (cs.set o (.int .i64 (l.getD 0 0))) os (l.drop 1)
def zfk (l:List ByteArray) (f:Nat) (ws:List ByteArray):Except Int (Int×List ByteArray):=do
 let x ←zdp ws
 if zbJ (fun y=>x.1.toList == y.toList) (l.drop f) < 0 then .error 4 else .ok (zbJ (fun y=>x.1.toList == y.toList) (l.drop f)+f,x.2)
def oneE (u:ByteArray) (n:Nat) (ws:List ByteArray):Except Int (List Int×List ByteArray):=do
 let x ←sayE u ws
 zco n x.2
def wLeast:ByteArray:=⟨#[108,101,97,115,116]⟩
def zbF (acc:List Int):List ByteArray→Except Int (List Int×List ByteArray)
 | []=>.ok (acc,[])
 | x :: r=>if (x.toList == wLeast.toList)=true then .ok (acc,x :: r) else if numW x=true then zbF (acc++[zdO x]) r else .error 4
def copesW:List ByteArray:=[⟨#[110,111,110,101]⟩,⟨#[102,108,97,116]⟩,⟨#[117,112,114,105,103,104,116]⟩,⟨#[98,117,99,107]⟩]
def opensW:List ByteArray:=[⟨#[]⟩,⟨#[115,109,111,111,116]⟩,⟨#[108,117,110,107,121]⟩,⟨#[115,116,105,108,101]⟩,⟨#[103,97,116,101]⟩]
def zci (ws:List ByteArray):Except Int (Sht×List ByteArray):=do
 let x0 ←zes ws
 let x1 ←oneE ⟨#[98,97,115,101]⟩ 1 x0.2
 let x2 ←oneE ⟨#[98,97,116,116,101,114]⟩ 1 x1.2
 let x3 ←oneE ⟨#[104,101,105,103,104,116]⟩ 1 x2.2
 let x4 ←oneE ⟨#[115,107,105,110]⟩ 1 x3.2
 let x5 ←sayE ⟨#[104,101,105,103,104,116,115]⟩ x4.2
 let x6 ←zbF [] x5.2
 let x7 ←oneE ⟨#[108,101,97,115,116]⟩ 1 x6.2
 let x8 ←oneE ⟨#[108,97,112]⟩ 1 x7.2
 let x9 ←oneE ⟨#[114,117,110]⟩ 1 x8.2
 let x10 ←oneE ⟨#[116,104,114,111,117,103,104]⟩ 2 x9.2
 let x11 ←oneE ⟨#[102,111,111,116,105,110,103]⟩ 2 x10.2
 let x12 ←sayE ⟨#[99,111,112,101]⟩ x11.2
 let x13 ←zfk copesW 0 x12.2
 let x14 ←zco 3 x13.2
 let x15 ←oneE ⟨#[102,114,105,99,116,105,111,110]⟩ 2 x14.2
 let x16 ←oneE ⟨#[114,111,111,100]⟩ 1 x15.2
 if x6.1.length=0 then .error 4 else
 .ok (⟨x0.1,x1.1.getD 0 0,x2.1.getD 0 0,x3.1.getD 0 0,x4.1.getD 0 0,x6.1,x7.1.getD 0 0,x8.1.getD 0 0,x9.1.getD 0 0,x10.1.getD 0 0,(x10.1.drop 1).getD 0 0,x11.1.getD 0 0,(x11.1.drop 1).getD 0 0,x13.1,
  x14.1.getD 0 0,(x14.1.drop 1).getD 0 0,((x14.1.drop 1).drop 1).getD 0 0,x15.1.getD 0 0,(x15.1.drop 1).getD 0 0,x16.1.getD 0 0⟩,x16.2)
structure Plan where
 S:List Sht
 V:List Wll
def zew (S:List Sht) (n:ByteArray):Int:=zbJ (fun z=>z.name.toList == n.toList) S
def zss (V:List Wll) (n:ByteArray):Int:=zbJ (fun z=>z.name.toList == n.toList) V
def getS (S:List Sht) (n:ByteArray):Sht:=if 0≤zew S n then S.getD (zew S n).toNat default else default
theorem zkU {α β:Type} (f:α→β) (p:β→Bool) (l:List α):zbJ p (l.map f)=zbJ (fun x=>p (f x)) l:=by
 unfold zbJ
 rw [List.any_map,List.findIdx_map]; rfl
theorem zeL (S:List ShC) (n:ByteArray):zaS S n=zew (S.map (·.s)) n:=(zkU (fun z:ShC=>z.s) (fun z=>z.name.toList == n.toList) S).symm
theorem zkx (V:List WlC) (n:ByteArray):zaM V n=zss (V.map (·.s)) n:=(zkU (fun z:WlC=>z.s) (fun z=>z.name.toList == n.toList) V).symm
theorem zeq {α β:Type} [Inhabited α] [Inhabited β] (f:α→β) (hf:f default=default) (l:List α) (i:Nat):(l.map f).getD i default=f (l.getD i default):=by
 rw [List.getD_eq_getElem?_getD,List.getD_eq_getElem?_getD,List.getElem?_map]
 cases l[i]? <;> simp [hf]
theorem zf2 (S:List ShC) (n:ByteArray):(zav S n).s=getS (S.map (·.s)) n:=by
 unfold zav getS
 rw [←zeL]
 split
 ·rw [zeq (fun z:ShC=>z.s) rfl]
 ·rfl
def zb3 (q:Plan) (ws:List ByteArray):Except Int Plan:=do
 let a ←zci ws
 let _ ←endE a.2
 if 0≤zew q.S a.1.name then .error 7 else if za4 a.1=true then(if q.S.length=20 then .error 5 else .ok ⟨q.S++[a.1],q.V⟩) else .error 2
def zb1 (q:Plan) (ws:List ByteArray):Except Int Plan:=do
 let a ←zes ws
 let b ←zes a.2
 let c ←zco 1 b.2
 let _ ←endE c.2
 if 0≤zss q.V a.1 then .error 7 else if 0≤zew q.S b.1 then
  (if zd1 (getS q.S b.1).height ⟨a.1,b.1,c.1.getD 0 0,[]⟩=true then(if q.V.length=50 then .error 5 else .ok ⟨q.S,q.V++[⟨a.1,b.1,c.1.getD 0 0,[]⟩]⟩) else .error 2) else .error 6
def more (v:Wll) (o:Opn):Wll:=⟨v.name,v.sheet,v.length,v.opens++[o]⟩
def zch (q:Plan) (ws:List ByteArray):Except Int Plan:=do
 let a ←zfk opensW 1 ws
 let b ←zco 4 a.2
 let _ ←endE b.2
 if q.V.length=0 then .error 4 else
  let o:Opn:=⟨a.1,b.1.getD 0 0,(b.1.drop 1).getD 0 0,((b.1.drop 1).drop 1).getD 0 0,(((b.1.drop 1).drop 1).drop 1).getD 0 0⟩
  let v:=q.V.getD (q.V.length - 1) default
  if zd1 (getS q.S v.sheet).height (more v o)=true then .ok ⟨q.S,q.V.set (q.V.length - 1) (more v o)⟩ else .error 2
def zff (q:Plan) (u:ByteArray) (ws:List ByteArray):Except Int Plan:=
 if (u == ⟨#[115,104,101,101,116]⟩)=true then zb3 q ws
 else if (u == ⟨#[119,97,108,108]⟩)=true then zb1 q ws
 else if (u == ⟨#[111,112,101,110]⟩)=true then zch q ws
 else .error 4
def zcu (q:Plan) (t:ByteArray):Except Int Plan:=do
 let x ←zdp (zcn t 32)
 zff q x.1 x.2
def zkJ {α:Type}:Except Int α→Int
 | .ok _=>0
 | .error k=>k
structure OkQ (q:Plan):Prop where
 sh:∀ s∈q.S,za4 s=true
 ls:q.S.length≤20
 lv:q.V.length≤50
 wv:∀ v∈q.V,v.opens.length≤20∧∀ o∈v.opens,Knd o
theorem znp {l:List ByteArray} {f:Nat} {ws:List ByteArray} {x:Int×List ByteArray} (h:zfk l f ws=.ok x):(f:Int)≤x.1∧x.1 < (l.length:Int):=by
 unfold zfk at h
 cases hx:zdp ws with
 | error k=>rw [hx,zcc] at h; cases h
 | ok y=>
  rw [hx,zak] at h
  split at h
  ·cases h
  ·rename_i h0
   cases h
   have:=findI_lt (fun z=>y.1.toList == z.toList) (l.drop f)
   rw [List.length_drop] at this
   dsimp only
   omega
theorem zmK {top:Int} {v:Wll} (h:zd1 top v=true):v.opens.length≤20:=(zgM (zqW h)).2
theorem zqj {q q':Plan} {ws:List ByteArray} (h:OkQ q) (he:zb3 q ws=.ok q'):OkQ q':=by
 unfold zb3 at he
 cases h1:zci ws with
 | error k=>rw [h1,zcc] at he; cases he
 | ok a=>
  rw [h1,zak] at he
  cases h2:endE a.2 with
  | error k=>rw [h2,zcc] at he; cases he
  | ok b=>
   rw [h2,zak] at he
   split at he
   ·cases he
   ·split at he
    ·rename_i hs
     split at he
     ·cases he
     ·rename_i hl
      cases he
      exact⟨fun s hs'=>by
       rcases List.mem_append.1 hs' with h' | h'
       ·exact h.sh s h'
       ·rw [List.mem_singleton] at h'; rw [h']; exact hs,by have:=h.ls; simp only [List.length_append,List.length_cons,List.length_nil]; omega,h.lv,h.wv⟩
    ·cases he
theorem zrU {q q':Plan} {ws:List ByteArray} (h:OkQ q) (he:zb1 q ws=.ok q'):OkQ q':=by
 unfold zb1 at he
 cases h1:zes ws with
 | error k=>rw [h1,zcc] at he; cases he
 | ok a=>
  rw [h1,zak] at he
  cases h2:zes a.2 with
  | error k=>rw [h2,zcc] at he; cases he
  | ok b=>
   rw [h2,zak] at he
   cases h3:zco 1 b.2 with
   | error k=>rw [h3,zcc] at he; cases he
   | ok c=>
    rw [h3,zak] at he
    cases h4:endE c.2 with
    | error k=>rw [h4,zcc] at he; cases he
    | ok d=>
     rw [h4,zak] at he
     split at he
     ·cases he
     ·split at he
      ·split at he
       ·split at he
        ·cases he
        ·rename_i hl
         cases he
         exact⟨h.sh,h.ls,by have:=h.lv; simp only [List.length_append,List.length_cons,List.length_nil]; omega,fun v hv=>by
          rcases List.mem_append.1 hv with h' | h'
          ·exact h.wv v h'
          ·rw [List.mem_singleton] at h'; rw [h']; exact⟨by simp,fun o ho=>by cases ho⟩⟩
       ·cases he
      ·cases he
theorem zrT {q q':Plan} {ws:List ByteArray} (h:OkQ q) (he:zch q ws=.ok q'):OkQ q':=by
 unfold zch at he
 cases h1:zfk opensW 1 ws with
 | error k=>rw [h1,zcc] at he; cases he
 | ok a=>
  have hk:=znp h1
  rw [h1,zak] at he
  cases h2:zco 4 a.2 with
  | error k=>rw [h2,zcc] at he; cases he
  | ok b=>
   rw [h2,zak] at he
   cases h3:endE b.2 with
   | error k=>rw [h3,zcc] at he; cases he
   | ok d=>
    rw [h3,zak] at he
    split at he
    ·cases he
    ·rename_i h0
     dsimp only at he
     split at he
     ·rename_i hw
      cases he
      refine⟨h.sh,h.ls,by rw [List.length_set]; exact h.lv,fun v hv=>?_⟩
      rcases List.mem_or_eq_of_mem_set hv with h' | h'
      ·exact h.wv v h'
      ·rw [h']
       refine⟨zmK hw,fun o ho=>?_⟩
       rcases List.mem_append.1 ho with h'' | h''
       ·exact(h.wv _ (za0 (by omega))).2 o h''
       ·rw [List.mem_singleton] at h''
        rw [h'']
        have:(opensW.length:Int)=5:=rfl
        exact⟨by dsimp only; omega,by dsimp only; omega⟩
     ·cases he
theorem zrS {q q':Plan} {t:ByteArray} (h:OkQ q) (he:zcu q t=.ok q'):OkQ q':=by
 unfold zcu at he
 cases h1:zdp (zcn t 32) with
 | error k=>rw [h1,zcc] at he; cases he
 | ok x=>
  rw [h1,zak] at he
  unfold zff at he
  split at he
  ·exact zqj h he
  ·split at he
   ·exact zrU h he
   ·split at he
    ·exact zrT h he
    ·cases he
theorem zuj {ws:List ByteArray} (h:¬ ws.length=0):zdp ws=.ok (ws.getD 0 default,ws.drop 1):=by
 cases ws with
 | nil=>exact absurd rfl h
 | cons x r=>rfl
theorem zrL {ws:List ByteArray} (h:ws.length=0):zdp ws=.error 4:=by
 cases ws with
 | nil=>rfl
 | cons x r=>simp at h
theorem zlk (ws:List ByteArray):zco 1 ws=(numE ws >>= fun x=>.ok ([x.1],x.2)):=by
 unfold zco
 cases numE ws <;> rfl
theorem zrP {s:ByteArray} (h:numW s=true):s.size≤6:=by
 unfold numW at h
 simp only [Bool.and_eq_true,decide_eq_true_eq] at h
 omega
theorem znx {ws:List ByteArray} {x:Int×List ByteArray} (h:numE ws=.ok x):x.2.length < ws.length:=by
 cases ws with
 | nil=>cases h
 | cons y r=>
  unfold numE at h
  rw [show zdp (y :: r)=.ok (y,r) from rfl,zak] at h
  split at h
  ·cases h; simp
  ·cases h
theorem zlj {ws:List ByteArray} {x:List Int×List ByteArray} (h:zco 1 ws=.ok x):x.2.length < ws.length:=by
 rw [zlk] at h
 cases h1:numE ws with
 | error k=>rw [h1] at h; cases h
 | ok y=>rw [h1,zak] at h; cases h; exact znx h1
theorem zka {ws:List ByteArray} {x:ByteArray×List ByteArray} (h:zdp ws=.ok x):x.2.length < ws.length:=by
 cases ws with
 | nil=>cases h
 | cons y r=>cases h; simp
theorem zmz {u:ByteArray} {ws:List ByteArray} {x:Unit×List ByteArray} (h:sayE u ws=.ok x):x.2.length < ws.length:=by
 unfold sayE at h
 cases h1:zdp ws with
 | error k=>rw [h1,zcc] at h; cases h
 | ok y=>
  rw [h1,zak] at h
  split at h
  ·cases h; exact zka h1
  ·cases h
theorem znu {ws:List ByteArray} {x:ByteArray×List ByteArray} (h:zes ws=.ok x):x.2.length < ws.length:=by
 unfold zes at h
 cases h1:zdp ws with
 | error k=>rw [h1,zcc] at h; cases h
 | ok y=>
  rw [h1,zak] at h
  split at h
  ·cases h; exact zka h1
  ·cases h
theorem znA:∀ (n:Nat) {ws:List ByteArray} {x:List Int×List ByteArray},zco n ws=.ok x→x.2.length≤ws.length
 | 0,ws,x,h=>by cases h; exact Nat.le_refl _
 | n+1,ws,x,h=>by
  rw [zco] at h
  cases h1:numE ws with
  | error k=>rw [h1,zcc] at h; cases h
  | ok y=>
   rw [h1,zak] at h
   cases h2:zco n y.2 with
   | error k=>rw [h2,zcc] at h; cases h
   | ok z=>
    rw [h2,zak] at h; cases h
    have:=znA n h2
    have:=znx h1
    dsimp only; omega
theorem zfo {u:ByteArray} {n:Nat} {ws:List ByteArray} {x:List Int×List ByteArray} (h:oneE u n ws=.ok x):x.2.length < ws.length:=by
 unfold oneE at h
 cases h1:sayE u ws with
 | error k=>rw [h1,zcc] at h; cases h
 | ok y=>
  rw [h1,zak] at h
  have:=znA n h
  have:=zmz h1
  omega
end Go.Pln
namespace Go.Proofs.YtdcfcfhmkfkgmaaGreatDoor
open Go.K Go.Stn Go.Pln Go.RowKit
theorem zmF:TF Tryz.prog 124 false 1 (.slice none 0 0):=⟨by kernel_rfl,by kernel_rfl⟩
theorem zf0:FO Tryz.prog 161 0 0:=⟨by kernel_rfl⟩
theorem zqJ:SE Tryz.prog 124 9 1:=⟨Tryz.underlying124,by kernel_rfl⟩
theorem if33:IF Tryz.prog 33:=⟨_,Tryz.underlying33,fun _ h=>by cases h⟩
theorem en90:En Tryz.prog 90:=za7 Tryz.func90 (by kernel_rfl) (by kernel_rfl)
theorem en91:En Tryz.prog 91:=za7 Tryz.func91 (by kernel_rfl) (by kernel_rfl)
set_option maxRecDepth 100000 in
set_option maxHeartbeats 1000000 in
theorem zdk (k:Int) (w:World)  :
  Calls Tryz.prog 91 #[.int .i64 k] w ((fun e w'=>e=.panicked (thrC (errT 33 k))∧Ext w w')):=by
 refine zan (vs:=[_]) Tryz.func91 rfl rfl (Nat.le_of_ble_eq_true rfl) ?_
 refine zaa ?_
 refine gQ (zaf rfl) ?_
 refine gQ (zuZ if33 rfl) ?_
 refine zpQ rfl ?_
 exact zij fun w hw=>⟨rfl,hw.base.ext0⟩
set_option maxRecDepth 100000 in
set_option maxHeartbeats 1000000 in
theorem zli (r:Nat) (ws:List ByteArray) (w:World) (B:Nat→Prop) (hB:∀ k,B k→k < w.heap.size) (hA:(Rdr 161 r ws).A B w)  :
  Calls Tryz.prog 90 #[.pointer (some ⟨r,0,none⟩)] w (zej 33 (zdp ws) (fun x (_:Unit)=>.string x.1) (fun x _=>Rdr 161 r x.2) B w):=by
 refine zby hB hA (vs:=[_]) Tryz.func90 rfl rfl (Nat.le_of_ble_eq_true rfl) ?_
 refine zgV fun a1 c1 hc1=>?_
 refine zac ?_
 refine zaa ?_
 refine gQ (zad rfl) ?_
 refine zag (zae (T':=[(0,_),(2,_)]) ⟨rfl,rfl,trivial⟩ ?_)
 refine zac ?_
 refine zac ?_
 refine zaa ?_
 refine gQ (zaf rfl) ?_
 refine gQ (zbx rfl) ?_
 refine gQ (zab zf0 rfl) ?_
 refine gQ (zah 0 zmF rfl rfl rfl) ?_
 refine gQ (zaV (Tryz.underlying124) rfl) ?_
 refine gQ (zbL rfl rfl) ?_
 refine zag (zae (T':=[(0,_),(2,_),(9,_)]) ⟨rfl,rfl,rfl,trivial⟩ ?_)
 refine zap rfl (fun hc9=>?_) (fun hc9=>?_)
 ·have h0:ws.length=0:=by have:=of_decide_eq_true hc9; omega
  refine zaa ?_
  refine zcg en91 rfl (fun w hw=>zdk _ w) ?_
  exact za6 (zrL h0)
 ·have h0:¬ ws.length=0:=by have:=of_decide_eq_false hc9; omega
  refine zaq ?_
  refine zac ?_
  refine zaa ?_
  refine gQ (zaf rfl) ?_
  refine gQ (zbx rfl) ?_
  refine gQ (zab zf0 rfl) ?_
  refine gQ (zah 0 zmF rfl rfl rfl) ?_
  refine gQ (zaE zqJ rfl rfl (fun _ hw=>(hw.has (p:=1) rfl)) (by omega) (by omega)) ?_
  refine gQ (zcE tf9 rfl (fun _ hw=>(hw.has (p:=1) rfl)) (by omega) (by omega) rfl) ?_
  refine gQ (zad rfl) ?_
  refine zag (zae (T':=[(0,_),(2,_),(3,_)]) ⟨rfl,rfl,rfl,trivial⟩ ?_)
  refine zac ?_
  refine zaa ?_
  refine gQ (zaf rfl) ?_
  refine gQ (zaf rfl) ?_
  refine gQ (zbx rfl) ?_
  refine gQ (zab zf0 rfl) ?_
  refine gQ (zah 0 zmF rfl rfl rfl) ?_
  refine gQ (zg9 zqJ rfl rfl (by omega) (by omega)) ?_
  refine gQ (zbx rfl) ?_
  refine gQ (zab zf0 rfl) ?_
  refine zaA 0 zmF rfl rfl (vs:=[_]) rfl rfl rfl rfl rfl ?_
  refine zag (zae (T':=[(2,_),(3,_)]) ⟨rfl,rfl,trivial⟩ ?_)
  refine zac ?_
  refine zaa ?_
  refine gQ (zaf rfl) ?_
  refine gQ (zad rfl) ?_
  refine zag (zae (T':=[(2,_)]) ⟨rfl,trivial⟩ ?_)
  refine zaw ?_
  refine zoh hc1 (by omega) ?_
  exact zdm (ws.getD 0 default,ws.drop 1) () 0 (zaC rfl (zau rfl)) rfl rfl (zuj h0)
set_option maxRecDepth 100000 in
set_option maxHeartbeats 1000000 in
theorem zuG (r:Nat) (ws:List ByteArray) (u:ByteArray) (w:World) (B:Nat→Prop) (hB:∀ k,B k→k < w.heap.size) (hA:(Rdr 161 r ws).A B w)  :
  Calls Tryz.prog 132 #[.pointer (some ⟨r,0,none⟩),.string u] w (zej 33 (sayE u ws) (fun _x (_:Unit)=>.tuple #[]) (fun x _=>Rdr 161 r x.2) B w):=by
 refine zby hB hA (vs:=[_,_]) Tryz.func132 rfl rfl (Nat.le_of_ble_eq_true rfl) ?_
 refine zac ?_
 refine zaa ?_
 refine gQ (zaf rfl) ?_
 refine zbZ (res:=zdp ws) 0 en90 rfl rfl rfl (fun w B hF=>zli r ws w B (fun k hk=>(hF.own k hk).2) hF.A) (fun k hk5=>?_) (fun x5 m5 hx5=>?_)
 ·
  exact za6 (by rw [sayE,hk5]; rfl)
 refine gQ (zaf rfl) ?_
 refine gQ (ziV rfl rfl) ?_
 refine zag (zae (T':=[(7,_)]) ⟨rfl,trivial⟩ ?_)
 refine zap rfl (fun hc7=>?_) (fun hc7=>?_)
 ·have h7:¬ (x5.1.toList == u.toList)=true:=by simpa using hc7
  refine zaa ?_
  refine zcg en91 rfl (fun w hw=>zdk _ w) ?_
  exact za6 (by rw [sayE,hx5,zak,if_neg h7])
 ·have h7:(x5.1.toList == u.toList)=true:=by simpa using hc7
  refine zaq ?_
  exact zdm ((),x5.2) () 0 (zcN rfl) rfl rfl (by rw [sayE,hx5,zak,if_pos h7])
set_option maxRecDepth 100000 in
set_option maxHeartbeats 1000000 in
theorem zqa (r:Nat) (ws:List ByteArray) (w:World) (B:Nat→Prop) (hB:∀ k,B k→k < w.heap.size) (hA:(Rdr 161 r ws).A B w)  :
  Calls Tryz.prog 113 #[.pointer (some ⟨r,0,none⟩)] w (zej 33 (zes ws) (fun x (_:Unit)=>.string x.1) (fun x _=>Rdr 161 r x.2) B w):=by
 refine zby hB hA (vs:=[_]) Tryz.func113 rfl rfl (Nat.le_of_ble_eq_true rfl) ?_
 refine zac ?_
 refine zaa ?_
 refine gQ (zad rfl) ?_
 refine zag (zae (T':=[(0,_),(2,_)]) ⟨rfl,rfl,trivial⟩ ?_)
 refine zac ?_
 refine zaa ?_
 refine gQ (zaf rfl) ?_
 refine zbZ (res:=zdp ws) 0 en90 rfl rfl rfl (fun w B hF=>zli r ws w B (fun k hk=>(hF.own k hk).2) hF.A) (fun k hk5=>?_) (fun x5 m5 hx5=>?_)
 ·
  exact za6 (by rw [zes,hk5]; rfl)
 refine gQ (zad rfl) ?_
 refine zag (zae (T':=[(2,_),(3,_)]) ⟨rfl,rfl,trivial⟩ ?_)
 refine zac ?_
 refine zac ?_
 refine zaa ?_
 refine gQ (zaf rfl) ?_
 refine gQ (zaJ en55 rfl (fun w hw=>zmo _ w)) ?_
 refine gQ (zbR rfl) ?_
 refine zag (zae (T':=[(2,_),(3,_),(8,_)]) ⟨rfl,rfl,rfl,trivial⟩ ?_)
 refine zap rfl (fun hc8=>?_) (fun hc8=>?_)
 ·have h8:¬ zgx x5.1=true:=by simpa using hc8
  refine zaa ?_
  refine zcg en91 rfl (fun w hw=>zdk _ w) ?_
  exact za6 (by rw [zes,hx5,zak,if_neg h8])
 ·have h8:zgx x5.1=true:=by simpa using hc8
  refine zaq ?_
  refine zac ?_
  refine zaa ?_
  refine gQ (zaf rfl) ?_
  refine gQ (zad rfl) ?_
  refine zag (zae (T':=[(2,_)]) ⟨rfl,trivial⟩ ?_)
  refine zaw ?_
  exact zdm (x5.1,x5.2) () 0 (zaC rfl (zau rfl)) rfl rfl (by rw [zes,hx5,zak,if_pos h8])
set_option maxRecDepth 100000 in
set_option maxHeartbeats 1000000 in
theorem ztK (r:Nat) (ws:List ByteArray) (w:World) (B:Nat→Prop) (hB:∀ k,B k→k < w.heap.size) (hA:(Rdr 161 r ws).A B w)  :
  Calls Tryz.prog 111 #[.pointer (some ⟨r,0,none⟩)] w (zej 33 (endE ws) (fun _x (_:Unit)=>.tuple #[]) (fun x _=>Rdr 161 r x.2) B w):=by
 refine zby hB hA (vs:=[_]) Tryz.func111 rfl rfl (Nat.le_of_ble_eq_true rfl) ?_
 refine zgV fun a1 c1 hc1=>?_
 refine zac ?_
 refine zaa ?_
 refine gQ (zaf rfl) ?_
 refine gQ (zbx rfl) ?_
 refine gQ (zab zf0 rfl) ?_
 refine gQ (zah 0 zmF rfl rfl rfl) ?_
 refine gQ (zaV (Tryz.underlying124) rfl) ?_
 refine gQ (zc6 rfl rfl) ?_
 refine zag (zae (T':=[(7,_)]) ⟨rfl,trivial⟩ ?_)
 refine zap rfl (fun hc7=>?_) (fun hc7=>?_)
 ·have h7:¬ ws.length=0:=by have:=of_decide_eq_true hc7; omega
  refine zaa ?_
  refine zcg en91 rfl (fun w hw=>zdk _ w) ?_
  exact za6 (if_neg h7)
 ·have h7:ws.length=0:=by have:=of_decide_eq_false hc7; omega
  refine zaq ?_
  refine zeH hc1 ?_
  exact zdm ((),ws) () 0 (zcN rfl) rfl rfl (if_pos h7)
end Go.Proofs.YtdcfcfhmkfkgmaaGreatDoor
namespace Go.Pln
open Go Go.K Go.RowKit Go.Stn Go.Txt
theorem ziQ (s:ByteArray):(s.toList == (⟨#[]⟩:ByteArray).toList)=decide ((s.size:Int) < 1):=by
 rw [ByteArray.toList_eq,ByteArray.toList_eq,Bool.eq_iff_iff,beq_iff_eq,decide_eq_true_eq]
 have hz:s.size=s.data.toList.length:=rfl
 rw [hz]
 constructor
 ·intro h
  rw [h]; decide
 ·intro h
  have h0:s.data.toList.length=0:=by omega
  rw [List.length_eq_zero_iff.1 h0]
theorem zcZ {s:ByteArray} {b c:Bool} (h:(((!(s.toList == (⟨#[]⟩:ByteArray).toList))&&b)&&c)=true):1≤s.size:=by
 simp only [Bool.and_eq_true,Bool.not_eq_true',ziQ,decide_eq_false_iff_not] at h
 omega
def zmp (b:Int):Bool:=decide (b < 48)||decide (57 < b)
theorem zrA (s:ByteArray):∀ (m p:Nat),s.size - p=m→(0≤zcj oddN s p↔∃ j,p≤j∧j < s.size∧zmp (zee s (j:Nat))=true):=by
 intro m
 induction m using Nat.strongRecOn with
 | _ m ih=>
  intro p hm
  by_cases hp:p < s.size
  ·by_cases hlow:(s.get! p).toNat < 128
   ·have hd:=Go.Stn.decode_low hlow
    have hb:=zeV hp
    cases ho:zmp (zee s (p:Int)) with
    | true=>
     rw [zdW hp (by rw [hd]; rw [hb] at ho; exact ho)]
     exact⟨fun _=>⟨p,Nat.le_refl _,hp,ho⟩,fun _=>by omega⟩
    | false=>
     rw [zfj hp (by rw [hd]; rw [hb] at ho; exact ho),hd]
     rw [ih (s.size - (p+1)) (by omega) (p+1) rfl]
     constructor
     ·rintro ⟨j,h1,h2,h3⟩; exact⟨j,by omega,h2,h3⟩
     ·rintro ⟨j,h1,h2,h3⟩
      refine⟨j,?_,h2,h3⟩
      by_cases hj:j=p
      ·subst hj; rw [ho] at h3; cases h3
      ·omega
   ·have hd:=Go.Stn.decode_high hlow
    rw [zdW hp (by unfold oddN; simp; omega)]
    refine⟨fun _=>⟨p,Nat.le_refl _,hp,?_⟩,fun _=>by omega⟩
    rw [zeV hp]
    unfold zmp; simp; omega
  ·rw [zf5 hp]
   refine⟨fun h=>by omega,?_⟩
   rintro ⟨j,h1,h2,_⟩; omega
theorem zgR (s:ByteArray) (i:Nat) (h:i < s.size):zee s (i:Int)=((s.data.toList[i]'(by simpa using h)).toNat:Int):=by
 rw [zeV h]
 congr 2
 cases s with
 | mk d=>
  have hd:i < d.size:=h
  simp only [ByteArray.get!]
  rw [getElem!_pos d i hd,Array.getElem_toList]
theorem zvg {s:ByteArray} {c:UInt8} {r:List UInt8} (hl:s.data.toList=c :: r):zee s 0=(c.toNat:Int):=by
 have h0:0 < s.size:=by
  have hz:s.size=s.data.toList.length:=rfl
  rw [hz,hl]; simp
 have:=zgR s 0 h0
 rw [show((0:Nat):Int)=0 from rfl] at this
 rw [this]
 congr 2
 have h1:s.data.toList[0]?=some c:=by rw [hl]; rfl
 rw [List.getElem?_eq_getElem (by rw [hl]; simp)] at h1
 injection h1
def digW (l:List UInt8):Prop:=1≤l.length∧l.length≤6∧(∀ c∈l,ziZ c)∧(l=[48]∨∃ c r,l=c :: r∧c≠48)
theorem zph {c:UInt8}:zmp (c.toNat:Int)=false↔ziZ c:=by
 unfold zmp ziZ
 simp only [Bool.or_eq_false_iff,decide_eq_false_iff_not]
 omega
theorem zrO (s:ByteArray):numW s=true↔digW s.data.toList:=by
 have hz:s.size=s.data.toList.length:=rfl
 unfold numW digW
 rw [ziQ,ByteArray.toList_eq,ByteArray.toList_eq]
 simp only [Bool.and_eq_true,Bool.or_eq_true,Bool.not_eq_true',decide_eq_false_iff_not,decide_eq_true_eq,beq_iff_eq,zrA s s.size 0 (by omega)]
 have hall:(¬ ∃ j,0≤j∧j < s.size∧zmp (zee s (j:Nat))=true)↔∀ c∈s.data.toList,ziZ c:=by
  constructor
  ·intro h c hc
   obtain⟨j,hj,rfl⟩:=List.getElem_of_mem hc
   refine zph.1 ?_
   cases hb:zmp ((s.data.toList[j].toNat:Nat):Int) with
   | false=>rfl
   | true=>exact absurd ⟨j,Nat.zero_le _,by omega,by rw [zgR s j (by omega)]; exact hb⟩ h
  ·rintro h ⟨j,_,hj,hb⟩
   rw [zgR s j hj,zph.2 (h _ (List.getElem_mem _))] at hb
   cases hb
 rw [hall]
 constructor
 ·rintro ⟨⟨⟨h1,h2⟩,h3⟩,h4⟩
  refine⟨by omega,by omega,h3,?_⟩
  rcases h4 with h4 | h4
  ·right
   cases hl:s.data.toList with
   | nil=>rw [hl,List.length_nil] at hz; omega
   | cons c r=>
    refine⟨c,r,rfl,fun e=>h4 ?_⟩
    rw [zvg hl,e]; rfl
  ·left; exact h4
 ·rintro ⟨h1,h2,h3,h4⟩
  refine⟨⟨⟨by omega,by omega⟩,h3⟩,?_⟩
  rcases h4 with h4 | ⟨c,r,hl,hc⟩
  ·exact .inr h4
  ·left
   intro e
   rw [zvg hl] at e
   exact hc (UInt8.toNat_inj.1 (by have h48:(48:UInt8).toNat=48:=rfl; omega))
theorem zpf {l:List UInt8} (h:digW l):zfQ 0 l < 10 ^ 6:=by
 have key:∀ (l:List UInt8) (a:Nat),(∀ c∈l,ziZ c)→zfQ a l < (a+1)*10 ^ l.length:=by
  intro l
  induction l with
  | nil=>intro a _; simp [zfQ]
  | cons c r ih=>
   intro a hd
   have hc:=hd c (by simp)
   unfold ziZ at hc
   rw [zhX,List.length_cons,Nat.pow_succ,Nat.mul_comm (10 ^ r.length) 10,←Nat.mul_assoc]
   refine Nat.lt_of_lt_of_le (ih _ (fun x hx=>hd x (by simp [hx]))) (Nat.mul_le_mul_right _ (by omega))
 have h1:=key l 0 h.2.2.1
 rw [Nat.zero_add,Nat.one_mul] at h1
 exact Nat.lt_of_lt_of_le h1 (Nat.pow_le_pow_right (by decide) h.2.1)
theorem zq6 {l:List UInt8} (h:digW l):Lib.atoiAll l=.ok (zfQ 0 l:Int):=by
 have hs:=zpf h
 obtain⟨h1,h2,h3,h4⟩:=h
 have hb:(0+1)*10 ^ l.length≤10 ^ 18:=by
  rw [Nat.zero_add,Nat.one_mul]
  exact Nat.pow_le_pow_right (by decide) (by omega)
 have hp:=zjp l 0 h3 hb
 have hm:Lib.parseMag l=.ok (zfQ 0 l):=by
  unfold Lib.parseMag
  rw [if_neg (by intro e; rw [e] at h1; simp at h1)]; exact hp
 cases hl:l with
 | nil=>rw [hl] at h1; simp at h1
 | cons c r=>
  rw [hl] at hm h3 hs
  have hc:=h3 c (by simp)
  unfold ziZ at hc
  have h6:(10:Nat) ^ 6=1000000:=rfl
  unfold Lib.atoiAll
  simp only [if_neg (show ¬ (c.toNat=43∨c.toNat=45) by omega),hm]
  rw [if_neg (by omega),if_neg (by omega),if_neg (by omega)]
theorem zoV {s:ByteArray} (h:numW s=true):Lib.atoiAll s.data.toList=.ok (zdO s)∧zdO s=(zfQ 0 s.data.toList:Int):=by
 have:=zq6 ((zrO s).1 h)
 unfold zdO
 rw [this]
 exact⟨rfl,rfl⟩
def putE (os:List Nat) (cs:List Value) (ws:List ByteArray):Except Int (List Value×List ByteArray):=zco os.length ws >>= fun x=>.ok (zlz cs os x.1,x.2)
theorem zr5 (cs:List Value) (ws:List ByteArray):putE [] cs ws=.ok (cs,ws):=rfl
theorem ziy (o:Nat) (os:List Nat) (cs:List Value) (ws:List ByteArray):putE (o :: os) cs ws=(numE ws >>= fun x=>putE os (cs.set o (.int .i64 x.1)) x.2):=by
 unfold putE
 rw [List.length_cons,zco]
 cases h1:numE ws with
 | error k=>rfl
 | ok x=>
  rw [zak,zak]
  cases h2:zco os.length x.2 with
  | error k=>rfl
  | ok y=>rfl
theorem zwf {os:List Nat} {cs cs':List Value} {ws ws':List ByteArray} (h:.ok (cs',ws')=putE os cs ws):∃ l,zco os.length ws=.ok (l,ws')∧cs' = zlz cs os l:=by
 unfold putE at h
 cases h2:zco os.length ws with
 | error k=>rw [h2] at h; cases h
 | ok x=>
  rw [h2,zak] at h
  injection h with h3
  injection h3 with h4 h5
  exact⟨x.1,by rw [h5],h4⟩
theorem zqt {os:List Nat} {cs:List Value} {ws:List ByteArray} {k:Int} (h:.error k=putE os cs ws):zco os.length ws=.error k:=by
 unfold putE at h
 cases h2:zco os.length ws with
 | error k'=>rw [h2,zcc] at h; injection h with h3; rw [h3]
 | ok x=>rw [h2,zak] at h; cases h
theorem zkh {os:List Nat} {i:Int} (h0:0≤i) (h1:i < (os.length:Int)):os.drop i.toNat=os.getD i.toNat 0 :: os.drop (i+1).toNat:=by
 rw [List.drop_eq_getElem_cons (by omega),show(i+1).toNat=i.toNat+1 by omega]
 congr 1
 simp [show i.toNat < os.length by omega]
theorem ztP {b:Nat} {os:List Nat} {i:Int} (h0:0≤i) (h1:i < (os.length:Int)):(os.map (fun o=>(b,o))).getD i.toNat default=(b,os.getD i.toNat 0):=by
 have:i.toNat < os.length:=by omega
 simp [this]
theorem zgs {acc:List Int} {ws:List ByteArray} (h:¬ ws.length=0) (hl:¬ ((ws.getD 0 default).toList == wLeast.toList)=true):zbF acc ws=(zco 1 ws >>= fun x=>zbF (acc++[x.1.getD 0 0]) x.2):=by
 cases ws with
 | nil=>exact absurd rfl h
 | cons x r=>
  replace hl:¬ (x.toList == wLeast.toList)=true:=hl
  rw [zbF,if_neg hl,zlk]
  unfold numE
  rw [show zdp (x :: r)=.ok (x,r) from rfl,zak]
  by_cases hn:numW x=true
  ·rw [if_pos hn,if_pos hn]; rfl
  ·rw [if_neg hn,if_neg hn]; rfl
theorem zk4 {acc:List Int} {ws:List ByteArray} (h:ws.length=0∨((ws.getD 0 default).toList == wLeast.toList)=true):zbF acc ws=.ok (acc,ws):=by
 cases ws with
 | nil=>rfl
 | cons x r=>
  have h2:(x.toList == wLeast.toList)=true:=h.resolve_left (by simp)
  rw [zbF,if_pos h2]
theorem zwr {n:Int} (h:0≤n) (h2:n≤255):IntKind.u8.wrap n=n:=by
 unfold IntKind.wrap
 simp only [IntKind.signed,IntKind.bits,Bool.false_and]
 rw [if_neg (by simp)]
 omega
theorem zcA {α β:Type} {r:Except Int α} {f:α→Except Int β} {y:β} (h:(r >>= f)=.ok y):∃ x,r=.ok x∧f x=.ok y:=by
 cases r with
 | error k=>cases h
 | ok x=>exact⟨x,rfl,h⟩
theorem zhh:∀ (us:List ByteArray) (acc:List Int) {x:List Int×List ByteArray},zbF acc us=.ok x→x.1.length+x.2.length≤acc.length+us.length
 | [],acc,x,h=>by cases h; simp
 | u :: us,acc,x,h=>by
  rw [zbF] at h
  split at h
  ·cases h; exact Nat.le_refl _
  ·split at h
   ·have:=zhh us _ h
    simp only [List.length_append,List.length_cons,List.length_nil] at this ⊢
    omega
   ·cases h
theorem zkq {ws:List ByteArray} {x:Sht×List ByteArray} (h:zci ws=.ok x):x.1.heights.length≤ws.length:=by
 unfold zci at h
 obtain⟨x0,h0,h⟩:=zcA h
 obtain⟨x1,h1,h⟩:=zcA h
 obtain⟨x2,h2,h⟩:=zcA h
 obtain⟨x3,h3,h⟩:=zcA h
 obtain⟨x4,h4,h⟩:=zcA h
 obtain⟨x5,h5,h⟩:=zcA h
 obtain⟨x6,h6,h⟩:=zcA h
 obtain⟨x7,h7,h⟩:=zcA h
 obtain⟨x8,h8,h⟩:=zcA h
 obtain⟨x9,h9,h⟩:=zcA h
 obtain⟨x10,h10,h⟩:=zcA h
 obtain⟨x11,h11,h⟩:=zcA h
 obtain⟨x12,h12,h⟩:=zcA h
 obtain⟨x13,h13,h⟩:=zcA h
 obtain⟨x14,h14,h⟩:=zcA h
 obtain⟨x15,h15,h⟩:=zcA h
 obtain⟨x16,h16,h⟩:=zcA h
 split at h
 ·cases h
 ·cases h
  have a0:=znu h0; have a1:=zfo h1; have a2:=zfo h2; have a3:=zfo h3; have a4:=zfo h4; have a5:=zmz h5
  have a6:=zhh _ _ h6
  simp only [List.length_nil] at a6
  dsimp only
  omega
end Go.Pln
namespace Go.Proofs
open Go.Shelf
def Tryz.lays145_ren:Go.Shelf.Ren:=⟨fun | 145=>86 | 220=>107 | 219=>127 | 217=>144 | 225=>145 | 224=>146 | 267=>147 | 266=>164 | 314=>165 | n=>n,fun | 9=>9 | 4=>4 | 59=>155 | 3=>3 | 5=>5 | 46=>90 | 146=>235 | 51=>234 | n=>n,fun | 1=>2 | n=>n⟩
theorem Tryz.lays145:Go.Proofs.Lays.n145 Tryz.prog Tryz.lays145_ren:={
 mixed:=by kernel_rfl
 f145:=Tryz.func86.trans (congrArg some (by kernel_rfl))
 f217:=Tryz.func144.trans (congrArg some (by kernel_rfl))
 f219:=Tryz.func127.trans (congrArg some (by kernel_rfl))
 f220:=Tryz.func107.trans (congrArg some (by kernel_rfl))
 f224:=Tryz.func146.trans (congrArg some (by kernel_rfl))
 f225:=Tryz.func145.trans (congrArg some (by kernel_rfl))
 f266:=Tryz.func164.trans (congrArg some (by kernel_rfl))
 f267:=Tryz.func147.trans (congrArg some (by kernel_rfl))
 f314:=Tryz.func165.trans (congrArg some (by kernel_rfl))
 t3:=Tryz.underlying3
 a3:=Tryz.isAgg3
 z3:=Tryz.sizeOf3
 v3:=Tryz.zeroValue3
 t4:=Tryz.underlying4
 a4:=Tryz.isAgg4
 z4:=Tryz.sizeOf4
 v4:=Tryz.zeroValue4
 t5:=Tryz.underlying5
 a5:=Tryz.isAgg5
 z5:=Tryz.sizeOf5
 v5:=Tryz.zeroValue5
 t9:=Tryz.underlying9
 a9:=Tryz.isAgg9
 z9:=Tryz.sizeOf9
 v9:=Tryz.zeroValue9
 t46:=Tryz.underlying90
 a46:=Tryz.isAgg90
 z46:=Tryz.sizeOf90
 v46:=Tryz.zeroValue90
 t51:=Tryz.underlying234
 a51:=Tryz.isAgg234
 z51:=Tryz.sizeOf234
 v51:=Tryz.zeroValue234
 t59:=Tryz.underlying155
 a59:=Tryz.isAgg155
 z59:=Tryz.sizeOf155
 v59:=Tryz.zeroValue155
 t146:=Tryz.underlying235
 a146:=Tryz.isAgg235
 z146:=Tryz.sizeOf235
 v146:=Tryz.zeroValue235
 g1:=by kernel_rfl }
def Tryz.lays146_ren:Go.Shelf.Ren:=⟨fun | 146=>88 | 221=>108 | 268=>128 | 138=>129 | 143=>130 | 195=>148 | 197=>149 | 218=>150 | 219=>127 | 260=>166 | 217=>144 | 225=>145 | 224=>146 | 267=>147 | 266=>164 | 314=>165 | n=>n,fun | 9=>9 | 31=>124 | 3=>3 | 4=>4 | 0=>0 | 105=>220 | 21=>21 | 5=>5 | 46=>90 | 119=>249 | 139=>252 | 138=>251 | 146=>235 | 51=>234 | n=>n,fun | 1=>2 | 3=>4 | 4=>5 | n=>n⟩
theorem Tryz.lays146:Go.Proofs.Lays.n146 Tryz.prog Tryz.lays146_ren:={
 mixed:=by kernel_rfl
 f138:=Tryz.func129.trans (congrArg some (by kernel_rfl))
 f143:=Tryz.func130.trans (congrArg some (by kernel_rfl))
 f146:=Tryz.func88.trans (congrArg some (by kernel_rfl))
 f195:=Tryz.func148.trans (congrArg some (by kernel_rfl))
 f197:=Tryz.func149.trans (congrArg some (by kernel_rfl))
 f217:=Tryz.func144.trans (congrArg some (by kernel_rfl))
 f218:=Tryz.func150.trans (congrArg some (by kernel_rfl))
 f219:=Tryz.func127.trans (congrArg some (by kernel_rfl))
 f221:=Tryz.func108.trans (congrArg some (by kernel_rfl))
 f224:=Tryz.func146.trans (congrArg some (by kernel_rfl))
 f225:=Tryz.func145.trans (congrArg some (by kernel_rfl))
 f260:=Tryz.func166.trans (congrArg some (by kernel_rfl))
 f266:=Tryz.func164.trans (congrArg some (by kernel_rfl))
 f267:=Tryz.func147.trans (congrArg some (by kernel_rfl))
 f268:=Tryz.func128.trans (congrArg some (by kernel_rfl))
 f314:=Tryz.func165.trans (congrArg some (by kernel_rfl))
 t0:=Tryz.underlying0
 a0:=Tryz.isAgg0
 z0:=Tryz.sizeOf0
 v0:=Tryz.zeroValue0
 t3:=Tryz.underlying3
 a3:=Tryz.isAgg3
 z3:=Tryz.sizeOf3
 v3:=Tryz.zeroValue3
 t4:=Tryz.underlying4
 a4:=Tryz.isAgg4
 z4:=Tryz.sizeOf4
 v4:=Tryz.zeroValue4
 t5:=Tryz.underlying5
 a5:=Tryz.isAgg5
 z5:=Tryz.sizeOf5
 v5:=Tryz.zeroValue5
 t9:=Tryz.underlying9
 a9:=Tryz.isAgg9
 z9:=Tryz.sizeOf9
 v9:=Tryz.zeroValue9
 t21:=Tryz.underlying21
 a21:=Tryz.isAgg21
 z21:=Tryz.sizeOf21
 v21:=Tryz.zeroValue21
 t31:=Tryz.underlying124
 a31:=Tryz.isAgg124
 z31:=Tryz.sizeOf124
 v31:=Tryz.zeroValue124
 t46:=Tryz.underlying90
 a46:=Tryz.isAgg90
 z46:=Tryz.sizeOf90
 v46:=Tryz.zeroValue90
 t51:=Tryz.underlying234
 a51:=Tryz.isAgg234
 z51:=Tryz.sizeOf234
 v51:=Tryz.zeroValue234
 t105:=Tryz.underlying220
 a105:=Tryz.isAgg220
 z105:=Tryz.sizeOf220
 v105:=Tryz.zeroValue220
 t119:=Tryz.underlying249
 a119:=Tryz.isAgg249
 z119:=Tryz.sizeOf249
 t138:=Tryz.underlying251
 a138:=Tryz.isAgg251
 z138:=Tryz.sizeOf251
 v138:=Tryz.zeroValue251
 t139:=Tryz.underlying252
 a139:=Tryz.isAgg252
 z139:=Tryz.sizeOf252
 v139:=Tryz.zeroValue252
 t146:=Tryz.underlying235
 a146:=Tryz.isAgg235
 z146:=Tryz.sizeOf235
 v146:=Tryz.zeroValue235
 g1:=by kernel_rfl
 g3:=by kernel_rfl
 g4:=by kernel_rfl }
def Tryz.laysC172_ren:Go.Shelf.Ren:=⟨fun | 172=>134 | 244=>152 | 245=>153 | 247=>167 | 279=>168 | 280=>169 | 281=>170 | 282=>171 | 287=>180 | 316=>181 | 171=>102 | 205=>182 | 321=>194 | 322=>195 | 243=>122 | 246=>141 | 283=>158 | 284=>159 | 285=>160 | 286=>161 | 129=>176 | 317=>175 | 318=>177 | 319=>178 | 320=>179 | 337=>192 | 338=>193 | n=>n,fun | 9=>9 | 3=>3 | 75=>200 | 76=>201 | 4=>4 | 5=>5 | 167=>237 | 37=>195 | 0=>0 | 85=>238 | 2=>2 | 168=>240 | 53=>226 | 175=>253 | 46=>90 | 210=>257 | 127=>218 | 145=>270 | 143=>268 | 21=>21 | 171=>225 | 173=>229 | 212=>247 | 51=>234 | 20=>20 | 213=>248 | 232=>276 | 233=>277 | 80=>104 | n=>n,fun | 15=>6 | 16=>7 | 17=>3 | 18=>8 | 19=>9 | n=>n⟩
theorem Tryz.laysC172:Go.Proofs.LaysC.n172 Tryz.prog Tryz.laysC172_ren:={
 mixed:=by kernel_rfl
 f129:=Tryz.func176.trans (congrArg some (by kernel_rfl))
 f171:=Tryz.func102.trans (congrArg some (by kernel_rfl))
 f172:=Tryz.func134.trans (congrArg some (by kernel_rfl))
 f205:=Tryz.func182.trans (congrArg some (by kernel_rfl))
 f243:=Tryz.func122.trans (congrArg some (by kernel_rfl))
 f244:=Tryz.func152.trans (congrArg some (by kernel_rfl))
 f245:=Tryz.func153.trans (congrArg some (by kernel_rfl))
 f246:=Tryz.func141.trans (congrArg some (by kernel_rfl))
 f247:=Tryz.func167.trans (congrArg some (by kernel_rfl))
 f279:=Tryz.func168.trans (congrArg some (by kernel_rfl))
 f280:=Tryz.func169.trans (congrArg some (by kernel_rfl))
 f281:=Tryz.func170.trans (congrArg some (by kernel_rfl))
 f282:=Tryz.func171.trans (congrArg some (by kernel_rfl))
 f283:=Tryz.func158.trans (congrArg some (by kernel_rfl))
 f284:=Tryz.func159.trans (congrArg some (by kernel_rfl))
 f285:=Tryz.func160.trans (congrArg some (by kernel_rfl))
 f286:=Tryz.func161.trans (congrArg some (by kernel_rfl))
 f287:=Tryz.func180.trans (congrArg some (by kernel_rfl))
 f316:=Tryz.func181.trans (congrArg some (by kernel_rfl))
 f317:=Tryz.func175.trans (congrArg some (by kernel_rfl))
 f318:=Tryz.func177.trans (congrArg some (by kernel_rfl))
 f319:=Tryz.func178.trans (congrArg some (by kernel_rfl))
 f320:=Tryz.func179.trans (congrArg some (by kernel_rfl))
 f321:=Tryz.func194.trans (congrArg some (by kernel_rfl))
 f322:=Tryz.func195.trans (congrArg some (by kernel_rfl))
 f337:=Tryz.func192.trans (congrArg some (by kernel_rfl))
 f338:=Tryz.func193.trans (congrArg some (by kernel_rfl))
 t0:=Tryz.underlying0
 a0:=Tryz.isAgg0
 z0:=Tryz.sizeOf0
 v0:=Tryz.zeroValue0
 t2:=Tryz.underlying2
 a2:=Tryz.isAgg2
 z2:=Tryz.sizeOf2
 v2:=Tryz.zeroValue2
 t3:=Tryz.underlying3
 a3:=Tryz.isAgg3
 z3:=Tryz.sizeOf3
 v3:=Tryz.zeroValue3
 t4:=Tryz.underlying4
 a4:=Tryz.isAgg4
 z4:=Tryz.sizeOf4
 v4:=Tryz.zeroValue4
 t5:=Tryz.underlying5
 a5:=Tryz.isAgg5
 z5:=Tryz.sizeOf5
 v5:=Tryz.zeroValue5
 t9:=Tryz.underlying9
 a9:=Tryz.isAgg9
 z9:=Tryz.sizeOf9
 v9:=Tryz.zeroValue9
 t20:=Tryz.underlying20
 a20:=Tryz.isAgg20
 z20:=Tryz.sizeOf20
 v20:=Tryz.zeroValue20
 t21:=Tryz.underlying21
 a21:=Tryz.isAgg21
 z21:=Tryz.sizeOf21
 v21:=Tryz.zeroValue21
 t37:=Tryz.underlying195
 a37:=Tryz.isAgg195
 z37:=Tryz.sizeOf195
 v37:=Tryz.zeroValue195
 t46:=Tryz.underlying90
 a46:=Tryz.isAgg90
 z46:=Tryz.sizeOf90
 v46:=Tryz.zeroValue90
 t51:=Tryz.underlying234
 a51:=Tryz.isAgg234
 z51:=Tryz.sizeOf234
 v51:=Tryz.zeroValue234
 t53:=Tryz.underlying226
 a53:=Tryz.isAgg226
 z53:=Tryz.sizeOf226
 v53:=Tryz.zeroValue226
 t75:=Tryz.underlying200
 a75:=Tryz.isAgg200
 z75:=Tryz.sizeOf200
 v75:=Tryz.zeroValue200
 t76:=Tryz.underlying201
 a76:=Tryz.isAgg201
 z76:=Tryz.sizeOf201
 v76:=Tryz.zeroValue201
 t85:=Tryz.underlying238
 a85:=Tryz.isAgg238
 z85:=Tryz.sizeOf238
 v85:=Tryz.zeroValue238
 t127:=Tryz.underlying218
 a127:=Tryz.isAgg218
 z127:=Tryz.sizeOf218
 v127:=Tryz.zeroValue218
 t143:=Tryz.underlying268
 a143:=Tryz.isAgg268
 z143:=Tryz.sizeOf268
 v143:=Tryz.zeroValue268
 t145:=Tryz.underlying270
 a145:=Tryz.isAgg270
 z145:=Tryz.sizeOf270
 v145:=Tryz.zeroValue270
 t167:=Tryz.underlying237
 a167:=Tryz.isAgg237
 z167:=Tryz.sizeOf237
 v167:=Tryz.zeroValue237
 t168:=Tryz.underlying240
 a168:=Tryz.isAgg240
 z168:=Tryz.sizeOf240
 v168:=Tryz.zeroValue240
 t171:=Tryz.underlying225
 a171:=Tryz.isAgg225
 z171:=Tryz.sizeOf225
 v171:=Tryz.zeroValue225
 t173:=Tryz.underlying229
 a173:=Tryz.isAgg229
 z173:=Tryz.sizeOf229
 v173:=Tryz.zeroValue229
 t175:=Tryz.underlying253
 a175:=Tryz.isAgg253
 z175:=Tryz.sizeOf253
 v175:=Tryz.zeroValue253
 t210:=Tryz.underlying257
 a210:=Tryz.isAgg257
 z210:=Tryz.sizeOf257
 v210:=Tryz.zeroValue257
 t212:=Tryz.underlying247
 a212:=Tryz.isAgg247
 z212:=Tryz.sizeOf247
 v212:=Tryz.zeroValue247
 t213:=Tryz.underlying248
 a213:=Tryz.isAgg248
 z213:=Tryz.sizeOf248
 t232:=Tryz.underlying276
 a232:=Tryz.isAgg276
 z232:=Tryz.sizeOf276
 v232:=Tryz.zeroValue276
 t233:=Tryz.underlying277
 a233:=Tryz.isAgg277
 z233:=Tryz.sizeOf277
 v233:=Tryz.zeroValue277
 g15:=by kernel_rfl
 g16:=by kernel_rfl
 g17:=by kernel_rfl
 g18:=by kernel_rfl
 g19:=by kernel_rfl
 t80:=Tryz.underlying104
 a80:=Tryz.isAgg104
 z80:=Tryz.sizeOf104
 v80:=Tryz.zeroValue104
 i0:=by kernel_rfl
 i2:=by kernel_rfl
 i3:=by kernel_rfl
 i4:=by kernel_rfl
 i5:=by kernel_rfl
 i9:=by kernel_rfl
 i20:=by kernel_rfl
 i21:=by kernel_rfl
 i37:=by kernel_rfl
 i46:=by kernel_rfl
 i51:=by kernel_rfl
 i53:=by kernel_rfl
 i75:=by kernel_rfl
 i76:=by kernel_rfl
 i80:=by kernel_rfl
 i85:=by kernel_rfl
 i127:=by kernel_rfl
 i143:=by kernel_rfl
 i145:=by kernel_rfl
 i167:=by kernel_rfl
 i168:=by kernel_rfl
 i171:=by kernel_rfl
 i173:=by kernel_rfl
 i175:=by kernel_rfl
 i210:=by kernel_rfl
 i212:=by kernel_rfl
 i232:=by kernel_rfl
 i233:=by kernel_rfl
 m15:=by kernel_rfl
 m16:=by kernel_rfl
 m17:=by kernel_rfl
 m18:=by kernel_rfl
 m19:=by kernel_rfl
 c0:=by kernel_rfl
 c2:=by kernel_rfl
 c3:=by kernel_rfl
 c4:=by kernel_rfl
 c5:=by kernel_rfl
 c9:=by kernel_rfl
 c20:=by kernel_rfl
 c21:=by kernel_rfl
 c37:=by kernel_rfl
 c46:=by kernel_rfl
 c51:=by kernel_rfl
 c53:=by kernel_rfl
 c75:=by kernel_rfl
 c76:=by kernel_rfl
 c80:=by kernel_rfl
 c85:=by kernel_rfl
 c127:=by kernel_rfl
 c143:=by kernel_rfl
 c145:=by kernel_rfl
 c167:=by kernel_rfl
 c168:=by kernel_rfl
 c171:=by kernel_rfl
 c173:=by kernel_rfl
 c175:=by kernel_rfl
 c210:=by kernel_rfl
 c212:=by kernel_rfl
 c213:=by kernel_rfl
 c232:=by kernel_rfl
 c233:=by kernel_rfl }
end Go.Proofs