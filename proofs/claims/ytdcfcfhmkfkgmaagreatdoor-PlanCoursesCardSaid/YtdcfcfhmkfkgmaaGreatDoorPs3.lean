/- What the proof of the root text leans on, part 3: the layer, plain facts and walks. No statement of the seat is proved in this text. -/
import Derived.Shelf.Strconv.AtoiAll
import Derived.Shelf.Strings.Cut
import Derived.Shelf.Strings.Split
import Derived.Test.YtdcfcfhmkfkgmaaGreatDoorPs2
namespace Go.Proofs.YtdcfcfhmkfkgmaaGreatDoor
open Go.K Go.Stn Go.Pln Go.RowKit
theorem tf9:TF Tryz.prog 9 false 1 (.string ⟨#[]⟩):=⟨by kernel_rfl,by kernel_rfl⟩
theorem tf35:TF Tryz.prog 35 false 1 (.slice none 0 0):=⟨by kernel_rfl,by kernel_rfl⟩
theorem tf37:TF Tryz.prog 37 true 20 (.agg #[.string ⟨#[]⟩,.int IntKind.i64 0,.int IntKind.i64 0,.int IntKind.i64 0,.int IntKind.i64 0,.slice none 0 0,.int IntKind.i64 0,.int IntKind.i64 0,.int IntKind.i64 0,.int IntKind.i64 0,.int IntKind.i64 0,.int IntKind.i64 0,.int IntKind.i64 0,.int IntKind.u8 0,.int IntKind.i64 0,.int IntKind.i64 0,.int IntKind.i64 0,.int IntKind.i64 0,.int IntKind.i64 0,.int IntKind.i64 0]):=⟨by kernel_rfl,by kernel_rfl⟩
theorem tf41:TF Tryz.prog 41 true 20 (.agg #[.string ⟨#[]⟩,.int IntKind.i64 0,.int IntKind.i64 0,.int IntKind.i64 0,.int IntKind.i64 0,.slice none 0 0,.int IntKind.i64 0,.int IntKind.i64 0,.int IntKind.i64 0,.int IntKind.i64 0,.int IntKind.i64 0,.int IntKind.i64 0,.int IntKind.i64 0,.int IntKind.u8 0,.int IntKind.i64 0,.int IntKind.i64 0,.int IntKind.i64 0,.int IntKind.i64 0,.int IntKind.i64 0,.int IntKind.i64 0]):=⟨by kernel_rfl,by kernel_rfl⟩
theorem zkW:FO Tryz.prog 37 0 0:=⟨by kernel_rfl⟩
theorem zdC:FO Tryz.prog 37 3 3:=⟨by kernel_rfl⟩
theorem zkX:FO Tryz.prog 37 4 4:=⟨by kernel_rfl⟩
theorem zgl:FO Tryz.prog 37 5 5:=⟨by kernel_rfl⟩
theorem zpt:FO Tryz.prog 37 6 6:=⟨by kernel_rfl⟩
theorem zsI:FO Tryz.prog 37 7 7:=⟨by kernel_rfl⟩
theorem zsJ:FO Tryz.prog 37 8 8:=⟨by kernel_rfl⟩
theorem zjh:FO Tryz.prog 37 9 9:=⟨by kernel_rfl⟩
theorem zjU:FO Tryz.prog 37 10 10:=⟨by kernel_rfl⟩
theorem zl4:FO Tryz.prog 37 11 11:=⟨by kernel_rfl⟩
theorem zl5:FO Tryz.prog 37 12 12:=⟨by kernel_rfl⟩
theorem zfb:FO Tryz.prog 37 13 13:=⟨by kernel_rfl⟩
theorem zjV:FO Tryz.prog 37 14 14:=⟨by kernel_rfl⟩
theorem zh7:FO Tryz.prog 37 15 15:=⟨by kernel_rfl⟩
theorem zh8:FO Tryz.prog 37 16 16:=⟨by kernel_rfl⟩
theorem zpr:FO Tryz.prog 37 17 17:=⟨by kernel_rfl⟩
theorem zl6:FO Tryz.prog 37 18 18:=⟨by kernel_rfl⟩
theorem zl7:FO Tryz.prog 37 19 19:=⟨by kernel_rfl⟩
theorem znb:FO Tryz.prog 41 0 0:=⟨by kernel_rfl⟩
theorem zep:FO Tryz.prog 41 3 3:=⟨by kernel_rfl⟩
theorem znd:FO Tryz.prog 41 4 4:=⟨by kernel_rfl⟩
theorem zia:FO Tryz.prog 41 5 5:=⟨by kernel_rfl⟩
theorem zpw:FO Tryz.prog 41 6 6:=⟨by kernel_rfl⟩
theorem zsK:FO Tryz.prog 41 7 7:=⟨by kernel_rfl⟩
theorem zsL:FO Tryz.prog 41 8 8:=⟨by kernel_rfl⟩
theorem zhc:FO Tryz.prog 41 9 9:=⟨by kernel_rfl⟩
theorem zh9:FO Tryz.prog 41 10 10:=⟨by kernel_rfl⟩
theorem zl8:FO Tryz.prog 41 11 11:=⟨by kernel_rfl⟩
theorem zl9:FO Tryz.prog 41 12 12:=⟨by kernel_rfl⟩
theorem zpu:FO Tryz.prog 41 17 17:=⟨by kernel_rfl⟩
theorem zma:FO Tryz.prog 41 18 18:=⟨by kernel_rfl⟩
theorem zmb:FO Tryz.prog 41 19 19:=⟨by kernel_rfl⟩
theorem zpx:FO Tryz.prog 49 1 1:=⟨by kernel_rfl⟩
theorem zgm:FO Tryz.prog 50 1 1:=⟨by kernel_rfl⟩
theorem se38:SE Tryz.prog 38 49 2:=⟨Tryz.underlying38,by kernel_rfl⟩
theorem se46:SE Tryz.prog 46 50 2:=⟨Tryz.underlying46,by kernel_rfl⟩
theorem af38:AF Tryz.prog 38 49 2 16 [.int IntKind.i64 0,.int IntKind.i64 0]:=⟨Tryz.underlying38,by kernel_rfl,rfl⟩
theorem af46:AF Tryz.prog 46 50 2 16 [.int IntKind.i64 0,.int IntKind.i64 0]:=⟨Tryz.underlying46,by kernel_rfl,rfl⟩
theorem en20:En Tryz.prog 20:=za7 Tryz.func20 (by kernel_rfl) (by kernel_rfl)
theorem en21:En Tryz.prog 21:=za7 Tryz.func21 (by kernel_rfl) (by kernel_rfl)
theorem en22:En Tryz.prog 22:=za7 Tryz.func22 (by kernel_rfl) (by kernel_rfl)
theorem en49:En Tryz.prog 49:=za7 Tryz.func49 (by kernel_rfl) (by kernel_rfl)
theorem en50:En Tryz.prog 50:=za7 Tryz.func50 (by kernel_rfl) (by kernel_rfl)
theorem en51:En Tryz.prog 51:=za7 Tryz.func51 (by kernel_rfl) (by kernel_rfl)
theorem en52:En Tryz.prog 52:=za7 Tryz.func52 (by kernel_rfl) (by kernel_rfl)
theorem en54:En Tryz.prog 54:=za7 Tryz.func54 (by kernel_rfl) (by kernel_rfl)
theorem en55:En Tryz.prog 55:=za7 Tryz.func55 (by kernel_rfl) (by kernel_rfl)
theorem en56:En Tryz.prog 56:=za7 Tryz.func56 (by kernel_rfl) (by kernel_rfl)
theorem en57:En Tryz.prog 57:=za7 Tryz.func57 (by kernel_rfl) (by kernel_rfl)
theorem zgQ (x0:Int) (x1:Int) (w:World):(Instr.build 49 #[(0,.int .i64 x0),(1,.int .i64 x1)]).run Tryz.prog w=.ok (.agg #[.int .i64 x0,.int .i64 x1]) w:=by kernel_rfl
theorem zfy (x0:Int) (x1:Int) (w:World):(Instr.build 50 #[(0,.int .i64 x0),(1,.int .i64 x1)]).run Tryz.prog w=.ok (.agg #[.int .i64 x0,.int .i64 x1]) w:=by kernel_rfl
theorem zsE (x0_0:Int) (x0_1:Int) (w:World):(Instr.buildSlice 38 1 #[(0,.agg #[.int .i64 x0_0,.int .i64 x0_1])]).run Tryz.prog w=.ok (.slice (some ⟨w.heap.size,0,none⟩) 1 1) (w.alloc (.cells (([⟨x0_0,x0_1⟩]:List (Crs)).flatMap zbq).toArray 49)):=by kernel_rfl
theorem zo1 (x0_0:Int) (x0_1:Int) (w:World):(Instr.buildSlice 46 1 #[(0,.agg #[.int .i64 x0_0,.int .i64 x0_1])]).run Tryz.prog w=.ok (.slice (some ⟨w.heap.size,0,none⟩) 1 1) (w.alloc (.cells (([⟨x0_0,x0_1⟩]:List (Crs)).flatMap zbq).toArray 50)):=by kernel_rfl
theorem zlS (x0_0:Int) (x0_1:Int) (x0_2:Int) (x1_0:Int) (x1_1:Int) (x1_2:Int) (w:World):(Instr.buildSlice 148 2 #[(0,.agg #[.int .i64 x0_0,.int .i64 x0_1,.int .i64 x0_2]),(1,.agg #[.int .i64 x1_0,.int .i64 x1_1,.int .i64 x1_2])]).run Tryz.prog w=.ok (.slice (some ⟨w.heap.size,0,none⟩) 2 2) (w.alloc (.cells (([⟨x0_0,x0_1,x0_2⟩,⟨x1_0,x1_1,x1_2⟩]:List (Lim)).flatMap zgk).toArray 117)):=by kernel_rfl
theorem zrc (x0_0:Int) (x0_1:Int) (x0_2:Int) (x1_0:Int) (x1_1:Int) (x1_2:Int) (x2_0:Int) (x2_1:Int) (x2_2:Int) (x3_0:Int) (x3_1:Int) (x3_2:Int) (x4_0:Int) (x4_1:Int) (x4_2:Int) (x5_0:Int) (x5_1:Int) (x5_2:Int) (x6_0:Int) (x6_1:Int) (x6_2:Int) (x7_0:Int) (x7_1:Int) (x7_2:Int) (x8_0:Int) (x8_1:Int) (x8_2:Int) (x9_0:Int) (x9_1:Int) (x9_2:Int) (x10_0:Int) (x10_1:Int) (x10_2:Int) (x11_0:Int) (x11_1:Int) (x11_2:Int) (x12_0:Int) (x12_1:Int) (x12_2:Int) (w:World):(Instr.buildSlice 148 13 #[(0,.agg #[.int .i64 x0_0,.int .i64 x0_1,.int .i64 x0_2]),(1,.agg #[.int .i64 x1_0,.int .i64 x1_1,.int .i64 x1_2]),(2,.agg #[.int .i64 x2_0,.int .i64 x2_1,.int .i64 x2_2]),(3,.agg #[.int .i64 x3_0,.int .i64 x3_1,.int .i64 x3_2]),(4,.agg #[.int .i64 x4_0,.int .i64 x4_1,.int .i64 x4_2]),(5,.agg #[.int .i64 x5_0,.int .i64 x5_1,.int .i64 x5_2]),(6,.agg #[.int .i64 x6_0,.int .i64 x6_1,.int .i64 x6_2]),(7,.agg #[.int .i64 x7_0,.int .i64 x7_1,.int .i64 x7_2]),(8,.agg #[.int .i64 x8_0,.int .i64 x8_1,.int .i64 x8_2]),(9,.agg #[.int .i64 x9_0,.int .i64 x9_1,.int .i64 x9_2]),(10,.agg #[.int .i64 x10_0,.int .i64 x10_1,.int .i64 x10_2]),(11,.agg #[.int .i64 x11_0,.int .i64 x11_1,.int .i64 x11_2]),(12,.agg #[.int .i64 x12_0,.int .i64 x12_1,.int .i64 x12_2])]).run Tryz.prog w=.ok (.slice (some ⟨w.heap.size,0,none⟩) 13 13) (w.alloc (.cells (([⟨x0_0,x0_1,x0_2⟩,⟨x1_0,x1_1,x1_2⟩,⟨x2_0,x2_1,x2_2⟩,⟨x3_0,x3_1,x3_2⟩,⟨x4_0,x4_1,x4_2⟩,⟨x5_0,x5_1,x5_2⟩,⟨x6_0,x6_1,x6_2⟩,⟨x7_0,x7_1,x7_2⟩,⟨x8_0,x8_1,x8_2⟩,⟨x9_0,x9_1,x9_2⟩,⟨x10_0,x10_1,x10_2⟩,⟨x11_0,x11_1,x11_2⟩,⟨x12_0,x12_1,x12_2⟩]:List (Lim)).flatMap zgk).toArray 117)):=by kernel_rfl
set_option maxRecDepth 100000 in
set_option maxHeartbeats 2000000 in
theorem ze3 (a:Option Addr) (cap:Nat) (s:Sht) (w:World) (hl:Has w (Ints a s.heights)) (hn:Nums s) :
  Calls Tryz.prog 49 #[.agg #[.string s.name,.int .i64 s.base,.int .i64 s.batter,.int .i64 s.height,.int .i64 s.skin,.slice a s.heights.length cap,.int .i64 s.least,.int .i64 s.lap,.int .i64 s.run,.int .i64 s.every,.int .i64 s.at_,.int .i64 s.footing,.int .i64 s.spread,.int .u8 s.cope,.int .i64 s.tall,.int .i64 s.short,.int .i64 s.thick,.int .i64 s.low,.int .i64 s.high,.int .i64 s.rood]] w (zcU (fun z:Option Addr×Nat=>.slice z.1 (zaj s).length z.2) (fun z=>Row z.1 2 z.2 49 zbq (zaj s)) w):=by
 refine zan (vs:=[_]) Tryz.func49 rfl rfl (Nat.le_of_ble_eq_true rfl) ?_
 refine zac ?_
 refine zaa ?_
 refine zaG rfl rfl (za3 (vs:=[_,_,_,_,_,_,_,_,_,_,_,_,_,_,_,_,_,_,_,_]) rfl rfl) fun b1=>?_
 refine gk_y rfl rfl (zad rfl) ?_
 refine zag (zae (T':=[(1,_),(2,_)]) ⟨rfl,rfl,trivial⟩ ?_)
 refine zac ?_
 refine zaa ?_
 refine gk_y rfl rfl (zad rfl) ?_
 refine zag (zae (T':=[(1,_),(2,_),(3,_)]) ⟨rfl,rfl,rfl,trivial⟩ ?_)
 refine zac ?_
 refine zaa ?_
 refine gk_y rfl rfl (zad rfl) ?_
 refine zag (zae (T':=[(1,_),(2,_),(3,_),(4,_)]) ⟨rfl,rfl,rfl,rfl,trivial⟩ ?_)
 refine zac ?_
 refine zac ?_
 refine zaa ?_
 refine gk_y rfl rfl (zad rfl) ?_
 refine zag (zae (T':=[(1,_),(2,_),(3,_),(4,_),(5,_)]) ⟨rfl,rfl,rfl,rfl,rfl,trivial⟩ ?_)
 refine zas ?_
 refine zbB 49 zbq 2 ?_
 refine zbf (X:=Nat×Int×Option Addr×Nat×List Crs) (fun⟨n,z,b,bc,L⟩=>[(1,.pointer (some ⟨b1,0,none⟩)),(2,.slice none 0 0),(3,.slice b L.length bc),(4,.int .i64 z),(5,.int .i64 (n:Int))]) (fun⟨n,z,b,bc,L⟩=>[Row b 2 bc 49 zbq L,Box b1 [.string s.name,.int .i64 s.base,.int .i64 s.batter,.int .i64 s.height,.int .i64 s.skin,.slice a s.heights.length cap,.int .i64 s.least,.int .i64 s.lap,.int .i64 s.run,.int .i64 s.every,.int .i64 s.at_,.int .i64 s.footing,.int .i64 s.spread,.int .u8 s.cope,.int .i64 s.tall,.int .i64 s.short,.int .i64 s.thick,.int .i64 s.low,.int .i64 s.high,.int .i64 s.rood] 41]) (fun⟨n,z,b,bc,L⟩=>(L=crsN s n∧z=zAt s n∧∀ j,j < n→zc5 s j=true)) (fun⟨n,z,b,bc,L⟩=>3001 - n) (0,0,none,0,[]) ⟨rfl,rfl,rfl,rfl,rfl,trivial⟩ rfl ?_ ?_
 ·exact⟨rfl,rfl,fun j hj=>by omega⟩
 ·rintro ⟨n,z,b,bc,L⟩ hI
  obtain⟨gL,gz,gu⟩:=hI
  have hnl:=hn.len
  have hnh:=hn.height
  have he:=zeg hn n
  have hz0:=zjC hn n
  have hz1:=zn7 (by omega) gu
  have hn3:=zjb hn gu
  have hll:L.length=n:=by rw [gL,zeC]
  refine zac ?_
  refine zas ?_
  refine zac ?_
  refine zaa ?_
  refine gk_y rfl rfl (zab zia rfl) ?_
  refine gk_y rfl rfl (zah 1 tf35 rfl rfl rfl) ?_
  refine gk_y rfl rfl (zaf rfl) ?_
  refine gk_y rfl rfl (zab zia rfl) ?_
  refine gk_y rfl rfl (zah 1 tf35 rfl rfl rfl) ?_
  refine gk_y rfl rfl (zaV (Tryz.underlying35) rfl) ?_
  refine gk_y rfl rfl (zfV rfl rfl (by omega) (by omega)) ?_
  refine gk_y rfl rfl (zsy rfl rfl) ?_
  refine gk_y rfl rfl (zaE se35 rfl rfl (fun _ hw=>(Rd.has (Has.rd hl) hw)) (by omega) (by omega)) ?_
  refine gk_y rfl rfl (zcE tf3 rfl (fun _ hw=>(Rd.has (Has.rd hl) hw)) (by omega) (by omega) rfl) ?_
  refine gk_y rfl rfl (zad rfl) ?_
  refine zag (zae (T':=[(1,_),(2,_),(3,_),(4,_),(5,_),(6,_)]) ⟨rfl,rfl,rfl,rfl,rfl,rfl,trivial⟩ ?_)
  refine zae (T':=[(1,_),(2,_),(3,_),(4,_),(5,_),(6,.int .i64 (zce s n))]) ⟨rfl,rfl,rfl,rfl,rfl,(by rw [←zxq hnl.1 n]; rfl),trivial⟩ ?_
  refine zac ?_
  refine zac ?_
  refine zaa ?_
  refine gk_y rfl rfl (zaf rfl) ?_
  refine gk_y rfl rfl (zaf rfl) ?_
  refine gk_y rfl rfl (zaY rfl rfl (by omega) (by omega)) ?_
  refine gk_y rfl rfl (zab zep rfl) ?_
  refine gk_y rfl rfl (zah 1 tf3 rfl rfl rfl) ?_
  refine gk_y rfl rfl (zc6 rfl rfl) ?_
  refine zag (zae (T':=[(1,_),(2,_),(3,_),(4,_),(5,_),(6,_),(25,_)]) ⟨rfl,rfl,rfl,rfl,rfl,rfl,rfl,trivial⟩ ?_)
  refine zap rfl (fun hc25=>?_) (fun hc25=>?_)
  ·have hc25:=of_decide_eq_true hc25
   have hcn:=zsG hn gu (by rw [←gz]; omega)
   refine za8 rfl ?_
   refine zac ?_
   refine zac ?_
   refine zaa ?_
   refine gk_y rfl rfl (zab zep rfl) ?_
   refine gk_y rfl rfl (zah 1 tf3 rfl rfl rfl) ?_
   refine gk_y rfl rfl (zaf rfl) ?_
   refine gk_y rfl rfl (zfV rfl rfl (by omega) (by omega)) ?_
   refine gk_y rfl rfl (zad rfl) ?_
   refine zag (zae (T':=[(1,_),(2,_),(3,_),(4,_),(7,_)]) ⟨rfl,rfl,rfl,rfl,rfl,trivial⟩ ?_)
   refine zas ?_
   refine zac ?_
   refine zaa ?_
   refine gk_y rfl rfl (zaf rfl) ?_
   refine gk_y rfl rfl (zbL rfl rfl) ?_
   refine gk_y rfl rfl (zad rfl) ?_
   refine zag (zae (T':=[(1,_),(2,_),(3,_),(4,_),(7,_),(49,_)]) ⟨rfl,rfl,rfl,rfl,rfl,rfl,trivial⟩ ?_)
   refine zap rfl (fun hc49=>?_) (fun hc49=>?_)
   ·have h0:s.height - zAt s n=0:=by rw [←gz]; exact of_decide_eq_true hc49
    have hcs:zaj s=L:=(ze6 hcn h0).trans gL.symm
    refine zaq ?_
    refine zac ?_
    refine zaa ?_
    refine gk_y rfl rfl (zaf rfl) ?_
    refine gk_y rfl rfl (zad rfl) ?_
    refine zag (zae (T':=[(2,_)]) ⟨rfl,trivial⟩ ?_)
    refine zaw ?_
    refine zbd (b,bc) 0 (zaC rfl (zau rfl)) ?_ (by rw [hcs]; rfl)
    first | (rw [hcs]; done) | (rw [hcs,List.length_set])
   ·have h0:¬ s.height - zAt s n=0:=by rw [←gz]; exact of_decide_eq_false hc49
    refine zac ?_
    refine zbb 10 (fun _=>mixed) (by kernel_rfl) ?_
    refine ph_y (zaf rfl) ?_
    refine ph_y (zab zpw rfl) ?_
    refine ph_y (zah 1 tf3 rfl rfl rfl) ?_
    refine ph_y (zfx rfl rfl) ?_
    refine ph_y (zaf rfl) ?_
    refine zaz rfl rfl (fun hgd=>by(try rw [hgd]); exact(zaf rfl)) ?_
    refine zaz rfl rfl (fun hgd=>by(try rw [hgd]); exact(zaV (Tryz.underlying38) rfl)) ?_
    refine zaz rfl rfl (fun hgd=>by(try rw [hgd]); exact(zbL rfl rfl)) ?_
    refine ph_y (zaR rfl rfl rfl) ?_
    refine ph_y (zad rfl) ?_
    refine zag (zae (T':=[(1,_),(2,_),(3,_),(4,_),(52,_)]) ⟨rfl,rfl,rfl,rfl,rfl,trivial⟩ ?_)
    refine zap rfl (fun hc52=>?_) (fun hc52=>?_)
    ·have hcs:zaj s=L++[⟨z,s.height⟩]:=by rw [ze5 hcn h0 (by simp only [Bool.or_eq_true,decide_eq_true_eq] at hc52; rw [←gz]; omega),gL,gz]
     refine zaa ?_
     refine gk_y rfl rfl (zaf rfl) ?_
     refine gk_y rfl rfl (zaf rfl) ?_
     refine gk_y rfl rfl (zab zep rfl) ?_
     refine gk_y rfl rfl (zah 1 tf3 rfl rfl rfl) ?_
     refine gk_y rfl rfl (zaI rfl (zgQ _ _)) ?_
     refine zaG rfl rfl (zaD rfl (zsE _ _) zax rfl) fun b67=>?_
     refine zb4 (m:=[(⟨z,s.height⟩:Crs)]) 1 af38 zax rfl rfl rfl rfl (fun _ hw=>(zam zax (hw.has (p:=0) rfl))) (by first | omega | (simp only [List.length_cons,List.length_nil]; omega)) (by first | (unfold maxLen; omega) | (simp only [List.length_cons,List.length_nil,maxLen]; omega)) fun a68 c68=>?_
     refine gk_y rfl rfl (zad rfl) ?_
     refine zag (zae (T':=[(2,_),(3,_)]) ⟨rfl,rfl,trivial⟩ ?_)
     refine zac ?_
     refine zaa ?_
     refine gk_y rfl rfl (zaf rfl) ?_
     refine gk_y rfl rfl (zad rfl) ?_
     refine zag (zae (T':=[(2,_)]) ⟨rfl,trivial⟩ ?_)
     refine zaw ?_
     refine zbd (a68,c68) 1 (zaC rfl (zau rfl)) ?_ (by rw [hcs]; rfl)
     first | (rw [hcs]; done) | (rw [hcs,List.length_set])
    ·simp only [Bool.or_eq_false_iff,decide_eq_false_iff_not] at hc52
     have hcs:zaj s=L.set ((L.length:Int) - 1).toNat ({ L.getD ((L.length:Int) - 1).toNat default with to:=s.height }):=by rw [ze4 hcn h0 (by rw [←gz]; omega),zlf gL (by omega),gL]
     refine zaa ?_
     refine gk_y rfl rfl (zaf rfl) ?_
     refine gk_y rfl rfl (zaf rfl) ?_
     refine gk_y rfl rfl (zaV (Tryz.underlying38) rfl) ?_
     refine gk_y rfl rfl (zfV rfl rfl (by omega) (by omega)) ?_
     refine gk_y rfl rfl (zab zep rfl) ?_
     refine gk_y rfl rfl (zah 1 tf3 rfl rfl rfl) ?_
     refine gk_y rfl rfl (zaE se38 rfl rfl (fun _ hw=>(zam zax (hw.has (p:=0) rfl))) (by omega) (by omega)) ?_
     refine gk_y rfl rfl (zbh zpx rfl (fun w hw=>zaO (i:=((L.length:Int) - 1)) (zam zax (hw.has (p:=0) rfl)) (by omega) (by omega))) ?_
     refine zfG (x':=({ (L.getD (((L.length:Int) - 1)).toNat default) with to:=s.height }:Crs)) 0 zax tf3 rfl rfl (vs:=[_]) rfl rfl (by decide) rfl rfl (by omega) (by omega) ?_
     refine zag (zae (T':=[(2,_),(3,_)]) ⟨rfl,rfl,trivial⟩ ?_)
     refine zac ?_
     refine zaa ?_
     refine gk_y rfl rfl (zaf rfl) ?_
     refine gk_y rfl rfl (zad rfl) ?_
     refine zag (zae (T':=[(2,_)]) ⟨rfl,trivial⟩ ?_)
     refine zaw ?_
     refine zbd (b,bc) 0 (zaC rfl (zau rfl)) ?_ (by rw [hcs]; rfl)
     first | (rw [hcs]; done) | (rw [hcs,List.length_set])
  ·have hc25:=of_decide_eq_false hc25
   refine zaq ?_
   refine zac ?_
   refine zaa ?_
   refine gk_y rfl rfl (zaf rfl) ?_
   refine gk_y rfl rfl (zaf rfl) ?_
   refine gk_y rfl rfl (zaf rfl) ?_
   refine gk_y rfl rfl (zaf rfl) ?_
   refine gk_y rfl rfl (zaY rfl rfl (by omega) (by omega)) ?_
   refine gk_y rfl rfl (zaI rfl (zgQ _ _)) ?_
   refine zaG rfl rfl (zaD rfl (zsE _ _) zax rfl) fun b32=>?_
   refine zb4 (m:=[(⟨z,(z+(zce s n))⟩:Crs)]) 1 af38 zax rfl rfl rfl rfl (fun _ hw=>(zam zax (hw.has (p:=0) rfl))) (by first | omega | (simp only [List.length_cons,List.length_nil]; omega)) (by first | (unfold maxLen; omega) | (simp only [List.length_cons,List.length_nil,maxLen]; omega)) fun a33 c33=>?_
   refine gk_y rfl rfl (zad rfl) ?_
   refine zag (zae (T':=[(1,_),(2,_),(3,_),(4,_),(5,_),(6,_)]) ⟨rfl,rfl,rfl,rfl,rfl,rfl,trivial⟩ ?_)
   refine zaa ?_
   refine gk_y rfl rfl (zaf rfl) ?_
   refine gk_y rfl rfl (zaf rfl) ?_
   refine gk_y rfl rfl (zaY rfl rfl (by omega) (by omega)) ?_
   refine gk_y rfl rfl (zad rfl) ?_
   refine zag (zae (T':=[(1,_),(2,_),(3,_),(4,_),(5,_)]) ⟨rfl,rfl,rfl,rfl,rfl,trivial⟩ ?_)
   refine zaa ?_
   refine gk_y rfl rfl (zaf rfl) ?_
   refine gk_y rfl rfl (zaY rfl rfl (by omega) (by omega)) ?_
   refine gk_y rfl rfl (zad rfl) ?_
   refine zag (zae (T':=[(1,_),(2,_),(3,_),(4,_),(5,_)]) ⟨rfl,rfl,rfl,rfl,rfl,trivial⟩ ?_)
   refine zaK 0 rfl ?_
   exact za1 (n+1,_,_,_,_) ⟨rfl,rfl,rfl,rfl,rfl,trivial⟩ rfl ⟨by rw [gL,ze7,gz]; rfl,by rw [gz]; rfl,zg7 gu (ziR (by rw [←gz]; omega))⟩ (by simp only []; omega)
set_option maxRecDepth 100000 in
set_option maxHeartbeats 2000000 in
theorem zd4 (a:Option Addr) (cap:Nat) (s:Sht) (w:World) (hl:Has w (Ints a s.heights)) (hs:zaP s.heights.length) :
  Calls Tryz.prog 20 #[.agg #[.string s.name,.int .i64 s.base,.int .i64 s.batter,.int .i64 s.height,.int .i64 s.skin,.slice a s.heights.length cap,.int .i64 s.least,.int .i64 s.lap,.int .i64 s.run,.int .i64 s.every,.int .i64 s.at_,.int .i64 s.footing,.int .i64 s.spread,.int .u8 s.cope,.int .i64 s.tall,.int .i64 s.short,.int .i64 s.thick,.int .i64 s.low,.int .i64 s.high,.int .i64 s.rood]] w (Pure (.int .i64 (zcX s)) w):=by
 refine zan (vs:=[_]) Tryz.func20 rfl rfl (Nat.le_of_ble_eq_true rfl) ?_
 refine zac ?_
 refine zaa ?_
 refine zaG rfl rfl (za3 (vs:=[_,_,_,_,_,_,_,_,_,_,_,_,_,_,_,_,_,_,_,_]) rfl rfl) fun b1=>?_
 refine gk_y rfl rfl (zad rfl) ?_
 refine zag (zae (T':=[(1,_),(2,_)]) ⟨rfl,rfl,trivial⟩ ?_)
 refine zih (X:=Unit) (fun _=>[(1,.pointer (some ⟨b1,0,none⟩)),(2,.int .i64 0),(3,.bool (zdJ s))]) (fun _=>[Box b1 [.string s.name,.int .i64 s.base,.int .i64 s.batter,.int .i64 s.height,.int .i64 s.skin,.slice a s.heights.length cap,.int .i64 s.least,.int .i64 s.lap,.int .i64 s.run,.int .i64 s.every,.int .i64 s.at_,.int .i64 s.footing,.int .i64 s.spread,.int .u8 s.cope,.int .i64 s.tall,.int .i64 s.short,.int .i64 s.thick,.int .i64 s.low,.int .i64 s.high,.int .i64 s.rood] 41]) (fun _=>True) ?_ ?_
 ·
  refine zaa ?_
  refine gk_y rfl rfl (zab zhc rfl) ?_
  refine gk_y rfl rfl (zah 0 tf3 rfl rfl rfl) ?_
  refine gk_y rfl rfl (zbL rfl rfl) ?_
  refine gk_y rfl rfl (zaf rfl) ?_
  refine zai rfl rfl rfl rfl (fun hg9=>?_) (fun hg9=>?_)
  ·replace hg9:_=true:=hg9
   try rw [hg9]
   refine gk_y rfl rfl (zab zh9 rfl) ?_
   refine zai rfl rfl rfl rfl (fun _=>?_) (fun h=>absurd h (by decide))
   refine gk_y rfl rfl (zah 0 tf3 rfl rfl rfl) ?_
   refine zai rfl rfl rfl rfl (fun _=>?_) (fun h=>absurd h (by decide))
   refine gk_y rfl rfl (zbL rfl rfl) ?_
   refine gk_y rfl rfl (za5 rfl rfl rfl) ?_
   refine gk_y rfl rfl (zaf rfl) ?_
   refine zai rfl rfl rfl rfl (fun hg14=>?_) (fun hg14=>?_)
   ·replace hg14:_=false:=hg14
    try rw [hg14]
    refine gk_y rfl rfl (zab zhc rfl) ?_
    refine zai rfl rfl rfl rfl (fun _=>?_) (fun h=>absurd h (by decide))
    refine gk_y rfl rfl (zah 0 tf3 rfl rfl rfl) ?_
    refine zai rfl rfl rfl rfl (fun _=>?_) (fun h=>absurd h (by decide))
    refine gk_y rfl rfl (zaI rfl (zaF _ _ _)) ?_
    refine zai rfl rfl rfl rfl (fun _=>?_) (fun h=>absurd h (by decide))
    refine gk_y rfl rfl (zab zh9 rfl) ?_
    refine zai rfl rfl rfl rfl (fun _=>?_) (fun h=>absurd h (by decide))
    refine gk_y rfl rfl (zah 0 tf3 rfl rfl rfl) ?_
    refine zai rfl rfl rfl rfl (fun _=>?_) (fun h=>absurd h (by decide))
    refine gk_y rfl rfl (zaI rfl (zaF _ _ _)) ?_
    refine zai rfl rfl rfl rfl (fun _=>?_) (fun h=>absurd h (by decide))
    refine zaG rfl rfl (zaD rfl (zlS _ _ _ _ _ _) zbM rfl) fun b21=>?_
    refine zai rfl rfl rfl rfl (fun _=>?_) (fun h=>absurd h (by decide))
    refine gk_y rfl rfl (zaJ en53 rfl (fun w hw=>zfT _ _ ([(⟨s.every,1,100000⟩:Lim),(⟨s.at_,0,3000⟩:Lim)]) w (zam zbM (hw.has (p:=0) rfl)) (by simp [zaP]))) ?_
    refine gk_y rfl rfl (za5 rfl rfl rfl) ?_
    refine gk_y rfl rfl (zad rfl) ?_
    refine zag (zae (T':=[(1,_),(2,_),(3,_)]) ⟨rfl,rfl,rfl,trivial⟩ ?_)
    refine zaK 0 rfl ?_
    exact zb9 () ⟨rfl,rfl,(by refine congrArg (fun b=>some (Value.bool b)) ?_; first | exact ziM hg9 hg14 | exact ziN hg14 | exact ziO hg9),trivial⟩ rfl trivial
   ·replace hg14:_=true:=hg14
    try rw [hg14]
    refine zai rfl rfl rfl rfl (fun h=>absurd h (by decide)) (fun _=>?_)
    refine zai rfl rfl rfl rfl (fun h=>absurd h (by decide)) (fun _=>?_)
    refine zai rfl rfl rfl rfl (fun h=>absurd h (by decide)) (fun _=>?_)
    refine zai rfl rfl rfl rfl (fun h=>absurd h (by decide)) (fun _=>?_)
    refine zai rfl rfl rfl rfl (fun h=>absurd h (by decide)) (fun _=>?_)
    refine zai rfl rfl rfl rfl (fun h=>absurd h (by decide)) (fun _=>?_)
    refine zai rfl rfl rfl rfl (fun h=>absurd h (by decide)) (fun _=>?_)
    refine gk_y rfl rfl (za5 rfl rfl rfl) ?_
    refine gk_y rfl rfl (zad rfl) ?_
    refine zag (zae (T':=[(1,_),(2,_),(3,_)]) ⟨rfl,rfl,rfl,trivial⟩ ?_)
    exact zb9 () ⟨rfl,rfl,(by refine congrArg (fun b=>some (Value.bool b)) ?_; first | exact ziM hg9 hg14 | exact ziN hg14 | exact ziO hg9),trivial⟩ rfl trivial
  ·replace hg9:_=false:=hg9
   try rw [hg9]
   refine zai rfl rfl rfl rfl (fun h=>absurd h (by decide)) (fun _=>?_)
   refine zai rfl rfl rfl rfl (fun h=>absurd h (by decide)) (fun _=>?_)
   refine gk_y rfl rfl (za5 rfl rfl rfl) ?_
   refine gk_y rfl rfl (zaf rfl) ?_
   refine zai rfl rfl rfl rfl (fun _=>?_) (fun h=>absurd h (by decide))
   refine gk_y rfl rfl (zab zhc rfl) ?_
   refine zai rfl rfl rfl rfl (fun _=>?_) (fun h=>absurd h (by decide))
   refine gk_y rfl rfl (zah 0 tf3 rfl rfl rfl) ?_
   refine zai rfl rfl rfl rfl (fun _=>?_) (fun h=>absurd h (by decide))
   refine gk_y rfl rfl (zaI rfl (zaF _ _ _)) ?_
   refine zai rfl rfl rfl rfl (fun _=>?_) (fun h=>absurd h (by decide))
   refine gk_y rfl rfl (zab zh9 rfl) ?_
   refine zai rfl rfl rfl rfl (fun _=>?_) (fun h=>absurd h (by decide))
   refine gk_y rfl rfl (zah 0 tf3 rfl rfl rfl) ?_
   refine zai rfl rfl rfl rfl (fun _=>?_) (fun h=>absurd h (by decide))
   refine gk_y rfl rfl (zaI rfl (zaF _ _ _)) ?_
   refine zai rfl rfl rfl rfl (fun _=>?_) (fun h=>absurd h (by decide))
   refine zaG rfl rfl (zaD rfl (zlS _ _ _ _ _ _) zbM rfl) fun b21=>?_
   refine zai rfl rfl rfl rfl (fun _=>?_) (fun h=>absurd h (by decide))
   refine gk_y rfl rfl (zaJ en53 rfl (fun w hw=>zfT _ _ ([(⟨s.every,1,100000⟩:Lim),(⟨s.at_,0,3000⟩:Lim)]) w (zam zbM (hw.has (p:=0) rfl)) (by simp [zaP]))) ?_
   refine gk_y rfl rfl (za5 rfl rfl rfl) ?_
   refine gk_y rfl rfl (zad rfl) ?_
   refine zag (zae (T':=[(1,_),(2,_),(3,_)]) ⟨rfl,rfl,rfl,trivial⟩ ?_)
   refine zaK 0 rfl ?_
   exact zb9 () ⟨rfl,rfl,(by refine congrArg (fun b=>some (Value.bool b)) ?_; first | exact ziM hg9 hg14 | exact ziN hg14 | exact ziO hg9),trivial⟩ rfl trivial
 ·rintro _ hJ
  refine zac ?_
  refine zaa ?_
  refine gk_y rfl rfl (zab znc rfl) ?_
  refine gk_y rfl rfl (zah 0 tf3 rfl rfl rfl) ?_
  refine gk_y rfl rfl (zaI rfl (zaF _ _ _)) ?_
  refine gk_y rfl rfl (zab zpv rfl) ?_
  refine gk_y rfl rfl (zah 0 tf3 rfl rfl rfl) ?_
  refine gk_y rfl rfl (zaI rfl (zaF _ _ _)) ?_
  refine gk_y rfl rfl (zab zep rfl) ?_
  refine gk_y rfl rfl (zah 0 tf3 rfl rfl rfl) ?_
  refine gk_y rfl rfl (zaI rfl (zaF _ _ _)) ?_
  refine gk_y rfl rfl (zab znd rfl) ?_
  refine gk_y rfl rfl (zah 0 tf3 rfl rfl rfl) ?_
  refine gk_y rfl rfl (zaI rfl (zaF _ _ _)) ?_
  refine gk_y rfl rfl (zab zia rfl) ?_
  refine gk_y rfl rfl (zah 0 tf35 rfl rfl rfl) ?_
  refine gk_y rfl rfl (zaV (Tryz.underlying35) rfl) ?_
  refine gk_y rfl rfl (zaI rfl (zaF _ _ _)) ?_
  refine gk_y rfl rfl (zab zpw rfl) ?_
  refine gk_y rfl rfl (zah 0 tf3 rfl rfl rfl) ?_
  refine gk_y rfl rfl (zaI rfl (zaF _ _ _)) ?_
  refine gk_y rfl rfl (zab zsK rfl) ?_
  refine gk_y rfl rfl (zah 0 tf3 rfl rfl rfl) ?_
  refine gk_y rfl rfl (zaI rfl (zaF _ _ _)) ?_
  refine gk_y rfl rfl (zab zsL rfl) ?_
  refine gk_y rfl rfl (zah 0 tf3 rfl rfl rfl) ?_
  refine gk_y rfl rfl (zaI rfl (zaF _ _ _)) ?_
  refine gk_y rfl rfl (zab zl8 rfl) ?_
  refine gk_y rfl rfl (zah 0 tf3 rfl rfl rfl) ?_
  refine gk_y rfl rfl (zaI rfl (zaF _ _ _)) ?_
  refine gk_y rfl rfl (zab zl9 rfl) ?_
  refine gk_y rfl rfl (zah 0 tf3 rfl rfl rfl) ?_
  refine gk_y rfl rfl (zaI rfl (zaF _ _ _)) ?_
  refine gk_y rfl rfl (zab zpu rfl) ?_
  refine gk_y rfl rfl (zah 0 tf3 rfl rfl rfl) ?_
  refine gk_y rfl rfl (zab zma rfl) ?_
  refine gk_y rfl rfl (zah 0 tf3 rfl rfl rfl) ?_
  refine gk_y rfl rfl (zaI rfl (zaF _ _ _)) ?_
  refine gk_y rfl rfl (zab zma rfl) ?_
  refine gk_y rfl rfl (zah 0 tf3 rfl rfl rfl) ?_
  refine gk_y rfl rfl (zaI rfl (zaF _ _ _)) ?_
  refine gk_y rfl rfl (zab zmb rfl) ?_
  refine gk_y rfl rfl (zah 0 tf3 rfl rfl rfl) ?_
  refine gk_y rfl rfl (zaI rfl (zaF _ _ _)) ?_
  refine zaG rfl rfl (zaD rfl (zrc _ _ _ _ _ _ _ _ _ _ _ _ _ _ _ _ _ _ _ _ _ _ _ _ _ _ _ _ _ _ _ _ _ _ _ _ _ _ _) zbM rfl) fun b66=>?_
  refine gk_y rfl rfl (zaJ en53 rfl (fun w hw=>zfT _ _ ([(⟨s.base,1,3000⟩:Lim),(⟨s.batter,0,500⟩:Lim),(⟨s.height,1,3000⟩:Lim),(⟨s.skin,1,1500⟩:Lim),(⟨(s.heights.length:Int),1,12⟩:Lim),(⟨s.least,1,1000⟩:Lim),(⟨s.lap,0,500⟩:Lim),(⟨s.run,1,20⟩:Lim),(⟨s.footing,0,1000⟩:Lim),(⟨s.spread,0,1000⟩:Lim),(⟨s.low,0,s.high⟩:Lim),(⟨s.high,0,2000⟩:Lim),(⟨s.rood,1,100000⟩:Lim)]) w (zam zbM (hw.has (p:=0) rfl)) (by simp [zaP]))) ?_
  refine gk_y rfl rfl (zad rfl) ?_
  refine zag (zae (T':=[(1,_),(2,_),(3,_),(4,_)]) ⟨rfl,rfl,rfl,rfl,trivial⟩ ?_)
  refine zac ?_
  refine zaa ?_
  refine gk_y rfl rfl (zad rfl) ?_
  refine zag (zae (T':=[(1,_),(2,_),(3,_),(4,_),(5,_)]) ⟨rfl,rfl,rfl,rfl,rfl,trivial⟩ ?_)
  refine zac ?_
  refine zac ?_
  refine zaa ?_
  refine gk_y rfl rfl (zab znb rfl) ?_
  refine gk_y rfl rfl (zah 1 tf9 rfl rfl rfl) ?_
  refine gk_y rfl rfl (zaJ en55 rfl (fun w hw=>zmo _ w)) ?_
  refine gk_y rfl rfl (zbR rfl) ?_
  refine gk_y rfl rfl (zaf rfl) ?_
  refine zai rfl rfl rfl rfl (fun hg72=>?_) (fun hg72=>?_)
  ·replace hg72:_=false:=hg72
   try rw [hg72]
   refine gk_y rfl rfl (zaf rfl) ?_
   refine zai rfl rfl rfl rfl (fun _=>?_) (fun h=>absurd h (by decide))
   refine gk_y rfl rfl (zbR rfl) ?_
   refine gk_y rfl rfl (za5 rfl rfl rfl) ?_
   refine gk_y rfl rfl (zaf rfl) ?_
   refine zai rfl rfl rfl rfl (fun hg76=>?_) (fun hg76=>?_)
   ·replace hg76:_=false:=hg76
    try rw [hg76]
    refine gk_y rfl rfl (zaf rfl) ?_
    refine zai rfl rfl rfl rfl (fun _=>?_) (fun h=>absurd h (by decide))
    refine gk_y rfl rfl (zbR rfl) ?_
    refine gk_y rfl rfl (za5 rfl rfl rfl) ?_
    refine gk_y rfl rfl (zaf rfl) ?_
    refine zai rfl rfl rfl rfl (fun hg80=>?_) (fun hg80=>?_)
    ·replace hg80:_=false:=hg80
     try rw [hg80]
     refine gk_y rfl rfl (zab zia rfl) ?_
     refine zai rfl rfl rfl rfl (fun _=>?_) (fun h=>absurd h (by decide))
     refine gk_y rfl rfl (zah 1 tf35 rfl rfl rfl) ?_
     refine zai rfl rfl rfl rfl (fun _=>?_) (fun h=>absurd h (by decide))
     refine gk_y rfl rfl (zaf rfl) ?_
     refine zai rfl rfl rfl rfl (fun _=>?_) (fun h=>absurd h (by decide))
     refine gk_y rfl rfl (zaJ en56 rfl (fun w hw=>zhP _ _ s.heights zgP _ [] [] w (Rd.has (Has.rd hl) hw) (by assumption) (fun _=>True) (fun _ _=>trivial) en54 (fun z w _=>zjL z w))) ?_
     refine gk_y rfl rfl (za5 rfl rfl rfl) ?_
     refine gk_y rfl rfl (zaf rfl) ?_
     refine zai rfl rfl rfl rfl (fun hg86=>?_) (fun hg86=>?_)
     ·replace hg86:_=false:=hg86
      try rw [hg86]
      refine gk_y rfl rfl (zat 1 tf41 rfl rfl (vs:=[_,_,_,_,_,_,_,_,_,_,_,_,_,_,_,_,_,_,_,_]) rfl rfl) ?_
      refine zai rfl rfl rfl rfl (fun _=>?_) (fun h=>absurd h (by decide))
      refine gk_y rfl rfl (zaJ en57 rfl (fun w hw=>ztv a cap s w)) ?_
      refine zai rfl rfl rfl rfl (fun _=>?_) (fun h=>absurd h (by decide))
      refine gk_y rfl rfl (zbR rfl) ?_
      refine gk_y rfl rfl (za5 rfl rfl rfl) ?_
      refine gk_y rfl rfl (zaf rfl) ?_
      refine zai rfl rfl rfl rfl (fun hg91=>?_) (fun hg91=>?_)
      ·replace hg91:_=false:=hg91
       try rw [hg91]
       refine gk_y rfl rfl (zat 1 tf41 rfl rfl (vs:=[_,_,_,_,_,_,_,_,_,_,_,_,_,_,_,_,_,_,_,_]) rfl rfl) ?_
       refine zai rfl rfl rfl rfl (fun _=>?_) (fun h=>absurd h (by decide))
       refine gk_y rfl rfl (zab zep rfl) ?_
       refine zai rfl rfl rfl rfl (fun _=>?_) (fun h=>absurd h (by decide))
       refine gk_y rfl rfl (zah 1 tf3 rfl rfl rfl) ?_
       refine zai rfl rfl rfl rfl (fun _=>?_) (fun h=>absurd h (by decide))
       refine gk_y rfl rfl (zaJ en50 rfl (fun w hw=>zkA a cap s _ w)) ?_
       refine zai rfl rfl rfl rfl (fun _=>?_) (fun h=>absurd h (by decide))
       refine gk_y rfl rfl (zbw rfl rfl) ?_
       refine gk_y rfl rfl (za5 rfl rfl rfl) ?_
       refine gk_y rfl rfl (zaf rfl) ?_
       refine zai rfl rfl rfl rfl (fun hg98=>?_) (fun hg98=>?_)
       ·replace hg98:_=false:=hg98
        try rw [hg98]
        refine gk_y rfl rfl (zat 1 tf41 rfl rfl (vs:=[_,_,_,_,_,_,_,_,_,_,_,_,_,_,_,_,_,_,_,_]) rfl rfl) ?_
        refine zai rfl rfl rfl rfl (fun _=>?_) (fun h=>absurd h (by decide))
        refine zaG rfl rfl (zbm en49 rfl (fun w hw=>ze3 a cap s w (Rd.has (Has.rd hl) hw) (zgZ (zjE hg72 hg76 hg80 hg86 hg91)))) fun p100=>?_
        refine zai rfl rfl rfl rfl (fun _=>?_) (fun h=>absurd h (by decide))
        refine gk_y rfl rfl (zaV (Tryz.underlying38) rfl) ?_
        refine zai rfl rfl rfl rfl (fun _=>?_) (fun h=>absurd h (by decide))
        refine gk_y rfl rfl (zc6 rfl rfl) ?_
        refine gk_y rfl rfl (za5 rfl rfl rfl) ?_
        refine zag (zae (T':=[(2,_),(103,_)]) ⟨rfl,rfl,trivial⟩ ?_)
        refine zap rfl (fun hc103=>?_) (fun hc103=>?_)
        ·simp only [decide_eq_true_eq] at hc103
         refine zac ?_
         refine zaa ?_
         refine gk_y rfl rfl (zad rfl) ?_
         refine zag (zae (T':=[(2,_)]) ⟨rfl,trivial⟩ ?_)
         refine zaw ?_
         refine zay (zaC rfl (zau rfl)) ?_
         rw [zhM (zjE hg72 hg76 hg80 hg86 hg91) (of_decide_eq_false hg98),if_pos (by omega)]
        ·simp only [decide_eq_false_iff_not] at hc103
         refine zaq ?_
         refine zac ?_
         refine zaa ?_
         refine gk_y rfl rfl (zad rfl) ?_
         refine zag (zae (T':=[(2,_)]) ⟨rfl,trivial⟩ ?_)
         refine zaw ?_
         refine zay (zaC rfl (zau rfl)) ?_
         rw [zhM (zjE hg72 hg76 hg80 hg86 hg91) (of_decide_eq_false hg98),if_neg (by omega)]
       ·replace hg98:_=true:=hg98
        try rw [hg98]
        refine zai rfl rfl rfl rfl (fun h=>absurd h (by decide)) (fun _=>?_)
        refine zai rfl rfl rfl rfl (fun h=>absurd h (by decide)) (fun _=>?_)
        refine zai rfl rfl rfl rfl (fun h=>absurd h (by decide)) (fun _=>?_)
        refine gk_y rfl rfl (za5 rfl rfl rfl) ?_
        refine zag (zae (T':=[(2,_),(103,_)]) ⟨rfl,rfl,trivial⟩ ?_)
        refine zdg rfl ?_
        refine zac ?_
        refine zaa ?_
        refine gk_y rfl rfl (zad rfl) ?_
        refine zag (zae (T':=[(2,_)]) ⟨rfl,trivial⟩ ?_)
        refine zaw ?_
        refine zay (zaC rfl (zau rfl)) ?_
        rw [zo4 (zjE hg72 hg76 hg80 hg86 hg91) (of_decide_eq_true hg98)]
      ·replace hg91:_=true:=hg91
       try rw [hg91]
       refine zai rfl rfl rfl rfl (fun h=>absurd h (by decide)) (fun _=>?_)
       refine zai rfl rfl rfl rfl (fun h=>absurd h (by decide)) (fun _=>?_)
       refine zai rfl rfl rfl rfl (fun h=>absurd h (by decide)) (fun _=>?_)
       refine zai rfl rfl rfl rfl (fun h=>absurd h (by decide)) (fun _=>?_)
       refine gk_y rfl rfl (za5 rfl rfl rfl) ?_
       refine gk_y rfl rfl (zaf rfl) ?_
       refine zai rfl rfl rfl rfl (fun h=>absurd h (by decide)) (fun _=>?_)
       refine zai rfl rfl rfl rfl (fun h=>absurd h (by decide)) (fun _=>?_)
       refine zai rfl rfl rfl rfl (fun h=>absurd h (by decide)) (fun _=>?_)
       refine zai rfl rfl rfl rfl (fun h=>absurd h (by decide)) (fun _=>?_)
       refine gk_y rfl rfl (za5 rfl rfl rfl) ?_
       refine zag (zae (T':=[(2,_),(103,_)]) ⟨rfl,rfl,trivial⟩ ?_)
       refine zdg rfl ?_
       refine zac ?_
       refine zaa ?_
       refine gk_y rfl rfl (zad rfl) ?_
       refine zag (zae (T':=[(2,_)]) ⟨rfl,trivial⟩ ?_)
       refine zaw ?_
       refine zay (zaC rfl (zau rfl)) ?_
       rw [zeX (zu8 hg91)]
     ·replace hg86:_=true:=hg86
      try rw [hg86]
      refine zai rfl rfl rfl rfl (fun h=>absurd h (by decide)) (fun _=>?_)
      refine zai rfl rfl rfl rfl (fun h=>absurd h (by decide)) (fun _=>?_)
      refine gk_y rfl rfl (za5 rfl rfl rfl) ?_
      refine gk_y rfl rfl (zaf rfl) ?_
      refine zai rfl rfl rfl rfl (fun h=>absurd h (by decide)) (fun _=>?_)
      refine zai rfl rfl rfl rfl (fun h=>absurd h (by decide)) (fun _=>?_)
      refine zai rfl rfl rfl rfl (fun h=>absurd h (by decide)) (fun _=>?_)
      refine zai rfl rfl rfl rfl (fun h=>absurd h (by decide)) (fun _=>?_)
      refine zai rfl rfl rfl rfl (fun h=>absurd h (by decide)) (fun _=>?_)
      refine gk_y rfl rfl (za5 rfl rfl rfl) ?_
      refine gk_y rfl rfl (zaf rfl) ?_
      refine zai rfl rfl rfl rfl (fun h=>absurd h (by decide)) (fun _=>?_)
      refine zai rfl rfl rfl rfl (fun h=>absurd h (by decide)) (fun _=>?_)
      refine zai rfl rfl rfl rfl (fun h=>absurd h (by decide)) (fun _=>?_)
      refine zai rfl rfl rfl rfl (fun h=>absurd h (by decide)) (fun _=>?_)
      refine gk_y rfl rfl (za5 rfl rfl rfl) ?_
      refine zag (zae (T':=[(2,_),(103,_)]) ⟨rfl,rfl,trivial⟩ ?_)
      refine zdg rfl ?_
      refine zac ?_
      refine zaa ?_
      refine gk_y rfl rfl (zad rfl) ?_
      refine zag (zae (T':=[(2,_)]) ⟨rfl,trivial⟩ ?_)
      refine zaw ?_
      refine zay (zaC rfl (zau rfl)) ?_
      rw [zeX (zu7 hg86)]
    ·replace hg80:_=true:=hg80
     try rw [hg80]
     refine zai rfl rfl rfl rfl (fun h=>absurd h (by decide)) (fun _=>?_)
     refine zai rfl rfl rfl rfl (fun h=>absurd h (by decide)) (fun _=>?_)
     refine zai rfl rfl rfl rfl (fun h=>absurd h (by decide)) (fun _=>?_)
     refine gk_y rfl rfl (za5 rfl rfl rfl) ?_
     refine gk_y rfl rfl (zaf rfl) ?_
     refine zai rfl rfl rfl rfl (fun h=>absurd h (by decide)) (fun _=>?_)
     refine zai rfl rfl rfl rfl (fun h=>absurd h (by decide)) (fun _=>?_)
     refine zai rfl rfl rfl rfl (fun h=>absurd h (by decide)) (fun _=>?_)
     refine gk_y rfl rfl (za5 rfl rfl rfl) ?_
     refine gk_y rfl rfl (zaf rfl) ?_
     refine zai rfl rfl rfl rfl (fun h=>absurd h (by decide)) (fun _=>?_)
     refine zai rfl rfl rfl rfl (fun h=>absurd h (by decide)) (fun _=>?_)
     refine zai rfl rfl rfl rfl (fun h=>absurd h (by decide)) (fun _=>?_)
     refine zai rfl rfl rfl rfl (fun h=>absurd h (by decide)) (fun _=>?_)
     refine zai rfl rfl rfl rfl (fun h=>absurd h (by decide)) (fun _=>?_)
     refine gk_y rfl rfl (za5 rfl rfl rfl) ?_
     refine gk_y rfl rfl (zaf rfl) ?_
     refine zai rfl rfl rfl rfl (fun h=>absurd h (by decide)) (fun _=>?_)
     refine zai rfl rfl rfl rfl (fun h=>absurd h (by decide)) (fun _=>?_)
     refine zai rfl rfl rfl rfl (fun h=>absurd h (by decide)) (fun _=>?_)
     refine zai rfl rfl rfl rfl (fun h=>absurd h (by decide)) (fun _=>?_)
     refine gk_y rfl rfl (za5 rfl rfl rfl) ?_
     refine zag (zae (T':=[(2,_),(103,_)]) ⟨rfl,rfl,trivial⟩ ?_)
     refine zdg rfl ?_
     refine zac ?_
     refine zaa ?_
     refine gk_y rfl rfl (zad rfl) ?_
     refine zag (zae (T':=[(2,_)]) ⟨rfl,trivial⟩ ?_)
     refine zaw ?_
     refine zay (zaC rfl (zau rfl)) ?_
     rw [zeX (zu6 hg80)]
   ·replace hg76:_=true:=hg76
    try rw [hg76]
    refine zai rfl rfl rfl rfl (fun h=>absurd h (by decide)) (fun _=>?_)
    refine gk_y rfl rfl (za5 rfl rfl rfl) ?_
    refine gk_y rfl rfl (zaf rfl) ?_
    refine zai rfl rfl rfl rfl (fun h=>absurd h (by decide)) (fun _=>?_)
    refine zai rfl rfl rfl rfl (fun h=>absurd h (by decide)) (fun _=>?_)
    refine zai rfl rfl rfl rfl (fun h=>absurd h (by decide)) (fun _=>?_)
    refine zai rfl rfl rfl rfl (fun h=>absurd h (by decide)) (fun _=>?_)
    refine gk_y rfl rfl (za5 rfl rfl rfl) ?_
    refine gk_y rfl rfl (zaf rfl) ?_
    refine zai rfl rfl rfl rfl (fun h=>absurd h (by decide)) (fun _=>?_)
    refine zai rfl rfl rfl rfl (fun h=>absurd h (by decide)) (fun _=>?_)
    refine zai rfl rfl rfl rfl (fun h=>absurd h (by decide)) (fun _=>?_)
    refine gk_y rfl rfl (za5 rfl rfl rfl) ?_
    refine gk_y rfl rfl (zaf rfl) ?_
    refine zai rfl rfl rfl rfl (fun h=>absurd h (by decide)) (fun _=>?_)
    refine zai rfl rfl rfl rfl (fun h=>absurd h (by decide)) (fun _=>?_)
    refine zai rfl rfl rfl rfl (fun h=>absurd h (by decide)) (fun _=>?_)
    refine zai rfl rfl rfl rfl (fun h=>absurd h (by decide)) (fun _=>?_)
    refine zai rfl rfl rfl rfl (fun h=>absurd h (by decide)) (fun _=>?_)
    refine gk_y rfl rfl (za5 rfl rfl rfl) ?_
    refine gk_y rfl rfl (zaf rfl) ?_
    refine zai rfl rfl rfl rfl (fun h=>absurd h (by decide)) (fun _=>?_)
    refine zai rfl rfl rfl rfl (fun h=>absurd h (by decide)) (fun _=>?_)
    refine zai rfl rfl rfl rfl (fun h=>absurd h (by decide)) (fun _=>?_)
    refine zai rfl rfl rfl rfl (fun h=>absurd h (by decide)) (fun _=>?_)
    refine gk_y rfl rfl (za5 rfl rfl rfl) ?_
    refine zag (zae (T':=[(2,_),(103,_)]) ⟨rfl,rfl,trivial⟩ ?_)
    refine zdg rfl ?_
    refine zac ?_
    refine zaa ?_
    refine gk_y rfl rfl (zad rfl) ?_
    refine zag (zae (T':=[(2,_)]) ⟨rfl,trivial⟩ ?_)
    refine zaw ?_
    refine zay (zaC rfl (zau rfl)) ?_
    rw [zeX (zu5 hg76)]
  ·replace hg72:_=true:=hg72
   try rw [hg72]
   refine zai rfl rfl rfl rfl (fun h=>absurd h (by decide)) (fun _=>?_)
   refine gk_y rfl rfl (za5 rfl rfl rfl) ?_
   refine gk_y rfl rfl (zaf rfl) ?_
   refine zai rfl rfl rfl rfl (fun h=>absurd h (by decide)) (fun _=>?_)
   refine zai rfl rfl rfl rfl (fun h=>absurd h (by decide)) (fun _=>?_)
   refine gk_y rfl rfl (za5 rfl rfl rfl) ?_
   refine gk_y rfl rfl (zaf rfl) ?_
   refine zai rfl rfl rfl rfl (fun h=>absurd h (by decide)) (fun _=>?_)
   refine zai rfl rfl rfl rfl (fun h=>absurd h (by decide)) (fun _=>?_)
   refine zai rfl rfl rfl rfl (fun h=>absurd h (by decide)) (fun _=>?_)
   refine zai rfl rfl rfl rfl (fun h=>absurd h (by decide)) (fun _=>?_)
   refine gk_y rfl rfl (za5 rfl rfl rfl) ?_
   refine gk_y rfl rfl (zaf rfl) ?_
   refine zai rfl rfl rfl rfl (fun h=>absurd h (by decide)) (fun _=>?_)
   refine zai rfl rfl rfl rfl (fun h=>absurd h (by decide)) (fun _=>?_)
   refine zai rfl rfl rfl rfl (fun h=>absurd h (by decide)) (fun _=>?_)
   refine gk_y rfl rfl (za5 rfl rfl rfl) ?_
   refine gk_y rfl rfl (zaf rfl) ?_
   refine zai rfl rfl rfl rfl (fun h=>absurd h (by decide)) (fun _=>?_)
   refine zai rfl rfl rfl rfl (fun h=>absurd h (by decide)) (fun _=>?_)
   refine zai rfl rfl rfl rfl (fun h=>absurd h (by decide)) (fun _=>?_)
   refine zai rfl rfl rfl rfl (fun h=>absurd h (by decide)) (fun _=>?_)
   refine zai rfl rfl rfl rfl (fun h=>absurd h (by decide)) (fun _=>?_)
   refine gk_y rfl rfl (za5 rfl rfl rfl) ?_
   refine gk_y rfl rfl (zaf rfl) ?_
   refine zai rfl rfl rfl rfl (fun h=>absurd h (by decide)) (fun _=>?_)
   refine zai rfl rfl rfl rfl (fun h=>absurd h (by decide)) (fun _=>?_)
   refine zai rfl rfl rfl rfl (fun h=>absurd h (by decide)) (fun _=>?_)
   refine zai rfl rfl rfl rfl (fun h=>absurd h (by decide)) (fun _=>?_)
   refine gk_y rfl rfl (za5 rfl rfl rfl) ?_
   refine zag (zae (T':=[(2,_),(103,_)]) ⟨rfl,rfl,trivial⟩ ?_)
   refine zdg rfl ?_
   refine zac ?_
   refine zaa ?_
   refine gk_y rfl rfl (zad rfl) ?_
   refine zag (zae (T':=[(2,_)]) ⟨rfl,trivial⟩ ?_)
   refine zaw ?_
   refine zay (zaC rfl (zau rfl)) ?_
   rw [zeX (zu4 hg72)]
theorem zda {s:Sht}:zcX s=0↔za4 s=true:=by
 unfold zcX
 cases za4 s <;> simp
theorem zkH {s:Sht} (h:¬ zcX s=0):za4 s=false∧zcX s=2:=by
 have h2:¬ za4 s=true:=fun x=>h (zda.2 x)
 exact⟨by simpa using h2,if_neg h2⟩
def zfC (s:Sht):List Crs:=if za4 s=true then zaj s else []
def zlL (s:Sht) (z:Int):Int:=if za4 s=true∧0≤z∧z≤s.height then zb5 s z else 0
def zlK (s:Sht) (z:Int):Int:=if za4 s=true then(if 0≤z∧z≤s.height then 0 else 3) else 2
set_option maxRecDepth 100000 in
set_option maxHeartbeats 1000000 in
theorem zoM (a:Option Addr) (cap:Nat) (s:Sht) (w:World) (hl:Has w (Ints a s.heights)) (hs:zaP s.heights.length) :
  Calls Tryz.prog 17 #[.agg #[.string s.name,.int .i64 s.base,.int .i64 s.batter,.int .i64 s.height,.int .i64 s.skin,.slice a s.heights.length cap,.int .i64 s.least,.int .i64 s.lap,.int .i64 s.run,.int .i64 s.every,.int .i64 s.at_,.int .i64 s.footing,.int .i64 s.spread,.int .u8 s.cope,.int .i64 s.tall,.int .i64 s.short,.int .i64 s.thick,.int .i64 s.low,.int .i64 s.high,.int .i64 s.rood]] w (zcU (fun z:Option Addr×Nat=>.tuple #[.slice z.1 (zfC s).length z.2,.int .i64 (zcX s)]) (fun z=>Row z.1 2 z.2 49 zbq (zfC s)) w):=by
 refine zan (vs:=[_]) Tryz.func17 rfl rfl (Nat.le_of_ble_eq_true rfl) ?_
 refine zac ?_
 refine zaa ?_
 refine zaG rfl rfl (za3 (vs:=[_,_,_,_,_,_,_,_,_,_,_,_,_,_,_,_,_,_,_,_]) rfl rfl) fun b1=>?_
 refine gk_y rfl rfl (zad rfl) ?_
 refine gk_y rfl rfl (zad rfl) ?_
 refine zag (zae (T':=[(1,_),(2,_),(3,_)]) ⟨rfl,rfl,rfl,trivial⟩ ?_)
 refine zac ?_
 refine zac ?_
 refine zaa ?_
 refine gk_y rfl rfl (zat 0 tf41 rfl rfl (vs:=[_,_,_,_,_,_,_,_,_,_,_,_,_,_,_,_,_,_,_,_]) rfl rfl) ?_
 refine gk_y rfl rfl (zaJ en20 rfl (fun w hw=>zd4 a cap s w (Rd.has (Has.rd hl) hw) (by assumption))) ?_
 refine gk_y rfl rfl (zad rfl) ?_
 refine zag (zae (T':=[(1,_),(2,_),(3,_),(4,_)]) ⟨rfl,rfl,rfl,rfl,trivial⟩ ?_)
 refine zac ?_
 refine zaa ?_
 refine gk_y rfl rfl (zaf rfl) ?_
 refine gk_y rfl rfl (zcr rfl rfl) ?_
 refine zag (zae (T':=[(1,_),(2,_),(3,_),(4,_),(8,_)]) ⟨rfl,rfl,rfl,rfl,rfl,trivial⟩ ?_)
 refine zap rfl (fun hc8=>?_) (fun hc8=>?_)
 ·have hE:=(zkH (show ¬ zcX s=0 by simpa using hc8)).1
  have hcs:zfC s=[]:=if_neg (by rw [hE]; exact Bool.false_ne_true)
  refine zbB 49 zbq 2 ?_
  refine zac ?_
  refine zaa ?_
  refine gk_y rfl rfl (zaf rfl) ?_
  refine gk_y rfl rfl (zad rfl) ?_
  refine gk_y rfl rfl (zad rfl) ?_
  refine zag (zae (T':=[(1,_),(2,_),(3,_)]) ⟨rfl,rfl,rfl,trivial⟩ ?_)
  refine zaw ?_
  refine zbd (none,0) 0 (zc2 rfl (zau rfl) (zau rfl)) ?_ (by rw [hcs]; rfl)
  rw [hcs]; rfl
 ·have hok:za4 s=true:=zda.1 (by simpa using hc8)
  have hcs:zfC s=zaj s:=if_pos hok
  refine zaq ?_
  refine zac ?_
  refine zaa ?_
  refine gk_y rfl rfl (zat 0 tf41 rfl rfl (vs:=[_,_,_,_,_,_,_,_,_,_,_,_,_,_,_,_,_,_,_,_]) rfl rfl) ?_
  refine zaG rfl rfl (zbm en49 rfl (fun w hw=>ze3 a cap s w (Rd.has (Has.rd hl) hw) (zaZ hok))) fun p11=>?_
  refine gk_y rfl rfl (zad rfl) ?_
  refine gk_y rfl rfl (zad rfl) ?_
  refine zag (zae (T':=[(2,_),(3,_)]) ⟨rfl,rfl,trivial⟩ ?_)
  refine zaw ?_
  refine zbd (p11.1,p11.2) 0 (zc2 rfl (zau rfl) (zau rfl)) ?_ (by rw [hcs]; rfl)
  rw [hcs,zda.2 hok]
set_option maxRecDepth 100000 in
set_option maxHeartbeats 1000000 in
theorem ztc (a:Option Addr) (cap:Nat) (s:Sht) (z:Int) (w:World) (hl:Has w (Ints a s.heights)) (hs:zaP s.heights.length) :
  Calls Tryz.prog 18 #[.agg #[.string s.name,.int .i64 s.base,.int .i64 s.batter,.int .i64 s.height,.int .i64 s.skin,.slice a s.heights.length cap,.int .i64 s.least,.int .i64 s.lap,.int .i64 s.run,.int .i64 s.every,.int .i64 s.at_,.int .i64 s.footing,.int .i64 s.spread,.int .u8 s.cope,.int .i64 s.tall,.int .i64 s.short,.int .i64 s.thick,.int .i64 s.low,.int .i64 s.high,.int .i64 s.rood],.int .i64 z] w (Pure (.tuple #[.int .i64 (zlL s z),.int .i64 (zlK s z)]) w):=by
 refine zan (vs:=[_,_]) Tryz.func18 rfl rfl (Nat.le_of_ble_eq_true rfl) ?_
 refine zac ?_
 refine zaa ?_
 refine zaG rfl rfl (za3 (vs:=[_,_,_,_,_,_,_,_,_,_,_,_,_,_,_,_,_,_,_,_]) rfl rfl) fun b2=>?_
 refine gk_y rfl rfl (zad rfl) ?_
 refine gk_y rfl rfl (zad rfl) ?_
 refine zag (zae (T':=[(1,_),(2,_),(4,_),(5,_)]) ⟨rfl,rfl,rfl,rfl,trivial⟩ ?_)
 refine zac ?_
 refine zac ?_
 refine zaa ?_
 refine gk_y rfl rfl (zat 0 tf41 rfl rfl (vs:=[_,_,_,_,_,_,_,_,_,_,_,_,_,_,_,_,_,_,_,_]) rfl rfl) ?_
 refine gk_y rfl rfl (zaJ en20 rfl (fun w hw=>zd4 a cap s w (Rd.has (Has.rd hl) hw) (by assumption))) ?_
 refine gk_y rfl rfl (zad rfl) ?_
 refine zag (zae (T':=[(1,_),(2,_),(4,_),(5,_),(6,_)]) ⟨rfl,rfl,rfl,rfl,rfl,trivial⟩ ?_)
 refine zac ?_
 refine zaa ?_
 refine gk_y rfl rfl (zaf rfl) ?_
 refine gk_y rfl rfl (zcr rfl rfl) ?_
 refine zag (zae (T':=[(1,_),(2,_),(4,_),(5,_),(6,_),(10,_)]) ⟨rfl,rfl,rfl,rfl,rfl,rfl,trivial⟩ ?_)
 refine zap rfl (fun hc10=>?_) (fun hc10=>?_)
 ·have hE:=zkH (show ¬ zcX s=0 by simpa using hc10)
  have hno:¬ za4 s=true:=by rw [hE.1]; exact Bool.false_ne_true
  refine zac ?_
  refine zaa ?_
  refine gk_y rfl rfl (zaf rfl) ?_
  refine gk_y rfl rfl (zad rfl) ?_
  refine gk_y rfl rfl (zad rfl) ?_
  refine zag (zae (T':=[(1,_),(2,_),(4,_),(5,_)]) ⟨rfl,rfl,rfl,rfl,trivial⟩ ?_)
  refine zaw ?_
  refine zay (zc2 rfl (zau rfl) (zau rfl)) ?_
  rw [zlL,zlK,if_neg (fun h=>hno h.1),if_neg hno,hE.2]
 ·have hok:za4 s=true:=zda.1 (by simpa using hc10)
  have hn:=zaZ hok
  have hnh:=hn.height
  refine zaq ?_
  refine zac ?_
  refine zac ?_
  refine zbb 8 (fun _=>mixed) (by kernel_rfl) ?_
  refine ph_y (zaf rfl) ?_
  refine ph_y (zbw rfl rfl) ?_
  refine ph_y (zaf rfl) ?_
  refine zaz rfl rfl (fun hgd=>by(try rw [hgd]); exact(zaf rfl)) ?_
  refine zaz rfl rfl (fun hgd=>by(try rw [hgd]); exact(zab zep rfl)) ?_
  refine zaz rfl rfl (fun hgd=>by(try rw [hgd]); exact(zah 0 tf3 rfl rfl rfl)) ?_
  refine zaz rfl rfl (fun hgd=>by(try rw [hgd]); exact(zc6 rfl rfl)) ?_
  refine ph_y (zaR rfl rfl rfl) ?_
  refine zag (zae (T':=[(1,_),(2,_),(4,_),(5,_),(19,_)]) ⟨rfl,rfl,rfl,rfl,rfl,trivial⟩ ?_)
  refine zap rfl (fun hc19=>?_) (fun hc19=>?_)
  ·simp only [Bool.or_eq_true,decide_eq_true_eq] at hc19
   refine zac ?_
   refine zaa ?_
   refine gk_y rfl rfl (zad rfl) ?_
   refine gk_y rfl rfl (zad rfl) ?_
   refine zag (zae (T':=[(1,_),(2,_),(4,_),(5,_)]) ⟨rfl,rfl,rfl,rfl,trivial⟩ ?_)
   refine zaw ?_
   refine zay (zc2 rfl (zau rfl) (zau rfl)) ?_
   rw [zlL,zlK,if_neg (by omega),if_pos hok,if_neg (by omega)]
  ·simp only [Bool.or_eq_false_iff,decide_eq_false_iff_not] at hc19
   refine zaq ?_
   refine zac ?_
   refine zaa ?_
   refine gk_y rfl rfl (zat 0 tf41 rfl rfl (vs:=[_,_,_,_,_,_,_,_,_,_,_,_,_,_,_,_,_,_,_,_]) rfl rfl) ?_
   refine gk_y rfl rfl (zaf rfl) ?_
   refine gk_y rfl rfl (zaJ en50 rfl (fun w hw=>zkA a cap s _ w)) ?_
   refine gk_y rfl rfl (zad rfl) ?_
   refine gk_y rfl rfl (zad rfl) ?_
   refine zag (zae (T':=[(4,_),(5,_)]) ⟨rfl,rfl,trivial⟩ ?_)
   refine zaw ?_
   refine zay (zc2 rfl (zau rfl) (zau rfl)) ?_
   rw [zlL,zlK,if_pos ⟨hok,by omega,by omega⟩,if_pos hok,if_pos (by omega),zfM hn.batter hn.base (by omega) (by omega)]
set_option maxRecDepth 100000 in
set_option maxHeartbeats 2000000 in
theorem zg2 (a:Option Addr) (cap:Nat) (s:Sht) (w:World) (hl:Has w (Ints a s.heights)) (hn:Nums s) :
  Calls Tryz.prog 21 #[.agg #[.string s.name,.int .i64 s.base,.int .i64 s.batter,.int .i64 s.height,.int .i64 s.skin,.slice a s.heights.length cap,.int .i64 s.least,.int .i64 s.lap,.int .i64 s.run,.int .i64 s.every,.int .i64 s.at_,.int .i64 s.footing,.int .i64 s.spread,.int .u8 s.cope,.int .i64 s.tall,.int .i64 s.short,.int .i64 s.thick,.int .i64 s.low,.int .i64 s.high,.int .i64 s.rood]] w (zcU (fun z:Option Addr×Nat=>.slice z.1 (zaj s).length z.2) (fun z=>Row z.1 2 z.2 50 zbq (zaj s)) w):=by
 refine zan (vs:=[_]) Tryz.func21 rfl rfl (Nat.le_of_ble_eq_true rfl) ?_
 refine zac ?_
 refine zaa ?_
 refine zaG rfl rfl (za3 (vs:=[_,_,_,_,_,_,_,_,_,_,_,_,_,_,_,_,_,_,_,_]) rfl rfl) fun b1=>?_
 refine gk_y rfl rfl (zad rfl) ?_
 refine zag (zae (T':=[(1,_),(2,_)]) ⟨rfl,rfl,trivial⟩ ?_)
 refine zac ?_
 refine zaa ?_
 refine gk_y rfl rfl (zad rfl) ?_
 refine zag (zae (T':=[(1,_),(2,_),(3,_)]) ⟨rfl,rfl,rfl,trivial⟩ ?_)
 refine zac ?_
 refine zaa ?_
 refine gk_y rfl rfl (zad rfl) ?_
 refine gk_y rfl rfl (zad rfl) ?_
 refine zag (zae (T':=[(1,_),(2,_),(3,_),(4,_),(5,_)]) ⟨rfl,rfl,rfl,rfl,rfl,trivial⟩ ?_)
 refine zac ?_
 refine zas ?_
 refine zbB 50 zbq 2 ?_
 refine zbf (X:=Nat×Int×Int×Option Addr×Nat×List Crs) (fun⟨n,z,i,b,bc,L⟩=>[(1,.pointer (some ⟨b1,0,none⟩)),(2,.slice none 0 0),(3,.slice b L.length bc),(4,.int .i64 z),(5,.int .i64 i)]) (fun⟨n,z,i,b,bc,L⟩=>[Row b 2 bc 50 zbq L,Box b1 [.string s.name,.int .i64 s.base,.int .i64 s.batter,.int .i64 s.height,.int .i64 s.skin,.slice a s.heights.length cap,.int .i64 s.least,.int .i64 s.lap,.int .i64 s.run,.int .i64 s.every,.int .i64 s.at_,.int .i64 s.footing,.int .i64 s.spread,.int .u8 s.cope,.int .i64 s.tall,.int .i64 s.short,.int .i64 s.thick,.int .i64 s.low,.int .i64 s.high,.int .i64 s.rood] 37]) (fun⟨n,z,i,b,bc,L⟩=>(L=crsN s n∧z=zAt s n∧i=((min n (s.heights.length - 1):Nat):Int)∧∀ j,j < n→zc5 s j=true)) (fun⟨n,z,i,b,bc,L⟩=>3001 - n) (0,0,0,none,0,[]) ⟨rfl,rfl,rfl,rfl,rfl,trivial⟩ rfl ?_ ?_
 ·exact⟨rfl,rfl,by simp,fun j hj=>by omega⟩
 ·rintro ⟨n,z,i,b,bc,L⟩ hI
  obtain⟨gL,gz,gi,gu⟩:=hI
  have hnl:=hn.len
  have hnh:=hn.height
  have he:=zeg hn n
  have hz0:=zjC hn n
  have hz1:=zn7 (by omega) gu
  have hn3:=zjb hn gu
  have hll:L.length=n:=by rw [gL,zeC]
  have hix:s.heights.getD i.toNat default=zce s n:=by rw [gi]; rfl
  refine zac ?_
  refine zac ?_
  refine zbb 10 (fun _=>mixed) (by kernel_rfl) ?_
  refine ph_y (zaf rfl) ?_
  refine ph_y (zab zgl rfl) ?_
  refine ph_y (zah 1 tf35 rfl rfl rfl) ?_
  refine ph_y (zaf rfl) ?_
  refine ph_y (zaE se35 rfl rfl (fun _ hw=>(Rd.has (Has.rd hl) hw)) (by omega) (by omega)) ?_
  refine ph_y (zcE tf3 rfl (fun _ hw=>(Rd.has (Has.rd hl) hw)) (by omega) (by omega) rfl) ?_
  refine ph_y (zaY rfl rfl (by omega) (by omega)) ?_
  refine ph_y (zab zdC rfl) ?_
  refine ph_y (zah 1 tf3 rfl rfl rfl) ?_
  refine ph_y (zeT rfl rfl) ?_
  refine zag (zae (T':=[(1,_),(2,_),(3,_),(4,_),(5,_),(16,_)]) ⟨rfl,rfl,rfl,rfl,rfl,rfl,trivial⟩ ?_)
  refine zap rfl (fun hc16=>?_) (fun hc16=>?_)
  ·have hc16:=of_decide_eq_true hc16
   refine zaq ?_
   refine zas ?_
   refine zac ?_
   refine zaa ?_
   refine gk_y rfl rfl (zaf rfl) ?_
   refine gk_y rfl rfl (zaf rfl) ?_
   refine gk_y rfl rfl (zaf rfl) ?_
   refine gk_y rfl rfl (zab zgl rfl) ?_
   refine gk_y rfl rfl (zah 1 tf35 rfl rfl rfl) ?_
   refine gk_y rfl rfl (zaf rfl) ?_
   refine gk_y rfl rfl (zaE se35 rfl rfl (fun _ hw=>(Rd.has (Has.rd hl) hw)) (by omega) (by omega)) ?_
   refine gk_y rfl rfl (zcE tf3 rfl (fun _ hw=>(Rd.has (Has.rd hl) hw)) (by omega) (by omega) rfl) ?_
   refine gk_y rfl rfl (zaY rfl rfl (by omega) (by omega)) ?_
   refine gk_y rfl rfl (zaI rfl (zfy _ _)) ?_
   refine zaG rfl rfl (zaD rfl (zo1 _ _) zax rfl) fun b27=>?_
   refine zb4 (m:=[(⟨z,(z+(s.heights.getD (i).toNat default))⟩:Crs)]) 1 af46 zax rfl rfl rfl rfl (fun _ hw=>(zam zax (hw.has (p:=0) rfl))) (by first | omega | (simp only [List.length_cons,List.length_nil]; omega)) (by first | (unfold maxLen; omega) | (simp only [List.length_cons,List.length_nil,maxLen]; omega)) fun a28 c28=>?_
   refine gk_y rfl rfl (zad rfl) ?_
   refine zag (zae (T':=[(1,_),(2,_),(3,_),(4,_),(5,_)]) ⟨rfl,rfl,rfl,rfl,rfl,trivial⟩ ?_)
   refine zac ?_
   refine zaa ?_
   refine gk_y rfl rfl (zaf rfl) ?_
   refine gk_y rfl rfl (zab zgl rfl) ?_
   refine gk_y rfl rfl (zah 2 tf35 rfl rfl rfl) ?_
   refine gk_y rfl rfl (zaf rfl) ?_
   refine gk_y rfl rfl (zaE se35 rfl rfl (fun _ hw=>(Rd.has (Has.rd hl) hw)) (by omega) (by omega)) ?_
   refine gk_y rfl rfl (zcE tf3 rfl (fun _ hw=>(Rd.has (Has.rd hl) hw)) (by omega) (by omega) rfl) ?_
   refine gk_y rfl rfl (zaY rfl rfl (by omega) (by omega)) ?_
   refine gk_y rfl rfl (zad rfl) ?_
   refine zag (zae (T':=[(1,_),(2,_),(3,_),(4,_),(5,_)]) ⟨rfl,rfl,rfl,rfl,rfl,trivial⟩ ?_)
   refine zac ?_
   refine zaa ?_
   refine gk_y rfl rfl (zaf rfl) ?_
   refine gk_y rfl rfl (zaY rfl rfl (by omega) (by omega)) ?_
   refine gk_y rfl rfl (zab zgl rfl) ?_
   refine gk_y rfl rfl (zah 2 tf35 rfl rfl rfl) ?_
   refine gk_y rfl rfl (zaV (Tryz.underlying35) rfl) ?_
   refine gk_y rfl rfl (zbw rfl rfl) ?_
   refine zag (zae (T':=[(1,_),(2,_),(3,_),(4,_),(5,_),(41,_)]) ⟨rfl,rfl,rfl,rfl,rfl,rfl,trivial⟩ ?_)
   refine zap rfl (fun hc41=>?_) (fun hc41=>?_)
   ·simp only [decide_eq_true_eq] at hc41
    refine zaa ?_
    refine gk_y rfl rfl (zaf rfl) ?_
    refine gk_y rfl rfl (zaY rfl rfl (by omega) (by omega)) ?_
    refine gk_y rfl rfl (zad rfl) ?_
    refine zag (zae (T':=[(1,_),(2,_),(3,_),(4,_),(5,_)]) ⟨rfl,rfl,rfl,rfl,rfl,trivial⟩ ?_)
    refine zaK 0 rfl ?_
    exact za1 (n+1,_,_,_,_,_) ⟨rfl,rfl,rfl,rfl,rfl,trivial⟩ rfl ⟨by rw [gL,ze7,gz,hix]; rfl,by rw [gz,hix]; rfl,by omega,zg7 gu (ziR (by rw [←gz]; omega))⟩ (by simp only []; omega)
   ·simp only [decide_eq_false_iff_not] at hc41
    refine zaq ?_
    refine zaK 0 rfl ?_
    exact za1 (n+1,_,_,_,_,_) ⟨rfl,rfl,rfl,rfl,rfl,trivial⟩ rfl ⟨by rw [gL,ze7,gz,hix]; rfl,by rw [gz,hix]; rfl,by omega,zg7 gu (ziR (by rw [←gz]; omega))⟩ (by simp only []; omega)
  ·have hc16:=of_decide_eq_false hc16
   have hcn:=zsG hn gu (by rw [←gz]; omega)
   refine za8 rfl ?_
   refine zac ?_
   refine zaa ?_
   refine gk_y rfl rfl (zab zdC rfl) ?_
   refine gk_y rfl rfl (zah 1 tf3 rfl rfl rfl) ?_
   refine gk_y rfl rfl (zaf rfl) ?_
   refine gk_y rfl rfl (zfV rfl rfl (by omega) (by omega)) ?_
   refine gk_y rfl rfl (zad rfl) ?_
   refine zag (zae (T':=[(1,_),(2,_),(3,_),(4,_),(6,_)]) ⟨rfl,rfl,rfl,rfl,rfl,trivial⟩ ?_)
   refine zac ?_
   refine zac ?_
   refine zbb 13 (fun _=>mixed) (by kernel_rfl) ?_
   refine ph_y (zaf rfl) ?_
   refine ph_y (zab zpt rfl) ?_
   refine ph_y (zah 1 tf3 rfl rfl rfl) ?_
   refine ph_y (zfx rfl rfl) ?_
   refine ph_y (zaf rfl) ?_
   refine zaz rfl rfl (fun hgd=>by(try rw [hgd]); exact(zaf rfl)) ?_
   refine zaz rfl rfl (fun hgd=>by(try rw [hgd]); exact(zc6 rfl rfl)) ?_
   refine zaz rfl rfl (fun hgd=>by(try rw [hgd]); exact(zaf rfl)) ?_
   refine zdr rfl rfl (fun hgd=>by(try rw [hgd]); exact(zaf rfl)) ?_
   refine zdr rfl rfl (fun hgd=>by(try rw [hgd]); exact(zaV (Tryz.underlying46) rfl)) ?_
   refine zdr rfl rfl (fun hgd=>by(try rw [hgd]); exact(zbL rfl rfl)) ?_
   refine zaz rfl rfl (fun hgd=>by(try rw [hgd]); exact(zaX rfl rfl rfl)) ?_
   refine ph_y (zaR rfl rfl rfl) ?_
   refine zag (zae (T':=[(1,_),(2,_),(3,_),(4,_),(6,_),(60,_)]) ⟨rfl,rfl,rfl,rfl,rfl,rfl,trivial⟩ ?_)
   refine zap rfl (fun hc60=>?_) (fun hc60=>?_)
   ·simp only [Bool.or_eq_true,Bool.and_eq_true,decide_eq_true_eq] at hc60
    have hle:=hn.least
    have hcs:zaj s=L++[⟨z,s.height⟩]:=by rw [ze5 hcn (by rw [←gz]; omega) (by rw [←gz]; omega),gL,gz]
    refine zaa ?_
    refine gk_y rfl rfl (zaf rfl) ?_
    refine gk_y rfl rfl (zaf rfl) ?_
    refine gk_y rfl rfl (zab zdC rfl) ?_
    refine gk_y rfl rfl (zah 1 tf3 rfl rfl rfl) ?_
    refine gk_y rfl rfl (zaI rfl (zfy _ _)) ?_
    refine zaG rfl rfl (zaD rfl (zo1 _ _) zax rfl) fun b66=>?_
    refine zb4 (m:=[(⟨z,s.height⟩:Crs)]) 1 af46 zax rfl rfl rfl rfl (fun _ hw=>(zam zax (hw.has (p:=0) rfl))) (by first | omega | (simp only [List.length_cons,List.length_nil]; omega)) (by first | (unfold maxLen; omega) | (simp only [List.length_cons,List.length_nil,maxLen]; omega)) fun a67 c67=>?_
    refine gk_y rfl rfl (zad rfl) ?_
    refine zag (zae (T':=[(2,_),(3,_)]) ⟨rfl,rfl,trivial⟩ ?_)
    refine zac ?_
    refine zaa ?_
    refine gk_y rfl rfl (zaf rfl) ?_
    refine gk_y rfl rfl (zad rfl) ?_
    refine zag (zae (T':=[(2,_)]) ⟨rfl,trivial⟩ ?_)
    refine zaw ?_
    refine zbd (a67,c67) 1 (zaC rfl (zau rfl)) ?_ (by rw [hcs]; rfl)
    first | (rw [hcs]; done) | (rw [hcs,List.length_set])
   ·simp only [Bool.or_eq_false_iff,Bool.and_eq_false_iff,decide_eq_false_iff_not] at hc60
    refine zac ?_
    refine zaa ?_
    refine gk_y rfl rfl (zaf rfl) ?_
    refine gk_y rfl rfl (zc6 rfl rfl) ?_
    refine zag (zae (T':=[(1,_),(2,_),(3,_),(69,_)]) ⟨rfl,rfl,rfl,rfl,trivial⟩ ?_)
    refine zap rfl (fun hc69=>?_) (fun hc69=>?_)
    ·have hc69:=of_decide_eq_true hc69
     have hcs:zaj s=L.set ((L.length:Int) - 1).toNat ({ L.getD ((L.length:Int) - 1).toNat default with to:=s.height }):=by rw [ze4 hcn (by rw [←gz]; omega) (by rw [←gz]; omega),zlf gL (by omega),gL]
     refine zaa ?_
     refine gk_y rfl rfl (zaf rfl) ?_
     refine gk_y rfl rfl (zaf rfl) ?_
     refine gk_y rfl rfl (zaV (Tryz.underlying46) rfl) ?_
     refine gk_y rfl rfl (zfV rfl rfl (by omega) (by omega)) ?_
     refine gk_y rfl rfl (zab zdC rfl) ?_
     refine gk_y rfl rfl (zah 1 tf3 rfl rfl rfl) ?_
     refine gk_y rfl rfl (zaE se46 rfl rfl (fun _ hw=>(zam zax (hw.has (p:=0) rfl))) (by omega) (by omega)) ?_
     refine gk_y rfl rfl (zbh zgm rfl (fun w hw=>zaO (i:=((L.length:Int) - 1)) (zam zax (hw.has (p:=0) rfl)) (by omega) (by omega))) ?_
     refine zfG (x':=({ (L.getD (((L.length:Int) - 1)).toNat default) with to:=s.height }:Crs)) 0 zax tf3 rfl rfl (vs:=[_]) rfl rfl (by decide) rfl rfl (by omega) (by omega) ?_
     refine zag (zae (T':=[(2,_),(3,_)]) ⟨rfl,rfl,trivial⟩ ?_)
     refine zac ?_
     refine zaa ?_
     refine gk_y rfl rfl (zaf rfl) ?_
     refine gk_y rfl rfl (zad rfl) ?_
     refine zag (zae (T':=[(2,_)]) ⟨rfl,trivial⟩ ?_)
     refine zaw ?_
     refine zbd (b,bc) 0 (zaC rfl (zau rfl)) ?_ (by rw [hcs]; rfl)
     first | (rw [hcs]; done) | (rw [hcs,List.length_set])
    ·have hc69:=of_decide_eq_false hc69
     have hcs:zaj s=L:=(ze6 hcn (by rw [←gz]; omega)).trans gL.symm
     refine zaq ?_
     refine zac ?_
     refine zaa ?_
     refine gk_y rfl rfl (zaf rfl) ?_
     refine gk_y rfl rfl (zad rfl) ?_
     refine zag (zae (T':=[(2,_)]) ⟨rfl,trivial⟩ ?_)
     refine zaw ?_
     refine zbd (b,bc) 0 (zaC rfl (zau rfl)) ?_ (by rw [hcs]; rfl)
     first | (rw [hcs]; done) | (rw [hcs,List.length_set])
set_option maxRecDepth 100000 in
set_option maxHeartbeats 4000000 in
theorem zkm (a:Option Addr) (cap:Nat) (s:Sht) (w:World) (hl:Has w (Ints a s.heights)) (hs:zaP s.heights.length) (hco:0≤s.cope) (hfit:Fits s.name.size) :
  Calls Tryz.prog 19 #[.agg #[.string s.name,.int .i64 s.base,.int .i64 s.batter,.int .i64 s.height,.int .i64 s.skin,.slice a s.heights.length cap,.int .i64 s.least,.int .i64 s.lap,.int .i64 s.run,.int .i64 s.every,.int .i64 s.at_,.int .i64 s.footing,.int .i64 s.spread,.int .u8 s.cope,.int .i64 s.tall,.int .i64 s.short,.int .i64 s.thick,.int .i64 s.low,.int .i64 s.high,.int .i64 s.rood]] w (Pure (.bool (za4 s)) w):=by
 refine zan (vs:=[_]) Tryz.func19 rfl rfl (Nat.le_of_ble_eq_true rfl) ?_
 refine zac ?_
 refine zaa ?_
 refine zaG rfl rfl (za3 (vs:=[_,_,_,_,_,_,_,_,_,_,_,_,_,_,_,_,_,_,_,_]) rfl rfl) fun b1=>?_
 refine gk_y rfl rfl (zad rfl) ?_
 refine zag (zae (T':=[(1,_),(2,_)]) ⟨rfl,rfl,trivial⟩ ?_)
 refine zac ?_
 refine zac ?_
 refine zbb 35 (fun _=>mixed) (by kernel_rfl) ?_
 refine ph_y (zab zkW rfl) ?_
 refine ph_y (zah 0 tf9 rfl rfl rfl) ?_
 refine ph_y (zaJ en51 rfl (fun w hw=>znM _ w (by assumption))) ?_
 refine ph_y (zbR rfl) ?_
 refine ph_y (zaf rfl) ?_
 refine zaz rfl rfl (fun hgd=>by(try rw [hgd]); exact(zab zna rfl)) ?_
 refine zaz rfl rfl (fun hgd=>by(try rw [hgd]); exact(zah 0 tf3 rfl rfl rfl)) ?_
 refine zaz rfl rfl (fun hgd=>by(try rw [hgd]); exact(zaJ (v:=.bool (inB s.base 1 3000)) en52 rfl (fun w hw=>in_c _ _ _ w))) ?_
 refine zaz rfl rfl (fun hgd=>by(try rw [hgd]); exact(zbR rfl)) ?_
 refine ph_y (zaR rfl rfl rfl) ?_
 refine ph_y (zaf rfl) ?_
 refine zaz rfl rfl (fun hgd=>by(try rw [hgd]); exact(zab zps rfl)) ?_
 refine zaz rfl rfl (fun hgd=>by(try rw [hgd]); exact(zah 0 tf3 rfl rfl rfl)) ?_
 refine zaz rfl rfl (fun hgd=>by(try rw [hgd]); exact(zaJ (v:=.bool (inB s.batter 0 500)) en52 rfl (fun w hw=>in_c _ _ _ w))) ?_
 refine zaz rfl rfl (fun hgd=>by(try rw [hgd]); exact(zbR rfl)) ?_
 refine ph_y (zaR rfl rfl rfl) ?_
 refine ph_y (zaf rfl) ?_
 refine zaz rfl rfl (fun hgd=>by(try rw [hgd]); exact(zab zdC rfl)) ?_
 refine zaz rfl rfl (fun hgd=>by(try rw [hgd]); exact(zah 0 tf3 rfl rfl rfl)) ?_
 refine zaz rfl rfl (fun hgd=>by(try rw [hgd]); exact(zaJ (v:=.bool (inB s.height 1 3000)) en52 rfl (fun w hw=>in_c _ _ _ w))) ?_
 refine zaz rfl rfl (fun hgd=>by(try rw [hgd]); exact(zbR rfl)) ?_
 refine ph_y (zaR rfl rfl rfl) ?_
 refine ph_y (zaf rfl) ?_
 refine zaz rfl rfl (fun hgd=>by(try rw [hgd]); exact(zab zkX rfl)) ?_
 refine zaz rfl rfl (fun hgd=>by(try rw [hgd]); exact(zah 0 tf3 rfl rfl rfl)) ?_
 refine zaz rfl rfl (fun hgd=>by(try rw [hgd]); exact(zaJ (v:=.bool (inB s.skin 1 1500)) en52 rfl (fun w hw=>in_c _ _ _ w))) ?_
 refine zaz rfl rfl (fun hgd=>by(try rw [hgd]); exact(zbR rfl)) ?_
 refine ph_y (zaR rfl rfl rfl) ?_
 refine ph_y (zaf rfl) ?_
 refine zaz rfl rfl (fun hgd=>by(try rw [hgd]); exact(zab zgl rfl)) ?_
 refine zaz rfl rfl (fun hgd=>by(try rw [hgd]); exact(zah 0 tf35 rfl rfl rfl)) ?_
 refine zaz rfl rfl (fun hgd=>by(try rw [hgd]); exact(zaV (Tryz.underlying35) rfl)) ?_
 refine zaz rfl rfl (fun hgd=>by(try rw [hgd]); exact(zaJ (v:=.bool (inB (s.heights.length:Int) 1 12)) en52 rfl (fun w hw=>in_c _ _ _ w))) ?_
 refine zaz rfl rfl (fun hgd=>by(try rw [hgd]); exact(zbR rfl)) ?_
 refine ph_y (zaR rfl rfl rfl) ?_
 refine zag (zae (T':=[(1,_),(2,_),(38,_)]) ⟨rfl,rfl,rfl,trivial⟩ ?_)
 refine zap rfl (fun hc38=>?_) (fun hc38=>?_)
 ·
  refine zac ?_
  refine zaa ?_
  refine gk_y rfl rfl (zad rfl) ?_
  refine zag (zae (T':=[(1,_),(2,_)]) ⟨rfl,rfl,trivial⟩ ?_)
  refine zaw ?_
  refine zay (zaC rfl (zau rfl)) ?_
  rw [zcS (by rw [zdE hco,show v1 s=true from hc38]; simp)]
 ·
  refine zaq ?_
  refine zac ?_
  refine zac ?_
  refine zaa ?_
  refine gk_y rfl rfl (zad rfl) ?_
  refine zag (zae (T':=[(1,_),(2,_),(3,_)]) ⟨rfl,rfl,rfl,trivial⟩ ?_)
  refine zas ?_
  refine zbf (X:=Int) (fun(i:Int)=>[(1,.pointer (some ⟨b1,0,none⟩)),(2,.bool false),(3,.int .i64 i)]) (fun(i:Int)=>[Box b1 [.string s.name,.int .i64 s.base,.int .i64 s.batter,.int .i64 s.height,.int .i64 s.skin,.slice a s.heights.length cap,.int .i64 s.least,.int .i64 s.lap,.int .i64 s.run,.int .i64 s.every,.int .i64 s.at_,.int .i64 s.footing,.int .i64 s.spread,.int .u8 s.cope,.int .i64 s.tall,.int .i64 s.short,.int .i64 s.thick,.int .i64 s.low,.int .i64 s.high,.int .i64 s.rood] 37]) (fun(i:Int)=>(0≤i∧i≤s.heights.length∧∀ j:Nat,(j:Int) < i→(!inB (s.heights.getD j default) 1 1000)=false)) (fun(i:Int)=>(s.heights.length - i).toNat) 0 ⟨rfl,rfl,rfl,trivial⟩ rfl ?_ ?_
  ·exact⟨by omega,by omega,fun j hj=>by omega⟩
  ·rintro i hI
   obtain⟨g0,g1,g2⟩:=hI
   refine zac ?_
   refine zac ?_
   refine zaa ?_
   refine gk_y rfl rfl (zaf rfl) ?_
   refine gk_y rfl rfl (zab zgl rfl) ?_
   refine gk_y rfl rfl (zah 0 tf35 rfl rfl rfl) ?_
   refine gk_y rfl rfl (zaV (Tryz.underlying35) rfl) ?_
   refine gk_y rfl rfl (zbw rfl rfl) ?_
   refine zag (zae (T':=[(1,_),(2,_),(3,_),(43,_)]) ⟨rfl,rfl,rfl,rfl,trivial⟩ ?_)
   refine zap rfl (fun hc43=>?_) (fun hc43=>?_)
   ·simp only [decide_eq_true_eq] at hc43
    refine zaq ?_
    refine zac ?_
    refine zas ?_
    refine zac ?_
    refine zaa ?_
    refine gk_y rfl rfl (zab zgl rfl) ?_
    refine gk_y rfl rfl (zah 0 tf35 rfl rfl rfl) ?_
    refine gk_y rfl rfl (zaf rfl) ?_
    refine gk_y rfl rfl (zaE se35 rfl rfl (fun _ hw=>(Rd.has (Has.rd hl) hw)) (by omega) (by omega)) ?_
    refine gk_y rfl rfl (zcE tf3 rfl (fun _ hw=>(Rd.has (Has.rd hl) hw)) (by omega) (by omega) rfl) ?_
    refine gk_y rfl rfl (zaJ en52 rfl (fun w hw=>in_c _ _ _ w)) ?_
    refine gk_y rfl rfl (zbR rfl) ?_
    refine zag (zae (T':=[(1,_),(2,_),(3,_),(52,_)]) ⟨rfl,rfl,rfl,rfl,trivial⟩ ?_)
    refine zap rfl (fun hc52=>?_) (fun hc52=>?_)
    ·
     refine zac ?_
     refine zaa ?_
     refine gk_y rfl rfl (zad rfl) ?_
     refine zag (zae (T':=[(1,_),(2,_),(3,_)]) ⟨rfl,rfl,rfl,trivial⟩ ?_)
     refine zaw ?_
     refine zay (zaC rfl (zau rfl)) ?_
     rw [zcS (by rw [zdE hco,zuN g0 hc43 hc52]; simp)]
    ·
     refine zaq ?_
     refine zaa ?_
     refine gk_y rfl rfl (zaf rfl) ?_
     refine gk_y rfl rfl (zaY rfl rfl (by omega) (by omega)) ?_
     refine gk_y rfl rfl (zad rfl) ?_
     refine zag (zae (T':=[(1,_),(2,_),(3,_)]) ⟨rfl,rfl,rfl,trivial⟩ ?_)
     exact za1 (i+1) ⟨rfl,rfl,rfl,trivial⟩ rfl ⟨by omega,by omega,zdP (f:=fun j=>!inB (s.heights.getD j default) 1 1000) g0 g2 hc52⟩ (by omega)
   ·simp only [decide_eq_false_iff_not] at hc43
    refine za8 rfl ?_
    refine zac ?_
    refine zac ?_
    refine zbb 28 (fun _=>mixed) (by kernel_rfl) ?_
    refine ph_y (zab zpt rfl) ?_
    refine ph_y (zah 0 tf3 rfl rfl rfl) ?_
    refine ph_y (zaJ en52 rfl (fun w hw=>in_c _ _ _ w)) ?_
    refine ph_y (zbR rfl) ?_
    refine ph_y (zaf rfl) ?_
    refine zaz rfl rfl (fun hgd=>by(try rw [hgd]); exact(zab zsI rfl)) ?_
    refine zaz rfl rfl (fun hgd=>by(try rw [hgd]); exact(zah 0 tf3 rfl rfl rfl)) ?_
    refine zaz rfl rfl (fun hgd=>by(try rw [hgd]); exact(zaJ (v:=.bool (inB s.lap 0 500)) en52 rfl (fun w hw=>in_c _ _ _ w))) ?_
    refine zaz rfl rfl (fun hgd=>by(try rw [hgd]); exact(zbR rfl)) ?_
    refine ph_y (zaR rfl rfl rfl) ?_
    refine ph_y (zaf rfl) ?_
    refine zaz rfl rfl (fun hgd=>by(try rw [hgd]); exact(zab zsJ rfl)) ?_
    refine zaz rfl rfl (fun hgd=>by(try rw [hgd]); exact(zah 0 tf3 rfl rfl rfl)) ?_
    refine zaz rfl rfl (fun hgd=>by(try rw [hgd]); exact(zaJ (v:=.bool (inB s.run 1 20)) en52 rfl (fun w hw=>in_c _ _ _ w))) ?_
    refine zaz rfl rfl (fun hgd=>by(try rw [hgd]); exact(zbR rfl)) ?_
    refine ph_y (zaR rfl rfl rfl) ?_
    refine ph_y (zaf rfl) ?_
    refine zaz rfl rfl (fun hgd=>by(try rw [hgd]); exact(zab zl4 rfl)) ?_
    refine zaz rfl rfl (fun hgd=>by(try rw [hgd]); exact(zah 0 tf3 rfl rfl rfl)) ?_
    refine zaz rfl rfl (fun hgd=>by(try rw [hgd]); exact(zaJ (v:=.bool (inB s.footing 0 1000)) en52 rfl (fun w hw=>in_c _ _ _ w))) ?_
    refine zaz rfl rfl (fun hgd=>by(try rw [hgd]); exact(zbR rfl)) ?_
    refine ph_y (zaR rfl rfl rfl) ?_
    refine ph_y (zaf rfl) ?_
    refine zaz rfl rfl (fun hgd=>by(try rw [hgd]); exact(zab zl5 rfl)) ?_
    refine zaz rfl rfl (fun hgd=>by(try rw [hgd]); exact(zah 0 tf3 rfl rfl rfl)) ?_
    refine zaz rfl rfl (fun hgd=>by(try rw [hgd]); exact(zaJ (v:=.bool (inB s.spread 0 1000)) en52 rfl (fun w hw=>in_c _ _ _ w))) ?_
    refine zaz rfl rfl (fun hgd=>by(try rw [hgd]); exact(zbR rfl)) ?_
    refine ph_y (zaR rfl rfl rfl) ?_
    refine zag (zae (T':=[(1,_),(2,_),(80,_)]) ⟨rfl,rfl,rfl,trivial⟩ ?_)
    refine zap rfl (fun hc80=>?_) (fun hc80=>?_)
    ·
     refine zac ?_
     refine zaa ?_
     refine gk_y rfl rfl (zad rfl) ?_
     refine zag (zae (T':=[(1,_),(2,_)]) ⟨rfl,rfl,trivial⟩ ?_)
     refine zaw ?_
     refine zay (zaC rfl (zau rfl)) ?_
     rw [zcS (by rw [zdE hco,show v2 s=true from hc80]; simp)]
    ·
     refine zaq ?_
     refine zac ?_
     refine zac ?_
     refine zbb 20 (fun _=>mixed) (by kernel_rfl) ?_
     refine ph_y (zab zjh rfl) ?_
     refine ph_y (zah 0 tf3 rfl rfl rfl) ?_
     refine ph_y (zbL rfl rfl) ?_
     refine ph_y (zaf rfl) ?_
     refine zaH rfl rfl (fun hgd=>by(try rw [hgd]); exact(zab zjU rfl)) ?_
     refine zaH rfl rfl (fun hgd=>by(try rw [hgd]); exact(zah 0 tf3 rfl rfl rfl)) ?_
     refine zaH rfl rfl (fun hgd=>by(try rw [hgd]); exact(zbL rfl rfl)) ?_
     refine ph_y (zaX rfl rfl rfl) ?_
     refine ph_y (zbR rfl) ?_
     refine ph_y (zaf rfl) ?_
     refine zaH rfl rfl (fun hgd=>by(try rw [hgd]); exact(zab zjh rfl)) ?_
     refine zaH rfl rfl (fun hgd=>by(try rw [hgd]); exact(zah 0 tf3 rfl rfl rfl)) ?_
     refine zaH rfl rfl (fun hgd=>by(try rw [hgd]); exact(zaJ (v:=.bool (inB s.every 1 100000)) en52 rfl (fun w hw=>in_c _ _ _ w))) ?_
     refine zaH rfl rfl (fun hgd=>by(try rw [hgd]); exact(zaf rfl)) ?_
     refine zdr rfl rfl (fun hgd=>by(try rw [hgd]); exact(zab zjU rfl)) ?_
     refine zdr rfl rfl (fun hgd=>by(try rw [hgd]); exact(zah 0 tf3 rfl rfl rfl)) ?_
     refine zdr rfl rfl (fun hgd=>by(try rw [hgd]); exact(zaJ (v:=.bool (inB s.at_ 0 3000)) en52 rfl (fun w hw=>in_c _ _ _ w))) ?_
     refine zaH rfl rfl (fun hgd=>by(try rw [hgd]); exact(zaX rfl rfl rfl)) ?_
     refine zaH rfl rfl (fun hgd=>by(try rw [hgd]); exact(zbR rfl)) ?_
     refine ph_y (zaX rfl rfl rfl) ?_
     refine zag (zae (T':=[(1,_),(2,_),(100,_)]) ⟨rfl,rfl,rfl,trivial⟩ ?_)
     refine zap rfl (fun hc100=>?_) (fun hc100=>?_)
     ·
      refine zac ?_
      refine zaa ?_
      refine gk_y rfl rfl (zad rfl) ?_
      refine zag (zae (T':=[(1,_),(2,_)]) ⟨rfl,rfl,trivial⟩ ?_)
      refine zaw ?_
      refine zay (zaC rfl (zau rfl)) ?_
      rw [zcS (by rw [zdE hco,show v3 s=true from hc100]; simp)]
     ·
      refine zaq ?_
      refine zac ?_
      refine zac ?_
      refine zbb 23 (fun _=>mixed) (by kernel_rfl) ?_
      refine ph_y (zab zl6 rfl) ?_
      refine ph_y (zah 0 tf3 rfl rfl rfl) ?_
      refine ph_y (zaJ en52 rfl (fun w hw=>in_c _ _ _ w)) ?_
      refine ph_y (zbR rfl) ?_
      refine ph_y (zaf rfl) ?_
      refine zaz rfl rfl (fun hgd=>by(try rw [hgd]); exact(zab zpr rfl)) ?_
      refine zaz rfl rfl (fun hgd=>by(try rw [hgd]); exact(zah 0 tf3 rfl rfl rfl)) ?_
      refine zaz rfl rfl (fun hgd=>by(try rw [hgd]); exact(zab zl6 rfl)) ?_
      refine zaz rfl rfl (fun hgd=>by(try rw [hgd]); exact(zah 0 tf3 rfl rfl rfl)) ?_
      refine zaz rfl rfl (fun hgd=>by(try rw [hgd]); exact(zaJ (v:=.bool (inB s.low 0 s.high)) en52 rfl (fun w hw=>in_c _ _ _ w))) ?_
      refine zaz rfl rfl (fun hgd=>by(try rw [hgd]); exact(zbR rfl)) ?_
      refine ph_y (zaR rfl rfl rfl) ?_
      refine ph_y (zaf rfl) ?_
      refine zaz rfl rfl (fun hgd=>by(try rw [hgd]); exact(zab zl7 rfl)) ?_
      refine zaz rfl rfl (fun hgd=>by(try rw [hgd]); exact(zah 0 tf3 rfl rfl rfl)) ?_
      refine zaz rfl rfl (fun hgd=>by(try rw [hgd]); exact(zaJ (v:=.bool (inB s.rood 1 100000)) en52 rfl (fun w hw=>in_c _ _ _ w))) ?_
      refine zaz rfl rfl (fun hgd=>by(try rw [hgd]); exact(zbR rfl)) ?_
      refine ph_y (zaR rfl rfl rfl) ?_
      refine ph_y (zaf rfl) ?_
      refine zaz rfl rfl (fun hgd=>by(try rw [hgd]); exact(zab zfb rfl)) ?_
      refine zaz rfl rfl (fun hgd=>by(try rw [hgd]); exact(zah 0 tf5 rfl rfl rfl)) ?_
      refine zaz rfl rfl (fun hgd=>by(try rw [hgd]); exact(zc6 rfl rfl)) ?_
      refine ph_y (zaR rfl rfl rfl) ?_
      refine zag (zae (T':=[(1,_),(2,_),(123,_)]) ⟨rfl,rfl,rfl,trivial⟩ ?_)
      refine zap rfl (fun hc123=>?_) (fun hc123=>?_)
      ·
       refine zac ?_
       refine zaa ?_
       refine gk_y rfl rfl (zad rfl) ?_
       refine zag (zae (T':=[(1,_),(2,_)]) ⟨rfl,rfl,trivial⟩ ?_)
       refine zaw ?_
       refine zay (zaC rfl (zau rfl)) ?_
       rw [zcS (by rw [zdE hco,show v4 s=true from hc123]; simp)]
      ·
       refine zaq ?_
       refine zac ?_
       refine zac ?_
       refine zbb 18 (fun _=>mixed) (by kernel_rfl) ?_
       refine ph_y (zab zfb rfl) ?_
       refine ph_y (zah 0 tf5 rfl rfl rfl) ?_
       refine ph_y (zbL rfl rfl) ?_
       refine ph_y (zaf rfl) ?_
       refine zaH rfl rfl (fun hgd=>by(try rw [hgd]); exact(zab zjV rfl)) ?_
       refine zaH rfl rfl (fun hgd=>by(try rw [hgd]); exact(zah 0 tf3 rfl rfl rfl)) ?_
       refine zaH rfl rfl (fun hgd=>by(try rw [hgd]); exact(zcr rfl rfl)) ?_
       refine zaH rfl rfl (fun hgd=>by(try rw [hgd]); exact(zaf rfl)) ?_
       refine zc0 rfl rfl (fun hgd=>by(try rw [hgd]); exact(zab zh7 rfl)) ?_
       refine zc0 rfl rfl (fun hgd=>by(try rw [hgd]); exact(zah 0 tf3 rfl rfl rfl)) ?_
       refine zc0 rfl rfl (fun hgd=>by(try rw [hgd]); exact(zcr rfl rfl)) ?_
       refine zaH rfl rfl (fun hgd=>by(try rw [hgd]); exact(zaR rfl rfl rfl)) ?_
       refine zaH rfl rfl (fun hgd=>by(try rw [hgd]); exact(zaf rfl)) ?_
       refine zc0 rfl rfl (fun hgd=>by(try rw [hgd]); exact(zab zh8 rfl)) ?_
       refine zc0 rfl rfl (fun hgd=>by(try rw [hgd]); exact(zah 0 tf3 rfl rfl rfl)) ?_
       refine zc0 rfl rfl (fun hgd=>by(try rw [hgd]); exact(zcr rfl rfl)) ?_
       refine zaH rfl rfl (fun hgd=>by(try rw [hgd]); exact(zaR rfl rfl rfl)) ?_
       refine ph_y (zaX rfl rfl rfl) ?_
       refine zag (zae (T':=[(1,_),(2,_),(141,_)]) ⟨rfl,rfl,rfl,trivial⟩ ?_)
       refine zap rfl (fun hc141=>?_) (fun hc141=>?_)
       ·
        refine zac ?_
        refine zaa ?_
        refine gk_y rfl rfl (zad rfl) ?_
        refine zag (zae (T':=[(1,_),(2,_)]) ⟨rfl,rfl,trivial⟩ ?_)
        refine zaw ?_
        refine zay (zaC rfl (zau rfl)) ?_
        rw [zcS (by rw [zdE hco,show v5 s=true from hc141]; simp)]
       ·
        refine zaq ?_
        refine zac ?_
        refine zac ?_
        refine zbb 15 (fun _=>mixed) (by kernel_rfl) ?_
        refine ph_y (zab zfb rfl) ?_
        refine ph_y (zah 0 tf5 rfl rfl rfl) ?_
        refine ph_y (zcr rfl rfl) ?_
        refine ph_y (zaf rfl) ?_
        refine zaH rfl rfl (fun hgd=>by(try rw [hgd]); exact(zab zjV rfl)) ?_
        refine zaH rfl rfl (fun hgd=>by(try rw [hgd]); exact(zah 0 tf3 rfl rfl rfl)) ?_
        refine zaH rfl rfl (fun hgd=>by(try rw [hgd]); exact(zaJ (v:=.bool (inB s.tall 1 1000)) en52 rfl (fun w hw=>in_c _ _ _ w))) ?_
        refine zaH rfl rfl (fun hgd=>by(try rw [hgd]); exact(zbR rfl)) ?_
        refine zaH rfl rfl (fun hgd=>by(try rw [hgd]); exact(zaf rfl)) ?_
        refine zc0 rfl rfl (fun hgd=>by(try rw [hgd]); exact(zab zh8 rfl)) ?_
        refine zc0 rfl rfl (fun hgd=>by(try rw [hgd]); exact(zah 0 tf3 rfl rfl rfl)) ?_
        refine zc0 rfl rfl (fun hgd=>by(try rw [hgd]); exact(zaJ (v:=.bool (inB s.thick 1 1000)) en52 rfl (fun w hw=>in_c _ _ _ w))) ?_
        refine zc0 rfl rfl (fun hgd=>by(try rw [hgd]); exact(zbR rfl)) ?_
        refine zaH rfl rfl (fun hgd=>by(try rw [hgd]); exact(zaR rfl rfl rfl)) ?_
        refine ph_y (zaX rfl rfl rfl) ?_
        refine zag (zae (T':=[(1,_),(2,_),(156,_)]) ⟨rfl,rfl,rfl,trivial⟩ ?_)
        refine zap rfl (fun hc156=>?_) (fun hc156=>?_)
        ·
         refine zac ?_
         refine zaa ?_
         refine gk_y rfl rfl (zad rfl) ?_
         refine zag (zae (T':=[(1,_),(2,_)]) ⟨rfl,rfl,trivial⟩ ?_)
         refine zaw ?_
         refine zay (zaC rfl (zau rfl)) ?_
         rw [zcS (by rw [zdE hco,show v6 s=true from hc156]; simp)]
        ·
         refine zaq ?_
         refine zac ?_
         refine zac ?_
         refine zbb 19 (fun _=>mixed) (by kernel_rfl) ?_
         refine ph_y (zab zfb rfl) ?_
         refine ph_y (zah 0 tf5 rfl rfl rfl) ?_
         refine ph_y (zbL rfl rfl) ?_
         refine ph_y (zaf rfl) ?_
         refine zaH rfl rfl (fun hgd=>by(try rw [hgd]); exact(zab zh7 rfl)) ?_
         refine zaH rfl rfl (fun hgd=>by(try rw [hgd]); exact(zah 0 tf3 rfl rfl rfl)) ?_
         refine zaH rfl rfl (fun hgd=>by(try rw [hgd]); exact(zaJ (v:=.bool (inB s.short 1 1000)) en52 rfl (fun w hw=>in_c _ _ _ w))) ?_
         refine zaH rfl rfl (fun hgd=>by(try rw [hgd]); exact(zbR rfl)) ?_
         refine ph_y (zaX rfl rfl rfl) ?_
         refine ph_y (zaf rfl) ?_
         refine zaz rfl rfl (fun hgd=>by(try rw [hgd]); exact(zab zfb rfl)) ?_
         refine zaz rfl rfl (fun hgd=>by(try rw [hgd]); exact(zah 0 tf5 rfl rfl rfl)) ?_
         refine zaz rfl rfl (fun hgd=>by(try rw [hgd]); exact(zcr rfl rfl)) ?_
         refine zaz rfl rfl (fun hgd=>by(try rw [hgd]); exact(zaf rfl)) ?_
         refine zdr rfl rfl (fun hgd=>by(try rw [hgd]); exact(zab zh7 rfl)) ?_
         refine zdr rfl rfl (fun hgd=>by(try rw [hgd]); exact(zah 0 tf3 rfl rfl rfl)) ?_
         refine zdr rfl rfl (fun hgd=>by(try rw [hgd]); exact(zcr rfl rfl)) ?_
         refine zaz rfl rfl (fun hgd=>by(try rw [hgd]); exact(zaX rfl rfl rfl)) ?_
         refine ph_y (zaR rfl rfl rfl) ?_
         refine zag (zae (T':=[(1,_),(2,_),(175,_)]) ⟨rfl,rfl,rfl,trivial⟩ ?_)
         refine zap rfl (fun hc175=>?_) (fun hc175=>?_)
         ·
          refine zac ?_
          refine zaa ?_
          refine gk_y rfl rfl (zad rfl) ?_
          refine zag (zae (T':=[(1,_),(2,_)]) ⟨rfl,rfl,trivial⟩ ?_)
          refine zaw ?_
          refine zay (zaC rfl (zau rfl)) ?_
          rw [zcS (by rw [zdE hco,show v7 s=true from hc175]; simp)]
         ·have hbad:=zq7 hco hc38 (zsq hc43 g2) hc80 hc100 hc123 hc141 hc156 hc175
          refine zaq ?_
          refine zac ?_
          refine zaa ?_
          refine gk_y rfl rfl (zat 0 tf37 rfl rfl (vs:=[_,_,_,_,_,_,_,_,_,_,_,_,_,_,_,_,_,_,_,_]) rfl rfl) ?_
          refine gk_y rfl rfl (zab zdC rfl) ?_
          refine gk_y rfl rfl (zah 0 tf3 rfl rfl rfl) ?_
          refine gk_y rfl rfl (zaJ en22 rfl (fun w hw=>zkn a cap s _ w)) ?_
          refine gk_y rfl rfl (zfx rfl rfl) ?_
          refine gk_y rfl rfl (zaf rfl) ?_
          refine zai rfl rfl rfl rfl (fun hg181=>?_) (fun hg181=>?_)
          ·replace hg181:_=true:=hg181
           try rw [hg181]
           refine gk_y rfl rfl (zat 0 tf37 rfl rfl (vs:=[_,_,_,_,_,_,_,_,_,_,_,_,_,_,_,_,_,_,_,_]) rfl rfl) ?_
           refine zai rfl rfl rfl rfl (fun _=>?_) (fun h=>absurd h (by decide))
           refine zaG rfl rfl (zbm en21 rfl (fun w hw=>zg2 a cap s w (Rd.has (Has.rd hl) hw) (zgZ hbad))) fun p183=>?_
           refine zai rfl rfl rfl rfl (fun _=>?_) (fun h=>absurd h (by decide))
           refine gk_y rfl rfl (zaV (Tryz.underlying46) rfl) ?_
           refine zai rfl rfl rfl rfl (fun _=>?_) (fun h=>absurd h (by decide))
           refine gk_y rfl rfl (zeT rfl rfl) ?_
           refine gk_y rfl rfl (za5 rfl rfl rfl) ?_
           refine gk_y rfl rfl (zad rfl) ?_
           refine zag (zae (T':=[(2,_)]) ⟨rfl,trivial⟩ ?_)
           refine zaw ?_
           refine zay (zaC rfl (zau rfl)) ?_
           rw [zlD hbad,hg181]; rfl
          ·replace hg181:_=false:=hg181
           try rw [hg181]
           refine zai rfl rfl rfl rfl (fun h=>absurd h (by decide)) (fun _=>?_)
           refine zai rfl rfl rfl rfl (fun h=>absurd h (by decide)) (fun _=>?_)
           refine zai rfl rfl rfl rfl (fun h=>absurd h (by decide)) (fun _=>?_)
           refine gk_y rfl rfl (za5 rfl rfl rfl) ?_
           refine gk_y rfl rfl (zad rfl) ?_
           refine zag (zae (T':=[(2,_)]) ⟨rfl,trivial⟩ ?_)
           refine zaw ?_
           refine zay (zaC rfl (zau rfl)) ?_
           rw [zlD hbad,hg181]; rfl
end Go.Proofs.YtdcfcfhmkfkgmaaGreatDoor
namespace Go.Pln
open Go Go.K Go.RowKit Go.Stn
abbrev Knd (o:Opn):Prop:=0≤o.kind∧o.kind≤255
def zvV (len top:Int) (o:Opn):Bool:=zhr [⟨W o.kind,1,4⟩,⟨len,1,100000⟩,⟨o.width,1,len⟩,⟨o.at_,0,W (len - o.width)⟩,⟨o.high,1,top⟩,⟨o.frm,0,W (top - o.high)⟩]
theorem zbp {n lo hi:Int}:inB n lo hi=true↔lo≤n∧n≤hi:=by
 unfold inB; simp only [Bool.and_eq_true,decide_eq_true_eq]
theorem zh4 {len top:Int} {o:Opn} (hk:Knd o) (hl:1≤len∧len≤100000) (hh:0≤top∧top≤3000) :
  zvV len top o=true↔(1≤o.kind∧o.kind≤4)∧(1≤o.width∧o.width≤len)∧(0≤o.at_∧o.at_≤len - o.width)∧(1≤o.high∧o.high≤top)∧(0≤o.frm∧o.frm≤top - o.high):=by
 unfold zvV
 simp only [zcC,zdI,Bool.and_eq_true,zbp,and_true]
 rw [zbr (n:=o.kind) (by omega) (by omega)]
 constructor
 ·rintro ⟨a,b,c,d,e,f⟩
  rw [zbr (by omega) (by omega)] at d f
  exact⟨a,c,d,e,f⟩
 ·rintro ⟨a,c,d,e,f⟩
  rw [zbr (n:=len - o.width) (by omega) (by omega),zbr (n:=top - o.high) (by omega) (by omega)]
  exact⟨a,hl,c,d,e,f⟩
structure zn8 (len top:Int) (o:Opn):Prop where
 k:1≤o.kind∧o.kind≤4
 w:1≤o.width∧o.width≤len
 a:0≤o.at_∧o.at_+o.width≤len
 h:1≤o.high∧o.high≤top
 f:0≤o.frm∧o.frm+o.high≤top
 l:1≤len∧len≤100000
 s:o.kind=3→o.frm+o.high=top
 g:o.kind=4→o.frm+o.high=top∧o.frm=0
theorem zh3 {len top:Int} {o:Opn}:zfY len top o=true↔zn8 len top o:=by
 unfold zfY
 simp only [Bool.and_eq_true,Bool.or_eq_true,Bool.not_eq_true',decide_eq_true_eq,decide_eq_false_iff_not,zbp]
 constructor
 ·rintro ⟨⟨⟨⟨⟨⟨a,b⟩,c⟩,d⟩,e⟩,f⟩,g,h⟩
  exact⟨a,c,by omega,e,by omega,b,by omega,by omega⟩
 ·rintro ⟨a,b,c,d,e,f,g,h⟩
  refine⟨⟨⟨⟨⟨⟨a,f⟩,b⟩,by omega⟩,d⟩,by omega⟩,?_,?_⟩
  ·by_cases h3:o.kind=3
   ·exact .inr (g h3)
   ·exact .inl h3
  ·by_cases h4:o.kind=4
   ·exact .inr (h h4)
   ·exact .inl h4
theorem ztO {len top:Int} {o:Opn} (hk:Knd o) (hl:1≤len∧len≤100000) (hh:0≤top∧top≤3000) (h:(!zvV len top o)=true):zfY len top o=false:=by
 cases hb:zfY len top o with
 | false=>rfl
 | true=>
  have f:=zh3.1 hb
  have:=(zh4 hk hl hh).2 ⟨f.k,f.w,by have:=f.a; omega,f.h,by have:=f.f; omega⟩
  rw [this] at h; cases h
theorem zrq {len top:Int} {o:Opn} (hk:Knd o) (hl:1≤len∧len≤100000) (hh:0≤top∧top≤3000) (h:(!zvV len top o)=false) :
  zfY len top o=((!decide (o.kind=3)||decide (o.frm+o.high=top))&&(!decide (o.kind=4)||(decide (o.frm+o.high=top)&&decide (o.frm=0)))):=by
 have f:=(zh4 hk hl hh).1 (zll h)
 unfold zfY
 rw [show inB o.kind 1 4=true from zbp.2 f.1,show inB len 1 100000=true from zbp.2 hl,show inB o.width 1 len=true from zbp.2 f.2.1,show inB o.at_ 0 (len - o.width)=true from zbp.2 f.2.2.1,show inB o.high 1 top=true from zbp.2 f.2.2.2.1,show inB o.frm 0 (top - o.high)=true from zbp.2 f.2.2.2.2]
 simp
def zhk (o p:Opn):Bool:=decide (o.at_ < W (p.at_+p.width))&&decide (p.at_ < W (o.at_+o.width))&&decide (o.frm < W (p.frm+p.high))&&decide (p.frm < W (o.frm+o.high))
theorem zp8 {len top:Int} {o p:Opn} (hh:top≤3000) (ho:zn8 len top o) (hp:zn8 len top p):zhk o p=zea o p:=by
 have a1:=ho.a; have a2:=ho.f; have a3:=hp.a; have a4:=hp.f; have a5:=ho.w; have a6:=ho.h; have a7:=hp.w; have a8:=hp.h; have a9:=ho.l
 unfold zhk zea
 rw [zbr (n:=p.at_+p.width) (by omega) (by omega),zbr (n:=o.at_+o.width) (by omega) (by omega),zbr (n:=p.frm+p.high) (by omega) (by omega),zbr (n:=o.frm+o.high) (by omega) (by omega)]
theorem zf7 {top:Int} {w:Wll} {i:Nat} (h:zcI top w i=true):zn8 w.length top (w.opens.getD i default):=by
 unfold zcI at h
 simp only [Bool.and_eq_true] at h
 exact zh3.1 h.1
theorem zoS {top:Int} {w:Wll} {i:Int} (hh:top≤3000) (h0:0≤i) (h1:i < (w.opens.length:Int)) (hp:∀ j:Nat,(j:Int) < i→zcI top w j=true) (ho:zn8 w.length top (w.opens.getD i.toNat default)) :
  (w.opens.take i.toNat).any (zhk (w.opens.getD i.toNat default))=(w.opens.take i.toNat).any (fun q=>zea (w.opens.getD i.toNat default) q):=by
 have key:∀ q∈w.opens.take i.toNat,zhk (w.opens.getD i.toNat default) q=zea (w.opens.getD i.toNat default) q:=fun q hq=>by
  obtain⟨j,hj,rfl⟩:=List.getElem_of_mem hq
  rw [List.length_take] at hj
  have hf:=zf7 (hp j (by omega))
  rw [List.getD_eq_getElem?_getD,List.getElem?_eq_getElem (by omega)] at hf
  rw [List.getElem_take]
  exact zp8 hh ho hf
 rw [Bool.eq_iff_iff,List.any_eq_true,List.any_eq_true]
 exact⟨fun⟨q,h1,h2⟩=>⟨q,h1,by rw [←key q h1]; exact h2⟩,fun⟨q,h1,h2⟩=>⟨q,h1,by rw [key q h1]; exact h2⟩⟩
theorem zln {top:Int} {w:Wll} {i:Int} (hh:top≤3000) (h0:0≤i) (h1:i < (w.opens.length:Int)) (hp:∀ j:Nat,(j:Int) < i→zcI top w j=true) :
  (!zfY w.length top (w.opens.getD i.toNat default)||(w.opens.take i.toNat).any (zhk (w.opens.getD i.toNat default))) = !zcI top w i.toNat:=by
 unfold zcI
 cases hf:zfY w.length top (w.opens.getD i.toNat default) with
 | false=>rfl
 | true=>rw [zoS hh h0 h1 hp (zh3.1 hf)]; simp
def zfP (w:Wll):Bool:=zdY w.name&&inB w.length 1 100000&&inB (w.opens.length:Int) 0 20
theorem zgN (top:Int) (w:Wll):zd1 top w=(zfP w&&allI w.opens.length fun i=>zcI top w i):=rfl
theorem zkz {top:Int} {w:Wll} (h:zfP w=false):zd1 top w=false:=by rw [zgN,h]; rfl
theorem zhH {top:Int} {w:Wll} {i:Int} (h0:0≤i) (h1:i < (w.opens.length:Int)) (h:zcI top w i.toNat=false):zd1 top w=false:=by
 rw [zgN,zc9 (i:=i.toNat) (by omega) h,Bool.and_false]
theorem zn0 {top:Int} {w:Wll} {i:Int} (h:zfP w=true) (h1:¬ i < (w.opens.length:Int)) (hp:∀ j:Nat,(j:Int) < i→zcI top w j=true):zd1 top w=true:=by
 rw [zgN,h,zdN (fun j hj=>hp j (by omega))]; rfl
theorem zgM {w:Wll} (h:zfP w=true):(1≤w.length∧w.length≤100000)∧w.opens.length≤20:=by
 unfold zfP at h
 simp only [Bool.and_eq_true,zbp] at h
 omega
theorem zqW {top:Int} {w:Wll} (h:zd1 top w=true):zfP w=true:=by
 rw [zgN,Bool.and_eq_true] at h; exact h.1
theorem zmJ (w:Wll):zfP w = !(!zgx w.name||!zhr [⟨w.length,1,100000⟩,⟨(w.opens.length:Int),0,20⟩]):=by
 unfold zfP
 rw [zcC,zcC,zdI,znv]
 cases zdY w.name <;> cases inB w.length 1 100000 <;> cases inB (w.opens.length:Int) 0 20 <;> rfl
theorem zuO (w:Wll):zfP w = !(!zdY w.name||!inB w.length 1 100000||decide (20 < (w.opens.length:Int))):=by
 unfold zfP
 have:inB (w.opens.length:Int) 0 20 = !decide (20 < (w.opens.length:Int)):=by
  rw [Bool.eq_iff_iff,zbp,Bool.not_eq_true',decide_eq_false_iff_not]; omega
 rw [this]
 cases zdY w.name <;> cases inB w.length 1 100000 <;> cases decide (20 < (w.opens.length:Int)) <;> rfl
theorem zdu {f:Nat→Bool} {i:Int} (h0:0≤i) (h:∀ j:Nat,(j:Int) < i→f j=true) (hi:f i.toNat=true):∀ j:Nat,(j:Int) < i+1→f j=true:=fun j hj=>by
 rcases Int.lt_or_eq_of_le (show(j:Int)≤i by omega) with g | g
 ·exact h j g
 ·rw [show j=i.toNat from by omega]; exact hi
def zav (S:List ShC) (n:ByteArray):ShC:=if 0≤zaS S n then S.getD (zaS S n).toNat default else default
theorem findI_lt {α:Type} (p:α→Bool) (l:List α):zbJ p l < (l.length:Int)∨zbJ p l = -1:=by
 unfold zbJ
 split
 ·rename_i h
  left
  obtain⟨x,hx,hp⟩:=List.any_eq_true.1 h
  have:=List.findIdx_lt_length_of_exists ⟨x,hx,hp⟩
  omega
 ·right; rfl
theorem zrp {α:Type} (p:α→Bool) (l:List α):-1≤zbJ p l:=by unfold zbJ; split <;> omega
theorem ziE {S:List ShC} {n:ByteArray} (h:0≤zaS S n):zaS S n < (S.length:Int):=by
 rcases findI_lt (fun z:ShC=>z.s.name.toList == n.toList) S with g | g
 ·exact g
 ·unfold zaS at h; rw [g] at h; omega
theorem zky {S:List WlC} {n:ByteArray} (h:0≤zaM S n):zaM S n < (S.length:Int):=by
 rcases findI_lt (fun z:WlC=>z.s.name.toList == n.toList) S with g | g
 ·exact g
 ·unfold zaM at h; rw [g] at h; omega
theorem zgp {S:List ShC} {n:ByteArray} (h:0≤zaS S n):zav S n∈S:=by
 unfold zav
 rw [if_pos h]
 exact za0 (by have:=ziE h; omega)
theorem zpL {S:List ShC} {n:ByteArray} {w:World} (h:∀ z∈S,Has w (Ints z.a z.s.heights)):Has w (Ints (zav S n).a (zav S n).s.heights):=by
 by_cases h0:0≤zaS S n
 ·exact h _ (zgp h0)
 ·unfold zav
  rw [if_neg h0]
  exact⟨fun _=>False,fun _ hk=>hk.elim,.inl rfl⟩
theorem zrs {S:List ShC} {n:ByteArray} {P:ShC→Prop} (h:∀ z∈S,P z) (hd:P default):P (zav S n):=by
 by_cases h0:0≤zaS S n
 ·exact h _ (zgp h0)
 ·unfold zav; rw [if_neg h0]; exact hd
theorem zh2 {α:Type} [Inhabited α] {p:α→Bool} {l:List α} {i:Int} (h0:0≤i) (h1:i < (l.length:Int)) (hp:p (l.getD i.toNat default)=true):decide (zbJ p l=i) = !(l.take i.toNat).any p:=by
 rw [Bool.eq_iff_iff,decide_eq_true_eq,Bool.not_eq_true',List.any_eq_false]
 constructor
 ·intro h x hx
  obtain⟨j,hj,rfl⟩:=List.getElem_of_mem hx
  rw [List.length_take] at hj
  rw [List.getElem_take]
  have hany:l.any p=true:=List.any_eq_true.2 ⟨_,za0 (by omega),hp⟩
  unfold zbJ at h
  rw [if_pos hany] at h
  have:=List.not_of_lt_findIdx (p:=p) (xs:=l) (i:=j) (by omega)
  simpa using this
 ·intro h
  refine zcs h0 h1 (fun j hj=>?_) hp
  have:=h (l.getD j default) (by
   rw [List.getD_eq_getElem?_getD,List.getElem?_eq_getElem (by omega)]
   exact List.mem_take_iff_getElem.2 ⟨j,by omega,rfl⟩)
  simpa using this
theorem ztM {α:Type} [Inhabited α] {p:α→Bool} {l:List α} {i:Int} (h0:0≤i) (h1:i < (l.length:Int)) (hp:p (l.getD i.toNat default)=true):decide (zbJ p l < i) = !decide (zbJ p l=i):=by
 have hany:l.any p=true:=List.any_eq_true.2 ⟨_,za0 (by omega),hp⟩
 have hle:(l.findIdx p:Int)≤i:=by
  have:l.findIdx p≤i.toNat:=by
   rcases Nat.lt_or_ge i.toNat (l.findIdx p) with g | g
   ·have:=List.not_of_lt_findIdx g
    rw [List.getD_eq_getElem?_getD,List.getElem?_eq_getElem (by omega)] at hp
    simp at hp
    simp [hp] at this
   ·exact g
  omega
 unfold zbJ
 rw [if_pos hany,Bool.eq_iff_iff,decide_eq_true_eq,Bool.not_eq_true',decide_eq_false_iff_not]
 omega
def shAt (S:List ShC) (i:Nat):Bool:=!(S.take i).any (fun z=>z.s.name.toList == (S.getD i default).s.name.toList)&&za4 (S.getD i default).s
def wlAt (S:List ShC) (V:List WlC) (i:Nat):Bool:=decide (0≤zaS S (V.getD i default).s.sheet)&&!(V.take i).any (fun z=>z.s.name.toList == (V.getD i default).s.name.toList)&&zd1 (zav S (V.getD i default).s.sheet).s.height (V.getD i default).s
def zc4 (S:List ShC) (V:List WlC):Bool:=!(decide (20 < (S.length:Int))||decide (50 < (V.length:Int)))&&allI S.length (shAt S)&&allI V.length (wlAt S V)
def zeW (S:List ShC) (V:List WlC):Int:=if zc4 S V=true then 0 else 2
end Go.Pln
namespace Go.Proofs.YtdcfcfhmkfkgmaaGreatDoor
open Go.K Go.Stn Go.Pln Go.RowKit
theorem tf28:TF Tryz.prog 28 false 1 (.slice none 0 0):=⟨by kernel_rfl,by kernel_rfl⟩
theorem tf29:TF Tryz.prog 29 false 1 (.slice none 0 0):=⟨by kernel_rfl,by kernel_rfl⟩
theorem tf49:TF Tryz.prog 49 true 2 (.agg #[.int IntKind.i64 0,.int IntKind.i64 0]):=⟨by kernel_rfl,by kernel_rfl⟩
theorem tf69:TF Tryz.prog 69 true 2 (.agg #[.int IntKind.i64 0,.int IntKind.i64 0]):=⟨by kernel_rfl,by kernel_rfl⟩
theorem tf92:TF Tryz.prog 92 false 1 (.slice none 0 0):=⟨by kernel_rfl,by kernel_rfl⟩
theorem tf94:TF Tryz.prog 94 true 4 (.agg #[.string ⟨#[]⟩,.string ⟨#[]⟩,.int IntKind.i64 0,.slice none 0 0]):=⟨by kernel_rfl,by kernel_rfl⟩
theorem tf98:TF Tryz.prog 98 true 5 (.agg #[.int IntKind.u8 0,.int IntKind.i64 0,.int IntKind.i64 0,.int IntKind.i64 0,.int IntKind.i64 0]):=⟨by kernel_rfl,by kernel_rfl⟩
theorem zeo:FO Tryz.prog 31 0 0:=⟨by kernel_rfl⟩
theorem zd7:FO Tryz.prog 31 1 1:=⟨by kernel_rfl⟩
theorem znh:FO Tryz.prog 94 0 0:=⟨by kernel_rfl⟩
theorem zgo:FO Tryz.prog 94 2 2:=⟨by kernel_rfl⟩
theorem zhe:FO Tryz.prog 94 3 3:=⟨by kernel_rfl⟩
theorem zpG:FO Tryz.prog 98 0 0:=⟨by kernel_rfl⟩
theorem zhf:FO Tryz.prog 98 1 1:=⟨by kernel_rfl⟩
theorem zji:FO Tryz.prog 98 2 2:=⟨by kernel_rfl⟩
theorem zfe:FO Tryz.prog 98 3 3:=⟨by kernel_rfl⟩
theorem zhg:FO Tryz.prog 98 4 4:=⟨by kernel_rfl⟩
theorem se28:SE Tryz.prog 28 41 20:=⟨Tryz.underlying28,by kernel_rfl⟩
theorem se29:SE Tryz.prog 29 94 4:=⟨Tryz.underlying29,by kernel_rfl⟩
theorem se59:SE Tryz.prog 59 69 2:=⟨Tryz.underlying59,by kernel_rfl⟩
theorem se92:SE Tryz.prog 92 98 5:=⟨Tryz.underlying92,by kernel_rfl⟩
theorem en73:En Tryz.prog 73:=za7 Tryz.func73 (by kernel_rfl) (by kernel_rfl)
theorem en74:En Tryz.prog 74:=za7 Tryz.func74 (by kernel_rfl) (by kernel_rfl)
theorem en75:En Tryz.prog 75:=za7 Tryz.func75 (by kernel_rfl) (by kernel_rfl)
theorem en76:En Tryz.prog 76:=za7 Tryz.func76 (by kernel_rfl) (by kernel_rfl)
theorem en77:En Tryz.prog 77:=za7 Tryz.func77 (by kernel_rfl) (by kernel_rfl)
theorem en78:En Tryz.prog 78:=za7 Tryz.func78 (by kernel_rfl) (by kernel_rfl)
theorem en79:En Tryz.prog 79:=za7 Tryz.func79 (by kernel_rfl) (by kernel_rfl)
theorem zvR:En Tryz.prog 104:=za7 Tryz.func104 (by kernel_rfl) (by kernel_rfl)
theorem zw9:En Tryz.prog 121:=za7 Tryz.func121 (by kernel_rfl) (by kernel_rfl)
theorem ztl  (w:World):(Instr.build 41 #[]).run Tryz.prog w=.ok (.agg #[.string ⟨#[]⟩,.int IntKind.i64 0,.int IntKind.i64 0,.int IntKind.i64 0,.int IntKind.i64 0,.slice none 0 0,.int IntKind.i64 0,.int IntKind.i64 0,.int IntKind.i64 0,.int IntKind.i64 0,.int IntKind.i64 0,.int IntKind.i64 0,.int IntKind.i64 0,.int IntKind.u8 0,.int IntKind.i64 0,.int IntKind.i64 0,.int IntKind.i64 0,.int IntKind.i64 0,.int IntKind.i64 0,.int IntKind.i64 0]) w:=by kernel_rfl
theorem ztq (x0_0:Int) (x0_1:Int) (x0_2:Int) (x1_0:Int) (x1_1:Int) (x1_2:Int) (x2_0:Int) (x2_1:Int) (x2_2:Int) (x3_0:Int) (x3_1:Int) (x3_2:Int) (x4_0:Int) (x4_1:Int) (x4_2:Int) (x5_0:Int) (x5_1:Int) (x5_2:Int) (w:World):(Instr.buildSlice 148 6 #[(0,.agg #[.int .i64 x0_0,.int .i64 x0_1,.int .i64 x0_2]),(1,.agg #[.int .i64 x1_0,.int .i64 x1_1,.int .i64 x1_2]),(2,.agg #[.int .i64 x2_0,.int .i64 x2_1,.int .i64 x2_2]),(3,.agg #[.int .i64 x3_0,.int .i64 x3_1,.int .i64 x3_2]),(4,.agg #[.int .i64 x4_0,.int .i64 x4_1,.int .i64 x4_2]),(5,.agg #[.int .i64 x5_0,.int .i64 x5_1,.int .i64 x5_2])]).run Tryz.prog w=.ok (.slice (some ⟨w.heap.size,0,none⟩) 6 6) (w.alloc (.cells (([⟨x0_0,x0_1,x0_2⟩,⟨x1_0,x1_1,x1_2⟩,⟨x2_0,x2_1,x2_2⟩,⟨x3_0,x3_1,x3_2⟩,⟨x4_0,x4_1,x4_2⟩,⟨x5_0,x5_1,x5_2⟩]:List (Lim)).flatMap zgk).toArray 117)):=by kernel_rfl
set_option maxRecDepth 100000 in
set_option maxHeartbeats 1000000 in
theorem zhj (a:Option Addr) (cap:Nat) (l:List Opn) (f:Opn→Bool) (gg:FuncId) (gfs gcap:List Value) (w:World) (hl:Has w (zaW a 5 zba l)) (hs:zaP l.length) (M:World→Prop) (hM:∀ w',Ext w w'→M w') (hen:En Tryz.prog gg) (hg:∀ (z:Opn) w',M w'→Calls Tryz.prog gg (gfs++[Value.agg #[.int .u8 z.kind,.int .i64 z.at_,.int .i64 z.width,.int .i64 z.frm,.int .i64 z.high]]++gcap).toArray w' (Pure (.bool (f z)) w')) :
  Calls Tryz.prog 104 #[.slice a l.length cap,.func (.func gg) gfs.toArray gcap.toArray] w (Pure (.int .i64 (zbJ f l)) w):=by
 refine zan (vs:=[_,_]) Tryz.func104 rfl rfl (Nat.le_of_ble_eq_true rfl) ?_
 refine zac ?_
 refine zaa ?_
 refine gk_y rfl rfl (zad rfl) ?_
 refine zag (zae (T':=[(0,_),(1,_),(4,_)]) ⟨rfl,rfl,rfl,trivial⟩ ?_)
 refine zac ?_
 refine zac ?_
 refine zaa ?_
 refine gk_y rfl rfl (zaf rfl) ?_
 refine gk_y rfl rfl (zaV (Tryz.underlying92) rfl) ?_
 refine gk_y rfl rfl (zaf rfl) ?_
 refine zag (zae (T':=[(0,_),(1,_),(4,_),(7,_),(8,_)]) ⟨rfl,rfl,rfl,rfl,rfl,trivial⟩ ?_)
 refine zas ?_
 refine zbf (X:=Int) (fun(i:Int)=>[(0,.slice a l.length cap),(1,.func (.func gg) gfs.toArray gcap.toArray),(4,.int .i64 0),(7,.int .i64 (l.length:Int)),(8,.int .i64 i)]) (fun(i:Int)=>[]) (fun(i:Int)=>(0≤i∧i≤l.length∧∀ j:Nat,(j:Int) < i→f (l.getD j default)=false)) (fun(i:Int)=>(l.length - i).toNat) 0 ⟨rfl,rfl,rfl,rfl,rfl,trivial⟩ rfl ?_ ?_
 ·exact⟨by omega,by omega,fun j hj=>by omega⟩
 ·rintro i hI
  obtain⟨g0,g1,g2⟩:=hI
  refine zac ?_
  refine zaa ?_
  refine gk_y rfl rfl (zbw rfl rfl) ?_
  refine zag (zae (T':=[(0,_),(1,_),(4,_),(7,_),(8,_),(9,_)]) ⟨rfl,rfl,rfl,rfl,rfl,rfl,trivial⟩ ?_)
  refine zac ?_
  refine zap rfl (fun hc9=>?_) (fun hc9=>?_)
  ·simp only [decide_eq_true_eq] at hc9
   refine zaq ?_
   refine zac ?_
   refine zas ?_
   refine zac ?_
   refine zaa ?_
   refine gk_y rfl rfl (zaf rfl) ?_
   refine gk_y rfl rfl (zad rfl) ?_
   refine zag (zae (T':=[(0,_),(1,_),(4,_),(5,_),(7,_),(8,_)]) ⟨rfl,rfl,rfl,rfl,rfl,rfl,trivial⟩ ?_)
   refine zac ?_
   refine zaa ?_
   refine gk_y rfl rfl (zaf rfl) ?_
   refine gk_y rfl rfl (zaf rfl) ?_
   refine gk_y rfl rfl (zaf rfl) ?_
   refine gk_y rfl rfl (zaE se92 rfl rfl (fun _ hw=>(Rd.has (Has.rd hl) hw)) (by omega) (by omega)) ?_
   refine gk_y rfl rfl (zbv (vs:=[_,_,_,_,_]) tf98 rfl (fun _ hw=>(Rd.has (Has.rd hl) hw)) (by omega) (by omega) rfl) ?_
   refine gk_y rfl rfl (zde (fs:=gfs) (cap:=gcap) hen rfl rfl (fun w hw=>hg (l.getD (i).toNat default) w (hM _ hw.base.ext0))) ?_
   refine zag (zae (T':=[(0,_),(1,_),(4,_),(5,_),(7,_),(8,_),(16,_)]) ⟨rfl,rfl,rfl,rfl,rfl,rfl,rfl,trivial⟩ ?_)
   refine zap rfl (fun hc16=>?_) (fun hc16=>?_)
   ·
    refine zac ?_
    refine zaa ?_
    refine gk_y rfl rfl (zaf rfl) ?_
    refine gk_y rfl rfl (zad rfl) ?_
    refine zag (zae (T':=[(0,_),(1,_),(4,_),(7,_),(8,_)]) ⟨rfl,rfl,rfl,rfl,rfl,trivial⟩ ?_)
    refine zaw ?_
    refine zay (zaC rfl (zau rfl)) ?_
    exact congrArg _ (zcs g0 (by omega) g2 hc16).symm
   ·
    refine zaq ?_
    refine zaa ?_
    refine gk_y rfl rfl (zaY rfl rfl (by omega) (by omega)) ?_
    refine gk_y rfl rfl (zaf rfl) ?_
    refine zag (zae (T':=[(0,_),(1,_),(4,_),(7,_),(8,_)]) ⟨rfl,rfl,rfl,rfl,rfl,trivial⟩ ?_)
    exact za1 _ ⟨rfl,rfl,rfl,rfl,rfl,trivial⟩ rfl ⟨by omega,by omega,fun j hj=>if h:(j:Int) < i then g2 j h else(by rw [show j=i.toNat from by omega]; exact hc16)⟩ (by omega)
  ·simp only [decide_eq_false_iff_not] at hc9
   refine za8 rfl ?_
   refine zac ?_
   refine zaa ?_
   refine gk_y rfl rfl (zad rfl) ?_
   refine zag (zae (T':=[(4,_)]) ⟨rfl,trivial⟩ ?_)
   refine zaw ?_
   refine zay (zaC rfl (zau rfl)) ?_
   exact congrArg _ (zck (fun j hj=>g2 j (by omega))).symm
set_option maxRecDepth 100000 in
set_option maxHeartbeats 1000000 in
theorem zhR (a:Option Addr) (cap:Nat) (l:List Opn) (f:Opn→Bool) (gg:FuncId) (gfs gcap:List Value) (w:World) (hl:Has w (zaW a 5 zba l)) (hs:zaP l.length) (M:World→Prop) (hM:∀ w',Ext w w'→M w') (hen:En Tryz.prog gg) (hg:∀ (z:Opn) w',M w'→Calls Tryz.prog gg (gfs++[Value.agg #[.int .u8 z.kind,.int .i64 z.at_,.int .i64 z.width,.int .i64 z.frm,.int .i64 z.high]]++gcap).toArray w' (Pure (.bool (f z)) w')) :
  Calls Tryz.prog 78 #[.slice a l.length cap,.func (.func gg) gfs.toArray gcap.toArray] w (Pure (.bool (l.any f)) w):=by
 refine zan (vs:=[_,_]) Tryz.func78 rfl rfl (Nat.le_of_ble_eq_true rfl) ?_
 refine zac ?_
 refine zaa ?_
 refine gk_y rfl rfl (zad rfl) ?_
 refine zag (zae (T':=[(0,_),(1,_),(4,_)]) ⟨rfl,rfl,rfl,trivial⟩ ?_)
 refine zac ?_
 refine zaa ?_
 refine gk_y rfl rfl (zaf rfl) ?_
 refine gk_y rfl rfl (zaf rfl) ?_
 refine gk_y rfl rfl (zaJ zvR rfl (fun w hw=>zhj _ _ l f _ _ _ w (Rd.has (Has.rd hl) hw) (by assumption) M (fun w' h=>hM w' (hw.base.ext0.trans h)) hen hg)) ?_
 refine gk_y rfl rfl (zfx rfl rfl) ?_
 refine gk_y rfl rfl (zad rfl) ?_
 refine zag (zae (T':=[(4,_)]) ⟨rfl,trivial⟩ ?_)
 refine zaw ?_
 refine zay (zaC rfl (zau rfl)) ?_
 rw [ze9]
set_option maxRecDepth 100000 in
set_option maxHeartbeats 1000000 in
theorem zld (a:Option Addr) (cap:Nat) (l:List ShC) (f:ShC→Bool) (gg:FuncId) (gfs gcap:List Value) (w:World) (hl:Has w (zaW a 20 zbH l)) (hs:zaP l.length) (M:World→Prop) (hM:∀ w',Ext w w'→M w') (hen:En Tryz.prog gg) (hg:∀ (z:ShC) w',M w'→Calls Tryz.prog gg (gfs++[Value.agg #[.string z.s.name,.int .i64 z.s.base,.int .i64 z.s.batter,.int .i64 z.s.height,.int .i64 z.s.skin,.slice z.a z.s.heights.length z.cap,.int .i64 z.s.least,.int .i64 z.s.lap,.int .i64 z.s.run,.int .i64 z.s.every,.int .i64 z.s.at_,.int .i64 z.s.footing,.int .i64 z.s.spread,.int .u8 z.s.cope,.int .i64 z.s.tall,.int .i64 z.s.short,.int .i64 z.s.thick,.int .i64 z.s.low,.int .i64 z.s.high,.int .i64 z.s.rood]]++gcap).toArray w' (Pure (.bool (f z)) w')) :
  Calls Tryz.prog 73 #[.slice a l.length cap,.func (.func gg) gfs.toArray gcap.toArray] w (Pure (.int .i64 (zbJ f l)) w):=by
 refine zan (vs:=[_,_]) Tryz.func73 rfl rfl (Nat.le_of_ble_eq_true rfl) ?_
 refine zac ?_
 refine zaa ?_
 refine gk_y rfl rfl (zad rfl) ?_
 refine zag (zae (T':=[(0,_),(1,_),(4,_)]) ⟨rfl,rfl,rfl,trivial⟩ ?_)
 refine zac ?_
 refine zac ?_
 refine zaa ?_
 refine gk_y rfl rfl (zaf rfl) ?_
 refine gk_y rfl rfl (zaV (Tryz.underlying28) rfl) ?_
 refine gk_y rfl rfl (zaf rfl) ?_
 refine zag (zae (T':=[(0,_),(1,_),(4,_),(7,_),(8,_)]) ⟨rfl,rfl,rfl,rfl,rfl,trivial⟩ ?_)
 refine zas ?_
 refine zbf (X:=Int) (fun(i:Int)=>[(0,.slice a l.length cap),(1,.func (.func gg) gfs.toArray gcap.toArray),(4,.int .i64 0),(7,.int .i64 (l.length:Int)),(8,.int .i64 i)]) (fun(i:Int)=>[]) (fun(i:Int)=>(0≤i∧i≤l.length∧∀ j:Nat,(j:Int) < i→f (l.getD j default)=false)) (fun(i:Int)=>(l.length - i).toNat) 0 ⟨rfl,rfl,rfl,rfl,rfl,trivial⟩ rfl ?_ ?_
 ·exact⟨by omega,by omega,fun j hj=>by omega⟩
 ·rintro i hI
  obtain⟨g0,g1,g2⟩:=hI
  refine zac ?_
  refine zaa ?_
  refine gk_y rfl rfl (zbw rfl rfl) ?_
  refine zag (zae (T':=[(0,_),(1,_),(4,_),(7,_),(8,_),(9,_)]) ⟨rfl,rfl,rfl,rfl,rfl,rfl,trivial⟩ ?_)
  refine zac ?_
  refine zap rfl (fun hc9=>?_) (fun hc9=>?_)
  ·simp only [decide_eq_true_eq] at hc9
   refine zaq ?_
   refine zac ?_
   refine zas ?_
   refine zac ?_
   refine zaa ?_
   refine gk_y rfl rfl (zaf rfl) ?_
   refine gk_y rfl rfl (zad rfl) ?_
   refine zag (zae (T':=[(0,_),(1,_),(4,_),(5,_),(7,_),(8,_)]) ⟨rfl,rfl,rfl,rfl,rfl,rfl,trivial⟩ ?_)
   refine zac ?_
   refine zaa ?_
   refine gk_y rfl rfl (zaf rfl) ?_
   refine gk_y rfl rfl (zaf rfl) ?_
   refine gk_y rfl rfl (zaf rfl) ?_
   refine gk_y rfl rfl (zaE se28 rfl rfl (fun _ hw=>(Rd.has (Has.rd hl) hw)) (by omega) (by omega)) ?_
   refine gk_y rfl rfl (zbv (vs:=[_,_,_,_,_,_,_,_,_,_,_,_,_,_,_,_,_,_,_,_]) tf41 rfl (fun _ hw=>(Rd.has (Has.rd hl) hw)) (by omega) (by omega) rfl) ?_
   refine gk_y rfl rfl (zde (fs:=gfs) (cap:=gcap) hen rfl rfl (fun w hw=>hg (l.getD (i).toNat default) w (hM _ hw.base.ext0))) ?_
   refine zag (zae (T':=[(0,_),(1,_),(4,_),(5,_),(7,_),(8,_),(16,_)]) ⟨rfl,rfl,rfl,rfl,rfl,rfl,rfl,trivial⟩ ?_)
   refine zap rfl (fun hc16=>?_) (fun hc16=>?_)
   ·
    refine zac ?_
    refine zaa ?_
    refine gk_y rfl rfl (zaf rfl) ?_
    refine gk_y rfl rfl (zad rfl) ?_
    refine zag (zae (T':=[(0,_),(1,_),(4,_),(7,_),(8,_)]) ⟨rfl,rfl,rfl,rfl,rfl,trivial⟩ ?_)
    refine zaw ?_
    refine zay (zaC rfl (zau rfl)) ?_
    exact congrArg _ (zcs g0 (by omega) g2 hc16).symm
   ·
    refine zaq ?_
    refine zaa ?_
    refine gk_y rfl rfl (zaY rfl rfl (by omega) (by omega)) ?_
    refine gk_y rfl rfl (zaf rfl) ?_
    refine zag (zae (T':=[(0,_),(1,_),(4,_),(7,_),(8,_)]) ⟨rfl,rfl,rfl,rfl,rfl,trivial⟩ ?_)
    exact za1 _ ⟨rfl,rfl,rfl,rfl,rfl,trivial⟩ rfl ⟨by omega,by omega,fun j hj=>if h:(j:Int) < i then g2 j h else(by rw [show j=i.toNat from by omega]; exact hc16)⟩ (by omega)
  ·simp only [decide_eq_false_iff_not] at hc9
   refine za8 rfl ?_
   refine zac ?_
   refine zaa ?_
   refine gk_y rfl rfl (zad rfl) ?_
   refine zag (zae (T':=[(4,_)]) ⟨rfl,trivial⟩ ?_)
   refine zaw ?_
   refine zay (zaC rfl (zau rfl)) ?_
   exact congrArg _ (zck (fun j hj=>g2 j (by omega))).symm
set_option maxRecDepth 100000 in
set_option maxHeartbeats 1000000 in
theorem zle (a:Option Addr) (cap:Nat) (l:List WlC) (f:WlC→Bool) (gg:FuncId) (gfs gcap:List Value) (w:World) (hl:Has w (zaW a 4 zbS l)) (hs:zaP l.length) (M:World→Prop) (hM:∀ w',Ext w w'→M w') (hen:En Tryz.prog gg) (hg:∀ (z:WlC) w',M w'→Calls Tryz.prog gg (gfs++[Value.agg #[.string z.s.name,.string z.s.sheet,.int .i64 z.s.length,.slice z.a z.s.opens.length z.cap]]++gcap).toArray w' (Pure (.bool (f z)) w')) :
  Calls Tryz.prog 75 #[.slice a l.length cap,.func (.func gg) gfs.toArray gcap.toArray] w (Pure (.int .i64 (zbJ f l)) w):=by
 refine zan (vs:=[_,_]) Tryz.func75 rfl rfl (Nat.le_of_ble_eq_true rfl) ?_
 refine zac ?_
 refine zaa ?_
 refine gk_y rfl rfl (zad rfl) ?_
 refine zag (zae (T':=[(0,_),(1,_),(4,_)]) ⟨rfl,rfl,rfl,trivial⟩ ?_)
 refine zac ?_
 refine zac ?_
 refine zaa ?_
 refine gk_y rfl rfl (zaf rfl) ?_
 refine gk_y rfl rfl (zaV (Tryz.underlying29) rfl) ?_
 refine gk_y rfl rfl (zaf rfl) ?_
 refine zag (zae (T':=[(0,_),(1,_),(4,_),(7,_),(8,_)]) ⟨rfl,rfl,rfl,rfl,rfl,trivial⟩ ?_)
 refine zas ?_
 refine zbf (X:=Int) (fun(i:Int)=>[(0,.slice a l.length cap),(1,.func (.func gg) gfs.toArray gcap.toArray),(4,.int .i64 0),(7,.int .i64 (l.length:Int)),(8,.int .i64 i)]) (fun(i:Int)=>[]) (fun(i:Int)=>(0≤i∧i≤l.length∧∀ j:Nat,(j:Int) < i→f (l.getD j default)=false)) (fun(i:Int)=>(l.length - i).toNat) 0 ⟨rfl,rfl,rfl,rfl,rfl,trivial⟩ rfl ?_ ?_
 ·exact⟨by omega,by omega,fun j hj=>by omega⟩
 ·rintro i hI
  obtain⟨g0,g1,g2⟩:=hI
  refine zac ?_
  refine zaa ?_
  refine gk_y rfl rfl (zbw rfl rfl) ?_
  refine zag (zae (T':=[(0,_),(1,_),(4,_),(7,_),(8,_),(9,_)]) ⟨rfl,rfl,rfl,rfl,rfl,rfl,trivial⟩ ?_)
  refine zac ?_
  refine zap rfl (fun hc9=>?_) (fun hc9=>?_)
  ·simp only [decide_eq_true_eq] at hc9
   refine zaq ?_
   refine zac ?_
   refine zas ?_
   refine zac ?_
   refine zaa ?_
   refine gk_y rfl rfl (zaf rfl) ?_
   refine gk_y rfl rfl (zad rfl) ?_
   refine zag (zae (T':=[(0,_),(1,_),(4,_),(5,_),(7,_),(8,_)]) ⟨rfl,rfl,rfl,rfl,rfl,rfl,trivial⟩ ?_)
   refine zac ?_
   refine zaa ?_
   refine gk_y rfl rfl (zaf rfl) ?_
   refine gk_y rfl rfl (zaf rfl) ?_
   refine gk_y rfl rfl (zaf rfl) ?_
   refine gk_y rfl rfl (zaE se29 rfl rfl (fun _ hw=>(Rd.has (Has.rd hl) hw)) (by omega) (by omega)) ?_
   refine gk_y rfl rfl (zbv (vs:=[_,_,_,_]) tf94 rfl (fun _ hw=>(Rd.has (Has.rd hl) hw)) (by omega) (by omega) rfl) ?_
   refine gk_y rfl rfl (zde (fs:=gfs) (cap:=gcap) hen rfl rfl (fun w hw=>hg (l.getD (i).toNat default) w (hM _ hw.base.ext0))) ?_
   refine zag (zae (T':=[(0,_),(1,_),(4,_),(5,_),(7,_),(8,_),(16,_)]) ⟨rfl,rfl,rfl,rfl,rfl,rfl,rfl,trivial⟩ ?_)
   refine zap rfl (fun hc16=>?_) (fun hc16=>?_)
   ·
    refine zac ?_
    refine zaa ?_
    refine gk_y rfl rfl (zaf rfl) ?_
    refine gk_y rfl rfl (zad rfl) ?_
    refine zag (zae (T':=[(0,_),(1,_),(4,_),(7,_),(8,_)]) ⟨rfl,rfl,rfl,rfl,rfl,trivial⟩ ?_)
    refine zaw ?_
    refine zay (zaC rfl (zau rfl)) ?_
    exact congrArg _ (zcs g0 (by omega) g2 hc16).symm
   ·
    refine zaq ?_
    refine zaa ?_
    refine gk_y rfl rfl (zaY rfl rfl (by omega) (by omega)) ?_
    refine gk_y rfl rfl (zaf rfl) ?_
    refine zag (zae (T':=[(0,_),(1,_),(4,_),(7,_),(8,_)]) ⟨rfl,rfl,rfl,rfl,rfl,trivial⟩ ?_)
    exact za1 _ ⟨rfl,rfl,rfl,rfl,rfl,trivial⟩ rfl ⟨by omega,by omega,fun j hj=>if h:(j:Int) < i then g2 j h else(by rw [show j=i.toNat from by omega]; exact hc16)⟩ (by omega)
  ·simp only [decide_eq_false_iff_not] at hc9
   refine za8 rfl ?_
   refine zac ?_
   refine zaa ?_
   refine gk_y rfl rfl (zad rfl) ?_
   refine zag (zae (T':=[(4,_)]) ⟨rfl,trivial⟩ ?_)
   refine zaw ?_
   refine zay (zaC rfl (zau rfl)) ?_
   exact congrArg _ (zck (fun j hj=>g2 j (by omega))).symm
set_option maxRecDepth 100000 in
set_option maxHeartbeats 1000000 in
theorem zla (a:Option Addr) (cap:Nat) (l:List Crs) (f:Crs→Bool) (gg:FuncId) (gfs gcap:List Value) (w:World) (hl:Has w (zaW a 2 zbq l)) (hs:zaP l.length) (M:World→Prop) (hM:∀ w',Ext w w'→M w') (hen:En Tryz.prog gg) (hg:∀ (z:Crs) w',M w'→Calls Tryz.prog gg (gfs++[Value.agg #[.int .i64 z.frm,.int .i64 z.to]]++gcap).toArray w' (Pure (.bool (f z)) w')) :
  Calls Tryz.prog 97 #[.slice a l.length cap,.func (.func gg) gfs.toArray gcap.toArray] w (Pure (.int .i64 (zbJ f l)) w):=by
 refine zan (vs:=[_,_]) Tryz.func97 rfl rfl (Nat.le_of_ble_eq_true rfl) ?_
 refine zac ?_
 refine zaa ?_
 refine gk_y rfl rfl (zad rfl) ?_
 refine zag (zae (T':=[(0,_),(1,_),(4,_)]) ⟨rfl,rfl,rfl,trivial⟩ ?_)
 refine zac ?_
 refine zac ?_
 refine zaa ?_
 refine gk_y rfl rfl (zaf rfl) ?_
 refine gk_y rfl rfl (zaV (Tryz.underlying38) rfl) ?_
 refine gk_y rfl rfl (zaf rfl) ?_
 refine zag (zae (T':=[(0,_),(1,_),(4,_),(7,_),(8,_)]) ⟨rfl,rfl,rfl,rfl,rfl,trivial⟩ ?_)
 refine zas ?_
 refine zbf (X:=Int) (fun(i:Int)=>[(0,.slice a l.length cap),(1,.func (.func gg) gfs.toArray gcap.toArray),(4,.int .i64 0),(7,.int .i64 (l.length:Int)),(8,.int .i64 i)]) (fun(i:Int)=>[]) (fun(i:Int)=>(0≤i∧i≤l.length∧∀ j:Nat,(j:Int) < i→f (l.getD j default)=false)) (fun(i:Int)=>(l.length - i).toNat) 0 ⟨rfl,rfl,rfl,rfl,rfl,trivial⟩ rfl ?_ ?_
 ·exact⟨by omega,by omega,fun j hj=>by omega⟩
 ·rintro i hI
  obtain⟨g0,g1,g2⟩:=hI
  refine zac ?_
  refine zaa ?_
  refine gk_y rfl rfl (zbw rfl rfl) ?_
  refine zag (zae (T':=[(0,_),(1,_),(4,_),(7,_),(8,_),(9,_)]) ⟨rfl,rfl,rfl,rfl,rfl,rfl,trivial⟩ ?_)
  refine zac ?_
  refine zap rfl (fun hc9=>?_) (fun hc9=>?_)
  ·simp only [decide_eq_true_eq] at hc9
   refine zaq ?_
   refine zac ?_
   refine zas ?_
   refine zac ?_
   refine zaa ?_
   refine gk_y rfl rfl (zaf rfl) ?_
   refine gk_y rfl rfl (zad rfl) ?_
   refine zag (zae (T':=[(0,_),(1,_),(4,_),(5,_),(7,_),(8,_)]) ⟨rfl,rfl,rfl,rfl,rfl,rfl,trivial⟩ ?_)
   refine zac ?_
   refine zaa ?_
   refine gk_y rfl rfl (zaf rfl) ?_
   refine gk_y rfl rfl (zaf rfl) ?_
   refine gk_y rfl rfl (zaf rfl) ?_
   refine gk_y rfl rfl (zaE se38 rfl rfl (fun _ hw=>(Rd.has (Has.rd hl) hw)) (by omega) (by omega)) ?_
   refine gk_y rfl rfl (zbv (vs:=[_,_]) tf49 rfl (fun _ hw=>(Rd.has (Has.rd hl) hw)) (by omega) (by omega) rfl) ?_
   refine gk_y rfl rfl (zde (fs:=gfs) (cap:=gcap) hen rfl rfl (fun w hw=>hg (l.getD (i).toNat default) w (hM _ hw.base.ext0))) ?_
   refine zag (zae (T':=[(0,_),(1,_),(4,_),(5,_),(7,_),(8,_),(16,_)]) ⟨rfl,rfl,rfl,rfl,rfl,rfl,rfl,trivial⟩ ?_)
   refine zap rfl (fun hc16=>?_) (fun hc16=>?_)
   ·
    refine zac ?_
    refine zaa ?_
    refine gk_y rfl rfl (zaf rfl) ?_
    refine gk_y rfl rfl (zad rfl) ?_
    refine zag (zae (T':=[(0,_),(1,_),(4,_),(7,_),(8,_)]) ⟨rfl,rfl,rfl,rfl,rfl,trivial⟩ ?_)
    refine zaw ?_
    refine zay (zaC rfl (zau rfl)) ?_
    exact congrArg _ (zcs g0 (by omega) g2 hc16).symm
   ·
    refine zaq ?_
    refine zaa ?_
    refine gk_y rfl rfl (zaY rfl rfl (by omega) (by omega)) ?_
    refine gk_y rfl rfl (zaf rfl) ?_
    refine zag (zae (T':=[(0,_),(1,_),(4,_),(7,_),(8,_)]) ⟨rfl,rfl,rfl,rfl,rfl,trivial⟩ ?_)
    exact za1 _ ⟨rfl,rfl,rfl,rfl,rfl,trivial⟩ rfl ⟨by omega,by omega,fun j hj=>if h:(j:Int) < i then g2 j h else(by rw [show j=i.toNat from by omega]; exact hc16)⟩ (by omega)
  ·simp only [decide_eq_false_iff_not] at hc9
   refine za8 rfl ?_
   refine zac ?_
   refine zaa ?_
   refine gk_y rfl rfl (zad rfl) ?_
   refine zag (zae (T':=[(4,_)]) ⟨rfl,trivial⟩ ?_)
   refine zaw ?_
   refine zay (zaC rfl (zau rfl)) ?_
   exact congrArg _ (zck (fun j hj=>g2 j (by omega))).symm
set_option maxRecDepth 100000 in
set_option maxHeartbeats 1000000 in
theorem zk9 (a:Option Addr) (cap:Nat) (l:List Crs) (f:Crs→Bool) (gg:FuncId) (gfs gcap:List Value) (w:World) (hl:Has w (zaW a 2 zbq l)) (hs:zaP l.length) (M:World→Prop) (hM:∀ w',Ext w w'→M w') (hen:En Tryz.prog gg) (hg:∀ (z:Crs) w',M w'→Calls Tryz.prog gg (gfs++[Value.agg #[.int .i64 z.frm,.int .i64 z.to]]++gcap).toArray w' (Pure (.bool (f z)) w')) :
  Calls Tryz.prog 121 #[.slice a l.length cap,.func (.func gg) gfs.toArray gcap.toArray] w (Pure (.int .i64 (zbJ f l)) w):=by
 refine zan (vs:=[_,_]) Tryz.func121 rfl rfl (Nat.le_of_ble_eq_true rfl) ?_
 refine zac ?_
 refine zaa ?_
 refine gk_y rfl rfl (zad rfl) ?_
 refine zag (zae (T':=[(0,_),(1,_),(4,_)]) ⟨rfl,rfl,rfl,trivial⟩ ?_)
 refine zac ?_
 refine zac ?_
 refine zaa ?_
 refine gk_y rfl rfl (zaf rfl) ?_
 refine gk_y rfl rfl (zaV (Tryz.underlying59) rfl) ?_
 refine gk_y rfl rfl (zaf rfl) ?_
 refine zag (zae (T':=[(0,_),(1,_),(4,_),(7,_),(8,_)]) ⟨rfl,rfl,rfl,rfl,rfl,trivial⟩ ?_)
 refine zas ?_
 refine zbf (X:=Int) (fun(i:Int)=>[(0,.slice a l.length cap),(1,.func (.func gg) gfs.toArray gcap.toArray),(4,.int .i64 0),(7,.int .i64 (l.length:Int)),(8,.int .i64 i)]) (fun(i:Int)=>[]) (fun(i:Int)=>(0≤i∧i≤l.length∧∀ j:Nat,(j:Int) < i→f (l.getD j default)=false)) (fun(i:Int)=>(l.length - i).toNat) 0 ⟨rfl,rfl,rfl,rfl,rfl,trivial⟩ rfl ?_ ?_
 ·exact⟨by omega,by omega,fun j hj=>by omega⟩
 ·rintro i hI
  obtain⟨g0,g1,g2⟩:=hI
  refine zac ?_
  refine zaa ?_
  refine gk_y rfl rfl (zbw rfl rfl) ?_
  refine zag (zae (T':=[(0,_),(1,_),(4,_),(7,_),(8,_),(9,_)]) ⟨rfl,rfl,rfl,rfl,rfl,rfl,trivial⟩ ?_)
  refine zac ?_
  refine zap rfl (fun hc9=>?_) (fun hc9=>?_)
  ·simp only [decide_eq_true_eq] at hc9
   refine zaq ?_
   refine zac ?_
   refine zas ?_
   refine zac ?_
   refine zaa ?_
   refine gk_y rfl rfl (zaf rfl) ?_
   refine gk_y rfl rfl (zad rfl) ?_
   refine zag (zae (T':=[(0,_),(1,_),(4,_),(5,_),(7,_),(8,_)]) ⟨rfl,rfl,rfl,rfl,rfl,rfl,trivial⟩ ?_)
   refine zac ?_
   refine zaa ?_
   refine gk_y rfl rfl (zaf rfl) ?_
   refine gk_y rfl rfl (zaf rfl) ?_
   refine gk_y rfl rfl (zaf rfl) ?_
   refine gk_y rfl rfl (zaE se59 rfl rfl (fun _ hw=>(Rd.has (Has.rd hl) hw)) (by omega) (by omega)) ?_
   refine gk_y rfl rfl (zbv (vs:=[_,_]) tf69 rfl (fun _ hw=>(Rd.has (Has.rd hl) hw)) (by omega) (by omega) rfl) ?_
   refine gk_y rfl rfl (zde (fs:=gfs) (cap:=gcap) hen rfl rfl (fun w hw=>hg (l.getD (i).toNat default) w (hM _ hw.base.ext0))) ?_
   refine zag (zae (T':=[(0,_),(1,_),(4,_),(5,_),(7,_),(8,_),(16,_)]) ⟨rfl,rfl,rfl,rfl,rfl,rfl,rfl,trivial⟩ ?_)
   refine zap rfl (fun hc16=>?_) (fun hc16=>?_)
   ·
    refine zac ?_
    refine zaa ?_
    refine gk_y rfl rfl (zaf rfl) ?_
    refine gk_y rfl rfl (zad rfl) ?_
    refine zag (zae (T':=[(0,_),(1,_),(4,_),(7,_),(8,_)]) ⟨rfl,rfl,rfl,rfl,rfl,trivial⟩ ?_)
    refine zaw ?_
    refine zay (zaC rfl (zau rfl)) ?_
    exact congrArg _ (zcs g0 (by omega) g2 hc16).symm
   ·
    refine zaq ?_
    refine zaa ?_
    refine gk_y rfl rfl (zaY rfl rfl (by omega) (by omega)) ?_
    refine gk_y rfl rfl (zaf rfl) ?_
    refine zag (zae (T':=[(0,_),(1,_),(4,_),(7,_),(8,_)]) ⟨rfl,rfl,rfl,rfl,rfl,trivial⟩ ?_)
    exact za1 _ ⟨rfl,rfl,rfl,rfl,rfl,trivial⟩ rfl ⟨by omega,by omega,fun j hj=>if h:(j:Int) < i then g2 j h else(by rw [show j=i.toNat from by omega]; exact hc16)⟩ (by omega)
  ·simp only [decide_eq_false_iff_not] at hc9
   refine za8 rfl ?_
   refine zac ?_
   refine zaa ?_
   refine gk_y rfl rfl (zad rfl) ?_
   refine zag (zae (T':=[(4,_)]) ⟨rfl,trivial⟩ ?_)
   refine zaw ?_
   refine zay (zaC rfl (zau rfl)) ?_
   exact congrArg _ (zck (fun j hj=>g2 j (by omega))).symm
set_option maxRecDepth 100000 in
set_option maxHeartbeats 1000000 in
theorem zhO (a:Option Addr) (cap:Nat) (l:List Crs) (f:Crs→Bool) (gg:FuncId) (gfs gcap:List Value) (w:World) (hl:Has w (zaW a 2 zbq l)) (hs:zaP l.length) (M:World→Prop) (hM:∀ w',Ext w w'→M w') (hen:En Tryz.prog gg) (hg:∀ (z:Crs) w',M w'→Calls Tryz.prog gg (gfs++[Value.agg #[.int .i64 z.frm,.int .i64 z.to]]++gcap).toArray w' (Pure (.bool (f z)) w')) :
  Calls Tryz.prog 99 #[.slice a l.length cap,.func (.func gg) gfs.toArray gcap.toArray] w (Pure (.bool (l.any f)) w):=by
 refine zan (vs:=[_,_]) Tryz.func99 rfl rfl (Nat.le_of_ble_eq_true rfl) ?_
 refine zac ?_
 refine zaa ?_
 refine gk_y rfl rfl (zad rfl) ?_
 refine zag (zae (T':=[(0,_),(1,_),(4,_)]) ⟨rfl,rfl,rfl,trivial⟩ ?_)
 refine zac ?_
 refine zaa ?_
 refine gk_y rfl rfl (zaf rfl) ?_
 refine gk_y rfl rfl (zaf rfl) ?_
 refine gk_y rfl rfl (zaJ zw9 rfl (fun w hw=>zk9 _ _ l f _ _ _ w (Rd.has (Has.rd hl) hw) (by assumption) M (fun w' h=>hM w' (hw.base.ext0.trans h)) hen hg)) ?_
 refine gk_y rfl rfl (zfx rfl rfl) ?_
 refine gk_y rfl rfl (zad rfl) ?_
 refine zag (zae (T':=[(4,_)]) ⟨rfl,trivial⟩ ?_)
 refine zaw ?_
 refine zay (zaC rfl (zau rfl)) ?_
 rw [ze9]
set_option maxRecDepth 100000 in
set_option maxHeartbeats 1000000 in
theorem zsi (z:ShC) (n:ByteArray) (b:Nat) (w:World) (hb:Has w (Box b [.string n] 9)) :
  Calls Tryz.prog 74 #[.agg #[.string z.s.name,.int .i64 z.s.base,.int .i64 z.s.batter,.int .i64 z.s.height,.int .i64 z.s.skin,.slice z.a z.s.heights.length z.cap,.int .i64 z.s.least,.int .i64 z.s.lap,.int .i64 z.s.run,.int .i64 z.s.every,.int .i64 z.s.at_,.int .i64 z.s.footing,.int .i64 z.s.spread,.int .u8 z.s.cope,.int .i64 z.s.tall,.int .i64 z.s.short,.int .i64 z.s.thick,.int .i64 z.s.low,.int .i64 z.s.high,.int .i64 z.s.rood],.pointer (some ⟨b,0,none⟩)] w (Pure (.bool (z.s.name.toList == n.toList)) w):=by
 refine zan (vs:=[_,_]) Tryz.func74 rfl rfl (Nat.le_of_ble_eq_true rfl) ?_
 refine zac ?_
 refine zaa ?_
 refine zaG rfl rfl (za3 (vs:=[_,_,_,_,_,_,_,_,_,_,_,_,_,_,_,_,_,_,_,_]) rfl rfl) fun b2=>?_
 refine gk_y rfl rfl (zad rfl) ?_
 refine zag (zae (T':=[(1,_),(2,_),(3,_)]) ⟨rfl,rfl,rfl,trivial⟩ ?_)
 refine zac ?_
 refine zaa ?_
 refine gk_y rfl rfl (zab znb rfl) ?_
 refine gk_y rfl rfl (zah 0 tf9 rfl rfl rfl) ?_
 refine gk_y rfl rfl (zbW tf9 rfl (fun _ hw=>zaQ (Rd.has (Has.rd hb) hw) rfl)) ?_
 refine gk_y rfl rfl (zge rfl rfl) ?_
 refine gk_y rfl rfl (zad rfl) ?_
 refine zag (zae (T':=[(3,_)]) ⟨rfl,trivial⟩ ?_)
 refine zaw ?_
 refine zay (zaC rfl (zau rfl)) ?_
 rfl
set_option maxRecDepth 100000 in
set_option maxHeartbeats 1000000 in
theorem zuP (z:WlC) (n:ByteArray) (b:Nat) (w:World) (hb:Has w (Box b [.string n] 9)) :
  Calls Tryz.prog 76 #[.agg #[.string z.s.name,.string z.s.sheet,.int .i64 z.s.length,.slice z.a z.s.opens.length z.cap],.pointer (some ⟨b,0,none⟩)] w (Pure (.bool (z.s.name.toList == n.toList)) w):=by
 refine zan (vs:=[_,_]) Tryz.func76 rfl rfl (Nat.le_of_ble_eq_true rfl) ?_
 refine zac ?_
 refine zaa ?_
 refine zaG rfl rfl (za3 (vs:=[_,_,_,_]) rfl rfl) fun b2=>?_
 refine gk_y rfl rfl (zad rfl) ?_
 refine zag (zae (T':=[(1,_),(2,_),(3,_)]) ⟨rfl,rfl,rfl,trivial⟩ ?_)
 refine zac ?_
 refine zaa ?_
 refine gk_y rfl rfl (zab znh rfl) ?_
 refine gk_y rfl rfl (zah 0 tf9 rfl rfl rfl) ?_
 refine gk_y rfl rfl (zbW tf9 rfl (fun _ hw=>zaQ (Rd.has (Has.rd hb) hw) rfl)) ?_
 refine gk_y rfl rfl (zge rfl rfl) ?_
 refine gk_y rfl rfl (zad rfl) ?_
 refine zag (zae (T':=[(3,_)]) ⟨rfl,trivial⟩ ?_)
 refine zaw ?_
 refine zay (zaC rfl (zau rfl)) ?_
 rfl
set_option maxRecDepth 100000 in
set_option maxHeartbeats 1000000 in
theorem zeu (a:Option Addr) (cap:Nat) (S:List ShC) (b:Option Addr) (nw bcap:Nat) (n:ByteArray) (w:World) (hl:Has w (zaW a 20 zbH S)) (hs:zaP S.length) :
  Calls Tryz.prog 46 #[.agg #[.slice a S.length cap,.slice b nw bcap],.string n] w (Pure (.tuple #[.agg (zbH (zav S n)).toArray,.bool (decide (0≤zaS S n))]) w):=by
 have hlt:=fun h=>ziE (S:=S) (n:=n) h
 refine zan (vs:=[_,_]) Tryz.func46 rfl rfl (Nat.le_of_ble_eq_true rfl) ?_
 refine zac ?_
 refine zaa ?_
 refine zaG rfl rfl (za3 (vs:=[_,_]) rfl rfl) fun b2=>?_
 refine zaG rfl rfl (za3 (vs:=[_]) rfl rfl) fun b3=>?_
 refine zaG rfl rfl (zaL tf41 (zs:=[_,_,_,_,_,_,_,_,_,_,_,_,_,_,_,_,_,_,_,_]) rfl) fun b4=>?_
 refine gk_y rfl rfl (zad rfl) ?_
 refine zag (zae (T':=[(2,_),(3,_),(4,_),(5,_)]) ⟨rfl,rfl,rfl,rfl,trivial⟩ ?_)
 refine zac ?_
 refine zaa ?_
 refine gk_y rfl rfl (zab zeo rfl) ?_
 refine gk_y rfl rfl (zah 2 tf28 rfl rfl rfl) ?_
 refine gk_y rfl rfl (zbO («as»:=[]) (bs:=[_]) rfl rfl) ?_
 refine gk_y rfl rfl (zaJ en73 rfl (fun w hw=>show Calls _ _ _ w (Pure (.int .i64 (zaS S n)) w) from zld _ _ S (fun z=>z.s.name.toList == n.toList) 74 [] [.pointer (some ⟨b3,0,none⟩)] w (Rd.has (Has.rd hl) hw) (by assumption) (fun w'=>Has w' (Box b3 [.string n] 9)) (fun w' hx=>Has.ext (hw.has (p:=1) rfl) hx) en74 (fun z w' hm=>zsi z n b3 w' hm))) ?_
 refine gk_y rfl rfl (zad rfl) ?_
 refine zag (zae (T':=[(2,_),(4,_),(5,_),(6,_)]) ⟨rfl,rfl,rfl,rfl,trivial⟩ ?_)
 refine zac ?_
 refine zac ?_
 refine zaa ?_
 refine gk_y rfl rfl (zaf rfl) ?_
 refine gk_y rfl rfl (zbw rfl rfl) ?_
 refine zag (zae (T':=[(2,_),(4,_),(5,_),(6,_),(12,_)]) ⟨rfl,rfl,rfl,rfl,rfl,trivial⟩ ?_)
 refine zap rfl (fun hc12=>?_) (fun hc12=>?_)
 ·have h0:¬ 0≤zaS S n:=by have:=of_decide_eq_true hc12; omega
  refine zac ?_
  refine zaa ?_
  refine gk_y rfl rfl (zaI (parts:=[]) rfl ztl) ?_
  refine zbz 0 tf41 rfl rfl (vs:=[_,_,_,_,_,_,_,_,_,_,_,_,_,_,_,_,_,_,_,_]) rfl rfl rfl rfl rfl ?_
  refine gk_y rfl rfl (zad rfl) ?_
  refine zag (zae (T':=[(2,_),(4,_),(5,_),(6,_)]) ⟨rfl,rfl,rfl,rfl,trivial⟩ ?_)
  refine zaw ?_
  refine zay (zc2 rfl (zbU (i:=0) (vs:=[.string ⟨#[]⟩,.int .i64 0,.int .i64 0,.int .i64 0,.int .i64 0,.slice none 0 0,.int .i64 0,.int .i64 0,.int .i64 0,.int .i64 0,.int .i64 0,.int .i64 0,.int .i64 0,.int .u8 0,.int .i64 0,.int .i64 0,.int .i64 0,.int .i64 0,.int .i64 0,.int .i64 0]) tf41 rfl rfl rfl rfl) (zau rfl)) ?_
  rw [show zav S n=default from if_neg h0,decide_eq_false h0]; rfl
 ·have h0:0≤zaS S n:=by have:=of_decide_eq_false hc12; omega
  have h1:=hlt h0
  refine zaq ?_
  refine zac ?_
  refine zaa ?_
  refine gk_y rfl rfl (zab zeo rfl) ?_
  refine gk_y rfl rfl (zah 2 tf28 rfl rfl rfl) ?_
  refine gk_y rfl rfl (zaf rfl) ?_
  refine gk_y rfl rfl (zaE se28 rfl rfl (fun _ hw=>(Rd.has (Has.rd hl) hw)) (by omega) (by omega)) ?_
  refine gk_y rfl rfl (zbv (vs:=[_,_,_,_,_,_,_,_,_,_,_,_,_,_,_,_,_,_,_,_]) tf41 rfl (fun _ hw=>(Rd.has (Has.rd hl) hw)) (by omega) (by omega) rfl) ?_
  refine zbz 0 tf41 rfl rfl (vs:=[_,_,_,_,_,_,_,_,_,_,_,_,_,_,_,_,_,_,_,_]) rfl rfl rfl rfl rfl ?_
  refine gk_y rfl rfl (zad rfl) ?_
  refine zag (zae (T':=[(4,_),(5,_)]) ⟨rfl,rfl,trivial⟩ ?_)
  refine zaw ?_
  refine zay (zc2 rfl (zbU (i:=0) (vs:=[.string (S.getD ((zaS S n)).toNat default).s.name,.int .i64 ((S.getD ((zaS S n)).toNat default).s.base),.int .i64 ((S.getD ((zaS S n)).toNat default).s.batter),.int .i64 ((S.getD ((zaS S n)).toNat default).s.height),.int .i64 ((S.getD ((zaS S n)).toNat default).s.skin),.slice (S.getD ((zaS S n)).toNat default).a (S.getD ((zaS S n)).toNat default).s.heights.length (S.getD ((zaS S n)).toNat default).cap,.int .i64 ((S.getD ((zaS S n)).toNat default).s.least),.int .i64 ((S.getD ((zaS S n)).toNat default).s.lap),.int .i64 ((S.getD ((zaS S n)).toNat default).s.run),.int .i64 ((S.getD ((zaS S n)).toNat default).s.every),.int .i64 ((S.getD ((zaS S n)).toNat default).s.at_),.int .i64 ((S.getD ((zaS S n)).toNat default).s.footing),.int .i64 ((S.getD ((zaS S n)).toNat default).s.spread),.int .u8 (S.getD ((zaS S n)).toNat default).s.cope,.int .i64 ((S.getD ((zaS S n)).toNat default).s.tall),.int .i64 ((S.getD ((zaS S n)).toNat default).s.short),.int .i64 ((S.getD ((zaS S n)).toNat default).s.thick),.int .i64 ((S.getD ((zaS S n)).toNat default).s.low),.int .i64 ((S.getD ((zaS S n)).toNat default).s.high),.int .i64 ((S.getD ((zaS S n)).toNat default).s.rood)]) tf41 rfl rfl rfl rfl) (zau rfl)) ?_
  rw [show zav S n=S.getD (zaS S n).toNat default from if_pos h0,decide_eq_true h0]
set_option maxRecDepth 100000 in
set_option maxHeartbeats 1000000 in
theorem zkg (a:Option Addr) (ns cap:Nat) (b:Option Addr) (bcap:Nat) (V:List WlC) (n:ByteArray) (w:World) (hlw:Has w (zaW b 4 zbS V)) (hsw:zaP V.length) :
  Calls Tryz.prog 47 #[.agg #[.slice a ns cap,.slice b V.length bcap],.string n] w (Pure (.int .i64 (zaM V n)) w):=by
 refine zan (vs:=[_,_]) Tryz.func47 rfl rfl (Nat.le_of_ble_eq_true rfl) ?_
 refine zac ?_
 refine zaa ?_
 refine zaG rfl rfl (za3 (vs:=[_,_]) rfl rfl) fun b2=>?_
 refine zaG rfl rfl (za3 (vs:=[_]) rfl rfl) fun b3=>?_
 refine gk_y rfl rfl (zad rfl) ?_
 refine zag (zae (T':=[(2,_),(3,_),(4,_)]) ⟨rfl,rfl,rfl,trivial⟩ ?_)
 refine zac ?_
 refine zaa ?_
 refine gk_y rfl rfl (zab zd7 rfl) ?_
 refine gk_y rfl rfl (zah 1 tf29 rfl rfl rfl) ?_
 refine gk_y rfl rfl (zbO («as»:=[]) (bs:=[_]) rfl rfl) ?_
 refine gk_y rfl rfl (zaJ en75 rfl (fun w hw=>show Calls _ _ _ w (Pure (.int .i64 (zaM V n)) w) from zle _ _ V (fun z=>z.s.name.toList == n.toList) 76 [] [.pointer (some ⟨b3,0,none⟩)] w (Rd.has (Has.rd hlw) hw) (by assumption) (fun w'=>Has w' (Box b3 [.string n] 9)) (fun w' hx=>Has.ext (hw.has (p:=0) rfl) hx) en76 (fun z w' hm=>zuP z n b3 w' hm))) ?_
 refine gk_y rfl rfl (zad rfl) ?_
 refine zag (zae (T':=[(4,_)]) ⟨rfl,trivial⟩ ?_)
 refine zaw ?_
 refine zay (zaC rfl (zau rfl)) ?_
 rfl
set_option maxRecDepth 100000 in
set_option maxHeartbeats 1000000 in
theorem zvW (o:Opn) (b:Option Addr) (bcap:Nat) (v:Wll) (a:Option Addr) (cap:Nat) (s:Sht) (w:World) (hk:Knd o) (hlen:1≤v.length∧v.length≤100000) (hh:0≤s.height∧s.height≤3000) :
  Calls Tryz.prog 77 #[.agg #[.int .u8 o.kind,.int .i64 o.at_,.int .i64 o.width,.int .i64 o.frm,.int .i64 o.high],.agg #[.string v.name,.string v.sheet,.int .i64 v.length,.slice b v.opens.length bcap],.agg #[.string s.name,.int .i64 s.base,.int .i64 s.batter,.int .i64 s.height,.int .i64 s.skin,.slice a s.heights.length cap,.int .i64 s.least,.int .i64 s.lap,.int .i64 s.run,.int .i64 s.every,.int .i64 s.at_,.int .i64 s.footing,.int .i64 s.spread,.int .u8 s.cope,.int .i64 s.tall,.int .i64 s.short,.int .i64 s.thick,.int .i64 s.low,.int .i64 s.high,.int .i64 s.rood]] w (Pure (.bool (zfY v.length s.height o)) w):=by
 refine zan (vs:=[_,_,_]) Tryz.func77 rfl rfl (Nat.le_of_ble_eq_true rfl) ?_
 refine zac ?_
 refine zaa ?_
 refine zaG rfl rfl (za3 (vs:=[_,_,_,_,_]) rfl rfl) fun b3=>?_
 refine zaG rfl rfl (za3 (vs:=[_,_,_,_]) rfl rfl) fun b4=>?_
 refine zaG rfl rfl (za3 (vs:=[_,_,_,_,_,_,_,_,_,_,_,_,_,_,_,_,_,_,_,_]) rfl rfl) fun b5=>?_
 refine gk_y rfl rfl (zad rfl) ?_
 refine zag (zae (T':=[(3,_),(4,_),(5,_),(6,_)]) ⟨rfl,rfl,rfl,rfl,trivial⟩ ?_)
 refine zac ?_
 refine zac ?_
 refine zaa ?_
 refine gk_y rfl rfl (zab zpG rfl) ?_
 refine gk_y rfl rfl (zah 2 tf5 rfl rfl rfl) ?_
 refine gk_y rfl rfl (ziU (by kernel_rfl) (Tryz.underlying3) rfl) ?_
 refine gk_y rfl rfl (zaI rfl (zaF _ _ _)) ?_
 refine gk_y rfl rfl (zab zgo rfl) ?_
 refine gk_y rfl rfl (zah 1 tf3 rfl rfl rfl) ?_
 refine gk_y rfl rfl (zaI rfl (zaF _ _ _)) ?_
 refine gk_y rfl rfl (zab zji rfl) ?_
 refine gk_y rfl rfl (zah 2 tf3 rfl rfl rfl) ?_
 refine gk_y rfl rfl (zab zgo rfl) ?_
 refine gk_y rfl rfl (zah 1 tf3 rfl rfl rfl) ?_
 refine gk_y rfl rfl (zaI rfl (zaF _ _ _)) ?_
 refine gk_y rfl rfl (zab zhf rfl) ?_
 refine gk_y rfl rfl (zah 2 tf3 rfl rfl rfl) ?_
 refine gk_y rfl rfl (zab zgo rfl) ?_
 refine gk_y rfl rfl (zah 1 tf3 rfl rfl rfl) ?_
 refine gk_y rfl rfl (zab zji rfl) ?_
 refine gk_y rfl rfl (zah 2 tf3 rfl rfl rfl) ?_
 refine gk_y rfl rfl (ziW rfl rfl) ?_
 refine gk_y rfl rfl (zaI rfl (zaF _ _ _)) ?_
 refine gk_y rfl rfl (zab zhg rfl) ?_
 refine gk_y rfl rfl (zah 2 tf3 rfl rfl rfl) ?_
 refine gk_y rfl rfl (zab zep rfl) ?_
 refine gk_y rfl rfl (zah 0 tf3 rfl rfl rfl) ?_
 refine gk_y rfl rfl (zaI rfl (zaF _ _ _)) ?_
 refine gk_y rfl rfl (zab zfe rfl) ?_
 refine gk_y rfl rfl (zah 2 tf3 rfl rfl rfl) ?_
 refine gk_y rfl rfl (zab zep rfl) ?_
 refine gk_y rfl rfl (zah 0 tf3 rfl rfl rfl) ?_
 refine gk_y rfl rfl (zab zhg rfl) ?_
 refine gk_y rfl rfl (zah 2 tf3 rfl rfl rfl) ?_
 refine gk_y rfl rfl (ziW rfl rfl) ?_
 refine gk_y rfl rfl (zaI rfl (zaF _ _ _)) ?_
 refine zaG rfl rfl (zaD rfl (ztq _ _ _ _ _ _ _ _ _ _ _ _ _ _ _ _ _ _) zbM rfl) fun b41=>?_
 refine gk_y rfl rfl (zaJ en53 rfl (fun w hw=>zfT _ _ ([(⟨(IntKind.i64.wrap o.kind),1,4⟩:Lim),(⟨v.length,1,100000⟩:Lim),(⟨o.width,1,v.length⟩:Lim),(⟨o.at_,0,(IntKind.i64.wrap (v.length - o.width))⟩:Lim),(⟨o.high,1,s.height⟩:Lim),(⟨o.frm,0,(IntKind.i64.wrap (s.height - o.high))⟩:Lim)]) w (zam zbM (hw.has (p:=0) rfl)) (by simp [zaP]))) ?_
 refine gk_y rfl rfl (zbR rfl) ?_
 refine zag (zae (T':=[(3,_),(5,_),(6,_),(43,_)]) ⟨rfl,rfl,rfl,rfl,trivial⟩ ?_)
 refine zap rfl (fun hc43=>?_) (fun hc43=>?_)
 ·have hf:=ztO hk hlen hh hc43
  refine zac ?_
  refine zaa ?_
  refine gk_y rfl rfl (zad rfl) ?_
  refine zag (zae (T':=[(3,_),(5,_),(6,_)]) ⟨rfl,rfl,rfl,trivial⟩ ?_)
  refine zaw ?_
  refine zay (zaC rfl (zau rfl)) ?_
  rw [hf]
 ·have hf:=zrq hk hlen hh hc43
  have hF:=(zh4 hk hlen hh).1 (zll hc43)
  refine zaq ?_
  refine zac ?_
  refine zaa ?_
  refine gk_y rfl rfl (zab zfe rfl) ?_
  refine gk_y rfl rfl (zah 3 tf3 rfl rfl rfl) ?_
  refine gk_y rfl rfl (zab zhg rfl) ?_
  refine gk_y rfl rfl (zah 3 tf3 rfl rfl rfl) ?_
  refine gk_y rfl rfl (zaY rfl rfl (by omega) (by omega)) ?_
  refine gk_y rfl rfl (zab zep rfl) ?_
  refine gk_y rfl rfl (zah 1 tf3 rfl rfl rfl) ?_
  refine gk_y rfl rfl (zbL rfl rfl) ?_
  refine gk_y rfl rfl (zad rfl) ?_
  refine zag (zae (T':=[(3,_),(6,_),(7,_)]) ⟨rfl,rfl,rfl,trivial⟩ ?_)
  refine zac ?_
  refine zbb 20 (fun _=>mixed) (by kernel_rfl) ?_
  refine ph_y (zab zpG rfl) ?_
  refine ph_y (zah 3 tf5 rfl rfl rfl) ?_
  refine ph_y (zcr rfl rfl) ?_
  refine ph_y (zaf rfl) ?_
  refine zaz rfl rfl (fun hgd=>by(try rw [hgd]); exact(zaf rfl)) ?_
  refine ph_y (zaR rfl rfl rfl) ?_
  refine ph_y (zaf rfl) ?_
  refine zaH rfl rfl (fun hgd=>by(try rw [hgd]); exact(zab zpG rfl)) ?_
  refine zaH rfl rfl (fun hgd=>by(try rw [hgd]); exact(zah 3 tf5 rfl rfl rfl)) ?_
  refine zaH rfl rfl (fun hgd=>by(try rw [hgd]); exact(zcr rfl rfl)) ?_
  refine zaH rfl rfl (fun hgd=>by(try rw [hgd]); exact(zaf rfl)) ?_
  refine zc0 rfl rfl (fun hgd=>by(try rw [hgd]); exact(zaf rfl)) ?_
  refine zc0 rfl rfl (fun hgd=>by(try rw [hgd]); exact(zaf rfl)) ?_
  refine zdr rfl rfl (fun hgd=>by(try rw [hgd]); exact(zab zfe rfl)) ?_
  refine zdr rfl rfl (fun hgd=>by(try rw [hgd]); exact(zah 3 tf3 rfl rfl rfl)) ?_
  refine zdr rfl rfl (fun hgd=>by(try rw [hgd]); exact(zbL rfl rfl)) ?_
  refine zc0 rfl rfl (fun hgd=>by(try rw [hgd]); exact(zaX rfl rfl rfl)) ?_
  refine zaH rfl rfl (fun hgd=>by(try rw [hgd]); exact(zaR rfl rfl rfl)) ?_
  refine ph_y (zaX rfl rfl rfl) ?_
  refine ph_y (zad rfl) ?_
  refine zag (zae (T':=[(6,_)]) ⟨rfl,trivial⟩ ?_)
  refine zaw ?_
  refine zay (zaC rfl (zau rfl)) ?_
  rw [hf]
set_option maxRecDepth 100000 in
set_option maxHeartbeats 1000000 in
theorem zug (o p:Opn) (w:World)  :
  Calls Tryz.prog 79 #[.agg #[.int .u8 o.kind,.int .i64 o.at_,.int .i64 o.width,.int .i64 o.frm,.int .i64 o.high],.agg #[.int .u8 p.kind,.int .i64 p.at_,.int .i64 p.width,.int .i64 p.frm,.int .i64 p.high]] w (Pure (.bool (zhk o p)) w):=by
 refine zan (vs:=[_,_]) Tryz.func79 rfl rfl (Nat.le_of_ble_eq_true rfl) ?_
 refine zac ?_
 refine zaa ?_
 refine zaG rfl rfl (za3 (vs:=[_,_,_,_,_]) rfl rfl) fun b2=>?_
 refine zaG rfl rfl (za3 (vs:=[_,_,_,_,_]) rfl rfl) fun b3=>?_
 refine gk_y rfl rfl (zad rfl) ?_
 refine zag (zae (T':=[(2,_),(3,_),(4,_)]) ⟨rfl,rfl,rfl,trivial⟩ ?_)
 refine zac ?_
 refine zbb 39 (fun _=>mixed) (by kernel_rfl) ?_
 refine ph_y (zab zhf rfl) ?_
 refine ph_y (zah 1 tf3 rfl rfl rfl) ?_
 refine ph_y (zab zhf rfl) ?_
 refine ph_y (zah 0 tf3 rfl rfl rfl) ?_
 refine ph_y (zab zji rfl) ?_
 refine ph_y (zah 0 tf3 rfl rfl rfl) ?_
 refine ph_y (zfw rfl rfl) ?_
 refine ph_y (zbw rfl rfl) ?_
 refine ph_y (zaf rfl) ?_
 refine zaH rfl rfl (fun hgd=>by(try rw [hgd]); exact(zab zhf rfl)) ?_
 refine zaH rfl rfl (fun hgd=>by(try rw [hgd]); exact(zah 0 tf3 rfl rfl rfl)) ?_
 refine zaH rfl rfl (fun hgd=>by(try rw [hgd]); exact(zab zhf rfl)) ?_
 refine zaH rfl rfl (fun hgd=>by(try rw [hgd]); exact(zah 1 tf3 rfl rfl rfl)) ?_
 refine zaH rfl rfl (fun hgd=>by(try rw [hgd]); exact(zab zji rfl)) ?_
 refine zaH rfl rfl (fun hgd=>by(try rw [hgd]); exact(zah 1 tf3 rfl rfl rfl)) ?_
 refine zaH rfl rfl (fun hgd=>by(try rw [hgd]); exact(zfw rfl rfl)) ?_
 refine zaH rfl rfl (fun hgd=>by(try rw [hgd]); exact(zbw rfl rfl)) ?_
 refine ph_y (zaX rfl rfl rfl) ?_
 refine ph_y (zaf rfl) ?_
 refine zaH rfl rfl (fun hgd=>by(try rw [hgd]); exact(zab zfe rfl)) ?_
 refine zaH rfl rfl (fun hgd=>by(try rw [hgd]); exact(zah 1 tf3 rfl rfl rfl)) ?_
 refine zaH rfl rfl (fun hgd=>by(try rw [hgd]); exact(zab zfe rfl)) ?_
 refine zaH rfl rfl (fun hgd=>by(try rw [hgd]); exact(zah 0 tf3 rfl rfl rfl)) ?_
 refine zaH rfl rfl (fun hgd=>by(try rw [hgd]); exact(zab zhg rfl)) ?_
 refine zaH rfl rfl (fun hgd=>by(try rw [hgd]); exact(zah 0 tf3 rfl rfl rfl)) ?_
 refine zaH rfl rfl (fun hgd=>by(try rw [hgd]); exact(zfw rfl rfl)) ?_
 refine zaH rfl rfl (fun hgd=>by(try rw [hgd]); exact(zbw rfl rfl)) ?_
 refine ph_y (zaX rfl rfl rfl) ?_
 refine ph_y (zaf rfl) ?_
 refine zaH rfl rfl (fun hgd=>by(try rw [hgd]); exact(zab zfe rfl)) ?_
 refine zaH rfl rfl (fun hgd=>by(try rw [hgd]); exact(zah 0 tf3 rfl rfl rfl)) ?_
 refine zaH rfl rfl (fun hgd=>by(try rw [hgd]); exact(zab zfe rfl)) ?_
 refine zaH rfl rfl (fun hgd=>by(try rw [hgd]); exact(zah 1 tf3 rfl rfl rfl)) ?_
 refine zaH rfl rfl (fun hgd=>by(try rw [hgd]); exact(zab zhg rfl)) ?_
 refine zaH rfl rfl (fun hgd=>by(try rw [hgd]); exact(zah 1 tf3 rfl rfl rfl)) ?_
 refine zaH rfl rfl (fun hgd=>by(try rw [hgd]); exact(zfw rfl rfl)) ?_
 refine zaH rfl rfl (fun hgd=>by(try rw [hgd]); exact(zbw rfl rfl)) ?_
 refine ph_y (zaX rfl rfl rfl) ?_
 refine ph_y (zad rfl) ?_
 refine zag (zae (T':=[(4,_)]) ⟨rfl,trivial⟩ ?_)
 refine zaw ?_
 refine zay (zaC rfl (zau rfl)) ?_
 rfl
set_option maxRecDepth 100000 in
set_option maxHeartbeats 4000000 in
theorem zmI (b:Option Addr) (bcap:Nat) (v:Wll) (a:Option Addr) (cap:Nat) (s:Sht) (w:World) (hv:Has w (zaW b 5 zba v.opens)) (hcap:v.opens.length≤bcap) (hsv:zaP v.opens.length) (hkn:∀ o∈v.opens,Knd o) (hh:0≤s.height∧s.height≤3000) :
  Calls Tryz.prog 48 #[.agg #[.string v.name,.string v.sheet,.int .i64 v.length,.slice b v.opens.length bcap],.agg #[.string s.name,.int .i64 s.base,.int .i64 s.batter,.int .i64 s.height,.int .i64 s.skin,.slice a s.heights.length cap,.int .i64 s.least,.int .i64 s.lap,.int .i64 s.run,.int .i64 s.every,.int .i64 s.at_,.int .i64 s.footing,.int .i64 s.spread,.int .u8 s.cope,.int .i64 s.tall,.int .i64 s.short,.int .i64 s.thick,.int .i64 s.low,.int .i64 s.high,.int .i64 s.rood]] w (Pure (.bool (zd1 s.height v)) w):=by
 refine zan (vs:=[_,_]) Tryz.func48 rfl rfl (Nat.le_of_ble_eq_true rfl) ?_
 refine zac ?_
 refine zaa ?_
 refine zaG rfl rfl (za3 (vs:=[_,_,_,_]) rfl rfl) fun b2=>?_
 refine zaG rfl rfl (za3 (vs:=[_,_,_,_,_,_,_,_,_,_,_,_,_,_,_,_,_,_,_,_]) rfl rfl) fun b3=>?_
 refine gk_y rfl rfl (zad rfl) ?_
 refine zag (zae (T':=[(2,_),(3,_),(4,_)]) ⟨rfl,rfl,rfl,trivial⟩ ?_)
 refine zih (X:=Unit) (fun _=>[(2,.pointer (some ⟨b2,0,none⟩)),(3,.pointer (some ⟨b3,0,none⟩))]) (fun _=>[Box b3 [.string s.name,.int .i64 s.base,.int .i64 s.batter,.int .i64 s.height,.int .i64 s.skin,.slice a s.heights.length cap,.int .i64 s.least,.int .i64 s.lap,.int .i64 s.run,.int .i64 s.every,.int .i64 s.at_,.int .i64 s.footing,.int .i64 s.spread,.int .u8 s.cope,.int .i64 s.tall,.int .i64 s.short,.int .i64 s.thick,.int .i64 s.low,.int .i64 s.high,.int .i64 s.rood] 41,Box b2 [.string v.name,.string v.sheet,.int .i64 v.length,.slice b v.opens.length bcap] 94]) (fun _=>zfP v=true) ?_ ?_
 ·
  refine zac ?_
  refine zaa ?_
  refine gk_y rfl rfl (zab znh rfl) ?_
  refine gk_y rfl rfl (zah 1 tf9 rfl rfl rfl) ?_
  refine gk_y rfl rfl (zaJ en55 rfl (fun w hw=>zmo _ w)) ?_
  refine gk_y rfl rfl (zbR rfl) ?_
  refine gk_y rfl rfl (zaf rfl) ?_
  refine zai rfl rfl rfl rfl (fun hg11=>?_) (fun hg11=>?_)
  ·replace hg11:_=false:=hg11
   try rw [hg11]
   refine gk_y rfl rfl (zab zgo rfl) ?_
   refine zai rfl rfl rfl rfl (fun _=>?_) (fun h=>absurd h (by decide))
   refine gk_y rfl rfl (zah 1 tf3 rfl rfl rfl) ?_
   refine zai rfl rfl rfl rfl (fun _=>?_) (fun h=>absurd h (by decide))
   refine gk_y rfl rfl (zaI rfl (zaF _ _ _)) ?_
   refine zai rfl rfl rfl rfl (fun _=>?_) (fun h=>absurd h (by decide))
   refine gk_y rfl rfl (zab zhe rfl) ?_
   refine zai rfl rfl rfl rfl (fun _=>?_) (fun h=>absurd h (by decide))
   refine gk_y rfl rfl (zah 1 tf92 rfl rfl rfl) ?_
   refine zai rfl rfl rfl rfl (fun _=>?_) (fun h=>absurd h (by decide))
   refine gk_y rfl rfl (zaV (Tryz.underlying92) rfl) ?_
   refine zai rfl rfl rfl rfl (fun _=>?_) (fun h=>absurd h (by decide))
   refine gk_y rfl rfl (zaI rfl (zaF _ _ _)) ?_
   refine zai rfl rfl rfl rfl (fun _=>?_) (fun h=>absurd h (by decide))
   refine zaG rfl rfl (zaD rfl (zlS _ _ _ _ _ _) zbM rfl) fun b19=>?_
   refine zai rfl rfl rfl rfl (fun _=>?_) (fun h=>absurd h (by decide))
   refine gk_y rfl rfl (zaJ en53 rfl (fun w hw=>zfT _ _ ([(⟨v.length,1,100000⟩:Lim),(⟨(v.opens.length:Int),0,20⟩:Lim)]) w (zam zbM (hw.has (p:=0) rfl)) (by simp [zaP]))) ?_
   refine zai rfl rfl rfl rfl (fun _=>?_) (fun h=>absurd h (by decide))
   refine gk_y rfl rfl (zbR rfl) ?_
   refine gk_y rfl rfl (za5 rfl rfl rfl) ?_
   refine zag (zae (T':=[(2,_),(3,_),(4,_),(22,_)]) ⟨rfl,rfl,rfl,rfl,trivial⟩ ?_)
   refine zap rfl (fun hc22=>?_) (fun hc22=>?_)
   ·have hw0:zfP v=false:=by rw [zmJ]; rw [show(!zhr _)=true from hc22]; simp
    refine zac ?_
    refine zaa ?_
    refine gk_y rfl rfl (zad rfl) ?_
    refine zag (zae (T':=[(2,_),(3,_),(4,_)]) ⟨rfl,rfl,rfl,trivial⟩ ?_)
    refine zaw ?_
    refine zay (zaC rfl (zau rfl)) ?_
    rw [zkz hw0]
   ·have hw0:zfP v=true:=by rw [zmJ]; rw [show(!zgx _)=false from hg11,show(!zhr _)=false from hc22]; rfl
    refine zaq ?_
    refine zaK 0 rfl ?_
    exact zb9 () ⟨rfl,rfl,trivial⟩ rfl hw0
  ·replace hg11:_=true:=hg11
   try rw [hg11]
   refine zai rfl rfl rfl rfl (fun h=>absurd h (by decide)) (fun _=>?_)
   refine zai rfl rfl rfl rfl (fun h=>absurd h (by decide)) (fun _=>?_)
   refine zai rfl rfl rfl rfl (fun h=>absurd h (by decide)) (fun _=>?_)
   refine zai rfl rfl rfl rfl (fun h=>absurd h (by decide)) (fun _=>?_)
   refine zai rfl rfl rfl rfl (fun h=>absurd h (by decide)) (fun _=>?_)
   refine zai rfl rfl rfl rfl (fun h=>absurd h (by decide)) (fun _=>?_)
   refine zai rfl rfl rfl rfl (fun h=>absurd h (by decide)) (fun _=>?_)
   refine zai rfl rfl rfl rfl (fun h=>absurd h (by decide)) (fun _=>?_)
   refine zai rfl rfl rfl rfl (fun h=>absurd h (by decide)) (fun _=>?_)
   refine gk_y rfl rfl (za5 rfl rfl rfl) ?_
   refine zag (zae (T':=[(2,_),(3,_),(4,_),(22,_)]) ⟨rfl,rfl,rfl,rfl,trivial⟩ ?_)
   refine zdg rfl ?_
   refine zac ?_
   refine zaa ?_
   refine gk_y rfl rfl (zad rfl) ?_
   refine zag (zae (T':=[(2,_),(3,_),(4,_)]) ⟨rfl,rfl,rfl,trivial⟩ ?_)
   refine zaw ?_
   refine zay (zaC rfl (zau rfl)) ?_
   rw [zkz (by rw [zmJ,show(!zgx _)=true from hg11]; rfl)]
 ·rintro _ hJ
  have hlen:=(zgM hJ).1
  refine zac ?_
  refine zac ?_
  refine zaa ?_
  refine gk_y rfl rfl (zab zhe rfl) ?_
  refine gk_y rfl rfl (zah 1 tf92 rfl rfl rfl) ?_
  refine gk_y rfl rfl (zaV (Tryz.underlying92) rfl) ?_
  refine gk_y rfl rfl (zaf rfl) ?_
  refine zag (zae (T':=[(2,_),(3,_),(24,_),(25,_),(26,_)]) ⟨rfl,rfl,rfl,rfl,rfl,trivial⟩ ?_)
  refine zas ?_
  refine zbf (X:=Int) (fun(i:Int)=>[(2,.pointer (some ⟨b2,0,none⟩)),(3,.pointer (some ⟨b3,0,none⟩)),(24,.slice b v.opens.length bcap),(25,.int .i64 (v.opens.length:Int)),(26,.int .i64 i)]) (fun(i:Int)=>[Box b3 [.string s.name,.int .i64 s.base,.int .i64 s.batter,.int .i64 s.height,.int .i64 s.skin,.slice a s.heights.length cap,.int .i64 s.least,.int .i64 s.lap,.int .i64 s.run,.int .i64 s.every,.int .i64 s.at_,.int .i64 s.footing,.int .i64 s.spread,.int .u8 s.cope,.int .i64 s.tall,.int .i64 s.short,.int .i64 s.thick,.int .i64 s.low,.int .i64 s.high,.int .i64 s.rood] 41,Box b2 [.string v.name,.string v.sheet,.int .i64 v.length,.slice b v.opens.length bcap] 94]) (fun(i:Int)=>(0≤i∧i≤v.opens.length∧∀ j:Nat,(j:Int) < i→zcI s.height v j=true)) (fun(i:Int)=>(v.opens.length - i).toNat) 0 ⟨rfl,rfl,rfl,rfl,rfl,trivial⟩ rfl ?_ ?_
  ·exact⟨by omega,by omega,fun j hj=>by omega⟩
  ·rintro i hI
   obtain⟨g0,g1,g2⟩:=hI
   refine zac ?_
   refine zaa ?_
   refine gk_y rfl rfl (zbw rfl rfl) ?_
   refine zag (zae (T':=[(2,_),(3,_),(24,_),(25,_),(26,_),(27,_)]) ⟨rfl,rfl,rfl,rfl,rfl,rfl,trivial⟩ ?_)
   refine zac ?_
   refine zap rfl (fun hc27=>?_) (fun hc27=>?_)
   ·simp only [decide_eq_true_eq] at hc27
    refine zaq ?_
    refine zac ?_
    refine zas ?_
    refine zac ?_
    refine zaa ?_
    refine gk_y rfl rfl (zaf rfl) ?_
    refine gk_y rfl rfl (zaE se92 rfl rfl (fun _ hw=>(Rd.has (Has.rd hv) hw)) (by omega) (by omega)) ?_
    refine gk_y rfl rfl (zbv (vs:=[_,_,_,_,_]) tf98 rfl (fun _ hw=>(Rd.has (Has.rd hv) hw)) (by omega) (by omega) rfl) ?_
    refine zaG rfl rfl (zaL tf98 (zs:=[_,_,_,_,_]) rfl) fun b6=>?_
    refine gk_y rfl rfl (zad rfl) ?_
    refine zaA 0 tf98 rfl rfl (vs:=[_,_,_,_,_]) rfl rfl rfl rfl rfl ?_
    refine zag (zae (T':=[(2,_),(3,_),(5,_),(6,_),(24,_),(25,_),(26,_)]) ⟨rfl,rfl,rfl,rfl,rfl,rfl,rfl,trivial⟩ ?_)
    refine zac ?_
    refine zbb 14 (fun _=>mixed) (by kernel_rfl) ?_
    refine ph_y (zat 0 tf98 rfl rfl (vs:=[_,_,_,_,_]) rfl rfl) ?_
    refine ph_y (zat 2 tf94 rfl rfl (vs:=[_,_,_,_]) rfl rfl) ?_
    refine ph_y (zat 1 tf41 rfl rfl (vs:=[_,_,_,_,_,_,_,_,_,_,_,_,_,_,_,_,_,_,_,_]) rfl rfl) ?_
    refine ph_y (zaJ en77 rfl (fun w hw=>zvW (v.opens.getD (i).toNat default) b bcap v a cap s w (hkn _ (za0 (by omega))) hlen hh)) ?_
    refine ph_y (zbR rfl) ?_
    refine ph_y (zaf rfl) ?_
    refine zaz rfl rfl (fun hgd=>by(try rw [hgd]); exact(zab zhe rfl)) ?_
    refine zaz rfl rfl (fun hgd=>by(try rw [hgd]); exact(zah 2 tf92 rfl rfl rfl)) ?_
    refine zaz rfl rfl (fun hgd=>by(try rw [hgd]); exact(zaf rfl)) ?_
    refine zaz rfl rfl (fun hgd=>by(try rw [hgd]); exact(zg8 se92 rfl rfl (by omega) (by omega) hcap)) ?_
    refine zaz rfl rfl (fun hgd=>by(try rw [hgd]); exact(zat 0 tf98 rfl rfl (vs:=[_,_,_,_,_]) rfl rfl)) ?_
    refine zaz rfl rfl (fun hgd=>by(try rw [hgd]); exact(zbO («as»:=[_]) (bs:=[]) rfl rfl)) ?_
    refine zaz rfl rfl (fun hgd=>by(try rw [hgd]); exact(zaJ (v:=.bool ((v.opens.take i.toNat).any (zhk (v.opens.getD (i).toNat default)))) en78 rfl (fun w hw=>zhR _ _ (v.opens.take i.toNat) (zhk (v.opens.getD (i).toNat default)) 79 [.agg (zba (v.opens.getD (i).toNat default)).toArray] [] w (zje (Rd.has (Has.rd hv) hw) (by omega) (by omega)) (by rw [List.length_take]; have:=hsv; unfold zaP at *; omega) (fun _=>True) (fun _ _=>trivial) en79 (fun z w _=>zug _ z w)))) ?_
    refine ph_y (zaR rfl rfl rfl) ?_
    refine zag (zae (T':=[(2,_),(3,_),(24,_),(25,_),(26,_),(44,_)]) ⟨rfl,rfl,rfl,rfl,rfl,rfl,trivial⟩ ?_)
    refine zap rfl (fun hc44=>?_) (fun hc44=>?_)
    ·have hno:zcI s.height v i.toNat=false:=zqg ((zln (by omega) g0 hc27 g2).symm.trans hc44)
     refine zac ?_
     refine zaa ?_
     refine gk_y rfl rfl (zad rfl) ?_
     refine zag (zae (T':=[(2,_),(3,_),(4,_),(24,_),(25,_),(26,_)]) ⟨rfl,rfl,rfl,rfl,rfl,rfl,trivial⟩ ?_)
     refine zaw ?_
     refine zay (zaC rfl (zau rfl)) ?_
     rw [zhH g0 hc27 hno]
    ·have hyes:zcI s.height v i.toNat=true:=zll ((zln (by omega) g0 hc27 g2).symm.trans hc44)
     refine zaq ?_
     refine zaa ?_
     refine gk_y rfl rfl (zaY rfl rfl (by omega) (by omega)) ?_
     refine gk_y rfl rfl (zaf rfl) ?_
     refine zag (zae (T':=[(2,_),(3,_),(24,_),(25,_),(26,_)]) ⟨rfl,rfl,rfl,rfl,rfl,trivial⟩ ?_)
     refine zaK 0 rfl ?_
     exact za1 (i+1) ⟨rfl,rfl,rfl,rfl,rfl,trivial⟩ rfl ⟨by omega,by omega,zdu g0 g2 hyes⟩ (by omega)
   ·simp only [decide_eq_false_iff_not] at hc27
    refine za8 rfl ?_
    refine zac ?_
    refine zaa ?_
    refine gk_y rfl rfl (zad rfl) ?_
    refine zag (zae (T':=[(4,_)]) ⟨rfl,trivial⟩ ?_)
    refine zaw ?_
    refine zay (zaC rfl (zau rfl)) ?_
    rw [zn0 hJ hc27 g2]
end Go.Proofs.YtdcfcfhmkfkgmaaGreatDoor
namespace Go.Pln
open Go Go.K Go.RowKit Go.Stn
theorem zgw (a:ByteArray):(a.toList == a.toList)=true:=beq_self_eq_true _
theorem zqK {S:List ShC} {i:Int} (_h0:0≤i) (_h1:i < (S.length:Int)) :
  (decide (0≤zaS (S.take i.toNat) (S.getD i.toNat default).s.name)||!decide (zcX (S.getD i.toNat default).s=0)) = !shAt S i.toNat:=by
 unfold shAt zaS
 rw [ze9]
 have:decide (zcX (S.getD i.toNat default).s=0)=za4 (S.getD i.toNat default).s:=by
  unfold zcX
  cases za4 (S.getD i.toNat default).s <;> rfl
 rw [this]
 cases (S.take i.toNat).any _ <;> cases za4 (S.getD i.toNat default).s <;> rfl
theorem znR {S:List ShC} {i:Int} (h0:0≤i) (h1:i < (S.length:Int)) :
  (!za4 (S.getD i.toNat default).s||!decide (zaS S (S.getD i.toNat default).s.name=i)) = !shAt S i.toNat:=by
 unfold shAt
 have:=zh2 (p:=fun z:ShC=>z.s.name.toList == (S.getD i.toNat default).s.name.toList) h0 h1 (zgw _)
 rw [show zaS S (S.getD i.toNat default).s.name=zbJ (fun z:ShC=>z.s.name.toList == (S.getD i.toNat default).s.name.toList) S from rfl,this]
 cases (S.take i.toNat).any _ <;> cases za4 (S.getD i.toNat default).s <;> rfl
theorem zqY {S:List ShC} {V:List WlC} {i:Int} (h0:0≤i) (h1:i < (V.length:Int)) :
  ((!decide (0≤zaS S (V.getD i.toNat default).s.sheet)||decide (zaM V (V.getD i.toNat default).s.name < i))||!zd1 (zav S (V.getD i.toNat default).s.sheet).s.height (V.getD i.toNat default).s) = !wlAt S V i.toNat:=by
 unfold wlAt
 have h2:=zh2 (p:=fun z:WlC=>z.s.name.toList == (V.getD i.toNat default).s.name.toList) h0 h1 (zgw _)
 have h3:=ztM (p:=fun z:WlC=>z.s.name.toList == (V.getD i.toNat default).s.name.toList) h0 h1 (zgw _)
 rw [show zaM V (V.getD i.toNat default).s.name=zbJ (fun z:WlC=>z.s.name.toList == (V.getD i.toNat default).s.name.toList) V from rfl,h3,h2]
 cases decide (0≤zaS S (V.getD i.toNat default).s.sheet) <;> cases (V.take i.toNat).any _ <;> cases zd1 _ _ <;> rfl
theorem zn4 {S:List ShC} {V:List WlC} {i:Int} (h0:0≤i) (h1:i < (V.length:Int)) :
  ((decide (zaS S (V.getD i.toNat default).s.sheet < 0)||!zd1 (S.getD (zaS S (V.getD i.toNat default).s.sheet).toNat default).s.height (V.getD i.toNat default).s)||!decide (zaM V (V.getD i.toNat default).s.name=i)) = !wlAt S V i.toNat:=by
 unfold wlAt
 have h2:=zh2 (p:=fun z:WlC=>z.s.name.toList == (V.getD i.toNat default).s.name.toList) h0 h1 (zgw _)
 rw [show zaM V (V.getD i.toNat default).s.name=zbJ (fun z:WlC=>z.s.name.toList == (V.getD i.toNat default).s.name.toList) V from rfl,h2]
 by_cases hk:0≤zaS S (V.getD i.toNat default).s.sheet
 ·rw [show zav S (V.getD i.toNat default).s.sheet=S.getD (zaS S (V.getD i.toNat default).s.sheet).toNat default from if_pos hk,decide_eq_true hk,decide_eq_false (show ¬ zaS S (V.getD i.toNat default).s.sheet < 0 by omega)]
  cases (V.take i.toNat).any _ <;> cases zd1 _ _ <;> rfl
 ·rw [decide_eq_false hk,decide_eq_true (show zaS S (V.getD i.toNat default).s.sheet < 0 by omega)]; simp
theorem zox {S:List ShC} {i:Nat} (h:shAt S i=true):za4 (S.getD i default).s=true:=by
 unfold shAt at h
 rw [Bool.and_eq_true] at h
 exact h.2
theorem zg3 {S:List ShC} (h:∀ j:Nat,(j:Int) < (S.length:Int)→shAt S j=true):∀ z∈S,za4 z.s=true:=fun z hz=>by
 obtain⟨j,hj,rfl⟩:=List.getElem_of_mem hz
 have:=zox (h j (by omega))
 simpa [hj] using this
theorem zog {S:List ShC} {n:ByteArray} (h:∀ z∈S,za4 z.s=true):0≤(zav S n).s.height∧(zav S n).s.height≤3000:=
 zrs (P:=fun z=>0≤z.s.height∧z.s.height≤3000) (fun z hz=>by have:=(zaZ (h z hz)).height; omega) (by decide)
theorem zqs {S:List ShC} {V:List WlC} (h:(decide (20 < (S.length:Int))||decide (50 < (V.length:Int)))=true):zc4 S V=false:=by unfold zc4; rw [h]; rfl
theorem znF {S:List ShC} {V:List WlC} {i:Int} (h0:0≤i) (h1:i < (S.length:Int)) (h:shAt S i.toNat=false):zc4 S V=false:=by
 unfold zc4; rw [zc9 (i:=i.toNat) (by omega) h]; simp
theorem znG {S:List ShC} {V:List WlC} {i:Int} (h0:0≤i) (h1:i < (V.length:Int)) (h:wlAt S V i.toNat=false):zc4 S V=false:=by
 unfold zc4; rw [zc9 (i:=i.toNat) (by omega) h,Bool.and_false]
theorem znH {S:List ShC} {V:List WlC} {i k:Int} (hi:¬ i < (S.length:Int)) (hk:¬ k < (V.length:Int)) (h1:∀ j:Nat,(j:Int) < i→shAt S j=true) (h2:∀ j:Nat,(j:Int) < k→wlAt S V j=true) :
  zc4 S V=(decide ((S.length:Int)≤20)&&decide ((V.length:Int)≤50)):=by
 unfold zc4
 rw [zdN (fun j hj=>h1 j (by omega)),zdN (fun j hj=>h2 j (by omega)),Bool.and_true,Bool.and_true,Bool.not_or]
 congr 1 <;> (rw [Bool.eq_iff_iff,Bool.not_eq_true',decide_eq_false_iff_not,decide_eq_true_eq]; omega)
theorem zix {S:List ShC} {V:List WlC} (h:zc4 S V=true):S.length≤20∧V.length≤50∧(∀ j,j < S.length→shAt S j=true)∧(∀ j,j < V.length→wlAt S V j=true):=by
 unfold zc4 at h
 simp only [Bool.and_eq_true,Bool.not_eq_true',Bool.or_eq_false_iff,decide_eq_false_iff_not] at h
 exact⟨by omega,by omega,zdf.1 h.1.2,zdf.1 h.2⟩
theorem zls {S:List ShC} {V:List WlC} (h:zc4 S V=true):∀ z∈S,za4 z.s=true:=zg3 fun j hj=>(zix h).2.2.1 j (by omega)
theorem zoG {S:List ShC} {V:List WlC} {i:Nat} (h:wlAt S V i=true):0≤zaS S (V.getD i default).s.sheet∧zd1 (zav S (V.getD i default).s.sheet).s.height (V.getD i default).s=true:=by
 unfold wlAt at h
 simp only [Bool.and_eq_true,decide_eq_true_eq] at h
 exact⟨h.1.1,h.2⟩
theorem zf8 {S:List ShC} {V:List WlC} (h:zc4 S V=true):∀ z∈V,0≤zaS S z.s.sheet∧zd1 (zav S z.s.sheet).s.height z.s=true:=fun z hz=>by
 obtain⟨j,hj,rfl⟩:=List.getElem_of_mem hz
 have:=zoG ((zix h).2.2.2 j hj)
 simpa [hj] using this
theorem znZ {w:Wll} {b:Bool} (h:(!zdY w.name||!inB w.length 1 100000||decide (20 < (w.opens.length:Int)))=b):zfP w = !b:=by rw [zuO,h]
def rf1 (len top:Int) (o:Opn):Bool:=!inB o.kind 1 4||!inB o.at_ 0 len||!inB o.width 1 len||decide (len < o.at_+o.width)||!inB o.frm 0 top||!inB o.high 1 top||decide (top < o.frm+o.high)
def rf2 (top:Int) (o:Opn):Bool:=(decide (3≤o.kind)&&!decide (o.frm+o.high=top))||(decide (o.kind=4)&&!decide (o.frm=0))
theorem zuD {len top:Int} {o:Opn} (hl:1≤len∧len≤100000):zfY len top o = !(rf1 len top o||rf2 top o):=by
 rw [ztN (zbp.2 hl)]; rfl
theorem zqw {len top:Int} {o:Opn} (h:rf1 len top o=false):(1≤o.kind∧o.kind≤4)∧(0≤o.at_∧o.at_≤len)∧(1≤o.width∧o.width≤len)∧o.at_+o.width≤len∧(0≤o.frm∧o.frm≤top)∧(1≤o.high∧o.high≤top)∧o.frm+o.high≤top:=by
 unfold rf1 at h
 simp only [Bool.or_eq_false_iff,Bool.not_eq_false',zbp,decide_eq_false_iff_not] at h
 omega
theorem zjo {top:Int} {w:Wll} {i:Nat} (h:zfY w.length top (w.opens.getD i default)=false):zcI top w i=false:=by unfold zcI; rw [h]; rfl
theorem zon {top:Int} {w:Wll} {i k:Int} (h0:0≤k) (hk:k < i) (h1:i < (w.opens.length:Int)) (h:zea (w.opens.getD i.toNat default) (w.opens.getD k.toNat default)=true):zcI top w i.toNat=false:=by
 unfold zcI
 have:(w.opens.take i.toNat).any (fun q=>zea (w.opens.getD i.toNat default) q)=true:=List.any_eq_true.2 ⟨w.opens.getD k.toNat default,by
  rw [List.getD_eq_getElem?_getD (l:=w.opens) (i:=k.toNat),List.getElem?_eq_getElem (by omega)]
  exact List.mem_take_iff_getElem.2 ⟨k.toNat,by omega,rfl⟩,h⟩
 rw [this]; simp
theorem zoo {top:Int} {w:Wll} {i k:Int} (h1:i < (w.opens.length:Int)) (hf:zfY w.length top (w.opens.getD i.toNat default)=true) (hk:¬ k < i) (h:∀ j:Nat,(j:Int) < k→zea (w.opens.getD i.toNat default) (w.opens.getD j default)=false):zcI top w i.toNat=true:=by
 unfold zcI
 rw [hf,Bool.true_and,Bool.not_eq_true',List.any_eq_false]
 intro q hq
 obtain⟨j,hj,rfl⟩:=List.mem_take_iff_getElem.1 hq
 have:=h j (by omega)
 rw [List.getD_eq_getElem?_getD (l:=w.opens) (i:=j),List.getElem?_eq_getElem (by omega)] at this
 simpa using this
end Go.Pln
namespace Go.Proofs.YtdcfcfhmkfkgmaaGreatDoor
open Go.K Go.Stn Go.Pln Go.RowKit
theorem tf22:TF Tryz.prog 22 false 1 (.slice none 0 0):=⟨by kernel_rfl,by kernel_rfl⟩
theorem tf23:TF Tryz.prog 23 false 1 (.slice none 0 0):=⟨by kernel_rfl,by kernel_rfl⟩
theorem tf25:TF Tryz.prog 25 true 2 (.agg #[.slice none 0 0,.slice none 0 0]):=⟨by kernel_rfl,by kernel_rfl⟩
theorem tf63:TF Tryz.prog 63 false 1 (.slice none 0 0):=⟨by kernel_rfl,by kernel_rfl⟩
theorem tf65:TF Tryz.prog 65 true 4 (.agg #[.string ⟨#[]⟩,.string ⟨#[]⟩,.int IntKind.i64 0,.slice none 0 0]):=⟨by kernel_rfl,by kernel_rfl⟩
theorem zht:TF Tryz.prog 139 true 5 (.agg #[.int IntKind.u8 0,.int IntKind.i64 0,.int IntKind.i64 0,.int IntKind.i64 0,.int IntKind.i64 0]):=⟨by kernel_rfl,by kernel_rfl⟩
theorem zd6:FO Tryz.prog 25 0 0:=⟨by kernel_rfl⟩
theorem zdT:FO Tryz.prog 25 1 1:=⟨by kernel_rfl⟩
theorem znf:FO Tryz.prog 65 0 0:=⟨by kernel_rfl⟩
theorem zpy:FO Tryz.prog 65 1 1:=⟨by kernel_rfl⟩
theorem zfS:FO Tryz.prog 65 2 2:=⟨by kernel_rfl⟩
theorem zgn:FO Tryz.prog 65 3 3:=⟨by kernel_rfl⟩
theorem zjT:FO Tryz.prog 139 0 0:=⟨by kernel_rfl⟩
theorem zdS:FO Tryz.prog 139 1 1:=⟨by kernel_rfl⟩
theorem zfZ:FO Tryz.prog 139 2 2:=⟨by kernel_rfl⟩
theorem zdx:FO Tryz.prog 139 3 3:=⟨by kernel_rfl⟩
theorem zfa:FO Tryz.prog 139 4 4:=⟨by kernel_rfl⟩
theorem se22:SE Tryz.prog 22 37 20:=⟨Tryz.underlying22,by kernel_rfl⟩
theorem se23:SE Tryz.prog 23 65 4:=⟨Tryz.underlying23,by kernel_rfl⟩
theorem se63:SE Tryz.prog 63 139 5:=⟨Tryz.underlying63,by kernel_rfl⟩
theorem en19:En Tryz.prog 19:=za7 Tryz.func19 (by kernel_rfl) (by kernel_rfl)
theorem en27:En Tryz.prog 27:=za7 Tryz.func27 (by kernel_rfl) (by kernel_rfl)
theorem en41:En Tryz.prog 41:=za7 Tryz.func41 (by kernel_rfl) (by kernel_rfl)
theorem en45:En Tryz.prog 45:=za7 Tryz.func45 (by kernel_rfl) (by kernel_rfl)
set_option maxRecDepth 100000 in
set_option maxHeartbeats 1000000 in
theorem zfq (a:Option Addr) (cap:Nat) (S:List ShC) (b:Option Addr) (nw bcap:Nat) (n:ByteArray) (w:World) (hl:Has w (zaW a 20 zbH S)) (hs:zaP S.length) :
  Calls Tryz.prog 41 #[.agg #[.slice a S.length cap,.slice b nw bcap],.string n] w (Pure (.int .i64 (zaS S n)) w):=by
 refine zan (vs:=[_,_]) Tryz.func41 rfl rfl (Nat.le_of_ble_eq_true rfl) ?_
 refine zac ?_
 refine zaa ?_
 refine zaG rfl rfl (za3 (vs:=[_,_]) rfl rfl) fun b2=>?_
 refine gk_y rfl rfl (zad rfl) ?_
 refine zag (zae (T':=[(1,_),(2,_),(4,_)]) ⟨rfl,rfl,rfl,trivial⟩ ?_)
 refine zac ?_
 refine zac ?_
 refine zaa ?_
 refine gk_y rfl rfl (zad rfl) ?_
 refine zag (zae (T':=[(1,_),(2,_),(4,_),(5,_)]) ⟨rfl,rfl,rfl,rfl,trivial⟩ ?_)
 refine zas ?_
 refine zbf (X:=Int) (fun(i:Int)=>[(1,.string n),(2,.pointer (some ⟨b2,0,none⟩)),(4,.int .i64 0),(5,.int .i64 i)]) (fun(i:Int)=>[Box b2 [.slice a S.length cap,.slice b nw bcap] 25]) (fun(i:Int)=>(0≤i∧i≤S.length∧∀ j:Nat,(j:Int) < i→((S.getD j default).s.name.toList == n.toList)=false)) (fun(i:Int)=>(S.length - i).toNat) 0 ⟨rfl,rfl,rfl,rfl,trivial⟩ rfl ?_ ?_
 ·exact⟨by omega,by omega,fun j hj=>by omega⟩
 ·rintro i hI
  obtain⟨g0,g1,g2⟩:=hI
  refine zac ?_
  refine zac ?_
  refine zaa ?_
  refine gk_y rfl rfl (zaf rfl) ?_
  refine gk_y rfl rfl (zab zd6 rfl) ?_
  refine gk_y rfl rfl (zah 0 tf22 rfl rfl rfl) ?_
  refine gk_y rfl rfl (zaV (Tryz.underlying22) rfl) ?_
  refine gk_y rfl rfl (zbw rfl rfl) ?_
  refine zag (zae (T':=[(1,_),(2,_),(4,_),(5,_),(10,_)]) ⟨rfl,rfl,rfl,rfl,rfl,trivial⟩ ?_)
  refine zap rfl (fun hc10=>?_) (fun hc10=>?_)
  ·simp only [decide_eq_true_eq] at hc10
   refine zaq ?_
   refine zac ?_
   refine zas ?_
   refine zac ?_
   refine zaa ?_
   refine gk_y rfl rfl (zab zd6 rfl) ?_
   refine gk_y rfl rfl (zah 0 tf22 rfl rfl rfl) ?_
   refine gk_y rfl rfl (zaf rfl) ?_
   refine gk_y rfl rfl (zaE se22 rfl rfl (fun _ hw=>(Rd.has (Has.rd hl) hw)) (by omega) (by omega)) ?_
   refine gk_y rfl rfl (zbh zkW rfl (fun w hw=>zaO (i:=i) (Rd.has (Has.rd hl) hw) (by omega) (by omega))) ?_
   refine gk_y rfl rfl (zbn tf9 rfl (fun _ hw=>(Rd.has (Has.rd hl) hw)) (by omega) (by omega) rfl) ?_
   refine gk_y rfl rfl (zaf rfl) ?_
   refine gk_y rfl rfl (zge rfl rfl) ?_
   refine zag (zae (T':=[(1,_),(2,_),(4,_),(5,_),(20,_)]) ⟨rfl,rfl,rfl,rfl,rfl,trivial⟩ ?_)
   refine zap rfl (fun hc20=>?_) (fun hc20=>?_)
   ·
    refine zac ?_
    refine zaa ?_
    refine gk_y rfl rfl (zaf rfl) ?_
    refine gk_y rfl rfl (zad rfl) ?_
    refine zag (zae (T':=[(1,_),(2,_),(4,_),(5,_)]) ⟨rfl,rfl,rfl,rfl,trivial⟩ ?_)
    refine zaw ?_
    refine zay (zaC rfl (zau rfl)) ?_
    exact congrArg (fun x=>Value.int .i64 x) (zcs (p:=fun z:ShC=>z.s.name.toList == n.toList) g0 (by omega) g2 hc20).symm
   ·
    refine zaq ?_
    refine zaa ?_
    refine gk_y rfl rfl (zaf rfl) ?_
    refine gk_y rfl rfl (zaY rfl rfl (by omega) (by omega)) ?_
    refine gk_y rfl rfl (zad rfl) ?_
    refine zag (zae (T':=[(1,_),(2,_),(4,_),(5,_)]) ⟨rfl,rfl,rfl,rfl,trivial⟩ ?_)
    exact za1 (i+1) ⟨rfl,rfl,rfl,rfl,trivial⟩ rfl ⟨by omega,by omega,zdP (f:=fun j=>(S.getD j default).s.name.toList == n.toList) g0 g2 hc20⟩ (by omega)
  ·simp only [decide_eq_false_iff_not] at hc10
   refine za8 rfl ?_
   refine zac ?_
   refine zaa ?_
   refine gk_y rfl rfl (zad rfl) ?_
   refine zag (zae (T':=[(4,_)]) ⟨rfl,trivial⟩ ?_)
   refine zaw ?_
   refine zay (zaC rfl (zau rfl)) ?_
   exact congrArg (fun x=>Value.int .i64 x) (zck (p:=fun z:ShC=>z.s.name.toList == n.toList) (fun j hj=>g2 j (by omega))).symm
set_option maxRecDepth 100000 in
set_option maxHeartbeats 1000000 in
theorem zf9 (a:Option Addr) (ns cap:Nat) (b:Option Addr) (bcap:Nat) (V:List WlC) (n:ByteArray) (w:World) (hlw:Has w (zaW b 4 zbS V)) (hsw:zaP V.length) :
  Calls Tryz.prog 27 #[.agg #[.slice a ns cap,.slice b V.length bcap],.string n] w (Pure (.int .i64 (zaM V n)) w):=by
 refine zan (vs:=[_,_]) Tryz.func27 rfl rfl (Nat.le_of_ble_eq_true rfl) ?_
 refine zac ?_
 refine zaa ?_
 refine zaG rfl rfl (za3 (vs:=[_,_]) rfl rfl) fun b2=>?_
 refine gk_y rfl rfl (zad rfl) ?_
 refine zag (zae (T':=[(1,_),(2,_),(4,_)]) ⟨rfl,rfl,rfl,trivial⟩ ?_)
 refine zac ?_
 refine zac ?_
 refine zaa ?_
 refine gk_y rfl rfl (zad rfl) ?_
 refine zag (zae (T':=[(1,_),(2,_),(4,_),(5,_)]) ⟨rfl,rfl,rfl,rfl,trivial⟩ ?_)
 refine zas ?_
 refine zbf (X:=Int) (fun(i:Int)=>[(1,.string n),(2,.pointer (some ⟨b2,0,none⟩)),(4,.int .i64 0),(5,.int .i64 i)]) (fun(i:Int)=>[Box b2 [.slice a ns cap,.slice b V.length bcap] 25]) (fun(i:Int)=>(0≤i∧i≤V.length∧∀ j:Nat,(j:Int) < i→((V.getD j default).s.name.toList == n.toList)=false)) (fun(i:Int)=>(V.length - i).toNat) 0 ⟨rfl,rfl,rfl,rfl,trivial⟩ rfl ?_ ?_
 ·exact⟨by omega,by omega,fun j hj=>by omega⟩
 ·rintro i hI
  obtain⟨g0,g1,g2⟩:=hI
  refine zac ?_
  refine zac ?_
  refine zaa ?_
  refine gk_y rfl rfl (zaf rfl) ?_
  refine gk_y rfl rfl (zab zdT rfl) ?_
  refine gk_y rfl rfl (zah 0 tf23 rfl rfl rfl) ?_
  refine gk_y rfl rfl (zaV (Tryz.underlying23) rfl) ?_
  refine gk_y rfl rfl (zbw rfl rfl) ?_
  refine zag (zae (T':=[(1,_),(2,_),(4,_),(5,_),(10,_)]) ⟨rfl,rfl,rfl,rfl,rfl,trivial⟩ ?_)
  refine zap rfl (fun hc10=>?_) (fun hc10=>?_)
  ·simp only [decide_eq_true_eq] at hc10
   refine zaq ?_
   refine zac ?_
   refine zas ?_
   refine zac ?_
   refine zaa ?_
   refine gk_y rfl rfl (zab zdT rfl) ?_
   refine gk_y rfl rfl (zah 0 tf23 rfl rfl rfl) ?_
   refine gk_y rfl rfl (zaf rfl) ?_
   refine gk_y rfl rfl (zaE se23 rfl rfl (fun _ hw=>(Rd.has (Has.rd hlw) hw)) (by omega) (by omega)) ?_
   refine gk_y rfl rfl (zbh znf rfl (fun w hw=>zaO (i:=i) (Rd.has (Has.rd hlw) hw) (by omega) (by omega))) ?_
   refine gk_y rfl rfl (zbn tf9 rfl (fun _ hw=>(Rd.has (Has.rd hlw) hw)) (by omega) (by omega) rfl) ?_
   refine gk_y rfl rfl (zaf rfl) ?_
   refine gk_y rfl rfl (zge rfl rfl) ?_
   refine zag (zae (T':=[(1,_),(2,_),(4,_),(5,_),(20,_)]) ⟨rfl,rfl,rfl,rfl,rfl,trivial⟩ ?_)
   refine zap rfl (fun hc20=>?_) (fun hc20=>?_)
   ·
    refine zac ?_
    refine zaa ?_
    refine gk_y rfl rfl (zaf rfl) ?_
    refine gk_y rfl rfl (zad rfl) ?_
    refine zag (zae (T':=[(1,_),(2,_),(4,_),(5,_)]) ⟨rfl,rfl,rfl,rfl,trivial⟩ ?_)
    refine zaw ?_
    refine zay (zaC rfl (zau rfl)) ?_
    exact congrArg (fun x=>Value.int .i64 x) (zcs (p:=fun z:WlC=>z.s.name.toList == n.toList) g0 (by omega) g2 hc20).symm
   ·
    refine zaq ?_
    refine zaa ?_
    refine gk_y rfl rfl (zaf rfl) ?_
    refine gk_y rfl rfl (zaY rfl rfl (by omega) (by omega)) ?_
    refine gk_y rfl rfl (zad rfl) ?_
    refine zag (zae (T':=[(1,_),(2,_),(4,_),(5,_)]) ⟨rfl,rfl,rfl,rfl,trivial⟩ ?_)
    exact za1 (i+1) ⟨rfl,rfl,rfl,rfl,trivial⟩ rfl ⟨by omega,by omega,zdP (f:=fun j=>(V.getD j default).s.name.toList == n.toList) g0 g2 hc20⟩ (by omega)
  ·simp only [decide_eq_false_iff_not] at hc10
   refine za8 rfl ?_
   refine zac ?_
   refine zaa ?_
   refine gk_y rfl rfl (zad rfl) ?_
   refine zag (zae (T':=[(4,_)]) ⟨rfl,trivial⟩ ?_)
   refine zaw ?_
   refine zay (zaC rfl (zau rfl)) ?_
   exact congrArg (fun x=>Value.int .i64 x) (zck (p:=fun z:WlC=>z.s.name.toList == n.toList) (fun j hj=>g2 j (by omega))).symm
set_option maxRecDepth 100000 in
set_option maxHeartbeats 4000000 in
theorem zlx (b:Option Addr) (bcap:Nat) (v:Wll) (a:Option Addr) (cap:Nat) (s:Sht) (w:World) (hv:Has w (zaW b 5 zba v.opens)) (hsv:zaP v.opens.length) (hkn:∀ o∈v.opens,Knd o) (hh:0≤s.height∧s.height≤3000) (hfit:Fits v.name.size) :
  Calls Tryz.prog 45 #[.agg #[.string v.name,.string v.sheet,.int .i64 v.length,.slice b v.opens.length bcap],.agg #[.string s.name,.int .i64 s.base,.int .i64 s.batter,.int .i64 s.height,.int .i64 s.skin,.slice a s.heights.length cap,.int .i64 s.least,.int .i64 s.lap,.int .i64 s.run,.int .i64 s.every,.int .i64 s.at_,.int .i64 s.footing,.int .i64 s.spread,.int .u8 s.cope,.int .i64 s.tall,.int .i64 s.short,.int .i64 s.thick,.int .i64 s.low,.int .i64 s.high,.int .i64 s.rood]] w (Pure (.bool (zd1 s.height v)) w):=by
 refine zan (vs:=[_,_]) Tryz.func45 rfl rfl (Nat.le_of_ble_eq_true rfl) ?_
 refine zac ?_
 refine zaa ?_
 refine zaG rfl rfl (za3 (vs:=[_,_,_,_]) rfl rfl) fun b2=>?_
 refine zaG rfl rfl (za3 (vs:=[_,_,_,_,_,_,_,_,_,_,_,_,_,_,_,_,_,_,_,_]) rfl rfl) fun b3=>?_
 refine gk_y rfl rfl (zad rfl) ?_
 refine zag (zae (T':=[(2,_),(3,_),(4,_)]) ⟨rfl,rfl,rfl,trivial⟩ ?_)
 refine zac ?_
 refine zac ?_
 refine zbb 16 (fun _=>mixed) (by kernel_rfl) ?_
 refine ph_y (zab znf rfl) ?_
 refine ph_y (zah 1 tf9 rfl rfl rfl) ?_
 refine ph_y (zaJ en51 rfl (fun w hw=>znM _ w (by assumption))) ?_
 refine ph_y (zbR rfl) ?_
 refine ph_y (zaf rfl) ?_
 refine zaz rfl rfl (fun hgd=>by(try rw [hgd]); exact(zab zfS rfl)) ?_
 refine zaz rfl rfl (fun hgd=>by(try rw [hgd]); exact(zah 1 tf3 rfl rfl rfl)) ?_
 refine zaz rfl rfl (fun hgd=>by(try rw [hgd]); exact(zaJ (v:=.bool (inB v.length 1 100000)) en52 rfl (fun w hw=>in_c _ _ _ w))) ?_
 refine zaz rfl rfl (fun hgd=>by(try rw [hgd]); exact(zbR rfl)) ?_
 refine ph_y (zaR rfl rfl rfl) ?_
 refine ph_y (zaf rfl) ?_
 refine zaz rfl rfl (fun hgd=>by(try rw [hgd]); exact(zab zgn rfl)) ?_
 refine zaz rfl rfl (fun hgd=>by(try rw [hgd]); exact(zah 1 tf63 rfl rfl rfl)) ?_
 refine zaz rfl rfl (fun hgd=>by(try rw [hgd]); exact(zaV (Tryz.underlying63) rfl)) ?_
 refine zaz rfl rfl (fun hgd=>by(try rw [hgd]); exact(zc6 rfl rfl)) ?_
 refine ph_y (zaR rfl rfl rfl) ?_
 refine zag (zae (T':=[(2,_),(3,_),(4,_),(25,_)]) ⟨rfl,rfl,rfl,rfl,trivial⟩ ?_)
 refine zap rfl (fun hc25=>?_) (fun hc25=>?_)
 ·have hw0:zfP v=false:=znZ hc25
  refine zac ?_
  refine zaa ?_
  refine gk_y rfl rfl (zad rfl) ?_
  refine zag (zae (T':=[(2,_),(3,_),(4,_)]) ⟨rfl,rfl,rfl,trivial⟩ ?_)
  refine zaw ?_
  refine zay (zaC rfl (zau rfl)) ?_
  rw [zkz hw0]
 ·have hw0:zfP v=true:=znZ hc25
  have hlen:=(zgM hw0).1
  refine zaq ?_
  refine zac ?_
  refine zac ?_
  refine zaa ?_
  refine gk_y rfl rfl (zad rfl) ?_
  refine zag (zae (T':=[(2,_),(3,_),(4,_),(5,_)]) ⟨rfl,rfl,rfl,rfl,trivial⟩ ?_)
  refine zas ?_
  refine zbf (X:=Int) (fun(i:Int)=>[(2,.pointer (some ⟨b2,0,none⟩)),(3,.pointer (some ⟨b3,0,none⟩)),(4,.bool false),(5,.int .i64 i)]) (fun(i:Int)=>[Box b3 [.string s.name,.int .i64 s.base,.int .i64 s.batter,.int .i64 s.height,.int .i64 s.skin,.slice a s.heights.length cap,.int .i64 s.least,.int .i64 s.lap,.int .i64 s.run,.int .i64 s.every,.int .i64 s.at_,.int .i64 s.footing,.int .i64 s.spread,.int .u8 s.cope,.int .i64 s.tall,.int .i64 s.short,.int .i64 s.thick,.int .i64 s.low,.int .i64 s.high,.int .i64 s.rood] 37,Box b2 [.string v.name,.string v.sheet,.int .i64 v.length,.slice b v.opens.length bcap] 65]) (fun(i:Int)=>(0≤i∧i≤v.opens.length∧∀ j:Nat,(j:Int) < i→zcI s.height v j=true)) (fun(i:Int)=>(v.opens.length - i).toNat) 0 ⟨rfl,rfl,rfl,rfl,trivial⟩ rfl ?_ ?_
  ·exact⟨by omega,by omega,fun j hj=>by omega⟩
  ·rintro i hI
   obtain⟨g0,g1,g2⟩:=hI
   refine zac ?_
   refine zac ?_
   refine zaa ?_
   refine gk_y rfl rfl (zaf rfl) ?_
   refine gk_y rfl rfl (zab zgn rfl) ?_
   refine gk_y rfl rfl (zah 1 tf63 rfl rfl rfl) ?_
   refine gk_y rfl rfl (zaV (Tryz.underlying63) rfl) ?_
   refine gk_y rfl rfl (zbw rfl rfl) ?_
   refine zag (zae (T':=[(2,_),(3,_),(4,_),(5,_),(30,_)]) ⟨rfl,rfl,rfl,rfl,rfl,trivial⟩ ?_)
   refine zap rfl (fun hc30=>?_) (fun hc30=>?_)
   ·have hc30:=of_decide_eq_true hc30
    have hko:=hkn (v.opens.getD (i).toNat default) (za0 (by omega))
    have hwk:IntKind.i64.wrap (v.opens.getD (i).toNat default).kind=(v.opens.getD (i).toNat default).kind:=zbr (by omega) (by omega)
    refine zaq ?_
    refine zac ?_
    refine zas ?_
    refine zac ?_
    refine zaa ?_
    refine gk_y rfl rfl (zab zgn rfl) ?_
    refine gk_y rfl rfl (zah 1 tf63 rfl rfl rfl) ?_
    refine gk_y rfl rfl (zaf rfl) ?_
    refine gk_y rfl rfl (zaE se63 rfl rfl (fun _ hw=>(Rd.has (Has.rd hv) hw)) (by omega) (by omega)) ?_
    refine gk_y rfl rfl (zbv (vs:=[_,_,_,_,_]) zht rfl (fun _ hw=>(Rd.has (Has.rd hv) hw)) (by omega) (by omega) rfl) ?_
    refine zaG rfl rfl (zaL zht (zs:=[_,_,_,_,_]) rfl) fun b6=>?_
    refine zaA 0 zht rfl rfl (vs:=[_,_,_,_,_]) rfl rfl rfl rfl rfl ?_
    refine zag (zae (T':=[(2,_),(3,_),(4,_),(5,_),(6,_)]) ⟨rfl,rfl,rfl,rfl,rfl,trivial⟩ ?_)
    refine zac ?_
    refine zac ?_
    refine zbb 57 (fun _=>mixed) (by kernel_rfl) ?_
    refine ph_y (zab zjT rfl) ?_
    refine ph_y (zah 0 tf5 rfl rfl rfl) ?_
    refine ph_y (ziU (by kernel_rfl) (Tryz.underlying3) rfl) ?_
    refine ph_y (zaJ en52 rfl (fun w hw=>in_c _ _ _ w)) ?_
    refine ph_y (zbR rfl) ?_
    refine ph_y (zaf rfl) ?_
    refine zaz rfl rfl (fun hgd=>by(try rw [hgd]); have hgd0:=hgd; (try simp only [Bool.not_eq_true',Bool.not_eq_false',zbp] at hgd0); exact(zab zdS rfl)) ?_
    refine zaz rfl rfl (fun hgd=>by(try rw [hgd]); have hgd0:=hgd; (try simp only [Bool.not_eq_true',Bool.not_eq_false',zbp] at hgd0); exact(zah 0 tf3 rfl rfl rfl)) ?_
    refine zaz rfl rfl (fun hgd=>by(try rw [hgd]); have hgd0:=hgd; (try simp only [Bool.not_eq_true',Bool.not_eq_false',zbp] at hgd0); exact(zab zfS rfl)) ?_
    refine zaz rfl rfl (fun hgd=>by(try rw [hgd]); have hgd0:=hgd; (try simp only [Bool.not_eq_true',Bool.not_eq_false',zbp] at hgd0); exact(zah 2 tf3 rfl rfl rfl)) ?_
    refine zaz rfl rfl (fun hgd=>by(try rw [hgd]); have hgd0:=hgd; (try simp only [Bool.not_eq_true',Bool.not_eq_false',zbp] at hgd0); exact(zaJ (v:=.bool (inB ((v.opens.getD (i).toNat default).at_) 0 v.length)) en52 rfl (fun w hw=>in_c _ _ _ w))) ?_
    refine zaz rfl rfl (fun hgd=>by(try rw [hgd]); have hgd0:=hgd; (try simp only [Bool.not_eq_true',Bool.not_eq_false',zbp] at hgd0); exact(zbR rfl)) ?_
    refine ph_y (zaR rfl rfl rfl) ?_
    refine ph_y (zaf rfl) ?_
    refine zaz rfl rfl (fun hgd=>by(try rw [hgd]); have hgd0:=hgd; (try simp only [Bool.not_eq_true',Bool.or_eq_false_iff,Bool.not_eq_false',zbp] at hgd0); exact(zab zfZ rfl)) ?_
    refine zaz rfl rfl (fun hgd=>by(try rw [hgd]); have hgd0:=hgd; (try simp only [Bool.not_eq_true',Bool.or_eq_false_iff,Bool.not_eq_false',zbp] at hgd0); exact(zah 0 tf3 rfl rfl rfl)) ?_
    refine zaz rfl rfl (fun hgd=>by(try rw [hgd]); have hgd0:=hgd; (try simp only [Bool.not_eq_true',Bool.or_eq_false_iff,Bool.not_eq_false',zbp] at hgd0); exact(zab zfS rfl)) ?_
    refine zaz rfl rfl (fun hgd=>by(try rw [hgd]); have hgd0:=hgd; (try simp only [Bool.not_eq_true',Bool.or_eq_false_iff,Bool.not_eq_false',zbp] at hgd0); exact(zah 2 tf3 rfl rfl rfl)) ?_
    refine zaz rfl rfl (fun hgd=>by(try rw [hgd]); have hgd0:=hgd; (try simp only [Bool.not_eq_true',Bool.or_eq_false_iff,Bool.not_eq_false',zbp] at hgd0); exact(zaJ (v:=.bool (inB ((v.opens.getD (i).toNat default).width) 1 v.length)) en52 rfl (fun w hw=>in_c _ _ _ w))) ?_
    refine zaz rfl rfl (fun hgd=>by(try rw [hgd]); have hgd0:=hgd; (try simp only [Bool.not_eq_true',Bool.or_eq_false_iff,Bool.not_eq_false',zbp] at hgd0); exact(zbR rfl)) ?_
    refine ph_y (zaR rfl rfl rfl) ?_
    refine ph_y (zaf rfl) ?_
    refine zaz rfl rfl (fun hgd=>by(try rw [hgd]); have hgd0:=hgd; (try simp only [Bool.not_eq_true',Bool.or_eq_false_iff,Bool.not_eq_false',zbp] at hgd0); exact(zab zdS rfl)) ?_
    refine zaz rfl rfl (fun hgd=>by(try rw [hgd]); have hgd0:=hgd; (try simp only [Bool.not_eq_true',Bool.or_eq_false_iff,Bool.not_eq_false',zbp] at hgd0); exact(zah 0 tf3 rfl rfl rfl)) ?_
    refine zaz rfl rfl (fun hgd=>by(try rw [hgd]); have hgd0:=hgd; (try simp only [Bool.not_eq_true',Bool.or_eq_false_iff,Bool.not_eq_false',zbp] at hgd0); exact(zab zfZ rfl)) ?_
    refine zaz rfl rfl (fun hgd=>by(try rw [hgd]); have hgd0:=hgd; (try simp only [Bool.not_eq_true',Bool.or_eq_false_iff,Bool.not_eq_false',zbp] at hgd0); exact(zah 0 tf3 rfl rfl rfl)) ?_
    refine zaz rfl rfl (fun hgd=>by(try rw [hgd]); have hgd0:=hgd; (try simp only [Bool.not_eq_true',Bool.or_eq_false_iff,Bool.not_eq_false',zbp] at hgd0); exact(zaY rfl rfl (by omega) (by omega))) ?_
    refine zaz rfl rfl (fun hgd=>by(try rw [hgd]); have hgd0:=hgd; (try simp only [Bool.not_eq_true',Bool.or_eq_false_iff,Bool.not_eq_false',zbp] at hgd0); exact(zab zfS rfl)) ?_
    refine zaz rfl rfl (fun hgd=>by(try rw [hgd]); have hgd0:=hgd; (try simp only [Bool.not_eq_true',Bool.or_eq_false_iff,Bool.not_eq_false',zbp] at hgd0); exact(zah 2 tf3 rfl rfl rfl)) ?_
    refine zaz rfl rfl (fun hgd=>by(try rw [hgd]); have hgd0:=hgd; (try simp only [Bool.not_eq_true',Bool.or_eq_false_iff,Bool.not_eq_false',zbp] at hgd0); exact(zc6 rfl rfl)) ?_
    refine ph_y (zaR rfl rfl rfl) ?_
    refine ph_y (zaf rfl) ?_
    refine zaz rfl rfl (fun hgd=>by(try rw [hgd]); have hgd0:=hgd; (try simp only [Bool.not_eq_true',Bool.or_eq_false_iff,Bool.not_eq_false',zbp,decide_eq_false_iff_not] at hgd0); exact(zab zdx rfl)) ?_
    refine zaz rfl rfl (fun hgd=>by(try rw [hgd]); have hgd0:=hgd; (try simp only [Bool.not_eq_true',Bool.or_eq_false_iff,Bool.not_eq_false',zbp,decide_eq_false_iff_not] at hgd0); exact(zah 0 tf3 rfl rfl rfl)) ?_
    refine zaz rfl rfl (fun hgd=>by(try rw [hgd]); have hgd0:=hgd; (try simp only [Bool.not_eq_true',Bool.or_eq_false_iff,Bool.not_eq_false',zbp,decide_eq_false_iff_not] at hgd0); exact(zab zdC rfl)) ?_
    refine zaz rfl rfl (fun hgd=>by(try rw [hgd]); have hgd0:=hgd; (try simp only [Bool.not_eq_true',Bool.or_eq_false_iff,Bool.not_eq_false',zbp,decide_eq_false_iff_not] at hgd0); exact(zah 1 tf3 rfl rfl rfl)) ?_
    refine zaz rfl rfl (fun hgd=>by(try rw [hgd]); have hgd0:=hgd; (try simp only [Bool.not_eq_true',Bool.or_eq_false_iff,Bool.not_eq_false',zbp,decide_eq_false_iff_not] at hgd0); exact(zaJ (v:=.bool (inB ((v.opens.getD (i).toNat default).frm) 0 s.height)) en52 rfl (fun w hw=>in_c _ _ _ w))) ?_
    refine zaz rfl rfl (fun hgd=>by(try rw [hgd]); have hgd0:=hgd; (try simp only [Bool.not_eq_true',Bool.or_eq_false_iff,Bool.not_eq_false',zbp,decide_eq_false_iff_not] at hgd0); exact(zbR rfl)) ?_
    refine ph_y (zaR rfl rfl rfl) ?_
    refine ph_y (zaf rfl) ?_
    refine zaz rfl rfl (fun hgd=>by(try rw [hgd]); have hgd0:=hgd; (try simp only [Bool.not_eq_true',Bool.or_eq_false_iff,Bool.not_eq_false',zbp,decide_eq_false_iff_not] at hgd0); exact(zab zfa rfl)) ?_
    refine zaz rfl rfl (fun hgd=>by(try rw [hgd]); have hgd0:=hgd; (try simp only [Bool.not_eq_true',Bool.or_eq_false_iff,Bool.not_eq_false',zbp,decide_eq_false_iff_not] at hgd0); exact(zah 0 tf3 rfl rfl rfl)) ?_
    refine zaz rfl rfl (fun hgd=>by(try rw [hgd]); have hgd0:=hgd; (try simp only [Bool.not_eq_true',Bool.or_eq_false_iff,Bool.not_eq_false',zbp,decide_eq_false_iff_not] at hgd0); exact(zab zdC rfl)) ?_
    refine zaz rfl rfl (fun hgd=>by(try rw [hgd]); have hgd0:=hgd; (try simp only [Bool.not_eq_true',Bool.or_eq_false_iff,Bool.not_eq_false',zbp,decide_eq_false_iff_not] at hgd0); exact(zah 1 tf3 rfl rfl rfl)) ?_
    refine zaz rfl rfl (fun hgd=>by(try rw [hgd]); have hgd0:=hgd; (try simp only [Bool.not_eq_true',Bool.or_eq_false_iff,Bool.not_eq_false',zbp,decide_eq_false_iff_not] at hgd0); exact(zaJ (v:=.bool (inB ((v.opens.getD (i).toNat default).high) 1 s.height)) en52 rfl (fun w hw=>in_c _ _ _ w))) ?_
    refine zaz rfl rfl (fun hgd=>by(try rw [hgd]); have hgd0:=hgd; (try simp only [Bool.not_eq_true',Bool.or_eq_false_iff,Bool.not_eq_false',zbp,decide_eq_false_iff_not] at hgd0); exact(zbR rfl)) ?_
    refine ph_y (zaR rfl rfl rfl) ?_
    refine ph_y (zaf rfl) ?_
    refine zaz rfl rfl (fun hgd=>by(try rw [hgd]); have hgd0:=hgd; (try simp only [Bool.not_eq_true',Bool.or_eq_false_iff,Bool.not_eq_false',zbp,decide_eq_false_iff_not] at hgd0); exact(zab zdx rfl)) ?_
    refine zaz rfl rfl (fun hgd=>by(try rw [hgd]); have hgd0:=hgd; (try simp only [Bool.not_eq_true',Bool.or_eq_false_iff,Bool.not_eq_false',zbp,decide_eq_false_iff_not] at hgd0); exact(zah 0 tf3 rfl rfl rfl)) ?_
    refine zaz rfl rfl (fun hgd=>by(try rw [hgd]); have hgd0:=hgd; (try simp only [Bool.not_eq_true',Bool.or_eq_false_iff,Bool.not_eq_false',zbp,decide_eq_false_iff_not] at hgd0); exact(zab zfa rfl)) ?_
    refine zaz rfl rfl (fun hgd=>by(try rw [hgd]); have hgd0:=hgd; (try simp only [Bool.not_eq_true',Bool.or_eq_false_iff,Bool.not_eq_false',zbp,decide_eq_false_iff_not] at hgd0); exact(zah 0 tf3 rfl rfl rfl)) ?_
    refine zaz rfl rfl (fun hgd=>by(try rw [hgd]); have hgd0:=hgd; (try simp only [Bool.not_eq_true',Bool.or_eq_false_iff,Bool.not_eq_false',zbp,decide_eq_false_iff_not] at hgd0); exact(zaY rfl rfl (by omega) (by omega))) ?_
    refine zaz rfl rfl (fun hgd=>by(try rw [hgd]); have hgd0:=hgd; (try simp only [Bool.not_eq_true',Bool.or_eq_false_iff,Bool.not_eq_false',zbp,decide_eq_false_iff_not] at hgd0); exact(zab zdC rfl)) ?_
    refine zaz rfl rfl (fun hgd=>by(try rw [hgd]); have hgd0:=hgd; (try simp only [Bool.not_eq_true',Bool.or_eq_false_iff,Bool.not_eq_false',zbp,decide_eq_false_iff_not] at hgd0); exact(zah 1 tf3 rfl rfl rfl)) ?_
    refine zaz rfl rfl (fun hgd=>by(try rw [hgd]); have hgd0:=hgd; (try simp only [Bool.not_eq_true',Bool.or_eq_false_iff,Bool.not_eq_false',zbp,decide_eq_false_iff_not] at hgd0); exact(zc6 rfl rfl)) ?_
    refine ph_y (zaR rfl rfl rfl) ?_
    refine zag (zae (T':=[(2,_),(3,_),(4,_),(5,_),(6,_),(94,_)]) ⟨rfl,rfl,rfl,rfl,rfl,rfl,trivial⟩ ?_)
    refine zap rfl (fun hc94=>?_) (fun hc94=>?_)
    ·rw [hwk] at hc94
     have hno:zcI s.height v i.toNat=false:=zjo (by rw [zuD hlen,show rf1 _ _ _=true from hc94]; rfl)
     refine zac ?_
     refine zaa ?_
     refine gk_y rfl rfl (zad rfl) ?_
     refine zag (zae (T':=[(2,_),(3,_),(4,_),(5,_),(6,_)]) ⟨rfl,rfl,rfl,rfl,rfl,trivial⟩ ?_)
     refine zaw ?_
     refine zay (zaC rfl (zau rfl)) ?_
     rw [zhH g0 hc30 hno]
    ·rw [hwk] at hc94
     have hF:=zqw hc94
     refine zaq ?_
     refine zac ?_
     refine zac ?_
     refine zbb 23 (fun _=>mixed) (by kernel_rfl) ?_
     refine ph_y (zab zjT rfl) ?_
     refine ph_y (zah 0 tf5 rfl rfl rfl) ?_
     refine ph_y (zfx rfl rfl) ?_
     refine ph_y (zaf rfl) ?_
     refine zaH rfl rfl (fun hgd=>by(try rw [hgd]); have hgd0:=hgd; (try simp only [decide_eq_true_eq] at hgd0); exact(zab zdx rfl)) ?_
     refine zaH rfl rfl (fun hgd=>by(try rw [hgd]); have hgd0:=hgd; (try simp only [decide_eq_true_eq] at hgd0); exact(zah 0 tf3 rfl rfl rfl)) ?_
     refine zaH rfl rfl (fun hgd=>by(try rw [hgd]); have hgd0:=hgd; (try simp only [decide_eq_true_eq] at hgd0); exact(zab zfa rfl)) ?_
     refine zaH rfl rfl (fun hgd=>by(try rw [hgd]); have hgd0:=hgd; (try simp only [decide_eq_true_eq] at hgd0); exact(zah 0 tf3 rfl rfl rfl)) ?_
     refine zaH rfl rfl (fun hgd=>by(try rw [hgd]); have hgd0:=hgd; (try simp only [decide_eq_true_eq] at hgd0); exact(zaY rfl rfl (by omega) (by omega))) ?_
     refine zaH rfl rfl (fun hgd=>by(try rw [hgd]); have hgd0:=hgd; (try simp only [decide_eq_true_eq] at hgd0); exact(zab zdC rfl)) ?_
     refine zaH rfl rfl (fun hgd=>by(try rw [hgd]); have hgd0:=hgd; (try simp only [decide_eq_true_eq] at hgd0); exact(zah 1 tf3 rfl rfl rfl)) ?_
     refine zaH rfl rfl (fun hgd=>by(try rw [hgd]); have hgd0:=hgd; (try simp only [decide_eq_true_eq] at hgd0); exact(zcr rfl rfl)) ?_
     refine ph_y (zaX rfl rfl rfl) ?_
     refine ph_y (zaf rfl) ?_
     refine zaz rfl rfl (fun hgd=>by(try rw [hgd]); have hgd0:=hgd; (try simp only [Bool.not_eq_true'] at hgd0); exact(zab zjT rfl)) ?_
     refine zaz rfl rfl (fun hgd=>by(try rw [hgd]); have hgd0:=hgd; (try simp only [Bool.not_eq_true'] at hgd0); exact(zah 0 tf5 rfl rfl rfl)) ?_
     refine zaz rfl rfl (fun hgd=>by(try rw [hgd]); have hgd0:=hgd; (try simp only [Bool.not_eq_true'] at hgd0); exact(zbL rfl rfl)) ?_
     refine zaz rfl rfl (fun hgd=>by(try rw [hgd]); have hgd0:=hgd; (try simp only [Bool.not_eq_true'] at hgd0); exact(zaf rfl)) ?_
     refine zdr rfl rfl (fun hgd=>by(try rw [hgd]); have hgd0:=hgd; (try simp only [Bool.not_eq_true',Bool.and_eq_true,decide_eq_true_eq] at hgd0); exact(zab zdx rfl)) ?_
     refine zdr rfl rfl (fun hgd=>by(try rw [hgd]); have hgd0:=hgd; (try simp only [Bool.not_eq_true',Bool.and_eq_true,decide_eq_true_eq] at hgd0); exact(zah 0 tf3 rfl rfl rfl)) ?_
     refine zdr rfl rfl (fun hgd=>by(try rw [hgd]); have hgd0:=hgd; (try simp only [Bool.not_eq_true',Bool.and_eq_true,decide_eq_true_eq] at hgd0); exact(zcr rfl rfl)) ?_
     refine zaz rfl rfl (fun hgd=>by(try rw [hgd]); have hgd0:=hgd; (try simp only [Bool.not_eq_true'] at hgd0); exact(zaX rfl rfl rfl)) ?_
     refine ph_y (zaR rfl rfl rfl) ?_
     refine zag (zae (T':=[(2,_),(3,_),(4,_),(5,_),(6,_),(117,_)]) ⟨rfl,rfl,rfl,rfl,rfl,rfl,trivial⟩ ?_)
     refine zap rfl (fun hc117=>?_) (fun hc117=>?_)
     ·have hno:zcI s.height v i.toNat=false:=zjo (by rw [zuD hlen,show rf2 _ _=true from hc117,Bool.or_true]; rfl)
      refine zac ?_
      refine zaa ?_
      refine gk_y rfl rfl (zad rfl) ?_
      refine zag (zae (T':=[(2,_),(3,_),(4,_),(5,_),(6,_)]) ⟨rfl,rfl,rfl,rfl,rfl,trivial⟩ ?_)
      refine zaw ?_
      refine zay (zaC rfl (zau rfl)) ?_
      rw [zhH g0 hc30 hno]
     ·have hfit2:zfY v.length s.height (v.opens.getD (i).toNat default)=true:=by rw [zuD hlen,show rf1 _ _ _=false from hc94,show rf2 _ _=false from hc117]; rfl
      refine zaq ?_
      refine zac ?_
      refine zaa ?_
      refine gk_y rfl rfl (zad rfl) ?_
      refine zag (zae (T':=[(2,_),(3,_),(4,_),(5,_),(6,_),(7,_)]) ⟨rfl,rfl,rfl,rfl,rfl,rfl,trivial⟩ ?_)
      refine zas ?_
      refine zbf (X:=Int) (fun(k:Int)=>[(2,.pointer (some ⟨b2,0,none⟩)),(3,.pointer (some ⟨b3,0,none⟩)),(4,.bool false),(5,.int .i64 i),(6,.pointer (some ⟨b6,0,none⟩)),(7,.int .i64 k)]) (fun(k:Int)=>[Box b6 [.int .u8 (v.opens.getD (i).toNat default).kind,.int .i64 (v.opens.getD (i).toNat default).at_,.int .i64 (v.opens.getD (i).toNat default).width,.int .i64 (v.opens.getD (i).toNat default).frm,.int .i64 (v.opens.getD (i).toNat default).high] 139,Box b3 [.string s.name,.int .i64 s.base,.int .i64 s.batter,.int .i64 s.height,.int .i64 s.skin,.slice a s.heights.length cap,.int .i64 s.least,.int .i64 s.lap,.int .i64 s.run,.int .i64 s.every,.int .i64 s.at_,.int .i64 s.footing,.int .i64 s.spread,.int .u8 s.cope,.int .i64 s.tall,.int .i64 s.short,.int .i64 s.thick,.int .i64 s.low,.int .i64 s.high,.int .i64 s.rood] 37,Box b2 [.string v.name,.string v.sheet,.int .i64 v.length,.slice b v.opens.length bcap] 65]) (fun(k:Int)=>(0≤k∧k≤i∧∀ j:Nat,(j:Int) < k→zea (v.opens.getD (i).toNat default) (v.opens.getD j default)=false)) (fun(k:Int)=>(i - k).toNat) 0 ⟨rfl,rfl,rfl,rfl,rfl,rfl,trivial⟩ rfl ?_ ?_
      ·exact⟨by omega,by omega,fun j hj=>by omega⟩
      ·rintro k hI
       obtain⟨k0,k1,k2⟩:=hI
       refine zac ?_
       refine zac ?_
       refine zaa ?_
       refine gk_y rfl rfl (zaf rfl) ?_
       refine gk_y rfl rfl (zaf rfl) ?_
       refine gk_y rfl rfl (zbw rfl rfl) ?_
       refine zag (zae (T':=[(2,_),(3,_),(4,_),(5,_),(6,_),(7,_),(120,_)]) ⟨rfl,rfl,rfl,rfl,rfl,rfl,rfl,trivial⟩ ?_)
       refine zap rfl (fun hc120=>?_) (fun hc120=>?_)
       ·have hc120:=of_decide_eq_true hc120
        have hQ:=zf7 (g2 k.toNat (by omega))
        have q1:=hQ.a; have q2:=hQ.w; have q3:=hQ.h; have q4:=hQ.f
        refine zaq ?_
        refine zac ?_
        refine zas ?_
        refine zac ?_
        refine zaa ?_
        refine gk_y rfl rfl (zab zgn rfl) ?_
        refine gk_y rfl rfl (zah 2 tf63 rfl rfl rfl) ?_
        refine gk_y rfl rfl (zaf rfl) ?_
        refine gk_y rfl rfl (zaE se63 rfl rfl (fun _ hw=>(Rd.has (Has.rd hv) hw)) (by omega) (by omega)) ?_
        refine gk_y rfl rfl (zbv (vs:=[_,_,_,_,_]) zht rfl (fun _ hw=>(Rd.has (Has.rd hv) hw)) (by omega) (by omega) rfl) ?_
        refine zaG rfl rfl (zaL zht (zs:=[_,_,_,_,_]) rfl) fun b8=>?_
        refine zaA 0 zht rfl rfl (vs:=[_,_,_,_,_]) rfl rfl rfl rfl rfl ?_
        refine zag (zae (T':=[(2,_),(3,_),(4,_),(5,_),(6,_),(7,_),(8,_)]) ⟨rfl,rfl,rfl,rfl,rfl,rfl,rfl,trivial⟩ ?_)
        refine zac ?_
        refine zbb 39 (fun _=>mixed) (by kernel_rfl) ?_
        refine ph_y (zab zdS rfl) ?_
        refine ph_y (zah 1 tf3 rfl rfl rfl) ?_
        refine ph_y (zab zfZ rfl) ?_
        refine ph_y (zah 1 tf3 rfl rfl rfl) ?_
        refine ph_y (zaY rfl rfl (by omega) (by omega)) ?_
        refine ph_y (zab zdS rfl) ?_
        refine ph_y (zah 0 tf3 rfl rfl rfl) ?_
        refine ph_y (zeT rfl rfl) ?_
        refine ph_y (zaf rfl) ?_
        refine zaz rfl rfl (fun hgd=>by(try rw [hgd]); have hgd0:=hgd; (try simp only [Bool.not_eq_true',decide_eq_false_iff_not] at hgd0); exact(zab zdS rfl)) ?_
        refine zaz rfl rfl (fun hgd=>by(try rw [hgd]); have hgd0:=hgd; (try simp only [Bool.not_eq_true',decide_eq_false_iff_not] at hgd0); exact(zah 0 tf3 rfl rfl rfl)) ?_
        refine zaz rfl rfl (fun hgd=>by(try rw [hgd]); have hgd0:=hgd; (try simp only [Bool.not_eq_true',decide_eq_false_iff_not] at hgd0); exact(zab zfZ rfl)) ?_
        refine zaz rfl rfl (fun hgd=>by(try rw [hgd]); have hgd0:=hgd; (try simp only [Bool.not_eq_true',decide_eq_false_iff_not] at hgd0); exact(zah 0 tf3 rfl rfl rfl)) ?_
        refine zaz rfl rfl (fun hgd=>by(try rw [hgd]); have hgd0:=hgd; (try simp only [Bool.not_eq_true',decide_eq_false_iff_not] at hgd0); exact(zaY rfl rfl (by omega) (by omega))) ?_
        refine zaz rfl rfl (fun hgd=>by(try rw [hgd]); have hgd0:=hgd; (try simp only [Bool.not_eq_true',decide_eq_false_iff_not] at hgd0); exact(zab zdS rfl)) ?_
        refine zaz rfl rfl (fun hgd=>by(try rw [hgd]); have hgd0:=hgd; (try simp only [Bool.not_eq_true',decide_eq_false_iff_not] at hgd0); exact(zah 1 tf3 rfl rfl rfl)) ?_
        refine zaz rfl rfl (fun hgd=>by(try rw [hgd]); have hgd0:=hgd; (try simp only [Bool.not_eq_true',decide_eq_false_iff_not] at hgd0); exact(zeT rfl rfl)) ?_
        refine ph_y (zaR rfl rfl rfl) ?_
        refine ph_y (zaf rfl) ?_
        refine zaz rfl rfl (fun hgd=>by(try rw [hgd]); have hgd0:=hgd; (try simp only [Bool.not_eq_true',Bool.or_eq_false_iff,decide_eq_false_iff_not] at hgd0); exact(zab zdx rfl)) ?_
        refine zaz rfl rfl (fun hgd=>by(try rw [hgd]); have hgd0:=hgd; (try simp only [Bool.not_eq_true',Bool.or_eq_false_iff,decide_eq_false_iff_not] at hgd0); exact(zah 1 tf3 rfl rfl rfl)) ?_
        refine zaz rfl rfl (fun hgd=>by(try rw [hgd]); have hgd0:=hgd; (try simp only [Bool.not_eq_true',Bool.or_eq_false_iff,decide_eq_false_iff_not] at hgd0); exact(zab zfa rfl)) ?_
        refine zaz rfl rfl (fun hgd=>by(try rw [hgd]); have hgd0:=hgd; (try simp only [Bool.not_eq_true',Bool.or_eq_false_iff,decide_eq_false_iff_not] at hgd0); exact(zah 1 tf3 rfl rfl rfl)) ?_
        refine zaz rfl rfl (fun hgd=>by(try rw [hgd]); have hgd0:=hgd; (try simp only [Bool.not_eq_true',Bool.or_eq_false_iff,decide_eq_false_iff_not] at hgd0); exact(zaY rfl rfl (by omega) (by omega))) ?_
        refine zaz rfl rfl (fun hgd=>by(try rw [hgd]); have hgd0:=hgd; (try simp only [Bool.not_eq_true',Bool.or_eq_false_iff,decide_eq_false_iff_not] at hgd0); exact(zab zdx rfl)) ?_
        refine zaz rfl rfl (fun hgd=>by(try rw [hgd]); have hgd0:=hgd; (try simp only [Bool.not_eq_true',Bool.or_eq_false_iff,decide_eq_false_iff_not] at hgd0); exact(zah 0 tf3 rfl rfl rfl)) ?_
        refine zaz rfl rfl (fun hgd=>by(try rw [hgd]); have hgd0:=hgd; (try simp only [Bool.not_eq_true',Bool.or_eq_false_iff,decide_eq_false_iff_not] at hgd0); exact(zeT rfl rfl)) ?_
        refine ph_y (zaR rfl rfl rfl) ?_
        refine ph_y (zaf rfl) ?_
        refine zaz rfl rfl (fun hgd=>by(try rw [hgd]); have hgd0:=hgd; (try simp only [Bool.not_eq_true',Bool.or_eq_false_iff,decide_eq_false_iff_not] at hgd0); exact(zab zdx rfl)) ?_
        refine zaz rfl rfl (fun hgd=>by(try rw [hgd]); have hgd0:=hgd; (try simp only [Bool.not_eq_true',Bool.or_eq_false_iff,decide_eq_false_iff_not] at hgd0); exact(zah 0 tf3 rfl rfl rfl)) ?_
        refine zaz rfl rfl (fun hgd=>by(try rw [hgd]); have hgd0:=hgd; (try simp only [Bool.not_eq_true',Bool.or_eq_false_iff,decide_eq_false_iff_not] at hgd0); exact(zab zfa rfl)) ?_
        refine zaz rfl rfl (fun hgd=>by(try rw [hgd]); have hgd0:=hgd; (try simp only [Bool.not_eq_true',Bool.or_eq_false_iff,decide_eq_false_iff_not] at hgd0); exact(zah 0 tf3 rfl rfl rfl)) ?_
        refine zaz rfl rfl (fun hgd=>by(try rw [hgd]); have hgd0:=hgd; (try simp only [Bool.not_eq_true',Bool.or_eq_false_iff,decide_eq_false_iff_not] at hgd0); exact(zaY rfl rfl (by omega) (by omega))) ?_
        refine zaz rfl rfl (fun hgd=>by(try rw [hgd]); have hgd0:=hgd; (try simp only [Bool.not_eq_true',Bool.or_eq_false_iff,decide_eq_false_iff_not] at hgd0); exact(zab zdx rfl)) ?_
        refine zaz rfl rfl (fun hgd=>by(try rw [hgd]); have hgd0:=hgd; (try simp only [Bool.not_eq_true',Bool.or_eq_false_iff,decide_eq_false_iff_not] at hgd0); exact(zah 1 tf3 rfl rfl rfl)) ?_
        refine zaz rfl rfl (fun hgd=>by(try rw [hgd]); have hgd0:=hgd; (try simp only [Bool.not_eq_true',Bool.or_eq_false_iff,decide_eq_false_iff_not] at hgd0); exact(zeT rfl rfl)) ?_
        refine ph_y (zaR rfl rfl rfl) ?_
        refine ph_y (zad rfl) ?_
        refine zag (zae (T':=[(2,_),(3,_),(4,_),(5,_),(6,_),(7,_),(9,_)]) ⟨rfl,rfl,rfl,rfl,rfl,rfl,rfl,trivial⟩ ?_)
        refine zac ?_
        refine zaa ?_
        refine gk_y rfl rfl (zaf rfl) ?_
        refine gk_y rfl rfl (zbR rfl) ?_
        refine zag (zae (T':=[(2,_),(3,_),(4,_),(5,_),(6,_),(7,_),(167,_)]) ⟨rfl,rfl,rfl,rfl,rfl,rfl,rfl,trivial⟩ ?_)
        refine zap rfl (fun hc167=>?_) (fun hc167=>?_)
        ·have hm:zea (v.opens.getD (i).toNat default) (v.opens.getD (k).toNat default)=true:=by rw [znr]; exact hc167
         refine zac ?_
         refine zaa ?_
         refine gk_y rfl rfl (zad rfl) ?_
         refine zag (zae (T':=[(2,_),(3,_),(4,_),(5,_),(6,_),(7,_)]) ⟨rfl,rfl,rfl,rfl,rfl,rfl,trivial⟩ ?_)
         refine zaw ?_
         refine zay (zaC rfl (zau rfl)) ?_
         rw [zhH g0 hc30 (zon k0 hc120 hc30 hm)]
        ·have hm:zea (v.opens.getD (i).toNat default) (v.opens.getD (k).toNat default)=false:=by rw [znr]; exact hc167
         refine zaq ?_
         refine zaa ?_
         refine gk_y rfl rfl (zaf rfl) ?_
         refine gk_y rfl rfl (zaY rfl rfl (by omega) (by omega)) ?_
         refine gk_y rfl rfl (zad rfl) ?_
         refine zag (zae (T':=[(2,_),(3,_),(4,_),(5,_),(6,_),(7,_)]) ⟨rfl,rfl,rfl,rfl,rfl,rfl,trivial⟩ ?_)
         refine zaK 0 rfl ?_
         exact za1 (k+1) ⟨rfl,rfl,rfl,rfl,rfl,rfl,trivial⟩ rfl ⟨by omega,by omega,zdP (f:=fun j=>zea (v.opens.getD (i).toNat default) (v.opens.getD j default)) k0 k2 hm⟩ (by omega)
       ·have hc120:=of_decide_eq_false hc120
        have hyes:=zoo hc30 hfit2 hc120 k2
        refine za8 rfl ?_
        refine zaa ?_
        refine gk_y rfl rfl (zaf rfl) ?_
        refine gk_y rfl rfl (zaY rfl rfl (by omega) (by omega)) ?_
        refine gk_y rfl rfl (zad rfl) ?_
        refine zag (zae (T':=[(2,_),(3,_),(4,_),(5,_)]) ⟨rfl,rfl,rfl,rfl,trivial⟩ ?_)
        refine zaK 0 rfl ?_
        exact za1 (i+1) ⟨rfl,rfl,rfl,rfl,trivial⟩ rfl ⟨by omega,by omega,zdu g0 g2 hyes⟩ (by omega)
   ·have hc30:=of_decide_eq_false hc30
    refine za8 rfl ?_
    refine zac ?_
    refine zaa ?_
    refine gk_y rfl rfl (zad rfl) ?_
    refine zag (zae (T':=[(4,_)]) ⟨rfl,trivial⟩ ?_)
    refine zaw ?_
    refine zay (zaC rfl (zau rfl)) ?_
    rw [zn0 hw0 hc30 g2]
set_option maxRecDepth 100000 in
set_option maxHeartbeats 4000000 in
theorem zsf (a:Option Addr) (cap:Nat) (S:List ShC) (b:Option Addr) (bcap:Nat) (V:List WlC) (w:World) (hl:Has w (zaW a 20 zbH S)) (hs:zaP S.length) (hlw:Has w (zaW b 4 zbS V)) (hsw:zaP V.length) (hsh:∀ z∈S,Has w (Ints z.a z.s.heights)) (hss:∀ z∈S,zaP z.s.heights.length) (hwo:∀ z∈V,Has w (zaW z.a 5 zba z.s.opens)) (hsv:∀ z∈V,zaP z.s.opens.length) (_hcp:∀ z∈V,z.s.opens.length≤z.cap) (hkn:∀ z∈V,∀ o∈z.s.opens,Knd o) (hfS:∀ z∈S,Fits z.s.name.size) (hfV:∀ z∈V,Fits z.s.name.size) (hco:∀ z∈S,0≤z.s.cope) :
  Calls Tryz.prog 15 #[.agg #[.slice a S.length cap,.slice b V.length bcap]] w (Pure (.bool (zc4 S V)) w):=by
 refine zan (vs:=[_]) Tryz.func15 rfl rfl (Nat.le_of_ble_eq_true rfl) ?_
 refine zac ?_
 refine zaa ?_
 refine zaG rfl rfl (za3 (vs:=[_,_]) rfl rfl) fun b1=>?_
 refine gk_y rfl rfl (zad rfl) ?_
 refine zag (zae (T':=[(1,_),(2,_)]) ⟨rfl,rfl,trivial⟩ ?_)
 refine zac ?_
 refine zac ?_
 refine zaa ?_
 refine gk_y rfl rfl (zad rfl) ?_
 refine zag (zae (T':=[(1,_),(2,_),(3,_)]) ⟨rfl,rfl,rfl,trivial⟩ ?_)
 refine zas ?_
 refine zbf (X:=Int) (fun(i:Int)=>[(1,.pointer (some ⟨b1,0,none⟩)),(2,.bool false),(3,.int .i64 i)]) (fun(i:Int)=>[Box b1 [.slice a S.length cap,.slice b V.length bcap] 25]) (fun(i:Int)=>(0≤i∧i≤S.length∧∀ j:Nat,(j:Int) < i→shAt S j=true)) (fun(i:Int)=>(S.length - i).toNat) 0 ⟨rfl,rfl,rfl,trivial⟩ rfl ?_ ?_
 ·exact⟨by omega,by omega,fun j hj=>by omega⟩
 ·rintro i hI
  obtain⟨g0,g1,g2⟩:=hI
  refine zac ?_
  refine zac ?_
  refine zaa ?_
  refine gk_y rfl rfl (zaf rfl) ?_
  refine gk_y rfl rfl (zab zd6 rfl) ?_
  refine gk_y rfl rfl (zah 0 tf22 rfl rfl rfl) ?_
  refine gk_y rfl rfl (zaV (Tryz.underlying22) rfl) ?_
  refine gk_y rfl rfl (zbw rfl rfl) ?_
  refine zag (zae (T':=[(1,_),(2,_),(3,_),(10,_)]) ⟨rfl,rfl,rfl,rfl,trivial⟩ ?_)
  refine zap rfl (fun hc10=>?_) (fun hc10=>?_)
  ·have hc10:=of_decide_eq_true hc10
   refine zaq ?_
   refine zac ?_
   refine zas ?_
   refine zac ?_
   refine zbb 19 (fun _=>mixed) (by kernel_rfl) ?_
   refine ph_y (zab zd6 rfl) ?_
   refine ph_y (zah 0 tf22 rfl rfl rfl) ?_
   refine ph_y (zaf rfl) ?_
   refine ph_y (zaE se22 rfl rfl (fun _ hw=>(Rd.has (Has.rd hl) hw)) (by omega) (by omega)) ?_
   refine ph_y (zbv (vs:=[_,_,_,_,_,_,_,_,_,_,_,_,_,_,_,_,_,_,_,_]) tf37 rfl (fun _ hw=>(Rd.has (Has.rd hl) hw)) (by omega) (by omega) rfl) ?_
   refine ph_y (zaJ en19 rfl (fun w hw=>zkm ((S.getD (i).toNat default).a) ((S.getD (i).toNat default).cap) ((S.getD (i).toNat default).s) w (Rd.has (Has.rd (hsh _ (za0 (by omega)))) hw) (hss _ (za0 (by omega))) (hco _ (za0 (by omega))) (hfS _ (za0 (by omega))))) ?_
   refine ph_y (zbR rfl) ?_
   refine ph_y (zaf rfl) ?_
   refine zaz rfl rfl (fun hgd=>by(try rw [hgd]); have hgd0:=hgd; (try simp only [Bool.not_eq_true',Bool.not_eq_false'] at hgd0); exact(zat 0 tf25 rfl rfl (vs:=[_,_]) rfl rfl)) ?_
   refine zaz rfl rfl (fun hgd=>by(try rw [hgd]); have hgd0:=hgd; (try simp only [Bool.not_eq_true',Bool.not_eq_false'] at hgd0); exact(zab zd6 rfl)) ?_
   refine zaz rfl rfl (fun hgd=>by(try rw [hgd]); have hgd0:=hgd; (try simp only [Bool.not_eq_true',Bool.not_eq_false'] at hgd0); exact(zah 0 tf22 rfl rfl rfl)) ?_
   refine zaz rfl rfl (fun hgd=>by(try rw [hgd]); have hgd0:=hgd; (try simp only [Bool.not_eq_true',Bool.not_eq_false'] at hgd0); exact(zaf rfl)) ?_
   refine zaz rfl rfl (fun hgd=>by(try rw [hgd]); have hgd0:=hgd; (try simp only [Bool.not_eq_true',Bool.not_eq_false'] at hgd0); exact(zaE se22 rfl rfl (fun _ hw=>(Rd.has (Has.rd hl) hw)) (by omega) (by omega))) ?_
   refine zaz rfl rfl (fun hgd=>by(try rw [hgd]); have hgd0:=hgd; (try simp only [Bool.not_eq_true',Bool.not_eq_false'] at hgd0); exact(zbh zkW rfl (fun w hw=>zaO (i:=i) (Rd.has (Has.rd hl) hw) (by omega) (by omega)))) ?_
   refine zaz rfl rfl (fun hgd=>by(try rw [hgd]); have hgd0:=hgd; (try simp only [Bool.not_eq_true',Bool.not_eq_false'] at hgd0); exact(zbn tf9 rfl (fun _ hw=>(Rd.has (Has.rd hl) hw)) (by omega) (by omega) rfl)) ?_
   refine zaz rfl rfl (fun hgd=>by(try rw [hgd]); have hgd0:=hgd; (try simp only [Bool.not_eq_true',Bool.not_eq_false'] at hgd0); exact(zaJ (v:=.int .i64 (zaS S ((S.getD (i).toNat default).s.name))) en41 rfl (fun w hw=>zfq _ _ S _ _ _ _ w (Rd.has (Has.rd hl) hw) (by assumption)))) ?_
   refine zaz rfl rfl (fun hgd=>by(try rw [hgd]); have hgd0:=hgd; (try simp only [Bool.not_eq_true',Bool.not_eq_false'] at hgd0); exact(zaf rfl)) ?_
   refine zaz rfl rfl (fun hgd=>by(try rw [hgd]); have hgd0:=hgd; (try simp only [Bool.not_eq_true',Bool.not_eq_false'] at hgd0); exact(zcr rfl rfl)) ?_
   refine ph_y (zaR rfl rfl rfl) ?_
   refine zag (zae (T':=[(1,_),(2,_),(3,_),(31,_)]) ⟨rfl,rfl,rfl,rfl,trivial⟩ ?_)
   refine zap rfl (fun hc31=>?_) (fun hc31=>?_)
   ·have hno:shAt S i.toNat=false:=zqg ((znR g0 hc10).symm.trans hc31)
    refine zac ?_
    refine zaa ?_
    refine gk_y rfl rfl (zad rfl) ?_
    refine zag (zae (T':=[(1,_),(2,_),(3,_)]) ⟨rfl,rfl,rfl,trivial⟩ ?_)
    refine zaw ?_
    refine zay (zaC rfl (zau rfl)) ?_
    rw [znF g0 hc10 hno]
   ·have hyes:shAt S i.toNat=true:=zll ((znR g0 hc10).symm.trans hc31)
    refine zaq ?_
    refine zaa ?_
    refine gk_y rfl rfl (zaf rfl) ?_
    refine gk_y rfl rfl (zaY rfl rfl (by omega) (by omega)) ?_
    refine gk_y rfl rfl (zad rfl) ?_
    refine zag (zae (T':=[(1,_),(2,_),(3,_)]) ⟨rfl,rfl,rfl,trivial⟩ ?_)
    exact za1 (i+1) ⟨rfl,rfl,rfl,trivial⟩ rfl ⟨by omega,by omega,zdu g0 g2 hyes⟩ (by omega)
  ·have hc10:=of_decide_eq_false hc10
   have hS:=zg3 (S:=S) (fun j hj=>g2 j (by omega))
   refine za8 rfl ?_
   refine zac ?_
   refine zac ?_
   refine zaa ?_
   refine gk_y rfl rfl (zad rfl) ?_
   refine zag (zae (T':=[(1,_),(2,_),(4,_)]) ⟨rfl,rfl,rfl,trivial⟩ ?_)
   refine zas ?_
   refine zbf (X:=Int) (fun(i:Int)=>[(1,.pointer (some ⟨b1,0,none⟩)),(2,.bool false),(4,.int .i64 i)]) (fun(i:Int)=>[Box b1 [.slice a S.length cap,.slice b V.length bcap] 25]) (fun(i:Int)=>(0≤i∧i≤V.length∧∀ j:Nat,(j:Int) < i→wlAt S V j=true)) (fun(i:Int)=>(V.length - i).toNat) 0 ⟨rfl,rfl,rfl,trivial⟩ rfl ?_ ?_
   ·exact⟨by omega,by omega,fun j hj=>by omega⟩
   ·rintro i hI
    obtain⟨k0,k1,k2⟩:=hI
    refine zac ?_
    refine zac ?_
    refine zaa ?_
    refine gk_y rfl rfl (zaf rfl) ?_
    refine gk_y rfl rfl (zab zdT rfl) ?_
    refine gk_y rfl rfl (zah 0 tf23 rfl rfl rfl) ?_
    refine gk_y rfl rfl (zaV (Tryz.underlying23) rfl) ?_
    refine gk_y rfl rfl (zbw rfl rfl) ?_
    refine zag (zae (T':=[(1,_),(2,_),(4,_),(36,_)]) ⟨rfl,rfl,rfl,rfl,trivial⟩ ?_)
    refine zap rfl (fun hc36=>?_) (fun hc36=>?_)
    ·have hc36:=of_decide_eq_true hc36
     have hlt:=fun h=>ziE (S:=S) (n:=(V.getD (i).toNat default).s.sheet) h
     refine zaq ?_
     refine zac ?_
     refine zas ?_
     refine zac ?_
     refine zbb 9 (fun _=>mixed) (by kernel_rfl) ?_
     refine ph_y (zat 0 tf25 rfl rfl (vs:=[_,_]) rfl rfl) ?_
     refine ph_y (zab zdT rfl) ?_
     refine ph_y (zah 0 tf23 rfl rfl rfl) ?_
     refine ph_y (zaf rfl) ?_
     refine ph_y (zaE se23 rfl rfl (fun _ hw=>(Rd.has (Has.rd hlw) hw)) (by omega) (by omega)) ?_
     refine ph_y (zbh zpy rfl (fun w hw=>zaO (i:=i) (Rd.has (Has.rd hlw) hw) (by omega) (by omega))) ?_
     refine ph_y (zbn tf9 rfl (fun _ hw=>(Rd.has (Has.rd hlw) hw)) (by omega) (by omega) rfl) ?_
     refine ph_y (zaJ en41 rfl (fun w hw=>zfq _ _ S _ _ _ _ w (Rd.has (Has.rd hl) hw) (by assumption))) ?_
     refine ph_y (zad rfl) ?_
     refine zag (zae (T':=[(1,_),(2,_),(4,_),(5,_)]) ⟨rfl,rfl,rfl,rfl,trivial⟩ ?_)
     refine zac ?_
     refine zbb 28 (fun _=>mixed) (by kernel_rfl) ?_
     refine ph_y (zaf rfl) ?_
     refine ph_y (zbw rfl rfl) ?_
     refine ph_y (zaf rfl) ?_
     refine zaz rfl rfl (fun hgd=>by(try rw [hgd]); have hgd0:=hgd; (try simp only [Bool.not_eq_true',decide_eq_false_iff_not] at hgd0); exact(zab zdT rfl)) ?_
     refine zaz rfl rfl (fun hgd=>by(try rw [hgd]); have hgd0:=hgd; (try simp only [Bool.not_eq_true',decide_eq_false_iff_not] at hgd0); exact(zah 0 tf23 rfl rfl rfl)) ?_
     refine zaz rfl rfl (fun hgd=>by(try rw [hgd]); have hgd0:=hgd; (try simp only [Bool.not_eq_true',decide_eq_false_iff_not] at hgd0); exact(zaf rfl)) ?_
     refine zaz rfl rfl (fun hgd=>by(try rw [hgd]); have hgd0:=hgd; (try simp only [Bool.not_eq_true',decide_eq_false_iff_not] at hgd0); exact(zaE se23 rfl rfl (fun _ hw=>(Rd.has (Has.rd hlw) hw)) (by omega) (by omega))) ?_
     refine zaz rfl rfl (fun hgd=>by(try rw [hgd]); have hgd0:=hgd; (try simp only [Bool.not_eq_true',decide_eq_false_iff_not] at hgd0); exact(zbv (vs:=[_,_,_,_]) tf65 rfl (fun _ hw=>(Rd.has (Has.rd hlw) hw)) (by omega) (by omega) rfl)) ?_
     refine zaz rfl rfl (fun hgd=>by(try rw [hgd]); have hgd0:=hgd; (try simp only [Bool.not_eq_true',decide_eq_false_iff_not] at hgd0); exact(zab zd6 rfl)) ?_
     refine zaz rfl rfl (fun hgd=>by(try rw [hgd]); have hgd0:=hgd; (try simp only [Bool.not_eq_true',decide_eq_false_iff_not] at hgd0); exact(zah 0 tf22 rfl rfl rfl)) ?_
     refine zaz rfl rfl (fun hgd=>by(try rw [hgd]); have hgd0:=hgd; (try simp only [Bool.not_eq_true',decide_eq_false_iff_not] at hgd0); exact(zaf rfl)) ?_
     refine zaz rfl rfl (fun hgd=>by(try rw [hgd]); have hgd0:=hgd; (try simp only [Bool.not_eq_true',decide_eq_false_iff_not] at hgd0); exact(zaE se22 rfl rfl (fun _ hw=>(Rd.has (Has.rd hl) hw)) (by omega) (by omega))) ?_
     refine zaz rfl rfl (fun hgd=>by(try rw [hgd]); have hgd0:=hgd; (try simp only [Bool.not_eq_true',decide_eq_false_iff_not] at hgd0); exact(zbv (vs:=[_,_,_,_,_,_,_,_,_,_,_,_,_,_,_,_,_,_,_,_]) tf37 rfl (fun _ hw=>(Rd.has (Has.rd hl) hw)) (by omega) (by omega) rfl)) ?_
     refine zaz rfl rfl (fun hgd=>by(try rw [hgd]); have hgd0:=hgd; (try simp only [Bool.not_eq_true',decide_eq_false_iff_not] at hgd0); exact(zaJ (v:=.bool (zd1 ((S.getD ((zaS S ((V.getD (i).toNat default).s.sheet))).toNat default).s).height ((V.getD (i).toNat default).s))) en45 rfl (fun w hw=>zlx ((V.getD (i).toNat default).a) ((V.getD (i).toNat default).cap) ((V.getD (i).toNat default).s) ((S.getD ((zaS S ((V.getD (i).toNat default).s.sheet))).toNat default).a) ((S.getD ((zaS S ((V.getD (i).toNat default).s.sheet))).toNat default).cap) ((S.getD ((zaS S ((V.getD (i).toNat default).s.sheet))).toNat default).s) w (Rd.has (Has.rd (hwo _ (za0 (by omega)))) hw) (hsv _ (za0 (by omega))) (hkn _ (za0 (by omega))) (by have:=(zaZ (hS _ (za0 (l:=S) (i:=(zaS S (V.getD (i).toNat default).s.sheet).toNat) (by omega)))).height; omega) (hfV _ (za0 (by omega)))))) ?_
     refine zaz rfl rfl (fun hgd=>by(try rw [hgd]); have hgd0:=hgd; (try simp only [Bool.not_eq_true',decide_eq_false_iff_not] at hgd0); exact(zbR rfl)) ?_
     refine ph_y (zaR rfl rfl rfl) ?_
     refine ph_y (zaf rfl) ?_
     refine zaz rfl rfl (fun hgd=>by(try rw [hgd]); have hgd0:=hgd; (try simp only [Bool.not_eq_true',Bool.or_eq_false_iff,Bool.not_eq_false',decide_eq_false_iff_not] at hgd0); exact(zat 0 tf25 rfl rfl (vs:=[_,_]) rfl rfl)) ?_
     refine zaz rfl rfl (fun hgd=>by(try rw [hgd]); have hgd0:=hgd; (try simp only [Bool.not_eq_true',Bool.or_eq_false_iff,Bool.not_eq_false',decide_eq_false_iff_not] at hgd0); exact(zab zdT rfl)) ?_
     refine zaz rfl rfl (fun hgd=>by(try rw [hgd]); have hgd0:=hgd; (try simp only [Bool.not_eq_true',Bool.or_eq_false_iff,Bool.not_eq_false',decide_eq_false_iff_not] at hgd0); exact(zah 0 tf23 rfl rfl rfl)) ?_
     refine zaz rfl rfl (fun hgd=>by(try rw [hgd]); have hgd0:=hgd; (try simp only [Bool.not_eq_true',Bool.or_eq_false_iff,Bool.not_eq_false',decide_eq_false_iff_not] at hgd0); exact(zaf rfl)) ?_
     refine zaz rfl rfl (fun hgd=>by(try rw [hgd]); have hgd0:=hgd; (try simp only [Bool.not_eq_true',Bool.or_eq_false_iff,Bool.not_eq_false',decide_eq_false_iff_not] at hgd0); exact(zaE se23 rfl rfl (fun _ hw=>(Rd.has (Has.rd hlw) hw)) (by omega) (by omega))) ?_
     refine zaz rfl rfl (fun hgd=>by(try rw [hgd]); have hgd0:=hgd; (try simp only [Bool.not_eq_true',Bool.or_eq_false_iff,Bool.not_eq_false',decide_eq_false_iff_not] at hgd0); exact(zbh znf rfl (fun w hw=>zaO (i:=i) (Rd.has (Has.rd hlw) hw) (by omega) (by omega)))) ?_
     refine zaz rfl rfl (fun hgd=>by(try rw [hgd]); have hgd0:=hgd; (try simp only [Bool.not_eq_true',Bool.or_eq_false_iff,Bool.not_eq_false',decide_eq_false_iff_not] at hgd0); exact(zbn tf9 rfl (fun _ hw=>(Rd.has (Has.rd hlw) hw)) (by omega) (by omega) rfl)) ?_
     refine zaz rfl rfl (fun hgd=>by(try rw [hgd]); have hgd0:=hgd; (try simp only [Bool.not_eq_true',Bool.or_eq_false_iff,Bool.not_eq_false',decide_eq_false_iff_not] at hgd0); exact(zaJ (v:=.int .i64 (zaM V ((V.getD (i).toNat default).s.name))) en27 rfl (fun w hw=>zf9 _ _ _ _ _ V _ w (Rd.has (Has.rd hlw) hw) (by assumption)))) ?_
     refine zaz rfl rfl (fun hgd=>by(try rw [hgd]); have hgd0:=hgd; (try simp only [Bool.not_eq_true',Bool.or_eq_false_iff,Bool.not_eq_false',decide_eq_false_iff_not] at hgd0); exact(zaf rfl)) ?_
     refine zaz rfl rfl (fun hgd=>by(try rw [hgd]); have hgd0:=hgd; (try simp only [Bool.not_eq_true',Bool.or_eq_false_iff,Bool.not_eq_false',decide_eq_false_iff_not] at hgd0); exact(zcr rfl rfl)) ?_
     refine ph_y (zaR rfl rfl rfl) ?_
     refine zag (zae (T':=[(1,_),(2,_),(4,_),(74,_)]) ⟨rfl,rfl,rfl,rfl,trivial⟩ ?_)
     refine zap rfl (fun hc74=>?_) (fun hc74=>?_)
     ·have hno:wlAt S V i.toNat=false:=zqg ((zn4 k0 hc36).symm.trans hc74)
      refine zac ?_
      refine zaa ?_
      refine gk_y rfl rfl (zad rfl) ?_
      refine zag (zae (T':=[(1,_),(2,_),(4,_)]) ⟨rfl,rfl,rfl,trivial⟩ ?_)
      refine zaw ?_
      refine zay (zaC rfl (zau rfl)) ?_
      rw [znG k0 hc36 hno]
     ·have hyes:wlAt S V i.toNat=true:=zll ((zn4 k0 hc36).symm.trans hc74)
      refine zaq ?_
      refine zaa ?_
      refine gk_y rfl rfl (zaf rfl) ?_
      refine gk_y rfl rfl (zaY rfl rfl (by omega) (by omega)) ?_
      refine gk_y rfl rfl (zad rfl) ?_
      refine zag (zae (T':=[(1,_),(2,_),(4,_)]) ⟨rfl,rfl,rfl,trivial⟩ ?_)
      exact za1 (i+1) ⟨rfl,rfl,rfl,trivial⟩ rfl ⟨by omega,by omega,zdu k0 k2 hyes⟩ (by omega)
    ·have hc36:=of_decide_eq_false hc36
     refine za8 rfl ?_
     refine zac ?_
     refine zbb 11 (fun _=>mixed) (by kernel_rfl) ?_
     refine ph_y (zab zd6 rfl) ?_
     refine ph_y (zah 0 tf22 rfl rfl rfl) ?_
     refine ph_y (zaV (Tryz.underlying22) rfl) ?_
     refine ph_y (zeT rfl rfl) ?_
     refine ph_y (zaf rfl) ?_
     refine zaH rfl rfl (fun hgd=>by(try rw [hgd]); exact(zab zdT rfl)) ?_
     refine zaH rfl rfl (fun hgd=>by(try rw [hgd]); exact(zah 0 tf23 rfl rfl rfl)) ?_
     refine zaH rfl rfl (fun hgd=>by(try rw [hgd]); exact(zaV (Tryz.underlying23) rfl)) ?_
     refine zaH rfl rfl (fun hgd=>by(try rw [hgd]); exact(zeT rfl rfl)) ?_
     refine ph_y (zaX rfl rfl rfl) ?_
     refine ph_y (zad rfl) ?_
     refine zag (zae (T':=[(2,_)]) ⟨rfl,trivial⟩ ?_)
     refine zaw ?_
     refine zay (zaC rfl (zau rfl)) ?_
     rw [znH hc10 hc36 g2 k2]
end Go.Proofs.YtdcfcfhmkfkgmaaGreatDoor
namespace Go.Proofs.YtdcfcfhmkfkgmaaGreatDoor
open Go.K Go.Stn Go.Pln Go.RowKit
noncomputable def daleT:ByteArray:=match Tryz.f42.body with
 | some (.seq _ (.seq (.region _ ops _) _))=>(match ops[0]? with
  | some o=>(match o.op with
   | .assign (.const (.string b))=>b
   | _=>⟨#[]⟩)
  | none=>⟨#[]⟩)
 | _=>⟨#[]⟩
set_option maxRecDepth 100000 in
set_option maxHeartbeats 1000000 in
theorem zvl  (w:World)  :
  Calls Tryz.prog 42 #[] w (Pure (.string daleT) w):=by
 refine zan (vs:=[]) Tryz.func42 rfl rfl (Nat.le_of_ble_eq_true rfl) ?_
 refine zac ?_
 refine zaa ?_
 refine gk_y rfl rfl (zad rfl) ?_
 refine zag (zae (T':=[(0,_)]) ⟨rfl,trivial⟩ ?_)
 refine zac ?_
 refine zaa ?_
 refine gk_y rfl rfl (zad rfl) ?_
 refine zag (zae (T':=[(0,_)]) ⟨rfl,trivial⟩ ?_)
 refine zaw ?_
 refine zay (zaC rfl (zau rfl)) ?_
 rfl
theorem zpe:daleT.size≤40000:=by decide +kernel
end Go.Proofs.YtdcfcfhmkfkgmaaGreatDoor
namespace Go.K
open Go Go.RowKit
section
variable {α:Type} {k:Nat} {enc:α→List Value} {P:Program}
theorem zi0 {t ty e:TypeId} {by_:Nat} {zs:List Value} (hf:AF P t e k by_ zs) (he:Enc k enc) {a a2:Option Addr} {cap c2:Nat} {l m:List α} {w:World} (hRo:Has w (Row a k cap e enc l)) (hm:Has w (zaW a2 k enc m)) (hb:(l.length+m.length)*by_≤140737488355328) (hl:l.length+m.length≤maxLen) (hg:cap < l.length+m.length) :
  ∃ a' cap' w',(Builtin.append_ #[t,t] ty #[.slice a l.length cap,.slice a2 m.length c2]).run P w=.ok (.slice a' (l++m).length cap') w'∧Ext w w'∧New w w' (Row a' k cap' e enc (l++m)):=by
 obtain⟨B,_,hR⟩:=hRo
 have hi:=hf.i
 cases hu:P.info? e with
 | none=>rw [hu] at hi; cases hi
 | some i=>
 rw [hu] at hi
 simp only [Option.map_some,Option.some.injEq,Prod.mk.injEq] at hi
 obtain⟨hsz,hby,hz⟩:=hi
 cases hz0:i.zero with
 | none=>rw [hz0] at hz; cases hz
 | some z=>
 have hzl:z.cells.size=i.size:=by
  rw [hz0] at hz
  simp only [Option.map_some,Option.some.injEq] at hz
  rw [hsz,←hf.zl,←hz]; simp
 have hcap:=Row.bounds hR
 have hsmall:l.length+m.length≤9223372036854775807:=by simp only [maxLen] at hl; omega
 have hm0:m≠[]:=fun h=>by subst h; simp at hg; omega
 obtain⟨x0,m',hm1⟩:∃ x m',m=x :: m':=by cases m with
  | nil=>exact absurd rfl hm0
  | cons x m'=>exact⟨x,m',rfl⟩
 obtain⟨b2,off2,ha2,_⟩:=zdG hm (i:=0) (x:=x0) (by rw [hm1]; rfl)
 have hmlen:0 < m.length:=by rw [hm1]; simp
 have hnl:(m.flatMap enc).length=m.length*i.size:=by rw [zcd he,hsz]
 have hnews:∀ j v,(m.flatMap enc)[j]?=some v→w.cell? ((⟨b2,off2,none⟩:Addr).add j)=some v:=by
  intro j v hj
  have hjl:j < m.length*k:=by rw [←zcd he]; exact(List.getElem?_eq_some_iff.1 hj).1
  have hq:j / k < m.length:=Nat.div_lt_of_lt_mul (by rwa [Nat.mul_comm])
  obtain⟨b3,off3,ha3,hc3⟩:=zdG hm (i:=j / k) (x:=m[j / k]) (by simp [hq])
  rw [ha2] at ha3
  simp only [Option.some.injEq,Addr.mk.injEq] at ha3
  obtain⟨rfl,rfl,_⟩:=ha3
  have hg:=zeG he m (j / k) m[j / k] (by simp [hq])
  have hmod:j % k < k:=Nat.mod_lt _ he.pos
  have hdm:j / k*k+j % k=j:=by rw [Nat.mul_comm]; exact Nat.div_add_mod j k
  have hv:(enc m[j / k])[j % k]?=some v:=by
   rw [←hg,List.getElem?_take,if_pos hmod,List.getElem?_drop,hdm]; exact hj
  have:=zdQ _ _ _ _ hc3 hv
  rw [zb2]
  rwa [Nat.add_assoc,hdm] at this
 have hone:∀ u∈m.flatMap enc,u.oneCell' = true:=fun u hu'=>zg0 (List.all_eq_true.1 (zfE he m) u hu')
 subst hsz; subst hby
 rcases hR with ⟨ha,hc0,hl0⟩ | ⟨b,off,cs,ha,hB,hbk,h1,h2,h3⟩
 ·subst ha; subst hc0; subst hl0
  have hr:=run_append_nil (P:=P) w t ty e i z hf.u hu hz0 ⟨b2,off2,none⟩ m.length c2 (m.flatMap enc) hnl hnews hmlen (by simp at hsmall; omega) (by simp at hb; omega)
  subst ha2
  refine⟨some ⟨w.heap.size,0,none⟩,grownCap w m.length 0 e,w.drew.alloc (.cells ((m.flatMap enc).toArray++Builtin.zeroCells z.cells (grownCap w m.length 0 e - m.length)) e),by simpa only [List.length_nil,Nat.zero_add,List.nil_append] using hr,⟨rfl,⟨rfl,Nat.le_succ _⟩,rfl,by simp,fun j hj=>heap_alloc_old w.drew _ hj⟩,(· = w.heap.size),fun j hj=>⟨by omega,by subst hj; simp⟩,.inr ⟨w.heap.size,0,m.flatMap enc++(Builtin.zeroCells z.cells (grownCap w m.length 0 e - m.length)).toList,rfl,fun _=>Iff.rfl,?_,?_,?_,?_⟩⟩
  ·refine(World.alloc_heap_new w.drew _).trans ?_
   congr 2
   exact Array.ext' (by simp)
  ·simpa using grownCap_ge w m.length 0 e
  ·have:=grownCap_ge w m.length 0 e
   simp only [List.length_append,hnl,Array.length_toList,size_zeroCells,hzl,Nat.zero_add,←Nat.add_mul]
   exact Nat.mul_le_mul_right _ (by omega)
  ·simp only [List.drop_zero,List.nil_append,←hnl,List.take_left]
 ·subst ha
  have holds:∀ j v,(l.flatMap enc)[j]?=some v→w.cell? ((⟨b,off,none⟩:Addr).add j)=some v:=by
   intro j v hj
   rw [zb2,zgD hbk]
   rw [←h3,List.getElem?_take] at hj
   split at hj
   ·rwa [List.getElem?_drop] at hj
   ·cases hj
  have hlo:(l.flatMap enc).length=l.length*i.size:=zcd he l
  have hr:=run_append_grow (P:=P) w t ty e i z hf.u hu hz0 ⟨b,off,none⟩ l.length cap (l.flatMap enc) hlo holds ⟨b2,off2,none⟩ m.length c2 (m.flatMap enc) hnl hnews hg (by omega) (growslice_fits hg hb)
  subst ha2
  refine⟨some ⟨w.heap.size,0,none⟩,grownCap w (l.length+m.length) cap e,w.drew.alloc (.cells ((l.flatMap enc).toArray++(m.flatMap enc).toArray++Builtin.zeroCells z.cells (grownCap w (l.length+m.length) cap e - (l.length+m.length))) e),by simpa only [List.length_append] using hr,⟨rfl,⟨rfl,Nat.le_succ _⟩,rfl,by simp,fun j hj=>heap_alloc_old w.drew _ hj⟩,(· = w.heap.size),fun j hj=>⟨by omega,by subst hj; simp⟩,.inr ⟨w.heap.size,0,l.flatMap enc++m.flatMap enc++(Builtin.zeroCells z.cells (grownCap w (l.length+m.length) cap e - (l.length+m.length))).toList,rfl,fun _=>Iff.rfl,?_,?_,?_,?_⟩⟩
  ·refine(World.alloc_heap_new w.drew _).trans ?_
   congr 2
   exact Array.ext' (by simp)
  ·simpa using grownCap_ge w (l.length+m.length) cap e
  ·have:=grownCap_ge w (l.length+m.length) cap e
   simp only [List.length_append,hnl,hlo,Array.length_toList,size_zeroCells,hzl,Nat.zero_add,←Nat.add_mul]
   exact Nat.mul_le_mul_right _ (by omega)
  ·simp only [List.drop_zero,List.flatMap_append,List.length_append,Nat.add_mul]
   rw [←hlo,←hnl,←List.length_append,List.take_left]
variable {c:Cx} {ds:List Deferred} {H:List Res} {T:List (Nat×Value)} {d:Option Nat} {ty:TypeId} {ps:String} {af:Array Edge} {g:Option (Nat×Bool)} {x y:Operand}
theorem ziA {t ty e:TypeId} {by_:Nat} {zs:List Value} (hf:AF P t e k by_ zs) {a a2:Option Addr} {n cap c2:Nat} {w:World} (hcap:n≤cap) :
  (Builtin.append_ #[t,t] ty #[.slice a n cap,.slice a2 0 c2]).run P w=.ok (.slice a n cap) w:=by
 have hi:=hf.i
 cases hu:P.info? e with
 | none=>rw [hu] at hi; cases hi
 | some i=>
 have hfc:(Builtin.firstCells i.size 0 (.slice a2 0 c2)).run P w=.ok #[] w:=by
  cases a2 with
  | none=>exact run_firstCells_none w _ _ _ _
  | some b2=>exact run_firstCells_some w i.size 0 b2 _ _ [] (by simp) (by simp)
 cases a with
 | none=>simp [Builtin.append_,run_underlying hf.u,sizeOf,typeInfo,hu,Builtin.lenOf,hcap,hfc]
 | some b1=>simp [Builtin.append_,run_underlying hf.u,sizeOf,typeInfo,hu,Builtin.lenOf,hcap,hfc,storeCells]
theorem zlO {t e:TypeId} {by_:Nat} {zs:List Value} {a a2:Option Addr} {cap c2:Nat} {l m:List α} (hf:AF c.P t e k by_ zs) (he:Enc k enc)
  (hx:evo T x=some (.slice a l.length cap)) (hy:evo T y=some (.slice a2 m.length c2)) (hl:∀ w,Hp c.U c.w0 H w→Has w (Row a k cap e enc l)) (hm:∀ w,Hp c.U c.w0 H w→Has w (zaW a2 k enc m))
  (hb:(l.length+m.length)*by_≤140737488355328) (hlm:l.length+m.length≤maxLen) (hg:cap < l.length+m.length) :
  YX c ds H T ⟨d,.call ⟨.builtin .append,#[x,y],#[t,t]⟩,ty,ps,af,g⟩ (fun z:Option Addr×Nat=>.slice z.1 (l++m).length z.2) (fun z=>Row z.1 k z.2 e enc (l++m)):=by
 refine⟨fun A w hs hw=>?_⟩
 obtain⟨a',cap',w',hr,hx',hn⟩:=zi0 (P:=c.P) (ty:=ty) hf he (c2:=c2) (hl w hw) (hm w hw) hb hlm hg
 unfold Yld
 rw [zcp («as»:=[x,y]) (vs:=[.slice a l.length cap,.slice a2 m.length c2]) (by simp [evs,hx,hy]) hs w]
 simp only [builtin]
 rw [zbu hr]
 exact⟨(a',cap'),rfl,hx',hn⟩
end
end Go.K
namespace Go.K
open Go Go.RowKit Go.Shelf Go.Proofs
theorem ziY (w:World) (e:TypeId) (s:ByteArray):Ext w (Lib.bytesWorld w e s):=by
 have h1:Ext w (w.drew.alloc (.cells (Lib.bytesCells w e s) e)):=⟨rfl,⟨rfl,Nat.le_succ _⟩,rfl,by simp,fun j hj=>heap_alloc_old w.drew _ hj⟩
 have hw:Lib.bytesWorld w e s={ (w.drew.alloc (.cells (Lib.bytesCells w e s) e)) with heap:=(Lib.bytesWorld w e s).heap }:=by
  unfold Lib.bytesWorld World.freeze
  rfl
 rw [hw]
 refine⟨rfl,⟨rfl,Nat.le_succ _⟩,rfl,?_,fun k hk=>?_⟩
 ·show w.heap.size≤(Lib.bytesWorld w e s).heap.size
  unfold Lib.bytesWorld World.freeze
  simp
 ·show(Lib.bytesWorld w e s).heap[k]?=_
  unfold Lib.bytesWorld World.freeze
  refine Array.getElem?_modify.trans ?_
  rw [if_neg (by show ¬ w.heap.size=k; omega)]
  exact h1.block k hk
end Go.K