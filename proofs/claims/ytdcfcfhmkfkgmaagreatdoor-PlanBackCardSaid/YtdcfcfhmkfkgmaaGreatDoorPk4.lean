/- What the proof of the root text leans on, part 4: the layer, plain facts and walks. No statement of the seat is proved in this text. -/
import Derived.Test.YtdcfcfhmkfkgmaaGreatDoorPk3
namespace Go.Proofs.YtdcfcfhmkfkgmaaGreatDoor
open Go.K Go.Stn Go.Pln Go.RowKit
theorem tf9:TF Tryz.prog 9 false 1 (.string ⟨#[]⟩):=⟨by kernel_rfl,by kernel_rfl⟩
theorem tf35:TF Tryz.prog 35 false 1 (.slice none 0 0):=⟨by kernel_rfl,by kernel_rfl⟩
theorem tf37:TF Tryz.prog 37 true 20 (.agg #[.string ⟨#[]⟩,.int IntKind.i64 0,.int IntKind.i64 0,.int IntKind.i64 0,.int IntKind.i64 0,.slice none 0 0,.int IntKind.i64 0,.int IntKind.i64 0,.int IntKind.i64 0,.int IntKind.i64 0,.int IntKind.i64 0,.int IntKind.i64 0,.int IntKind.i64 0,.int IntKind.u8 0,.int IntKind.i64 0,.int IntKind.i64 0,.int IntKind.i64 0,.int IntKind.i64 0,.int IntKind.i64 0,.int IntKind.i64 0]):=⟨by kernel_rfl,by kernel_rfl⟩
theorem tf41:TF Tryz.prog 41 true 20 (.agg #[.string ⟨#[]⟩,.int IntKind.i64 0,.int IntKind.i64 0,.int IntKind.i64 0,.int IntKind.i64 0,.slice none 0 0,.int IntKind.i64 0,.int IntKind.i64 0,.int IntKind.i64 0,.int IntKind.i64 0,.int IntKind.i64 0,.int IntKind.i64 0,.int IntKind.i64 0,.int IntKind.u8 0,.int IntKind.i64 0,.int IntKind.i64 0,.int IntKind.i64 0,.int IntKind.i64 0,.int IntKind.i64 0,.int IntKind.i64 0]):=⟨by kernel_rfl,by kernel_rfl⟩
theorem zkW:FO Tryz.prog 37 0 0:=⟨by kernel_rfl⟩
theorem zdC:FO Tryz.prog 37 3 3:=⟨by kernel_rfl⟩
theorem zkX:FO Tryz.prog 37 4 4:=⟨by kernel_rfl⟩
theorem zgl:FO Tryz.prog 37 5 5:=⟨by kernel_rfl⟩
theorem zpt:FO Tryz.prog 37 6 6:=⟨by kernel_rfl⟩
theorem zsI:FO Tryz.prog 37 7 7:=⟨by kernel_rfl⟩
theorem zsJ:FO Tryz.prog 37 8 8:=⟨by kernel_rfl⟩
theorem zjh:FO Tryz.prog 37 9 9:=⟨by kernel_rfl⟩
theorem zjU:FO Tryz.prog 37 10 10:=⟨by kernel_rfl⟩
theorem zl4:FO Tryz.prog 37 11 11:=⟨by kernel_rfl⟩
theorem zl5:FO Tryz.prog 37 12 12:=⟨by kernel_rfl⟩
theorem zfb:FO Tryz.prog 37 13 13:=⟨by kernel_rfl⟩
theorem zjV:FO Tryz.prog 37 14 14:=⟨by kernel_rfl⟩
theorem zh7:FO Tryz.prog 37 15 15:=⟨by kernel_rfl⟩
theorem zh8:FO Tryz.prog 37 16 16:=⟨by kernel_rfl⟩
theorem zpr:FO Tryz.prog 37 17 17:=⟨by kernel_rfl⟩
theorem zl6:FO Tryz.prog 37 18 18:=⟨by kernel_rfl⟩
theorem zl7:FO Tryz.prog 37 19 19:=⟨by kernel_rfl⟩
theorem znb:FO Tryz.prog 41 0 0:=⟨by kernel_rfl⟩
theorem zep:FO Tryz.prog 41 3 3:=⟨by kernel_rfl⟩
theorem znd:FO Tryz.prog 41 4 4:=⟨by kernel_rfl⟩
theorem zia:FO Tryz.prog 41 5 5:=⟨by kernel_rfl⟩
theorem zpw:FO Tryz.prog 41 6 6:=⟨by kernel_rfl⟩
theorem zsK:FO Tryz.prog 41 7 7:=⟨by kernel_rfl⟩
theorem zsL:FO Tryz.prog 41 8 8:=⟨by kernel_rfl⟩
theorem zhc:FO Tryz.prog 41 9 9:=⟨by kernel_rfl⟩
theorem zh9:FO Tryz.prog 41 10 10:=⟨by kernel_rfl⟩
theorem zl8:FO Tryz.prog 41 11 11:=⟨by kernel_rfl⟩
theorem zl9:FO Tryz.prog 41 12 12:=⟨by kernel_rfl⟩
theorem zpu:FO Tryz.prog 41 17 17:=⟨by kernel_rfl⟩
theorem zma:FO Tryz.prog 41 18 18:=⟨by kernel_rfl⟩
theorem zmb:FO Tryz.prog 41 19 19:=⟨by kernel_rfl⟩
theorem zpx:FO Tryz.prog 49 1 1:=⟨by kernel_rfl⟩
theorem zgm:FO Tryz.prog 50 1 1:=⟨by kernel_rfl⟩
theorem se38:SE Tryz.prog 38 49 2:=⟨Tryz.underlying38,by kernel_rfl⟩
theorem se46:SE Tryz.prog 46 50 2:=⟨Tryz.underlying46,by kernel_rfl⟩
theorem af38:AF Tryz.prog 38 49 2 16 [.int IntKind.i64 0,.int IntKind.i64 0]:=⟨Tryz.underlying38,by kernel_rfl,rfl⟩
theorem af46:AF Tryz.prog 46 50 2 16 [.int IntKind.i64 0,.int IntKind.i64 0]:=⟨Tryz.underlying46,by kernel_rfl,rfl⟩
theorem en20:En Tryz.prog 20:=za7 Tryz.func20 (by kernel_rfl) (by kernel_rfl)
theorem en21:En Tryz.prog 21:=za7 Tryz.func21 (by kernel_rfl) (by kernel_rfl)
theorem en22:En Tryz.prog 22:=za7 Tryz.func22 (by kernel_rfl) (by kernel_rfl)
theorem en49:En Tryz.prog 49:=za7 Tryz.func49 (by kernel_rfl) (by kernel_rfl)
theorem en50:En Tryz.prog 50:=za7 Tryz.func50 (by kernel_rfl) (by kernel_rfl)
theorem en51:En Tryz.prog 51:=za7 Tryz.func51 (by kernel_rfl) (by kernel_rfl)
theorem en52:En Tryz.prog 52:=za7 Tryz.func52 (by kernel_rfl) (by kernel_rfl)
theorem en54:En Tryz.prog 54:=za7 Tryz.func54 (by kernel_rfl) (by kernel_rfl)
theorem en55:En Tryz.prog 55:=za7 Tryz.func55 (by kernel_rfl) (by kernel_rfl)
theorem en56:En Tryz.prog 56:=za7 Tryz.func56 (by kernel_rfl) (by kernel_rfl)
theorem en57:En Tryz.prog 57:=za7 Tryz.func57 (by kernel_rfl) (by kernel_rfl)
theorem zgQ (x0:Int) (x1:Int) (w:World):(Instr.build 49 #[(0,.int .i64 x0),(1,.int .i64 x1)]).run Tryz.prog w=.ok (.agg #[.int .i64 x0,.int .i64 x1]) w:=by kernel_rfl
theorem zfy (x0:Int) (x1:Int) (w:World):(Instr.build 50 #[(0,.int .i64 x0),(1,.int .i64 x1)]).run Tryz.prog w=.ok (.agg #[.int .i64 x0,.int .i64 x1]) w:=by kernel_rfl
theorem zsE (x0_0:Int) (x0_1:Int) (w:World):(Instr.buildSlice 38 1 #[(0,.agg #[.int .i64 x0_0,.int .i64 x0_1])]).run Tryz.prog w=.ok (.slice (some ⟨w.heap.size,0,none⟩) 1 1) (w.alloc (.cells (([⟨x0_0,x0_1⟩]:List (Crs)).flatMap zbq).toArray 49)):=by kernel_rfl
theorem zo1 (x0_0:Int) (x0_1:Int) (w:World):(Instr.buildSlice 46 1 #[(0,.agg #[.int .i64 x0_0,.int .i64 x0_1])]).run Tryz.prog w=.ok (.slice (some ⟨w.heap.size,0,none⟩) 1 1) (w.alloc (.cells (([⟨x0_0,x0_1⟩]:List (Crs)).flatMap zbq).toArray 50)):=by kernel_rfl
theorem zlS (x0_0:Int) (x0_1:Int) (x0_2:Int) (x1_0:Int) (x1_1:Int) (x1_2:Int) (w:World):(Instr.buildSlice 148 2 #[(0,.agg #[.int .i64 x0_0,.int .i64 x0_1,.int .i64 x0_2]),(1,.agg #[.int .i64 x1_0,.int .i64 x1_1,.int .i64 x1_2])]).run Tryz.prog w=.ok (.slice (some ⟨w.heap.size,0,none⟩) 2 2) (w.alloc (.cells (([⟨x0_0,x0_1,x0_2⟩,⟨x1_0,x1_1,x1_2⟩]:List (Lim)).flatMap zgk).toArray 117)):=by kernel_rfl
theorem zrc (x0_0:Int) (x0_1:Int) (x0_2:Int) (x1_0:Int) (x1_1:Int) (x1_2:Int) (x2_0:Int) (x2_1:Int) (x2_2:Int) (x3_0:Int) (x3_1:Int) (x3_2:Int) (x4_0:Int) (x4_1:Int) (x4_2:Int) (x5_0:Int) (x5_1:Int) (x5_2:Int) (x6_0:Int) (x6_1:Int) (x6_2:Int) (x7_0:Int) (x7_1:Int) (x7_2:Int) (x8_0:Int) (x8_1:Int) (x8_2:Int) (x9_0:Int) (x9_1:Int) (x9_2:Int) (x10_0:Int) (x10_1:Int) (x10_2:Int) (x11_0:Int) (x11_1:Int) (x11_2:Int) (x12_0:Int) (x12_1:Int) (x12_2:Int) (w:World):(Instr.buildSlice 148 13 #[(0,.agg #[.int .i64 x0_0,.int .i64 x0_1,.int .i64 x0_2]),(1,.agg #[.int .i64 x1_0,.int .i64 x1_1,.int .i64 x1_2]),(2,.agg #[.int .i64 x2_0,.int .i64 x2_1,.int .i64 x2_2]),(3,.agg #[.int .i64 x3_0,.int .i64 x3_1,.int .i64 x3_2]),(4,.agg #[.int .i64 x4_0,.int .i64 x4_1,.int .i64 x4_2]),(5,.agg #[.int .i64 x5_0,.int .i64 x5_1,.int .i64 x5_2]),(6,.agg #[.int .i64 x6_0,.int .i64 x6_1,.int .i64 x6_2]),(7,.agg #[.int .i64 x7_0,.int .i64 x7_1,.int .i64 x7_2]),(8,.agg #[.int .i64 x8_0,.int .i64 x8_1,.int .i64 x8_2]),(9,.agg #[.int .i64 x9_0,.int .i64 x9_1,.int .i64 x9_2]),(10,.agg #[.int .i64 x10_0,.int .i64 x10_1,.int .i64 x10_2]),(11,.agg #[.int .i64 x11_0,.int .i64 x11_1,.int .i64 x11_2]),(12,.agg #[.int .i64 x12_0,.int .i64 x12_1,.int .i64 x12_2])]).run Tryz.prog w=.ok (.slice (some ⟨w.heap.size,0,none⟩) 13 13) (w.alloc (.cells (([⟨x0_0,x0_1,x0_2⟩,⟨x1_0,x1_1,x1_2⟩,⟨x2_0,x2_1,x2_2⟩,⟨x3_0,x3_1,x3_2⟩,⟨x4_0,x4_1,x4_2⟩,⟨x5_0,x5_1,x5_2⟩,⟨x6_0,x6_1,x6_2⟩,⟨x7_0,x7_1,x7_2⟩,⟨x8_0,x8_1,x8_2⟩,⟨x9_0,x9_1,x9_2⟩,⟨x10_0,x10_1,x10_2⟩,⟨x11_0,x11_1,x11_2⟩,⟨x12_0,x12_1,x12_2⟩]:List (Lim)).flatMap zgk).toArray 117)):=by kernel_rfl
set_option maxRecDepth 100000 in
set_option maxHeartbeats 2000000 in
theorem ze3 (a:Option Addr) (cap:Nat) (s:Sht) (w:World) (hl:Has w (Ints a s.heights)) (hn:Nums s) :
  Calls Tryz.prog 49 #[.agg #[.string s.name,.int .i64 s.base,.int .i64 s.batter,.int .i64 s.height,.int .i64 s.skin,.slice a s.heights.length cap,.int .i64 s.least,.int .i64 s.lap,.int .i64 s.run,.int .i64 s.every,.int .i64 s.at_,.int .i64 s.footing,.int .i64 s.spread,.int .u8 s.cope,.int .i64 s.tall,.int .i64 s.short,.int .i64 s.thick,.int .i64 s.low,.int .i64 s.high,.int .i64 s.rood]] w (zcU (fun z:Option Addr×Nat=>.slice z.1 (zaj s).length z.2) (fun z=>Row z.1 2 z.2 49 zbq (zaj s)) w):=by
 refine zan (vs:=[_]) Tryz.func49 rfl rfl (Nat.le_of_ble_eq_true rfl) ?_
 refine zac (zaa (zaG rfl rfl (za3 (vs:=[_,_,_,_,_,_,_,_,_,_,_,_,_,_,_,_,_,_,_,_]) rfl rfl) fun b1=>?_))
 refine gA ?_
 refine zag (zae (T':=[(1,_),(2,_)]) ⟨rfl,rfl,trivial⟩ ?_)
 refine zac (zaa (gA ?_))
 refine zag (zae (T':=[(1,_),(2,_),(3,_)]) ⟨rfl,rfl,rfl,trivial⟩ ?_)
 refine zac (zaa (gA ?_))
 refine zag (zae (T':=[(1,_),(2,_),(3,_),(4,_)]) ⟨rfl,rfl,rfl,rfl,trivial⟩ ?_)
 refine zac (zac (zaa (gA ?_)))
 refine zag (zae (T':=[(1,_),(2,_),(3,_),(4,_),(5,_)]) ⟨rfl,rfl,rfl,rfl,rfl,trivial⟩ ?_)
 refine zas ?_
 refine zbB 49 zbq 2 ?_
 refine zbf (X:=Nat×Int×Option Addr×Nat×List Crs) (fun⟨n,z,b,bc,L⟩=>[(1,.pointer (some ⟨b1,0,none⟩)),(2,.slice none 0 0),(3,.slice b L.length bc),(4,.int .i64 z),(5,.int .i64 (n:Int))]) (fun⟨n,z,b,bc,L⟩=>[Row b 2 bc 49 zbq L,Box b1 [.string s.name,.int .i64 s.base,.int .i64 s.batter,.int .i64 s.height,.int .i64 s.skin,.slice a s.heights.length cap,.int .i64 s.least,.int .i64 s.lap,.int .i64 s.run,.int .i64 s.every,.int .i64 s.at_,.int .i64 s.footing,.int .i64 s.spread,.int .u8 s.cope,.int .i64 s.tall,.int .i64 s.short,.int .i64 s.thick,.int .i64 s.low,.int .i64 s.high,.int .i64 s.rood] 41]) (fun⟨n,z,b,bc,L⟩=>(L=crsN s n∧z=zAt s n∧∀ j,j < n→zc5 s j=true)) (fun⟨n,z,b,bc,L⟩=>3001 - n) (0,0,none,0,[]) ⟨rfl,rfl,rfl,rfl,rfl,trivial⟩ rfl ?_ ?_
 ·exact⟨rfl,rfl,fun j hj=>by omega⟩
 ·rintro ⟨n,z,b,bc,L⟩ hI
  obtain⟨gL,gz,gu⟩:=hI
  have hnl:=hn.len
  have hnh:=hn.height
  have he:=zeg hn n
  have hz0:=zjC hn n
  have hz1:=zn7 (by omega) gu
  have hn3:=zjb hn gu
  have hll:L.length=n:=by rw [gL,zeC]
  refine zac (zas ?_)
  refine zac (zaa (gk_y rfl rfl (zab zia rfl) ?_))
  refine gQ (zah 1 tf35 rfl rfl rfl) ?_
  refine gM ?_
  refine gQ (zab zia rfl) ?_
  refine gQ (zah 1 tf35 rfl rfl rfl) ?_
  refine gQ (zaV (Tryz.underlying35) rfl) ?_
  refine gQ (zfV rfl rfl (by omega) (by omega)) ?_
  refine gQ (zsy rfl rfl) ?_
  refine gQ (zaE se35 rfl rfl (fun _ hw=>(Rd.has (Has.rd hl) hw)) (by omega) (by omega)) ?_
  refine gQ (zcE tf3 rfl (fun _ hw=>(Rd.has (Has.rd hl) hw)) (by omega) (by omega) rfl) ?_
  refine gA ?_
  refine zag (zae (T':=[(1,_),(2,_),(3,_),(4,_),(5,_),(6,_)]) ⟨rfl,rfl,rfl,rfl,rfl,rfl,trivial⟩ ?_)
  refine zae (T':=[(1,_),(2,_),(3,_),(4,_),(5,_),(6,.int .i64 (zce s n))]) ⟨rfl,rfl,rfl,rfl,rfl,(by rw [←zxq hnl.1 n]; rfl),trivial⟩ ?_
  refine zac (zac (zaa (gM ?_)))
  refine gM ?_
  refine gQ (zaY rfl rfl (by omega) (by omega)) ?_
  refine gQ (zab zep rfl) ?_
  refine gQ (zah 1 tf3 rfl rfl rfl) ?_
  refine gQ (zc6 rfl rfl) ?_
  refine zag (zae (T':=[(1,_),(2,_),(3,_),(4,_),(5,_),(6,_),(25,_)]) ⟨rfl,rfl,rfl,rfl,rfl,rfl,rfl,trivial⟩ ?_)
  refine zap rfl (fun hc25=>?_) (fun hc25=>?_)
  ·have hc25:=of_decide_eq_true hc25
   have hcn:=zsG hn gu (by rw [←gz]; omega)
   refine za8 rfl ?_
   refine zac (zac (zaa (gk_y rfl rfl (zab zep rfl) ?_)))
   refine gQ (zah 1 tf3 rfl rfl rfl) ?_
   refine gM ?_
   refine gQ (zfV rfl rfl (by omega) (by omega)) ?_
   refine gA ?_
   refine zag (zae (T':=[(1,_),(2,_),(3,_),(4,_),(7,_)]) ⟨rfl,rfl,rfl,rfl,rfl,trivial⟩ ?_)
   refine zas ?_
   refine zac (zaa (gM ?_))
   refine gQ (zbL rfl rfl) ?_
   refine gA ?_
   refine zag (zae (T':=[(1,_),(2,_),(3,_),(4,_),(7,_),(49,_)]) ⟨rfl,rfl,rfl,rfl,rfl,rfl,trivial⟩ ?_)
   refine zap rfl (fun hc49=>?_) (fun hc49=>?_)
   ·have h0:s.height - zAt s n=0:=by rw [←gz]; exact of_decide_eq_true hc49
    have hcs:zaj s=L:=(ze6 hcn h0).trans gL.symm
    refine zaq (zac (zaa (gM ?_)))
    refine gA ?_
    refine zag (zae (T':=[(2,_)]) ⟨rfl,trivial⟩ ?_)
    refine zaw (zbd (b,bc) 0 (zaC rfl (zau rfl)) ?_ (by rw [hcs]; rfl))
    first | (rw [hcs]; done) | (rw [hcs,List.length_set])
   ·have h0:¬ s.height - zAt s n=0:=by rw [←gz]; exact of_decide_eq_false hc49
    refine zac (zbb 10 (fun _=>mixed) (by kernel_rfl) ?_)
    refine ph_y (zaf rfl) ?_
    refine ph_y (zab zpw rfl) ?_
    refine ph_y (zah 1 tf3 rfl rfl rfl) ?_
    refine ph_y (zfx rfl rfl) ?_
    refine ph_y (zaf rfl) ?_
    refine zaz rfl rfl (fun hgd=>by(try rw [hgd]); exact(zaf rfl)) ?_
    refine zaz rfl rfl (fun hgd=>by(try rw [hgd]); exact(zaV (Tryz.underlying38) rfl)) ?_
    refine zaz rfl rfl (fun hgd=>by(try rw [hgd]); exact(zbL rfl rfl)) ?_
    refine ph_y (zaR rfl rfl rfl) ?_
    refine ph_y (zad rfl) ?_
    refine zag (zae (T':=[(1,_),(2,_),(3,_),(4,_),(52,_)]) ⟨rfl,rfl,rfl,rfl,rfl,trivial⟩ ?_)
    refine zap rfl (fun hc52=>?_) (fun hc52=>?_)
    ·have hcs:zaj s=L++[⟨z,s.height⟩]:=by rw [ze5 hcn h0 (by simp only [Bool.or_eq_true,decide_eq_true_eq] at hc52; rw [←gz]; omega),gL,gz]
     refine zaa (gM ?_)
     refine gM ?_
     refine gQ (zab zep rfl) ?_
     refine gQ (zah 1 tf3 rfl rfl rfl) ?_
     refine gQ (zaI rfl (zgQ _ _)) ?_
     refine zaG rfl rfl (zaD rfl (zsE _ _) zax rfl) fun b67=>?_
     refine zb4 (m:=[(⟨z,s.height⟩:Crs)]) 1 af38 zax rfl rfl rfl rfl (fun _ hw=>(zam zax (hw.has (p:=0) rfl))) (by first | omega | (simp only [List.length_cons,List.length_nil]; omega)) (by first | (unfold maxLen; omega) | (simp only [List.length_cons,List.length_nil,maxLen]; omega)) fun a68 c68=>?_
     refine gA ?_
     refine zag (zae (T':=[(2,_),(3,_)]) ⟨rfl,rfl,trivial⟩ ?_)
     refine zac (zaa (gM ?_))
     refine gA ?_
     refine zag (zae (T':=[(2,_)]) ⟨rfl,trivial⟩ ?_)
     refine zaw (zbd (a68,c68) 1 (zaC rfl (zau rfl)) ?_ (by rw [hcs]; rfl))
     first | (rw [hcs]; done) | (rw [hcs,List.length_set])
    ·simp only [Bool.or_eq_false_iff,decide_eq_false_iff_not] at hc52
     have hcs:zaj s=L.set ((L.length:Int) - 1).toNat ({ L.getD ((L.length:Int) - 1).toNat default with to:=s.height }):=by rw [ze4 hcn h0 (by rw [←gz]; omega),zlf gL (by omega),gL]
     refine zaa (gM ?_)
     refine gM ?_
     refine gQ (zaV (Tryz.underlying38) rfl) ?_
     refine gQ (zfV rfl rfl (by omega) (by omega)) ?_
     refine gQ (zab zep rfl) ?_
     refine gQ (zah 1 tf3 rfl rfl rfl) ?_
     refine gQ (zaE se38 rfl rfl (fun _ hw=>(zam zax (hw.has (p:=0) rfl))) (by omega) (by omega)) ?_
     refine gQ (zbh zpx rfl (fun w hw=>zaO (i:=((L.length:Int) - 1)) (zam zax (hw.has (p:=0) rfl)) (by omega) (by omega))) ?_
     refine zfG (x':=({ (L.getD (((L.length:Int) - 1)).toNat default) with to:=s.height }:Crs)) 0 zax tf3 rfl rfl (vs:=[_]) rfl rfl (by decide) rfl rfl (by omega) (by omega) ?_
     refine zag (zae (T':=[(2,_),(3,_)]) ⟨rfl,rfl,trivial⟩ ?_)
     refine zac (zaa (gM ?_))
     refine gA ?_
     refine zag (zae (T':=[(2,_)]) ⟨rfl,trivial⟩ ?_)
     refine zaw (zbd (b,bc) 0 (zaC rfl (zau rfl)) ?_ (by rw [hcs]; rfl))
     first | (rw [hcs]; done) | (rw [hcs,List.length_set])
  ·have hc25:=of_decide_eq_false hc25
   refine zaq (zac (zaa (gM ?_)))
   refine gM ?_
   refine gM ?_
   refine gM ?_
   refine gQ (zaY rfl rfl (by omega) (by omega)) ?_
   refine gQ (zaI rfl (zgQ _ _)) ?_
   refine zaG rfl rfl (zaD rfl (zsE _ _) zax rfl) fun b32=>?_
   refine zb4 (m:=[(⟨z,(z+(zce s n))⟩:Crs)]) 1 af38 zax rfl rfl rfl rfl (fun _ hw=>(zam zax (hw.has (p:=0) rfl))) (by first | omega | (simp only [List.length_cons,List.length_nil]; omega)) (by first | (unfold maxLen; omega) | (simp only [List.length_cons,List.length_nil,maxLen]; omega)) fun a33 c33=>?_
   refine gA ?_
   refine zag (zae (T':=[(1,_),(2,_),(3,_),(4,_),(5,_),(6,_)]) ⟨rfl,rfl,rfl,rfl,rfl,rfl,trivial⟩ ?_)
   refine zaa (gM ?_)
   refine gM ?_
   refine gQ (zaY rfl rfl (by omega) (by omega)) ?_
   refine gA ?_
   refine zag (zae (T':=[(1,_),(2,_),(3,_),(4,_),(5,_)]) ⟨rfl,rfl,rfl,rfl,rfl,trivial⟩ ?_)
   refine zaa (gM ?_)
   refine gQ (zaY rfl rfl (by omega) (by omega)) ?_
   refine gA ?_
   refine zag (zae (T':=[(1,_),(2,_),(3,_),(4,_),(5,_)]) ⟨rfl,rfl,rfl,rfl,rfl,trivial⟩ ?_)
   refine zaK 0 rfl ?_
   exact za1 (n+1,_,_,_,_) ⟨rfl,rfl,rfl,rfl,rfl,trivial⟩ rfl ⟨by rw [gL,ze7,gz]; rfl,by rw [gz]; rfl,zg7 gu (ziR (by rw [←gz]; omega))⟩ (by simp only []; omega)
set_option maxRecDepth 100000 in
set_option maxHeartbeats 2000000 in
theorem zd4 (a:Option Addr) (cap:Nat) (s:Sht) (w:World) (hl:Has w (Ints a s.heights)) (hs:Small s.heights.length) :
  Calls Tryz.prog 20 #[.agg #[.string s.name,.int .i64 s.base,.int .i64 s.batter,.int .i64 s.height,.int .i64 s.skin,.slice a s.heights.length cap,.int .i64 s.least,.int .i64 s.lap,.int .i64 s.run,.int .i64 s.every,.int .i64 s.at_,.int .i64 s.footing,.int .i64 s.spread,.int .u8 s.cope,.int .i64 s.tall,.int .i64 s.short,.int .i64 s.thick,.int .i64 s.low,.int .i64 s.high,.int .i64 s.rood]] w (Pure (.int .i64 (zcX s)) w):=by
 refine zan (vs:=[_]) Tryz.func20 rfl rfl (Nat.le_of_ble_eq_true rfl) ?_
 refine zac (zaa (zaG rfl rfl (za3 (vs:=[_,_,_,_,_,_,_,_,_,_,_,_,_,_,_,_,_,_,_,_]) rfl rfl) fun b1=>?_))
 refine gA ?_
 refine zag (zae (T':=[(1,_),(2,_)]) ⟨rfl,rfl,trivial⟩ ?_)
 refine zih (X:=Unit) (fun _=>[(1,.pointer (some ⟨b1,0,none⟩)),(2,.int .i64 0),(3,.bool (zdJ s))]) (fun _=>[Box b1 [.string s.name,.int .i64 s.base,.int .i64 s.batter,.int .i64 s.height,.int .i64 s.skin,.slice a s.heights.length cap,.int .i64 s.least,.int .i64 s.lap,.int .i64 s.run,.int .i64 s.every,.int .i64 s.at_,.int .i64 s.footing,.int .i64 s.spread,.int .u8 s.cope,.int .i64 s.tall,.int .i64 s.short,.int .i64 s.thick,.int .i64 s.low,.int .i64 s.high,.int .i64 s.rood] 41]) (fun _=>True) ?_ ?_
 ·
  refine zaa (gk_y rfl rfl (zab zhc rfl) ?_)
  refine gQ (zah 0 tf3 rfl rfl rfl) ?_
  refine gQ (zbL rfl rfl) ?_
  refine gM ?_
  refine zai rfl rfl rfl rfl (fun hg9=>?_) (fun hg9=>?_)
  ·replace hg9:_=true:=hg9
   try rw [hg9]
   refine gQ (zab zh9 rfl) ?_
   refine gT (gk_y rfl rfl (zah 0 tf3 rfl rfl rfl) ?_)
   refine gT (gk_y rfl rfl (zbL rfl rfl) ?_)
   refine gQ (za5 rfl rfl rfl) ?_
   refine gM ?_
   refine zai rfl rfl rfl rfl (fun hg14=>?_) (fun hg14=>?_)
   ·replace hg14:_=false:=hg14
    try rw [hg14]
    refine gQ (zab zhc rfl) ?_
    refine gT (gk_y rfl rfl (zah 0 tf3 rfl rfl rfl) ?_)
    refine gT (gk_y rfl rfl (zaI rfl (zaF _ _ _)) ?_)
    refine gT (gk_y rfl rfl (zab zh9 rfl) ?_)
    refine gT (gk_y rfl rfl (zah 0 tf3 rfl rfl rfl) ?_)
    refine gT (gk_y rfl rfl (zaI rfl (zaF _ _ _)) ?_)
    refine gT (zaG rfl rfl (zaD rfl (zlS _ _ _ _ _ _) zbM rfl) fun b21=>?_)
    refine gT (gk_y rfl rfl (zaJ en53 rfl (fun w hw=>zfT _ _ ([(⟨s.every,1,100000⟩:Lim),(⟨s.at_,0,3000⟩:Lim)]) w (zam zbM (hw.has (p:=0) rfl)) (by simp [Small]))) ?_)
    refine gQ (za5 rfl rfl rfl) ?_
    refine gA ?_
    refine zag (zae (T':=[(1,_),(2,_),(3,_)]) ⟨rfl,rfl,rfl,trivial⟩ ?_)
    refine zaK 0 rfl ?_
    exact zb9 () ⟨rfl,rfl,(by refine congrArg (fun b=>some (Value.bool b)) ?_; first | exact ziM hg9 hg14 | exact ziN hg14 | exact ziO hg9),trivial⟩ rfl trivial
   ·replace hg14:_=true:=hg14
    try rw [hg14]
    refine gF (gF (gF (gF (gF (gF (gF (gk_y rfl rfl (za5 rfl rfl rfl) ?_)))))))
    refine gA ?_
    refine zag (zae (T':=[(1,_),(2,_),(3,_)]) ⟨rfl,rfl,rfl,trivial⟩ ?_)
    exact zb9 () ⟨rfl,rfl,(by refine congrArg (fun b=>some (Value.bool b)) ?_; first | exact ziM hg9 hg14 | exact ziN hg14 | exact ziO hg9),trivial⟩ rfl trivial
  ·replace hg9:_=false:=hg9
   try rw [hg9]
   refine gF (gF (gk_y rfl rfl (za5 rfl rfl rfl) ?_))
   refine gM ?_
   refine gT (gk_y rfl rfl (zab zhc rfl) ?_)
   refine gT (gk_y rfl rfl (zah 0 tf3 rfl rfl rfl) ?_)
   refine gT (gk_y rfl rfl (zaI rfl (zaF _ _ _)) ?_)
   refine gT (gk_y rfl rfl (zab zh9 rfl) ?_)
   refine gT (gk_y rfl rfl (zah 0 tf3 rfl rfl rfl) ?_)
   refine gT (gk_y rfl rfl (zaI rfl (zaF _ _ _)) ?_)
   refine gT (zaG rfl rfl (zaD rfl (zlS _ _ _ _ _ _) zbM rfl) fun b21=>?_)
   refine gT (gk_y rfl rfl (zaJ en53 rfl (fun w hw=>zfT _ _ ([(⟨s.every,1,100000⟩:Lim),(⟨s.at_,0,3000⟩:Lim)]) w (zam zbM (hw.has (p:=0) rfl)) (by simp [Small]))) ?_)
   refine gQ (za5 rfl rfl rfl) ?_
   refine gA ?_
   refine zag (zae (T':=[(1,_),(2,_),(3,_)]) ⟨rfl,rfl,rfl,trivial⟩ ?_)
   refine zaK 0 rfl ?_
   exact zb9 () ⟨rfl,rfl,(by refine congrArg (fun b=>some (Value.bool b)) ?_; first | exact ziM hg9 hg14 | exact ziN hg14 | exact ziO hg9),trivial⟩ rfl trivial
 ·rintro _ hJ
  refine zac (zaa (gk_y rfl rfl (zab znc rfl) ?_))
  refine gQ (zah 0 tf3 rfl rfl rfl) ?_
  refine gQ (zaI rfl (zaF _ _ _)) ?_
  refine gQ (zab zpv rfl) ?_
  refine gQ (zah 0 tf3 rfl rfl rfl) ?_
  refine gQ (zaI rfl (zaF _ _ _)) ?_
  refine gQ (zab zep rfl) ?_
  refine gQ (zah 0 tf3 rfl rfl rfl) ?_
  refine gQ (zaI rfl (zaF _ _ _)) ?_
  refine gQ (zab znd rfl) ?_
  refine gQ (zah 0 tf3 rfl rfl rfl) ?_
  refine gQ (zaI rfl (zaF _ _ _)) ?_
  refine gQ (zab zia rfl) ?_
  refine gQ (zah 0 tf35 rfl rfl rfl) ?_
  refine gQ (zaV (Tryz.underlying35) rfl) ?_
  refine gQ (zaI rfl (zaF _ _ _)) ?_
  refine gQ (zab zpw rfl) ?_
  refine gQ (zah 0 tf3 rfl rfl rfl) ?_
  refine gQ (zaI rfl (zaF _ _ _)) ?_
  refine gQ (zab zsK rfl) ?_
  refine gQ (zah 0 tf3 rfl rfl rfl) ?_
  refine gQ (zaI rfl (zaF _ _ _)) ?_
  refine gQ (zab zsL rfl) ?_
  refine gQ (zah 0 tf3 rfl rfl rfl) ?_
  refine gQ (zaI rfl (zaF _ _ _)) ?_
  refine gQ (zab zl8 rfl) ?_
  refine gQ (zah 0 tf3 rfl rfl rfl) ?_
  refine gQ (zaI rfl (zaF _ _ _)) ?_
  refine gQ (zab zl9 rfl) ?_
  refine gQ (zah 0 tf3 rfl rfl rfl) ?_
  refine gQ (zaI rfl (zaF _ _ _)) ?_
  refine gQ (zab zpu rfl) ?_
  refine gQ (zah 0 tf3 rfl rfl rfl) ?_
  refine gQ (zab zma rfl) ?_
  refine gQ (zah 0 tf3 rfl rfl rfl) ?_
  refine gQ (zaI rfl (zaF _ _ _)) ?_
  refine gQ (zab zma rfl) ?_
  refine gQ (zah 0 tf3 rfl rfl rfl) ?_
  refine gQ (zaI rfl (zaF _ _ _)) ?_
  refine gQ (zab zmb rfl) ?_
  refine gQ (zah 0 tf3 rfl rfl rfl) ?_
  refine gQ (zaI rfl (zaF _ _ _)) ?_
  refine zaG rfl rfl (zaD rfl (zrc _ _ _ _ _ _ _ _ _ _ _ _ _ _ _ _ _ _ _ _ _ _ _ _ _ _ _ _ _ _ _ _ _ _ _ _ _ _ _) zbM rfl) fun b66=>?_
  refine gQ (zaJ en53 rfl (fun w hw=>zfT _ _ ([(⟨s.base,1,3000⟩:Lim),(⟨s.batter,0,500⟩:Lim),(⟨s.height,1,3000⟩:Lim),(⟨s.skin,1,1500⟩:Lim),(⟨(s.heights.length:Int),1,12⟩:Lim),(⟨s.least,1,1000⟩:Lim),(⟨s.lap,0,500⟩:Lim),(⟨s.run,1,20⟩:Lim),(⟨s.footing,0,1000⟩:Lim),(⟨s.spread,0,1000⟩:Lim),(⟨s.low,0,s.high⟩:Lim),(⟨s.high,0,2000⟩:Lim),(⟨s.rood,1,100000⟩:Lim)]) w (zam zbM (hw.has (p:=0) rfl)) (by simp [Small]))) ?_
  refine gA ?_
  refine zag (zae (T':=[(1,_),(2,_),(3,_),(4,_)]) ⟨rfl,rfl,rfl,rfl,trivial⟩ ?_)
  refine zac (zaa (gA ?_))
  refine zag (zae (T':=[(1,_),(2,_),(3,_),(4,_),(5,_)]) ⟨rfl,rfl,rfl,rfl,rfl,trivial⟩ ?_)
  refine zac (zac (zaa (gk_y rfl rfl (zab znb rfl) ?_)))
  refine gQ (zah 1 tf9 rfl rfl rfl) ?_
  refine gQ (zaJ en55 rfl (fun w hw=>zmo _ w)) ?_
  refine gQ (zbR rfl) ?_
  refine gM ?_
  refine zai rfl rfl rfl rfl (fun hg72=>?_) (fun hg72=>?_)
  ·replace hg72:_=false:=hg72
   try rw [hg72]
   refine gM ?_
   refine gT (gk_y rfl rfl (zbR rfl) ?_)
   refine gQ (za5 rfl rfl rfl) ?_
   refine gM ?_
   refine zai rfl rfl rfl rfl (fun hg76=>?_) (fun hg76=>?_)
   ·replace hg76:_=false:=hg76
    try rw [hg76]
    refine gM ?_
    refine gT (gk_y rfl rfl (zbR rfl) ?_)
    refine gQ (za5 rfl rfl rfl) ?_
    refine gM ?_
    refine zai rfl rfl rfl rfl (fun hg80=>?_) (fun hg80=>?_)
    ·replace hg80:_=false:=hg80
     try rw [hg80]
     refine gQ (zab zia rfl) ?_
     refine gT (gk_y rfl rfl (zah 1 tf35 rfl rfl rfl) ?_)
     refine gT (gM ?_)
     refine gT (gk_y rfl rfl (zaJ en56 rfl (fun w hw=>zhP _ _ s.heights zgP _ [] [] w (Rd.has (Has.rd hl) hw) (by assumption) (fun _=>True) (fun _ _=>trivial) en54 (fun z w _=>zjL z w))) ?_)
     refine gQ (za5 rfl rfl rfl) ?_
     refine gM ?_
     refine zai rfl rfl rfl rfl (fun hg86=>?_) (fun hg86=>?_)
     ·replace hg86:_=false:=hg86
      try rw [hg86]
      refine gQ (zat 1 tf41 rfl rfl (vs:=[_,_,_,_,_,_,_,_,_,_,_,_,_,_,_,_,_,_,_,_]) rfl rfl) ?_
      refine gT (gk_y rfl rfl (zaJ en57 rfl (fun w hw=>ztv a cap s w)) ?_)
      refine gT (gk_y rfl rfl (zbR rfl) ?_)
      refine gQ (za5 rfl rfl rfl) ?_
      refine gM ?_
      refine zai rfl rfl rfl rfl (fun hg91=>?_) (fun hg91=>?_)
      ·replace hg91:_=false:=hg91
       try rw [hg91]
       refine gQ (zat 1 tf41 rfl rfl (vs:=[_,_,_,_,_,_,_,_,_,_,_,_,_,_,_,_,_,_,_,_]) rfl rfl) ?_
       refine gT (gk_y rfl rfl (zab zep rfl) ?_)
       refine gT (gk_y rfl rfl (zah 1 tf3 rfl rfl rfl) ?_)
       refine gT (gk_y rfl rfl (zaJ en50 rfl (fun w hw=>zkA a cap s _ w)) ?_)
       refine gT (gk_y rfl rfl (zbw rfl rfl) ?_)
       refine gQ (za5 rfl rfl rfl) ?_
       refine gM ?_
       refine zai rfl rfl rfl rfl (fun hg98=>?_) (fun hg98=>?_)
       ·replace hg98:_=false:=hg98
        try rw [hg98]
        refine gQ (zat 1 tf41 rfl rfl (vs:=[_,_,_,_,_,_,_,_,_,_,_,_,_,_,_,_,_,_,_,_]) rfl rfl) ?_
        refine gT (zaG rfl rfl (zbm en49 rfl (fun w hw=>ze3 a cap s w (Rd.has (Has.rd hl) hw) (zgZ (zjE hg72 hg76 hg80 hg86 hg91)))) fun p100=>?_)
        refine gT (gk_y rfl rfl (zaV (Tryz.underlying38) rfl) ?_)
        refine gT (gk_y rfl rfl (zc6 rfl rfl) ?_)
        refine gQ (za5 rfl rfl rfl) ?_
        refine zag (zae (T':=[(2,_),(103,_)]) ⟨rfl,rfl,trivial⟩ ?_)
        refine zap rfl (fun hc103=>?_) (fun hc103=>?_)
        ·simp only [decide_eq_true_eq] at hc103
         refine zac (zaa (gA ?_))
         refine zag (zae (T':=[(2,_)]) ⟨rfl,trivial⟩ ?_)
         refine zaw (zay (zaC rfl (zau rfl)) ?_)
         rw [zhM (zjE hg72 hg76 hg80 hg86 hg91) (of_decide_eq_false hg98),if_pos (by omega)]
        ·simp only [decide_eq_false_iff_not] at hc103
         refine zaq (zac (zaa (gA ?_)))
         refine zag (zae (T':=[(2,_)]) ⟨rfl,trivial⟩ ?_)
         refine zaw (zay (zaC rfl (zau rfl)) ?_)
         rw [zhM (zjE hg72 hg76 hg80 hg86 hg91) (of_decide_eq_false hg98),if_neg (by omega)]
       ·replace hg98:_=true:=hg98
        try rw [hg98]
        refine gF (gF (gF (gk_y rfl rfl (za5 rfl rfl rfl) ?_)))
        refine zag (zae (T':=[(2,_),(103,_)]) ⟨rfl,rfl,trivial⟩ ?_)
        refine zdg rfl ?_
        refine zac (zaa (gA ?_))
        refine zag (zae (T':=[(2,_)]) ⟨rfl,trivial⟩ ?_)
        refine zaw (zay (zaC rfl (zau rfl)) ?_)
        rw [zo4 (zjE hg72 hg76 hg80 hg86 hg91) (of_decide_eq_true hg98)]
      ·replace hg91:_=true:=hg91
       try rw [hg91]
       refine gF (gF (gF (gF (gk_y rfl rfl (za5 rfl rfl rfl) ?_))))
       refine gM ?_
       refine gF (gF (gF (gF (gk_y rfl rfl (za5 rfl rfl rfl) ?_))))
       refine zag (zae (T':=[(2,_),(103,_)]) ⟨rfl,rfl,trivial⟩ ?_)
       refine zdg rfl ?_
       refine zac (zaa (gA ?_))
       refine zag (zae (T':=[(2,_)]) ⟨rfl,trivial⟩ ?_)
       refine zaw (zay (zaC rfl (zau rfl)) ?_)
       rw [zeX (zu8 hg91)]
     ·replace hg86:_=true:=hg86
      try rw [hg86]
      refine gF (gF (gk_y rfl rfl (za5 rfl rfl rfl) ?_))
      refine gM ?_
      refine gF (gF (gF (gF (gF (gk_y rfl rfl (za5 rfl rfl rfl) ?_)))))
      refine gM ?_
      refine gF (gF (gF (gF (gk_y rfl rfl (za5 rfl rfl rfl) ?_))))
      refine zag (zae (T':=[(2,_),(103,_)]) ⟨rfl,rfl,trivial⟩ ?_)
      refine zdg rfl ?_
      refine zac (zaa (gA ?_))
      refine zag (zae (T':=[(2,_)]) ⟨rfl,trivial⟩ ?_)
      refine zaw (zay (zaC rfl (zau rfl)) ?_)
      rw [zeX (zu7 hg86)]
    ·replace hg80:_=true:=hg80
     try rw [hg80]
     refine gF (gF (gF (gk_y rfl rfl (za5 rfl rfl rfl) ?_)))
     refine gM ?_
     refine gF (gF (gF (gk_y rfl rfl (za5 rfl rfl rfl) ?_)))
     refine gM ?_
     refine gF (gF (gF (gF (gF (gk_y rfl rfl (za5 rfl rfl rfl) ?_)))))
     refine gM ?_
     refine gF (gF (gF (gF (gk_y rfl rfl (za5 rfl rfl rfl) ?_))))
     refine zag (zae (T':=[(2,_),(103,_)]) ⟨rfl,rfl,trivial⟩ ?_)
     refine zdg rfl ?_
     refine zac (zaa (gA ?_))
     refine zag (zae (T':=[(2,_)]) ⟨rfl,trivial⟩ ?_)
     refine zaw (zay (zaC rfl (zau rfl)) ?_)
     rw [zeX (zu6 hg80)]
   ·replace hg76:_=true:=hg76
    try rw [hg76]
    refine gF (gk_y rfl rfl (za5 rfl rfl rfl) ?_)
    refine gM ?_
    refine gF (gF (gF (gF (gk_y rfl rfl (za5 rfl rfl rfl) ?_))))
    refine gM ?_
    refine gF (gF (gF (gk_y rfl rfl (za5 rfl rfl rfl) ?_)))
    refine gM ?_
    refine gF (gF (gF (gF (gF (gk_y rfl rfl (za5 rfl rfl rfl) ?_)))))
    refine gM ?_
    refine gF (gF (gF (gF (gk_y rfl rfl (za5 rfl rfl rfl) ?_))))
    refine zag (zae (T':=[(2,_),(103,_)]) ⟨rfl,rfl,trivial⟩ ?_)
    refine zdg rfl ?_
    refine zac (zaa (gA ?_))
    refine zag (zae (T':=[(2,_)]) ⟨rfl,trivial⟩ ?_)
    refine zaw (zay (zaC rfl (zau rfl)) ?_)
    rw [zeX (zu5 hg76)]
  ·replace hg72:_=true:=hg72
   try rw [hg72]
   refine gF (gk_y rfl rfl (za5 rfl rfl rfl) ?_)
   refine gM ?_
   refine gF (gF (gk_y rfl rfl (za5 rfl rfl rfl) ?_))
   refine gM ?_
   refine gF (gF (gF (gF (gk_y rfl rfl (za5 rfl rfl rfl) ?_))))
   refine gM ?_
   refine gF (gF (gF (gk_y rfl rfl (za5 rfl rfl rfl) ?_)))
   refine gM ?_
   refine gF (gF (gF (gF (gF (gk_y rfl rfl (za5 rfl rfl rfl) ?_)))))
   refine gM ?_
   refine gF (gF (gF (gF (gk_y rfl rfl (za5 rfl rfl rfl) ?_))))
   refine zag (zae (T':=[(2,_),(103,_)]) ⟨rfl,rfl,trivial⟩ ?_)
   refine zdg rfl ?_
   refine zac (zaa (gA ?_))
   refine zag (zae (T':=[(2,_)]) ⟨rfl,trivial⟩ ?_)
   refine zaw (zay (zaC rfl (zau rfl)) ?_)
   rw [zeX (zu4 hg72)]
theorem zda {s:Sht}:zcX s=0↔za4 s=true:=by
 unfold zcX
 cases za4 s <;> simp
theorem zkH {s:Sht} (h:¬ zcX s=0):za4 s=false∧zcX s=2:=by
 have h2:¬ za4 s=true:=fun x=>h (zda.2 x)
 exact⟨by simpa using h2,if_neg h2⟩
def zfC (s:Sht):List Crs:=if za4 s=true then zaj s else []
def zlL (s:Sht) (z:Int):Int:=if za4 s=true∧0≤z∧z≤s.height then zb5 s z else 0
def zlK (s:Sht) (z:Int):Int:=if za4 s=true then(if 0≤z∧z≤s.height then 0 else 3) else 2
set_option maxRecDepth 100000 in
set_option maxHeartbeats 1000000 in
theorem zoM (a:Option Addr) (cap:Nat) (s:Sht) (w:World) (hl:Has w (Ints a s.heights)) (hs:Small s.heights.length) :
  Calls Tryz.prog 17 #[.agg #[.string s.name,.int .i64 s.base,.int .i64 s.batter,.int .i64 s.height,.int .i64 s.skin,.slice a s.heights.length cap,.int .i64 s.least,.int .i64 s.lap,.int .i64 s.run,.int .i64 s.every,.int .i64 s.at_,.int .i64 s.footing,.int .i64 s.spread,.int .u8 s.cope,.int .i64 s.tall,.int .i64 s.short,.int .i64 s.thick,.int .i64 s.low,.int .i64 s.high,.int .i64 s.rood]] w (zcU (fun z:Option Addr×Nat=>.tuple #[.slice z.1 (zfC s).length z.2,.int .i64 (zcX s)]) (fun z=>Row z.1 2 z.2 49 zbq (zfC s)) w):=by
 refine zan (vs:=[_]) Tryz.func17 rfl rfl (Nat.le_of_ble_eq_true rfl) ?_
 refine zac (zaa (zaG rfl rfl (za3 (vs:=[_,_,_,_,_,_,_,_,_,_,_,_,_,_,_,_,_,_,_,_]) rfl rfl) fun b1=>?_))
 refine gA ?_
 refine gA ?_
 refine zag (zae (T':=[(1,_),(2,_),(3,_)]) ⟨rfl,rfl,rfl,trivial⟩ ?_)
 refine zac (zac (zaa (gk_y rfl rfl (zat 0 tf41 rfl rfl (vs:=[_,_,_,_,_,_,_,_,_,_,_,_,_,_,_,_,_,_,_,_]) rfl rfl) ?_)))
 refine gQ (zaJ en20 rfl (fun w hw=>zd4 a cap s w (Rd.has (Has.rd hl) hw) (by assumption))) ?_
 refine gA ?_
 refine zag (zae (T':=[(1,_),(2,_),(3,_),(4,_)]) ⟨rfl,rfl,rfl,rfl,trivial⟩ ?_)
 refine zac (zaa (gM ?_))
 refine gQ (zcr rfl rfl) ?_
 refine zag (zae (T':=[(1,_),(2,_),(3,_),(4,_),(8,_)]) ⟨rfl,rfl,rfl,rfl,rfl,trivial⟩ ?_)
 refine zap rfl (fun hc8=>?_) (fun hc8=>?_)
 ·have hE:=(zkH (show ¬ zcX s=0 by simpa using hc8)).1
  have hcs:zfC s=[]:=if_neg (by rw [hE]; exact Bool.false_ne_true)
  refine zbB 49 zbq 2 ?_
  refine zac (zaa (gM ?_))
  refine gA ?_
  refine gA ?_
  refine zag (zae (T':=[(1,_),(2,_),(3,_)]) ⟨rfl,rfl,rfl,trivial⟩ ?_)
  refine zaw (zbd (none,0) 0 (zc2 rfl (zau rfl) (zau rfl)) ?_ (by rw [hcs]; rfl))
  rw [hcs]; rfl
 ·have hok:za4 s=true:=zda.1 (by simpa using hc8)
  have hcs:zfC s=zaj s:=if_pos hok
  refine zaq (zac (zaa (gk_y rfl rfl (zat 0 tf41 rfl rfl (vs:=[_,_,_,_,_,_,_,_,_,_,_,_,_,_,_,_,_,_,_,_]) rfl rfl) ?_)))
  refine zaG rfl rfl (zbm en49 rfl (fun w hw=>ze3 a cap s w (Rd.has (Has.rd hl) hw) (zaZ hok))) fun p11=>?_
  refine gA ?_
  refine gA ?_
  refine zag (zae (T':=[(2,_),(3,_)]) ⟨rfl,rfl,trivial⟩ ?_)
  refine zaw (zbd (p11.1,p11.2) 0 (zc2 rfl (zau rfl) (zau rfl)) ?_ (by rw [hcs]; rfl))
  rw [hcs,zda.2 hok]
set_option maxRecDepth 100000 in
set_option maxHeartbeats 1000000 in
theorem ztc (a:Option Addr) (cap:Nat) (s:Sht) (z:Int) (w:World) (hl:Has w (Ints a s.heights)) (hs:Small s.heights.length) :
  Calls Tryz.prog 18 #[.agg #[.string s.name,.int .i64 s.base,.int .i64 s.batter,.int .i64 s.height,.int .i64 s.skin,.slice a s.heights.length cap,.int .i64 s.least,.int .i64 s.lap,.int .i64 s.run,.int .i64 s.every,.int .i64 s.at_,.int .i64 s.footing,.int .i64 s.spread,.int .u8 s.cope,.int .i64 s.tall,.int .i64 s.short,.int .i64 s.thick,.int .i64 s.low,.int .i64 s.high,.int .i64 s.rood],.int .i64 z] w (Pure (.tuple #[.int .i64 (zlL s z),.int .i64 (zlK s z)]) w):=by
 refine zan (vs:=[_,_]) Tryz.func18 rfl rfl (Nat.le_of_ble_eq_true rfl) ?_
 refine zac (zaa (zaG rfl rfl (za3 (vs:=[_,_,_,_,_,_,_,_,_,_,_,_,_,_,_,_,_,_,_,_]) rfl rfl) fun b2=>?_))
 refine gA ?_
 refine gA ?_
 refine zag (zae (T':=[(1,_),(2,_),(4,_),(5,_)]) ⟨rfl,rfl,rfl,rfl,trivial⟩ ?_)
 refine zac (zac (zaa (gk_y rfl rfl (zat 0 tf41 rfl rfl (vs:=[_,_,_,_,_,_,_,_,_,_,_,_,_,_,_,_,_,_,_,_]) rfl rfl) ?_)))
 refine gQ (zaJ en20 rfl (fun w hw=>zd4 a cap s w (Rd.has (Has.rd hl) hw) (by assumption))) ?_
 refine gA ?_
 refine zag (zae (T':=[(1,_),(2,_),(4,_),(5,_),(6,_)]) ⟨rfl,rfl,rfl,rfl,rfl,trivial⟩ ?_)
 refine zac (zaa (gM ?_))
 refine gQ (zcr rfl rfl) ?_
 refine zag (zae (T':=[(1,_),(2,_),(4,_),(5,_),(6,_),(10,_)]) ⟨rfl,rfl,rfl,rfl,rfl,rfl,trivial⟩ ?_)
 refine zap rfl (fun hc10=>?_) (fun hc10=>?_)
 ·have hE:=zkH (show ¬ zcX s=0 by simpa using hc10)
  have hno:¬ za4 s=true:=by rw [hE.1]; exact Bool.false_ne_true
  refine zac (zaa (gM ?_))
  refine gA ?_
  refine gA ?_
  refine zag (zae (T':=[(1,_),(2,_),(4,_),(5,_)]) ⟨rfl,rfl,rfl,rfl,trivial⟩ ?_)
  refine zaw (zay (zc2 rfl (zau rfl) (zau rfl)) ?_)
  rw [zlL,zlK,if_neg (fun h=>hno h.1),if_neg hno,hE.2]
 ·have hok:za4 s=true:=zda.1 (by simpa using hc10)
  have hn:=zaZ hok
  have hnh:=hn.height
  refine zaq (zac (zac (zbb 8 (fun _=>mixed) (by kernel_rfl) ?_)))
  refine ph_y (zaf rfl) ?_
  refine ph_y (zbw rfl rfl) ?_
  refine ph_y (zaf rfl) ?_
  refine zaz rfl rfl (fun hgd=>by(try rw [hgd]); exact(zaf rfl)) ?_
  refine zaz rfl rfl (fun hgd=>by(try rw [hgd]); exact(zab zep rfl)) ?_
  refine zaz rfl rfl (fun hgd=>by(try rw [hgd]); exact(zah 0 tf3 rfl rfl rfl)) ?_
  refine zaz rfl rfl (fun hgd=>by(try rw [hgd]); exact(zc6 rfl rfl)) ?_
  refine ph_y (zaR rfl rfl rfl) ?_
  refine zag (zae (T':=[(1,_),(2,_),(4,_),(5,_),(19,_)]) ⟨rfl,rfl,rfl,rfl,rfl,trivial⟩ ?_)
  refine zap rfl (fun hc19=>?_) (fun hc19=>?_)
  ·simp only [Bool.or_eq_true,decide_eq_true_eq] at hc19
   refine zac (zaa (gA ?_))
   refine gA ?_
   refine zag (zae (T':=[(1,_),(2,_),(4,_),(5,_)]) ⟨rfl,rfl,rfl,rfl,trivial⟩ ?_)
   refine zaw (zay (zc2 rfl (zau rfl) (zau rfl)) ?_)
   rw [zlL,zlK,if_neg (by omega),if_pos hok,if_neg (by omega)]
  ·simp only [Bool.or_eq_false_iff,decide_eq_false_iff_not] at hc19
   refine zaq (zac (zaa (gk_y rfl rfl (zat 0 tf41 rfl rfl (vs:=[_,_,_,_,_,_,_,_,_,_,_,_,_,_,_,_,_,_,_,_]) rfl rfl) ?_)))
   refine gM ?_
   refine gQ (zaJ en50 rfl (fun w hw=>zkA a cap s _ w)) ?_
   refine gA ?_
   refine gA ?_
   refine zag (zae (T':=[(4,_),(5,_)]) ⟨rfl,rfl,trivial⟩ ?_)
   refine zaw (zay (zc2 rfl (zau rfl) (zau rfl)) ?_)
   rw [zlL,zlK,if_pos ⟨hok,by omega,by omega⟩,if_pos hok,if_pos (by omega),zfM hn.batter hn.base (by omega) (by omega)]
set_option maxRecDepth 100000 in
set_option maxHeartbeats 2000000 in
theorem zg2 (a:Option Addr) (cap:Nat) (s:Sht) (w:World) (hl:Has w (Ints a s.heights)) (hn:Nums s) :
  Calls Tryz.prog 21 #[.agg #[.string s.name,.int .i64 s.base,.int .i64 s.batter,.int .i64 s.height,.int .i64 s.skin,.slice a s.heights.length cap,.int .i64 s.least,.int .i64 s.lap,.int .i64 s.run,.int .i64 s.every,.int .i64 s.at_,.int .i64 s.footing,.int .i64 s.spread,.int .u8 s.cope,.int .i64 s.tall,.int .i64 s.short,.int .i64 s.thick,.int .i64 s.low,.int .i64 s.high,.int .i64 s.rood]] w (zcU (fun z:Option Addr×Nat=>.slice z.1 (zaj s).length z.2) (fun z=>Row z.1 2 z.2 50 zbq (zaj s)) w):=by
 refine zan (vs:=[_]) Tryz.func21 rfl rfl (Nat.le_of_ble_eq_true rfl) ?_
 refine zac (zaa (zaG rfl rfl (za3 (vs:=[_,_,_,_,_,_,_,_,_,_,_,_,_,_,_,_,_,_,_,_]) rfl rfl) fun b1=>?_))
 refine gA ?_
 refine zag (zae (T':=[(1,_),(2,_)]) ⟨rfl,rfl,trivial⟩ ?_)
 refine zac (zaa (gA ?_))
 refine zag (zae (T':=[(1,_),(2,_),(3,_)]) ⟨rfl,rfl,rfl,trivial⟩ ?_)
 refine zac (zaa (gA ?_))
 refine gA ?_
 refine zag (zae (T':=[(1,_),(2,_),(3,_),(4,_),(5,_)]) ⟨rfl,rfl,rfl,rfl,rfl,trivial⟩ ?_)
 refine zac (zas ?_)
 refine zbB 50 zbq 2 ?_
 refine zbf (X:=Nat×Int×Int×Option Addr×Nat×List Crs) (fun⟨n,z,i,b,bc,L⟩=>[(1,.pointer (some ⟨b1,0,none⟩)),(2,.slice none 0 0),(3,.slice b L.length bc),(4,.int .i64 z),(5,.int .i64 i)]) (fun⟨n,z,i,b,bc,L⟩=>[Row b 2 bc 50 zbq L,Box b1 [.string s.name,.int .i64 s.base,.int .i64 s.batter,.int .i64 s.height,.int .i64 s.skin,.slice a s.heights.length cap,.int .i64 s.least,.int .i64 s.lap,.int .i64 s.run,.int .i64 s.every,.int .i64 s.at_,.int .i64 s.footing,.int .i64 s.spread,.int .u8 s.cope,.int .i64 s.tall,.int .i64 s.short,.int .i64 s.thick,.int .i64 s.low,.int .i64 s.high,.int .i64 s.rood] 37]) (fun⟨n,z,i,b,bc,L⟩=>(L=crsN s n∧z=zAt s n∧i=((min n (s.heights.length - 1):Nat):Int)∧∀ j,j < n→zc5 s j=true)) (fun⟨n,z,i,b,bc,L⟩=>3001 - n) (0,0,0,none,0,[]) ⟨rfl,rfl,rfl,rfl,rfl,trivial⟩ rfl ?_ ?_
 ·exact⟨rfl,rfl,by simp,fun j hj=>by omega⟩
 ·rintro ⟨n,z,i,b,bc,L⟩ hI
  obtain⟨gL,gz,gi,gu⟩:=hI
  have hnl:=hn.len
  have hnh:=hn.height
  have he:=zeg hn n
  have hz0:=zjC hn n
  have hz1:=zn7 (by omega) gu
  have hn3:=zjb hn gu
  have hll:L.length=n:=by rw [gL,zeC]
  have hix:s.heights.getD i.toNat default=zce s n:=by rw [gi]; rfl
  refine zac (zac (zbb 10 (fun _=>mixed) (by kernel_rfl) ?_))
  refine ph_y (zaf rfl) ?_
  refine ph_y (zab zgl rfl) ?_
  refine ph_y (zah 1 tf35 rfl rfl rfl) ?_
  refine ph_y (zaf rfl) ?_
  refine ph_y (zaE se35 rfl rfl (fun _ hw=>(Rd.has (Has.rd hl) hw)) (by omega) (by omega)) ?_
  refine ph_y (zcE tf3 rfl (fun _ hw=>(Rd.has (Has.rd hl) hw)) (by omega) (by omega) rfl) ?_
  refine ph_y (zaY rfl rfl (by omega) (by omega)) ?_
  refine ph_y (zab zdC rfl) ?_
  refine ph_y (zah 1 tf3 rfl rfl rfl) ?_
  refine ph_y (zeT rfl rfl) ?_
  refine zag (zae (T':=[(1,_),(2,_),(3,_),(4,_),(5,_),(16,_)]) ⟨rfl,rfl,rfl,rfl,rfl,rfl,trivial⟩ ?_)
  refine zap rfl (fun hc16=>?_) (fun hc16=>?_)
  ·have hc16:=of_decide_eq_true hc16
   refine zaq (zas ?_)
   refine zac (zaa (gM ?_))
   refine gM ?_
   refine gM ?_
   refine gQ (zab zgl rfl) ?_
   refine gQ (zah 1 tf35 rfl rfl rfl) ?_
   refine gM ?_
   refine gQ (zaE se35 rfl rfl (fun _ hw=>(Rd.has (Has.rd hl) hw)) (by omega) (by omega)) ?_
   refine gQ (zcE tf3 rfl (fun _ hw=>(Rd.has (Has.rd hl) hw)) (by omega) (by omega) rfl) ?_
   refine gQ (zaY rfl rfl (by omega) (by omega)) ?_
   refine gQ (zaI rfl (zfy _ _)) ?_
   refine zaG rfl rfl (zaD rfl (zo1 _ _) zax rfl) fun b27=>?_
   refine zb4 (m:=[(⟨z,(z+(s.heights.getD (i).toNat default))⟩:Crs)]) 1 af46 zax rfl rfl rfl rfl (fun _ hw=>(zam zax (hw.has (p:=0) rfl))) (by first | omega | (simp only [List.length_cons,List.length_nil]; omega)) (by first | (unfold maxLen; omega) | (simp only [List.length_cons,List.length_nil,maxLen]; omega)) fun a28 c28=>?_
   refine gA ?_
   refine zag (zae (T':=[(1,_),(2,_),(3,_),(4,_),(5,_)]) ⟨rfl,rfl,rfl,rfl,rfl,trivial⟩ ?_)
   refine zac (zaa (gM ?_))
   refine gQ (zab zgl rfl) ?_
   refine gQ (zah 2 tf35 rfl rfl rfl) ?_
   refine gM ?_
   refine gQ (zaE se35 rfl rfl (fun _ hw=>(Rd.has (Has.rd hl) hw)) (by omega) (by omega)) ?_
   refine gQ (zcE tf3 rfl (fun _ hw=>(Rd.has (Has.rd hl) hw)) (by omega) (by omega) rfl) ?_
   refine gQ (zaY rfl rfl (by omega) (by omega)) ?_
   refine gA ?_
   refine zag (zae (T':=[(1,_),(2,_),(3,_),(4,_),(5,_)]) ⟨rfl,rfl,rfl,rfl,rfl,trivial⟩ ?_)
   refine zac (zaa (gM ?_))
   refine gQ (zaY rfl rfl (by omega) (by omega)) ?_
   refine gQ (zab zgl rfl) ?_
   refine gQ (zah 2 tf35 rfl rfl rfl) ?_
   refine gQ (zaV (Tryz.underlying35) rfl) ?_
   refine gQ (zbw rfl rfl) ?_
   refine zag (zae (T':=[(1,_),(2,_),(3,_),(4,_),(5,_),(41,_)]) ⟨rfl,rfl,rfl,rfl,rfl,rfl,trivial⟩ ?_)
   refine zap rfl (fun hc41=>?_) (fun hc41=>?_)
   ·simp only [decide_eq_true_eq] at hc41
    refine zaa (gM ?_)
    refine gQ (zaY rfl rfl (by omega) (by omega)) ?_
    refine gA ?_
    refine zag (zae (T':=[(1,_),(2,_),(3,_),(4,_),(5,_)]) ⟨rfl,rfl,rfl,rfl,rfl,trivial⟩ ?_)
    refine zaK 0 rfl ?_
    exact za1 (n+1,_,_,_,_,_) ⟨rfl,rfl,rfl,rfl,rfl,trivial⟩ rfl ⟨by rw [gL,ze7,gz,hix]; rfl,by rw [gz,hix]; rfl,by omega,zg7 gu (ziR (by rw [←gz]; omega))⟩ (by simp only []; omega)
   ·simp only [decide_eq_false_iff_not] at hc41
    refine zaq (zaK 0 rfl ?_)
    exact za1 (n+1,_,_,_,_,_) ⟨rfl,rfl,rfl,rfl,rfl,trivial⟩ rfl ⟨by rw [gL,ze7,gz,hix]; rfl,by rw [gz,hix]; rfl,by omega,zg7 gu (ziR (by rw [←gz]; omega))⟩ (by simp only []; omega)
  ·have hc16:=of_decide_eq_false hc16
   have hcn:=zsG hn gu (by rw [←gz]; omega)
   refine za8 rfl ?_
   refine zac (zaa (gk_y rfl rfl (zab zdC rfl) ?_))
   refine gQ (zah 1 tf3 rfl rfl rfl) ?_
   refine gM ?_
   refine gQ (zfV rfl rfl (by omega) (by omega)) ?_
   refine gA ?_
   refine zag (zae (T':=[(1,_),(2,_),(3,_),(4,_),(6,_)]) ⟨rfl,rfl,rfl,rfl,rfl,trivial⟩ ?_)
   refine zac (zac (zbb 13 (fun _=>mixed) (by kernel_rfl) ?_))
   refine ph_y (zaf rfl) ?_
   refine ph_y (zab zpt rfl) ?_
   refine ph_y (zah 1 tf3 rfl rfl rfl) ?_
   refine ph_y (zfx rfl rfl) ?_
   refine ph_y (zaf rfl) ?_
   refine zaz rfl rfl (fun hgd=>by(try rw [hgd]); exact(zaf rfl)) ?_
   refine zaz rfl rfl (fun hgd=>by(try rw [hgd]); exact(zc6 rfl rfl)) ?_
   refine zaz rfl rfl (fun hgd=>by(try rw [hgd]); exact(zaf rfl)) ?_
   refine zdr rfl rfl (fun hgd=>by(try rw [hgd]); exact(zaf rfl)) ?_
   refine zdr rfl rfl (fun hgd=>by(try rw [hgd]); exact(zaV (Tryz.underlying46) rfl)) ?_
   refine zdr rfl rfl (fun hgd=>by(try rw [hgd]); exact(zbL rfl rfl)) ?_
   refine zaz rfl rfl (fun hgd=>by(try rw [hgd]); exact(zaX rfl rfl rfl)) ?_
   refine ph_y (zaR rfl rfl rfl) ?_
   refine zag (zae (T':=[(1,_),(2,_),(3,_),(4,_),(6,_),(60,_)]) ⟨rfl,rfl,rfl,rfl,rfl,rfl,trivial⟩ ?_)
   refine zap rfl (fun hc60=>?_) (fun hc60=>?_)
   ·simp only [Bool.or_eq_true,Bool.and_eq_true,decide_eq_true_eq] at hc60
    have hle:=hn.least
    have hcs:zaj s=L++[⟨z,s.height⟩]:=by rw [ze5 hcn (by rw [←gz]; omega) (by rw [←gz]; omega),gL,gz]
    refine zaa (gM ?_)
    refine gM ?_
    refine gQ (zab zdC rfl) ?_
    refine gQ (zah 1 tf3 rfl rfl rfl) ?_
    refine gQ (zaI rfl (zfy _ _)) ?_
    refine zaG rfl rfl (zaD rfl (zo1 _ _) zax rfl) fun b66=>?_
    refine zb4 (m:=[(⟨z,s.height⟩:Crs)]) 1 af46 zax rfl rfl rfl rfl (fun _ hw=>(zam zax (hw.has (p:=0) rfl))) (by first | omega | (simp only [List.length_cons,List.length_nil]; omega)) (by first | (unfold maxLen; omega) | (simp only [List.length_cons,List.length_nil,maxLen]; omega)) fun a67 c67=>?_
    refine gA ?_
    refine zag (zae (T':=[(2,_),(3,_)]) ⟨rfl,rfl,trivial⟩ ?_)
    refine zac (zaa (gM ?_))
    refine gA ?_
    refine zag (zae (T':=[(2,_)]) ⟨rfl,trivial⟩ ?_)
    refine zaw (zbd (a67,c67) 1 (zaC rfl (zau rfl)) ?_ (by rw [hcs]; rfl))
    first | (rw [hcs]; done) | (rw [hcs,List.length_set])
   ·simp only [Bool.or_eq_false_iff,Bool.and_eq_false_iff,decide_eq_false_iff_not] at hc60
    refine zac (zaa (gM ?_))
    refine gQ (zc6 rfl rfl) ?_
    refine zag (zae (T':=[(1,_),(2,_),(3,_),(69,_)]) ⟨rfl,rfl,rfl,rfl,trivial⟩ ?_)
    refine zap rfl (fun hc69=>?_) (fun hc69=>?_)
    ·have hc69:=of_decide_eq_true hc69
     have hcs:zaj s=L.set ((L.length:Int) - 1).toNat ({ L.getD ((L.length:Int) - 1).toNat default with to:=s.height }):=by rw [ze4 hcn (by rw [←gz]; omega) (by rw [←gz]; omega),zlf gL (by omega),gL]
     refine zaa (gM ?_)
     refine gM ?_
     refine gQ (zaV (Tryz.underlying46) rfl) ?_
     refine gQ (zfV rfl rfl (by omega) (by omega)) ?_
     refine gQ (zab zdC rfl) ?_
     refine gQ (zah 1 tf3 rfl rfl rfl) ?_
     refine gQ (zaE se46 rfl rfl (fun _ hw=>(zam zax (hw.has (p:=0) rfl))) (by omega) (by omega)) ?_
     refine gQ (zbh zgm rfl (fun w hw=>zaO (i:=((L.length:Int) - 1)) (zam zax (hw.has (p:=0) rfl)) (by omega) (by omega))) ?_
     refine zfG (x':=({ (L.getD (((L.length:Int) - 1)).toNat default) with to:=s.height }:Crs)) 0 zax tf3 rfl rfl (vs:=[_]) rfl rfl (by decide) rfl rfl (by omega) (by omega) ?_
     refine zag (zae (T':=[(2,_),(3,_)]) ⟨rfl,rfl,trivial⟩ ?_)
     refine zac (zaa (gM ?_))
     refine gA ?_
     refine zag (zae (T':=[(2,_)]) ⟨rfl,trivial⟩ ?_)
     refine zaw (zbd (b,bc) 0 (zaC rfl (zau rfl)) ?_ (by rw [hcs]; rfl))
     first | (rw [hcs]; done) | (rw [hcs,List.length_set])
    ·have hc69:=of_decide_eq_false hc69
     have hcs:zaj s=L:=(ze6 hcn (by rw [←gz]; omega)).trans gL.symm
     refine zaq (zac (zaa (gM ?_)))
     refine gA ?_
     refine zag (zae (T':=[(2,_)]) ⟨rfl,trivial⟩ ?_)
     refine zaw (zbd (b,bc) 0 (zaC rfl (zau rfl)) ?_ (by rw [hcs]; rfl))
     first | (rw [hcs]; done) | (rw [hcs,List.length_set])
set_option maxRecDepth 100000 in
set_option maxHeartbeats 4000000 in
theorem zkm (a:Option Addr) (cap:Nat) (s:Sht) (w:World) (hl:Has w (Ints a s.heights)) (hs:Small s.heights.length) (hco:0≤s.cope) (hfit:Fits s.name.size) :
  Calls Tryz.prog 19 #[.agg #[.string s.name,.int .i64 s.base,.int .i64 s.batter,.int .i64 s.height,.int .i64 s.skin,.slice a s.heights.length cap,.int .i64 s.least,.int .i64 s.lap,.int .i64 s.run,.int .i64 s.every,.int .i64 s.at_,.int .i64 s.footing,.int .i64 s.spread,.int .u8 s.cope,.int .i64 s.tall,.int .i64 s.short,.int .i64 s.thick,.int .i64 s.low,.int .i64 s.high,.int .i64 s.rood]] w (Pure (.bool (za4 s)) w):=by
 refine zan (vs:=[_]) Tryz.func19 rfl rfl (Nat.le_of_ble_eq_true rfl) ?_
 refine zac (zaa (zaG rfl rfl (za3 (vs:=[_,_,_,_,_,_,_,_,_,_,_,_,_,_,_,_,_,_,_,_]) rfl rfl) fun b1=>?_))
 refine gA ?_
 refine zag (zae (T':=[(1,_),(2,_)]) ⟨rfl,rfl,trivial⟩ ?_)
 refine zac (zac (zbb 35 (fun _=>mixed) (by kernel_rfl) ?_))
 refine ph_y (zab zkW rfl) ?_
 refine ph_y (zah 0 tf9 rfl rfl rfl) ?_
 refine ph_y (zaJ en51 rfl (fun w hw=>znM _ w (by assumption))) ?_
 refine ph_y (zbR rfl) ?_
 refine ph_y (zaf rfl) ?_
 refine zaz rfl rfl (fun hgd=>by(try rw [hgd]); exact(zab zna rfl)) ?_
 refine zaz rfl rfl (fun hgd=>by(try rw [hgd]); exact(zah 0 tf3 rfl rfl rfl)) ?_
 refine zaz rfl rfl (fun hgd=>by(try rw [hgd]); exact(zaJ (v:=.bool (inB s.base 1 3000)) en52 rfl (fun w hw=>in_c _ _ _ w))) ?_
 refine zaz rfl rfl (fun hgd=>by(try rw [hgd]); exact(zbR rfl)) ?_
 refine ph_y (zaR rfl rfl rfl) ?_
 refine ph_y (zaf rfl) ?_
 refine zaz rfl rfl (fun hgd=>by(try rw [hgd]); exact(zab zps rfl)) ?_
 refine zaz rfl rfl (fun hgd=>by(try rw [hgd]); exact(zah 0 tf3 rfl rfl rfl)) ?_
 refine zaz rfl rfl (fun hgd=>by(try rw [hgd]); exact(zaJ (v:=.bool (inB s.batter 0 500)) en52 rfl (fun w hw=>in_c _ _ _ w))) ?_
 refine zaz rfl rfl (fun hgd=>by(try rw [hgd]); exact(zbR rfl)) ?_
 refine ph_y (zaR rfl rfl rfl) ?_
 refine ph_y (zaf rfl) ?_
 refine zaz rfl rfl (fun hgd=>by(try rw [hgd]); exact(zab zdC rfl)) ?_
 refine zaz rfl rfl (fun hgd=>by(try rw [hgd]); exact(zah 0 tf3 rfl rfl rfl)) ?_
 refine zaz rfl rfl (fun hgd=>by(try rw [hgd]); exact(zaJ (v:=.bool (inB s.height 1 3000)) en52 rfl (fun w hw=>in_c _ _ _ w))) ?_
 refine zaz rfl rfl (fun hgd=>by(try rw [hgd]); exact(zbR rfl)) ?_
 refine ph_y (zaR rfl rfl rfl) ?_
 refine ph_y (zaf rfl) ?_
 refine zaz rfl rfl (fun hgd=>by(try rw [hgd]); exact(zab zkX rfl)) ?_
 refine zaz rfl rfl (fun hgd=>by(try rw [hgd]); exact(zah 0 tf3 rfl rfl rfl)) ?_
 refine zaz rfl rfl (fun hgd=>by(try rw [hgd]); exact(zaJ (v:=.bool (inB s.skin 1 1500)) en52 rfl (fun w hw=>in_c _ _ _ w))) ?_
 refine zaz rfl rfl (fun hgd=>by(try rw [hgd]); exact(zbR rfl)) ?_
 refine ph_y (zaR rfl rfl rfl) ?_
 refine ph_y (zaf rfl) ?_
 refine zaz rfl rfl (fun hgd=>by(try rw [hgd]); exact(zab zgl rfl)) ?_
 refine zaz rfl rfl (fun hgd=>by(try rw [hgd]); exact(zah 0 tf35 rfl rfl rfl)) ?_
 refine zaz rfl rfl (fun hgd=>by(try rw [hgd]); exact(zaV (Tryz.underlying35) rfl)) ?_
 refine zaz rfl rfl (fun hgd=>by(try rw [hgd]); exact(zaJ (v:=.bool (inB (s.heights.length:Int) 1 12)) en52 rfl (fun w hw=>in_c _ _ _ w))) ?_
 refine zaz rfl rfl (fun hgd=>by(try rw [hgd]); exact(zbR rfl)) ?_
 refine ph_y (zaR rfl rfl rfl) ?_
 refine zag (zae (T':=[(1,_),(2,_),(38,_)]) ⟨rfl,rfl,rfl,trivial⟩ ?_)
 refine zap rfl (fun hc38=>?_) (fun hc38=>?_)
 ·
  refine zac (zaa (gA ?_))
  refine zag (zae (T':=[(1,_),(2,_)]) ⟨rfl,rfl,trivial⟩ ?_)
  refine zaw (zay (zaC rfl (zau rfl)) ?_)
  rw [zcS (by rw [zdE hco,show v1 s=true from hc38]; simp)]
 ·
  refine zaq (zac (zac (zaa (gA ?_))))
  refine zag (zae (T':=[(1,_),(2,_),(3,_)]) ⟨rfl,rfl,rfl,trivial⟩ ?_)
  refine zas ?_
  refine zbf (X:=Int) (fun(i:Int)=>[(1,.pointer (some ⟨b1,0,none⟩)),(2,.bool false),(3,.int .i64 i)]) (fun(i:Int)=>[Box b1 [.string s.name,.int .i64 s.base,.int .i64 s.batter,.int .i64 s.height,.int .i64 s.skin,.slice a s.heights.length cap,.int .i64 s.least,.int .i64 s.lap,.int .i64 s.run,.int .i64 s.every,.int .i64 s.at_,.int .i64 s.footing,.int .i64 s.spread,.int .u8 s.cope,.int .i64 s.tall,.int .i64 s.short,.int .i64 s.thick,.int .i64 s.low,.int .i64 s.high,.int .i64 s.rood] 37]) (fun(i:Int)=>(0≤i∧i≤s.heights.length∧∀ j:Nat,(j:Int) < i→(!inB (s.heights.getD j default) 1 1000)=false)) (fun(i:Int)=>(s.heights.length - i).toNat) 0 ⟨rfl,rfl,rfl,trivial⟩ rfl ?_ ?_
  ·exact⟨by omega,by omega,fun j hj=>by omega⟩
  ·rintro i hI
   obtain⟨g0,g1,g2⟩:=hI
   refine zac (zac (zaa (gM ?_)))
   refine gQ (zab zgl rfl) ?_
   refine gQ (zah 0 tf35 rfl rfl rfl) ?_
   refine gQ (zaV (Tryz.underlying35) rfl) ?_
   refine gQ (zbw rfl rfl) ?_
   refine zag (zae (T':=[(1,_),(2,_),(3,_),(43,_)]) ⟨rfl,rfl,rfl,rfl,trivial⟩ ?_)
   refine zap rfl (fun hc43=>?_) (fun hc43=>?_)
   ·simp only [decide_eq_true_eq] at hc43
    refine zaq (zac (zas ?_))
    refine zac (zaa (gk_y rfl rfl (zab zgl rfl) ?_))
    refine gQ (zah 0 tf35 rfl rfl rfl) ?_
    refine gM ?_
    refine gQ (zaE se35 rfl rfl (fun _ hw=>(Rd.has (Has.rd hl) hw)) (by omega) (by omega)) ?_
    refine gQ (zcE tf3 rfl (fun _ hw=>(Rd.has (Has.rd hl) hw)) (by omega) (by omega) rfl) ?_
    refine gQ (zaJ en52 rfl (fun w hw=>in_c _ _ _ w)) ?_
    refine gQ (zbR rfl) ?_
    refine zag (zae (T':=[(1,_),(2,_),(3,_),(52,_)]) ⟨rfl,rfl,rfl,rfl,trivial⟩ ?_)
    refine zap rfl (fun hc52=>?_) (fun hc52=>?_)
    ·
     refine zac (zaa (gA ?_))
     refine zag (zae (T':=[(1,_),(2,_),(3,_)]) ⟨rfl,rfl,rfl,trivial⟩ ?_)
     refine zaw (zay (zaC rfl (zau rfl)) ?_)
     rw [zcS (by rw [zdE hco,zuN g0 hc43 hc52]; simp)]
    ·
     refine zaq (zaa (gM ?_))
     refine gQ (zaY rfl rfl (by omega) (by omega)) ?_
     refine gA ?_
     refine zag (zae (T':=[(1,_),(2,_),(3,_)]) ⟨rfl,rfl,rfl,trivial⟩ ?_)
     exact za1 (i+1) ⟨rfl,rfl,rfl,trivial⟩ rfl ⟨by omega,by omega,zdP (f:=fun j=>!inB (s.heights.getD j default) 1 1000) g0 g2 hc52⟩ (by omega)
   ·simp only [decide_eq_false_iff_not] at hc43
    refine za8 rfl ?_
    refine zac (zac (zbb 28 (fun _=>mixed) (by kernel_rfl) ?_))
    refine ph_y (zab zpt rfl) ?_
    refine ph_y (zah 0 tf3 rfl rfl rfl) ?_
    refine ph_y (zaJ en52 rfl (fun w hw=>in_c _ _ _ w)) ?_
    refine ph_y (zbR rfl) ?_
    refine ph_y (zaf rfl) ?_
    refine zaz rfl rfl (fun hgd=>by(try rw [hgd]); exact(zab zsI rfl)) ?_
    refine zaz rfl rfl (fun hgd=>by(try rw [hgd]); exact(zah 0 tf3 rfl rfl rfl)) ?_
    refine zaz rfl rfl (fun hgd=>by(try rw [hgd]); exact(zaJ (v:=.bool (inB s.lap 0 500)) en52 rfl (fun w hw=>in_c _ _ _ w))) ?_
    refine zaz rfl rfl (fun hgd=>by(try rw [hgd]); exact(zbR rfl)) ?_
    refine ph_y (zaR rfl rfl rfl) ?_
    refine ph_y (zaf rfl) ?_
    refine zaz rfl rfl (fun hgd=>by(try rw [hgd]); exact(zab zsJ rfl)) ?_
    refine zaz rfl rfl (fun hgd=>by(try rw [hgd]); exact(zah 0 tf3 rfl rfl rfl)) ?_
    refine zaz rfl rfl (fun hgd=>by(try rw [hgd]); exact(zaJ (v:=.bool (inB s.run 1 20)) en52 rfl (fun w hw=>in_c _ _ _ w))) ?_
    refine zaz rfl rfl (fun hgd=>by(try rw [hgd]); exact(zbR rfl)) ?_
    refine ph_y (zaR rfl rfl rfl) ?_
    refine ph_y (zaf rfl) ?_
    refine zaz rfl rfl (fun hgd=>by(try rw [hgd]); exact(zab zl4 rfl)) ?_
    refine zaz rfl rfl (fun hgd=>by(try rw [hgd]); exact(zah 0 tf3 rfl rfl rfl)) ?_
    refine zaz rfl rfl (fun hgd=>by(try rw [hgd]); exact(zaJ (v:=.bool (inB s.footing 0 1000)) en52 rfl (fun w hw=>in_c _ _ _ w))) ?_
    refine zaz rfl rfl (fun hgd=>by(try rw [hgd]); exact(zbR rfl)) ?_
    refine ph_y (zaR rfl rfl rfl) ?_
    refine ph_y (zaf rfl) ?_
    refine zaz rfl rfl (fun hgd=>by(try rw [hgd]); exact(zab zl5 rfl)) ?_
    refine zaz rfl rfl (fun hgd=>by(try rw [hgd]); exact(zah 0 tf3 rfl rfl rfl)) ?_
    refine zaz rfl rfl (fun hgd=>by(try rw [hgd]); exact(zaJ (v:=.bool (inB s.spread 0 1000)) en52 rfl (fun w hw=>in_c _ _ _ w))) ?_
    refine zaz rfl rfl (fun hgd=>by(try rw [hgd]); exact(zbR rfl)) ?_
    refine ph_y (zaR rfl rfl rfl) ?_
    refine zag (zae (T':=[(1,_),(2,_),(80,_)]) ⟨rfl,rfl,rfl,trivial⟩ ?_)
    refine zap rfl (fun hc80=>?_) (fun hc80=>?_)
    ·
     refine zac (zaa (gA ?_))
     refine zag (zae (T':=[(1,_),(2,_)]) ⟨rfl,rfl,trivial⟩ ?_)
     refine zaw (zay (zaC rfl (zau rfl)) ?_)
     rw [zcS (by rw [zdE hco,show v2 s=true from hc80]; simp)]
    ·
     refine zaq (zac (zac (zbb 20 (fun _=>mixed) (by kernel_rfl) ?_)))
     refine ph_y (zab zjh rfl) ?_
     refine ph_y (zah 0 tf3 rfl rfl rfl) ?_
     refine ph_y (zbL rfl rfl) ?_
     refine ph_y (zaf rfl) ?_
     refine zaH rfl rfl (fun hgd=>by(try rw [hgd]); exact(zab zjU rfl)) ?_
     refine zaH rfl rfl (fun hgd=>by(try rw [hgd]); exact(zah 0 tf3 rfl rfl rfl)) ?_
     refine zaH rfl rfl (fun hgd=>by(try rw [hgd]); exact(zbL rfl rfl)) ?_
     refine ph_y (zaX rfl rfl rfl) ?_
     refine ph_y (zbR rfl) ?_
     refine ph_y (zaf rfl) ?_
     refine zaH rfl rfl (fun hgd=>by(try rw [hgd]); exact(zab zjh rfl)) ?_
     refine zaH rfl rfl (fun hgd=>by(try rw [hgd]); exact(zah 0 tf3 rfl rfl rfl)) ?_
     refine zaH rfl rfl (fun hgd=>by(try rw [hgd]); exact(zaJ (v:=.bool (inB s.every 1 100000)) en52 rfl (fun w hw=>in_c _ _ _ w))) ?_
     refine zaH rfl rfl (fun hgd=>by(try rw [hgd]); exact(zaf rfl)) ?_
     refine zdr rfl rfl (fun hgd=>by(try rw [hgd]); exact(zab zjU rfl)) ?_
     refine zdr rfl rfl (fun hgd=>by(try rw [hgd]); exact(zah 0 tf3 rfl rfl rfl)) ?_
     refine zdr rfl rfl (fun hgd=>by(try rw [hgd]); exact(zaJ (v:=.bool (inB s.at_ 0 3000)) en52 rfl (fun w hw=>in_c _ _ _ w))) ?_
     refine zaH rfl rfl (fun hgd=>by(try rw [hgd]); exact(zaX rfl rfl rfl)) ?_
     refine zaH rfl rfl (fun hgd=>by(try rw [hgd]); exact(zbR rfl)) ?_
     refine ph_y (zaX rfl rfl rfl) ?_
     refine zag (zae (T':=[(1,_),(2,_),(100,_)]) ⟨rfl,rfl,rfl,trivial⟩ ?_)
     refine zap rfl (fun hc100=>?_) (fun hc100=>?_)
     ·
      refine zac (zaa (gA ?_))
      refine zag (zae (T':=[(1,_),(2,_)]) ⟨rfl,rfl,trivial⟩ ?_)
      refine zaw (zay (zaC rfl (zau rfl)) ?_)
      rw [zcS (by rw [zdE hco,show v3 s=true from hc100]; simp)]
     ·
      refine zaq (zac (zac (zbb 23 (fun _=>mixed) (by kernel_rfl) ?_)))
      refine ph_y (zab zl6 rfl) ?_
      refine ph_y (zah 0 tf3 rfl rfl rfl) ?_
      refine ph_y (zaJ en52 rfl (fun w hw=>in_c _ _ _ w)) ?_
      refine ph_y (zbR rfl) ?_
      refine ph_y (zaf rfl) ?_
      refine zaz rfl rfl (fun hgd=>by(try rw [hgd]); exact(zab zpr rfl)) ?_
      refine zaz rfl rfl (fun hgd=>by(try rw [hgd]); exact(zah 0 tf3 rfl rfl rfl)) ?_
      refine zaz rfl rfl (fun hgd=>by(try rw [hgd]); exact(zab zl6 rfl)) ?_
      refine zaz rfl rfl (fun hgd=>by(try rw [hgd]); exact(zah 0 tf3 rfl rfl rfl)) ?_
      refine zaz rfl rfl (fun hgd=>by(try rw [hgd]); exact(zaJ (v:=.bool (inB s.low 0 s.high)) en52 rfl (fun w hw=>in_c _ _ _ w))) ?_
      refine zaz rfl rfl (fun hgd=>by(try rw [hgd]); exact(zbR rfl)) ?_
      refine ph_y (zaR rfl rfl rfl) ?_
      refine ph_y (zaf rfl) ?_
      refine zaz rfl rfl (fun hgd=>by(try rw [hgd]); exact(zab zl7 rfl)) ?_
      refine zaz rfl rfl (fun hgd=>by(try rw [hgd]); exact(zah 0 tf3 rfl rfl rfl)) ?_
      refine zaz rfl rfl (fun hgd=>by(try rw [hgd]); exact(zaJ (v:=.bool (inB s.rood 1 100000)) en52 rfl (fun w hw=>in_c _ _ _ w))) ?_
      refine zaz rfl rfl (fun hgd=>by(try rw [hgd]); exact(zbR rfl)) ?_
      refine ph_y (zaR rfl rfl rfl) ?_
      refine ph_y (zaf rfl) ?_
      refine zaz rfl rfl (fun hgd=>by(try rw [hgd]); exact(zab zfb rfl)) ?_
      refine zaz rfl rfl (fun hgd=>by(try rw [hgd]); exact(zah 0 tf5 rfl rfl rfl)) ?_
      refine zaz rfl rfl (fun hgd=>by(try rw [hgd]); exact(zc6 rfl rfl)) ?_
      refine ph_y (zaR rfl rfl rfl) ?_
      refine zag (zae (T':=[(1,_),(2,_),(123,_)]) ⟨rfl,rfl,rfl,trivial⟩ ?_)
      refine zap rfl (fun hc123=>?_) (fun hc123=>?_)
      ·
       refine zac (zaa (gA ?_))
       refine zag (zae (T':=[(1,_),(2,_)]) ⟨rfl,rfl,trivial⟩ ?_)
       refine zaw (zay (zaC rfl (zau rfl)) ?_)
       rw [zcS (by rw [zdE hco,show v4 s=true from hc123]; simp)]
      ·
       refine zaq (zac (zac (zbb 18 (fun _=>mixed) (by kernel_rfl) ?_)))
       refine ph_y (zab zfb rfl) ?_
       refine ph_y (zah 0 tf5 rfl rfl rfl) ?_
       refine ph_y (zbL rfl rfl) ?_
       refine ph_y (zaf rfl) ?_
       refine zaH rfl rfl (fun hgd=>by(try rw [hgd]); exact(zab zjV rfl)) ?_
       refine zaH rfl rfl (fun hgd=>by(try rw [hgd]); exact(zah 0 tf3 rfl rfl rfl)) ?_
       refine zaH rfl rfl (fun hgd=>by(try rw [hgd]); exact(zcr rfl rfl)) ?_
       refine zaH rfl rfl (fun hgd=>by(try rw [hgd]); exact(zaf rfl)) ?_
       refine zc0 rfl rfl (fun hgd=>by(try rw [hgd]); exact(zab zh7 rfl)) ?_
       refine zc0 rfl rfl (fun hgd=>by(try rw [hgd]); exact(zah 0 tf3 rfl rfl rfl)) ?_
       refine zc0 rfl rfl (fun hgd=>by(try rw [hgd]); exact(zcr rfl rfl)) ?_
       refine zaH rfl rfl (fun hgd=>by(try rw [hgd]); exact(zaR rfl rfl rfl)) ?_
       refine zaH rfl rfl (fun hgd=>by(try rw [hgd]); exact(zaf rfl)) ?_
       refine zc0 rfl rfl (fun hgd=>by(try rw [hgd]); exact(zab zh8 rfl)) ?_
       refine zc0 rfl rfl (fun hgd=>by(try rw [hgd]); exact(zah 0 tf3 rfl rfl rfl)) ?_
       refine zc0 rfl rfl (fun hgd=>by(try rw [hgd]); exact(zcr rfl rfl)) ?_
       refine zaH rfl rfl (fun hgd=>by(try rw [hgd]); exact(zaR rfl rfl rfl)) ?_
       refine ph_y (zaX rfl rfl rfl) ?_
       refine zag (zae (T':=[(1,_),(2,_),(141,_)]) ⟨rfl,rfl,rfl,trivial⟩ ?_)
       refine zap rfl (fun hc141=>?_) (fun hc141=>?_)
       ·
        refine zac (zaa (gA ?_))
        refine zag (zae (T':=[(1,_),(2,_)]) ⟨rfl,rfl,trivial⟩ ?_)
        refine zaw (zay (zaC rfl (zau rfl)) ?_)
        rw [zcS (by rw [zdE hco,show v5 s=true from hc141]; simp)]
       ·
        refine zaq (zac (zac (zbb 15 (fun _=>mixed) (by kernel_rfl) ?_)))
        refine ph_y (zab zfb rfl) ?_
        refine ph_y (zah 0 tf5 rfl rfl rfl) ?_
        refine ph_y (zcr rfl rfl) ?_
        refine ph_y (zaf rfl) ?_
        refine zaH rfl rfl (fun hgd=>by(try rw [hgd]); exact(zab zjV rfl)) ?_
        refine zaH rfl rfl (fun hgd=>by(try rw [hgd]); exact(zah 0 tf3 rfl rfl rfl)) ?_
        refine zaH rfl rfl (fun hgd=>by(try rw [hgd]); exact(zaJ (v:=.bool (inB s.tall 1 1000)) en52 rfl (fun w hw=>in_c _ _ _ w))) ?_
        refine zaH rfl rfl (fun hgd=>by(try rw [hgd]); exact(zbR rfl)) ?_
        refine zaH rfl rfl (fun hgd=>by(try rw [hgd]); exact(zaf rfl)) ?_
        refine zc0 rfl rfl (fun hgd=>by(try rw [hgd]); exact(zab zh8 rfl)) ?_
        refine zc0 rfl rfl (fun hgd=>by(try rw [hgd]); exact(zah 0 tf3 rfl rfl rfl)) ?_
        refine zc0 rfl rfl (fun hgd=>by(try rw [hgd]); exact(zaJ (v:=.bool (inB s.thick 1 1000)) en52 rfl (fun w hw=>in_c _ _ _ w))) ?_
        refine zc0 rfl rfl (fun hgd=>by(try rw [hgd]); exact(zbR rfl)) ?_
        refine zaH rfl rfl (fun hgd=>by(try rw [hgd]); exact(zaR rfl rfl rfl)) ?_
        refine ph_y (zaX rfl rfl rfl) ?_
        refine zag (zae (T':=[(1,_),(2,_),(156,_)]) ⟨rfl,rfl,rfl,trivial⟩ ?_)
        refine zap rfl (fun hc156=>?_) (fun hc156=>?_)
        ·
         refine zac (zaa (gA ?_))
         refine zag (zae (T':=[(1,_),(2,_)]) ⟨rfl,rfl,trivial⟩ ?_)
         refine zaw (zay (zaC rfl (zau rfl)) ?_)
         rw [zcS (by rw [zdE hco,show v6 s=true from hc156]; simp)]
        ·
         refine zaq (zac (zac (zbb 19 (fun _=>mixed) (by kernel_rfl) ?_)))
         refine ph_y (zab zfb rfl) ?_
         refine ph_y (zah 0 tf5 rfl rfl rfl) ?_
         refine ph_y (zbL rfl rfl) ?_
         refine ph_y (zaf rfl) ?_
         refine zaH rfl rfl (fun hgd=>by(try rw [hgd]); exact(zab zh7 rfl)) ?_
         refine zaH rfl rfl (fun hgd=>by(try rw [hgd]); exact(zah 0 tf3 rfl rfl rfl)) ?_
         refine zaH rfl rfl (fun hgd=>by(try rw [hgd]); exact(zaJ (v:=.bool (inB s.short 1 1000)) en52 rfl (fun w hw=>in_c _ _ _ w))) ?_
         refine zaH rfl rfl (fun hgd=>by(try rw [hgd]); exact(zbR rfl)) ?_
         refine ph_y (zaX rfl rfl rfl) ?_
         refine ph_y (zaf rfl) ?_
         refine zaz rfl rfl (fun hgd=>by(try rw [hgd]); exact(zab zfb rfl)) ?_
         refine zaz rfl rfl (fun hgd=>by(try rw [hgd]); exact(zah 0 tf5 rfl rfl rfl)) ?_
         refine zaz rfl rfl (fun hgd=>by(try rw [hgd]); exact(zcr rfl rfl)) ?_
         refine zaz rfl rfl (fun hgd=>by(try rw [hgd]); exact(zaf rfl)) ?_
         refine zdr rfl rfl (fun hgd=>by(try rw [hgd]); exact(zab zh7 rfl)) ?_
         refine zdr rfl rfl (fun hgd=>by(try rw [hgd]); exact(zah 0 tf3 rfl rfl rfl)) ?_
         refine zdr rfl rfl (fun hgd=>by(try rw [hgd]); exact(zcr rfl rfl)) ?_
         refine zaz rfl rfl (fun hgd=>by(try rw [hgd]); exact(zaX rfl rfl rfl)) ?_
         refine ph_y (zaR rfl rfl rfl) ?_
         refine zag (zae (T':=[(1,_),(2,_),(175,_)]) ⟨rfl,rfl,rfl,trivial⟩ ?_)
         refine zap rfl (fun hc175=>?_) (fun hc175=>?_)
         ·
          refine zac (zaa (gA ?_))
          refine zag (zae (T':=[(1,_),(2,_)]) ⟨rfl,rfl,trivial⟩ ?_)
          refine zaw (zay (zaC rfl (zau rfl)) ?_)
          rw [zcS (by rw [zdE hco,show v7 s=true from hc175]; simp)]
         ·have hbad:=zq7 hco hc38 (zsq hc43 g2) hc80 hc100 hc123 hc141 hc156 hc175
          refine zaq (zac (zaa (gk_y rfl rfl (zat 0 tf37 rfl rfl (vs:=[_,_,_,_,_,_,_,_,_,_,_,_,_,_,_,_,_,_,_,_]) rfl rfl) ?_)))
          refine gQ (zab zdC rfl) ?_
          refine gQ (zah 0 tf3 rfl rfl rfl) ?_
          refine gQ (zaJ en22 rfl (fun w hw=>zkn a cap s _ w)) ?_
          refine gQ (zfx rfl rfl) ?_
          refine gM ?_
          refine zai rfl rfl rfl rfl (fun hg181=>?_) (fun hg181=>?_)
          ·replace hg181:_=true:=hg181
           try rw [hg181]
           refine gQ (zat 0 tf37 rfl rfl (vs:=[_,_,_,_,_,_,_,_,_,_,_,_,_,_,_,_,_,_,_,_]) rfl rfl) ?_
           refine gT (zaG rfl rfl (zbm en21 rfl (fun w hw=>zg2 a cap s w (Rd.has (Has.rd hl) hw) (zgZ hbad))) fun p183=>?_)
           refine gT (gk_y rfl rfl (zaV (Tryz.underlying46) rfl) ?_)
           refine gT (gk_y rfl rfl (zeT rfl rfl) ?_)
           refine gQ (za5 rfl rfl rfl) ?_
           refine gA ?_
           refine zag (zae (T':=[(2,_)]) ⟨rfl,trivial⟩ ?_)
           refine zaw (zay (zaC rfl (zau rfl)) ?_)
           rw [zlD hbad,hg181]; rfl
          ·replace hg181:_=false:=hg181
           try rw [hg181]
           refine gF (gF (gF (gk_y rfl rfl (za5 rfl rfl rfl) ?_)))
           refine gA ?_
           refine zag (zae (T':=[(2,_)]) ⟨rfl,trivial⟩ ?_)
           refine zaw (zay (zaC rfl (zau rfl)) ?_)
           rw [zlD hbad,hg181]; rfl
end Go.Proofs.YtdcfcfhmkfkgmaaGreatDoor
namespace Go.Proofs.YtdcfcfhmkfkgmaaGreatDoor
open Go.K Go.Stn Go.Pln Go.RowKit
theorem tf28:TF Tryz.prog 28 false 1 (.slice none 0 0):=⟨by kernel_rfl,by kernel_rfl⟩
theorem tf29:TF Tryz.prog 29 false 1 (.slice none 0 0):=⟨by kernel_rfl,by kernel_rfl⟩
theorem tf49:TF Tryz.prog 49 true 2 (.agg #[.int IntKind.i64 0,.int IntKind.i64 0]):=⟨by kernel_rfl,by kernel_rfl⟩
theorem tf69:TF Tryz.prog 69 true 2 (.agg #[.int IntKind.i64 0,.int IntKind.i64 0]):=⟨by kernel_rfl,by kernel_rfl⟩
theorem tf92:TF Tryz.prog 92 false 1 (.slice none 0 0):=⟨by kernel_rfl,by kernel_rfl⟩
theorem tf94:TF Tryz.prog 94 true 4 (.agg #[.string ⟨#[]⟩,.string ⟨#[]⟩,.int IntKind.i64 0,.slice none 0 0]):=⟨by kernel_rfl,by kernel_rfl⟩
theorem tf98:TF Tryz.prog 98 true 5 (.agg #[.int IntKind.u8 0,.int IntKind.i64 0,.int IntKind.i64 0,.int IntKind.i64 0,.int IntKind.i64 0]):=⟨by kernel_rfl,by kernel_rfl⟩
theorem zeo:FO Tryz.prog 31 0 0:=⟨by kernel_rfl⟩
theorem zd7:FO Tryz.prog 31 1 1:=⟨by kernel_rfl⟩
theorem znh:FO Tryz.prog 94 0 0:=⟨by kernel_rfl⟩
theorem zgo:FO Tryz.prog 94 2 2:=⟨by kernel_rfl⟩
theorem zhe:FO Tryz.prog 94 3 3:=⟨by kernel_rfl⟩
theorem zpG:FO Tryz.prog 98 0 0:=⟨by kernel_rfl⟩
theorem zhf:FO Tryz.prog 98 1 1:=⟨by kernel_rfl⟩
theorem zji:FO Tryz.prog 98 2 2:=⟨by kernel_rfl⟩
theorem zfe:FO Tryz.prog 98 3 3:=⟨by kernel_rfl⟩
theorem zhg:FO Tryz.prog 98 4 4:=⟨by kernel_rfl⟩
theorem se28:SE Tryz.prog 28 41 20:=⟨Tryz.underlying28,by kernel_rfl⟩
theorem se29:SE Tryz.prog 29 94 4:=⟨Tryz.underlying29,by kernel_rfl⟩
theorem se59:SE Tryz.prog 59 69 2:=⟨Tryz.underlying59,by kernel_rfl⟩
theorem se92:SE Tryz.prog 92 98 5:=⟨Tryz.underlying92,by kernel_rfl⟩
theorem en73:En Tryz.prog 73:=za7 Tryz.func73 (by kernel_rfl) (by kernel_rfl)
theorem en74:En Tryz.prog 74:=za7 Tryz.func74 (by kernel_rfl) (by kernel_rfl)
theorem en75:En Tryz.prog 75:=za7 Tryz.func75 (by kernel_rfl) (by kernel_rfl)
theorem en76:En Tryz.prog 76:=za7 Tryz.func76 (by kernel_rfl) (by kernel_rfl)
theorem en77:En Tryz.prog 77:=za7 Tryz.func77 (by kernel_rfl) (by kernel_rfl)
theorem en78:En Tryz.prog 78:=za7 Tryz.func78 (by kernel_rfl) (by kernel_rfl)
theorem en79:En Tryz.prog 79:=za7 Tryz.func79 (by kernel_rfl) (by kernel_rfl)
theorem zvR:En Tryz.prog 104:=za7 Tryz.func104 (by kernel_rfl) (by kernel_rfl)
theorem zw9:En Tryz.prog 121:=za7 Tryz.func121 (by kernel_rfl) (by kernel_rfl)
theorem ztl  (w:World):(Instr.build 41 #[]).run Tryz.prog w=.ok (.agg #[.string ⟨#[]⟩,.int IntKind.i64 0,.int IntKind.i64 0,.int IntKind.i64 0,.int IntKind.i64 0,.slice none 0 0,.int IntKind.i64 0,.int IntKind.i64 0,.int IntKind.i64 0,.int IntKind.i64 0,.int IntKind.i64 0,.int IntKind.i64 0,.int IntKind.i64 0,.int IntKind.u8 0,.int IntKind.i64 0,.int IntKind.i64 0,.int IntKind.i64 0,.int IntKind.i64 0,.int IntKind.i64 0,.int IntKind.i64 0]) w:=by kernel_rfl
theorem ztq (x0_0:Int) (x0_1:Int) (x0_2:Int) (x1_0:Int) (x1_1:Int) (x1_2:Int) (x2_0:Int) (x2_1:Int) (x2_2:Int) (x3_0:Int) (x3_1:Int) (x3_2:Int) (x4_0:Int) (x4_1:Int) (x4_2:Int) (x5_0:Int) (x5_1:Int) (x5_2:Int) (w:World):(Instr.buildSlice 148 6 #[(0,.agg #[.int .i64 x0_0,.int .i64 x0_1,.int .i64 x0_2]),(1,.agg #[.int .i64 x1_0,.int .i64 x1_1,.int .i64 x1_2]),(2,.agg #[.int .i64 x2_0,.int .i64 x2_1,.int .i64 x2_2]),(3,.agg #[.int .i64 x3_0,.int .i64 x3_1,.int .i64 x3_2]),(4,.agg #[.int .i64 x4_0,.int .i64 x4_1,.int .i64 x4_2]),(5,.agg #[.int .i64 x5_0,.int .i64 x5_1,.int .i64 x5_2])]).run Tryz.prog w=.ok (.slice (some ⟨w.heap.size,0,none⟩) 6 6) (w.alloc (.cells (([⟨x0_0,x0_1,x0_2⟩,⟨x1_0,x1_1,x1_2⟩,⟨x2_0,x2_1,x2_2⟩,⟨x3_0,x3_1,x3_2⟩,⟨x4_0,x4_1,x4_2⟩,⟨x5_0,x5_1,x5_2⟩]:List (Lim)).flatMap zgk).toArray 117)):=by kernel_rfl
set_option maxRecDepth 100000 in
set_option maxHeartbeats 1000000 in
theorem zhj (a:Option Addr) (cap:Nat) (l:List Opn) (f:Opn→Bool) (gg:FuncId) (gfs gcap:List Value) (w:World) (hl:Has w (zaW a 5 zba l)) (hs:Small l.length) (M:World→Prop) (hM:∀ w',Ext w w'→M w') (hen:En Tryz.prog gg) (hg:∀ (z:Opn) w',M w'→Calls Tryz.prog gg (gfs++[Value.agg #[.int .u8 z.kind,.int .i64 z.at_,.int .i64 z.width,.int .i64 z.frm,.int .i64 z.high]]++gcap).toArray w' (Pure (.bool (f z)) w')) :
  Calls Tryz.prog 104 #[.slice a l.length cap,.func (.func gg) gfs.toArray gcap.toArray] w (Pure (.int .i64 (zbJ f l)) w):=by
 refine zan (vs:=[_,_]) Tryz.func104 rfl rfl (Nat.le_of_ble_eq_true rfl) ?_
 refine zac (zaa (gA ?_))
 refine zag (zae (T':=[(0,_),(1,_),(4,_)]) ⟨rfl,rfl,rfl,trivial⟩ ?_)
 refine zac (zac (zaa (gM ?_)))
 refine gQ (zaV (Tryz.underlying92) rfl) ?_
 refine gM ?_
 refine zag (zae (T':=[(0,_),(1,_),(4,_),(7,_),(8,_)]) ⟨rfl,rfl,rfl,rfl,rfl,trivial⟩ ?_)
 refine zas ?_
 refine zbf (X:=Int) (fun(i:Int)=>[(0,.slice a l.length cap),(1,.func (.func gg) gfs.toArray gcap.toArray),(4,.int .i64 0),(7,.int .i64 (l.length:Int)),(8,.int .i64 i)]) (fun(i:Int)=>[]) (fun(i:Int)=>(0≤i∧i≤l.length∧∀ j:Nat,(j:Int) < i→f (l.getD j default)=false)) (fun(i:Int)=>(l.length - i).toNat) 0 ⟨rfl,rfl,rfl,rfl,rfl,trivial⟩ rfl ?_ ?_
 ·exact⟨by omega,by omega,fun j hj=>by omega⟩
 ·rintro i hI
  obtain⟨g0,g1,g2⟩:=hI
  refine zac (zaa (gk_y rfl rfl (zbw rfl rfl) ?_))
  refine zag (zae (T':=[(0,_),(1,_),(4,_),(7,_),(8,_),(9,_)]) ⟨rfl,rfl,rfl,rfl,rfl,rfl,trivial⟩ ?_)
  refine zac (zap rfl (fun hc9=>?_) (fun hc9=>?_))
  ·simp only [decide_eq_true_eq] at hc9
   refine zaq (zac (zas ?_))
   refine zac (zaa (gM ?_))
   refine gA ?_
   refine zag (zae (T':=[(0,_),(1,_),(4,_),(5,_),(7,_),(8,_)]) ⟨rfl,rfl,rfl,rfl,rfl,rfl,trivial⟩ ?_)
   refine zac (zaa (gM ?_))
   refine gM ?_
   refine gM ?_
   refine gQ (zaE se92 rfl rfl (fun _ hw=>(Rd.has (Has.rd hl) hw)) (by omega) (by omega)) ?_
   refine gQ (zbv (vs:=[_,_,_,_,_]) tf98 rfl (fun _ hw=>(Rd.has (Has.rd hl) hw)) (by omega) (by omega) rfl) ?_
   refine gQ (zde (fs:=gfs) (cap:=gcap) hen rfl rfl (fun w hw=>hg (l.getD (i).toNat default) w (hM _ hw.base.ext0))) ?_
   refine zag (zae (T':=[(0,_),(1,_),(4,_),(5,_),(7,_),(8,_),(16,_)]) ⟨rfl,rfl,rfl,rfl,rfl,rfl,rfl,trivial⟩ ?_)
   refine zap rfl (fun hc16=>?_) (fun hc16=>?_)
   ·
    refine zac (zaa (gM ?_))
    refine gA ?_
    refine zag (zae (T':=[(0,_),(1,_),(4,_),(7,_),(8,_)]) ⟨rfl,rfl,rfl,rfl,rfl,trivial⟩ ?_)
    refine zaw (zay (zaC rfl (zau rfl)) ?_)
    exact congrArg _ (zcs g0 (by omega) g2 hc16).symm
   ·
    refine zaq (zaa (gk_y rfl rfl (zaY rfl rfl (by omega) (by omega)) ?_))
    refine gM ?_
    refine zag (zae (T':=[(0,_),(1,_),(4,_),(7,_),(8,_)]) ⟨rfl,rfl,rfl,rfl,rfl,trivial⟩ ?_)
    exact za1 _ ⟨rfl,rfl,rfl,rfl,rfl,trivial⟩ rfl ⟨by omega,by omega,fun j hj=>if h:(j:Int) < i then g2 j h else(by rw [show j=i.toNat from by omega]; exact hc16)⟩ (by omega)
  ·simp only [decide_eq_false_iff_not] at hc9
   refine za8 rfl ?_
   refine zac (zaa (gA ?_))
   refine zag (zae (T':=[(4,_)]) ⟨rfl,trivial⟩ ?_)
   refine zaw (zay (zaC rfl (zau rfl)) ?_)
   exact congrArg _ (zck (fun j hj=>g2 j (by omega))).symm
set_option maxRecDepth 100000 in
set_option maxHeartbeats 1000000 in
theorem zhR (a:Option Addr) (cap:Nat) (l:List Opn) (f:Opn→Bool) (gg:FuncId) (gfs gcap:List Value) (w:World) (hl:Has w (zaW a 5 zba l)) (hs:Small l.length) (M:World→Prop) (hM:∀ w',Ext w w'→M w') (hen:En Tryz.prog gg) (hg:∀ (z:Opn) w',M w'→Calls Tryz.prog gg (gfs++[Value.agg #[.int .u8 z.kind,.int .i64 z.at_,.int .i64 z.width,.int .i64 z.frm,.int .i64 z.high]]++gcap).toArray w' (Pure (.bool (f z)) w')) :
  Calls Tryz.prog 78 #[.slice a l.length cap,.func (.func gg) gfs.toArray gcap.toArray] w (Pure (.bool (l.any f)) w):=by
 refine zan (vs:=[_,_]) Tryz.func78 rfl rfl (Nat.le_of_ble_eq_true rfl) ?_
 refine zac (zaa (gA ?_))
 refine zag (zae (T':=[(0,_),(1,_),(4,_)]) ⟨rfl,rfl,rfl,trivial⟩ ?_)
 refine zac (zaa (gM ?_))
 refine gM ?_
 refine gQ (zaJ zvR rfl (fun w hw=>zhj _ _ l f _ _ _ w (Rd.has (Has.rd hl) hw) (by assumption) M (fun w' h=>hM w' (hw.base.ext0.trans h)) hen hg)) ?_
 refine gQ (zfx rfl rfl) ?_
 refine gA ?_
 refine zag (zae (T':=[(4,_)]) ⟨rfl,trivial⟩ ?_)
 refine zaw (zay (zaC rfl (zau rfl)) ?_)
 rw [ze9]
set_option maxRecDepth 100000 in
set_option maxHeartbeats 1000000 in
theorem zld (a:Option Addr) (cap:Nat) (l:List ShC) (f:ShC→Bool) (gg:FuncId) (gfs gcap:List Value) (w:World) (hl:Has w (zaW a 20 zbH l)) (hs:Small l.length) (M:World→Prop) (hM:∀ w',Ext w w'→M w') (hen:En Tryz.prog gg) (hg:∀ (z:ShC) w',M w'→Calls Tryz.prog gg (gfs++[Value.agg #[.string z.s.name,.int .i64 z.s.base,.int .i64 z.s.batter,.int .i64 z.s.height,.int .i64 z.s.skin,.slice z.a z.s.heights.length z.cap,.int .i64 z.s.least,.int .i64 z.s.lap,.int .i64 z.s.run,.int .i64 z.s.every,.int .i64 z.s.at_,.int .i64 z.s.footing,.int .i64 z.s.spread,.int .u8 z.s.cope,.int .i64 z.s.tall,.int .i64 z.s.short,.int .i64 z.s.thick,.int .i64 z.s.low,.int .i64 z.s.high,.int .i64 z.s.rood]]++gcap).toArray w' (Pure (.bool (f z)) w')) :
  Calls Tryz.prog 73 #[.slice a l.length cap,.func (.func gg) gfs.toArray gcap.toArray] w (Pure (.int .i64 (zbJ f l)) w):=by
 refine zan (vs:=[_,_]) Tryz.func73 rfl rfl (Nat.le_of_ble_eq_true rfl) ?_
 refine zac (zaa (gA ?_))
 refine zag (zae (T':=[(0,_),(1,_),(4,_)]) ⟨rfl,rfl,rfl,trivial⟩ ?_)
 refine zac (zac (zaa (gM ?_)))
 refine gQ (zaV (Tryz.underlying28) rfl) ?_
 refine gM ?_
 refine zag (zae (T':=[(0,_),(1,_),(4,_),(7,_),(8,_)]) ⟨rfl,rfl,rfl,rfl,rfl,trivial⟩ ?_)
 refine zas ?_
 refine zbf (X:=Int) (fun(i:Int)=>[(0,.slice a l.length cap),(1,.func (.func gg) gfs.toArray gcap.toArray),(4,.int .i64 0),(7,.int .i64 (l.length:Int)),(8,.int .i64 i)]) (fun(i:Int)=>[]) (fun(i:Int)=>(0≤i∧i≤l.length∧∀ j:Nat,(j:Int) < i→f (l.getD j default)=false)) (fun(i:Int)=>(l.length - i).toNat) 0 ⟨rfl,rfl,rfl,rfl,rfl,trivial⟩ rfl ?_ ?_
 ·exact⟨by omega,by omega,fun j hj=>by omega⟩
 ·rintro i hI
  obtain⟨g0,g1,g2⟩:=hI
  refine zac (zaa (gk_y rfl rfl (zbw rfl rfl) ?_))
  refine zag (zae (T':=[(0,_),(1,_),(4,_),(7,_),(8,_),(9,_)]) ⟨rfl,rfl,rfl,rfl,rfl,rfl,trivial⟩ ?_)
  refine zac (zap rfl (fun hc9=>?_) (fun hc9=>?_))
  ·simp only [decide_eq_true_eq] at hc9
   refine zaq (zac (zas ?_))
   refine zac (zaa (gM ?_))
   refine gA ?_
   refine zag (zae (T':=[(0,_),(1,_),(4,_),(5,_),(7,_),(8,_)]) ⟨rfl,rfl,rfl,rfl,rfl,rfl,trivial⟩ ?_)
   refine zac (zaa (gM ?_))
   refine gM ?_
   refine gM ?_
   refine gQ (zaE se28 rfl rfl (fun _ hw=>(Rd.has (Has.rd hl) hw)) (by omega) (by omega)) ?_
   refine gQ (zbv (vs:=[_,_,_,_,_,_,_,_,_,_,_,_,_,_,_,_,_,_,_,_]) tf41 rfl (fun _ hw=>(Rd.has (Has.rd hl) hw)) (by omega) (by omega) rfl) ?_
   refine gQ (zde (fs:=gfs) (cap:=gcap) hen rfl rfl (fun w hw=>hg (l.getD (i).toNat default) w (hM _ hw.base.ext0))) ?_
   refine zag (zae (T':=[(0,_),(1,_),(4,_),(5,_),(7,_),(8,_),(16,_)]) ⟨rfl,rfl,rfl,rfl,rfl,rfl,rfl,trivial⟩ ?_)
   refine zap rfl (fun hc16=>?_) (fun hc16=>?_)
   ·
    refine zac (zaa (gM ?_))
    refine gA ?_
    refine zag (zae (T':=[(0,_),(1,_),(4,_),(7,_),(8,_)]) ⟨rfl,rfl,rfl,rfl,rfl,trivial⟩ ?_)
    refine zaw (zay (zaC rfl (zau rfl)) ?_)
    exact congrArg _ (zcs g0 (by omega) g2 hc16).symm
   ·
    refine zaq (zaa (gk_y rfl rfl (zaY rfl rfl (by omega) (by omega)) ?_))
    refine gM ?_
    refine zag (zae (T':=[(0,_),(1,_),(4,_),(7,_),(8,_)]) ⟨rfl,rfl,rfl,rfl,rfl,trivial⟩ ?_)
    exact za1 _ ⟨rfl,rfl,rfl,rfl,rfl,trivial⟩ rfl ⟨by omega,by omega,fun j hj=>if h:(j:Int) < i then g2 j h else(by rw [show j=i.toNat from by omega]; exact hc16)⟩ (by omega)
  ·simp only [decide_eq_false_iff_not] at hc9
   refine za8 rfl ?_
   refine zac (zaa (gA ?_))
   refine zag (zae (T':=[(4,_)]) ⟨rfl,trivial⟩ ?_)
   refine zaw (zay (zaC rfl (zau rfl)) ?_)
   exact congrArg _ (zck (fun j hj=>g2 j (by omega))).symm
set_option maxRecDepth 100000 in
set_option maxHeartbeats 1000000 in
theorem zle (a:Option Addr) (cap:Nat) (l:List WlC) (f:WlC→Bool) (gg:FuncId) (gfs gcap:List Value) (w:World) (hl:Has w (zaW a 4 zbS l)) (hs:Small l.length) (M:World→Prop) (hM:∀ w',Ext w w'→M w') (hen:En Tryz.prog gg) (hg:∀ (z:WlC) w',M w'→Calls Tryz.prog gg (gfs++[Value.agg #[.string z.s.name,.string z.s.sheet,.int .i64 z.s.length,.slice z.a z.s.opens.length z.cap]]++gcap).toArray w' (Pure (.bool (f z)) w')) :
  Calls Tryz.prog 75 #[.slice a l.length cap,.func (.func gg) gfs.toArray gcap.toArray] w (Pure (.int .i64 (zbJ f l)) w):=by
 refine zan (vs:=[_,_]) Tryz.func75 rfl rfl (Nat.le_of_ble_eq_true rfl) ?_
 refine zac (zaa (gA ?_))
 refine zag (zae (T':=[(0,_),(1,_),(4,_)]) ⟨rfl,rfl,rfl,trivial⟩ ?_)
 refine zac (zac (zaa (gM ?_)))
 refine gQ (zaV (Tryz.underlying29) rfl) ?_
 refine gM ?_
 refine zag (zae (T':=[(0,_),(1,_),(4,_),(7,_),(8,_)]) ⟨rfl,rfl,rfl,rfl,rfl,trivial⟩ ?_)
 refine zas ?_
 refine zbf (X:=Int) (fun(i:Int)=>[(0,.slice a l.length cap),(1,.func (.func gg) gfs.toArray gcap.toArray),(4,.int .i64 0),(7,.int .i64 (l.length:Int)),(8,.int .i64 i)]) (fun(i:Int)=>[]) (fun(i:Int)=>(0≤i∧i≤l.length∧∀ j:Nat,(j:Int) < i→f (l.getD j default)=false)) (fun(i:Int)=>(l.length - i).toNat) 0 ⟨rfl,rfl,rfl,rfl,rfl,trivial⟩ rfl ?_ ?_
 ·exact⟨by omega,by omega,fun j hj=>by omega⟩
 ·rintro i hI
  obtain⟨g0,g1,g2⟩:=hI
  refine zac (zaa (gk_y rfl rfl (zbw rfl rfl) ?_))
  refine zag (zae (T':=[(0,_),(1,_),(4,_),(7,_),(8,_),(9,_)]) ⟨rfl,rfl,rfl,rfl,rfl,rfl,trivial⟩ ?_)
  refine zac (zap rfl (fun hc9=>?_) (fun hc9=>?_))
  ·simp only [decide_eq_true_eq] at hc9
   refine zaq (zac (zas ?_))
   refine zac (zaa (gM ?_))
   refine gA ?_
   refine zag (zae (T':=[(0,_),(1,_),(4,_),(5,_),(7,_),(8,_)]) ⟨rfl,rfl,rfl,rfl,rfl,rfl,trivial⟩ ?_)
   refine zac (zaa (gM ?_))
   refine gM ?_
   refine gM ?_
   refine gQ (zaE se29 rfl rfl (fun _ hw=>(Rd.has (Has.rd hl) hw)) (by omega) (by omega)) ?_
   refine gQ (zbv (vs:=[_,_,_,_]) tf94 rfl (fun _ hw=>(Rd.has (Has.rd hl) hw)) (by omega) (by omega) rfl) ?_
   refine gQ (zde (fs:=gfs) (cap:=gcap) hen rfl rfl (fun w hw=>hg (l.getD (i).toNat default) w (hM _ hw.base.ext0))) ?_
   refine zag (zae (T':=[(0,_),(1,_),(4,_),(5,_),(7,_),(8,_),(16,_)]) ⟨rfl,rfl,rfl,rfl,rfl,rfl,rfl,trivial⟩ ?_)
   refine zap rfl (fun hc16=>?_) (fun hc16=>?_)
   ·
    refine zac (zaa (gM ?_))
    refine gA ?_
    refine zag (zae (T':=[(0,_),(1,_),(4,_),(7,_),(8,_)]) ⟨rfl,rfl,rfl,rfl,rfl,trivial⟩ ?_)
    refine zaw (zay (zaC rfl (zau rfl)) ?_)
    exact congrArg _ (zcs g0 (by omega) g2 hc16).symm
   ·
    refine zaq (zaa (gk_y rfl rfl (zaY rfl rfl (by omega) (by omega)) ?_))
    refine gM ?_
    refine zag (zae (T':=[(0,_),(1,_),(4,_),(7,_),(8,_)]) ⟨rfl,rfl,rfl,rfl,rfl,trivial⟩ ?_)
    exact za1 _ ⟨rfl,rfl,rfl,rfl,rfl,trivial⟩ rfl ⟨by omega,by omega,fun j hj=>if h:(j:Int) < i then g2 j h else(by rw [show j=i.toNat from by omega]; exact hc16)⟩ (by omega)
  ·simp only [decide_eq_false_iff_not] at hc9
   refine za8 rfl ?_
   refine zac (zaa (gA ?_))
   refine zag (zae (T':=[(4,_)]) ⟨rfl,trivial⟩ ?_)
   refine zaw (zay (zaC rfl (zau rfl)) ?_)
   exact congrArg _ (zck (fun j hj=>g2 j (by omega))).symm
set_option maxRecDepth 100000 in
set_option maxHeartbeats 1000000 in
theorem zla (a:Option Addr) (cap:Nat) (l:List Crs) (f:Crs→Bool) (gg:FuncId) (gfs gcap:List Value) (w:World) (hl:Has w (zaW a 2 zbq l)) (hs:Small l.length) (M:World→Prop) (hM:∀ w',Ext w w'→M w') (hen:En Tryz.prog gg) (hg:∀ (z:Crs) w',M w'→Calls Tryz.prog gg (gfs++[Value.agg #[.int .i64 z.frm,.int .i64 z.to]]++gcap).toArray w' (Pure (.bool (f z)) w')) :
  Calls Tryz.prog 97 #[.slice a l.length cap,.func (.func gg) gfs.toArray gcap.toArray] w (Pure (.int .i64 (zbJ f l)) w):=by
 refine zan (vs:=[_,_]) Tryz.func97 rfl rfl (Nat.le_of_ble_eq_true rfl) ?_
 refine zac (zaa (gA ?_))
 refine zag (zae (T':=[(0,_),(1,_),(4,_)]) ⟨rfl,rfl,rfl,trivial⟩ ?_)
 refine zac (zac (zaa (gM ?_)))
 refine gQ (zaV (Tryz.underlying38) rfl) ?_
 refine gM ?_
 refine zag (zae (T':=[(0,_),(1,_),(4,_),(7,_),(8,_)]) ⟨rfl,rfl,rfl,rfl,rfl,trivial⟩ ?_)
 refine zas ?_
 refine zbf (X:=Int) (fun(i:Int)=>[(0,.slice a l.length cap),(1,.func (.func gg) gfs.toArray gcap.toArray),(4,.int .i64 0),(7,.int .i64 (l.length:Int)),(8,.int .i64 i)]) (fun(i:Int)=>[]) (fun(i:Int)=>(0≤i∧i≤l.length∧∀ j:Nat,(j:Int) < i→f (l.getD j default)=false)) (fun(i:Int)=>(l.length - i).toNat) 0 ⟨rfl,rfl,rfl,rfl,rfl,trivial⟩ rfl ?_ ?_
 ·exact⟨by omega,by omega,fun j hj=>by omega⟩
 ·rintro i hI
  obtain⟨g0,g1,g2⟩:=hI
  refine zac (zaa (gk_y rfl rfl (zbw rfl rfl) ?_))
  refine zag (zae (T':=[(0,_),(1,_),(4,_),(7,_),(8,_),(9,_)]) ⟨rfl,rfl,rfl,rfl,rfl,rfl,trivial⟩ ?_)
  refine zac (zap rfl (fun hc9=>?_) (fun hc9=>?_))
  ·simp only [decide_eq_true_eq] at hc9
   refine zaq (zac (zas ?_))
   refine zac (zaa (gM ?_))
   refine gA ?_
   refine zag (zae (T':=[(0,_),(1,_),(4,_),(5,_),(7,_),(8,_)]) ⟨rfl,rfl,rfl,rfl,rfl,rfl,trivial⟩ ?_)
   refine zac (zaa (gM ?_))
   refine gM ?_
   refine gM ?_
   refine gQ (zaE se38 rfl rfl (fun _ hw=>(Rd.has (Has.rd hl) hw)) (by omega) (by omega)) ?_
   refine gQ (zbv (vs:=[_,_]) tf49 rfl (fun _ hw=>(Rd.has (Has.rd hl) hw)) (by omega) (by omega) rfl) ?_
   refine gQ (zde (fs:=gfs) (cap:=gcap) hen rfl rfl (fun w hw=>hg (l.getD (i).toNat default) w (hM _ hw.base.ext0))) ?_
   refine zag (zae (T':=[(0,_),(1,_),(4,_),(5,_),(7,_),(8,_),(16,_)]) ⟨rfl,rfl,rfl,rfl,rfl,rfl,rfl,trivial⟩ ?_)
   refine zap rfl (fun hc16=>?_) (fun hc16=>?_)
   ·
    refine zac (zaa (gM ?_))
    refine gA ?_
    refine zag (zae (T':=[(0,_),(1,_),(4,_),(7,_),(8,_)]) ⟨rfl,rfl,rfl,rfl,rfl,trivial⟩ ?_)
    refine zaw (zay (zaC rfl (zau rfl)) ?_)
    exact congrArg _ (zcs g0 (by omega) g2 hc16).symm
   ·
    refine zaq (zaa (gk_y rfl rfl (zaY rfl rfl (by omega) (by omega)) ?_))
    refine gM ?_
    refine zag (zae (T':=[(0,_),(1,_),(4,_),(7,_),(8,_)]) ⟨rfl,rfl,rfl,rfl,rfl,trivial⟩ ?_)
    exact za1 _ ⟨rfl,rfl,rfl,rfl,rfl,trivial⟩ rfl ⟨by omega,by omega,fun j hj=>if h:(j:Int) < i then g2 j h else(by rw [show j=i.toNat from by omega]; exact hc16)⟩ (by omega)
  ·simp only [decide_eq_false_iff_not] at hc9
   refine za8 rfl ?_
   refine zac (zaa (gA ?_))
   refine zag (zae (T':=[(4,_)]) ⟨rfl,trivial⟩ ?_)
   refine zaw (zay (zaC rfl (zau rfl)) ?_)
   exact congrArg _ (zck (fun j hj=>g2 j (by omega))).symm
set_option maxRecDepth 100000 in
set_option maxHeartbeats 1000000 in
theorem zk9 (a:Option Addr) (cap:Nat) (l:List Crs) (f:Crs→Bool) (gg:FuncId) (gfs gcap:List Value) (w:World) (hl:Has w (zaW a 2 zbq l)) (hs:Small l.length) (M:World→Prop) (hM:∀ w',Ext w w'→M w') (hen:En Tryz.prog gg) (hg:∀ (z:Crs) w',M w'→Calls Tryz.prog gg (gfs++[Value.agg #[.int .i64 z.frm,.int .i64 z.to]]++gcap).toArray w' (Pure (.bool (f z)) w')) :
  Calls Tryz.prog 121 #[.slice a l.length cap,.func (.func gg) gfs.toArray gcap.toArray] w (Pure (.int .i64 (zbJ f l)) w):=by
 refine zan (vs:=[_,_]) Tryz.func121 rfl rfl (Nat.le_of_ble_eq_true rfl) ?_
 refine zac (zaa (gA ?_))
 refine zag (zae (T':=[(0,_),(1,_),(4,_)]) ⟨rfl,rfl,rfl,trivial⟩ ?_)
 refine zac (zac (zaa (gM ?_)))
 refine gQ (zaV (Tryz.underlying59) rfl) ?_
 refine gM ?_
 refine zag (zae (T':=[(0,_),(1,_),(4,_),(7,_),(8,_)]) ⟨rfl,rfl,rfl,rfl,rfl,trivial⟩ ?_)
 refine zas ?_
 refine zbf (X:=Int) (fun(i:Int)=>[(0,.slice a l.length cap),(1,.func (.func gg) gfs.toArray gcap.toArray),(4,.int .i64 0),(7,.int .i64 (l.length:Int)),(8,.int .i64 i)]) (fun(i:Int)=>[]) (fun(i:Int)=>(0≤i∧i≤l.length∧∀ j:Nat,(j:Int) < i→f (l.getD j default)=false)) (fun(i:Int)=>(l.length - i).toNat) 0 ⟨rfl,rfl,rfl,rfl,rfl,trivial⟩ rfl ?_ ?_
 ·exact⟨by omega,by omega,fun j hj=>by omega⟩
 ·rintro i hI
  obtain⟨g0,g1,g2⟩:=hI
  refine zac (zaa (gk_y rfl rfl (zbw rfl rfl) ?_))
  refine zag (zae (T':=[(0,_),(1,_),(4,_),(7,_),(8,_),(9,_)]) ⟨rfl,rfl,rfl,rfl,rfl,rfl,trivial⟩ ?_)
  refine zac (zap rfl (fun hc9=>?_) (fun hc9=>?_))
  ·simp only [decide_eq_true_eq] at hc9
   refine zaq (zac (zas ?_))
   refine zac (zaa (gM ?_))
   refine gA ?_
   refine zag (zae (T':=[(0,_),(1,_),(4,_),(5,_),(7,_),(8,_)]) ⟨rfl,rfl,rfl,rfl,rfl,rfl,trivial⟩ ?_)
   refine zac (zaa (gM ?_))
   refine gM ?_
   refine gM ?_
   refine gQ (zaE se59 rfl rfl (fun _ hw=>(Rd.has (Has.rd hl) hw)) (by omega) (by omega)) ?_
   refine gQ (zbv (vs:=[_,_]) tf69 rfl (fun _ hw=>(Rd.has (Has.rd hl) hw)) (by omega) (by omega) rfl) ?_
   refine gQ (zde (fs:=gfs) (cap:=gcap) hen rfl rfl (fun w hw=>hg (l.getD (i).toNat default) w (hM _ hw.base.ext0))) ?_
   refine zag (zae (T':=[(0,_),(1,_),(4,_),(5,_),(7,_),(8,_),(16,_)]) ⟨rfl,rfl,rfl,rfl,rfl,rfl,rfl,trivial⟩ ?_)
   refine zap rfl (fun hc16=>?_) (fun hc16=>?_)
   ·
    refine zac (zaa (gM ?_))
    refine gA ?_
    refine zag (zae (T':=[(0,_),(1,_),(4,_),(7,_),(8,_)]) ⟨rfl,rfl,rfl,rfl,rfl,trivial⟩ ?_)
    refine zaw (zay (zaC rfl (zau rfl)) ?_)
    exact congrArg _ (zcs g0 (by omega) g2 hc16).symm
   ·
    refine zaq (zaa (gk_y rfl rfl (zaY rfl rfl (by omega) (by omega)) ?_))
    refine gM ?_
    refine zag (zae (T':=[(0,_),(1,_),(4,_),(7,_),(8,_)]) ⟨rfl,rfl,rfl,rfl,rfl,trivial⟩ ?_)
    exact za1 _ ⟨rfl,rfl,rfl,rfl,rfl,trivial⟩ rfl ⟨by omega,by omega,fun j hj=>if h:(j:Int) < i then g2 j h else(by rw [show j=i.toNat from by omega]; exact hc16)⟩ (by omega)
  ·simp only [decide_eq_false_iff_not] at hc9
   refine za8 rfl ?_
   refine zac (zaa (gA ?_))
   refine zag (zae (T':=[(4,_)]) ⟨rfl,trivial⟩ ?_)
   refine zaw (zay (zaC rfl (zau rfl)) ?_)
   exact congrArg _ (zck (fun j hj=>g2 j (by omega))).symm
set_option maxRecDepth 100000 in
set_option maxHeartbeats 1000000 in
theorem zhO (a:Option Addr) (cap:Nat) (l:List Crs) (f:Crs→Bool) (gg:FuncId) (gfs gcap:List Value) (w:World) (hl:Has w (zaW a 2 zbq l)) (hs:Small l.length) (M:World→Prop) (hM:∀ w',Ext w w'→M w') (hen:En Tryz.prog gg) (hg:∀ (z:Crs) w',M w'→Calls Tryz.prog gg (gfs++[Value.agg #[.int .i64 z.frm,.int .i64 z.to]]++gcap).toArray w' (Pure (.bool (f z)) w')) :
  Calls Tryz.prog 99 #[.slice a l.length cap,.func (.func gg) gfs.toArray gcap.toArray] w (Pure (.bool (l.any f)) w):=by
 refine zan (vs:=[_,_]) Tryz.func99 rfl rfl (Nat.le_of_ble_eq_true rfl) ?_
 refine zac (zaa (gA ?_))
 refine zag (zae (T':=[(0,_),(1,_),(4,_)]) ⟨rfl,rfl,rfl,trivial⟩ ?_)
 refine zac (zaa (gM ?_))
 refine gM ?_
 refine gQ (zaJ zw9 rfl (fun w hw=>zk9 _ _ l f _ _ _ w (Rd.has (Has.rd hl) hw) (by assumption) M (fun w' h=>hM w' (hw.base.ext0.trans h)) hen hg)) ?_
 refine gQ (zfx rfl rfl) ?_
 refine gA ?_
 refine zag (zae (T':=[(4,_)]) ⟨rfl,trivial⟩ ?_)
 refine zaw (zay (zaC rfl (zau rfl)) ?_)
 rw [ze9]
set_option maxRecDepth 100000 in
set_option maxHeartbeats 1000000 in
theorem zsi (z:ShC) (n:ByteArray) (b:Nat) (w:World) (hb:Has w (Box b [.string n] 9)) :
  Calls Tryz.prog 74 #[.agg #[.string z.s.name,.int .i64 z.s.base,.int .i64 z.s.batter,.int .i64 z.s.height,.int .i64 z.s.skin,.slice z.a z.s.heights.length z.cap,.int .i64 z.s.least,.int .i64 z.s.lap,.int .i64 z.s.run,.int .i64 z.s.every,.int .i64 z.s.at_,.int .i64 z.s.footing,.int .i64 z.s.spread,.int .u8 z.s.cope,.int .i64 z.s.tall,.int .i64 z.s.short,.int .i64 z.s.thick,.int .i64 z.s.low,.int .i64 z.s.high,.int .i64 z.s.rood],.pointer (some ⟨b,0,none⟩)] w (Pure (.bool (z.s.name.toList == n.toList)) w):=by
 refine zan (vs:=[_,_]) Tryz.func74 rfl rfl (Nat.le_of_ble_eq_true rfl) ?_
 refine zac (zaa (zaG rfl rfl (za3 (vs:=[_,_,_,_,_,_,_,_,_,_,_,_,_,_,_,_,_,_,_,_]) rfl rfl) fun b2=>?_))
 refine gA ?_
 refine zag (zae (T':=[(1,_),(2,_),(3,_)]) ⟨rfl,rfl,rfl,trivial⟩ ?_)
 refine zac (zaa (gk_y rfl rfl (zab znb rfl) ?_))
 refine gQ (zah 0 tf9 rfl rfl rfl) ?_
 refine gQ (zbW tf9 rfl (fun _ hw=>zaQ (Rd.has (Has.rd hb) hw) rfl)) ?_
 refine gQ (zge rfl rfl) ?_
 refine gA ?_
 refine zag (zae (T':=[(3,_)]) ⟨rfl,trivial⟩ ?_)
 refine zaw (zay (zaC rfl (zau rfl)) ?_)
 rfl
set_option maxRecDepth 100000 in
set_option maxHeartbeats 1000000 in
theorem zuP (z:WlC) (n:ByteArray) (b:Nat) (w:World) (hb:Has w (Box b [.string n] 9)) :
  Calls Tryz.prog 76 #[.agg #[.string z.s.name,.string z.s.sheet,.int .i64 z.s.length,.slice z.a z.s.opens.length z.cap],.pointer (some ⟨b,0,none⟩)] w (Pure (.bool (z.s.name.toList == n.toList)) w):=by
 refine zan (vs:=[_,_]) Tryz.func76 rfl rfl (Nat.le_of_ble_eq_true rfl) ?_
 refine zac (zaa (zaG rfl rfl (za3 (vs:=[_,_,_,_]) rfl rfl) fun b2=>?_))
 refine gA ?_
 refine zag (zae (T':=[(1,_),(2,_),(3,_)]) ⟨rfl,rfl,rfl,trivial⟩ ?_)
 refine zac (zaa (gk_y rfl rfl (zab znh rfl) ?_))
 refine gQ (zah 0 tf9 rfl rfl rfl) ?_
 refine gQ (zbW tf9 rfl (fun _ hw=>zaQ (Rd.has (Has.rd hb) hw) rfl)) ?_
 refine gQ (zge rfl rfl) ?_
 refine gA ?_
 refine zag (zae (T':=[(3,_)]) ⟨rfl,trivial⟩ ?_)
 refine zaw (zay (zaC rfl (zau rfl)) ?_)
 rfl
set_option maxRecDepth 100000 in
set_option maxHeartbeats 1000000 in
theorem zeu (a:Option Addr) (cap:Nat) (S:List ShC) (b:Option Addr) (nw bcap:Nat) (n:ByteArray) (w:World) (hl:Has w (zaW a 20 zbH S)) (hs:Small S.length) :
  Calls Tryz.prog 46 #[.agg #[.slice a S.length cap,.slice b nw bcap],.string n] w (Pure (.tuple #[.agg (zbH (zav S n)).toArray,.bool (decide (0≤zaS S n))]) w):=by
 have hlt:=fun h=>ziE (S:=S) (n:=n) h
 refine zan (vs:=[_,_]) Tryz.func46 rfl rfl (Nat.le_of_ble_eq_true rfl) ?_
 refine zac (zaa (zaG rfl rfl (za3 (vs:=[_,_]) rfl rfl) fun b2=>?_))
 refine zaG rfl rfl (za3 (vs:=[_]) rfl rfl) fun b3=>?_
 refine zaG rfl rfl (zaL tf41 (zs:=[_,_,_,_,_,_,_,_,_,_,_,_,_,_,_,_,_,_,_,_]) rfl) fun b4=>?_
 refine gA ?_
 refine zag (zae (T':=[(2,_),(3,_),(4,_),(5,_)]) ⟨rfl,rfl,rfl,rfl,trivial⟩ ?_)
 refine zac (zaa (gk_y rfl rfl (zab zeo rfl) ?_))
 refine gQ (zah 2 tf28 rfl rfl rfl) ?_
 refine gQ (zbO («as»:=[]) (bs:=[_]) rfl rfl) ?_
 refine gQ (zaJ en73 rfl (fun w hw=>show Calls _ _ _ w (Pure (.int .i64 (zaS S n)) w) from zld _ _ S (fun z=>z.s.name.toList == n.toList) 74 [] [.pointer (some ⟨b3,0,none⟩)] w (Rd.has (Has.rd hl) hw) (by assumption) (fun w'=>Has w' (Box b3 [.string n] 9)) (fun w' hx=>Has.ext (hw.has (p:=1) rfl) hx) en74 (fun z w' hm=>zsi z n b3 w' hm))) ?_
 refine gA ?_
 refine zag (zae (T':=[(2,_),(4,_),(5,_),(6,_)]) ⟨rfl,rfl,rfl,rfl,trivial⟩ ?_)
 refine zac (zac (zaa (gM ?_)))
 refine gQ (zbw rfl rfl) ?_
 refine zag (zae (T':=[(2,_),(4,_),(5,_),(6,_),(12,_)]) ⟨rfl,rfl,rfl,rfl,rfl,trivial⟩ ?_)
 refine zap rfl (fun hc12=>?_) (fun hc12=>?_)
 ·have h0:¬ 0≤zaS S n:=by have:=of_decide_eq_true hc12; omega
  refine zac (zaa (gk_y rfl rfl (zaI (parts:=[]) rfl ztl) ?_))
  refine zbz 0 tf41 rfl rfl (vs:=[_,_,_,_,_,_,_,_,_,_,_,_,_,_,_,_,_,_,_,_]) rfl rfl rfl rfl rfl ?_
  refine gA ?_
  refine zag (zae (T':=[(2,_),(4,_),(5,_),(6,_)]) ⟨rfl,rfl,rfl,rfl,trivial⟩ ?_)
  refine zaw (zay (zc2 rfl (zbU (i:=0) (vs:=[.string ⟨#[]⟩,.int .i64 0,.int .i64 0,.int .i64 0,.int .i64 0,.slice none 0 0,.int .i64 0,.int .i64 0,.int .i64 0,.int .i64 0,.int .i64 0,.int .i64 0,.int .i64 0,.int .u8 0,.int .i64 0,.int .i64 0,.int .i64 0,.int .i64 0,.int .i64 0,.int .i64 0]) tf41 rfl rfl rfl rfl) (zau rfl)) ?_)
  rw [show zav S n=default from if_neg h0,decide_eq_false h0]; rfl
 ·have h0:0≤zaS S n:=by have:=of_decide_eq_false hc12; omega
  have h1:=hlt h0
  refine zaq (zac (zaa (gk_y rfl rfl (zab zeo rfl) ?_)))
  refine gQ (zah 2 tf28 rfl rfl rfl) ?_
  refine gM ?_
  refine gQ (zaE se28 rfl rfl (fun _ hw=>(Rd.has (Has.rd hl) hw)) (by omega) (by omega)) ?_
  refine gQ (zbv (vs:=[_,_,_,_,_,_,_,_,_,_,_,_,_,_,_,_,_,_,_,_]) tf41 rfl (fun _ hw=>(Rd.has (Has.rd hl) hw)) (by omega) (by omega) rfl) ?_
  refine zbz 0 tf41 rfl rfl (vs:=[_,_,_,_,_,_,_,_,_,_,_,_,_,_,_,_,_,_,_,_]) rfl rfl rfl rfl rfl ?_
  refine gA ?_
  refine zag (zae (T':=[(4,_),(5,_)]) ⟨rfl,rfl,trivial⟩ ?_)
  refine zaw (zay (zc2 rfl (zbU (i:=0) (vs:=[.string (S.getD ((zaS S n)).toNat default).s.name,.int .i64 ((S.getD ((zaS S n)).toNat default).s.base),.int .i64 ((S.getD ((zaS S n)).toNat default).s.batter),.int .i64 ((S.getD ((zaS S n)).toNat default).s.height),.int .i64 ((S.getD ((zaS S n)).toNat default).s.skin),.slice (S.getD ((zaS S n)).toNat default).a (S.getD ((zaS S n)).toNat default).s.heights.length (S.getD ((zaS S n)).toNat default).cap,.int .i64 ((S.getD ((zaS S n)).toNat default).s.least),.int .i64 ((S.getD ((zaS S n)).toNat default).s.lap),.int .i64 ((S.getD ((zaS S n)).toNat default).s.run),.int .i64 ((S.getD ((zaS S n)).toNat default).s.every),.int .i64 ((S.getD ((zaS S n)).toNat default).s.at_),.int .i64 ((S.getD ((zaS S n)).toNat default).s.footing),.int .i64 ((S.getD ((zaS S n)).toNat default).s.spread),.int .u8 (S.getD ((zaS S n)).toNat default).s.cope,.int .i64 ((S.getD ((zaS S n)).toNat default).s.tall),.int .i64 ((S.getD ((zaS S n)).toNat default).s.short),.int .i64 ((S.getD ((zaS S n)).toNat default).s.thick),.int .i64 ((S.getD ((zaS S n)).toNat default).s.low),.int .i64 ((S.getD ((zaS S n)).toNat default).s.high),.int .i64 ((S.getD ((zaS S n)).toNat default).s.rood)]) tf41 rfl rfl rfl rfl) (zau rfl)) ?_)
  rw [show zav S n=S.getD (zaS S n).toNat default from if_pos h0,decide_eq_true h0]
set_option maxRecDepth 100000 in
set_option maxHeartbeats 1000000 in
theorem zkg (a:Option Addr) (ns cap:Nat) (b:Option Addr) (bcap:Nat) (V:List WlC) (n:ByteArray) (w:World) (hlw:Has w (zaW b 4 zbS V)) (hsw:Small V.length) :
  Calls Tryz.prog 47 #[.agg #[.slice a ns cap,.slice b V.length bcap],.string n] w (Pure (.int .i64 (zaM V n)) w):=by
 refine zan (vs:=[_,_]) Tryz.func47 rfl rfl (Nat.le_of_ble_eq_true rfl) ?_
 refine zac (zaa (zaG rfl rfl (za3 (vs:=[_,_]) rfl rfl) fun b2=>?_))
 refine zaG rfl rfl (za3 (vs:=[_]) rfl rfl) fun b3=>?_
 refine gA ?_
 refine zag (zae (T':=[(2,_),(3,_),(4,_)]) ⟨rfl,rfl,rfl,trivial⟩ ?_)
 refine zac (zaa (gk_y rfl rfl (zab zd7 rfl) ?_))
 refine gQ (zah 1 tf29 rfl rfl rfl) ?_
 refine gQ (zbO («as»:=[]) (bs:=[_]) rfl rfl) ?_
 refine gQ (zaJ en75 rfl (fun w hw=>show Calls _ _ _ w (Pure (.int .i64 (zaM V n)) w) from zle _ _ V (fun z=>z.s.name.toList == n.toList) 76 [] [.pointer (some ⟨b3,0,none⟩)] w (Rd.has (Has.rd hlw) hw) (by assumption) (fun w'=>Has w' (Box b3 [.string n] 9)) (fun w' hx=>Has.ext (hw.has (p:=0) rfl) hx) en76 (fun z w' hm=>zuP z n b3 w' hm))) ?_
 refine gA ?_
 refine zag (zae (T':=[(4,_)]) ⟨rfl,trivial⟩ ?_)
 refine zaw (zay (zaC rfl (zau rfl)) ?_)
 rfl
set_option maxRecDepth 100000 in
set_option maxHeartbeats 1000000 in
theorem zvW (o:Opn) (b:Option Addr) (bcap:Nat) (v:Wll) (a:Option Addr) (cap:Nat) (s:Sht) (w:World) (hk:Knd o) (hlen:1≤v.length∧v.length≤100000) (hh:0≤s.height∧s.height≤3000) :
  Calls Tryz.prog 77 #[.agg #[.int .u8 o.kind,.int .i64 o.at_,.int .i64 o.width,.int .i64 o.frm,.int .i64 o.high],.agg #[.string v.name,.string v.sheet,.int .i64 v.length,.slice b v.opens.length bcap],.agg #[.string s.name,.int .i64 s.base,.int .i64 s.batter,.int .i64 s.height,.int .i64 s.skin,.slice a s.heights.length cap,.int .i64 s.least,.int .i64 s.lap,.int .i64 s.run,.int .i64 s.every,.int .i64 s.at_,.int .i64 s.footing,.int .i64 s.spread,.int .u8 s.cope,.int .i64 s.tall,.int .i64 s.short,.int .i64 s.thick,.int .i64 s.low,.int .i64 s.high,.int .i64 s.rood]] w (Pure (.bool (zfY v.length s.height o)) w):=by
 refine zan (vs:=[_,_,_]) Tryz.func77 rfl rfl (Nat.le_of_ble_eq_true rfl) ?_
 refine zac (zaa (zaG rfl rfl (za3 (vs:=[_,_,_,_,_]) rfl rfl) fun b3=>?_))
 refine zaG rfl rfl (za3 (vs:=[_,_,_,_]) rfl rfl) fun b4=>?_
 refine zaG rfl rfl (za3 (vs:=[_,_,_,_,_,_,_,_,_,_,_,_,_,_,_,_,_,_,_,_]) rfl rfl) fun b5=>?_
 refine gA ?_
 refine zag (zae (T':=[(3,_),(4,_),(5,_),(6,_)]) ⟨rfl,rfl,rfl,rfl,trivial⟩ ?_)
 refine zac (zac (zaa (gk_y rfl rfl (zab zpG rfl) ?_)))
 refine gQ (zah 2 tf5 rfl rfl rfl) ?_
 refine gQ (ziU (by kernel_rfl) (Tryz.underlying3) rfl) ?_
 refine gQ (zaI rfl (zaF _ _ _)) ?_
 refine gQ (zab zgo rfl) ?_
 refine gQ (zah 1 tf3 rfl rfl rfl) ?_
 refine gQ (zaI rfl (zaF _ _ _)) ?_
 refine gQ (zab zji rfl) ?_
 refine gQ (zah 2 tf3 rfl rfl rfl) ?_
 refine gQ (zab zgo rfl) ?_
 refine gQ (zah 1 tf3 rfl rfl rfl) ?_
 refine gQ (zaI rfl (zaF _ _ _)) ?_
 refine gQ (zab zhf rfl) ?_
 refine gQ (zah 2 tf3 rfl rfl rfl) ?_
 refine gQ (zab zgo rfl) ?_
 refine gQ (zah 1 tf3 rfl rfl rfl) ?_
 refine gQ (zab zji rfl) ?_
 refine gQ (zah 2 tf3 rfl rfl rfl) ?_
 refine gQ (ziW rfl rfl) ?_
 refine gQ (zaI rfl (zaF _ _ _)) ?_
 refine gQ (zab zhg rfl) ?_
 refine gQ (zah 2 tf3 rfl rfl rfl) ?_
 refine gQ (zab zep rfl) ?_
 refine gQ (zah 0 tf3 rfl rfl rfl) ?_
 refine gQ (zaI rfl (zaF _ _ _)) ?_
 refine gQ (zab zfe rfl) ?_
 refine gQ (zah 2 tf3 rfl rfl rfl) ?_
 refine gQ (zab zep rfl) ?_
 refine gQ (zah 0 tf3 rfl rfl rfl) ?_
 refine gQ (zab zhg rfl) ?_
 refine gQ (zah 2 tf3 rfl rfl rfl) ?_
 refine gQ (ziW rfl rfl) ?_
 refine gQ (zaI rfl (zaF _ _ _)) ?_
 refine zaG rfl rfl (zaD rfl (ztq _ _ _ _ _ _ _ _ _ _ _ _ _ _ _ _ _ _) zbM rfl) fun b41=>?_
 refine gQ (zaJ en53 rfl (fun w hw=>zfT _ _ ([(⟨(IntKind.i64.wrap o.kind),1,4⟩:Lim),(⟨v.length,1,100000⟩:Lim),(⟨o.width,1,v.length⟩:Lim),(⟨o.at_,0,(IntKind.i64.wrap (v.length - o.width))⟩:Lim),(⟨o.high,1,s.height⟩:Lim),(⟨o.frm,0,(IntKind.i64.wrap (s.height - o.high))⟩:Lim)]) w (zam zbM (hw.has (p:=0) rfl)) (by simp [Small]))) ?_
 refine gQ (zbR rfl) ?_
 refine zag (zae (T':=[(3,_),(5,_),(6,_),(43,_)]) ⟨rfl,rfl,rfl,rfl,trivial⟩ ?_)
 refine zap rfl (fun hc43=>?_) (fun hc43=>?_)
 ·have hf:=ztO hk hlen hh hc43
  refine zac (zaa (gA ?_))
  refine zag (zae (T':=[(3,_),(5,_),(6,_)]) ⟨rfl,rfl,rfl,trivial⟩ ?_)
  refine zaw (zay (zaC rfl (zau rfl)) ?_)
  rw [hf]
 ·have hf:=zrq hk hlen hh hc43
  have hF:=(zh4 hk hlen hh).1 (zll hc43)
  refine zaq (zac (zaa (gk_y rfl rfl (zab zfe rfl) ?_)))
  refine gQ (zah 3 tf3 rfl rfl rfl) ?_
  refine gQ (zab zhg rfl) ?_
  refine gQ (zah 3 tf3 rfl rfl rfl) ?_
  refine gQ (zaY rfl rfl (by omega) (by omega)) ?_
  refine gQ (zab zep rfl) ?_
  refine gQ (zah 1 tf3 rfl rfl rfl) ?_
  refine gQ (zbL rfl rfl) ?_
  refine gA ?_
  refine zag (zae (T':=[(3,_),(6,_),(7,_)]) ⟨rfl,rfl,rfl,trivial⟩ ?_)
  refine zac (zbb 20 (fun _=>mixed) (by kernel_rfl) ?_)
  refine ph_y (zab zpG rfl) ?_
  refine ph_y (zah 3 tf5 rfl rfl rfl) ?_
  refine ph_y (zcr rfl rfl) ?_
  refine ph_y (zaf rfl) ?_
  refine zaz rfl rfl (fun hgd=>by(try rw [hgd]); exact(zaf rfl)) ?_
  refine ph_y (zaR rfl rfl rfl) ?_
  refine ph_y (zaf rfl) ?_
  refine zaH rfl rfl (fun hgd=>by(try rw [hgd]); exact(zab zpG rfl)) ?_
  refine zaH rfl rfl (fun hgd=>by(try rw [hgd]); exact(zah 3 tf5 rfl rfl rfl)) ?_
  refine zaH rfl rfl (fun hgd=>by(try rw [hgd]); exact(zcr rfl rfl)) ?_
  refine zaH rfl rfl (fun hgd=>by(try rw [hgd]); exact(zaf rfl)) ?_
  refine zc0 rfl rfl (fun hgd=>by(try rw [hgd]); exact(zaf rfl)) ?_
  refine zc0 rfl rfl (fun hgd=>by(try rw [hgd]); exact(zaf rfl)) ?_
  refine zdr rfl rfl (fun hgd=>by(try rw [hgd]); exact(zab zfe rfl)) ?_
  refine zdr rfl rfl (fun hgd=>by(try rw [hgd]); exact(zah 3 tf3 rfl rfl rfl)) ?_
  refine zdr rfl rfl (fun hgd=>by(try rw [hgd]); exact(zbL rfl rfl)) ?_
  refine zc0 rfl rfl (fun hgd=>by(try rw [hgd]); exact(zaX rfl rfl rfl)) ?_
  refine zaH rfl rfl (fun hgd=>by(try rw [hgd]); exact(zaR rfl rfl rfl)) ?_
  refine ph_y (zaX rfl rfl rfl) ?_
  refine ph_y (zad rfl) ?_
  refine zag (zae (T':=[(6,_)]) ⟨rfl,trivial⟩ ?_)
  refine zaw (zay (zaC rfl (zau rfl)) ?_)
  rw [hf]
set_option maxRecDepth 100000 in
set_option maxHeartbeats 1000000 in
theorem zug (o p:Opn) (w:World)  :
  Calls Tryz.prog 79 #[.agg #[.int .u8 o.kind,.int .i64 o.at_,.int .i64 o.width,.int .i64 o.frm,.int .i64 o.high],.agg #[.int .u8 p.kind,.int .i64 p.at_,.int .i64 p.width,.int .i64 p.frm,.int .i64 p.high]] w (Pure (.bool (zhk o p)) w):=by
 refine zan (vs:=[_,_]) Tryz.func79 rfl rfl (Nat.le_of_ble_eq_true rfl) ?_
 refine zac (zaa (zaG rfl rfl (za3 (vs:=[_,_,_,_,_]) rfl rfl) fun b2=>?_))
 refine zaG rfl rfl (za3 (vs:=[_,_,_,_,_]) rfl rfl) fun b3=>?_
 refine gA ?_
 refine zag (zae (T':=[(2,_),(3,_),(4,_)]) ⟨rfl,rfl,rfl,trivial⟩ ?_)
 refine zac (zbb 39 (fun _=>mixed) (by kernel_rfl) ?_)
 refine ph_y (zab zhf rfl) ?_
 refine ph_y (zah 1 tf3 rfl rfl rfl) ?_
 refine ph_y (zab zhf rfl) ?_
 refine ph_y (zah 0 tf3 rfl rfl rfl) ?_
 refine ph_y (zab zji rfl) ?_
 refine ph_y (zah 0 tf3 rfl rfl rfl) ?_
 refine ph_y (zfw rfl rfl) ?_
 refine ph_y (zbw rfl rfl) ?_
 refine ph_y (zaf rfl) ?_
 refine zaH rfl rfl (fun hgd=>by(try rw [hgd]); exact(zab zhf rfl)) ?_
 refine zaH rfl rfl (fun hgd=>by(try rw [hgd]); exact(zah 0 tf3 rfl rfl rfl)) ?_
 refine zaH rfl rfl (fun hgd=>by(try rw [hgd]); exact(zab zhf rfl)) ?_
 refine zaH rfl rfl (fun hgd=>by(try rw [hgd]); exact(zah 1 tf3 rfl rfl rfl)) ?_
 refine zaH rfl rfl (fun hgd=>by(try rw [hgd]); exact(zab zji rfl)) ?_
 refine zaH rfl rfl (fun hgd=>by(try rw [hgd]); exact(zah 1 tf3 rfl rfl rfl)) ?_
 refine zaH rfl rfl (fun hgd=>by(try rw [hgd]); exact(zfw rfl rfl)) ?_
 refine zaH rfl rfl (fun hgd=>by(try rw [hgd]); exact(zbw rfl rfl)) ?_
 refine ph_y (zaX rfl rfl rfl) ?_
 refine ph_y (zaf rfl) ?_
 refine zaH rfl rfl (fun hgd=>by(try rw [hgd]); exact(zab zfe rfl)) ?_
 refine zaH rfl rfl (fun hgd=>by(try rw [hgd]); exact(zah 1 tf3 rfl rfl rfl)) ?_
 refine zaH rfl rfl (fun hgd=>by(try rw [hgd]); exact(zab zfe rfl)) ?_
 refine zaH rfl rfl (fun hgd=>by(try rw [hgd]); exact(zah 0 tf3 rfl rfl rfl)) ?_
 refine zaH rfl rfl (fun hgd=>by(try rw [hgd]); exact(zab zhg rfl)) ?_
 refine zaH rfl rfl (fun hgd=>by(try rw [hgd]); exact(zah 0 tf3 rfl rfl rfl)) ?_
 refine zaH rfl rfl (fun hgd=>by(try rw [hgd]); exact(zfw rfl rfl)) ?_
 refine zaH rfl rfl (fun hgd=>by(try rw [hgd]); exact(zbw rfl rfl)) ?_
 refine ph_y (zaX rfl rfl rfl) ?_
 refine ph_y (zaf rfl) ?_
 refine zaH rfl rfl (fun hgd=>by(try rw [hgd]); exact(zab zfe rfl)) ?_
 refine zaH rfl rfl (fun hgd=>by(try rw [hgd]); exact(zah 0 tf3 rfl rfl rfl)) ?_
 refine zaH rfl rfl (fun hgd=>by(try rw [hgd]); exact(zab zfe rfl)) ?_
 refine zaH rfl rfl (fun hgd=>by(try rw [hgd]); exact(zah 1 tf3 rfl rfl rfl)) ?_
 refine zaH rfl rfl (fun hgd=>by(try rw [hgd]); exact(zab zhg rfl)) ?_
 refine zaH rfl rfl (fun hgd=>by(try rw [hgd]); exact(zah 1 tf3 rfl rfl rfl)) ?_
 refine zaH rfl rfl (fun hgd=>by(try rw [hgd]); exact(zfw rfl rfl)) ?_
 refine zaH rfl rfl (fun hgd=>by(try rw [hgd]); exact(zbw rfl rfl)) ?_
 refine ph_y (zaX rfl rfl rfl) ?_
 refine ph_y (zad rfl) ?_
 refine zag (zae (T':=[(4,_)]) ⟨rfl,trivial⟩ ?_)
 refine zaw (zay (zaC rfl (zau rfl)) ?_)
 rfl
set_option maxRecDepth 100000 in
set_option maxHeartbeats 4000000 in
theorem zmI (b:Option Addr) (bcap:Nat) (v:Wll) (a:Option Addr) (cap:Nat) (s:Sht) (w:World) (hv:Has w (zaW b 5 zba v.opens)) (hcap:v.opens.length≤bcap) (hsv:Small v.opens.length) (hkn:∀ o∈v.opens,Knd o) (hh:0≤s.height∧s.height≤3000) :
  Calls Tryz.prog 48 #[.agg #[.string v.name,.string v.sheet,.int .i64 v.length,.slice b v.opens.length bcap],.agg #[.string s.name,.int .i64 s.base,.int .i64 s.batter,.int .i64 s.height,.int .i64 s.skin,.slice a s.heights.length cap,.int .i64 s.least,.int .i64 s.lap,.int .i64 s.run,.int .i64 s.every,.int .i64 s.at_,.int .i64 s.footing,.int .i64 s.spread,.int .u8 s.cope,.int .i64 s.tall,.int .i64 s.short,.int .i64 s.thick,.int .i64 s.low,.int .i64 s.high,.int .i64 s.rood]] w (Pure (.bool (zd1 s.height v)) w):=by
 refine zan (vs:=[_,_]) Tryz.func48 rfl rfl (Nat.le_of_ble_eq_true rfl) ?_
 refine zac (zaa (zaG rfl rfl (za3 (vs:=[_,_,_,_]) rfl rfl) fun b2=>?_))
 refine zaG rfl rfl (za3 (vs:=[_,_,_,_,_,_,_,_,_,_,_,_,_,_,_,_,_,_,_,_]) rfl rfl) fun b3=>?_
 refine gA ?_
 refine zag (zae (T':=[(2,_),(3,_),(4,_)]) ⟨rfl,rfl,rfl,trivial⟩ ?_)
 refine zih (X:=Unit) (fun _=>[(2,.pointer (some ⟨b2,0,none⟩)),(3,.pointer (some ⟨b3,0,none⟩))]) (fun _=>[Box b3 [.string s.name,.int .i64 s.base,.int .i64 s.batter,.int .i64 s.height,.int .i64 s.skin,.slice a s.heights.length cap,.int .i64 s.least,.int .i64 s.lap,.int .i64 s.run,.int .i64 s.every,.int .i64 s.at_,.int .i64 s.footing,.int .i64 s.spread,.int .u8 s.cope,.int .i64 s.tall,.int .i64 s.short,.int .i64 s.thick,.int .i64 s.low,.int .i64 s.high,.int .i64 s.rood] 41,Box b2 [.string v.name,.string v.sheet,.int .i64 v.length,.slice b v.opens.length bcap] 94]) (fun _=>zfP v=true) ?_ ?_
 ·
  refine zac (zaa (gk_y rfl rfl (zab znh rfl) ?_))
  refine gQ (zah 1 tf9 rfl rfl rfl) ?_
  refine gQ (zaJ en55 rfl (fun w hw=>zmo _ w)) ?_
  refine gQ (zbR rfl) ?_
  refine gM ?_
  refine zai rfl rfl rfl rfl (fun hg11=>?_) (fun hg11=>?_)
  ·replace hg11:_=false:=hg11
   try rw [hg11]
   refine gQ (zab zgo rfl) ?_
   refine gT (gk_y rfl rfl (zah 1 tf3 rfl rfl rfl) ?_)
   refine gT (gk_y rfl rfl (zaI rfl (zaF _ _ _)) ?_)
   refine gT (gk_y rfl rfl (zab zhe rfl) ?_)
   refine gT (gk_y rfl rfl (zah 1 tf92 rfl rfl rfl) ?_)
   refine gT (gk_y rfl rfl (zaV (Tryz.underlying92) rfl) ?_)
   refine gT (gk_y rfl rfl (zaI rfl (zaF _ _ _)) ?_)
   refine gT (zaG rfl rfl (zaD rfl (zlS _ _ _ _ _ _) zbM rfl) fun b19=>?_)
   refine gT (gk_y rfl rfl (zaJ en53 rfl (fun w hw=>zfT _ _ ([(⟨v.length,1,100000⟩:Lim),(⟨(v.opens.length:Int),0,20⟩:Lim)]) w (zam zbM (hw.has (p:=0) rfl)) (by simp [Small]))) ?_)
   refine gT (gk_y rfl rfl (zbR rfl) ?_)
   refine gQ (za5 rfl rfl rfl) ?_
   refine zag (zae (T':=[(2,_),(3,_),(4,_),(22,_)]) ⟨rfl,rfl,rfl,rfl,trivial⟩ ?_)
   refine zap rfl (fun hc22=>?_) (fun hc22=>?_)
   ·have hw0:zfP v=false:=by rw [zmJ]; rw [show(!zhr _)=true from hc22]; simp
    refine zac (zaa (gA ?_))
    refine zag (zae (T':=[(2,_),(3,_),(4,_)]) ⟨rfl,rfl,rfl,trivial⟩ ?_)
    refine zaw (zay (zaC rfl (zau rfl)) ?_)
    rw [zkz hw0]
   ·have hw0:zfP v=true:=by rw [zmJ]; rw [show(!zgx _)=false from hg11,show(!zhr _)=false from hc22]; rfl
    refine zaq (zaK 0 rfl ?_)
    exact zb9 () ⟨rfl,rfl,trivial⟩ rfl hw0
  ·replace hg11:_=true:=hg11
   try rw [hg11]
   refine gF (gF (gF (gF (gF (gF (gF (gF (gF (gk_y rfl rfl (za5 rfl rfl rfl) ?_)))))))))
   refine zag (zae (T':=[(2,_),(3,_),(4,_),(22,_)]) ⟨rfl,rfl,rfl,rfl,trivial⟩ ?_)
   refine zdg rfl ?_
   refine zac (zaa (gA ?_))
   refine zag (zae (T':=[(2,_),(3,_),(4,_)]) ⟨rfl,rfl,rfl,trivial⟩ ?_)
   refine zaw (zay (zaC rfl (zau rfl)) ?_)
   rw [zkz (by rw [zmJ,show(!zgx _)=true from hg11]; rfl)]
 ·rintro _ hJ
  have hlen:=(zgM hJ).1
  refine zac (zac (zaa (gk_y rfl rfl (zab zhe rfl) ?_)))
  refine gQ (zah 1 tf92 rfl rfl rfl) ?_
  refine gQ (zaV (Tryz.underlying92) rfl) ?_
  refine gM ?_
  refine zag (zae (T':=[(2,_),(3,_),(24,_),(25,_),(26,_)]) ⟨rfl,rfl,rfl,rfl,rfl,trivial⟩ ?_)
  refine zas ?_
  refine zbf (X:=Int) (fun(i:Int)=>[(2,.pointer (some ⟨b2,0,none⟩)),(3,.pointer (some ⟨b3,0,none⟩)),(24,.slice b v.opens.length bcap),(25,.int .i64 (v.opens.length:Int)),(26,.int .i64 i)]) (fun(i:Int)=>[Box b3 [.string s.name,.int .i64 s.base,.int .i64 s.batter,.int .i64 s.height,.int .i64 s.skin,.slice a s.heights.length cap,.int .i64 s.least,.int .i64 s.lap,.int .i64 s.run,.int .i64 s.every,.int .i64 s.at_,.int .i64 s.footing,.int .i64 s.spread,.int .u8 s.cope,.int .i64 s.tall,.int .i64 s.short,.int .i64 s.thick,.int .i64 s.low,.int .i64 s.high,.int .i64 s.rood] 41,Box b2 [.string v.name,.string v.sheet,.int .i64 v.length,.slice b v.opens.length bcap] 94]) (fun(i:Int)=>(0≤i∧i≤v.opens.length∧∀ j:Nat,(j:Int) < i→zcI s.height v j=true)) (fun(i:Int)=>(v.opens.length - i).toNat) 0 ⟨rfl,rfl,rfl,rfl,rfl,trivial⟩ rfl ?_ ?_
  ·exact⟨by omega,by omega,fun j hj=>by omega⟩
  ·rintro i hI
   obtain⟨g0,g1,g2⟩:=hI
   refine zac (zaa (gk_y rfl rfl (zbw rfl rfl) ?_))
   refine zag (zae (T':=[(2,_),(3,_),(24,_),(25,_),(26,_),(27,_)]) ⟨rfl,rfl,rfl,rfl,rfl,rfl,trivial⟩ ?_)
   refine zac (zap rfl (fun hc27=>?_) (fun hc27=>?_))
   ·simp only [decide_eq_true_eq] at hc27
    refine zaq (zac (zas ?_))
    refine zac (zaa (gM ?_))
    refine gQ (zaE se92 rfl rfl (fun _ hw=>(Rd.has (Has.rd hv) hw)) (by omega) (by omega)) ?_
    refine gQ (zbv (vs:=[_,_,_,_,_]) tf98 rfl (fun _ hw=>(Rd.has (Has.rd hv) hw)) (by omega) (by omega) rfl) ?_
    refine zaG rfl rfl (zaL tf98 (zs:=[_,_,_,_,_]) rfl) fun b6=>?_
    refine gA ?_
    refine zaA 0 tf98 rfl rfl (vs:=[_,_,_,_,_]) rfl rfl rfl rfl rfl ?_
    refine zag (zae (T':=[(2,_),(3,_),(5,_),(6,_),(24,_),(25,_),(26,_)]) ⟨rfl,rfl,rfl,rfl,rfl,rfl,rfl,trivial⟩ ?_)
    refine zac (zbb 14 (fun _=>mixed) (by kernel_rfl) ?_)
    refine ph_y (zat 0 tf98 rfl rfl (vs:=[_,_,_,_,_]) rfl rfl) ?_
    refine ph_y (zat 2 tf94 rfl rfl (vs:=[_,_,_,_]) rfl rfl) ?_
    refine ph_y (zat 1 tf41 rfl rfl (vs:=[_,_,_,_,_,_,_,_,_,_,_,_,_,_,_,_,_,_,_,_]) rfl rfl) ?_
    refine ph_y (zaJ en77 rfl (fun w hw=>zvW (v.opens.getD (i).toNat default) b bcap v a cap s w (hkn _ (za0 (by omega))) hlen hh)) ?_
    refine ph_y (zbR rfl) ?_
    refine ph_y (zaf rfl) ?_
    refine zaz rfl rfl (fun hgd=>by(try rw [hgd]); exact(zab zhe rfl)) ?_
    refine zaz rfl rfl (fun hgd=>by(try rw [hgd]); exact(zah 2 tf92 rfl rfl rfl)) ?_
    refine zaz rfl rfl (fun hgd=>by(try rw [hgd]); exact(zaf rfl)) ?_
    refine zaz rfl rfl (fun hgd=>by(try rw [hgd]); exact(zg8 se92 rfl rfl (by omega) (by omega) hcap)) ?_
    refine zaz rfl rfl (fun hgd=>by(try rw [hgd]); exact(zat 0 tf98 rfl rfl (vs:=[_,_,_,_,_]) rfl rfl)) ?_
    refine zaz rfl rfl (fun hgd=>by(try rw [hgd]); exact(zbO («as»:=[_]) (bs:=[]) rfl rfl)) ?_
    refine zaz rfl rfl (fun hgd=>by(try rw [hgd]); exact(zaJ (v:=.bool ((v.opens.take i.toNat).any (zhk (v.opens.getD (i).toNat default)))) en78 rfl (fun w hw=>zhR _ _ (v.opens.take i.toNat) (zhk (v.opens.getD (i).toNat default)) 79 [.agg (zba (v.opens.getD (i).toNat default)).toArray] [] w (zje (Rd.has (Has.rd hv) hw) (by omega) (by omega)) (by rw [List.length_take]; have:=hsv; unfold Small at *; omega) (fun _=>True) (fun _ _=>trivial) en79 (fun z w _=>zug _ z w)))) ?_
    refine ph_y (zaR rfl rfl rfl) ?_
    refine zag (zae (T':=[(2,_),(3,_),(24,_),(25,_),(26,_),(44,_)]) ⟨rfl,rfl,rfl,rfl,rfl,rfl,trivial⟩ ?_)
    refine zap rfl (fun hc44=>?_) (fun hc44=>?_)
    ·have hno:zcI s.height v i.toNat=false:=zqg ((zln (by omega) g0 hc27 g2).symm.trans hc44)
     refine zac (zaa (gA ?_))
     refine zag (zae (T':=[(2,_),(3,_),(4,_),(24,_),(25,_),(26,_)]) ⟨rfl,rfl,rfl,rfl,rfl,rfl,trivial⟩ ?_)
     refine zaw (zay (zaC rfl (zau rfl)) ?_)
     rw [zhH g0 hc27 hno]
    ·have hyes:zcI s.height v i.toNat=true:=zll ((zln (by omega) g0 hc27 g2).symm.trans hc44)
     refine zaq (zaa (gk_y rfl rfl (zaY rfl rfl (by omega) (by omega)) ?_))
     refine gM ?_
     refine zag (zae (T':=[(2,_),(3,_),(24,_),(25,_),(26,_)]) ⟨rfl,rfl,rfl,rfl,rfl,trivial⟩ ?_)
     refine zaK 0 rfl ?_
     exact za1 (i+1) ⟨rfl,rfl,rfl,rfl,rfl,trivial⟩ rfl ⟨by omega,by omega,zdu g0 g2 hyes⟩ (by omega)
   ·simp only [decide_eq_false_iff_not] at hc27
    refine za8 rfl ?_
    refine zac (zaa (gA ?_))
    refine zag (zae (T':=[(4,_)]) ⟨rfl,trivial⟩ ?_)
    refine zaw (zay (zaC rfl (zau rfl)) ?_)
    rw [zn0 hJ hc27 g2]
end Go.Proofs.YtdcfcfhmkfkgmaaGreatDoor
namespace Go.Proofs.YtdcfcfhmkfkgmaaGreatDoor
open Go.K Go.Stn Go.Pln Go.RowKit
theorem zmF:TF Tryz.prog 124 false 1 (.slice none 0 0):=⟨by kernel_rfl,by kernel_rfl⟩
theorem zf0:FO Tryz.prog 161 0 0:=⟨by kernel_rfl⟩
theorem zqJ:SE Tryz.prog 124 9 1:=⟨Tryz.underlying124,by kernel_rfl⟩
theorem if33:IF Tryz.prog 33:=⟨_,Tryz.underlying33,fun _ h=>by cases h⟩
theorem en90:En Tryz.prog 90:=za7 Tryz.func90 (by kernel_rfl) (by kernel_rfl)
theorem en91:En Tryz.prog 91:=za7 Tryz.func91 (by kernel_rfl) (by kernel_rfl)
set_option maxRecDepth 100000 in
set_option maxHeartbeats 1000000 in
theorem zdk (k:Int) (w:World)  :
  Calls Tryz.prog 91 #[.int .i64 k] w ((fun e w'=>e=.panicked (thrC (errT 33 k))∧Ext w w')):=by
 refine zan (vs:=[_]) Tryz.func91 rfl rfl (Nat.le_of_ble_eq_true rfl) ?_
 refine zaa (gM ?_)
 refine gQ (zuZ if33 rfl) ?_
 refine zpQ rfl ?_
 exact zij fun w hw=>⟨rfl,hw.base.ext0⟩
set_option maxRecDepth 100000 in
set_option maxHeartbeats 1000000 in
theorem zli (r:Nat) (ws:List ByteArray) (w:World) (B:Nat→Prop) (hB:∀ k,B k→k < w.heap.size) (hA:(Rdr 161 r ws).A B w)  :
  Calls Tryz.prog 90 #[.pointer (some ⟨r,0,none⟩)] w (zej 33 (zdp ws) (fun x (_:Unit)=>.string x.1) (fun x _=>Rdr 161 r x.2) B w):=by
 refine zby hB hA (vs:=[_]) Tryz.func90 rfl rfl (Nat.le_of_ble_eq_true rfl) ?_
 refine zgV fun a1 c1 hc1=>?_
 refine zac (zaa (gA ?_))
 refine zag (zae (T':=[(0,_),(2,_)]) ⟨rfl,rfl,trivial⟩ ?_)
 refine zac (zac (zaa (gM ?_)))
 refine gQ (zbx rfl) ?_
 refine gQ (zab zf0 rfl) ?_
 refine gQ (zah 0 zmF rfl rfl rfl) ?_
 refine gQ (zaV (Tryz.underlying124) rfl) ?_
 refine gQ (zbL rfl rfl) ?_
 refine zag (zae (T':=[(0,_),(2,_),(9,_)]) ⟨rfl,rfl,rfl,trivial⟩ ?_)
 refine zap rfl (fun hc9=>?_) (fun hc9=>?_)
 ·have h0:ws.length=0:=by have:=of_decide_eq_true hc9; omega
  refine zaa (zcg en91 rfl (fun w hw=>zdk _ w) ?_)
  exact za6 (zrL h0)
 ·have h0:¬ ws.length=0:=by have:=of_decide_eq_false hc9; omega
  refine zaq (zac (zaa (gM ?_)))
  refine gQ (zbx rfl) ?_
  refine gQ (zab zf0 rfl) ?_
  refine gQ (zah 0 zmF rfl rfl rfl) ?_
  refine gQ (zaE zqJ rfl rfl (fun _ hw=>(hw.has (p:=1) rfl)) (by omega) (by omega)) ?_
  refine gQ (zcE tf9 rfl (fun _ hw=>(hw.has (p:=1) rfl)) (by omega) (by omega) rfl) ?_
  refine gA ?_
  refine zag (zae (T':=[(0,_),(2,_),(3,_)]) ⟨rfl,rfl,rfl,trivial⟩ ?_)
  refine zac (zaa (gM ?_))
  refine gM ?_
  refine gQ (zbx rfl) ?_
  refine gQ (zab zf0 rfl) ?_
  refine gQ (zah 0 zmF rfl rfl rfl) ?_
  refine gQ (zg9 zqJ rfl rfl (by omega) (by omega)) ?_
  refine gQ (zbx rfl) ?_
  refine gQ (zab zf0 rfl) ?_
  refine zaA 0 zmF rfl rfl (vs:=[_]) rfl rfl rfl rfl rfl ?_
  refine zag (zae (T':=[(2,_),(3,_)]) ⟨rfl,rfl,trivial⟩ ?_)
  refine zac (zaa (gM ?_))
  refine gA ?_
  refine zag (zae (T':=[(2,_)]) ⟨rfl,trivial⟩ ?_)
  refine zaw (zoh hc1 (by omega) ?_)
  exact zdm (ws.getD 0 default,ws.drop 1) () 0 (zaC rfl (zau rfl)) rfl rfl (zuj h0)
set_option maxRecDepth 100000 in
set_option maxHeartbeats 1000000 in
theorem zuG (r:Nat) (ws:List ByteArray) (u:ByteArray) (w:World) (B:Nat→Prop) (hB:∀ k,B k→k < w.heap.size) (hA:(Rdr 161 r ws).A B w)  :
  Calls Tryz.prog 132 #[.pointer (some ⟨r,0,none⟩),.string u] w (zej 33 (sayE u ws) (fun _x (_:Unit)=>.tuple #[]) (fun x _=>Rdr 161 r x.2) B w):=by
 refine zby hB hA (vs:=[_,_]) Tryz.func132 rfl rfl (Nat.le_of_ble_eq_true rfl) ?_
 refine zac (zaa (gM ?_))
 refine zbZ (res:=zdp ws) 0 en90 rfl rfl rfl (fun w B hF=>zli r ws w B (fun k hk=>(hF.own k hk).2) hF.A) (fun k hk5=>?_) (fun x5 m5 hx5=>?_)
 ·
  exact za6 (by rw [sayE,hk5]; rfl)
 refine gM ?_
 refine gQ (ziV rfl rfl) ?_
 refine zag (zae (T':=[(7,_)]) ⟨rfl,trivial⟩ ?_)
 refine zap rfl (fun hc7=>?_) (fun hc7=>?_)
 ·have h7:¬ (x5.1.toList == u.toList)=true:=by simpa using hc7
  refine zaa (zcg en91 rfl (fun w hw=>zdk _ w) ?_)
  exact za6 (by rw [sayE,hx5,zak,if_neg h7])
 ·have h7:(x5.1.toList == u.toList)=true:=by simpa using hc7
  refine zaq ?_
  exact zdm ((),x5.2) () 0 (zcN rfl) rfl rfl (by rw [sayE,hx5,zak,if_pos h7])
set_option maxRecDepth 100000 in
set_option maxHeartbeats 1000000 in
theorem zqa (r:Nat) (ws:List ByteArray) (w:World) (B:Nat→Prop) (hB:∀ k,B k→k < w.heap.size) (hA:(Rdr 161 r ws).A B w)  :
  Calls Tryz.prog 113 #[.pointer (some ⟨r,0,none⟩)] w (zej 33 (zes ws) (fun x (_:Unit)=>.string x.1) (fun x _=>Rdr 161 r x.2) B w):=by
 refine zby hB hA (vs:=[_]) Tryz.func113 rfl rfl (Nat.le_of_ble_eq_true rfl) ?_
 refine zac (zaa (gA ?_))
 refine zag (zae (T':=[(0,_),(2,_)]) ⟨rfl,rfl,trivial⟩ ?_)
 refine zac (zaa (gM ?_))
 refine zbZ (res:=zdp ws) 0 en90 rfl rfl rfl (fun w B hF=>zli r ws w B (fun k hk=>(hF.own k hk).2) hF.A) (fun k hk5=>?_) (fun x5 m5 hx5=>?_)
 ·
  exact za6 (by rw [zes,hk5]; rfl)
 refine gA ?_
 refine zag (zae (T':=[(2,_),(3,_)]) ⟨rfl,rfl,trivial⟩ ?_)
 refine zac (zac (zaa (gM ?_)))
 refine gQ (zaJ en55 rfl (fun w hw=>zmo _ w)) ?_
 refine gQ (zbR rfl) ?_
 refine zag (zae (T':=[(2,_),(3,_),(8,_)]) ⟨rfl,rfl,rfl,trivial⟩ ?_)
 refine zap rfl (fun hc8=>?_) (fun hc8=>?_)
 ·have h8:¬ zgx x5.1=true:=by simpa using hc8
  refine zaa (zcg en91 rfl (fun w hw=>zdk _ w) ?_)
  exact za6 (by rw [zes,hx5,zak,if_neg h8])
 ·have h8:zgx x5.1=true:=by simpa using hc8
  refine zaq (zac (zaa (gM ?_)))
  refine gA ?_
  refine zag (zae (T':=[(2,_)]) ⟨rfl,trivial⟩ ?_)
  refine zaw ?_
  exact zdm (x5.1,x5.2) () 0 (zaC rfl (zau rfl)) rfl rfl (by rw [zes,hx5,zak,if_pos h8])
set_option maxRecDepth 100000 in
set_option maxHeartbeats 1000000 in
theorem ztK (r:Nat) (ws:List ByteArray) (w:World) (B:Nat→Prop) (hB:∀ k,B k→k < w.heap.size) (hA:(Rdr 161 r ws).A B w)  :
  Calls Tryz.prog 111 #[.pointer (some ⟨r,0,none⟩)] w (zej 33 (endE ws) (fun _x (_:Unit)=>.tuple #[]) (fun x _=>Rdr 161 r x.2) B w):=by
 refine zby hB hA (vs:=[_]) Tryz.func111 rfl rfl (Nat.le_of_ble_eq_true rfl) ?_
 refine zgV fun a1 c1 hc1=>?_
 refine zac (zaa (gM ?_))
 refine gQ (zbx rfl) ?_
 refine gQ (zab zf0 rfl) ?_
 refine gQ (zah 0 zmF rfl rfl rfl) ?_
 refine gQ (zaV (Tryz.underlying124) rfl) ?_
 refine gQ (zc6 rfl rfl) ?_
 refine zag (zae (T':=[(7,_)]) ⟨rfl,trivial⟩ ?_)
 refine zap rfl (fun hc7=>?_) (fun hc7=>?_)
 ·have h7:¬ ws.length=0:=by have:=of_decide_eq_true hc7; omega
  refine zaa (zcg en91 rfl (fun w hw=>zdk _ w) ?_)
  exact za6 (if_neg h7)
 ·have h7:ws.length=0:=by have:=of_decide_eq_false hc7; omega
  refine zaq (zeH hc1 ?_)
  exact zdm ((),ws) () 0 (zcN rfl) rfl rfl (if_pos h7)
end Go.Proofs.YtdcfcfhmkfkgmaaGreatDoor
namespace Go.Proofs.YtdcfcfhmkfkgmaaGreatDoor
open Go.K Go.Stn Go.Pln Go.RowKit
theorem zxd:En Tryz.prog 135:=za7 Tryz.func135 (by kernel_rfl) (by kernel_rfl)
theorem zxi:En Tryz.prog 151:=za7 Tryz.func151 (by kernel_rfl) (by kernel_rfl)
theorem zww (s sep:ByteArray) (w:World) (hs:s.size < 4294967281) (hm:Has w (IntV 2)):Calls Tryz.prog 86 #[.string s,.string sep] w (Pure (cutV s sep) w):=zrk Tryz.lays145 s sep w hs hm
theorem zuJ (s:ByteArray) (c:UInt8) (w:World) (hs:s.size < 4294967281) (hm:Has w (IntV 2)):Calls Tryz.prog 88 #[.string s,.string ⟨#[c]⟩] w (zcU (fun b:Nat=>.slice (some ⟨b,0,none⟩) (zcn s c).length (zcn s c).length) (fun b=>Row (some ⟨b,0,none⟩) 1 (zcn s c).length 9 encS (zcn s c)) w):=zmD Tryz.lays146 (by kernel_rfl) s c w hs hm
theorem zu3 (s:ByteArray) (w:World) (h:numW s=true):Calls Tryz.prog 134 #[.string s] w (Pure (.tuple #[.int .i64 (zdO s),.nilIface]) w):=by
 have hs:=zrP h
 refine(Go.Proofs.Any.strconv_Atoi_ok Tryz.laysC172 s (by omega) (zdO s) (zoV h).1 w).mono ?_
 rintro e w' ⟨rfl,hw⟩
 refine⟨rfl,?_⟩
 rcases hw with rfl | ⟨t,rfl⟩
 ·exact Ext.rfl
 ·exact ziY _ _ _
set_option maxRecDepth 100000 in
set_option maxHeartbeats 1000000 in
theorem zoj (s:ByteArray) (w:World)  :
  Calls Tryz.prog 133 #[.string s] w (Pure (.bool (numW s)) w):=by
 refine zan (vs:=[_]) Tryz.func133 rfl rfl (Nat.le_of_ble_eq_true rfl) ?_
 refine zac (zaa (gA ?_))
 refine zag (zae (T':=[(0,_),(2,_)]) ⟨rfl,rfl,trivial⟩ ?_)
 refine zac (zaa (gA ?_))
 refine zag (zae (T':=[(0,_),(2,_),(3,_)]) ⟨rfl,rfl,rfl,trivial⟩ ?_)
 refine zac (zbb 23 (fun _=>mixed) (by kernel_rfl) ?_)
 refine ph_y (zaf rfl) ?_
 refine ph_y (ziV rfl rfl) ?_
 refine ph_y (zaf rfl) ?_
 refine zaH rfl rfl (fun hgd=>by(try rw [hgd]); (try have hgd2:=zcZ hgd); exact(zaf rfl)) ?_
 refine zaH rfl rfl (fun hgd=>by(try rw [hgd]); (try have hgd2:=zcZ hgd); exact(zeO (Tryz.underlying9) rfl)) ?_
 refine zaH rfl rfl (fun hgd=>by(try rw [hgd]); (try have hgd2:=zcZ hgd); exact(zeT rfl rfl)) ?_
 refine ph_y (zaX rfl rfl rfl) ?_
 refine ph_y (zaf rfl) ?_
 refine zaH rfl rfl (fun hgd=>by(try rw [hgd]); (try have hgd2:=zcZ hgd); exact(zaf rfl)) ?_
 refine zaH rfl rfl (fun hgd=>by(try rw [hgd]); (try have hgd2:=zcZ hgd); exact(zaf rfl)) ?_
 refine zaH rfl rfl (fun hgd=>by(try rw [hgd]); (try have hgd2:=zcZ hgd); exact(zaJ (v:=.bool (decide (0≤zcj oddN s 0))) en83 rfl (fun w hw=>ziD s oddN _ [] w (fun _=>True) (fun _ _=>trivial) zxi (fun r w _=>zmg r w)))) ?_
 refine zaH rfl rfl (fun hgd=>by(try rw [hgd]); (try have hgd2:=zcZ hgd); exact(zbR rfl)) ?_
 refine ph_y (zaX rfl rfl rfl) ?_
 refine ph_y (zaf rfl) ?_
 refine zaH rfl rfl (fun hgd=>by(try rw [hgd]); (try have hgd2:=zcZ hgd); exact(zaf rfl)) ?_
 refine zaH rfl rfl (fun hgd=>by(try rw [hgd]); (try have hgd2:=zcZ hgd); exact(zdM (Tryz.underlying9) rfl rfl (by omega) (by omega))) ?_
 refine zaH rfl rfl (fun hgd=>by(try rw [hgd]); (try have hgd2:=zcZ hgd); exact(zcr rfl rfl)) ?_
 refine zaH rfl rfl (fun hgd=>by(try rw [hgd]); (try have hgd2:=zcZ hgd); exact(zaf rfl)) ?_
 refine zc0 rfl rfl (fun hgd=>by(try rw [hgd]); (try have hgd2:=zcZ hgd); exact(zaf rfl)) ?_
 refine zc0 rfl rfl (fun hgd=>by(try rw [hgd]); (try have hgd2:=zcZ hgd); exact(zge rfl rfl)) ?_
 refine zaH rfl rfl (fun hgd=>by(try rw [hgd]); (try have hgd2:=zcZ hgd); exact(zaR rfl rfl rfl)) ?_
 refine ph_y (zaX rfl rfl rfl) ?_
 refine ph_y (zad rfl) ?_
 refine zag (zae (T':=[(2,_)]) ⟨rfl,trivial⟩ ?_)
 refine zaw (zay (zaC rfl (zau rfl)) ?_)
 rfl
set_option maxRecDepth 100000 in
set_option maxHeartbeats 1000000 in
theorem zt5 (a:Option Addr) (cap:Nat) (l:List ByteArray) (v:ByteArray) (w:World) (hl:Has w (zaW a 1 encS l)) (hs:Small l.length) :
  Calls Tryz.prog 135 #[.slice a l.length cap,.string v] w (Pure (.int .i64 (zbJ (fun y=>v.toList == y.toList) l)) w):=by
 refine zan (vs:=[_,_]) Tryz.func135 rfl rfl (Nat.le_of_ble_eq_true rfl) ?_
 refine zac (zaa (gA ?_))
 refine zag (zae (T':=[(0,_),(1,_),(4,_)]) ⟨rfl,rfl,rfl,trivial⟩ ?_)
 refine zac (zac (zaa (gM ?_)))
 refine gQ (zaV (Tryz.underlying124) rfl) ?_
 refine gM ?_
 refine zag (zae (T':=[(0,_),(1,_),(4,_),(7,_),(8,_)]) ⟨rfl,rfl,rfl,rfl,rfl,trivial⟩ ?_)
 refine zas ?_
 refine zbf (X:=Int) (fun(i:Int)=>[(0,.slice a l.length cap),(1,.string v),(4,.int .i64 0),(7,.int .i64 (l.length:Int)),(8,.int .i64 i)]) (fun(i:Int)=>[]) (fun(i:Int)=>(0≤i∧i≤l.length∧∀ j:Nat,(j:Int) < i→(v.toList == (l.getD j default).toList)=false)) (fun(i:Int)=>(l.length - i).toNat) 0 ⟨rfl,rfl,rfl,rfl,rfl,trivial⟩ rfl ?_ ?_
 ·exact⟨by omega,by omega,fun j hj=>by omega⟩
 ·rintro i hI
  obtain⟨g0,g1,g2⟩:=hI
  refine zac (zaa (gk_y rfl rfl (zbw rfl rfl) ?_))
  refine zag (zae (T':=[(0,_),(1,_),(4,_),(7,_),(8,_),(9,_)]) ⟨rfl,rfl,rfl,rfl,rfl,rfl,trivial⟩ ?_)
  refine zac (zap rfl (fun hc9=>?_) (fun hc9=>?_))
  ·simp only [decide_eq_true_eq] at hc9
   refine zaq (zac (zas ?_))
   refine zac (zaa (gM ?_))
   refine gA ?_
   refine zag (zae (T':=[(0,_),(1,_),(4,_),(5,_),(7,_),(8,_)]) ⟨rfl,rfl,rfl,rfl,rfl,rfl,trivial⟩ ?_)
   refine zac (zaa (gM ?_))
   refine gM ?_
   refine gM ?_
   refine gQ (zaE zqJ rfl rfl (fun _ hw=>(Rd.has (Has.rd hl) hw)) (by omega) (by omega)) ?_
   refine gQ (zcE tf9 rfl (fun _ hw=>(Rd.has (Has.rd hl) hw)) (by omega) (by omega) rfl) ?_
   refine gQ (zge rfl rfl) ?_
   refine zag (zae (T':=[(0,_),(1,_),(4,_),(5,_),(7,_),(8,_),(16,_)]) ⟨rfl,rfl,rfl,rfl,rfl,rfl,rfl,trivial⟩ ?_)
   refine zap rfl (fun hc16=>?_) (fun hc16=>?_)
   ·
    refine zac (zaa (gM ?_))
    refine gA ?_
    refine zag (zae (T':=[(0,_),(1,_),(4,_),(7,_),(8,_)]) ⟨rfl,rfl,rfl,rfl,rfl,trivial⟩ ?_)
    refine zaw (zay (zaC rfl (zau rfl)) ?_)
    exact congrArg (fun x=>Value.int .i64 x) (zcs (p:=fun y:ByteArray=>v.toList == y.toList) g0 (by omega) g2 hc16).symm
   ·
    refine zaq (zaa (gk_y rfl rfl (zaY rfl rfl (by omega) (by omega)) ?_))
    refine gM ?_
    refine zag (zae (T':=[(0,_),(1,_),(4,_),(7,_),(8,_)]) ⟨rfl,rfl,rfl,rfl,rfl,trivial⟩ ?_)
    exact za1 _ ⟨rfl,rfl,rfl,rfl,rfl,trivial⟩ rfl ⟨by omega,by omega,fun j hj=>if h:(j:Int) < i then g2 j h else(by rw [show j=i.toNat from by omega]; exact hc16)⟩ (by omega)
  ·simp only [decide_eq_false_iff_not] at hc9
   refine za8 rfl ?_
   refine zac (zaa (gA ?_))
   refine zag (zae (T':=[(4,_)]) ⟨rfl,trivial⟩ ?_)
   refine zaw (zay (zaC rfl (zau rfl)) ?_)
   exact congrArg (fun x=>Value.int .i64 x) (zck (p:=fun y:ByteArray=>v.toList == y.toList) (fun j hj=>g2 j (by omega))).symm
set_option maxRecDepth 100000 in
set_option maxHeartbeats 1000000 in
theorem zsX (r:Nat) (ws:List ByteArray) (a:Option Addr) (cap:Nat) (l:List ByteArray) (f:Nat) (w:World) (B:Nat→Prop) (hB:∀ k,B k→k < w.heap.size) (hA:(Rdr 161 r ws).A B w) (hl:Rd (fun k=>k < w.heap.size∧¬ B k) w (zaW a 1 encS l)) (hs:l.length≤200) (hcap:l.length≤cap) (hf:f≤l.length) :
  Calls Tryz.prog 116 #[.pointer (some ⟨r,0,none⟩),.slice a l.length cap,.int .i64 (f:Int)] w (zej 33 (zfk l f ws) (fun x (_:Unit)=>.int .u8 x.1) (fun x _=>Rdr 161 r x.2) B w):=by
 refine zby hB hA (vs:=[_,_,_]) Tryz.func116 rfl rfl (Nat.le_of_ble_eq_true rfl) ?_
 refine zac (zaa (gA ?_))
 refine zag (zae (T':=[(0,_),(1,_),(2,_),(6,_)]) ⟨rfl,rfl,rfl,rfl,trivial⟩ ?_)
 refine zac (zjX (Z:={ z:(ByteArray×List ByteArray)×Unit // zdp ws=.ok z.1 }) (V:=fun z=>.string z.1.1.1) (R':=fun z=>Rdr 161 r z.1.1.2) (Bad:=fun ch=>∃ k,zdp ws=.error k∧ch=thrC (errT 33 k)) 4 [0,1,2] 0 12 (fun _=>mixed) rfl rfl (by kernel_rfl) rfl ?_ rfl ?_)
 ·rintro _ ⟨k,hk12,rfl⟩
  exact za6 (by rw [zfk,hk12]; rfl)
 refine zcf (zaf rfl) ?_
 refine zcf (zaf rfl) ?_
 refine zcf (zg9 zqJ rfl rfl (by omega) (by omega)) ?_
 refine zcf (zaf rfl) ?_
 refine⟨(zrf (M:=Unit) (te:=33) (res:=zdp ws) (V:=fun x _=>.string x.1) (J:=fun x _=>Rdr 161 r x.2) en90 rfl (fun w B hB hA=>zli r ws w B hB hA)),?_⟩
 rintro ⟨⟨x12,m12⟩,hx12⟩
 replace hx12:zdp ws=.ok x12:=hx12
 refine zae (T':=[(2,_),(6,_),(10,_),(12,_)]) ⟨rfl,rfl,rfl,rfl,trivial⟩ ?_
 refine gQ (zaJ zxd rfl (fun w hw=>zt5 _ _ _ x12.1 w (zoc (Rd.has hl hw) hcap (by omega)) (by rw [List.length_drop]; unfold Small; omega))) ?_
 refine gA ?_
 refine zag (zae (T':=[(2,_),(6,_),(7,_)]) ⟨rfl,rfl,rfl,trivial⟩ ?_)
 refine zac (zac (zaa (gM ?_)))
 refine gQ (zbw rfl rfl) ?_
 refine zag (zae (T':=[(2,_),(6,_),(7,_),(15,_)]) ⟨rfl,rfl,rfl,rfl,trivial⟩ ?_)
 refine zap rfl (fun hc15=>?_) (fun hc15=>?_)
 ·have h15:=of_decide_eq_true hc15
  refine zaa (zcg en91 rfl (fun w hw=>zdk _ w) ?_)
  exact za6 (by rw [zfk,hx12,zak]; exact if_pos h15)
 ·have h15:=of_decide_eq_false hc15
  have hlt:=findI_lt (fun y=>x12.1.toList == y.toList) (l.drop (f:Int).toNat)
  rw [List.length_drop] at hlt
  refine zaq (zac (zaa (gM ?_)))
  refine gM ?_
  refine gQ (zaY rfl rfl (by omega) (by omega)) ?_
  refine gQ (ziU (by kernel_rfl) (Tryz.underlying5) rfl) ?_
  refine gA ?_
  refine zag (zae (T':=[(6,_)]) ⟨rfl,trivial⟩ ?_)
  refine zaw ?_
  exact zdm ((zbJ (fun y=>x12.1.toList == y.toList) (l.drop (f:Int).toNat))+f,x12.2) () 0 (zaC rfl (zau rfl)) (congrArg (fun x=>Value.int .u8 x) (zwr (n:=(zbJ (fun y=>x12.1.toList == y.toList) (l.drop (f:Int).toNat))+(f:Int)) (by omega) (by omega))) rfl (by rw [zfk,hx12,zak]; exact if_neg h15)
end Go.Proofs.YtdcfcfhmkfkgmaaGreatDoor
namespace Go.Proofs.YtdcfcfhmkfkgmaaGreatDoor
open Go.K Go.Stn Go.Pln Go.RowKit
theorem zi1:TF Tryz.prog 158 false 1 (.pointer none):=⟨by kernel_rfl,by kernel_rfl⟩
theorem zxE:TF Tryz.prog 186 false 1 (.pointer none):=⟨by kernel_rfl,by kernel_rfl⟩
theorem zxx:SE Tryz.prog 206 186 1:=⟨Tryz.underlying206,by kernel_rfl⟩
theorem zpl:En Tryz.prog 114:=za7 Tryz.func114 (by kernel_rfl) (by kernel_rfl)
theorem ztI:En Tryz.prog 132:=za7 Tryz.func132 (by kernel_rfl) (by kernel_rfl)
theorem zxb:En Tryz.prog 133:=za7 Tryz.func133 (by kernel_rfl) (by kernel_rfl)
theorem zxc:En Tryz.prog 134:=za7 Tryz.func134 (by kernel_rfl) (by kernel_rfl)
theorem zpK {l:List Nat} {i:Nat} (h:i < l.length):l.getD i 0∈l:=by simp [h]
set_option maxRecDepth 100000 in
set_option maxHeartbeats 1000000 in
theorem zfl (r:Nat) (ws:List ByteArray) (b:Nat) (cs:List Value) (t:TypeId) (os:List Nat) (ps:List (Nat×Nat)) (a:Option Addr) (cap:Nat) (w:World) (B:Nat→Prop) (hB:∀ k,B k→k < w.heap.size) (hA:(SepR [Rdr 161 r ws,Box b cs t]).A B w) (hl:Rd (fun k=>k < w.heap.size∧¬ B k) w (zaW a 1 zhZ ps)) (hps:ps=os.map (fun o=>(b,o))) (ho:∀ o∈os,o < cs.length) (hs:Small ps.length) :
  Calls Tryz.prog 114 #[.pointer (some ⟨r,0,none⟩),.slice a ps.length cap] w (zej 33 (zco os.length ws) (fun _x (_:Unit)=>.tuple #[]) (fun x _=>SepR [Rdr 161 r x.2,Box b (zlz cs os x.1) t]) B w):=by
 have hlen:ps.length=os.length:=by rw [hps,List.length_map]
 refine zby hB hA (vs:=[_,_]) Tryz.func114 rfl rfl (Nat.le_of_ble_eq_true rfl) ?_
 refine zbP ?_
 refine zac (zaa (gM ?_))
 refine gQ (zaV (Tryz.underlying206) rfl) ?_
 refine gM ?_
 refine zag (zae (T':=[(0,_),(7,_),(8,_),(9,_)]) ⟨rfl,rfl,rfl,rfl,trivial⟩ ?_)
 refine zas ?_
 refine zbf (X:=Int×List ByteArray×List Value) (fun⟨i,us,ds⟩=>[(0,.pointer (some ⟨r,0,none⟩)),(7,.slice a ps.length cap),(8,.int .i64 (ps.length:Int)),(9,.int .i64 i)]) (fun⟨i,us,ds⟩=>[Rdr 161 r us,Box b ds t]) (fun⟨i,us,ds⟩=>(0≤i∧i≤ps.length∧ds.length=cs.length∧putE (os.drop i.toNat) ds us=putE os cs ws)) (fun⟨i,us,ds⟩=>(ps.length - i).toNat) (0,ws,cs) ⟨rfl,rfl,rfl,rfl,trivial⟩ rfl ?_ ?_
 ·exact⟨by omega,by omega,rfl,rfl⟩
 ·rintro ⟨i,us,ds⟩ hI
  obtain⟨g0,g1,g2,g3⟩:=hI
  refine zac (zaa (gk_y rfl rfl (zbw rfl rfl) ?_))
  refine zag (zae (T':=[(0,_),(7,_),(8,_),(9,_),(10,_)]) ⟨rfl,rfl,rfl,rfl,rfl,trivial⟩ ?_)
  refine zac (zap rfl (fun hc10=>?_) (fun hc10=>?_))
  ·have hc10:=of_decide_eq_true hc10
   refine zaq (zac (zas ?_))
   refine zac (zaa (gk_y rfl rfl (zaE zxx rfl rfl (fun _ hw=>(Rd.has hl hw)) (by omega) (by omega)) ?_))
   refine gQ (zcE zxE rfl (fun _ hw=>(Rd.has hl hw)) (by omega) (by omega) rfl) ?_
   refine gA ?_
   refine zag (zae (T':=[(0,_),(5,_),(7,_),(8,_),(9,_)]) ⟨rfl,rfl,rfl,rfl,rfl,trivial⟩ ?_)
   have hg5:ps.getD i.toNat default=(b,os.getD i.toNat 0):=by rw [hps]; exact ztP g0 (by omega)
   refine zae (T':=[(0,_),(5,.pointer (some ⟨b,os.getD i.toNat 0,none⟩)),(7,_),(8,_),(9,_)]) ⟨rfl,(by show some (Value.pointer (some ⟨(ps.getD i.toNat default).1,(ps.getD i.toNat default).2,none⟩))=_; rw [hg5]),rfl,rfl,rfl,trivial⟩ ?_
   refine zac (zaa (gM ?_))
   refine zbZ (res:=zdp us) 0 en90 rfl rfl rfl (fun w B hF=>zli r us w B (fun k hk=>(hF.own k hk).2) hF.A) (fun k hk14=>?_) (fun x14 m14 hx14=>?_)
   ·
    exact za6 (zqt (by rw [←g3,zkh g0 (by omega),ziy,numE,hk14]; rfl))
   refine gA ?_
   refine zag (zae (T':=[(0,_),(5,_),(6,_),(7,_),(8,_),(9,_)]) ⟨rfl,rfl,rfl,rfl,rfl,rfl,trivial⟩ ?_)
   refine zac (zac (zaa (gM ?_)))
   refine gQ (zaJ zxb rfl (fun w hw=>zoj _ w)) ?_
   refine gQ (zbR rfl) ?_
   refine zag (zae (T':=[(0,_),(5,_),(6,_),(7,_),(8,_),(9,_),(17,_)]) ⟨rfl,rfl,rfl,rfl,rfl,rfl,rfl,trivial⟩ ?_)
   refine zap rfl (fun hc17=>?_) (fun hc17=>?_)
   ·have h17:¬ numW x14.1=true:=by simpa using hc17
    refine zaa (zcg en91 rfl (fun w hw=>zdk _ w) ?_)
    exact za6 (zqt (by rw [←g3,zkh g0 (by omega),ziy,numE,hx14,zak,if_neg h17]; rfl))
   ·have h17:numW x14.1=true:=by simpa using hc17
    refine zaq (zaa (gM ?_))
    refine gM ?_
    refine gQ (zaJ zxc rfl (fun w hw=>zu3 _ w (by assumption))) ?_
    refine gM ?_
    refine gQ (zaB rfl rfl) ?_
    refine gQ (zaB rfl rfl) ?_
    refine gQ (zbx rfl) ?_
    refine zpS 1 tf3 rfl rfl rfl rfl rfl (by rw [g2]; exact ho _ (zpK (by omega))) ?_
    refine zag (zae (T':=[(0,_),(7,_),(8,_),(9,_)]) ⟨rfl,rfl,rfl,rfl,trivial⟩ ?_)
    refine zaa (gk_y rfl rfl (zaY rfl rfl (by omega) (by omega)) ?_)
    refine gM ?_
    refine zag (zae (T':=[(0,_),(7,_),(8,_),(9,_)]) ⟨rfl,rfl,rfl,rfl,trivial⟩ ?_)
    exact za1 (i+1,x14.2,_) ⟨rfl,rfl,rfl,rfl,trivial⟩ rfl ⟨by omega,by omega,by rw [List.length_set,g2],by rw [←g3,zkh g0 (by omega),ziy,numE,hx14,zak,if_pos h17]; rfl⟩ (by simp only []; omega)
  ·have hc10:=of_decide_eq_false hc10
   refine za8 rfl ?_
   obtain⟨l,hl1,hl2⟩:=zwf (os:=os) (cs:=cs) (ws:=ws) (cs':=ds) (ws':=us) (by rw [←g3,List.drop_of_length_le (by omega),zr5])
   refine zbT 2 ?_
   exact zdm (l,us) () 0 (zcN rfl) rfl (by rw [hl2]; rfl) hl1
set_option maxRecDepth 100000 in
set_option maxHeartbeats 1000000 in
theorem ziv (r:Nat) (ws:List ByteArray) (b:Nat) (cs:List Value) (t:TypeId) (os:List Nat) (ps:List (Nat×Nat)) (a:Option Addr) (cap:Nat) (u:ByteArray) (br:Nat) (w:World) (B:Nat→Prop) (hB:∀ k,B k→k < w.heap.size) (hA:(SepR [Rdr 161 r ws,Box b cs t]).A B w) (hl:Rd (fun k=>k < w.heap.size∧¬ B k) w (zaW a 1 zhZ ps)) (hps:ps=os.map (fun o=>(b,o))) (ho:∀ o∈os,o < cs.length) (hs:Small ps.length) (hb:Rd (fun k=>k < w.heap.size∧¬ B k) w (Box br [.pointer (some ⟨r,0,none⟩)] 158)) :
  Calls Tryz.prog 131 #[.string u,.slice a ps.length cap,.pointer (some ⟨br,0,none⟩)] w (zej 33 (oneE u os.length ws) (fun _x (_:Unit)=>.tuple #[]) (fun x _=>SepR [Rdr 161 r x.2,Box b (zlz cs os x.1) t]) B w):=by
 refine zby hB hA (vs:=[_,_,_]) Tryz.func131 rfl rfl (Nat.le_of_ble_eq_true rfl) ?_
 refine zbP ?_
 refine zac (zaa (gk_y rfl rfl (zbW zi1 rfl (fun _ hw=>zaQ (Rd.has hb hw) rfl)) ?_))
 refine gM ?_
 refine zbZ (res:=sayE u ws) 0 ztI rfl rfl rfl (fun w B hF=>zuG r ws u w B (fun k hk=>(hF.own k hk).2) hF.A) (fun k hk7=>?_) (fun x7 m7 hx7=>?_)
 ·
  exact za6 (by rw [oneE,hk7]; first | done | rfl)
 refine zag (zae (T':=[(1,_),(2,_)]) ⟨rfl,rfl,trivial⟩ ?_)
 refine zaa (gk_y rfl rfl (zbW zi1 rfl (fun _ hw=>zaQ (Rd.has hb hw) rfl)) ?_)
 refine gM ?_
 refine zao 1 rfl ?_
 refine zao 1 rfl ?_
 refine zbT 2 ?_
 refine zbZ 0 zpl rfl rfl rfl (fun w B hF=>zfl r x7.2 b cs t os ps _ _ w B (fun k hk=>(hF.own k hk).2) hF.A (hF.rd hl) hps ho hs) (fun k hk10=>?_) (fun x10 m10 hx10=>?_)
 ·
  exact za6 (by rw [oneE,hx7,zak,hk10]; first | done | rfl)
 refine zag (zae (T':=[]) trivial ?_)
 exact zdm x10 () 0 (zcN rfl) rfl rfl (by rw [oneE,hx7,zak,hx10])
end Go.Proofs.YtdcfcfhmkfkgmaaGreatDoor
namespace Go.Proofs.YtdcfcfhmkfkgmaaGreatDoor
open Go.K Go.Stn Go.Pln Go.RowKit
theorem zxu:SA Tryz.prog 137 9 4 1:=⟨Tryz.underlying137,by kernel_rfl⟩
theorem af35:AF Tryz.prog 35 3 1 8 [.int IntKind.i64 0]:=⟨Tryz.underlying35,by kernel_rfl,rfl⟩
theorem ztG:En Tryz.prog 113:=za7 Tryz.func113 (by kernel_rfl) (by kernel_rfl)
theorem zvS:En Tryz.prog 116:=za7 Tryz.func116 (by kernel_rfl) (by kernel_rfl)
theorem zhY:En Tryz.prog 131:=za7 Tryz.func131 (by kernel_rfl) (by kernel_rfl)
theorem ztm (x0:ByteArray) (w:World):(Instr.build 41 #[(0,.string x0)]).run Tryz.prog w=.ok (.agg #[.string x0,.int IntKind.i64 0,.int IntKind.i64 0,.int IntKind.i64 0,.int IntKind.i64 0,.slice none 0 0,.int IntKind.i64 0,.int IntKind.i64 0,.int IntKind.i64 0,.int IntKind.i64 0,.int IntKind.i64 0,.int IntKind.i64 0,.int IntKind.i64 0,.int IntKind.u8 0,.int IntKind.i64 0,.int IntKind.i64 0,.int IntKind.i64 0,.int IntKind.i64 0,.int IntKind.i64 0,.int IntKind.i64 0]) w:=by kernel_rfl
theorem zo0 (x0_0:Int) (w:World):(Instr.buildSlice 35 1 #[(0,.int .i64 x0_0)]).run Tryz.prog w=.ok (.slice (some ⟨w.heap.size,0,none⟩) 1 1) (w.alloc (.cells (([x0_0]:List (Int)).flatMap Go.Stn.encI).toArray 3)):=by kernel_rfl
theorem zed (x0:Nat×Nat) (w:World):(Instr.buildSlice 206 1 #[(0,.pointer (some ⟨x0.1,x0.2,none⟩))]).run Tryz.prog w=.ok (.slice (some ⟨w.heap.size,0,none⟩) 1 1) (w.alloc (.cells (([x0]:List (Nat×Nat)).flatMap zhZ).toArray 186)):=by kernel_rfl
theorem zlT (x0:Nat×Nat) (x1:Nat×Nat) (w:World):(Instr.buildSlice 206 2 #[(0,.pointer (some ⟨x0.1,x0.2,none⟩)),(1,.pointer (some ⟨x1.1,x1.2,none⟩))]).run Tryz.prog w=.ok (.slice (some ⟨w.heap.size,0,none⟩) 2 2) (w.alloc (.cells (([x0,x1]:List (Nat×Nat)).flatMap zhZ).toArray 186)):=by kernel_rfl
theorem ztr (x0:Nat×Nat) (x1:Nat×Nat) (x2:Nat×Nat) (w:World):(Instr.buildSlice 206 3 #[(0,.pointer (some ⟨x0.1,x0.2,none⟩)),(1,.pointer (some ⟨x1.1,x1.2,none⟩)),(2,.pointer (some ⟨x2.1,x2.2,none⟩))]).run Tryz.prog w=.ok (.slice (some ⟨w.heap.size,0,none⟩) 3 3) (w.alloc (.cells (([x0,x1,x2]:List (Nat×Nat)).flatMap zhZ).toArray 186)):=by kernel_rfl
set_option maxRecDepth 100000 in
set_option maxHeartbeats 8000000 in
theorem zuH (r:Nat) (ws:List ByteArray) (w:World) (B:Nat→Prop) (hB:∀ k,B k→k < w.heap.size) (hA:(Rdr 161 r ws).A B w) (hws:ws.length≤100000) (hcp:Rd (fun k=>k < w.heap.size∧¬ B k) w (zaW (some ⟨0,0,none⟩) 1 encS copesW)) :
  Calls Tryz.prog 110 #[.pointer (some ⟨r,0,none⟩)] w (zej 33 (zci ws) (fun x (m:Option Addr×Nat)=>.agg (zbH ⟨x.1,m.1,m.2⟩).toArray) (fun x m=>SepR [Rdr 161 r x.2,Row m.1 1 m.2 3 Go.Stn.encI x.1.heights]) B w):=by
 refine zby hB hA (vs:=[_]) Tryz.func110 rfl rfl (Nat.le_of_ble_eq_true rfl) ?_
 refine zac (zaa (zaG rfl rfl (za3 (vs:=[_]) rfl rfl) fun b1=>?_))
 refine zaG rfl rfl (zaL tf41 (zs:=[_,_,_,_,_,_,_,_,_,_,_,_,_,_,_,_,_,_,_,_]) rfl) fun b2=>?_
 refine zag (zae (T':=[(1,_),(2,_)]) ⟨rfl,rfl,trivial⟩ ?_)
 refine zac (zaa (gk_y rfl rfl (zah 1 zi1 rfl rfl rfl) ?_))
 refine zbZ (res:=zes ws) 2 ztG rfl rfl rfl (fun w B hF=>zqa r ws w B (fun k hk=>(hF.own k hk).2) hF.A) (fun k hk7=>?_) (fun x7 m7 hx7=>?_)
 ·
  exact za6 (by rw [zci,hk7]; first | done | rfl)
 refine gQ (zaI rfl (ztm _)) ?_
 refine zaG rfl rfl (zaL tf41 (zs:=[_,_,_,_,_,_,_,_,_,_,_,_,_,_,_,_,_,_,_,_]) rfl) fun b3=>?_
 refine zbz 0 tf41 rfl rfl (vs:=[_,_,_,_,_,_,_,_,_,_,_,_,_,_,_,_,_,_,_,_]) rfl rfl rfl rfl rfl ?_
 refine zag (zae (T':=[(1,_),(2,_),(3,_)]) ⟨rfl,rfl,rfl,trivial⟩ ?_)
 refine zac (zaa (gk_y rfl rfl (zbO («as»:=[]) (bs:=[_]) rfl rfl) ?_))
 refine gA ?_
 refine zag (zae (T':=[(1,_),(2,_),(3,_),(4,_)]) ⟨rfl,rfl,rfl,rfl,trivial⟩ ?_)
 refine zac (zaa (gM ?_))
 refine gQ (zab znc rfl) ?_
 refine zaG rfl rfl (zaD rfl (zed (b3,1)) zbj rfl) fun b12=>?_
 refine zao 1 rfl ?_
 refine zao 4 rfl ?_
 refine zbT 2 ?_
 refine zcB (res:=oneE (⟨#[98,97,115,101]⟩:ByteArray) 1 x7.2) (fs:=[]) (cap:=[_]) 0 zhY rfl rfl rfl rfl (fun w B hF=>ziv r x7.2 b3 [.string x7.1,.int .i64 0,.int .i64 0,.int .i64 0,.int .i64 0,.slice none 0 0,.int .i64 0,.int .i64 0,.int .i64 0,.int .i64 0,.int .i64 0,.int .i64 0,.int .i64 0,.int .u8 0,.int .i64 0,.int .i64 0,.int .i64 0,.int .i64 0,.int .i64 0,.int .i64 0] 41 [1] [(b3,1)] _ _ (⟨#[98,97,115,101]⟩:ByteArray) b1 w B (fun k hk=>(hF.own k hk).2) hF.A (zdX zbj (hF.other 0 rfl)) rfl (by intro o ho; simp at ho; simp; omega) (by simp [Small]) (hF.other 2 rfl)) (fun k hk13=>?_) (fun x13 m13 hx13=>?_)
 ·
  exact za6 (by rw [zci,hx7,zak,hk13]; first | done | rfl)
 refine zbP ?_
 refine za2 (R':=Box b3 [.string x7.1,.int .i64 ((x13.1).getD 0 0),.int .i64 0,.int .i64 0,.int .i64 0,.slice none 0 0,.int .i64 0,.int .i64 0,.int .i64 0,.int .i64 0,.int .i64 0,.int .i64 0,.int .i64 0,.int .u8 0,.int .i64 0,.int .i64 0,.int .i64 0,.int .i64 0,.int .i64 0,.int .i64 0] 41) 1 rfl (fun B w hA=>hA) ?_
 refine zaK 2 rfl ?_
 refine zag (zae (T':=[(1,_),(2,_),(3,_),(4,_)]) ⟨rfl,rfl,rfl,rfl,trivial⟩ ?_)
 refine zac (zaa (gM ?_))
 refine gQ (zab zpv rfl) ?_
 refine zaG rfl rfl (zaD rfl (zed (b3,2)) zbj rfl) fun b16=>?_
 refine zao 2 rfl ?_
 refine zao 2 rfl ?_
 refine zbT 2 ?_
 refine zcB (res:=oneE (⟨#[98,97,116,116,101,114]⟩:ByteArray) 1 x13.2) (fs:=[]) (cap:=[_]) 0 zhY rfl rfl rfl rfl (fun w B hF=>ziv r x13.2 b3 [.string x7.1,.int .i64 ((x13.1).getD 0 0),.int .i64 0,.int .i64 0,.int .i64 0,.slice none 0 0,.int .i64 0,.int .i64 0,.int .i64 0,.int .i64 0,.int .i64 0,.int .i64 0,.int .i64 0,.int .u8 0,.int .i64 0,.int .i64 0,.int .i64 0,.int .i64 0,.int .i64 0,.int .i64 0] 41 [2] [(b3,2)] _ _ (⟨#[98,97,116,116,101,114]⟩:ByteArray) b1 w B (fun k hk=>(hF.own k hk).2) hF.A (zdX zbj (hF.other 0 rfl)) rfl (by intro o ho; simp at ho; simp; omega) (by simp [Small]) (hF.other 2 rfl)) (fun k hk17=>?_) (fun x17 m17 hx17=>?_)
 ·
  exact za6 (by rw [zci,hx7,zak,hx13,zak,hk17]; first | done | rfl)
 refine zbP ?_
 refine za2 (R':=Box b3 [.string x7.1,.int .i64 ((x13.1).getD 0 0),.int .i64 ((x17.1).getD 0 0),.int .i64 0,.int .i64 0,.slice none 0 0,.int .i64 0,.int .i64 0,.int .i64 0,.int .i64 0,.int .i64 0,.int .i64 0,.int .i64 0,.int .u8 0,.int .i64 0,.int .i64 0,.int .i64 0,.int .i64 0,.int .i64 0,.int .i64 0] 41) 1 rfl (fun B w hA=>hA) ?_
 refine zaK 2 rfl ?_
 refine zag (zae (T':=[(1,_),(2,_),(3,_),(4,_)]) ⟨rfl,rfl,rfl,rfl,trivial⟩ ?_)
 refine zac (zaa (gM ?_))
 refine gQ (zab zep rfl) ?_
 refine zaG rfl rfl (zaD rfl (zed (b3,3)) zbj rfl) fun b20=>?_
 refine zao 2 rfl ?_
 refine zao 2 rfl ?_
 refine zbT 2 ?_
 refine zcB (res:=oneE (⟨#[104,101,105,103,104,116]⟩:ByteArray) 1 x17.2) (fs:=[]) (cap:=[_]) 0 zhY rfl rfl rfl rfl (fun w B hF=>ziv r x17.2 b3 [.string x7.1,.int .i64 ((x13.1).getD 0 0),.int .i64 ((x17.1).getD 0 0),.int .i64 0,.int .i64 0,.slice none 0 0,.int .i64 0,.int .i64 0,.int .i64 0,.int .i64 0,.int .i64 0,.int .i64 0,.int .i64 0,.int .u8 0,.int .i64 0,.int .i64 0,.int .i64 0,.int .i64 0,.int .i64 0,.int .i64 0] 41 [3] [(b3,3)] _ _ (⟨#[104,101,105,103,104,116]⟩:ByteArray) b1 w B (fun k hk=>(hF.own k hk).2) hF.A (zdX zbj (hF.other 0 rfl)) rfl (by intro o ho; simp at ho; simp; omega) (by simp [Small]) (hF.other 2 rfl)) (fun k hk21=>?_) (fun x21 m21 hx21=>?_)
 ·
  exact za6 (by rw [zci,hx7,zak,hx13,zak,hx17,zak,hk21]; first | done | rfl)
 refine zbP ?_
 refine za2 (R':=Box b3 [.string x7.1,.int .i64 ((x13.1).getD 0 0),.int .i64 ((x17.1).getD 0 0),.int .i64 ((x21.1).getD 0 0),.int .i64 0,.slice none 0 0,.int .i64 0,.int .i64 0,.int .i64 0,.int .i64 0,.int .i64 0,.int .i64 0,.int .i64 0,.int .u8 0,.int .i64 0,.int .i64 0,.int .i64 0,.int .i64 0,.int .i64 0,.int .i64 0] 41) 1 rfl (fun B w hA=>hA) ?_
 refine zaK 2 rfl ?_
 refine zag (zae (T':=[(1,_),(2,_),(3,_),(4,_)]) ⟨rfl,rfl,rfl,rfl,trivial⟩ ?_)
 refine zac (zaa (gM ?_))
 refine gQ (zab znd rfl) ?_
 refine zaG rfl rfl (zaD rfl (zed (b3,4)) zbj rfl) fun b24=>?_
 refine zao 2 rfl ?_
 refine zao 2 rfl ?_
 refine zbT 2 ?_
 refine zcB (res:=oneE (⟨#[115,107,105,110]⟩:ByteArray) 1 x21.2) (fs:=[]) (cap:=[_]) 0 zhY rfl rfl rfl rfl (fun w B hF=>ziv r x21.2 b3 [.string x7.1,.int .i64 ((x13.1).getD 0 0),.int .i64 ((x17.1).getD 0 0),.int .i64 ((x21.1).getD 0 0),.int .i64 0,.slice none 0 0,.int .i64 0,.int .i64 0,.int .i64 0,.int .i64 0,.int .i64 0,.int .i64 0,.int .i64 0,.int .u8 0,.int .i64 0,.int .i64 0,.int .i64 0,.int .i64 0,.int .i64 0,.int .i64 0] 41 [4] [(b3,4)] _ _ (⟨#[115,107,105,110]⟩:ByteArray) b1 w B (fun k hk=>(hF.own k hk).2) hF.A (zdX zbj (hF.other 0 rfl)) rfl (by intro o ho; simp at ho; simp; omega) (by simp [Small]) (hF.other 2 rfl)) (fun k hk25=>?_) (fun x25 m25 hx25=>?_)
 ·
  exact za6 (by rw [zci,hx7,zak,hx13,zak,hx17,zak,hx21,zak,hk25]; first | done | rfl)
 refine zbP ?_
 refine za2 (R':=Box b3 [.string x7.1,.int .i64 ((x13.1).getD 0 0),.int .i64 ((x17.1).getD 0 0),.int .i64 ((x21.1).getD 0 0),.int .i64 ((x25.1).getD 0 0),.slice none 0 0,.int .i64 0,.int .i64 0,.int .i64 0,.int .i64 0,.int .i64 0,.int .i64 0,.int .i64 0,.int .u8 0,.int .i64 0,.int .i64 0,.int .i64 0,.int .i64 0,.int .i64 0,.int .i64 0] 41) 1 rfl (fun B w hA=>hA) ?_
 refine zaK 2 rfl ?_
 refine zag (zae (T':=[(1,_),(2,_),(3,_),(4,_)]) ⟨rfl,rfl,rfl,rfl,trivial⟩ ?_)
 refine zac (zaa (gk_y rfl rfl (zah 3 zi1 rfl rfl rfl) ?_))
 refine zbZ (res:=sayE (⟨#[104,101,105,103,104,116,115]⟩:ByteArray) x25.2) 0 ztI rfl rfl rfl (fun w B hF=>zuG r x25.2 (⟨#[104,101,105,103,104,116,115]⟩:ByteArray) w B (fun k hk=>(hF.own k hk).2) hF.A) (fun k hk27=>?_) (fun x27 m27 hx27=>?_)
 ·
  exact za6 (by rw [zci,hx7,zak,hx13,zak,hx17,zak,hx21,zak,hx25,zak,hk27]; first | done | rfl)
 refine zag (zae (T':=[(1,_),(2,_),(3,_),(4,_)]) ⟨rfl,rfl,rfl,rfl,trivial⟩ ?_)
 have hlen27:x27.2.length≤ws.length:=by have:=znu hx7; have:=zfo hx13; have:=zfo hx17; have:=zfo hx21; have:=zfo hx25; have:=zmz hx27; omega
 refine zao 3 rfl ?_
 refine zao 3 rfl ?_
 refine zao 3 rfl ?_
 refine zao 3 rfl ?_
 refine zac (zas ?_)
 refine zbB 3 Go.Stn.encI 1 ?_
 refine zbf (X:=List Int×List ByteArray×Option Addr×Nat) (fun⟨acc,us,ha,hc⟩=>[(1,.pointer (some ⟨b1,0,none⟩)),(2,.pointer (some ⟨b2,0,none⟩)),(3,.pointer (some ⟨b3,0,none⟩)),(4,.func (.func 131) #[] #[.pointer (some ⟨b1,0,none⟩)])]) (fun⟨acc,us,ha,hc⟩=>[Row ha 1 hc 3 Go.Stn.encI acc,Rdr 161 r us,Box b3 [.string x7.1,.int .i64 ((x13.1).getD 0 0),.int .i64 ((x17.1).getD 0 0),.int .i64 ((x21.1).getD 0 0),.int .i64 ((x25.1).getD 0 0),.slice ha acc.length hc,.int .i64 0,.int .i64 0,.int .i64 0,.int .i64 0,.int .i64 0,.int .i64 0,.int .i64 0,.int .u8 0,.int .i64 0,.int .i64 0,.int .i64 0,.int .i64 0,.int .i64 0,.int .i64 0] 41,Box b2 [.string ⟨#[]⟩,.int .i64 0,.int .i64 0,.int .i64 0,.int .i64 0,.slice none 0 0,.int .i64 0,.int .i64 0,.int .i64 0,.int .i64 0,.int .i64 0,.int .i64 0,.int .i64 0,.int .u8 0,.int .i64 0,.int .i64 0,.int .i64 0,.int .i64 0,.int .i64 0,.int .i64 0] 41,Box b1 [.pointer (some ⟨r,0,none⟩)] 158]) (fun⟨acc,us,ha,hc⟩=>(zbF acc us=zbF [] x27.2∧acc.length+us.length≤x27.2.length)) (fun⟨acc,us,ha,hc⟩=>us.length) ([],x27.2,none,0) ⟨rfl,rfl,rfl,rfl,trivial⟩ rfl ?_ ?_
 ·exact⟨rfl,by simp⟩
 ·rintro ⟨acc,us,ha,hc⟩ hI
  obtain⟨hI,hal⟩:=hI
  refine zao 1 rfl ?_
  refine zgV fun a1h c1h hc1h=>?_
  refine zac (zac (zbb 15 (fun _=>mixed) (by kernel_rfl) ?_))
  refine ph_y (zah 5 zi1 rfl rfl rfl) ?_
  refine ph_y (zbx rfl) ?_
  refine ph_y (zab zf0 rfl) ?_
  refine ph_y (zah 0 zmF rfl rfl rfl) ?_
  refine ph_y (zaV (Tryz.underlying124) rfl) ?_
  refine ph_y (zc6 rfl rfl) ?_
  refine ph_y (zaf rfl) ?_
  refine zaH rfl rfl (fun hgd=>by(try rw [hgd]); (try have hgd2:=of_decide_eq_true hgd); exact(zah 5 zi1 rfl rfl rfl)) ?_
  refine zaH rfl rfl (fun hgd=>by(try rw [hgd]); (try have hgd2:=of_decide_eq_true hgd); exact(zbx rfl)) ?_
  refine zaH rfl rfl (fun hgd=>by(try rw [hgd]); (try have hgd2:=of_decide_eq_true hgd); exact(zab zf0 rfl)) ?_
  refine zaH rfl rfl (fun hgd=>by(try rw [hgd]); (try have hgd2:=of_decide_eq_true hgd); exact(zah 0 zmF rfl rfl rfl)) ?_
  refine zaH rfl rfl (fun hgd=>by(try rw [hgd]); (try have hgd2:=of_decide_eq_true hgd); exact(zaE zqJ rfl rfl (fun _ hw=>(hw.has (p:=1) rfl)) (by omega) (by omega))) ?_
  refine zaH rfl rfl (fun hgd=>by(try rw [hgd]); (try have hgd2:=of_decide_eq_true hgd); exact(zcE tf9 rfl (fun _ hw=>(hw.has (p:=1) rfl)) (by omega) (by omega) rfl)) ?_
  refine zaH rfl rfl (fun hgd=>by(try rw [hgd]); (try have hgd2:=of_decide_eq_true hgd); exact(ziV rfl rfl)) ?_
  refine ph_y (zaX rfl rfl rfl) ?_
  refine zag (zae (T':=[(1,_),(2,_),(3,_),(4,_),(42,_)]) ⟨rfl,rfl,rfl,rfl,rfl,trivial⟩ ?_)
  refine zao 1 rfl ?_
  refine zao 1 rfl ?_
  refine zeH hc1h ?_
  refine zao 4 rfl ?_
  refine zap rfl (fun hc42=>?_) (fun hc42=>?_)
  ·simp only [Bool.and_eq_true,decide_eq_true_eq] at hc42
   have h0:¬ us.length=0:=by have:=hc42.1; omega
   have hl0:¬ ((us.getD 0 default).toList == wLeast.toList)=true:=by have:=hc42.2; rw [Bool.not_eq_true'] at this; rw [show((us.getD 0 default).toList == wLeast.toList)=false from this]; exact Bool.false_ne_true
   refine zaq (zas ?_)
   refine zac (zaa (zaG rfl rfl (zaL tf3 (zs:=[_]) rfl) fun b5=>?_))
   refine zag (zae (T':=[(1,_),(2,_),(3,_),(4,_),(5,_)]) ⟨rfl,rfl,rfl,rfl,rfl,trivial⟩ ?_)
   refine zac (zaa (gk_y rfl rfl (zah 1 zi1 rfl rfl rfl) ?_))
   refine zaG rfl rfl (zaD rfl (zed (b5,0)) zbj rfl) fun b44=>?_
   refine zao 1 rfl ?_
   refine zao 3 rfl ?_
   refine zbT 2 ?_
   refine zbZ (res:=zco 1 us) 0 zpl rfl rfl rfl (fun w B hF=>zfl r us b5 [.int .i64 0] 3 [0] [(b5,0)] _ _ w B (fun k hk=>(hF.own k hk).2) hF.A (zdX zbj (hF.other 0 rfl)) rfl (by intro o ho; simp at ho; simp; omega) (by simp [Small])) (fun k hk45=>?_) (fun x45 m45 hx45=>?_)
   ·
    have hh6:zbF [] x27.2=.error k:=by rw [←hI,zgs h0 hl0,hk45]; rfl
    exact za6 (by rw [zci,hx7,zak,hx13,zak,hx17,zak,hx21,zak,hx25,zak,hx27,zak,hh6]; first | done | rfl)
   refine zbP ?_
   refine za2 (R':=Box b5 [.int .i64 ((x45.1).getD 0 0)] 3) 1 rfl (fun B w hA=>hA) ?_
   refine zaK 2 rfl ?_
   refine zag (zae (T':=[(1,_),(2,_),(3,_),(4,_),(5,_)]) ⟨rfl,rfl,rfl,rfl,rfl,trivial⟩ ?_)
   refine zaa (gk_y rfl rfl (zab zia rfl) ?_)
   refine gQ (zah 4 tf35 rfl rfl rfl) ?_
   refine gQ (zah 1 tf3 rfl rfl rfl) ?_
   refine zaG rfl rfl (zaD rfl (zo0 _) Go.Stn.encI_ok rfl) fun b49=>?_
   refine zb4 (m:=[((x45.1).getD 0 0)]) 4 af35 Go.Stn.encI_ok rfl rfl rfl rfl (fun _ hw=>(zam Go.Stn.encI_ok (hw.has (p:=0) rfl))) (by first | omega | (simp only [List.length_cons,List.length_nil]; omega)) (by first | (unfold maxLen; omega) | (simp only [List.length_cons,List.length_nil,maxLen]; omega)) fun a50 c50=>?_
   refine gQ (zab zia rfl) ?_
   refine zaA 5 tf35 rfl rfl (vs:=[_]) rfl rfl rfl rfl rfl ?_
   refine zag (zae (T':=[(1,_),(2,_),(3,_),(4,_)]) ⟨rfl,rfl,rfl,rfl,trivial⟩ ?_)
   refine zaK 0 rfl ?_
   refine zaK 1 rfl ?_
   refine zao 1 rfl ?_
   refine zao 4 rfl ?_
   refine zao 4 rfl ?_
   refine zao 3 rfl ?_
   refine zao 4 rfl ?_
   exact za1 (acc++[(x45.1).getD 0 0],x45.2,a50,c50) ⟨rfl,rfl,rfl,rfl,trivial⟩ rfl ⟨by rw [←hI,zgs h0 hl0,hx45]; rfl,by have:=zlj hx45; simp only [List.length_append,List.length_cons,List.length_nil]; omega⟩ (by have:=zlj hx45; simp only []; omega)
  ·simp only [Bool.and_eq_false_iff,decide_eq_false_iff_not] at hc42
   have hh6:zbF [] x27.2=.ok (acc,us):=by rw [←hI]; exact zk4 (by rcases hc42 with h | h; exact .inl (by omega); exact .inr (zll h))
   refine za8 rfl ?_
   refine zac (zaa (gM ?_))
   refine gQ (zab zpw rfl) ?_
   refine zaG rfl rfl (zaD rfl (zed (b3,6)) zbj rfl) fun b54=>?_
   refine zao 4 rfl ?_
   refine zao 3 rfl ?_
   refine zbT 2 ?_
   refine zcB (res:=oneE (⟨#[108,101,97,115,116]⟩:ByteArray) 1 us) (fs:=[]) (cap:=[_]) 0 zhY rfl rfl rfl rfl (fun w B hF=>ziv r us b3 [.string x7.1,.int .i64 ((x13.1).getD 0 0),.int .i64 ((x17.1).getD 0 0),.int .i64 ((x21.1).getD 0 0),.int .i64 ((x25.1).getD 0 0),.slice ha acc.length hc,.int .i64 0,.int .i64 0,.int .i64 0,.int .i64 0,.int .i64 0,.int .i64 0,.int .i64 0,.int .u8 0,.int .i64 0,.int .i64 0,.int .i64 0,.int .i64 0,.int .i64 0,.int .i64 0] 41 [6] [(b3,6)] _ _ (⟨#[108,101,97,115,116]⟩:ByteArray) b1 w B (fun k hk=>(hF.own k hk).2) hF.A (zdX zbj (hF.other 0 rfl)) rfl (by intro o ho; simp at ho; simp; omega) (by simp [Small]) (hF.other 1 rfl)) (fun k hk55=>?_) (fun x55 m55 hx55=>?_)
   ·
    exact za6 (by rw [zci,hx7,zak,hx13,zak,hx17,zak,hx21,zak,hx25,zak,hx27,zak,hh6,zak,hk55]; first | done | rfl)
   refine zbP ?_
   refine za2 (R':=Box b3 [.string x7.1,.int .i64 ((x13.1).getD 0 0),.int .i64 ((x17.1).getD 0 0),.int .i64 ((x21.1).getD 0 0),.int .i64 ((x25.1).getD 0 0),.slice ha acc.length hc,.int .i64 ((x55.1).getD 0 0),.int .i64 0,.int .i64 0,.int .i64 0,.int .i64 0,.int .i64 0,.int .i64 0,.int .u8 0,.int .i64 0,.int .i64 0,.int .i64 0,.int .i64 0,.int .i64 0,.int .i64 0] 41) 1 rfl (fun B w hA=>hA) ?_
   refine zaK 2 rfl ?_
   refine zag (zae (T':=[(1,_),(2,_),(3,_),(4,_)]) ⟨rfl,rfl,rfl,rfl,trivial⟩ ?_)
   refine zac (zaa (gM ?_))
   refine gQ (zab zsK rfl) ?_
   refine zaG rfl rfl (zaD rfl (zed (b3,7)) zbj rfl) fun b58=>?_
   refine zao 2 rfl ?_
   refine zao 2 rfl ?_
   refine zbT 2 ?_
   refine zcB (res:=oneE (⟨#[108,97,112]⟩:ByteArray) 1 x55.2) (fs:=[]) (cap:=[_]) 0 zhY rfl rfl rfl rfl (fun w B hF=>ziv r x55.2 b3 [.string x7.1,.int .i64 ((x13.1).getD 0 0),.int .i64 ((x17.1).getD 0 0),.int .i64 ((x21.1).getD 0 0),.int .i64 ((x25.1).getD 0 0),.slice ha acc.length hc,.int .i64 ((x55.1).getD 0 0),.int .i64 0,.int .i64 0,.int .i64 0,.int .i64 0,.int .i64 0,.int .i64 0,.int .u8 0,.int .i64 0,.int .i64 0,.int .i64 0,.int .i64 0,.int .i64 0,.int .i64 0] 41 [7] [(b3,7)] _ _ (⟨#[108,97,112]⟩:ByteArray) b1 w B (fun k hk=>(hF.own k hk).2) hF.A (zdX zbj (hF.other 0 rfl)) rfl (by intro o ho; simp at ho; simp; omega) (by simp [Small]) (hF.other 1 rfl)) (fun k hk59=>?_) (fun x59 m59 hx59=>?_)
   ·
    exact za6 (by rw [zci,hx7,zak,hx13,zak,hx17,zak,hx21,zak,hx25,zak,hx27,zak,hh6,zak,hx55,zak,hk59]; first | done | rfl)
   refine zbP ?_
   refine za2 (R':=Box b3 [.string x7.1,.int .i64 ((x13.1).getD 0 0),.int .i64 ((x17.1).getD 0 0),.int .i64 ((x21.1).getD 0 0),.int .i64 ((x25.1).getD 0 0),.slice ha acc.length hc,.int .i64 ((x55.1).getD 0 0),.int .i64 ((x59.1).getD 0 0),.int .i64 0,.int .i64 0,.int .i64 0,.int .i64 0,.int .i64 0,.int .u8 0,.int .i64 0,.int .i64 0,.int .i64 0,.int .i64 0,.int .i64 0,.int .i64 0] 41) 1 rfl (fun B w hA=>hA) ?_
   refine zaK 2 rfl ?_
   refine zag (zae (T':=[(1,_),(2,_),(3,_),(4,_)]) ⟨rfl,rfl,rfl,rfl,trivial⟩ ?_)
   refine zac (zaa (gM ?_))
   refine gQ (zab zsL rfl) ?_
   refine zaG rfl rfl (zaD rfl (zed (b3,8)) zbj rfl) fun b62=>?_
   refine zao 2 rfl ?_
   refine zao 2 rfl ?_
   refine zbT 2 ?_
   refine zcB (res:=oneE (⟨#[114,117,110]⟩:ByteArray) 1 x59.2) (fs:=[]) (cap:=[_]) 0 zhY rfl rfl rfl rfl (fun w B hF=>ziv r x59.2 b3 [.string x7.1,.int .i64 ((x13.1).getD 0 0),.int .i64 ((x17.1).getD 0 0),.int .i64 ((x21.1).getD 0 0),.int .i64 ((x25.1).getD 0 0),.slice ha acc.length hc,.int .i64 ((x55.1).getD 0 0),.int .i64 ((x59.1).getD 0 0),.int .i64 0,.int .i64 0,.int .i64 0,.int .i64 0,.int .i64 0,.int .u8 0,.int .i64 0,.int .i64 0,.int .i64 0,.int .i64 0,.int .i64 0,.int .i64 0] 41 [8] [(b3,8)] _ _ (⟨#[114,117,110]⟩:ByteArray) b1 w B (fun k hk=>(hF.own k hk).2) hF.A (zdX zbj (hF.other 0 rfl)) rfl (by intro o ho; simp at ho; simp; omega) (by simp [Small]) (hF.other 1 rfl)) (fun k hk63=>?_) (fun x63 m63 hx63=>?_)
   ·
    exact za6 (by rw [zci,hx7,zak,hx13,zak,hx17,zak,hx21,zak,hx25,zak,hx27,zak,hh6,zak,hx55,zak,hx59,zak,hk63]; first | done | rfl)
   refine zbP ?_
   refine za2 (R':=Box b3 [.string x7.1,.int .i64 ((x13.1).getD 0 0),.int .i64 ((x17.1).getD 0 0),.int .i64 ((x21.1).getD 0 0),.int .i64 ((x25.1).getD 0 0),.slice ha acc.length hc,.int .i64 ((x55.1).getD 0 0),.int .i64 ((x59.1).getD 0 0),.int .i64 ((x63.1).getD 0 0),.int .i64 0,.int .i64 0,.int .i64 0,.int .i64 0,.int .u8 0,.int .i64 0,.int .i64 0,.int .i64 0,.int .i64 0,.int .i64 0,.int .i64 0] 41) 1 rfl (fun B w hA=>hA) ?_
   refine zaK 2 rfl ?_
   refine zag (zae (T':=[(1,_),(2,_),(3,_),(4,_)]) ⟨rfl,rfl,rfl,rfl,trivial⟩ ?_)
   refine zac (zaa (gM ?_))
   refine gQ (zab zhc rfl) ?_
   refine gQ (zab zh9 rfl) ?_
   refine zaG rfl rfl (zaD rfl (zlT (b3,9) (b3,10)) zbj rfl) fun b67=>?_
   refine zao 2 rfl ?_
   refine zao 2 rfl ?_
   refine zbT 2 ?_
   refine zcB (res:=oneE (⟨#[116,104,114,111,117,103,104]⟩:ByteArray) 2 x63.2) (fs:=[]) (cap:=[_]) 0 zhY rfl rfl rfl rfl (fun w B hF=>ziv r x63.2 b3 [.string x7.1,.int .i64 ((x13.1).getD 0 0),.int .i64 ((x17.1).getD 0 0),.int .i64 ((x21.1).getD 0 0),.int .i64 ((x25.1).getD 0 0),.slice ha acc.length hc,.int .i64 ((x55.1).getD 0 0),.int .i64 ((x59.1).getD 0 0),.int .i64 ((x63.1).getD 0 0),.int .i64 0,.int .i64 0,.int .i64 0,.int .i64 0,.int .u8 0,.int .i64 0,.int .i64 0,.int .i64 0,.int .i64 0,.int .i64 0,.int .i64 0] 41 [9,10] [(b3,9),(b3,10)] _ _ (⟨#[116,104,114,111,117,103,104]⟩:ByteArray) b1 w B (fun k hk=>(hF.own k hk).2) hF.A (zdX zbj (hF.other 0 rfl)) rfl (by intro o ho; simp at ho; simp; omega) (by simp [Small]) (hF.other 1 rfl)) (fun k hk68=>?_) (fun x68 m68 hx68=>?_)
   ·
    exact za6 (by rw [zci,hx7,zak,hx13,zak,hx17,zak,hx21,zak,hx25,zak,hx27,zak,hh6,zak,hx55,zak,hx59,zak,hx63,zak,hk68]; first | done | rfl)
   refine zbP ?_
   refine za2 (R':=Box b3 [.string x7.1,.int .i64 ((x13.1).getD 0 0),.int .i64 ((x17.1).getD 0 0),.int .i64 ((x21.1).getD 0 0),.int .i64 ((x25.1).getD 0 0),.slice ha acc.length hc,.int .i64 ((x55.1).getD 0 0),.int .i64 ((x59.1).getD 0 0),.int .i64 ((x63.1).getD 0 0),.int .i64 ((x68.1).getD 0 0),.int .i64 (((x68.1.drop 1)).getD 0 0),.int .i64 0,.int .i64 0,.int .u8 0,.int .i64 0,.int .i64 0,.int .i64 0,.int .i64 0,.int .i64 0,.int .i64 0] 41) 1 rfl (fun B w hA=>hA) ?_
   refine zaK 2 rfl ?_
   refine zag (zae (T':=[(1,_),(2,_),(3,_),(4,_)]) ⟨rfl,rfl,rfl,rfl,trivial⟩ ?_)
   refine zac (zaa (gM ?_))
   refine gQ (zab zl8 rfl) ?_
   refine gQ (zab zl9 rfl) ?_
   refine zaG rfl rfl (zaD rfl (zlT (b3,11) (b3,12)) zbj rfl) fun b72=>?_
   refine zao 2 rfl ?_
   refine zao 2 rfl ?_
   refine zbT 2 ?_
   refine zcB (res:=oneE (⟨#[102,111,111,116,105,110,103]⟩:ByteArray) 2 x68.2) (fs:=[]) (cap:=[_]) 0 zhY rfl rfl rfl rfl (fun w B hF=>ziv r x68.2 b3 [.string x7.1,.int .i64 ((x13.1).getD 0 0),.int .i64 ((x17.1).getD 0 0),.int .i64 ((x21.1).getD 0 0),.int .i64 ((x25.1).getD 0 0),.slice ha acc.length hc,.int .i64 ((x55.1).getD 0 0),.int .i64 ((x59.1).getD 0 0),.int .i64 ((x63.1).getD 0 0),.int .i64 ((x68.1).getD 0 0),.int .i64 (((x68.1.drop 1)).getD 0 0),.int .i64 0,.int .i64 0,.int .u8 0,.int .i64 0,.int .i64 0,.int .i64 0,.int .i64 0,.int .i64 0,.int .i64 0] 41 [11,12] [(b3,11),(b3,12)] _ _ (⟨#[102,111,111,116,105,110,103]⟩:ByteArray) b1 w B (fun k hk=>(hF.own k hk).2) hF.A (zdX zbj (hF.other 0 rfl)) rfl (by intro o ho; simp at ho; simp; omega) (by simp [Small]) (hF.other 1 rfl)) (fun k hk73=>?_) (fun x73 m73 hx73=>?_)
   ·
    exact za6 (by rw [zci,hx7,zak,hx13,zak,hx17,zak,hx21,zak,hx25,zak,hx27,zak,hh6,zak,hx55,zak,hx59,zak,hx63,zak,hx68,zak,hk73]; first | done | rfl)
   refine zbP ?_
   refine za2 (R':=Box b3 [.string x7.1,.int .i64 ((x13.1).getD 0 0),.int .i64 ((x17.1).getD 0 0),.int .i64 ((x21.1).getD 0 0),.int .i64 ((x25.1).getD 0 0),.slice ha acc.length hc,.int .i64 ((x55.1).getD 0 0),.int .i64 ((x59.1).getD 0 0),.int .i64 ((x63.1).getD 0 0),.int .i64 ((x68.1).getD 0 0),.int .i64 (((x68.1.drop 1)).getD 0 0),.int .i64 ((x73.1).getD 0 0),.int .i64 (((x73.1.drop 1)).getD 0 0),.int .u8 0,.int .i64 0,.int .i64 0,.int .i64 0,.int .i64 0,.int .i64 0,.int .i64 0] 41) 1 rfl (fun B w hA=>hA) ?_
   refine zaK 2 rfl ?_
   refine zag (zae (T':=[(1,_),(2,_),(3,_),(4,_)]) ⟨rfl,rfl,rfl,rfl,trivial⟩ ?_)
   refine zac (zaa (gk_y rfl rfl (zah 2 zi1 rfl rfl rfl) ?_))
   refine zbZ (res:=sayE (⟨#[99,111,112,101]⟩:ByteArray) x73.2) 0 ztI rfl rfl rfl (fun w B hF=>zuG r x73.2 (⟨#[99,111,112,101]⟩:ByteArray) w B (fun k hk=>(hF.own k hk).2) hF.A) (fun k hk75=>?_) (fun x75 m75 hx75=>?_)
   ·
    exact za6 (by rw [zci,hx7,zak,hx13,zak,hx17,zak,hx21,zak,hx25,zak,hx27,zak,hh6,zak,hx55,zak,hx59,zak,hx63,zak,hx68,zak,hx73,zak,hk75]; first | done | rfl)
   refine zag (zae (T':=[(1,_),(2,_),(3,_),(4,_)]) ⟨rfl,rfl,rfl,rfl,trivial⟩ ?_)
   refine zac (zbb 2 (fun _=>mixed) (by kernel_rfl) ?_)
   refine ph_y (zah 2 zi1 rfl rfl rfl) ?_
   refine ph_y (zjB zxu rfl) ?_
   refine zae (T':=[(1,_),(2,_),(3,_),(4,_),(76,_),(77,_)]) ⟨rfl,rfl,rfl,rfl,rfl,rfl,trivial⟩ ?_
   refine zbZ (res:=zfk copesW 0 x75.2) 0 zvS rfl rfl rfl (fun w B hF=>zsX r x75.2 (some ⟨0,0,none⟩) 4 copesW 0 w B (fun k hk=>(hF.own k hk).2) hF.A (hF.rd hcp) (by decide) (by decide) (by decide)) (fun k hk78=>?_) (fun x78 m78 hx78=>?_)
   ·
    exact za6 (by rw [zci,hx7,zak,hx13,zak,hx17,zak,hx21,zak,hx25,zak,hx27,zak,hh6,zak,hx55,zak,hx59,zak,hx63,zak,hx68,zak,hx73,zak,hx75,zak,hk78]; first | done | rfl)
   refine gQ (zab zjW rfl) ?_
   refine zaA 1 tf5 rfl rfl (vs:=[_]) rfl rfl rfl rfl rfl ?_
   refine zag (zae (T':=[(1,_),(2,_),(3,_),(4,_)]) ⟨rfl,rfl,rfl,rfl,trivial⟩ ?_)
   refine zac (zaa (gk_y rfl rfl (zah 2 zi1 rfl rfl rfl) ?_))
   refine gQ (zab zfc rfl) ?_
   refine gQ (zab zf1 rfl) ?_
   refine gQ (zab zfd rfl) ?_
   refine zaG rfl rfl (zaD rfl (ztr (b3,14) (b3,15) (b3,16)) zbj rfl) fun b84=>?_
   refine zao 2 rfl ?_
   refine zao 2 rfl ?_
   refine zbT 2 ?_
   refine zbZ (res:=zco 3 x78.2) 0 zpl rfl rfl rfl (fun w B hF=>zfl r x78.2 b3 [.string x7.1,.int .i64 ((x13.1).getD 0 0),.int .i64 ((x17.1).getD 0 0),.int .i64 ((x21.1).getD 0 0),.int .i64 ((x25.1).getD 0 0),.slice ha acc.length hc,.int .i64 ((x55.1).getD 0 0),.int .i64 ((x59.1).getD 0 0),.int .i64 ((x63.1).getD 0 0),.int .i64 ((x68.1).getD 0 0),.int .i64 (((x68.1.drop 1)).getD 0 0),.int .i64 ((x73.1).getD 0 0),.int .i64 (((x73.1.drop 1)).getD 0 0),.int .u8 x78.1,.int .i64 0,.int .i64 0,.int .i64 0,.int .i64 0,.int .i64 0,.int .i64 0] 41 [14,15,16] [(b3,14),(b3,15),(b3,16)] _ _ w B (fun k hk=>(hF.own k hk).2) hF.A (zdX zbj (hF.other 0 rfl)) rfl (by intro o ho; simp at ho; simp; omega) (by simp [Small])) (fun k hk85=>?_) (fun x85 m85 hx85=>?_)
   ·
    exact za6 (by rw [zci,hx7,zak,hx13,zak,hx17,zak,hx21,zak,hx25,zak,hx27,zak,hh6,zak,hx55,zak,hx59,zak,hx63,zak,hx68,zak,hx73,zak,hx75,zak,hx78,zak,hk85]; first | done | rfl)
   refine zbP ?_
   refine za2 (R':=Box b3 [.string x7.1,.int .i64 ((x13.1).getD 0 0),.int .i64 ((x17.1).getD 0 0),.int .i64 ((x21.1).getD 0 0),.int .i64 ((x25.1).getD 0 0),.slice ha acc.length hc,.int .i64 ((x55.1).getD 0 0),.int .i64 ((x59.1).getD 0 0),.int .i64 ((x63.1).getD 0 0),.int .i64 ((x68.1).getD 0 0),.int .i64 (((x68.1.drop 1)).getD 0 0),.int .i64 ((x73.1).getD 0 0),.int .i64 (((x73.1.drop 1)).getD 0 0),.int .u8 x78.1,.int .i64 ((x85.1).getD 0 0),.int .i64 (((x85.1.drop 1)).getD 0 0),.int .i64 ((((x85.1.drop 1).drop 1)).getD 0 0),.int .i64 0,.int .i64 0,.int .i64 0] 41) 1 rfl (fun B w hA=>hA) ?_
   refine zaK 2 rfl ?_
   refine zag (zae (T':=[(2,_),(3,_),(4,_)]) ⟨rfl,rfl,rfl,trivial⟩ ?_)
   refine zac (zaa (gM ?_))
   refine gQ (zab zpu rfl) ?_
   refine gQ (zab zma rfl) ?_
   refine zaG rfl rfl (zaD rfl (zlT (b3,17) (b3,18)) zbj rfl) fun b89=>?_
   refine zao 2 rfl ?_
   refine zao 2 rfl ?_
   refine zbT 2 ?_
   refine zcB (res:=oneE (⟨#[102,114,105,99,116,105,111,110]⟩:ByteArray) 2 x85.2) (fs:=[]) (cap:=[_]) 0 zhY rfl rfl rfl rfl (fun w B hF=>ziv r x85.2 b3 [.string x7.1,.int .i64 ((x13.1).getD 0 0),.int .i64 ((x17.1).getD 0 0),.int .i64 ((x21.1).getD 0 0),.int .i64 ((x25.1).getD 0 0),.slice ha acc.length hc,.int .i64 ((x55.1).getD 0 0),.int .i64 ((x59.1).getD 0 0),.int .i64 ((x63.1).getD 0 0),.int .i64 ((x68.1).getD 0 0),.int .i64 (((x68.1.drop 1)).getD 0 0),.int .i64 ((x73.1).getD 0 0),.int .i64 (((x73.1.drop 1)).getD 0 0),.int .u8 x78.1,.int .i64 ((x85.1).getD 0 0),.int .i64 (((x85.1.drop 1)).getD 0 0),.int .i64 ((((x85.1.drop 1).drop 1)).getD 0 0),.int .i64 0,.int .i64 0,.int .i64 0] 41 [17,18] [(b3,17),(b3,18)] _ _ (⟨#[102,114,105,99,116,105,111,110]⟩:ByteArray) b1 w B (fun k hk=>(hF.own k hk).2) hF.A (zdX zbj (hF.other 0 rfl)) rfl (by intro o ho; simp at ho; simp; omega) (by simp [Small]) (hF.other 1 rfl)) (fun k hk90=>?_) (fun x90 m90 hx90=>?_)
   ·
    exact za6 (by rw [zci,hx7,zak,hx13,zak,hx17,zak,hx21,zak,hx25,zak,hx27,zak,hh6,zak,hx55,zak,hx59,zak,hx63,zak,hx68,zak,hx73,zak,hx75,zak,hx78,zak,hx85,zak,hk90]; first | done | rfl)
   refine zbP ?_
   refine za2 (R':=Box b3 [.string x7.1,.int .i64 ((x13.1).getD 0 0),.int .i64 ((x17.1).getD 0 0),.int .i64 ((x21.1).getD 0 0),.int .i64 ((x25.1).getD 0 0),.slice ha acc.length hc,.int .i64 ((x55.1).getD 0 0),.int .i64 ((x59.1).getD 0 0),.int .i64 ((x63.1).getD 0 0),.int .i64 ((x68.1).getD 0 0),.int .i64 (((x68.1.drop 1)).getD 0 0),.int .i64 ((x73.1).getD 0 0),.int .i64 (((x73.1.drop 1)).getD 0 0),.int .u8 x78.1,.int .i64 ((x85.1).getD 0 0),.int .i64 (((x85.1.drop 1)).getD 0 0),.int .i64 ((((x85.1.drop 1).drop 1)).getD 0 0),.int .i64 ((x90.1).getD 0 0),.int .i64 (((x90.1.drop 1)).getD 0 0),.int .i64 0] 41) 1 rfl (fun B w hA=>hA) ?_
   refine zaK 2 rfl ?_
   refine zag (zae (T':=[(2,_),(3,_),(4,_)]) ⟨rfl,rfl,rfl,trivial⟩ ?_)
   refine zac (zaa (gM ?_))
   refine gQ (zab zmb rfl) ?_
   refine zaG rfl rfl (zaD rfl (zed (b3,19)) zbj rfl) fun b93=>?_
   refine zao 2 rfl ?_
   refine zao 2 rfl ?_
   refine zbT 2 ?_
   refine zcB (res:=oneE (⟨#[114,111,111,100]⟩:ByteArray) 1 x90.2) (fs:=[]) (cap:=[_]) 0 zhY rfl rfl rfl rfl (fun w B hF=>ziv r x90.2 b3 [.string x7.1,.int .i64 ((x13.1).getD 0 0),.int .i64 ((x17.1).getD 0 0),.int .i64 ((x21.1).getD 0 0),.int .i64 ((x25.1).getD 0 0),.slice ha acc.length hc,.int .i64 ((x55.1).getD 0 0),.int .i64 ((x59.1).getD 0 0),.int .i64 ((x63.1).getD 0 0),.int .i64 ((x68.1).getD 0 0),.int .i64 (((x68.1.drop 1)).getD 0 0),.int .i64 ((x73.1).getD 0 0),.int .i64 (((x73.1.drop 1)).getD 0 0),.int .u8 x78.1,.int .i64 ((x85.1).getD 0 0),.int .i64 (((x85.1.drop 1)).getD 0 0),.int .i64 ((((x85.1.drop 1).drop 1)).getD 0 0),.int .i64 ((x90.1).getD 0 0),.int .i64 (((x90.1.drop 1)).getD 0 0),.int .i64 0] 41 [19] [(b3,19)] _ _ (⟨#[114,111,111,100]⟩:ByteArray) b1 w B (fun k hk=>(hF.own k hk).2) hF.A (zdX zbj (hF.other 0 rfl)) rfl (by intro o ho; simp at ho; simp; omega) (by simp [Small]) (hF.other 1 rfl)) (fun k hk94=>?_) (fun x94 m94 hx94=>?_)
   ·
    exact za6 (by rw [zci,hx7,zak,hx13,zak,hx17,zak,hx21,zak,hx25,zak,hx27,zak,hh6,zak,hx55,zak,hx59,zak,hx63,zak,hx68,zak,hx73,zak,hx75,zak,hx78,zak,hx85,zak,hx90,zak,hk94]; first | done | rfl)
   refine zbP ?_
   refine za2 (R':=Box b3 [.string x7.1,.int .i64 ((x13.1).getD 0 0),.int .i64 ((x17.1).getD 0 0),.int .i64 ((x21.1).getD 0 0),.int .i64 ((x25.1).getD 0 0),.slice ha acc.length hc,.int .i64 ((x55.1).getD 0 0),.int .i64 ((x59.1).getD 0 0),.int .i64 ((x63.1).getD 0 0),.int .i64 ((x68.1).getD 0 0),.int .i64 (((x68.1.drop 1)).getD 0 0),.int .i64 ((x73.1).getD 0 0),.int .i64 (((x73.1.drop 1)).getD 0 0),.int .u8 x78.1,.int .i64 ((x85.1).getD 0 0),.int .i64 (((x85.1.drop 1)).getD 0 0),.int .i64 ((((x85.1.drop 1).drop 1)).getD 0 0),.int .i64 ((x90.1).getD 0 0),.int .i64 (((x90.1.drop 1)).getD 0 0),.int .i64 ((x94.1).getD 0 0)] 41) 1 rfl (fun B w hA=>hA) ?_
   refine zaK 2 rfl ?_
   refine zag (zae (T':=[(2,_),(3,_)]) ⟨rfl,rfl,trivial⟩ ?_)
   refine zac (zac (zaa (gk_y rfl rfl (zab zia rfl) ?_)))
   refine gQ (zah 1 tf35 rfl rfl rfl) ?_
   refine gQ (zaV (Tryz.underlying35) rfl) ?_
   refine gQ (zbL rfl rfl) ?_
   refine zag (zae (T':=[(2,_),(3,_),(98,_)]) ⟨rfl,rfl,rfl,trivial⟩ ?_)
   refine zap rfl (fun hc98=>?_) (fun hc98=>?_)
   ·have h98:acc.length=0:=by have:=of_decide_eq_true hc98; omega
    refine zaa (zcg en91 rfl (fun w hw=>zdk _ w) ?_)
    exact za6 (by rw [zci,hx7,zak,hx13,zak,hx17,zak,hx21,zak,hx25,zak,hx27,zak,hh6,zak,hx55,zak,hx59,zak,hx63,zak,hx68,zak,hx73,zak,hx75,zak,hx78,zak,hx85,zak,hx90,zak,hx94,zak]; exact if_pos h98)
   ·have h98:¬ acc.length=0:=by have:=of_decide_eq_false hc98; omega
    refine zaq (zac (zaa (gk_y rfl rfl (zat 1 tf41 rfl rfl (vs:=[_,_,_,_,_,_,_,_,_,_,_,_,_,_,_,_,_,_,_,_]) rfl rfl) ?_)))
    refine zbz 4 tf41 rfl rfl (vs:=[_,_,_,_,_,_,_,_,_,_,_,_,_,_,_,_,_,_,_,_]) rfl rfl rfl rfl rfl ?_
    refine zag (zae (T':=[(2,_)]) ⟨rfl,trivial⟩ ?_)
    refine zao 3 rfl ?_
    refine zao 1 rfl ?_
    refine zbT 2 ?_
    refine zaw ?_
    exact zdm (⟨x7.1,x13.1.getD 0 0,x17.1.getD 0 0,x21.1.getD 0 0,x25.1.getD 0 0,acc,x55.1.getD 0 0,x59.1.getD 0 0,x63.1.getD 0 0,x68.1.getD 0 0,(x68.1.drop 1).getD 0 0,x73.1.getD 0 0,(x73.1.drop 1).getD 0 0,x78.1,x85.1.getD 0 0,(x85.1.drop 1).getD 0 0,((x85.1.drop 1).drop 1).getD 0 0,x90.1.getD 0 0,(x90.1.drop 1).getD 0 0,x94.1.getD 0 0⟩,x94.2) (ha,hc) 0 (zaC rfl (zbU (i:=3) (vs:=[.string x7.1,.int .i64 ((x13.1).getD 0 0),.int .i64 ((x17.1).getD 0 0),.int .i64 ((x21.1).getD 0 0),.int .i64 ((x25.1).getD 0 0),.slice ha acc.length hc,.int .i64 ((x55.1).getD 0 0),.int .i64 ((x59.1).getD 0 0),.int .i64 ((x63.1).getD 0 0),.int .i64 ((x68.1).getD 0 0),.int .i64 (((x68.1.drop 1)).getD 0 0),.int .i64 ((x73.1).getD 0 0),.int .i64 (((x73.1.drop 1)).getD 0 0),.int .u8 x78.1,.int .i64 ((x85.1).getD 0 0),.int .i64 (((x85.1.drop 1)).getD 0 0),.int .i64 ((((x85.1.drop 1).drop 1)).getD 0 0),.int .i64 ((x90.1).getD 0 0),.int .i64 (((x90.1.drop 1)).getD 0 0),.int .i64 ((x94.1).getD 0 0)]) tf41 rfl rfl rfl rfl)) rfl rfl (by rw [zci,hx7,zak,hx13,zak,hx17,zak,hx21,zak,hx25,zak,hx27,zak,hh6,zak,hx55,zak,hx59,zak,hx63,zak,hx68,zak,hx73,zak,hx75,zak,hx78,zak,hx85,zak,hx90,zak,hx94,zak]; exact if_neg h98)
end Go.Proofs.YtdcfcfhmkfkgmaaGreatDoor
namespace Go.Proofs.YtdcfcfhmkfkgmaaGreatDoor
open Go.K Go.Stn Go.Pln Go.RowKit
theorem tf31:TF Tryz.prog 31 true 2 (.agg #[.slice none 0 0,.slice none 0 0]):=⟨by kernel_rfl,by kernel_rfl⟩
theorem zg6:TF Tryz.prog 157 false 1 (.pointer none):=⟨by kernel_rfl,by kernel_rfl⟩
theorem af28:AF Tryz.prog 28 41 20 184 [.string ⟨#[]⟩,.int IntKind.i64 0,.int IntKind.i64 0,.int IntKind.i64 0,.int IntKind.i64 0,.slice none 0 0,.int IntKind.i64 0,.int IntKind.i64 0,.int IntKind.i64 0,.int IntKind.i64 0,.int IntKind.i64 0,.int IntKind.i64 0,.int IntKind.i64 0,.int IntKind.u8 0,.int IntKind.i64 0,.int IntKind.i64 0,.int IntKind.i64 0,.int IntKind.i64 0,.int IntKind.i64 0,.int IntKind.i64 0]:=⟨Tryz.underlying28,by kernel_rfl,rfl⟩
theorem en46:En Tryz.prog 46:=za7 Tryz.func46 (by kernel_rfl) (by kernel_rfl)
theorem zw3:En Tryz.prog 110:=za7 Tryz.func110 (by kernel_rfl) (by kernel_rfl)
theorem ztF:En Tryz.prog 111:=za7 Tryz.func111 (by kernel_rfl) (by kernel_rfl)
theorem zsC (x0:ShC) (w:World):(Instr.buildSlice 28 1 #[(0,.agg #[.string x0.s.name,.int .i64 x0.s.base,.int .i64 x0.s.batter,.int .i64 x0.s.height,.int .i64 x0.s.skin,.slice x0.a x0.s.heights.length x0.cap,.int .i64 x0.s.least,.int .i64 x0.s.lap,.int .i64 x0.s.run,.int .i64 x0.s.every,.int .i64 x0.s.at_,.int .i64 x0.s.footing,.int .i64 x0.s.spread,.int .u8 x0.s.cope,.int .i64 x0.s.tall,.int .i64 x0.s.short,.int .i64 x0.s.thick,.int .i64 x0.s.low,.int .i64 x0.s.high,.int .i64 x0.s.rood])]).run Tryz.prog w=.ok (.slice (some ⟨w.heap.size,0,none⟩) 1 1) (w.alloc (.cells (([x0]:List (ShC)).flatMap zbH).toArray 41)):=by kernel_rfl
abbrev yP:PTy:=⟨31,41,94,3,98⟩
abbrev PlP (p:Nat) (q:Plan):Res:=PlE yP p q
set_option maxRecDepth 100000 in
set_option maxHeartbeats 8000000 in
theorem ztS (r:Nat) (ws:List ByteArray) (p:Nat) (q:Plan) (bp:Nat) (w:World) (B:Nat→Prop) (hB:∀ k,B k→k < w.heap.size) (hA:(SepR [Rdr 161 r ws,PlP p q]).A B w) (hq:OkQ q) (hb:Rd (fun k=>k < w.heap.size∧¬ B k) w (Box bp [.pointer (some ⟨p,0,none⟩)] 157)) (hws:ws.length≤100000) (hcp:Rd (fun k=>k < w.heap.size∧¬ B k) w (zaW (some ⟨0,0,none⟩) 1 encS copesW)) :
  Calls Tryz.prog 109 #[.pointer (some ⟨r,0,none⟩),.pointer (some ⟨bp,0,none⟩)] w (zi5 33 (zb3 q ws) (fun _x (_:Unit)=>.tuple #[]) (fun x _=>PlP p x) (plAt yP p) B w):=by
 refine zby hB hA (vs:=[_,_]) Tryz.func109 rfl rfl (Nat.le_of_ble_eq_true rfl) ?_
 refine zbP ?_
 refine zac (zaa (gM ?_))
 refine zbZ (res:=zci ws) 0 zw3 rfl rfl rfl (fun w B hF=>zuH r ws w B (fun k hk=>(hF.own k hk).2) hF.A hws (hF.rd hcp)) (fun k hk7=>?_) (fun x7 m7 hx7=>?_)
 ·
  exact zbG 1 rfl zdy (by rw [zb3,hk7]; first | done | rfl)
 refine zbP ?_
 refine zaG rfl rfl (zaL tf41 (zs:=[_,_,_,_,_,_,_,_,_,_,_,_,_,_,_,_,_,_,_,_]) rfl) fun b3=>?_
 refine zbz 0 tf41 rfl rfl (vs:=[_,_,_,_,_,_,_,_,_,_,_,_,_,_,_,_,_,_,_,_]) rfl rfl rfl rfl rfl ?_
 refine zag (zae (T':=[(0,_),(1,_),(3,_)]) ⟨rfl,rfl,rfl,trivial⟩ ?_)
 refine zac (zaa (gM ?_))
 refine zbZ (res:=endE x7.2) 1 ztF rfl rfl rfl (fun w B hF=>ztK r x7.2 w B (fun k hk=>(hF.own k hk).2) hF.A) (fun k hk9=>?_) (fun x9 m9 hx9=>?_)
 ·
  exact zbG 3 rfl zdy (by rw [zb3,hx7,zak,hk9]; first | done | rfl)
 refine zag (zae (T':=[(1,_),(3,_)]) ⟨rfl,rfl,trivial⟩ ?_)
 refine zao 3 rfl ?_
 refine zgq fun sa sc S wa wc V hS hV=>?_
 have hlS:S.length=q.S.length:=by rw [←hS,List.length_map]
 have hlV:V.length=q.V.length:=by rw [←hV,List.length_map]
 have hq20:=hq.ls
 have hq50:=hq.lv
 refine zac (zf3 (ch [(9,Nat)]) 12 [0,1,3,0,8,31,63,127,127,0,767,2047] (fun _=>mixed) (by kernel_rfl) (zjK _ ⟨inferInstance,trivial⟩) ?_)
 refine zbD (fun ρ=>zbW zg6 rfl (fun _ hw=>zaQ (Rd.has hb hw) rfl)) (fun ρ ρ' h=>by rfl) ?_
 refine zbD (fun ρ=>zbx rfl) (fun ρ ρ' h=>by rfl) ?_
 refine zbD (fun ρ=>zat 0 tf31 rfl rfl (vs:=[_,_]) rfl rfl) (fun ρ ρ' h=>by rfl) ?_
 refine zbD (fun ρ=>zab znb rfl) (fun ρ ρ' h=>by rfl) ?_
 refine zbD (fun ρ=>zah 5 tf9 rfl rfl rfl) (fun ρ ρ' h=>by rfl) ?_
 refine zbD (fun ρ=>zaJ en46 rfl (fun w hw=>zeu _ _ S _ _ _ x7.1.name w (zam zbI (hw.has (p:=1) rfl)) (by unfold Small; omega))) (fun ρ ρ' h=>by rfl) ?_
 refine zbD (fun ρ=>zaf rfl) (fun ρ ρ' h=>by rfl) ?_
 refine zbD (fun ρ=>zaB rfl rfl) (fun ρ ρ' h=>by rfl) ?_
 refine zbD (fun ρ=>zaB rfl rfl) (fun ρ ρ' h=>by rfl) ?_
 refine zgB (fun ρ=>zaL tf41 (zs:=[_,_,_,_,_,_,_,_,_,_,_,_,_,_,_,_,_,_,_,_]) rfl) (fun ρ ρ' h=>⟨by rfl,by rfl⟩) ?_
 refine zlr (R:=fun ρ=>Box (ρ 9) [.string ⟨#[]⟩,.int .i64 0,.int .i64 0,.int .i64 0,.int .i64 0,.slice none 0 0,.int .i64 0,.int .i64 0,.int .i64 0,.int .i64 0,.int .i64 0,.int .i64 0,.int .i64 0,.int .u8 0,.int .i64 0,.int .i64 0,.int .i64 0,.int .i64 0,.int .i64 0,.int .i64 0] 41) (A:=fun ρ=>Box (ρ 9) [.string (zav S x7.1.name).s.name,.int .i64 ((zav S x7.1.name).s.base),.int .i64 ((zav S x7.1.name).s.batter),.int .i64 ((zav S x7.1.name).s.height),.int .i64 ((zav S x7.1.name).s.skin),.slice (zav S x7.1.name).a (zav S x7.1.name).s.heights.length (zav S x7.1.name).cap,.int .i64 ((zav S x7.1.name).s.least),.int .i64 ((zav S x7.1.name).s.lap),.int .i64 ((zav S x7.1.name).s.run),.int .i64 ((zav S x7.1.name).s.every),.int .i64 ((zav S x7.1.name).s.at_),.int .i64 ((zav S x7.1.name).s.footing),.int .i64 ((zav S x7.1.name).s.spread),.int .u8 (zav S x7.1.name).s.cope,.int .i64 ((zav S x7.1.name).s.tall),.int .i64 ((zav S x7.1.name).s.short),.int .i64 ((zav S x7.1.name).s.thick),.int .i64 ((zav S x7.1.name).s.low),.int .i64 ((zav S x7.1.name).s.high),.int .i64 ((zav S x7.1.name).s.rood)] 41) 9 rfl rfl (fun _=>rfl) (fun ρ=>zex tf41 rfl rfl (vs:=[_,_,_,_,_,_,_,_,_,_,_,_,_,_,_,_,_,_,_,_]) rfl rfl rfl rfl rfl) (fun ρ ρ' h=>by(first | rfl | simp only [h 9 rfl])) ?_
 refine zbD (fun ρ=>zad rfl) (fun ρ ρ' h=>by rfl) ?_
 refine fun ρ=>zag (zf4 (X:=Nat) (ρ 9) (fun b4=>[(1,.pointer (some ⟨bp,0,none⟩)),(3,.pointer (some ⟨b3,0,none⟩)),(5,.bool (decide (0≤zaS S x7.1.name)))]) (fun b4=>[Box b4 [.string (zav S x7.1.name).s.name,.int .i64 ((zav S x7.1.name).s.base),.int .i64 ((zav S x7.1.name).s.batter),.int .i64 ((zav S x7.1.name).s.height),.int .i64 ((zav S x7.1.name).s.skin),.slice (zav S x7.1.name).a (zav S x7.1.name).s.heights.length (zav S x7.1.name).cap,.int .i64 ((zav S x7.1.name).s.least),.int .i64 ((zav S x7.1.name).s.lap),.int .i64 ((zav S x7.1.name).s.run),.int .i64 ((zav S x7.1.name).s.every),.int .i64 ((zav S x7.1.name).s.at_),.int .i64 ((zav S x7.1.name).s.footing),.int .i64 ((zav S x7.1.name).s.spread),.int .u8 (zav S x7.1.name).s.cope,.int .i64 ((zav S x7.1.name).s.tall),.int .i64 ((zav S x7.1.name).s.short),.int .i64 ((zav S x7.1.name).s.thick),.int .i64 ((zav S x7.1.name).s.low),.int .i64 ((zav S x7.1.name).s.high),.int .i64 ((zav S x7.1.name).s.rood)] 41,Box p [.slice sa S.length sc,.slice wa V.length wc] 31,Row sa 20 sc 41 zbH S,Go.K.Rows (rowH 3) S,Row wa 4 wc 94 zbS V,Go.K.Rows (rowO 98) V,Box b3 [.string x7.1.name,.int .i64 x7.1.base,.int .i64 x7.1.batter,.int .i64 x7.1.height,.int .i64 x7.1.skin,.slice m7.1 x7.1.heights.length m7.2,.int .i64 x7.1.least,.int .i64 x7.1.lap,.int .i64 x7.1.run,.int .i64 x7.1.every,.int .i64 x7.1.at_,.int .i64 x7.1.footing,.int .i64 x7.1.spread,.int .u8 x7.1.cope,.int .i64 x7.1.tall,.int .i64 x7.1.short,.int .i64 x7.1.thick,.int .i64 x7.1.low,.int .i64 x7.1.high,.int .i64 x7.1.rood] 41,Rdr 161 r x9.2,Row m7.1 1 m7.2 3 Go.Stn.encI x7.1.heights]) ⟨rfl,rfl,rfl,trivial⟩ rfl ?_)
 rintro b4
 refine zac (zas ?_)
 refine zac (zaa (gM ?_))
 refine gA ?_
 refine zag (zae (T':=[(1,_),(3,_),(19,_)]) ⟨rfl,rfl,rfl,trivial⟩ ?_)
 refine zap rfl (fun hc19=>?_) (fun hc19=>?_)
 ·have h19:0≤zew q.S x7.1.name:=by have:=of_decide_eq_true hc19; rwa [zeL,hS] at this
  refine zaa (zcg en91 rfl (fun w hw=>zdk _ w) ?_)
  exact zbG 1 rfl (zeb (y:=yP)) (by rw [zb3,hx7,zak,hx9,zak]; exact if_pos h19)
 ·have h19:¬ 0≤zew q.S x7.1.name:=by have:=of_decide_eq_false hc19; rwa [zeL,hS] at this
  refine zac (zaa (gk_y rfl rfl (zat 6 tf41 rfl rfl (vs:=[_,_,_,_,_,_,_,_,_,_,_,_,_,_,_,_,_,_,_,_]) rfl rfl) ?_))
  refine gQ (zaJ en20 rfl (fun w hw=>zd4 _ _ x7.1 w (zam Go.Stn.encI_ok (hw.has (p:=8) rfl)) (by have:=zkq hx7; unfold Small; omega))) ?_
  refine gQ (zcr rfl rfl) ?_
  refine gA ?_
  refine zag (zae (T':=[(1,_),(3,_),(22,_)]) ⟨rfl,rfl,rfl,trivial⟩ ?_)
  refine zap rfl (fun hc22=>?_) (fun hc22=>?_)
  ·have h22:¬ za4 x7.1=true:=fun h=>by simp [zda.2 h] at hc22
   refine zaa (zcg en91 rfl (fun w hw=>zdk _ w) ?_)
   exact zbG 1 rfl (zeb (y:=yP)) (by rw [zb3,hx7,zak,hx9,zak]; exact(if_neg h19).trans (if_neg h22))
  ·have h22:za4 x7.1=true:=zda.1 (by simpa using hc22)
   refine zac (zaa (gk_y rfl rfl (zbW zg6 rfl (fun _ hw=>zaQ (Rd.has hb hw) rfl)) ?_))
   refine gQ (zbx rfl) ?_
   refine gQ (zab zeo rfl) ?_
   refine gQ (zah 1 tf28 rfl rfl rfl) ?_
   refine gQ (zaV (Tryz.underlying28) rfl) ?_
   refine gQ (zbL rfl rfl) ?_
   refine gA ?_
   refine zag (zae (T':=[(1,_),(3,_),(27,_)]) ⟨rfl,rfl,rfl,trivial⟩ ?_)
   refine zap rfl (fun hc27=>?_) (fun hc27=>?_)
   ·have h27:q.S.length=20:=by have:=of_decide_eq_true hc27; omega
    refine zaa (zcg en91 rfl (fun w hw=>zdk _ w) ?_)
    exact zbG 1 rfl (zeb (y:=yP)) (by rw [zb3,hx7,zak,hx9,zak]; exact(if_neg h19).trans ((if_pos h22).trans (if_pos h27)))
   ·have h27:¬ q.S.length=20:=by have:=of_decide_eq_false hc27; omega
    refine zaq (zjX (V:=fun z=>.slice z.1 ((S++[(⟨x7.1,m7.1,m7.2⟩:ShC)])).length z.2) (R':=fun z:Option Addr×Nat=>Row z.1 20 z.2 41 zbH (S++[(⟨x7.1,m7.1,m7.2⟩:ShC)])) (Bad:=fun _=>False) 7 [0] 2 42 (fun _=>mixed) rfl rfl (by kernel_rfl) rfl (fun _ hb=>hb.elim) rfl ?_)
    refine zcf (zbW zg6 rfl (fun _ hw=>zaQ (Rd.has hb hw) rfl)) ?_
    refine zcf (zbW zg6 rfl (fun _ hw=>zaQ (Rd.has hb hw) rfl)) ?_
    refine zcf (zbx rfl) ?_
    refine zcf (zab zeo rfl) ?_
    refine zcf (zah 1 tf28 rfl rfl rfl) ?_
    refine zcf (zat 6 tf41 rfl rfl (vs:=[_,_,_,_,_,_,_,_,_,_,_,_,_,_,_,_,_,_,_,_]) rfl rfl) ?_
    refine zqp (zaD rfl (zsC (⟨x7.1,m7.1,m7.2⟩:ShC)) zbI rfl) ?_
    refine⟨fun b41=>zhN (m:=[(⟨x7.1,m7.1,m7.2⟩:ShC)]) af28 zbI rfl rfl (fun _ hw=>(zam zbI (hw.has (p:=0) rfl))) (by first | omega | (simp only [List.length_cons,List.length_nil]; omega)) (by first | (unfold maxLen; omega) | (simp only [List.length_cons,List.length_nil,maxLen]; omega)),?_⟩
    intro z42
    intro b41
    refine zae (T':=[(35,_),(42,_)]) ⟨rfl,rfl,trivial⟩ ?_
    refine gQ (zbx rfl) ?_
    refine gQ (zab zeo rfl) ?_
    refine zaA 2 tf28 rfl rfl (vs:=[_]) rfl rfl rfl rfl rfl ?_
    refine zag (zae (T':=[]) trivial ?_)
    refine zao 9 rfl ?_
    refine zao 5 rfl ?_
    refine zbT 2 ?_
    refine za2 (R':=Go.K.Rows (rowH 3) (S++[(⟨x7.1,m7.1,m7.2⟩:ShC)])) 0 rfl (fun B w hA=>zfr (f:=rowH 3) hA) ?_
    refine zao 6 rfl ?_
    refine zao 6 rfl ?_
    refine zao 2 rfl ?_
    refine zao 6 rfl ?_
    refine zao 6 rfl ?_
    refine zgU (y:=yP) (q:=⟨q.S++[x7.1],q.V⟩) (by rw [List.map_append,hS]; rfl) (hV) ?_
    exact zik ⟨q.S++[x7.1],q.V⟩ () 0 (zcN rfl) rfl rfl (by rw [zb3,hx7,zak,hx9,zak]; exact(if_neg h19).trans ((if_pos h22).trans (if_neg h27)))
end Go.Proofs.YtdcfcfhmkfkgmaaGreatDoor