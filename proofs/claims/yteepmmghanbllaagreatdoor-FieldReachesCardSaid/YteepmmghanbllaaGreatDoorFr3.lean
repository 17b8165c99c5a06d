/- What the proof of the root text leans on, part 3: the layer, plain facts and walks. No statement of the seat is proved in this text. -/
import Derived.Test.YteepmmghanbllaaGreatDoorFr2
set_option maxRecDepth 100000
set_option maxHeartbeats 32000000
namespace Go.Proofs.YteepmmghanbllaaGreatDoor
open Go.K Go.Stn Go.Pln Go.RowKit
theorem tf9:TF Tryz.prog 9 false 1 (.string ⟨#[]⟩):=tK
theorem tf45:TF Tryz.prog 45 false 1 (.slice none 0 0):=tK
theorem zyq:TF Tryz.prog 118 true 20 (.agg #[.string ⟨#[]⟩,.int .i64 0,.int .i64 0,.int .i64 0,.int .i64 0,.slice none 0 0,.int .i64 0,.int .i64 0,.int .i64 0,.int .i64 0,.int .i64 0,.int .i64 0,.int .i64 0,.int .u8 0,.int .i64 0,.int .i64 0,.int .i64 0,.int .i64 0,.int .i64 0,.int .i64 0]):=tK
theorem zzu:TF Tryz.prog 135 true 20 (.agg #[.string ⟨#[]⟩,.int .i64 0,.int .i64 0,.int .i64 0,.int .i64 0,.slice none 0 0,.int .i64 0,.int .i64 0,.int .i64 0,.int .i64 0,.int .i64 0,.int .i64 0,.int .i64 0,.int .u8 0,.int .i64 0,.int .i64 0,.int .i64 0,.int .i64 0,.int .i64 0,.int .i64 0]):=tK
theorem zBp:FO Tryz.prog 118 0 0:=fK
theorem zyM:FO Tryz.prog 118 3 3:=fK
theorem zDM:FO Tryz.prog 118 4 4:=fK
theorem zzi:FO Tryz.prog 118 5 5:=fK
theorem zCi:FO Tryz.prog 118 6 6:=fK
theorem zDN:FO Tryz.prog 118 7 7:=fK
theorem zDO:FO Tryz.prog 118 8 8:=fK
theorem zBr:FO Tryz.prog 118 9 9:=fK
theorem zAu:FO Tryz.prog 118 10 10:=fK
theorem zCH:FO Tryz.prog 118 11 11:=fK
theorem zCI:FO Tryz.prog 118 12 12:=fK
theorem zCK:FO Tryz.prog 118 17 17:=fK
theorem zBq:FO Tryz.prog 118 18 18:=fK
theorem zCL:FO Tryz.prog 118 19 19:=fK
theorem zAK:FO Tryz.prog 135 0 0:=fK
theorem zyH:FO Tryz.prog 135 3 3:=fK
theorem zDP:FO Tryz.prog 135 4 4:=fK
theorem zzj:FO Tryz.prog 135 5 5:=fK
theorem zCn:FO Tryz.prog 135 6 6:=fK
theorem zDQ:FO Tryz.prog 135 7 7:=fK
theorem zDR:FO Tryz.prog 135 8 8:=fK
theorem zCo:FO Tryz.prog 135 9 9:=fK
theorem zBt:FO Tryz.prog 135 10 10:=fK
theorem zCM:FO Tryz.prog 135 11 11:=fK
theorem zCN:FO Tryz.prog 135 12 12:=fK
theorem zzz:FO Tryz.prog 135 13 13:=fK
theorem zzZ:FO Tryz.prog 135 14 14:=fK
theorem zAv:FO Tryz.prog 135 15 15:=fK
theorem zBu:FO Tryz.prog 135 16 16:=fK
theorem zCO:FO Tryz.prog 135 17 17:=fK
theorem zBv:FO Tryz.prog 135 18 18:=fK
theorem zCP:FO Tryz.prog 135 19 19:=fK
theorem zGa:FO Tryz.prog 261 1 1:=fK
theorem zGb:FO Tryz.prog 264 1 1:=fK
theorem zHZ:SE Tryz.prog 237 261 2:=⟨Tryz.underlying237,by kernel_rfl⟩
theorem zH0:SE Tryz.prog 245 264 2:=⟨Tryz.underlying245,by kernel_rfl⟩
theorem zGU:AF Tryz.prog 237 261 2 16 [.int .i64 0,.int .i64 0]:=⟨Tryz.underlying237,by kernel_rfl,rfl⟩
theorem zGV:AF Tryz.prog 245 264 2 16 [.int .i64 0,.int .i64 0]:=⟨Tryz.underlying245,by kernel_rfl,rfl⟩
theorem en71:En Tryz.prog 71:=eK Tryz.func71
theorem en85:En Tryz.prog 85:=eK Tryz.func85
theorem en88:En Tryz.prog 88:=eK Tryz.func88
theorem zvR:En Tryz.prog 104:=eK Tryz.func104
theorem zhY:En Tryz.prog 131:=eK Tryz.func131
theorem ztI:En Tryz.prog 132:=eK Tryz.func132
theorem zxb:En Tryz.prog 133:=eK Tryz.func133
theorem zxc:En Tryz.prog 134:=eK Tryz.func134
theorem zxd:En Tryz.prog 135:=eK Tryz.func135
theorem zyV:En Tryz.prog 142:=eK Tryz.func142
theorem zHE:En Tryz.prog 143:=eK Tryz.func143
theorem zAC (x0 x1:Int) (w:World):(Instr.build 261 #[(0,.int .i64 x0),(1,.int .i64 x1)]).run Tryz.prog w=.ok (.agg #[.int .i64 x0,.int .i64 x1]) w:=by kernel_rfl
theorem zAD (x0 x1:Int) (w:World):(Instr.build 264 #[(0,.int .i64 x0),(1,.int .i64 x1)]).run Tryz.prog w=.ok (.agg #[.int .i64 x0,.int .i64 x1]) w:=by kernel_rfl
theorem zDA (x0_0 x0_1:Int) (w:World):(Instr.buildSlice 237 1 #[(0,.agg #[.int .i64 x0_0,.int .i64 x0_1])]).run Tryz.prog w=.ok (.slice (some ⟨w.heap.size,0,none⟩) 1 1) (w.alloc (.cells (([⟨x0_0,x0_1⟩]:List (Crs)).flatMap zbq).toArray 261)):=by kernel_rfl
theorem zDB (x0_0 x0_1:Int) (w:World):(Instr.buildSlice 245 1 #[(0,.agg #[.int .i64 x0_0,.int .i64 x0_1])]).run Tryz.prog w=.ok (.slice (some ⟨w.heap.size,0,none⟩) 1 1) (w.alloc (.cells (([⟨x0_0,x0_1⟩]:List (Crs)).flatMap zbq).toArray 264)):=by kernel_rfl
theorem zB7 (x0_0 x0_1 x0_2 x1_0 x1_1 x1_2:Int) (w:World):(Instr.buildSlice 257 2 #[(0,.agg #[.int .i64 x0_0,.int .i64 x0_1,.int .i64 x0_2]),(1,.agg #[.int .i64 x1_0,.int .i64 x1_1,.int .i64 x1_2])]).run Tryz.prog w=.ok (.slice (some ⟨w.heap.size,0,none⟩) 2 2) (w.alloc (.cells (([⟨x0_0,x0_1,x0_2⟩,⟨x1_0,x1_1,x1_2⟩]:List (Lim)).flatMap zgk).toArray 236)):=by kernel_rfl
theorem zEE (x0_0 x0_1 x0_2 x1_0 x1_1 x1_2 x2_0 x2_1 x2_2 x3_0 x3_1 x3_2 x4_0 x4_1 x4_2 x5_0 x5_1 x5_2 x6_0 x6_1 x6_2 x7_0 x7_1 x7_2 x8_0 x8_1 x8_2 x9_0 x9_1 x9_2 x10_0 x10_1 x10_2 x11_0 x11_1 x11_2 x12_0 x12_1 x12_2:Int) (w:World):(Instr.buildSlice 257 13 #[(0,.agg #[.int .i64 x0_0,.int .i64 x0_1,.int .i64 x0_2]),(1,.agg #[.int .i64 x1_0,.int .i64 x1_1,.int .i64 x1_2]),(2,.agg #[.int .i64 x2_0,.int .i64 x2_1,.int .i64 x2_2]),(3,.agg #[.int .i64 x3_0,.int .i64 x3_1,.int .i64 x3_2]),(4,.agg #[.int .i64 x4_0,.int .i64 x4_1,.int .i64 x4_2]),(5,.agg #[.int .i64 x5_0,.int .i64 x5_1,.int .i64 x5_2]),(6,.agg #[.int .i64 x6_0,.int .i64 x6_1,.int .i64 x6_2]),(7,.agg #[.int .i64 x7_0,.int .i64 x7_1,.int .i64 x7_2]),(8,.agg #[.int .i64 x8_0,.int .i64 x8_1,.int .i64 x8_2]),(9,.agg #[.int .i64 x9_0,.int .i64 x9_1,.int .i64 x9_2]),(10,.agg #[.int .i64 x10_0,.int .i64 x10_1,.int .i64 x10_2]),(11,.agg #[.int .i64 x11_0,.int .i64 x11_1,.int .i64 x11_2]),(12,.agg #[.int .i64 x12_0,.int .i64 x12_1,.int .i64 x12_2])]).run Tryz.prog w=.ok (.slice (some ⟨w.heap.size,0,none⟩) 13 13) (w.alloc (.cells (([⟨x0_0,x0_1,x0_2⟩,⟨x1_0,x1_1,x1_2⟩,⟨x2_0,x2_1,x2_2⟩,⟨x3_0,x3_1,x3_2⟩,⟨x4_0,x4_1,x4_2⟩,⟨x5_0,x5_1,x5_2⟩,⟨x6_0,x6_1,x6_2⟩,⟨x7_0,x7_1,x7_2⟩,⟨x8_0,x8_1,x8_2⟩,⟨x9_0,x9_1,x9_2⟩,⟨x10_0,x10_1,x10_2⟩,⟨x11_0,x11_1,x11_2⟩,⟨x12_0,x12_1,x12_2⟩]:List (Lim)).flatMap zgk).toArray 236)):=by kernel_rfl
theorem ze3 (a:Option Addr) (cap:Nat) (s:Sht) (w:World) (hl:Has w (Ints a s.heights)) (hn:Nums s) :
  Calls Tryz.prog 135 #[.agg #[.string s.name,.int .i64 s.base,.int .i64 s.batter,.int .i64 s.height,.int .i64 s.skin,.slice a s.heights.length cap,.int .i64 s.least,.int .i64 s.lap,.int .i64 s.run,.int .i64 s.every,.int .i64 s.at_,.int .i64 s.footing,.int .i64 s.spread,.int .u8 s.cope,.int .i64 s.tall,.int .i64 s.short,.int .i64 s.thick,.int .i64 s.low,.int .i64 s.high,.int .i64 s.rood]] w (zcU (fun z:Option Addr×Nat=>.slice z.1 (zaj s).length z.2) (fun z=>Row z.1 2 z.2 261 zbq (zaj s)) w):=by
 refine zan (vs:=[_]) Tryz.func135 rfl rfl (bL rfl) (gS (zaG rfl rfl (za3 (vs:=[_,_,_,_,_,_,_,_,_,_,_,_,_,_,_,_,_,_,_,_]) rfl rfl) fun b1=>(gA rfl (gN [1,2] rfl (gS (gA rfl (gN [1,2,3] rfl (gS (gA rfl (gN [1,2,3,4] rfl (zac (gS (gA rfl (gN [1,2,3,4,5] rfl (zas (zbB 261 zbq 2 (zbf (X:=Nat×Int×Option Addr×Nat×List Crs) (fun⟨n,z,b,bc,L⟩=>[(1,.pointer (some ⟨b1,0,none⟩)),(2,.slice none 0 0),(3,.slice b L.length bc),(4,.int .i64 z),(5,.int .i64 (n:Int))]) (fun⟨n,z,b,bc,L⟩=>[Row b 2 bc 261 zbq L,Box b1 (sV s a cap) 118]) (fun⟨n,z,b,bc,L⟩=>(L=crsN s n∧z=zAt s n∧∀ j,j < n→zc5 s j=true)) (fun⟨n,z,b,bc,L⟩=>3001 - n) (0,0,none,0,[]) (sB rfl) rfl ?_ ?_)))))))))))))))))
 ·exact⟨rfl,rfl,fun j hj=>by omega⟩
 ·rintro ⟨n,z,b,bc,L⟩ hI
  obtain⟨gL,gz,gu⟩:=hI
  have hnl:=hn.len
  have hnh:=hn.height
  have he:=zeg hn n
  have hz0:=zjC hn n
  have hz1:=zn7 (by omega) gu
  have hn3:=zjb hn gu
  have hll:L.length=n:=by rw [gL,zeC]
  refine zac (zas (gS (gQ (zab zzi rfl) (gQ (zah 1 tf45 rfl rfl rfl) (gM rfl (gQ (zab zzi rfl) (gQ (zah 1 tf45 rfl rfl rfl) (gQ (zaV (Tryz.underlying45) rfl) (gQ (zfV rfl rfl) (gQ (zsy rfl rfl) (gQ (zaE se45 rfl rfl (fun _=>rH hl)) (gQ (zcE tf3 rfl (fun _=>rH hl) (by omega) (by omega) rfl) (gA rfl (gN [1,2,3,4,5,6] rfl (zae (T':=[(1,_),(2,_),(3,_),(4,_),(5,_),(6,.int .i64 (zce s n))]) ⟨rfl,rfl,rfl,rfl,rfl,(by rw [←zxq hnl.1 n]; rfl),trivial⟩ (zac (gS (gM rfl (gM rfl (gQ (zaY rfl rfl) (gQ (zab zyM rfl) (gQ (zah 1 tf3 rfl rfl rfl) (gQ (zc6 rfl rfl) (gN [1,2,3,4,5,6,25] rfl (zap rfl (fun hc25=>?_) (fun hc25=>?_))))))))))))))))))))))))))
  ·have hc25:=oT hc25
   have hcn:=zsG hn gu (by rw [←gz]; omega)
   refine za8 rfl (zac (gS (gQ (zab zyM rfl) (gQ (zah 1 tf3 rfl rfl rfl) (gM rfl (gQ (zfV rfl rfl) (gA rfl (gN [1,2,3,4,7] rfl (zas (gS (gM rfl (gQ (zbL rfl rfl) (gA rfl (gN [1,2,3,4,7,49] rfl (zap rfl (fun hc49=>?_) (fun hc49=>?_))))))))))))))))
   ·have h0:s.height - zAt s n=0:=by rw [←gz]; exact oT hc49
    have hcs:zaj s=L:=(ze6 hcn h0).trans gL.symm
    refine zaq (gS (gM rfl (gA rfl (gN [2] rfl (zaw (zbd (b,bc) 0 (zaC rfl (zau rfl)) ?_ (by rw [hcs]; rfl)))))))
    first | (rw [hcs]; done) | (rw [hcs,List.length_set])
   ·have h0:¬ s.height - zAt s n=0:=by rw [←gz]; exact oD hc49
    refine zac (gZ 10 (ph_y (zaf rfl) (ph_y (zab zCi rfl) (ph_y (zah 1 tf3 rfl rfl rfl) (ph_y (zfx rfl rfl) (ph_y (zaf rfl) (zaz rfl rfl (fun jj=>by(try rw [jj]); exact zaf rfl) (zaz rfl rfl (fun jj=>by(try rw [jj]); exact zaV (Tryz.underlying237) rfl) (zaz rfl rfl (fun jj=>by(try rw [jj]); exact zbL rfl rfl) (ph_y (zaR rfl rfl rfl) (ph_y (zad rfl) (gN [1,2,3,4,52] rfl (zap rfl (fun hc52=>?_) (fun hc52=>?_))))))))))))))
    ·have hcs:zaj s=L++[⟨z,s.height⟩]:=by rw [ze5 hcn h0 (by simp only [Bool.or_eq_true,dT] at hc52; rw [←gz]; omega),gL,gz]
     refine zaa (gM rfl (gM rfl (gQ (zab zyM rfl) (gQ (zah 1 tf3 rfl rfl rfl) (gQ (zaI rfl (zAC _ _)) (zaG rfl rfl (zaD rfl (zDA _ _) zax rfl) fun b67=>(zb4 (m:=[(⟨z,s.height⟩:Crs)]) 1 zGU zax rfl rfl rfl rfl (fun _ hw=>(zam zax (hw.has (p:=0) rfl))) (by first | omega | (simp only [lC,lN]; omega)) (by first | (unfold maxLen; omega) | (simp only [lC,lN,maxLen]; omega)) fun a68 c68=>(gA rfl (gN [2,3] rfl (gS (gM rfl (gA rfl (gN [2] rfl (zaw (zbd (a68,c68) 1 (zaC rfl (zau rfl)) ?_ (by rw [hcs]; rfl))))))))))))))))
     first | (rw [hcs]; done) | (rw [hcs,List.length_set])
    ·simp only [oF,dF] at hc52
     have hcs:zaj s=L.set ((L.length:Int) - 1).toNat ({ L.getD ((L.length:Int) - 1).toNat default with to:=s.height }):=by rw [ze4 hcn h0 (by rw [←gz]; omega),zlf gL (by omega),gL]
     refine zaa (gM rfl (gM rfl (gQ (zaV (Tryz.underlying237) rfl) (gQ (zfV rfl rfl) (gQ (zab zyM rfl) (gQ (zah 1 tf3 rfl rfl rfl) (gQ (zaE zHZ rfl rfl (fun _ hw=>(zam zax (hw.has (p:=0) rfl)))) (gQ (zbh zGa rfl (fun w hw=>zaO (i:=((L.length:Int) - 1)) (zam zax (hw.has (p:=0) rfl)))) (zfG (x':=({ (L.getD (((L.length:Int) - 1)).toNat default) with to:=s.height }:Crs)) 0 zax tf3 rfl rfl (vs:=[_]) rfl rfl (by decide) rfl rfl (by omega) (by omega) (gN [2,3] rfl (gS (gM rfl (gA rfl (gN [2] rfl (zaw (zbd (b,bc) 0 (zaC rfl (zau rfl)) ?_ (by rw [hcs]; rfl)))))))))))))))))
     first | (rw [hcs]; done) | (rw [hcs,List.length_set])
  ·have hc25:=oD hc25
   refine zaq (gS (gM rfl (gM rfl (gM rfl (gM rfl (gQ (zaY rfl rfl) (gQ (zaI rfl (zAC _ _)) (zaG rfl rfl (zaD rfl (zDA _ _) zax rfl) fun b32=>(zb4 (m:=[(⟨z,(z+(zce s n))⟩:Crs)]) 1 zGU zax rfl rfl rfl rfl (fun _ hw=>(zam zax (hw.has (p:=0) rfl))) (by first | omega | (simp only [lC,lN]; omega)) (by first | (unfold maxLen; omega) | (simp only [lC,lN,maxLen]; omega)) fun a33 c33=>(gA rfl (gN [1,2,3,4,5,6] rfl (zaa (gM rfl (gM rfl (gQ (zaY rfl rfl) (gA rfl (gN [1,2,3,4,5] rfl (zaa (gM rfl (gQ (zaY rfl rfl) (gA rfl (gN [1,2,3,4,5] rfl (zaK 0 rfl ?_)))))))))))))))))))))))
   exact za1 (n+1,_,_,_,_) (sB rfl) rfl ⟨by rw [gL,ze7,gz]; rfl,by rw [gz]; rfl,zg7 gu (ziR (by rw [←gz]; omega))⟩ (by simp only []; omega)
theorem zd4 (a:Option Addr) (cap:Nat) (s:Sht) (w:World) (hl:Has w (Ints a s.heights)) (hs:zaP s.heights.length) :
  Calls Tryz.prog 104 #[.agg #[.string s.name,.int .i64 s.base,.int .i64 s.batter,.int .i64 s.height,.int .i64 s.skin,.slice a s.heights.length cap,.int .i64 s.least,.int .i64 s.lap,.int .i64 s.run,.int .i64 s.every,.int .i64 s.at_,.int .i64 s.footing,.int .i64 s.spread,.int .u8 s.cope,.int .i64 s.tall,.int .i64 s.short,.int .i64 s.thick,.int .i64 s.low,.int .i64 s.high,.int .i64 s.rood]] w (Pure (.int .i64 (zcX s)) w):=by
 refine zan (vs:=[_]) Tryz.func104 rfl rfl (bL rfl) (gS (zaG rfl rfl (za3 (vs:=[_,_,_,_,_,_,_,_,_,_,_,_,_,_,_,_,_,_,_,_]) rfl rfl) fun b1=>(gA rfl (gN [1,2] rfl (zih (X:=Unit) (fun _=>[(1,.pointer (some ⟨b1,0,none⟩)),(2,.int .i64 0),(3,.bool (zdJ s))]) (fun _=>[Box b1 (sV s a cap) 118]) (fun _=>True) ?_ ?_)))))
 ·
  refine zaa (gQ (zab zBr rfl) (gQ (zah 0 tf3 rfl rfl rfl) (gQ (zbL rfl rfl) (gM rfl (zai rfl rfl rfl rfl (fun hg9=>?_) (fun hg9=>?_))))))
  ·replace hg9:_=true:=hg9
   try rw [hg9]
   refine gQ (zab zAu rfl) (gT rfl rfl rfl (gQ (zah 0 tf3 rfl rfl rfl) (gT rfl rfl rfl (gQ (zbL rfl rfl) (gQ (za5 rfl rfl rfl) (gM rfl (zai rfl rfl rfl rfl (fun hg14=>?_) (fun hg14=>?_))))))))
   ·replace hg14:_=false:=hg14
    try rw [hg14]
    refine gQ (zab zBr rfl) (gT rfl rfl rfl (gQ (zah 0 tf3 rfl rfl rfl) (gT rfl rfl rfl (gQ (zaI rfl (zyk _ _ _)) (gT rfl rfl rfl (gQ (zab zAu rfl) (gT rfl rfl rfl (gQ (zah 0 tf3 rfl rfl rfl) (gT rfl rfl rfl (gQ (zaI rfl (zyk _ _ _)) (gT rfl rfl rfl (zaG rfl rfl (zaD rfl (zB7 _ _ _ _ _ _) zbM rfl) fun b21=>(gT rfl rfl rfl (gQ (zaJ zAY rfl (fun w hw=>zfT _ _ ([(⟨s.every,1,100000⟩:Lim),(⟨s.at_,0,3000⟩:Lim)]) w (zam zbM (hw.has (p:=0) rfl)) (by simp [zaP]))) (gQ (za5 rfl rfl rfl) (gA rfl (gN [1,2,3] rfl (zaK 0 rfl ?_))))))))))))))))))
    exact zb9 () ⟨rfl,rfl,(by refine congrArg (fun b=>some (Value.bool b)) ?_; first | exact ziM hg9 hg14 | exact ziN hg14 | exact ziO hg9),trivial⟩ rfl trivial
   ·replace hg14:_=true:=hg14
    try rw [hg14]
    refine gF rfl rfl rfl (gF rfl rfl rfl (gF rfl rfl rfl (gF rfl rfl rfl (gF rfl rfl rfl (gF rfl rfl rfl (gF rfl rfl rfl (gQ (za5 rfl rfl rfl) (gA rfl (gN [1,2,3] rfl ?_)))))))))
    exact zb9 () ⟨rfl,rfl,(by refine congrArg (fun b=>some (Value.bool b)) ?_; first | exact ziM hg9 hg14 | exact ziN hg14 | exact ziO hg9),trivial⟩ rfl trivial
  ·replace hg9:_=false:=hg9
   try rw [hg9]
   refine gF rfl rfl rfl (gF rfl rfl rfl (gQ (za5 rfl rfl rfl) (gM rfl (gT rfl rfl rfl (gQ (zab zBr rfl) (gT rfl rfl rfl (gQ (zah 0 tf3 rfl rfl rfl) (gT rfl rfl rfl (gQ (zaI rfl (zyk _ _ _)) (gT rfl rfl rfl (gQ (zab zAu rfl) (gT rfl rfl rfl (gQ (zah 0 tf3 rfl rfl rfl) (gT rfl rfl rfl (gQ (zaI rfl (zyk _ _ _)) (gT rfl rfl rfl (zaG rfl rfl (zaD rfl (zB7 _ _ _ _ _ _) zbM rfl) fun b21=>(gT rfl rfl rfl (gQ (zaJ zAY rfl (fun w hw=>zfT _ _ ([(⟨s.every,1,100000⟩:Lim),(⟨s.at_,0,3000⟩:Lim)]) w (zam zbM (hw.has (p:=0) rfl)) (by simp [zaP]))) (gQ (za5 rfl rfl rfl) (gA rfl (gN [1,2,3] rfl (zaK 0 rfl ?_)))))))))))))))))))))))
   exact zb9 () ⟨rfl,rfl,(by refine congrArg (fun b=>some (Value.bool b)) ?_; first | exact ziM hg9 hg14 | exact ziN hg14 | exact ziO hg9),trivial⟩ rfl trivial
 ·rintro _ hJ
  refine gS (gQ (zab zCg rfl) (gQ (zah 0 tf3 rfl rfl rfl) (gQ (zaI rfl (zyk _ _ _)) (gQ (zab zCh rfl) (gQ (zah 0 tf3 rfl rfl rfl) (gQ (zaI rfl (zyk _ _ _)) (gQ (zab zyM rfl) (gQ (zah 0 tf3 rfl rfl rfl) (gQ (zaI rfl (zyk _ _ _)) (gQ (zab zDM rfl) (gQ (zah 0 tf3 rfl rfl rfl) (gQ (zaI rfl (zyk _ _ _)) (gQ (zab zzi rfl) (gQ (zah 0 tf45 rfl rfl rfl) (gQ (zaV (Tryz.underlying45) rfl) (gQ (zaI rfl (zyk _ _ _)) (gQ (zab zCi rfl) (gQ (zah 0 tf3 rfl rfl rfl) (gQ (zaI rfl (zyk _ _ _)) (gQ (zab zDN rfl) (gQ (zah 0 tf3 rfl rfl rfl) (gQ (zaI rfl (zyk _ _ _)) (gQ (zab zDO rfl) (gQ (zah 0 tf3 rfl rfl rfl) (gQ (zaI rfl (zyk _ _ _)) (gQ (zab zCH rfl) (gQ (zah 0 tf3 rfl rfl rfl) (gQ (zaI rfl (zyk _ _ _)) (gQ (zab zCI rfl) (gQ (zah 0 tf3 rfl rfl rfl) (gQ (zaI rfl (zyk _ _ _)) ?_)))))))))))))))))))))))))))))))
  refine gQ (zab zCK rfl) (gQ (zah 0 tf3 rfl rfl rfl) (gQ (zab zBq rfl) (gQ (zah 0 tf3 rfl rfl rfl) (gQ (zaI rfl (zyk _ _ _)) (gQ (zab zBq rfl) (gQ (zah 0 tf3 rfl rfl rfl) (gQ (zaI rfl (zyk _ _ _)) (gQ (zab zCL rfl) (gQ (zah 0 tf3 rfl rfl rfl) (gQ (zaI rfl (zyk _ _ _)) (zaG rfl rfl (zaD rfl (zEE _ _ _ _ _ _ _ _ _ _ _ _ _ _ _ _ _ _ _ _ _ _ _ _ _ _ _ _ _ _ _ _ _ _ _ _ _ _ _) zbM rfl) fun b66=>(gQ (zaJ zAY rfl (fun w hw=>zfT _ _ ([(⟨s.base,1,3000⟩:Lim),(⟨s.batter,0,500⟩:Lim),(⟨s.height,1,3000⟩:Lim),(⟨s.skin,1,1500⟩:Lim),(⟨(s.heights.length:Int),1,12⟩:Lim),(⟨s.least,1,1000⟩:Lim),(⟨s.lap,0,500⟩:Lim),(⟨s.run,1,20⟩:Lim),(⟨s.footing,0,1000⟩:Lim),(⟨s.spread,0,1000⟩:Lim),(⟨s.low,0,s.high⟩:Lim),(⟨s.high,0,2000⟩:Lim),(⟨s.rood,1,100000⟩:Lim)]) w (zam zbM (hw.has (p:=0) rfl)) (by simp [zaP]))) (gA rfl (gN [1,2,3,4] rfl (gS (gA rfl (gN [1,2,3,4,5] rfl (zac (gS (gQ (zab zBp rfl) (gQ (zah 1 tf9 rfl rfl rfl) (gQ (zaJ ztI rfl (fun w hw=>zmo _ w)) (gQ (zbR rfl) (gM rfl ?_))))))))))))))))))))))))
  refine zai rfl rfl rfl rfl (fun hg72=>?_) (fun hg72=>?_)
  ·replace hg72:_=false:=hg72
   try rw [hg72]
   refine gM rfl (gT rfl rfl rfl (gQ (zbR rfl) (gQ (za5 rfl rfl rfl) (gM rfl (zai rfl rfl rfl rfl (fun hg76=>?_) (fun hg76=>?_))))))
   ·replace hg76:_=false:=hg76
    try rw [hg76]
    refine gM rfl (gT rfl rfl rfl (gQ (zbR rfl) (gQ (za5 rfl rfl rfl) (gM rfl (zai rfl rfl rfl rfl (fun hg80=>?_) (fun hg80=>?_))))))
    ·replace hg80:_=false:=hg80
     try rw [hg80]
     refine gQ (zab zzi rfl) (gT rfl rfl rfl (gQ (zah 1 tf45 rfl rfl rfl) (gT rfl rfl rfl (gM rfl (gT rfl rfl rfl (gQ (zaJ en71 rfl (fun w hw=>zhP _ _ s.heights zgP _ [] [] w (rH hl hw) (by assumption) (fun _=>True) (fun _ _=>trivial) zhY (fun z w _=>zjL z w))) (gQ (za5 rfl rfl rfl) (gM rfl (zai rfl rfl rfl rfl (fun hg86=>?_) (fun hg86=>?_))))))))))
     ·replace hg86:_=false:=hg86
      try rw [hg86]
      refine gQ (zat 1 zyq rfl rfl (vs:=[_,_,_,_,_,_,_,_,_,_,_,_,_,_,_,_,_,_,_,_]) rfl rfl) (gT rfl rfl rfl (gQ (zaJ zxb rfl (fun w hw=>ztv a cap s w)) (gT rfl rfl rfl (gQ (zbR rfl) (gQ (za5 rfl rfl rfl) (gM rfl (zai rfl rfl rfl rfl (fun hg91=>?_) (fun hg91=>?_))))))))
      ·replace hg91:_=false:=hg91
       try rw [hg91]
       refine gQ (zat 1 zyq rfl rfl (vs:=[_,_,_,_,_,_,_,_,_,_,_,_,_,_,_,_,_,_,_,_]) rfl rfl) (gT rfl rfl rfl (gQ (zab zyM rfl) (gT rfl rfl rfl (gQ (zah 1 tf3 rfl rfl rfl) (gT rfl rfl rfl (gQ (zaJ zxc rfl (fun w hw=>zkA a cap s _ w)) (gT rfl rfl rfl (gQ (zbw rfl rfl) (gQ (za5 rfl rfl rfl) (gM rfl (zai rfl rfl rfl rfl (fun hg98=>?_) (fun hg98=>?_))))))))))))
       ·replace hg98:_=false:=hg98
        try rw [hg98]
        refine gQ (zat 1 zyq rfl rfl (vs:=[_,_,_,_,_,_,_,_,_,_,_,_,_,_,_,_,_,_,_,_]) rfl rfl) (gT rfl rfl rfl (zaG rfl rfl (zbm zxd rfl (fun w hw=>ze3 a cap s w (rH hl hw) (zgZ (zjE hg72 hg76 hg80 hg86 hg91)))) fun p100=>(gT rfl rfl rfl (gQ (zaV (Tryz.underlying237) rfl) (gT rfl rfl rfl (gQ (zc6 rfl rfl) (gQ (za5 rfl rfl rfl) (gN [2,103] rfl (zap rfl (fun hc103=>?_) (fun hc103=>?_))))))))))
        ·simp only [dT] at hc103
         refine gS (gA rfl (gN [2] rfl (zaw (zay (zaC rfl (zau rfl)) ?_))))
         rw [zhM (zjE hg72 hg76 hg80 hg86 hg91) (oD hg98),if_pos (by omega)]
        ·simp only [dF] at hc103
         refine zaq (gS (gA rfl (gN [2] rfl (zaw (zay (zaC rfl (zau rfl)) ?_)))))
         rw [zhM (zjE hg72 hg76 hg80 hg86 hg91) (oD hg98),if_neg (by omega)]
       ·replace hg98:_=true:=hg98
        try rw [hg98]
        refine gF rfl rfl rfl (gF rfl rfl rfl (gF rfl rfl rfl (gQ (za5 rfl rfl rfl) (gN [2,103] rfl (zdg rfl (gS (gA rfl (gN [2] rfl (zaw (zay (zaC rfl (zau rfl)) ?_))))))))))
        rw [zo4 (zjE hg72 hg76 hg80 hg86 hg91) (oT hg98)]
      ·replace hg91:_=true:=hg91
       try rw [hg91]
       refine gF rfl rfl rfl (gF rfl rfl rfl (gF rfl rfl rfl (gF rfl rfl rfl (gQ (za5 rfl rfl rfl) (gM rfl (gF rfl rfl rfl (gF rfl rfl rfl (gF rfl rfl rfl (gF rfl rfl rfl (gQ (za5 rfl rfl rfl) (gN [2,103] rfl (zdg rfl (gS (gA rfl (gN [2] rfl (zaw (zay (zaC rfl (zau rfl)) ?_)))))))))))))))))
       rw [zeX (zu8 hg91)]
     ·replace hg86:_=true:=hg86
      try rw [hg86]
      refine gF rfl rfl rfl (gF rfl rfl rfl (gQ (za5 rfl rfl rfl) (gM rfl (gF rfl rfl rfl (gF rfl rfl rfl (gF rfl rfl rfl (gF rfl rfl rfl (gF rfl rfl rfl (gQ (za5 rfl rfl rfl) (gM rfl (gF rfl rfl rfl (gF rfl rfl rfl (gF rfl rfl rfl (gF rfl rfl rfl (gQ (za5 rfl rfl rfl) (gN [2,103] rfl (zdg rfl (gS (gA rfl (gN [2] rfl (zaw (zay (zaC rfl (zau rfl)) ?_))))))))))))))))))))))
      rw [zeX (zu7 hg86)]
    ·replace hg80:_=true:=hg80
     try rw [hg80]
     refine gF rfl rfl rfl (gF rfl rfl rfl (gF rfl rfl rfl (gQ (za5 rfl rfl rfl) (gM rfl (gF rfl rfl rfl (gF rfl rfl rfl (gF rfl rfl rfl (gQ (za5 rfl rfl rfl) (gM rfl (gF rfl rfl rfl (gF rfl rfl rfl (gF rfl rfl rfl (gF rfl rfl rfl (gF rfl rfl rfl (gQ (za5 rfl rfl rfl) (gM rfl (gF rfl rfl rfl (gF rfl rfl rfl (gF rfl rfl rfl (gF rfl rfl rfl (gQ (za5 rfl rfl rfl) (gN [2,103] rfl (zdg rfl (gS (gA rfl (gN [2] rfl (zaw (zay (zaC rfl (zau rfl)) ?_))))))))))))))))))))))))))))
     rw [zeX (zu6 hg80)]
   ·replace hg76:_=true:=hg76
    try rw [hg76]
    refine gF rfl rfl rfl (gQ (za5 rfl rfl rfl) (gM rfl (gF rfl rfl rfl (gF rfl rfl rfl (gF rfl rfl rfl (gF rfl rfl rfl (gQ (za5 rfl rfl rfl) (gM rfl (gF rfl rfl rfl (gF rfl rfl rfl (gF rfl rfl rfl (gQ (za5 rfl rfl rfl) (gM rfl (gF rfl rfl rfl (gF rfl rfl rfl (gF rfl rfl rfl (gF rfl rfl rfl (gF rfl rfl rfl (gQ (za5 rfl rfl rfl) (gM rfl (gF rfl rfl rfl (gF rfl rfl rfl (gF rfl rfl rfl (gF rfl rfl rfl (gQ (za5 rfl rfl rfl) (gN [2,103] rfl (zdg rfl (gS (gA rfl (gN [2] rfl (zaw (zay (zaC rfl (zau rfl)) ?_))))))))))))))))))))))))))))))))
    rw [zeX (zu5 hg76)]
  ·replace hg72:_=true:=hg72
   try rw [hg72]
   refine gF rfl rfl rfl (gQ (za5 rfl rfl rfl) (gM rfl (gF rfl rfl rfl (gF rfl rfl rfl (gQ (za5 rfl rfl rfl) (gM rfl (gF rfl rfl rfl (gF rfl rfl rfl (gF rfl rfl rfl (gF rfl rfl rfl (gQ (za5 rfl rfl rfl) (gM rfl (gF rfl rfl rfl (gF rfl rfl rfl (gF rfl rfl rfl (gQ (za5 rfl rfl rfl) (gM rfl (gF rfl rfl rfl (gF rfl rfl rfl (gF rfl rfl rfl (gF rfl rfl rfl (gF rfl rfl rfl (gQ (za5 rfl rfl rfl) (gM rfl (gF rfl rfl rfl (gF rfl rfl rfl (gF rfl rfl rfl (gF rfl rfl rfl (gQ (za5 rfl rfl rfl) (gN [2,103] rfl (zdg rfl (gS (gA rfl (gN [2] rfl (zaw (zay (zaC rfl (zau rfl)) ?_))))))))))))))))))))))))))))))))))))
   rw [zeX (zu4 hg72)]
theorem zda {s:Sht}:zcX s=0↔za4 s=true:=by
 unfold zcX
 cases za4 s <;> simp
theorem zkH {s:Sht} (h:¬ zcX s=0):za4 s=false∧zcX s=2:=by
 have h2:¬ za4 s=true:=fun x=>h (zda.2 x)
 exact⟨by simpa using h2,if_neg h2⟩
def zlL (s:Sht) (z:Int):Int:=if za4 s=true∧0≤z∧z≤s.height then zb5 s z else 0
def zlK (s:Sht) (z:Int):Int:=if za4 s=true then(if 0≤z∧z≤s.height then 0 else 3) else 2
theorem ztc (a:Option Addr) (cap:Nat) (s:Sht) (z:Int) (w:World) (hl:Has w (Ints a s.heights)) (hs:zaP s.heights.length) :
  Calls Tryz.prog 113 #[.agg #[.string s.name,.int .i64 s.base,.int .i64 s.batter,.int .i64 s.height,.int .i64 s.skin,.slice a s.heights.length cap,.int .i64 s.least,.int .i64 s.lap,.int .i64 s.run,.int .i64 s.every,.int .i64 s.at_,.int .i64 s.footing,.int .i64 s.spread,.int .u8 s.cope,.int .i64 s.tall,.int .i64 s.short,.int .i64 s.thick,.int .i64 s.low,.int .i64 s.high,.int .i64 s.rood],.int .i64 z] w (Pure (.tuple #[.int .i64 (zlL s z),.int .i64 (zlK s z)]) w):=by
 refine zan (vs:=[_,_]) Tryz.func113 rfl rfl (bL rfl) (gS (zaG rfl rfl (za3 (vs:=[_,_,_,_,_,_,_,_,_,_,_,_,_,_,_,_,_,_,_,_]) rfl rfl) fun b2=>(gA rfl (gA rfl (gN [1,2,4,5] rfl (zac (gS (gQ (zat 0 zyq rfl rfl (vs:=[_,_,_,_,_,_,_,_,_,_,_,_,_,_,_,_,_,_,_,_]) rfl rfl) (gQ (zaJ zvR rfl (fun w hw=>zd4 a cap s w (rH hl hw) (by assumption))) (gA rfl (gN [1,2,4,5,6] rfl (gS (gM rfl (gQ (zcr rfl rfl) (gN [1,2,4,5,6,10] rfl (zap rfl (fun hc10=>?_) (fun hc10=>?_)))))))))))))))))
 ·have hE:=zkH (show ¬ zcX s=0 by simpa using hc10)
  have hno:¬ za4 s=true:=by rw [hE.1]; exact fT
  refine gS (gM rfl (gA rfl (gA rfl (gN [1,2,4,5] rfl (zaw (zay (zc2 rfl (zau rfl) (zau rfl)) ?_))))))
  rw [zlL,zlK,if_neg (fun h=>hno h.1),if_neg hno,hE.2]
 ·have hok:za4 s=true:=zda.1 (by simpa using hc10)
  have hn:=zaZ hok
  have hnh:=hn.height
  refine zaq (zac (zac (gZ 8 (ph_y (zaf rfl) (ph_y (zbw rfl rfl) (ph_y (zaf rfl) (zaz rfl rfl (fun jj=>by(try rw [jj]); exact zaf rfl) (zaz rfl rfl (fun jj=>by(try rw [jj]); exact zab zyM rfl) (zaz rfl rfl (fun jj=>by(try rw [jj]); exact zah 0 tf3 rfl rfl rfl) (zaz rfl rfl (fun jj=>by(try rw [jj]); exact zc6 rfl rfl) (ph_y (zaR rfl rfl rfl) (gN [1,2,4,5,19] rfl (zap rfl (fun hc19=>?_) (fun hc19=>?_))))))))))))))
  ·simp only [Bool.or_eq_true,dT] at hc19
   refine gS (gA rfl (gA rfl (gN [1,2,4,5] rfl (zaw (zay (zc2 rfl (zau rfl) (zau rfl)) ?_)))))
   rw [zlL,zlK,if_neg (by omega),if_pos hok,if_neg (by omega)]
  ·simp only [oF,dF] at hc19
   refine zaq (gS (gQ (zat 0 zyq rfl rfl (vs:=[_,_,_,_,_,_,_,_,_,_,_,_,_,_,_,_,_,_,_,_]) rfl rfl) (gM rfl (gQ (zaJ zxc rfl (fun w hw=>zkA a cap s _ w)) (gA rfl (gA rfl (gN [4,5] rfl (zaw (zay (zc2 rfl (zau rfl) (zau rfl)) ?_)))))))))
   rw [zlL,zlK,if_pos ⟨hok,by omega,by omega⟩,if_pos hok,if_pos (by omega),zfM hn.batter hn.base (by omega) (by omega)]
theorem zg2 (a:Option Addr) (cap:Nat) (s:Sht) (w:World) (hl:Has w (Ints a s.heights)) (hn:Nums s) :
  Calls Tryz.prog 143 #[.agg #[.string s.name,.int .i64 s.base,.int .i64 s.batter,.int .i64 s.height,.int .i64 s.skin,.slice a s.heights.length cap,.int .i64 s.least,.int .i64 s.lap,.int .i64 s.run,.int .i64 s.every,.int .i64 s.at_,.int .i64 s.footing,.int .i64 s.spread,.int .u8 s.cope,.int .i64 s.tall,.int .i64 s.short,.int .i64 s.thick,.int .i64 s.low,.int .i64 s.high,.int .i64 s.rood]] w (zcU (fun z:Option Addr×Nat=>.slice z.1 (zaj s).length z.2) (fun z=>Row z.1 2 z.2 264 zbq (zaj s)) w):=by
 refine zan (vs:=[_]) Tryz.func143 rfl rfl (bL rfl) (gS (zaG rfl rfl (za3 (vs:=[_,_,_,_,_,_,_,_,_,_,_,_,_,_,_,_,_,_,_,_]) rfl rfl) fun b1=>(gA rfl (gN [1,2] rfl (gS (gA rfl (gN [1,2,3] rfl (gS (gA rfl (gA rfl (gN [1,2,3,4,5] rfl (zac (zas (zbB 264 zbq 2 (zbf (X:=Nat×Int×Int×Option Addr×Nat×List Crs) (fun⟨n,z,i,b,bc,L⟩=>[(1,.pointer (some ⟨b1,0,none⟩)),(2,.slice none 0 0),(3,.slice b L.length bc),(4,.int .i64 z),(5,.int .i64 i)]) (fun⟨n,z,i,b,bc,L⟩=>[Row b 2 bc 264 zbq L,Box b1 (sV s a cap) 135]) (fun⟨n,z,i,b,bc,L⟩=>(L=crsN s n∧z=zAt s n∧i=((min n (s.heights.length - 1):Nat):Int)∧∀ j,j < n→zc5 s j=true)) (fun⟨n,z,i,b,bc,L⟩=>3001 - n) (0,0,0,none,0,[]) (sB rfl) rfl ?_ ?_)))))))))))))))
 ·exact⟨rfl,rfl,by simp,fun j hj=>by omega⟩
 ·rintro ⟨n,z,i,b,bc,L⟩ hI
  obtain⟨gL,gz,gi,gu⟩:=hI
  have hnl:=hn.len
  have hnh:=hn.height
  have he:=zeg hn n
  have hz0:=zjC hn n
  have hz1:=zn7 (by omega) gu
  have hn3:=zjb hn gu
  have hll:L.length=n:=by rw [gL,zeC]
  have hix:s.heights.getD i.toNat default=zce s n:=by rw [gi]; rfl
  refine zac (zac (gZ 10 (ph_y (zaf rfl) (ph_y (zab zzj rfl) (ph_y (zah 1 tf45 rfl rfl rfl) (ph_y (zaf rfl) (ph_y (zaE se45 rfl rfl (fun _=>rH hl)) (ph_y (zcE tf3 rfl (fun _=>rH hl) (by omega) (by omega) rfl) (ph_y (zaY rfl rfl) (ph_y (zab zyH rfl) (ph_y (zah 1 tf3 rfl rfl rfl) (ph_y (zeT rfl rfl) (gN [1,2,3,4,5,16] rfl (zap rfl (fun hc16=>?_) (fun hc16=>?_)))))))))))))))
  ·have hc16:=oT hc16
   refine zaq (zas (gS (gM rfl (gM rfl (gM rfl (gQ (zab zzj rfl) (gQ (zah 1 tf45 rfl rfl rfl) (gM rfl (gQ (zaE se45 rfl rfl (fun _=>rH hl)) (gQ (zcE tf3 rfl (fun _=>rH hl) (by omega) (by omega) rfl) (gQ (zaY rfl rfl) (gQ (zaI rfl (zAD _ _)) (zaG rfl rfl (zaD rfl (zDB _ _) zax rfl) fun b27=>(zb4 (m:=[(⟨z,(z+(s.heights.getD (i).toNat default))⟩:Crs)]) 1 zGV zax rfl rfl rfl rfl (fun _ hw=>(zam zax (hw.has (p:=0) rfl))) (by first | omega | (simp only [lC,lN]; omega)) (by first | (unfold maxLen; omega) | (simp only [lC,lN,maxLen]; omega)) fun a28 c28=>(gA rfl (gN [1,2,3,4,5] rfl (gS (gM rfl (gQ (zab zzj rfl) (gQ (zah 2 tf45 rfl rfl rfl) (gM rfl (gQ (zaE se45 rfl rfl (fun _=>rH hl)) (gQ (zcE tf3 rfl (fun _=>rH hl) (by omega) (by omega) rfl) (gQ (zaY rfl rfl) (gA rfl (gN [1,2,3,4,5] rfl (gS (gM rfl (gQ (zaY rfl rfl) (gQ (zab zzj rfl) (gQ (zah 2 tf45 rfl rfl rfl) (gQ (zaV (Tryz.underlying45) rfl) (gQ (zbw rfl rfl) (gN [1,2,3,4,5,41] rfl (zap rfl (fun hc41=>?_) (fun hc41=>?_))))))))))))))))))))))))))))))))))))
   ·simp only [dT] at hc41
    refine zaa (gM rfl (gQ (zaY rfl rfl) (gA rfl (gN [1,2,3,4,5] rfl (zaK 0 rfl ?_)))))
    exact za1 (n+1,_,_,_,_,_) (sB rfl) rfl ⟨by rw [gL,ze7,gz,hix]; rfl,by rw [gz,hix]; rfl,by omega,zg7 gu (ziR (by rw [←gz]; omega))⟩ (by simp only []; omega)
   ·simp only [dF] at hc41
    refine zaq (zaK 0 rfl ?_)
    exact za1 (n+1,_,_,_,_,_) (sB rfl) rfl ⟨by rw [gL,ze7,gz,hix]; rfl,by rw [gz,hix]; rfl,by omega,zg7 gu (ziR (by rw [←gz]; omega))⟩ (by simp only []; omega)
  ·have hc16:=oD hc16
   have hcn:=zsG hn gu (by rw [←gz]; omega)
   refine za8 rfl (gS (gQ (zab zyH rfl) (gQ (zah 1 tf3 rfl rfl rfl) (gM rfl (gQ (zfV rfl rfl) (gA rfl (gN [1,2,3,4,6] rfl (zac (zac (gZ 13 (ph_y (zaf rfl) (ph_y (zab zCn rfl) (ph_y (zah 1 tf3 rfl rfl rfl) (ph_y (zfx rfl rfl) (ph_y (zaf rfl) (zaz rfl rfl (fun jj=>by(try rw [jj]); exact zaf rfl) (zaz rfl rfl (fun jj=>by(try rw [jj]); exact zc6 rfl rfl) (zaz rfl rfl (fun jj=>by(try rw [jj]); exact zaf rfl) (zdr rfl rfl (fun jj=>by(try rw [jj]); exact zaf rfl) (zdr rfl rfl (fun jj=>by(try rw [jj]); exact zaV (Tryz.underlying245) rfl) (zdr rfl rfl (fun jj=>by(try rw [jj]); exact zbL rfl rfl) (zaz rfl rfl (fun jj=>by(try rw [jj]); exact zaX rfl rfl rfl) (ph_y (zaR rfl rfl rfl) (gN [1,2,3,4,6,60] rfl (zap rfl (fun hc60=>?_) (fun hc60=>?_))))))))))))))))))))))))))
   ·simp only [Bool.or_eq_true,aT,dT] at hc60
    have hle:=hn.least
    have hcs:zaj s=L++[⟨z,s.height⟩]:=by rw [ze5 hcn (by rw [←gz]; omega) (by rw [←gz]; omega),gL,gz]
    refine zaa (gM rfl (gM rfl (gQ (zab zyH rfl) (gQ (zah 1 tf3 rfl rfl rfl) (gQ (zaI rfl (zAD _ _)) (zaG rfl rfl (zaD rfl (zDB _ _) zax rfl) fun b66=>(zb4 (m:=[(⟨z,s.height⟩:Crs)]) 1 zGV zax rfl rfl rfl rfl (fun _ hw=>(zam zax (hw.has (p:=0) rfl))) (by first | omega | (simp only [lC,lN]; omega)) (by first | (unfold maxLen; omega) | (simp only [lC,lN,maxLen]; omega)) fun a67 c67=>(gA rfl (gN [2,3] rfl (gS (gM rfl (gA rfl (gN [2] rfl (zaw (zbd (a67,c67) 1 (zaC rfl (zau rfl)) ?_ (by rw [hcs]; rfl))))))))))))))))
    first | (rw [hcs]; done) | (rw [hcs,List.length_set])
   ·simp only [oF,Bool.and_eq_false_iff,dF] at hc60
    refine gS (gM rfl (gQ (zc6 rfl rfl) (gN [1,2,3,69] rfl (zap rfl (fun hc69=>?_) (fun hc69=>?_)))))
    ·have hc69:=oT hc69
     have hcs:zaj s=L.set ((L.length:Int) - 1).toNat ({ L.getD ((L.length:Int) - 1).toNat default with to:=s.height }):=by rw [ze4 hcn (by rw [←gz]; omega) (by rw [←gz]; omega),zlf gL (by omega),gL]
     refine zaa (gM rfl (gM rfl (gQ (zaV (Tryz.underlying245) rfl) (gQ (zfV rfl rfl) (gQ (zab zyH rfl) (gQ (zah 1 tf3 rfl rfl rfl) (gQ (zaE zH0 rfl rfl (fun _ hw=>(zam zax (hw.has (p:=0) rfl)))) (gQ (zbh zGb rfl (fun w hw=>zaO (i:=((L.length:Int) - 1)) (zam zax (hw.has (p:=0) rfl)))) (zfG (x':=({ (L.getD (((L.length:Int) - 1)).toNat default) with to:=s.height }:Crs)) 0 zax tf3 rfl rfl (vs:=[_]) rfl rfl (by decide) rfl rfl (by omega) (by omega) (gN [2,3] rfl (gS (gM rfl (gA rfl (gN [2] rfl (zaw (zbd (b,bc) 0 (zaC rfl (zau rfl)) ?_ (by rw [hcs]; rfl)))))))))))))))))
     first | (rw [hcs]; done) | (rw [hcs,List.length_set])
    ·have hc69:=oD hc69
     have hcs:zaj s=L:=(ze6 hcn (by rw [←gz]; omega)).trans gL.symm
     refine zaq (gS (gM rfl (gA rfl (gN [2] rfl (zaw (zbd (b,bc) 0 (zaC rfl (zau rfl)) ?_ (by rw [hcs]; rfl)))))))
     first | (rw [hcs]; done) | (rw [hcs,List.length_set])
theorem zkm (a:Option Addr) (cap:Nat) (s:Sht) (w:World) (hl:Has w (Ints a s.heights)) (hs:zaP s.heights.length) (hco:0≤s.cope) (hfit:Fits s.name.size) :
  Calls Tryz.prog 111 #[.agg #[.string s.name,.int .i64 s.base,.int .i64 s.batter,.int .i64 s.height,.int .i64 s.skin,.slice a s.heights.length cap,.int .i64 s.least,.int .i64 s.lap,.int .i64 s.run,.int .i64 s.every,.int .i64 s.at_,.int .i64 s.footing,.int .i64 s.spread,.int .u8 s.cope,.int .i64 s.tall,.int .i64 s.short,.int .i64 s.thick,.int .i64 s.low,.int .i64 s.high,.int .i64 s.rood]] w (Pure (.bool (za4 s)) w):=by
 refine zan (vs:=[_]) Tryz.func111 rfl rfl (bL rfl) (gS (zaG rfl rfl (za3 (vs:=[_,_,_,_,_,_,_,_,_,_,_,_,_,_,_,_,_,_,_,_]) rfl rfl) fun b1=>(gA rfl (gN [1,2] rfl (zac (zac (gZ 35 (ph_y (zab zAK rfl) (ph_y (zah 0 tf9 rfl rfl rfl) (ph_y (zaJ en85 rfl (fun w hw=>znM _ w (by assumption))) (ph_y (zbR rfl) (ph_y (zaf rfl) (zaz rfl rfl (fun jj=>by(try rw [jj]); exact zab zCl rfl) (zaz rfl rfl (fun jj=>by(try rw [jj]); exact zah 0 tf3 rfl rfl rfl) (zaz rfl rfl (fun jj=>by(try rw [jj]); exact zaJ (v:=.bool (inB s.base 1 3000)) zyV rfl (fun w hw=>in_c _ _ _ w)) (zaz rfl rfl (fun jj=>by(try rw [jj]); exact zbR rfl) (ph_y (zaR rfl rfl rfl) (ph_y (zaf rfl) (zaz rfl rfl (fun jj=>by(try rw [jj]); exact zab zCm rfl) (zaz rfl rfl (fun jj=>by(try rw [jj]); exact zah 0 tf3 rfl rfl rfl) (zaz rfl rfl (fun jj=>by(try rw [jj]); exact zaJ (v:=.bool (inB s.batter 0 500)) zyV rfl (fun w hw=>in_c _ _ _ w)) (zaz rfl rfl (fun jj=>by(try rw [jj]); exact zbR rfl) (ph_y (zaR rfl rfl rfl) (ph_y (zaf rfl) (zaz rfl rfl (fun jj=>by(try rw [jj]); exact zab zyH rfl) (zaz rfl rfl (fun jj=>by(try rw [jj]); exact zah 0 tf3 rfl rfl rfl) ?_))))))))))))))))))))))))))
 refine zaz rfl rfl (fun jj=>by(try rw [jj]); exact zaJ (v:=.bool (inB s.height 1 3000)) zyV rfl (fun w hw=>in_c _ _ _ w)) (zaz rfl rfl (fun jj=>by(try rw [jj]); exact zbR rfl) (ph_y (zaR rfl rfl rfl) (ph_y (zaf rfl) (zaz rfl rfl (fun jj=>by(try rw [jj]); exact zab zDP rfl) (zaz rfl rfl (fun jj=>by(try rw [jj]); exact zah 0 tf3 rfl rfl rfl) (zaz rfl rfl (fun jj=>by(try rw [jj]); exact zaJ (v:=.bool (inB s.skin 1 1500)) zyV rfl (fun w hw=>in_c _ _ _ w)) (zaz rfl rfl (fun jj=>by(try rw [jj]); exact zbR rfl) (ph_y (zaR rfl rfl rfl) (ph_y (zaf rfl) (zaz rfl rfl (fun jj=>by(try rw [jj]); exact zab zzj rfl) (zaz rfl rfl (fun jj=>by(try rw [jj]); exact zah 0 tf45 rfl rfl rfl) (zaz rfl rfl (fun jj=>by(try rw [jj]); exact zaV (Tryz.underlying45) rfl) (zaz rfl rfl (fun jj=>by(try rw [jj]); exact zaJ (v:=.bool (inB (s.heights.length:Int) 1 12)) zyV rfl (fun w hw=>in_c _ _ _ w)) (zaz rfl rfl (fun jj=>by(try rw [jj]); exact zbR rfl) (ph_y (zaR rfl rfl rfl) (gN [1,2,38] rfl (zap rfl (fun hc38=>?_) (fun hc38=>?_))))))))))))))))))
 ·
  refine gS (gA rfl (gN [1,2] rfl (zaw (zay (zaC rfl (zau rfl)) ?_))))
  rw [zcS (by rw [zdE hco,show v1 s=true from hc38]; simp)]
 ·
  refine zaq (zac (gS (gA rfl (gN [1,2,3] rfl (zas (zbf (X:=Int) (fun(i:Int)=>[(1,.pointer (some ⟨b1,0,none⟩)),(2,.bool false),(3,.int .i64 i)]) (fun(i:Int)=>[Box b1 (sV s a cap) 135]) (fun(i:Int)=>(0≤i∧i≤s.heights.length∧∀ j:Nat,(j:Int) < i→(!inB (s.heights.getD j default) 1 1000)=false)) (fun(i:Int)=>(s.heights.length - i).toNat) 0 ⟨rfl,rfl,rfl,trivial⟩ rfl ?_ ?_))))))
  ·exact⟨by omega,by omega,fun j hj=>by omega⟩
  ·rintro i hI
   obtain⟨g0,g1,g2⟩:=hI
   refine zac (gS (gM rfl (gQ (zab zzj rfl) (gQ (zah 0 tf45 rfl rfl rfl) (gQ (zaV (Tryz.underlying45) rfl) (gQ (zbw rfl rfl) (gN [1,2,3,43] rfl (zap rfl (fun hc43=>?_) (fun hc43=>?_)))))))))
   ·simp only [dT] at hc43
    refine zaq (zac (zas (gS (gQ (zab zzj rfl) (gQ (zah 0 tf45 rfl rfl rfl) (gM rfl (gQ (zaE se45 rfl rfl (fun _=>rH hl)) (gQ (zcE tf3 rfl (fun _=>rH hl) (by omega) (by omega) rfl) (gQ (zaJ zyV rfl (fun w hw=>in_c _ _ _ w)) (gQ (zbR rfl) (gN [1,2,3,52] rfl (zap rfl (fun hc52=>?_) (fun hc52=>?_)))))))))))))
    ·
     refine gS (gA rfl (gN [1,2,3] rfl (zaw (zay (zaC rfl (zau rfl)) ?_))))
     rw [zcS (by rw [zdE hco,zuN g0 hc43 hc52]; simp)]
    ·
     refine zaq (zaa (gM rfl (gQ (zaY rfl rfl) (gA rfl (gN [1,2,3] rfl ?_)))))
     exact za1 (i+1) ⟨rfl,rfl,rfl,trivial⟩ rfl ⟨by omega,by omega,zdP (f:=fun j=>!inB (s.heights.getD j default) 1 1000) g0 g2 hc52⟩ (by omega)
   ·simp only [dF] at hc43
    refine za8 rfl (zac (zac (gZ 28 (ph_y (zab zCn rfl) (ph_y (zah 0 tf3 rfl rfl rfl) (ph_y (zaJ zyV rfl (fun w hw=>in_c _ _ _ w)) (ph_y (zbR rfl) (ph_y (zaf rfl) (zaz rfl rfl (fun jj=>by(try rw [jj]); exact zab zDQ rfl) (zaz rfl rfl (fun jj=>by(try rw [jj]); exact zah 0 tf3 rfl rfl rfl) (zaz rfl rfl (fun jj=>by(try rw [jj]); exact zaJ (v:=.bool (inB s.lap 0 500)) zyV rfl (fun w hw=>in_c _ _ _ w)) (zaz rfl rfl (fun jj=>by(try rw [jj]); exact zbR rfl) (ph_y (zaR rfl rfl rfl) (ph_y (zaf rfl) (zaz rfl rfl (fun jj=>by(try rw [jj]); exact zab zDR rfl) (zaz rfl rfl (fun jj=>by(try rw [jj]); exact zah 0 tf3 rfl rfl rfl) (zaz rfl rfl (fun jj=>by(try rw [jj]); exact zaJ (v:=.bool (inB s.run 1 20)) zyV rfl (fun w hw=>in_c _ _ _ w)) (zaz rfl rfl (fun jj=>by(try rw [jj]); exact zbR rfl) (ph_y (zaR rfl rfl rfl) (ph_y (zaf rfl) (zaz rfl rfl (fun jj=>by(try rw [jj]); exact zab zCM rfl) (zaz rfl rfl (fun jj=>by(try rw [jj]); exact zah 0 tf3 rfl rfl rfl) (zaz rfl rfl (fun jj=>by(try rw [jj]); exact zaJ (v:=.bool (inB s.footing 0 1000)) zyV rfl (fun w hw=>in_c _ _ _ w)) (zaz rfl rfl (fun jj=>by(try rw [jj]); exact zbR rfl) (ph_y (zaR rfl rfl rfl) (ph_y (zaf rfl) (zaz rfl rfl (fun jj=>by(try rw [jj]); exact zab zCN rfl) ?_)))))))))))))))))))))))))))
    refine zaz rfl rfl (fun jj=>by(try rw [jj]); exact zah 0 tf3 rfl rfl rfl) (zaz rfl rfl (fun jj=>by(try rw [jj]); exact zaJ (v:=.bool (inB s.spread 0 1000)) zyV rfl (fun w hw=>in_c _ _ _ w)) (zaz rfl rfl (fun jj=>by(try rw [jj]); exact zbR rfl) (ph_y (zaR rfl rfl rfl) (gN [1,2,80] rfl (zap rfl (fun hc80=>?_) (fun hc80=>?_))))))
    ·
     refine gS (gA rfl (gN [1,2] rfl (zaw (zay (zaC rfl (zau rfl)) ?_))))
     rw [zcS (by rw [zdE hco,show v2 s=true from hc80]; simp)]
    ·
     refine zaq (zac (zac (gZ 20 (ph_y (zab zCo rfl) (ph_y (zah 0 tf3 rfl rfl rfl) (ph_y (zbL rfl rfl) (ph_y (zaf rfl) (zaH rfl rfl (fun jj=>by(try rw [jj]); exact zab zBt rfl) (zaH rfl rfl (fun jj=>by(try rw [jj]); exact zah 0 tf3 rfl rfl rfl) (zaH rfl rfl (fun jj=>by(try rw [jj]); exact zbL rfl rfl) (ph_y (zaX rfl rfl rfl) (ph_y (zbR rfl) (ph_y (zaf rfl) (zaH rfl rfl (fun jj=>by(try rw [jj]); exact zab zCo rfl) (zaH rfl rfl (fun jj=>by(try rw [jj]); exact zah 0 tf3 rfl rfl rfl) (zaH rfl rfl (fun jj=>by(try rw [jj]); exact zaJ (v:=.bool (inB s.every 1 100000)) zyV rfl (fun w hw=>in_c _ _ _ w)) (zaH rfl rfl (fun jj=>by(try rw [jj]); exact zaf rfl) (zdr rfl rfl (fun jj=>by(try rw [jj]); exact zab zBt rfl) (zdr rfl rfl (fun jj=>by(try rw [jj]); exact zah 0 tf3 rfl rfl rfl) (zdr rfl rfl (fun jj=>by(try rw [jj]); exact zaJ (v:=.bool (inB s.at_ 0 3000)) zyV rfl (fun w hw=>in_c _ _ _ w)) (zaH rfl rfl (fun jj=>by(try rw [jj]); exact zaX rfl rfl rfl) (zaH rfl rfl (fun jj=>by(try rw [jj]); exact zbR rfl) (ph_y (zaX rfl rfl rfl) (gN [1,2,100] rfl (zap rfl (fun hc100=>?_) (fun hc100=>?_))))))))))))))))))))))))))
     ·
      refine gS (gA rfl (gN [1,2] rfl (zaw (zay (zaC rfl (zau rfl)) ?_))))
      rw [zcS (by rw [zdE hco,show v3 s=true from hc100]; simp)]
     ·
      refine zaq (zac (zac (gZ 23 (ph_y (zab zBv rfl) (ph_y (zah 0 tf3 rfl rfl rfl) (ph_y (zaJ zyV rfl (fun w hw=>in_c _ _ _ w)) (ph_y (zbR rfl) (ph_y (zaf rfl) (zaz rfl rfl (fun jj=>by(try rw [jj]); exact zab zCO rfl) (zaz rfl rfl (fun jj=>by(try rw [jj]); exact zah 0 tf3 rfl rfl rfl) (zaz rfl rfl (fun jj=>by(try rw [jj]); exact zab zBv rfl) (zaz rfl rfl (fun jj=>by(try rw [jj]); exact zah 0 tf3 rfl rfl rfl) (zaz rfl rfl (fun jj=>by(try rw [jj]); exact zaJ (v:=.bool (inB s.low 0 s.high)) zyV rfl (fun w hw=>in_c _ _ _ w)) (zaz rfl rfl (fun jj=>by(try rw [jj]); exact zbR rfl) (ph_y (zaR rfl rfl rfl) (ph_y (zaf rfl) (zaz rfl rfl (fun jj=>by(try rw [jj]); exact zab zCP rfl) (zaz rfl rfl (fun jj=>by(try rw [jj]); exact zah 0 tf3 rfl rfl rfl) (zaz rfl rfl (fun jj=>by(try rw [jj]); exact zaJ (v:=.bool (inB s.rood 1 100000)) zyV rfl (fun w hw=>in_c _ _ _ w)) (zaz rfl rfl (fun jj=>by(try rw [jj]); exact zbR rfl) (ph_y (zaR rfl rfl rfl) (ph_y (zaf rfl) (zaz rfl rfl (fun jj=>by(try rw [jj]); exact zab zzz rfl) (zaz rfl rfl (fun jj=>by(try rw [jj]); exact zah 0 tf5 rfl rfl rfl) (zaz rfl rfl (fun jj=>by(try rw [jj]); exact zc6 rfl rfl) (ph_y (zaR rfl rfl rfl) (gN [1,2,123] rfl ?_)))))))))))))))))))))))))))
      refine zap rfl (fun hc123=>?_) (fun hc123=>?_)
      ·
       refine gS (gA rfl (gN [1,2] rfl (zaw (zay (zaC rfl (zau rfl)) ?_))))
       rw [zcS (by rw [zdE hco,show v4 s=true from hc123]; simp)]
      ·
       refine zaq (zac (zac (gZ 18 (ph_y (zab zzz rfl) (ph_y (zah 0 tf5 rfl rfl rfl) (ph_y (zbL rfl rfl) (ph_y (zaf rfl) (zaH rfl rfl (fun jj=>by(try rw [jj]); exact zab zzZ rfl) (zaH rfl rfl (fun jj=>by(try rw [jj]); exact zah 0 tf3 rfl rfl rfl) (zaH rfl rfl (fun jj=>by(try rw [jj]); exact zcr rfl rfl) (zaH rfl rfl (fun jj=>by(try rw [jj]); exact zaf rfl) (zc0 rfl rfl (fun jj=>by(try rw [jj]); exact zab zAv rfl) (zc0 rfl rfl (fun jj=>by(try rw [jj]); exact zah 0 tf3 rfl rfl rfl) (zc0 rfl rfl (fun jj=>by(try rw [jj]); exact zcr rfl rfl) (zaH rfl rfl (fun jj=>by(try rw [jj]); exact zaR rfl rfl rfl) (zaH rfl rfl (fun jj=>by(try rw [jj]); exact zaf rfl) (zc0 rfl rfl (fun jj=>by(try rw [jj]); exact zab zBu rfl) (zc0 rfl rfl (fun jj=>by(try rw [jj]); exact zah 0 tf3 rfl rfl rfl) (zc0 rfl rfl (fun jj=>by(try rw [jj]); exact zcr rfl rfl) (zaH rfl rfl (fun jj=>by(try rw [jj]); exact zaR rfl rfl rfl) (ph_y (zaX rfl rfl rfl) (gN [1,2,141] rfl (zap rfl (fun hc141=>?_) (fun hc141=>?_))))))))))))))))))))))))
       ·
        refine gS (gA rfl (gN [1,2] rfl (zaw (zay (zaC rfl (zau rfl)) ?_))))
        rw [zcS (by rw [zdE hco,show v5 s=true from hc141]; simp)]
       ·
        refine zaq (zac (zac (gZ 15 (ph_y (zab zzz rfl) (ph_y (zah 0 tf5 rfl rfl rfl) (ph_y (zcr rfl rfl) (ph_y (zaf rfl) (zaH rfl rfl (fun jj=>by(try rw [jj]); exact zab zzZ rfl) (zaH rfl rfl (fun jj=>by(try rw [jj]); exact zah 0 tf3 rfl rfl rfl) (zaH rfl rfl (fun jj=>by(try rw [jj]); exact zaJ (v:=.bool (inB s.tall 1 1000)) zyV rfl (fun w hw=>in_c _ _ _ w)) (zaH rfl rfl (fun jj=>by(try rw [jj]); exact zbR rfl) (zaH rfl rfl (fun jj=>by(try rw [jj]); exact zaf rfl) (zc0 rfl rfl (fun jj=>by(try rw [jj]); exact zab zBu rfl) (zc0 rfl rfl (fun jj=>by(try rw [jj]); exact zah 0 tf3 rfl rfl rfl) (zc0 rfl rfl (fun jj=>by(try rw [jj]); exact zaJ (v:=.bool (inB s.thick 1 1000)) zyV rfl (fun w hw=>in_c _ _ _ w)) (zc0 rfl rfl (fun jj=>by(try rw [jj]); exact zbR rfl) (zaH rfl rfl (fun jj=>by(try rw [jj]); exact zaR rfl rfl rfl) (ph_y (zaX rfl rfl rfl) (gN [1,2,156] rfl (zap rfl (fun hc156=>?_) (fun hc156=>?_)))))))))))))))))))))
        ·
         refine gS (gA rfl (gN [1,2] rfl (zaw (zay (zaC rfl (zau rfl)) ?_))))
         rw [zcS (by rw [zdE hco,show v6 s=true from hc156]; simp)]
        ·
         refine zaq (zac (zac (gZ 19 (ph_y (zab zzz rfl) (ph_y (zah 0 tf5 rfl rfl rfl) (ph_y (zbL rfl rfl) (ph_y (zaf rfl) (zaH rfl rfl (fun jj=>by(try rw [jj]); exact zab zAv rfl) (zaH rfl rfl (fun jj=>by(try rw [jj]); exact zah 0 tf3 rfl rfl rfl) (zaH rfl rfl (fun jj=>by(try rw [jj]); exact zaJ (v:=.bool (inB s.short 1 1000)) zyV rfl (fun w hw=>in_c _ _ _ w)) (zaH rfl rfl (fun jj=>by(try rw [jj]); exact zbR rfl) (ph_y (zaX rfl rfl rfl) (ph_y (zaf rfl) (zaz rfl rfl (fun jj=>by(try rw [jj]); exact zab zzz rfl) (zaz rfl rfl (fun jj=>by(try rw [jj]); exact zah 0 tf5 rfl rfl rfl) (zaz rfl rfl (fun jj=>by(try rw [jj]); exact zcr rfl rfl) (zaz rfl rfl (fun jj=>by(try rw [jj]); exact zaf rfl) (zdr rfl rfl (fun jj=>by(try rw [jj]); exact zab zAv rfl) (zdr rfl rfl (fun jj=>by(try rw [jj]); exact zah 0 tf3 rfl rfl rfl) (zdr rfl rfl (fun jj=>by(try rw [jj]); exact zcr rfl rfl) (zaz rfl rfl (fun jj=>by(try rw [jj]); exact zaX rfl rfl rfl) (ph_y (zaR rfl rfl rfl) (gN [1,2,175] rfl (zap rfl (fun hc175=>?_) (fun hc175=>?_)))))))))))))))))))))))))
         ·
          refine gS (gA rfl (gN [1,2] rfl (zaw (zay (zaC rfl (zau rfl)) ?_))))
          rw [zcS (by rw [zdE hco,show v7 s=true from hc175]; simp)]
         ·have hbad:=zq7 hco hc38 (zsq hc43 g2) hc80 hc100 hc123 hc141 hc156 hc175
          refine zaq (gS (gQ (zat 0 zzu rfl rfl (vs:=[_,_,_,_,_,_,_,_,_,_,_,_,_,_,_,_,_,_,_,_]) rfl rfl) (gQ (zab zyH rfl) (gQ (zah 0 tf3 rfl rfl rfl) (gQ (zaJ en88 rfl (fun w hw=>zkn a cap s _ w)) (gQ (zfx rfl rfl) (gM rfl (zai rfl rfl rfl rfl (fun hg181=>?_) (fun hg181=>?_)))))))))
          ·replace hg181:_=true:=hg181
           try rw [hg181]
           refine gQ (zat 0 zzu rfl rfl (vs:=[_,_,_,_,_,_,_,_,_,_,_,_,_,_,_,_,_,_,_,_]) rfl rfl) (gT rfl rfl rfl (zaG rfl rfl (zbm zHE rfl (fun w hw=>zg2 a cap s w (rH hl hw) (zgZ hbad))) fun p183=>(gT rfl rfl rfl (gQ (zaV (Tryz.underlying245) rfl) (gT rfl rfl rfl (gQ (zeT rfl rfl) (gQ (za5 rfl rfl rfl) (gA rfl (gN [2] rfl (zaw (zay (zaC rfl (zau rfl)) ?_)))))))))))
           rw [zlD hbad,hg181]; rfl
          ·replace hg181:_=false:=hg181
           try rw [hg181]
           refine gF rfl rfl rfl (gF rfl rfl rfl (gF rfl rfl rfl (gQ (za5 rfl rfl rfl) (gA rfl (gN [2] rfl (zaw (zay (zaC rfl (zau rfl)) ?_)))))))
           rw [zlD hbad,hg181]; rfl
end Go.Proofs.YteepmmghanbllaaGreatDoor
namespace Go.Pln
open Go Go.K Go.RowKit Go.Stn
abbrev Knd (o:Opn):Prop:=0≤o.kind∧o.kind≤255
def zvV (len top:Int) (o:Opn):Bool:=zhr [⟨W o.kind,1,4⟩,⟨len,1,100000⟩,⟨o.width,1,len⟩,⟨o.at_,0,W (len - o.width)⟩,⟨o.high,1,top⟩,⟨o.frm,0,W (top - o.high)⟩]
theorem zbp {n lo hi:Int}:inB n lo hi=true↔lo≤n∧n≤hi:=by
 unfold inB; simp only [aT,dT]
theorem zh4 {len top:Int} {o:Opn} (hk:Knd o) (hl:1≤len∧len≤100000) (hh:0≤top∧top≤3000) :
  zvV len top o=true↔(1≤o.kind∧o.kind≤4)∧(1≤o.width∧o.width≤len)∧(0≤o.at_∧o.at_≤len - o.width)∧(1≤o.high∧o.high≤top)∧(0≤o.frm∧o.frm≤top - o.high):=by
 unfold zvV
 simp only [zcC,zdI,aT,zbp,and_true]
 rw [zbr (n:=o.kind) (by omega) (by omega)]
 constructor
 ·rintro ⟨a,b,c,d,e,f⟩
  rw [zbr (by omega) (by omega)] at d f
  exact⟨a,c,d,e,f⟩
 ·rintro ⟨a,c,d,e,f⟩
  rw [zbr (n:=len - o.width) (by omega) (by omega),zbr (n:=top - o.high) (by omega) (by omega)]
  exact⟨a,hl,c,d,e,f⟩
structure zn8 (len top:Int) (o:Opn):Prop where
 k:1≤o.kind∧o.kind≤4
 w:1≤o.width∧o.width≤len
 a:0≤o.at_∧o.at_+o.width≤len
 h:1≤o.high∧o.high≤top
 f:0≤o.frm∧o.frm+o.high≤top
 l:1≤len∧len≤100000
 s:o.kind=3→o.frm+o.high=top
 g:o.kind=4→o.frm+o.high=top∧o.frm=0
theorem zh3 {len top:Int} {o:Opn}:zfY len top o=true↔zn8 len top o:=by
 unfold zfY
 simp only [aT,Bool.or_eq_true,nT,dT,dF,zbp]
 constructor
 ·rintro ⟨⟨⟨⟨⟨⟨a,b⟩,c⟩,d⟩,e⟩,f⟩,g,h⟩
  exact⟨a,c,by omega,e,by omega,b,by omega,by omega⟩
 ·rintro ⟨a,b,c,d,e,f,g,h⟩
  refine⟨⟨⟨⟨⟨⟨a,f⟩,b⟩,by omega⟩,d⟩,by omega⟩,?_,?_⟩
  ·by_cases h3:o.kind=3
   ·exact .inr (g h3)
   ·exact .inl h3
  ·by_cases h4:o.kind=4
   ·exact .inr (h h4)
   ·exact .inl h4
theorem ztO {len top:Int} {o:Opn} (hk:Knd o) (hl:1≤len∧len≤100000) (hh:0≤top∧top≤3000) (h:(!zvV len top o)=true):zfY len top o=false:=by
 cases hb:zfY len top o with
 | false=>rfl
 | true=>
  have f:=zh3.1 hb
  have:=(zh4 hk hl hh).2 ⟨f.k,f.w,by have:=f.a; omega,f.h,by have:=f.f; omega⟩
  rw [this] at h; cases h
theorem zrq {len top:Int} {o:Opn} (hk:Knd o) (hl:1≤len∧len≤100000) (hh:0≤top∧top≤3000) (h:(!zvV len top o)=false) :
  zfY len top o=((!decide (o.kind=3)||decide (o.frm+o.high=top))&&(!decide (o.kind=4)||(decide (o.frm+o.high=top)&&decide (o.frm=0)))):=by
 have f:=(zh4 hk hl hh).1 (zll h)
 unfold zfY
 rw [show inB o.kind 1 4=true from zbp.2 f.1,show inB len 1 100000=true from zbp.2 hl,show inB o.width 1 len=true from zbp.2 f.2.1,show inB o.at_ 0 (len - o.width)=true from zbp.2 f.2.2.1,show inB o.high 1 top=true from zbp.2 f.2.2.2.1,show inB o.frm 0 (top - o.high)=true from zbp.2 f.2.2.2.2]
 simp
def zhk (o p:Opn):Bool:=decide (o.at_ < W (p.at_+p.width))&&decide (p.at_ < W (o.at_+o.width))&&decide (o.frm < W (p.frm+p.high))&&decide (p.frm < W (o.frm+o.high))
theorem zp8 {len top:Int} {o p:Opn} (hh:top≤3000) (ho:zn8 len top o) (hp:zn8 len top p):zhk o p=zea o p:=by
 have a1:=ho.a; have a2:=ho.f; have a3:=hp.a; have a4:=hp.f; have a5:=ho.w; have a6:=ho.h; have a7:=hp.w; have a8:=hp.h; have a9:=ho.l
 unfold zhk zea
 rw [zbr (n:=p.at_+p.width) (by omega) (by omega),zbr (n:=o.at_+o.width) (by omega) (by omega),zbr (n:=p.frm+p.high) (by omega) (by omega),zbr (n:=o.frm+o.high) (by omega) (by omega)]
theorem zf7 {top:Int} {w:Wll} {i:Nat} (h:zcI top w i=true):zn8 w.length top (w.opens.getD i default):=by
 unfold zcI at h
 simp only [aT] at h
 exact zh3.1 h.1
theorem zoS {top:Int} {w:Wll} {i:Int} (hh:top≤3000) (h0:0≤i) (h1:i < (w.opens.length:Int)) (hp:∀ j:Nat,(j:Int) < i→zcI top w j=true) (ho:zn8 w.length top (w.opens.getD i.toNat default)) :
  (w.opens.take i.toNat).any (zhk (w.opens.getD i.toNat default))=(w.opens.take i.toNat).any (fun q=>zea (w.opens.getD i.toNat default) q):=by
 have key:∀ q∈w.opens.take i.toNat,zhk (w.opens.getD i.toNat default) q=zea (w.opens.getD i.toNat default) q:=fun q hq=>by
  obtain⟨j,hj,rfl⟩:=List.getElem_of_mem hq
  rw [List.length_take] at hj
  have hf:=zf7 (hp j (by omega))
  rw [gE,eG (by omega)] at hf
  rw [List.getElem_take]
  exact zp8 hh ho hf
 rw [Bool.eq_iff_iff,List.any_eq_true,List.any_eq_true]
 exact⟨fun⟨q,h1,h2⟩=>⟨q,h1,by rw [←key q h1]; exact h2⟩,fun⟨q,h1,h2⟩=>⟨q,h1,by rw [key q h1]; exact h2⟩⟩
theorem zln {top:Int} {w:Wll} {i:Int} (hh:top≤3000) (h0:0≤i) (h1:i < (w.opens.length:Int)) (hp:∀ j:Nat,(j:Int) < i→zcI top w j=true) :
  (!zfY w.length top (w.opens.getD i.toNat default)||(w.opens.take i.toNat).any (zhk (w.opens.getD i.toNat default))) = !zcI top w i.toNat:=by
 unfold zcI
 cases hf:zfY w.length top (w.opens.getD i.toNat default) with
 | false=>rfl
 | true=>rw [zoS hh h0 h1 hp (zh3.1 hf)]; simp
def zfP (w:Wll):Bool:=zdY w.name&&inB w.length 1 100000&&inB (w.opens.length:Int) 0 20
theorem zgN (top:Int) (w:Wll):zd1 top w=(zfP w&&allI w.opens.length fun i=>zcI top w i):=rfl
theorem zkz {top:Int} {w:Wll} (h:zfP w=false):zd1 top w=false:=by rw [zgN,h]; rfl
theorem zhH {top:Int} {w:Wll} {i:Int} (h0:0≤i) (h1:i < (w.opens.length:Int)) (h:zcI top w i.toNat=false):zd1 top w=false:=by
 rw [zgN,zc9 (i:=i.toNat) (by omega) h,Bool.and_false]
theorem zn0 {top:Int} {w:Wll} {i:Int} (h:zfP w=true) (h1:¬ i < (w.opens.length:Int)) (hp:∀ j:Nat,(j:Int) < i→zcI top w j=true):zd1 top w=true:=by
 rw [zgN,h,zdN (fun j hj=>hp j (by omega))]; rfl
theorem zgM {w:Wll} (h:zfP w=true):(1≤w.length∧w.length≤100000)∧w.opens.length≤20:=by
 unfold zfP at h
 simp only [aT,zbp] at h
 omega
theorem zqW {top:Int} {w:Wll} (h:zd1 top w=true):zfP w=true:=by
 rw [zgN,aT] at h; exact h.1
theorem zmJ (w:Wll):zfP w = !(!zgx w.name||!zhr [⟨w.length,1,100000⟩,⟨(w.opens.length:Int),0,20⟩]):=by
 unfold zfP
 rw [zcC,zcC,zdI,znv]
 cases zdY w.name <;> cases inB w.length 1 100000 <;> cases inB (w.opens.length:Int) 0 20 <;> rfl
theorem zuO (w:Wll):zfP w = !(!zdY w.name||!inB w.length 1 100000||decide (20 < (w.opens.length:Int))):=by
 unfold zfP
 have:inB (w.opens.length:Int) 0 20 = !decide (20 < (w.opens.length:Int)):=by
  rw [Bool.eq_iff_iff,zbp,nT,dF]; omega
 rw [this]
 cases zdY w.name <;> cases inB w.length 1 100000 <;> cases decide (20 < (w.opens.length:Int)) <;> rfl
theorem zdu {f:Nat→Bool} {i:Int} (h0:0≤i) (h:∀ j:Nat,(j:Int) < i→f j=true) (hi:f i.toNat=true):∀ j:Nat,(j:Int) < i+1→f j=true:=fun j hj=>by
 rcases Int.lt_or_eq_of_le (show(j:Int)≤i by omega) with g | g
 ·exact h j g
 ·rw [show j=i.toNat from by omega]; exact hi
def zav (S:List ShC) (n:ByteArray):ShC:=if 0≤zaS S n then S.getD (zaS S n).toNat default else default
theorem findI_lt {α:Type} (p:α→Bool) (l:List α):zbJ p l < (l.length:Int)∨zbJ p l = -1:=by
 unfold zbJ
 split
 ·rename_i h
  left
  obtain⟨x,hx,hp⟩:=List.any_eq_true.1 h
  have:=List.findIdx_lt_length_of_exists ⟨x,hx,hp⟩
  omega
 ·right; rfl
theorem zrp {α:Type} (p:α→Bool) (l:List α):-1≤zbJ p l:=by unfold zbJ; split <;> omega
theorem ziE {S:List ShC} {n:ByteArray} (h:0≤zaS S n):zaS S n < (S.length:Int):=by
 rcases findI_lt (fun z:ShC=>z.s.name.toList == n.toList) S with g | g
 ·exact g
 ·unfold zaS at h; rw [g] at h; omega
theorem zky {S:List WlC} {n:ByteArray} (h:0≤zaM S n):zaM S n < (S.length:Int):=by
 rcases findI_lt (fun z:WlC=>z.s.name.toList == n.toList) S with g | g
 ·exact g
 ·unfold zaM at h; rw [g] at h; omega
theorem zgp {S:List ShC} {n:ByteArray} (h:0≤zaS S n):zav S n∈S:=by
 unfold zav
 rw [if_pos h]
 exact za0 (by have:=ziE h; omega)
theorem zpL {S:List ShC} {n:ByteArray} {w:World} (h:∀ z∈S,Has w (Ints z.a z.s.heights)):Has w (Ints (zav S n).a (zav S n).s.heights):=by
 by_cases h0:0≤zaS S n
 ·exact h _ (zgp h0)
 ·unfold zav
  rw [if_neg h0]
  exact⟨fun _=>False,fun _ hk=>hk.elim,.inl rfl⟩
theorem zrs {S:List ShC} {n:ByteArray} {P:ShC→Prop} (h:∀ z∈S,P z) (hd:P default):P (zav S n):=by
 by_cases h0:0≤zaS S n
 ·exact h _ (zgp h0)
 ·unfold zav; rw [if_neg h0]; exact hd
theorem zh2 {α:Type} [Inhabited α] {p:α→Bool} {l:List α} {i:Int} (h0:0≤i) (h1:i < (l.length:Int)) (hp:p (l.getD i.toNat default)=true):decide (zbJ p l=i) = !(l.take i.toNat).any p:=by
 rw [Bool.eq_iff_iff,dT,nT,List.any_eq_false]
 constructor
 ·intro h x hx
  obtain⟨j,hj,rfl⟩:=List.getElem_of_mem hx
  rw [List.length_take] at hj
  rw [List.getElem_take]
  have hany:l.any p=true:=List.any_eq_true.2 ⟨_,za0 (by omega),hp⟩
  unfold zbJ at h
  rw [if_pos hany] at h
  have:=List.not_of_lt_findIdx (p:=p) (xs:=l) (i:=j) (by omega)
  simpa using this
 ·intro h
  refine zcs h0 h1 (fun j hj=>?_) hp
  have:=h (l.getD j default) (by
   rw [gE,eG (by omega)]
   exact List.mem_take_iff_getElem.2 ⟨j,by omega,rfl⟩)
  simpa using this
theorem ztM {α:Type} [Inhabited α] {p:α→Bool} {l:List α} {i:Int} (h0:0≤i) (h1:i < (l.length:Int)) (hp:p (l.getD i.toNat default)=true):decide (zbJ p l < i) = !decide (zbJ p l=i):=by
 have hany:l.any p=true:=List.any_eq_true.2 ⟨_,za0 (by omega),hp⟩
 have hle:(l.findIdx p:Int)≤i:=by
  have:l.findIdx p≤i.toNat:=by
   rcases Nat.lt_or_ge i.toNat (l.findIdx p) with g | g
   ·have:=List.not_of_lt_findIdx g
    rw [gE,eG (by omega)] at hp
    simp at hp
    simp [hp] at this
   ·exact g
  omega
 unfold zbJ
 rw [if_pos hany,Bool.eq_iff_iff,dT,nT,dF]
 omega
def shAt (S:List ShC) (i:Nat):Bool:=!(S.take i).any (fun z=>z.s.name.toList == (S.getD i default).s.name.toList)&&za4 (S.getD i default).s
def wlAt (S:List ShC) (V:List WlC) (i:Nat):Bool:=decide (0≤zaS S (V.getD i default).s.sheet)&&!(V.take i).any (fun z=>z.s.name.toList == (V.getD i default).s.name.toList)&&zd1 (zav S (V.getD i default).s.sheet).s.height (V.getD i default).s
def zc4 (S:List ShC) (V:List WlC):Bool:=!(decide (20 < (S.length:Int))||decide (50 < (V.length:Int)))&&allI S.length (shAt S)&&allI V.length (wlAt S V)
def zeW (S:List ShC) (V:List WlC):Int:=if zc4 S V=true then 0 else 2
end Go.Pln
namespace Go.Proofs.YteepmmghanbllaaGreatDoor
open Go.K Go.Stn Go.Pln Go.RowKit
theorem tf34:TF Tryz.prog 34 false 1 (.slice none 0 0):=tK
theorem tf35:TF Tryz.prog 35 false 1 (.slice none 0 0):=tK
theorem zAi:TF Tryz.prog 114 false 1 (.slice none 0 0):=tK
theorem zyz:TF Tryz.prog 116 true 4 (.agg #[.string ⟨#[]⟩,.string ⟨#[]⟩,.int .i64 0,.slice none 0 0]):=tK
theorem zy2:TF Tryz.prog 122 true 5 (.agg #[.int .u8 0,.int .i64 0,.int .i64 0,.int .i64 0,.int .i64 0]):=tK
theorem zkW:FO Tryz.prog 37 0 0:=fK
theorem zna:FO Tryz.prog 37 1 1:=fK
theorem zBn:FO Tryz.prog 116 0 0:=fK
theorem zAH:FO Tryz.prog 116 2 2:=fK
theorem zyL:FO Tryz.prog 116 3 3:=fK
theorem zAI:FO Tryz.prog 122 0 0:=fK
theorem zAb:FO Tryz.prog 122 1 1:=fK
theorem zAc:FO Tryz.prog 122 2 2:=fK
theorem zyW:FO Tryz.prog 122 3 3:=fK
theorem zzO:FO Tryz.prog 122 4 4:=fK
theorem se34:SE Tryz.prog 34 118 20:=⟨Tryz.underlying34,by kernel_rfl⟩
theorem se35:SE Tryz.prog 35 116 4:=⟨Tryz.underlying35,by kernel_rfl⟩
theorem zCz:SE Tryz.prog 114 122 5:=⟨Tryz.underlying114,by kernel_rfl⟩
theorem zHB:En Tryz.prog 128:=eK Tryz.func128
theorem zHC:En Tryz.prog 129:=eK Tryz.func129
theorem zxe:En Tryz.prog 136:=eK Tryz.func136
theorem zxf:En Tryz.prog 137:=eK Tryz.func137
theorem zxg:En Tryz.prog 138:=eK Tryz.func138
theorem zxh:En Tryz.prog 139:=eK Tryz.func139
theorem zvT:En Tryz.prog 140:=eK Tryz.func140
theorem zxl:En Tryz.prog 156:=eK Tryz.func156
theorem zDu  (w:World):(Instr.build 118 #[]).run Tryz.prog w=.ok (.agg #[.string ⟨#[]⟩,.int .i64 0,.int .i64 0,.int .i64 0,.int .i64 0,.slice none 0 0,.int .i64 0,.int .i64 0,.int .i64 0,.int .i64 0,.int .i64 0,.int .i64 0,.int .i64 0,.int .u8 0,.int .i64 0,.int .i64 0,.int .i64 0,.int .i64 0,.int .i64 0,.int .i64 0]) w:=by kernel_rfl
theorem zFU (x0_0 x0_1 x0_2 x1_0 x1_1 x1_2 x2_0 x2_1 x2_2 x3_0 x3_1 x3_2 x4_0 x4_1 x4_2 x5_0 x5_1 x5_2:Int) (w:World):(Instr.buildSlice 257 6 #[(0,.agg #[.int .i64 x0_0,.int .i64 x0_1,.int .i64 x0_2]),(1,.agg #[.int .i64 x1_0,.int .i64 x1_1,.int .i64 x1_2]),(2,.agg #[.int .i64 x2_0,.int .i64 x2_1,.int .i64 x2_2]),(3,.agg #[.int .i64 x3_0,.int .i64 x3_1,.int .i64 x3_2]),(4,.agg #[.int .i64 x4_0,.int .i64 x4_1,.int .i64 x4_2]),(5,.agg #[.int .i64 x5_0,.int .i64 x5_1,.int .i64 x5_2])]).run Tryz.prog w=.ok (.slice (some ⟨w.heap.size,0,none⟩) 6 6) (w.alloc (.cells (([⟨x0_0,x0_1,x0_2⟩,⟨x1_0,x1_1,x1_2⟩,⟨x2_0,x2_1,x2_2⟩,⟨x3_0,x3_1,x3_2⟩,⟨x4_0,x4_1,x4_2⟩,⟨x5_0,x5_1,x5_2⟩]:List (Lim)).flatMap zgk).toArray 236)):=by kernel_rfl
theorem zhj (a:Option Addr) (cap:Nat) (l:List Opn) (f:Opn→Bool) (gg:FuncId) (gfs gcap:List Value) (w:World) (hl:Has w (zaW a 5 zba l)) (hs:zaP l.length) (M:World→Prop) (hM:∀ w',Ext w w'→M w') (hen:En Tryz.prog gg) (hg:∀ (z:Opn) w',M w'→Calls Tryz.prog gg (gfs++[Value.agg #[.int .u8 z.kind,.int .i64 z.at_,.int .i64 z.width,.int .i64 z.frm,.int .i64 z.high]]++gcap).toArray w' (Pure (.bool (f z)) w')) :
  Calls Tryz.prog 156 #[.slice a l.length cap,.func (.func gg) gfs.toArray gcap.toArray] w (Pure (.int .i64 (zbJ f l)) w):=by
 refine zan (vs:=[_,_]) Tryz.func156 rfl rfl (bL rfl) (gS (gA rfl (gN [0,1,4] rfl (zac (gS (gM rfl (gQ (zaV (Tryz.underlying114) rfl) (gM rfl (gN [0,1,4,7,8] rfl (zas (zbf (X:=Int) (fun(i:Int)=>[(0,.slice a l.length cap),(1,.func (.func gg) gfs.toArray gcap.toArray),(4,.int .i64 0),(7,.int .i64 (l.length:Int)),(8,.int .i64 i)]) (fun(i:Int)=>[]) (fun(i:Int)=>(0≤i∧i≤l.length∧∀ j:Nat,(j:Int) < i→f (l.getD j default)=false)) (fun(i:Int)=>(l.length - i).toNat) 0 (sB rfl) rfl ?_ ?_)))))))))))
 ·exact⟨by omega,by omega,fun j hj=>by omega⟩
 ·rintro i hI
  obtain⟨g0,g1,g2⟩:=hI
  refine gS (gQ (zbw rfl rfl) (gN [0,1,4,7,8,9] rfl (zac (zap rfl (fun hc9=>?_) (fun hc9=>?_)))))
  ·simp only [dT] at hc9
   refine zaq (zac (zas (gS (gM rfl (gA rfl (gN [0,1,4,5,7,8] rfl (gS (gM rfl (gM rfl (gM rfl (gQ (zaE zCz rfl rfl (fun _=>rH hl)) (gQ (zbv (vs:=[_,_,_,_,_]) zy2 rfl (fun _=>rH hl) (by omega) (by omega) rfl) (gQ (zde (fs:=gfs) (cap:=gcap) hen rfl rfl (fun w hw=>hg (l.getD (i).toNat default) w (hM _ hw.base.ext0))) (gN [0,1,4,5,7,8,16] rfl (zap rfl (fun hc16=>?_) (fun hc16=>?_))))))))))))))))
   ·
    refine gS (gM rfl (gA rfl (gN [0,1,4,7,8] rfl (zaw (zay (zaC rfl (zau rfl)) ?_)))))
    exact congrArg _ (zcs g0 (by omega) g2 hc16).symm
   ·
    refine zaq (zaa (gQ (zaY rfl rfl) (gM rfl (gN [0,1,4,7,8] rfl ?_))))
    exact za1 _ (sB rfl) rfl ⟨by omega,by omega,fun j hj=>if h:(j:Int) < i then g2 j h else(by rw [show j=i.toNat from by omega]; exact hc16)⟩ (by omega)
  ·simp only [dF] at hc9
   refine za8 rfl (gS (gA rfl (gN [4] rfl (zaw (zay (zaC rfl (zau rfl)) ?_)))))
   exact congrArg _ (zck (fun j hj=>g2 j (by omega))).symm
theorem zhR (a:Option Addr) (cap:Nat) (l:List Opn) (f:Opn→Bool) (gg:FuncId) (gfs gcap:List Value) (w:World) (hl:Has w (zaW a 5 zba l)) (hs:zaP l.length) (M:World→Prop) (hM:∀ w',Ext w w'→M w') (hen:En Tryz.prog gg) (hg:∀ (z:Opn) w',M w'→Calls Tryz.prog gg (gfs++[Value.agg #[.int .u8 z.kind,.int .i64 z.at_,.int .i64 z.width,.int .i64 z.frm,.int .i64 z.high]]++gcap).toArray w' (Pure (.bool (f z)) w')) :
  Calls Tryz.prog 139 #[.slice a l.length cap,.func (.func gg) gfs.toArray gcap.toArray] w (Pure (.bool (l.any f)) w):=by
 refine zan (vs:=[_,_]) Tryz.func139 rfl rfl (bL rfl) (gS (gA rfl (gN [0,1,4] rfl (gS (gM rfl (gM rfl (gQ (zaJ zxl rfl (fun w hw=>zhj _ _ l f _ _ _ w (rH hl hw) (by assumption) M (fun w' h=>hM w' (hw.base.ext0.trans h)) hen hg)) (gQ (zfx rfl rfl) (gA rfl (gN [4] rfl (zaw (zay (zaC rfl (zau rfl)) ?_))))))))))))
 rw [ze9]
theorem zld (a:Option Addr) (cap:Nat) (l:List ShC) (f:ShC→Bool) (gg:FuncId) (gfs gcap:List Value) (w:World) (hl:Has w (zaW a 20 zbH l)) (hs:zaP l.length) (M:World→Prop) (hM:∀ w',Ext w w'→M w') (hen:En Tryz.prog gg) (hg:∀ (z:ShC) w',M w'→Calls Tryz.prog gg (gfs++[Value.agg #[.string z.s.name,.int .i64 z.s.base,.int .i64 z.s.batter,.int .i64 z.s.height,.int .i64 z.s.skin,.slice z.a z.s.heights.length z.cap,.int .i64 z.s.least,.int .i64 z.s.lap,.int .i64 z.s.run,.int .i64 z.s.every,.int .i64 z.s.at_,.int .i64 z.s.footing,.int .i64 z.s.spread,.int .u8 z.s.cope,.int .i64 z.s.tall,.int .i64 z.s.short,.int .i64 z.s.thick,.int .i64 z.s.low,.int .i64 z.s.high,.int .i64 z.s.rood]]++gcap).toArray w' (Pure (.bool (f z)) w')) :
  Calls Tryz.prog 128 #[.slice a l.length cap,.func (.func gg) gfs.toArray gcap.toArray] w (Pure (.int .i64 (zbJ f l)) w):=by
 refine zan (vs:=[_,_]) Tryz.func128 rfl rfl (bL rfl) (gS (gA rfl (gN [0,1,4] rfl (zac (gS (gM rfl (gQ (zaV (Tryz.underlying34) rfl) (gM rfl (gN [0,1,4,7,8] rfl (zas (zbf (X:=Int) (fun(i:Int)=>[(0,.slice a l.length cap),(1,.func (.func gg) gfs.toArray gcap.toArray),(4,.int .i64 0),(7,.int .i64 (l.length:Int)),(8,.int .i64 i)]) (fun(i:Int)=>[]) (fun(i:Int)=>(0≤i∧i≤l.length∧∀ j:Nat,(j:Int) < i→f (l.getD j default)=false)) (fun(i:Int)=>(l.length - i).toNat) 0 (sB rfl) rfl ?_ ?_)))))))))))
 ·exact⟨by omega,by omega,fun j hj=>by omega⟩
 ·rintro i hI
  obtain⟨g0,g1,g2⟩:=hI
  refine gS (gQ (zbw rfl rfl) (gN [0,1,4,7,8,9] rfl (zac (zap rfl (fun hc9=>?_) (fun hc9=>?_)))))
  ·simp only [dT] at hc9
   refine zaq (zac (zas (gS (gM rfl (gA rfl (gN [0,1,4,5,7,8] rfl (gS (gM rfl (gM rfl (gM rfl (gQ (zaE se34 rfl rfl (fun _=>rH hl)) (gQ (zbv (vs:=[_,_,_,_,_,_,_,_,_,_,_,_,_,_,_,_,_,_,_,_]) zyq rfl (fun _=>rH hl) (by omega) (by omega) rfl) (gQ (zde (fs:=gfs) (cap:=gcap) hen rfl rfl (fun w hw=>hg (l.getD (i).toNat default) w (hM _ hw.base.ext0))) (gN [0,1,4,5,7,8,16] rfl (zap rfl (fun hc16=>?_) (fun hc16=>?_))))))))))))))))
   ·
    refine gS (gM rfl (gA rfl (gN [0,1,4,7,8] rfl (zaw (zay (zaC rfl (zau rfl)) ?_)))))
    exact congrArg _ (zcs g0 (by omega) g2 hc16).symm
   ·
    refine zaq (zaa (gQ (zaY rfl rfl) (gM rfl (gN [0,1,4,7,8] rfl ?_))))
    exact za1 _ (sB rfl) rfl ⟨by omega,by omega,fun j hj=>if h:(j:Int) < i then g2 j h else(by rw [show j=i.toNat from by omega]; exact hc16)⟩ (by omega)
  ·simp only [dF] at hc9
   refine za8 rfl (gS (gA rfl (gN [4] rfl (zaw (zay (zaC rfl (zau rfl)) ?_)))))
   exact congrArg _ (zck (fun j hj=>g2 j (by omega))).symm
theorem zle (a:Option Addr) (cap:Nat) (l:List WlC) (f:WlC→Bool) (gg:FuncId) (gfs gcap:List Value) (w:World) (hl:Has w (zaW a 4 zbS l)) (hs:zaP l.length) (M:World→Prop) (hM:∀ w',Ext w w'→M w') (hen:En Tryz.prog gg) (hg:∀ (z:WlC) w',M w'→Calls Tryz.prog gg (gfs++[Value.agg #[.string z.s.name,.string z.s.sheet,.int .i64 z.s.length,.slice z.a z.s.opens.length z.cap]]++gcap).toArray w' (Pure (.bool (f z)) w')) :
  Calls Tryz.prog 136 #[.slice a l.length cap,.func (.func gg) gfs.toArray gcap.toArray] w (Pure (.int .i64 (zbJ f l)) w):=by
 refine zan (vs:=[_,_]) Tryz.func136 rfl rfl (bL rfl) (gS (gA rfl (gN [0,1,4] rfl (zac (gS (gM rfl (gQ (zaV (Tryz.underlying35) rfl) (gM rfl (gN [0,1,4,7,8] rfl (zas (zbf (X:=Int) (fun(i:Int)=>[(0,.slice a l.length cap),(1,.func (.func gg) gfs.toArray gcap.toArray),(4,.int .i64 0),(7,.int .i64 (l.length:Int)),(8,.int .i64 i)]) (fun(i:Int)=>[]) (fun(i:Int)=>(0≤i∧i≤l.length∧∀ j:Nat,(j:Int) < i→f (l.getD j default)=false)) (fun(i:Int)=>(l.length - i).toNat) 0 (sB rfl) rfl ?_ ?_)))))))))))
 ·exact⟨by omega,by omega,fun j hj=>by omega⟩
 ·rintro i hI
  obtain⟨g0,g1,g2⟩:=hI
  refine gS (gQ (zbw rfl rfl) (gN [0,1,4,7,8,9] rfl (zac (zap rfl (fun hc9=>?_) (fun hc9=>?_)))))
  ·simp only [dT] at hc9
   refine zaq (zac (zas (gS (gM rfl (gA rfl (gN [0,1,4,5,7,8] rfl (gS (gM rfl (gM rfl (gM rfl (gQ (zaE se35 rfl rfl (fun _=>rH hl)) (gQ (zbv (vs:=[_,_,_,_]) zyz rfl (fun _=>rH hl) (by omega) (by omega) rfl) (gQ (zde (fs:=gfs) (cap:=gcap) hen rfl rfl (fun w hw=>hg (l.getD (i).toNat default) w (hM _ hw.base.ext0))) (gN [0,1,4,5,7,8,16] rfl (zap rfl (fun hc16=>?_) (fun hc16=>?_))))))))))))))))
   ·
    refine gS (gM rfl (gA rfl (gN [0,1,4,7,8] rfl (zaw (zay (zaC rfl (zau rfl)) ?_)))))
    exact congrArg _ (zcs g0 (by omega) g2 hc16).symm
   ·
    refine zaq (zaa (gQ (zaY rfl rfl) (gM rfl (gN [0,1,4,7,8] rfl ?_))))
    exact za1 _ (sB rfl) rfl ⟨by omega,by omega,fun j hj=>if h:(j:Int) < i then g2 j h else(by rw [show j=i.toNat from by omega]; exact hc16)⟩ (by omega)
  ·simp only [dF] at hc9
   refine za8 rfl (gS (gA rfl (gN [4] rfl (zaw (zay (zaC rfl (zau rfl)) ?_)))))
   exact congrArg _ (zck (fun j hj=>g2 j (by omega))).symm
theorem zsi (z:ShC) (n:ByteArray) (b:Nat) (w:World) (hb:Has w (Box b [.string n] 9)) :
  Calls Tryz.prog 129 #[.agg #[.string z.s.name,.int .i64 z.s.base,.int .i64 z.s.batter,.int .i64 z.s.height,.int .i64 z.s.skin,.slice z.a z.s.heights.length z.cap,.int .i64 z.s.least,.int .i64 z.s.lap,.int .i64 z.s.run,.int .i64 z.s.every,.int .i64 z.s.at_,.int .i64 z.s.footing,.int .i64 z.s.spread,.int .u8 z.s.cope,.int .i64 z.s.tall,.int .i64 z.s.short,.int .i64 z.s.thick,.int .i64 z.s.low,.int .i64 z.s.high,.int .i64 z.s.rood],.pointer (some ⟨b,0,none⟩)] w (Pure (.bool (z.s.name.toList == n.toList)) w):=by
 refine zan (vs:=[_,_]) Tryz.func129 rfl rfl (bL rfl) (gS (zaG rfl rfl (za3 (vs:=[_,_,_,_,_,_,_,_,_,_,_,_,_,_,_,_,_,_,_,_]) rfl rfl) fun b2=>(gA rfl (gN [1,2,3] rfl (gS (gQ (zab zBp rfl) (gQ (zah 0 tf9 rfl rfl rfl) (gQ (zbW tf9 rfl (fun _ hw=>zaQ (rH hb hw) rfl)) (gQ (zge rfl rfl) (gA rfl (gN [3] rfl (zaw (zay (zaC rfl (zau rfl)) ?_)))))))))))))
 rfl
theorem zuP (z:WlC) (n:ByteArray) (b:Nat) (w:World) (hb:Has w (Box b [.string n] 9)) :
  Calls Tryz.prog 137 #[.agg #[.string z.s.name,.string z.s.sheet,.int .i64 z.s.length,.slice z.a z.s.opens.length z.cap],.pointer (some ⟨b,0,none⟩)] w (Pure (.bool (z.s.name.toList == n.toList)) w):=by
 refine zan (vs:=[_,_]) Tryz.func137 rfl rfl (bL rfl) (gS (zaG rfl rfl (za3 (vs:=[_,_,_,_]) rfl rfl) fun b2=>(gA rfl (gN [1,2,3] rfl (gS (gQ (zab zBn rfl) (gQ (zah 0 tf9 rfl rfl rfl) (gQ (zbW tf9 rfl (fun _ hw=>zaQ (rH hb hw) rfl)) (gQ (zge rfl rfl) (gA rfl (gN [3] rfl (zaw (zay (zaC rfl (zau rfl)) ?_)))))))))))))
 rfl
theorem zeu (a:Option Addr) (cap:Nat) (S:List ShC) (b:Option Addr) (nw bcap:Nat) (n:ByteArray) (w:World) (hl:Has w (zaW a 20 zbH S)) (hs:zaP S.length) :
  Calls Tryz.prog 103 #[.agg #[.slice a S.length cap,.slice b nw bcap],.string n] w (Pure (.tuple #[.agg (zbH (zav S n)).toArray,.bool (decide (0≤zaS S n))]) w):=by
 have hlt:=fun h=>ziE (S:=S) (n:=n) h
 refine zan (vs:=[_,_]) Tryz.func103 rfl rfl (bL rfl) (gS (zaG rfl rfl (za3 (vs:=[_,_]) rfl rfl) fun b2=>(zaG rfl rfl (za3 (vs:=[_]) rfl rfl) fun b3=>(zaG rfl rfl (zaL zyq (zs:=[_,_,_,_,_,_,_,_,_,_,_,_,_,_,_,_,_,_,_,_]) rfl) fun b4=>(gA rfl (gN [2,3,4,5] rfl (gS (gQ (zab zkW rfl) (gQ (zah 2 tf34 rfl rfl rfl) (gQ (zbO («as»:=[]) (bs:=[_]) rfl rfl) (gQ (zaJ zHB rfl (fun w hw=>show Calls _ _ _ w (Pure (.int .i64 (zaS S n)) w) from zld _ _ S (fun z=>z.s.name.toList == n.toList) 129 [] [.pointer (some ⟨b3,0,none⟩)] w (rH hl hw) (by assumption) (fun w'=>Has w' (Box b3 [.string n] 9)) (fun w' hx=>Has.ext (hw.has (p:=1) rfl) hx) zHC (fun z w' hm=>zsi z n b3 w' hm))) (gA rfl (gN [2,4,5,6] rfl (zac (gS (gM rfl (gQ (zbw rfl rfl) (gN [2,4,5,6,12] rfl (zap rfl (fun hc12=>?_) (fun hc12=>?_))))))))))))))))))))
 ·have h0:¬ 0≤zaS S n:=by have:=oT hc12; omega
  refine gS (gQ (zaI (parts:=[]) rfl zDu) (zbz 0 zyq rfl rfl (vs:=[_,_,_,_,_,_,_,_,_,_,_,_,_,_,_,_,_,_,_,_]) rfl rfl rfl rfl rfl (gA rfl (gN [2,4,5,6] rfl (zaw (zay (zc2 rfl (zbU (i:=0) (vs:=[.string ⟨#[]⟩,.int .i64 0,.int .i64 0,.int .i64 0,.int .i64 0,.slice none 0 0,.int .i64 0,.int .i64 0,.int .i64 0,.int .i64 0,.int .i64 0,.int .i64 0,.int .i64 0,.int .u8 0,.int .i64 0,.int .i64 0,.int .i64 0,.int .i64 0,.int .i64 0,.int .i64 0]) zyq rfl rfl rfl rfl) (zau rfl)) ?_))))))
  rw [show zav S n=default from if_neg h0,decide_eq_false h0]; rfl
 ·have h0:0≤zaS S n:=by have:=oD hc12; omega
  have h1:=hlt h0
  refine zaq (gS (gQ (zab zkW rfl) (gQ (zah 2 tf34 rfl rfl rfl) (gM rfl (gQ (zaE se34 rfl rfl (fun _=>rH hl)) (gQ (zbv (vs:=[_,_,_,_,_,_,_,_,_,_,_,_,_,_,_,_,_,_,_,_]) zyq rfl (fun _=>rH hl) (by omega) (by omega) rfl) (zbz 0 zyq rfl rfl (vs:=[_,_,_,_,_,_,_,_,_,_,_,_,_,_,_,_,_,_,_,_]) rfl rfl rfl rfl rfl (gA rfl (gN [4,5] rfl (zaw (zay (zc2 rfl (zbU (i:=0) (vs:=(sV ((S.getD ((zaS S n)).toNat default).s) ((S.getD ((zaS S n)).toNat default).a) ((S.getD ((zaS S n)).toNat default).cap))) zyq rfl rfl rfl rfl) (zau rfl)) ?_)))))))))))
  rw [show zav S n=S.getD (zaS S n).toNat default from if_pos h0,decide_eq_true h0]
theorem zkg (a:Option Addr) (ns cap:Nat) (b:Option Addr) (bcap:Nat) (V:List WlC) (n:ByteArray) (w:World) (hlw:Has w (zaW b 4 zbS V)) (hsw:zaP V.length) :
  Calls Tryz.prog 105 #[.agg #[.slice a ns cap,.slice b V.length bcap],.string n] w (Pure (.int .i64 (zaM V n)) w):=by
 refine zan (vs:=[_,_]) Tryz.func105 rfl rfl (bL rfl) (gS (zaG rfl rfl (za3 (vs:=[_,_]) rfl rfl) fun b2=>(zaG rfl rfl (za3 (vs:=[_]) rfl rfl) fun b3=>(gA rfl (gN [2,3,4] rfl (gS (gQ (zab zna rfl) (gQ (zah 1 tf35 rfl rfl rfl) (gQ (zbO («as»:=[]) (bs:=[_]) rfl rfl) (gQ (zaJ zxe rfl (fun w hw=>show Calls _ _ _ w (Pure (.int .i64 (zaM V n)) w) from zle _ _ V (fun z=>z.s.name.toList == n.toList) 137 [] [.pointer (some ⟨b3,0,none⟩)] w (rH hlw hw) (by assumption) (fun w'=>Has w' (Box b3 [.string n] 9)) (fun w' hx=>Has.ext (hw.has (p:=0) rfl) hx) zxf (fun z w' hm=>zuP z n b3 w' hm))) (gA rfl (gN [4] rfl (zaw (zay (zaC rfl (zau rfl)) ?_))))))))))))))
 rfl
theorem zvW (o:Opn) (b:Option Addr) (bcap:Nat) (v:Wll) (a:Option Addr) (cap:Nat) (s:Sht) (w:World) (hk:Knd o) (hlen:1≤v.length∧v.length≤100000) (hh:0≤s.height∧s.height≤3000) :
  Calls Tryz.prog 138 #[.agg #[.int .u8 o.kind,.int .i64 o.at_,.int .i64 o.width,.int .i64 o.frm,.int .i64 o.high],.agg #[.string v.name,.string v.sheet,.int .i64 v.length,.slice b v.opens.length bcap],.agg #[.string s.name,.int .i64 s.base,.int .i64 s.batter,.int .i64 s.height,.int .i64 s.skin,.slice a s.heights.length cap,.int .i64 s.least,.int .i64 s.lap,.int .i64 s.run,.int .i64 s.every,.int .i64 s.at_,.int .i64 s.footing,.int .i64 s.spread,.int .u8 s.cope,.int .i64 s.tall,.int .i64 s.short,.int .i64 s.thick,.int .i64 s.low,.int .i64 s.high,.int .i64 s.rood]] w (Pure (.bool (zfY v.length s.height o)) w):=by
 refine zan (vs:=[_,_,_]) Tryz.func138 rfl rfl (bL rfl) (gS (zaG rfl rfl (za3 (vs:=[_,_,_,_,_]) rfl rfl) fun b3=>(zaG rfl rfl (za3 (vs:=[_,_,_,_]) rfl rfl) fun b4=>(zaG rfl rfl (za3 (vs:=[_,_,_,_,_,_,_,_,_,_,_,_,_,_,_,_,_,_,_,_]) rfl rfl) fun b5=>(gA rfl (gN [3,4,5,6] rfl (zac (gS (gQ (zab zAI rfl) (gQ (zah 2 tf5 rfl rfl rfl) (gQ (ziU (by kernel_rfl) (Tryz.underlying3) rfl) (gQ (zaI rfl (zyk _ _ _)) (gQ (zab zAH rfl) (gQ (zah 1 tf3 rfl rfl rfl) (gQ (zaI rfl (zyk _ _ _)) (gQ (zab zAc rfl) (gQ (zah 2 tf3 rfl rfl rfl) (gQ (zab zAH rfl) (gQ (zah 1 tf3 rfl rfl rfl) (gQ (zaI rfl (zyk _ _ _)) (gQ (zab zAb rfl) (gQ (zah 2 tf3 rfl rfl rfl) (gQ (zab zAH rfl) (gQ (zah 1 tf3 rfl rfl rfl) (gQ (zab zAc rfl) (gQ (zah 2 tf3 rfl rfl rfl) (gQ (ziW rfl rfl) (gQ (zaI rfl (zyk _ _ _)) (gQ (zab zzO rfl) (gQ (zah 2 tf3 rfl rfl rfl) (gQ (zab zyM rfl) (gQ (zah 0 tf3 rfl rfl rfl) ?_))))))))))))))))))))))))))))))))
 refine gQ (zaI rfl (zyk _ _ _)) (gQ (zab zyW rfl) (gQ (zah 2 tf3 rfl rfl rfl) (gQ (zab zyM rfl) (gQ (zah 0 tf3 rfl rfl rfl) (gQ (zab zzO rfl) (gQ (zah 2 tf3 rfl rfl rfl) (gQ (ziW rfl rfl) (gQ (zaI rfl (zyk _ _ _)) (zaG rfl rfl (zaD rfl (zFU _ _ _ _ _ _ _ _ _ _ _ _ _ _ _ _ _ _) zbM rfl) fun b41=>(gQ (zaJ zAY rfl (fun w hw=>zfT _ _ ([(⟨(IntKind.i64.wrap o.kind),1,4⟩:Lim),(⟨v.length,1,100000⟩:Lim),(⟨o.width,1,v.length⟩:Lim),(⟨o.at_,0,(IntKind.i64.wrap (v.length - o.width))⟩:Lim),(⟨o.high,1,s.height⟩:Lim),(⟨o.frm,0,(IntKind.i64.wrap (s.height - o.high))⟩:Lim)]) w (zam zbM (hw.has (p:=0) rfl)) (by simp [zaP]))) (gQ (zbR rfl) (gN [3,5,6,43] rfl (zap rfl (fun hc43=>?_) (fun hc43=>?_))))))))))))))
 ·have hf:=ztO hk hlen hh hc43
  refine gS (gA rfl (gN [3,5,6] rfl (zaw (zay (zaC rfl (zau rfl)) ?_))))
  rw [hf]
 ·have hf:=zrq hk hlen hh hc43
  have hF:=(zh4 hk hlen hh).1 (zll hc43)
  refine zaq (gS (gQ (zab zyW rfl) (gQ (zah 3 tf3 rfl rfl rfl) (gQ (zab zzO rfl) (gQ (zah 3 tf3 rfl rfl rfl) (gQ (zaY rfl rfl) (gQ (zab zyM rfl) (gQ (zah 1 tf3 rfl rfl rfl) (gQ (zbL rfl rfl) (gA rfl (gN [3,6,7] rfl (zac (gZ 20 (ph_y (zab zAI rfl) (ph_y (zah 3 tf5 rfl rfl rfl) (ph_y (zcr rfl rfl) (ph_y (zaf rfl) (zaz rfl rfl (fun jj=>by(try rw [jj]); exact zaf rfl) (ph_y (zaR rfl rfl rfl) (ph_y (zaf rfl) (zaH rfl rfl (fun jj=>by(try rw [jj]); exact zab zAI rfl) (zaH rfl rfl (fun jj=>by(try rw [jj]); exact zah 3 tf5 rfl rfl rfl) (zaH rfl rfl (fun jj=>by(try rw [jj]); exact zcr rfl rfl) (zaH rfl rfl (fun jj=>by(try rw [jj]); exact zaf rfl) (zc0 rfl rfl (fun jj=>by(try rw [jj]); exact zaf rfl) (zc0 rfl rfl (fun jj=>by(try rw [jj]); exact zaf rfl) (zdr rfl rfl (fun jj=>by(try rw [jj]); exact zab zyW rfl) (zdr rfl rfl (fun jj=>by(try rw [jj]); exact zah 3 tf3 rfl rfl rfl) (zdr rfl rfl (fun jj=>by(try rw [jj]); exact zbL rfl rfl) (zc0 rfl rfl (fun jj=>by(try rw [jj]); exact zaX rfl rfl rfl) (zaH rfl rfl (fun jj=>by(try rw [jj]); exact zaR rfl rfl rfl) (ph_y (zaX rfl rfl rfl) (ph_y (zad rfl) (gN [6] rfl (zaw ?_)))))))))))))))))))))))))))))))))))
  refine zay (zaC rfl (zau rfl)) ?_
  rw [hf]
theorem zug (o p:Opn) (w:World)  :
  Calls Tryz.prog 140 #[.agg #[.int .u8 o.kind,.int .i64 o.at_,.int .i64 o.width,.int .i64 o.frm,.int .i64 o.high],.agg #[.int .u8 p.kind,.int .i64 p.at_,.int .i64 p.width,.int .i64 p.frm,.int .i64 p.high]] w (Pure (.bool (zhk o p)) w):=by
 refine zan (vs:=[_,_]) Tryz.func140 rfl rfl (bL rfl) (gS (zaG rfl rfl (za3 (vs:=[_,_,_,_,_]) rfl rfl) fun b2=>(zaG rfl rfl (za3 (vs:=[_,_,_,_,_]) rfl rfl) fun b3=>(gA rfl (gN [2,3,4] rfl (zac (gZ 39 (ph_y (zab zAb rfl) (ph_y (zah 1 tf3 rfl rfl rfl) (ph_y (zab zAb rfl) (ph_y (zah 0 tf3 rfl rfl rfl) (ph_y (zab zAc rfl) (ph_y (zah 0 tf3 rfl rfl rfl) (ph_y (zfw rfl rfl) (ph_y (zbw rfl rfl) (ph_y (zaf rfl) (zaH rfl rfl (fun jj=>by(try rw [jj]); exact zab zAb rfl) (zaH rfl rfl (fun jj=>by(try rw [jj]); exact zah 0 tf3 rfl rfl rfl) (zaH rfl rfl (fun jj=>by(try rw [jj]); exact zab zAb rfl) (zaH rfl rfl (fun jj=>by(try rw [jj]); exact zah 1 tf3 rfl rfl rfl) (zaH rfl rfl (fun jj=>by(try rw [jj]); exact zab zAc rfl) (zaH rfl rfl (fun jj=>by(try rw [jj]); exact zah 1 tf3 rfl rfl rfl) (zaH rfl rfl (fun jj=>by(try rw [jj]); exact zfw rfl rfl) (zaH rfl rfl (fun jj=>by(try rw [jj]); exact zbw rfl rfl) (ph_y (zaX rfl rfl rfl) (ph_y (zaf rfl) (zaH rfl rfl (fun jj=>by(try rw [jj]); exact zab zyW rfl) (zaH rfl rfl (fun jj=>by(try rw [jj]); exact zah 1 tf3 rfl rfl rfl) (zaH rfl rfl (fun jj=>by(try rw [jj]); exact zab zyW rfl) ?_)))))))))))))))))))))))))))))
 refine zaH rfl rfl (fun jj=>by(try rw [jj]); exact zah 0 tf3 rfl rfl rfl) (zaH rfl rfl (fun jj=>by(try rw [jj]); exact zab zzO rfl) (zaH rfl rfl (fun jj=>by(try rw [jj]); exact zah 0 tf3 rfl rfl rfl) (zaH rfl rfl (fun jj=>by(try rw [jj]); exact zfw rfl rfl) (zaH rfl rfl (fun jj=>by(try rw [jj]); exact zbw rfl rfl) (ph_y (zaX rfl rfl rfl) (ph_y (zaf rfl) (zaH rfl rfl (fun jj=>by(try rw [jj]); exact zab zyW rfl) (zaH rfl rfl (fun jj=>by(try rw [jj]); exact zah 0 tf3 rfl rfl rfl) (zaH rfl rfl (fun jj=>by(try rw [jj]); exact zab zyW rfl) (zaH rfl rfl (fun jj=>by(try rw [jj]); exact zah 1 tf3 rfl rfl rfl) (zaH rfl rfl (fun jj=>by(try rw [jj]); exact zab zzO rfl) (zaH rfl rfl (fun jj=>by(try rw [jj]); exact zah 1 tf3 rfl rfl rfl) (zaH rfl rfl (fun jj=>by(try rw [jj]); exact zfw rfl rfl) (zaH rfl rfl (fun jj=>by(try rw [jj]); exact zbw rfl rfl) (ph_y (zaX rfl rfl rfl) (ph_y (zad rfl) (gN [4] rfl (zaw (zay (zaC rfl (zau rfl)) ?_)))))))))))))))))))
 rfl
theorem zmI (b:Option Addr) (bcap:Nat) (v:Wll) (a:Option Addr) (cap:Nat) (s:Sht) (w:World) (hv:Has w (zaW b 5 zba v.opens)) (hcap:v.opens.length≤bcap) (hsv:zaP v.opens.length) (hkn:∀ o∈v.opens,Knd o) (hh:0≤s.height∧s.height≤3000) :
  Calls Tryz.prog 106 #[.agg #[.string v.name,.string v.sheet,.int .i64 v.length,.slice b v.opens.length bcap],.agg #[.string s.name,.int .i64 s.base,.int .i64 s.batter,.int .i64 s.height,.int .i64 s.skin,.slice a s.heights.length cap,.int .i64 s.least,.int .i64 s.lap,.int .i64 s.run,.int .i64 s.every,.int .i64 s.at_,.int .i64 s.footing,.int .i64 s.spread,.int .u8 s.cope,.int .i64 s.tall,.int .i64 s.short,.int .i64 s.thick,.int .i64 s.low,.int .i64 s.high,.int .i64 s.rood]] w (Pure (.bool (zd1 s.height v)) w):=by
 refine zan (vs:=[_,_]) Tryz.func106 rfl rfl (bL rfl) (gS (zaG rfl rfl (za3 (vs:=[_,_,_,_]) rfl rfl) fun b2=>(zaG rfl rfl (za3 (vs:=[_,_,_,_,_,_,_,_,_,_,_,_,_,_,_,_,_,_,_,_]) rfl rfl) fun b3=>(gA rfl (gN [2,3,4] rfl (zih (X:=Unit) (fun _=>[(2,.pointer (some ⟨b2,0,none⟩)),(3,.pointer (some ⟨b3,0,none⟩))]) (fun _=>[Box b3 (sV s a cap) 118,Box b2 (wV v b bcap) 116]) (fun _=>zfP v=true) ?_ ?_))))))
 ·
  refine gS (gQ (zab zBn rfl) (gQ (zah 1 tf9 rfl rfl rfl) (gQ (zaJ ztI rfl (fun w hw=>zmo _ w)) (gQ (zbR rfl) (gM rfl (zai rfl rfl rfl rfl (fun hg11=>?_) (fun hg11=>?_)))))))
  ·replace hg11:_=false:=hg11
   try rw [hg11]
   refine gQ (zab zAH rfl) (gT rfl rfl rfl (gQ (zah 1 tf3 rfl rfl rfl) (gT rfl rfl rfl (gQ (zaI rfl (zyk _ _ _)) (gT rfl rfl rfl (gQ (zab zyL rfl) (gT rfl rfl rfl (gQ (zah 1 zAi rfl rfl rfl) (gT rfl rfl rfl (gQ (zaV (Tryz.underlying114) rfl) (gT rfl rfl rfl (gQ (zaI rfl (zyk _ _ _)) (gT rfl rfl rfl (zaG rfl rfl (zaD rfl (zB7 _ _ _ _ _ _) zbM rfl) fun b19=>(gT rfl rfl rfl (gQ (zaJ zAY rfl (fun w hw=>zfT _ _ ([(⟨v.length,1,100000⟩:Lim),(⟨(v.opens.length:Int),0,20⟩:Lim)]) w (zam zbM (hw.has (p:=0) rfl)) (by simp [zaP]))) (gT rfl rfl rfl (gQ (zbR rfl) (gQ (za5 rfl rfl rfl) (gN [2,3,4,22] rfl (zap rfl (fun hc22=>?_) (fun hc22=>?_))))))))))))))))))))))
   ·have hw0:zfP v=false:=by rw [zmJ]; rw [show(!zhr _)=true from hc22]; simp
    refine gS (gA rfl (gN [2,3,4] rfl (zaw (zay (zaC rfl (zau rfl)) ?_))))
    rw [zkz hw0]
   ·have hw0:zfP v=true:=by rw [zmJ]; rw [show(!zgx _)=false from hg11,show(!zhr _)=false from hc22]; rfl
    refine zaq (zaK 0 rfl ?_)
    exact zb9 () ⟨rfl,rfl,trivial⟩ rfl hw0
  ·replace hg11:_=true:=hg11
   try rw [hg11]
   refine gF rfl rfl rfl (gF rfl rfl rfl (gF rfl rfl rfl (gF rfl rfl rfl (gF rfl rfl rfl (gF rfl rfl rfl (gF rfl rfl rfl (gF rfl rfl rfl (gF rfl rfl rfl (gQ (za5 rfl rfl rfl) (gN [2,3,4,22] rfl (zdg rfl (gS (gA rfl (gN [2,3,4] rfl (zaw (zay (zaC rfl (zau rfl)) ?_))))))))))))))))
   rw [zkz (by rw [zmJ,show(!zgx _)=true from hg11]; rfl)]
 ·rintro _ hJ
  have hlen:=(zgM hJ).1
  refine zac (gS (gQ (zab zyL rfl) (gQ (zah 1 zAi rfl rfl rfl) (gQ (zaV (Tryz.underlying114) rfl) (gM rfl (gN [2,3,24,25,26] rfl (zas (zbf (X:=Int) (fun(i:Int)=>[(2,.pointer (some ⟨b2,0,none⟩)),(3,.pointer (some ⟨b3,0,none⟩)),(24,.slice b v.opens.length bcap),(25,.int .i64 (v.opens.length:Int)),(26,.int .i64 i)]) (fun(i:Int)=>[Box b3 (sV s a cap) 118,Box b2 (wV v b bcap) 116]) (fun(i:Int)=>(0≤i∧i≤v.opens.length∧∀ j:Nat,(j:Int) < i→zcI s.height v j=true)) (fun(i:Int)=>(v.opens.length - i).toNat) 0 (sB rfl) rfl ?_ ?_))))))))
  ·exact⟨by omega,by omega,fun j hj=>by omega⟩
  ·rintro i hI
   obtain⟨g0,g1,g2⟩:=hI
   refine gS (gQ (zbw rfl rfl) (gN [2,3,24,25,26,27] rfl (zac (zap rfl (fun hc27=>?_) (fun hc27=>?_)))))
   ·simp only [dT] at hc27
    refine zaq (zac (zas (gS (gM rfl (gQ (zaE zCz rfl rfl (fun _=>rH hv)) (gQ (zbv (vs:=[_,_,_,_,_]) zy2 rfl (fun _=>rH hv) (by omega) (by omega) rfl) (zaG rfl rfl (zaL zy2 (zs:=[_,_,_,_,_]) rfl) fun b6=>(gA rfl (zaA 0 zy2 rfl rfl (vs:=[_,_,_,_,_]) rfl rfl rfl rfl rfl (gN [2,3,5,6,24,25,26] rfl (zac (gZ 14 (ph_y (zat 0 zy2 rfl rfl (vs:=[_,_,_,_,_]) rfl rfl) (ph_y (zat 2 zyz rfl rfl (vs:=[_,_,_,_]) rfl rfl) (ph_y (zat 1 zyq rfl rfl (vs:=[_,_,_,_,_,_,_,_,_,_,_,_,_,_,_,_,_,_,_,_]) rfl rfl) (ph_y (zaJ zxg rfl (fun w hw=>zvW (v.opens.getD (i).toNat default) b bcap v a cap s w (hkn _ (za0 (by omega))) hlen hh)) (ph_y (zbR rfl) (ph_y (zaf rfl) (zaz rfl rfl (fun jj=>by(try rw [jj]); exact zab zyL rfl) (zaz rfl rfl (fun jj=>by(try rw [jj]); exact zah 2 zAi rfl rfl rfl) (zaz rfl rfl (fun jj=>by(try rw [jj]); exact zaf rfl) (zaz rfl rfl (fun jj=>by(try rw [jj]); exact zg8 zCz rfl rfl (by omega) (by omega) hcap) (zaz rfl rfl (fun jj=>by(try rw [jj]); exact zat 0 zy2 rfl rfl (vs:=[_,_,_,_,_]) rfl rfl) (zaz rfl rfl (fun jj=>by(try rw [jj]); exact zbO («as»:=[_]) (bs:=[]) rfl rfl) ?_))))))))))))))))))))))))
    refine zaz rfl rfl (fun jj=>by(try rw [jj]); exact zaJ (v:=.bool ((v.opens.take i.toNat).any (zhk (v.opens.getD (i).toNat default)))) zxh rfl (fun w hw=>zhR _ _ (v.opens.take i.toNat) (zhk (v.opens.getD (i).toNat default)) 140 [.agg (zba (v.opens.getD (i).toNat default)).toArray] [] w (zje (rH hv hw) (by omega) (by omega)) (by rw [List.length_take]; have:=hsv; unfold zaP at *; omega) (fun _=>True) (fun _ _=>trivial) zvT (fun z w _=>zug _ z w))) (ph_y (zaR rfl rfl rfl) (gN [2,3,24,25,26,44] rfl (zap rfl (fun hc44=>?_) (fun hc44=>?_))))
    ·have hno:zcI s.height v i.toNat=false:=zqg ((zln (by omega) g0 hc27 g2).symm.trans hc44)
     refine gS (gA rfl (gN [2,3,4,24,25,26] rfl (zaw (zay (zaC rfl (zau rfl)) ?_))))
     rw [zhH g0 hc27 hno]
    ·have hyes:zcI s.height v i.toNat=true:=zll ((zln (by omega) g0 hc27 g2).symm.trans hc44)
     refine zaq (zaa (gQ (zaY rfl rfl) (gM rfl (gN [2,3,24,25,26] rfl (zaK 0 rfl ?_)))))
     exact za1 (i+1) (sB rfl) rfl ⟨by omega,by omega,zdu g0 g2 hyes⟩ (by omega)
   ·simp only [dF] at hc27
    refine za8 rfl (gS (gA rfl (gN [4] rfl (zaw (zay (zaC rfl (zau rfl)) ?_)))))
    rw [zn0 hJ hc27 g2]
end Go.Proofs.YteepmmghanbllaaGreatDoor
namespace Go.Pln
open Go Go.K Go.RowKit Go.Stn
theorem zgw (a:ByteArray):(a.toList == a.toList)=true:=beq_self_eq_true _
theorem zqK {S:List ShC} {i:Int} (_h0:0≤i) (_h1:i < (S.length:Int)) :
  (decide (0≤zaS (S.take i.toNat) (S.getD i.toNat default).s.name)||!decide (zcX (S.getD i.toNat default).s=0)) = !shAt S i.toNat:=by
 unfold shAt zaS
 rw [ze9]
 have:decide (zcX (S.getD i.toNat default).s=0)=za4 (S.getD i.toNat default).s:=by
  unfold zcX
  cases za4 (S.getD i.toNat default).s <;> rfl
 rw [this]
 cases (S.take i.toNat).any _ <;> cases za4 (S.getD i.toNat default).s <;> rfl
theorem znR {S:List ShC} {i:Int} (h0:0≤i) (h1:i < (S.length:Int)) :
  (!za4 (S.getD i.toNat default).s||!decide (zaS S (S.getD i.toNat default).s.name=i)) = !shAt S i.toNat:=by
 unfold shAt
 have:=zh2 (p:=fun z:ShC=>z.s.name.toList == (S.getD i.toNat default).s.name.toList) h0 h1 (zgw _)
 rw [show zaS S (S.getD i.toNat default).s.name=zbJ (fun z:ShC=>z.s.name.toList == (S.getD i.toNat default).s.name.toList) S from rfl,this]
 cases (S.take i.toNat).any _ <;> cases za4 (S.getD i.toNat default).s <;> rfl
theorem zqY {S:List ShC} {V:List WlC} {i:Int} (h0:0≤i) (h1:i < (V.length:Int)) :
  ((!decide (0≤zaS S (V.getD i.toNat default).s.sheet)||decide (zaM V (V.getD i.toNat default).s.name < i))||!zd1 (zav S (V.getD i.toNat default).s.sheet).s.height (V.getD i.toNat default).s) = !wlAt S V i.toNat:=by
 unfold wlAt
 have h2:=zh2 (p:=fun z:WlC=>z.s.name.toList == (V.getD i.toNat default).s.name.toList) h0 h1 (zgw _)
 have h3:=ztM (p:=fun z:WlC=>z.s.name.toList == (V.getD i.toNat default).s.name.toList) h0 h1 (zgw _)
 rw [show zaM V (V.getD i.toNat default).s.name=zbJ (fun z:WlC=>z.s.name.toList == (V.getD i.toNat default).s.name.toList) V from rfl,h3,h2]
 cases decide (0≤zaS S (V.getD i.toNat default).s.sheet) <;> cases (V.take i.toNat).any _ <;> cases zd1 _ _ <;> rfl
theorem zn4 {S:List ShC} {V:List WlC} {i:Int} (h0:0≤i) (h1:i < (V.length:Int)) :
  ((decide (zaS S (V.getD i.toNat default).s.sheet < 0)||!zd1 (S.getD (zaS S (V.getD i.toNat default).s.sheet).toNat default).s.height (V.getD i.toNat default).s)||!decide (zaM V (V.getD i.toNat default).s.name=i)) = !wlAt S V i.toNat:=by
 unfold wlAt
 have h2:=zh2 (p:=fun z:WlC=>z.s.name.toList == (V.getD i.toNat default).s.name.toList) h0 h1 (zgw _)
 rw [show zaM V (V.getD i.toNat default).s.name=zbJ (fun z:WlC=>z.s.name.toList == (V.getD i.toNat default).s.name.toList) V from rfl,h2]
 by_cases hk:0≤zaS S (V.getD i.toNat default).s.sheet
 ·rw [show zav S (V.getD i.toNat default).s.sheet=S.getD (zaS S (V.getD i.toNat default).s.sheet).toNat default from if_pos hk,decide_eq_true hk,decide_eq_false (show ¬ zaS S (V.getD i.toNat default).s.sheet < 0 by omega)]
  cases (V.take i.toNat).any _ <;> cases zd1 _ _ <;> rfl
 ·rw [decide_eq_false hk,decide_eq_true (show zaS S (V.getD i.toNat default).s.sheet < 0 by omega)]; simp
theorem zox {S:List ShC} {i:Nat} (h:shAt S i=true):za4 (S.getD i default).s=true:=by
 unfold shAt at h
 rw [aT] at h
 exact h.2
theorem zg3 {S:List ShC} (h:∀ j:Nat,(j:Int) < (S.length:Int)→shAt S j=true):∀ z∈S,za4 z.s=true:=fun z hz=>by
 obtain⟨j,hj,rfl⟩:=List.getElem_of_mem hz
 have:=zox (h j (by omega))
 simpa [hj] using this
theorem zog {S:List ShC} {n:ByteArray} (h:∀ z∈S,za4 z.s=true):0≤(zav S n).s.height∧(zav S n).s.height≤3000:=
 zrs (P:=fun z=>0≤z.s.height∧z.s.height≤3000) (fun z hz=>by have:=(zaZ (h z hz)).height; omega) (by decide)
theorem zqs {S:List ShC} {V:List WlC} (h:(decide (20 < (S.length:Int))||decide (50 < (V.length:Int)))=true):zc4 S V=false:=by unfold zc4; rw [h]; rfl
theorem znF {S:List ShC} {V:List WlC} {i:Int} (h0:0≤i) (h1:i < (S.length:Int)) (h:shAt S i.toNat=false):zc4 S V=false:=by
 unfold zc4; rw [zc9 (i:=i.toNat) (by omega) h]; simp
theorem znG {S:List ShC} {V:List WlC} {i:Int} (h0:0≤i) (h1:i < (V.length:Int)) (h:wlAt S V i.toNat=false):zc4 S V=false:=by
 unfold zc4; rw [zc9 (i:=i.toNat) (by omega) h,Bool.and_false]
theorem znH {S:List ShC} {V:List WlC} {i k:Int} (hi:¬ i < (S.length:Int)) (hk:¬ k < (V.length:Int)) (h1:∀ j:Nat,(j:Int) < i→shAt S j=true) (h2:∀ j:Nat,(j:Int) < k→wlAt S V j=true) :
  zc4 S V=(decide ((S.length:Int)≤20)&&decide ((V.length:Int)≤50)):=by
 unfold zc4
 rw [zdN (fun j hj=>h1 j (by omega)),zdN (fun j hj=>h2 j (by omega)),Bool.and_true,Bool.and_true,Bool.not_or]
 congr 1 <;> (rw [Bool.eq_iff_iff,nT,dF,dT]; omega)
theorem zix {S:List ShC} {V:List WlC} (h:zc4 S V=true):S.length≤20∧V.length≤50∧(∀ j,j < S.length→shAt S j=true)∧(∀ j,j < V.length→wlAt S V j=true):=by
 unfold zc4 at h
 simp only [aT,nT,oF,dF] at h
 exact⟨by omega,by omega,zdf.1 h.1.2,zdf.1 h.2⟩
theorem zls {S:List ShC} {V:List WlC} (h:zc4 S V=true):∀ z∈S,za4 z.s=true:=zg3 fun j hj=>(zix h).2.2.1 j (by omega)
theorem zoG {S:List ShC} {V:List WlC} {i:Nat} (h:wlAt S V i=true):0≤zaS S (V.getD i default).s.sheet∧zd1 (zav S (V.getD i default).s.sheet).s.height (V.getD i default).s=true:=by
 unfold wlAt at h
 simp only [aT,dT] at h
 exact⟨h.1.1,h.2⟩
theorem zf8 {S:List ShC} {V:List WlC} (h:zc4 S V=true):∀ z∈V,0≤zaS S z.s.sheet∧zd1 (zav S z.s.sheet).s.height z.s=true:=fun z hz=>by
 obtain⟨j,hj,rfl⟩:=List.getElem_of_mem hz
 have:=zoG ((zix h).2.2.2 j hj)
 simpa [hj] using this
theorem znZ {w:Wll} {b:Bool} (h:(!zdY w.name||!inB w.length 1 100000||decide (20 < (w.opens.length:Int)))=b):zfP w = !b:=by rw [zuO,h]
def rf1 (len top:Int) (o:Opn):Bool:=!inB o.kind 1 4||!inB o.at_ 0 len||!inB o.width 1 len||decide (len < o.at_+o.width)||!inB o.frm 0 top||!inB o.high 1 top||decide (top < o.frm+o.high)
def rf2 (top:Int) (o:Opn):Bool:=(decide (3≤o.kind)&&!decide (o.frm+o.high=top))||(decide (o.kind=4)&&!decide (o.frm=0))
theorem zuD {len top:Int} {o:Opn} (hl:1≤len∧len≤100000):zfY len top o = !(rf1 len top o||rf2 top o):=by
 rw [ztN (zbp.2 hl)]; rfl
theorem zqw {len top:Int} {o:Opn} (h:rf1 len top o=false):(1≤o.kind∧o.kind≤4)∧(0≤o.at_∧o.at_≤len)∧(1≤o.width∧o.width≤len)∧o.at_+o.width≤len∧(0≤o.frm∧o.frm≤top)∧(1≤o.high∧o.high≤top)∧o.frm+o.high≤top:=by
 unfold rf1 at h
 simp only [oF,nF,zbp,dF] at h
 omega
theorem zjo {top:Int} {w:Wll} {i:Nat} (h:zfY w.length top (w.opens.getD i default)=false):zcI top w i=false:=by unfold zcI; rw [h]; rfl
theorem zon {top:Int} {w:Wll} {i k:Int} (h0:0≤k) (hk:k < i) (h1:i < (w.opens.length:Int)) (h:zea (w.opens.getD i.toNat default) (w.opens.getD k.toNat default)=true):zcI top w i.toNat=false:=by
 unfold zcI
 have:(w.opens.take i.toNat).any (fun q=>zea (w.opens.getD i.toNat default) q)=true:=List.any_eq_true.2 ⟨w.opens.getD k.toNat default,by
  rw [gE (l:=w.opens) (i:=k.toNat),eG (by omega)]
  exact List.mem_take_iff_getElem.2 ⟨k.toNat,by omega,rfl⟩,h⟩
 rw [this]; simp
theorem zoo {top:Int} {w:Wll} {i k:Int} (h1:i < (w.opens.length:Int)) (hf:zfY w.length top (w.opens.getD i.toNat default)=true) (hk:¬ k < i) (h:∀ j:Nat,(j:Int) < k→zea (w.opens.getD i.toNat default) (w.opens.getD j default)=false):zcI top w i.toNat=true:=by
 unfold zcI
 rw [hf,Bool.true_and,nT,List.any_eq_false]
 intro q hq
 obtain⟨j,hj,rfl⟩:=List.mem_take_iff_getElem.1 hq
 have:=h j (by omega)
 rw [gE (l:=w.opens) (i:=j),eG (by omega)] at this
 simpa using this
end Go.Pln
namespace Go.Proofs.YteepmmghanbllaaGreatDoor
open Go.K Go.Stn Go.Pln Go.RowKit
theorem tf37:TF Tryz.prog 37 true 2 (.agg #[.slice none 0 0,.slice none 0 0]):=tK
theorem zBo:FO Tryz.prog 116 1 1:=fK
theorem zDb:En Tryz.prog 103:=eK Tryz.func103
theorem zw0:En Tryz.prog 105:=eK Tryz.func105
theorem zw1:En Tryz.prog 106:=eK Tryz.func106
theorem zFK (x0a:Option Addr) (x0n x0c:Nat) (w:World):(Instr.build 37 #[(0,.slice x0a x0n x0c)]).run Tryz.prog w=.ok (.agg #[.slice x0a x0n x0c,.slice none 0 0]) w:=by kernel_rfl
theorem ztt (a:Option Addr) (cap:Nat) (S:List ShC) (b:Option Addr) (bcap:Nat) (V:List WlC) (w:World) (hl:Has w (zaW a 20 zbH S)) (hs:zaP S.length) (hcS:S.length≤cap) (hlw:Has w (zaW b 4 zbS V)) (hsw:zaP V.length) (hsh:∀ z∈S,Has w (Ints z.a z.s.heights)) (hss:∀ z∈S,zaP z.s.heights.length) (hwo:∀ z∈V,Has w (zaW z.a 5 zba z.s.opens)) (hsv:∀ z∈V,zaP z.s.opens.length) (hcp:∀ z∈V,z.s.opens.length≤z.cap) (hkn:∀ z∈V,∀ o∈z.s.opens,Knd o) :
  Calls Tryz.prog 75 #[.agg #[.slice a S.length cap,.slice b V.length bcap]] w (Pure (.int .i64 (zeW S V)) w):=by
 refine zan (vs:=[_]) Tryz.func75 rfl rfl (bL rfl) (gS (zaG rfl rfl (za3 (vs:=[_,_]) rfl rfl) fun b1=>(gA rfl (gN [1,2] rfl (zac (zac (gZ 10 (ph_y (zab zkW rfl) (ph_y (zah 0 tf34 rfl rfl rfl) (ph_y (zaV (Tryz.underlying34) rfl) (ph_y (zc6 rfl rfl) (ph_y (zaf rfl) (zaz rfl rfl (fun jj=>by(try rw [jj]); exact zab zna rfl) (zaz rfl rfl (fun jj=>by(try rw [jj]); exact zah 0 tf35 rfl rfl rfl) (zaz rfl rfl (fun jj=>by(try rw [jj]); exact zaV (Tryz.underlying35) rfl) (zaz rfl rfl (fun jj=>by(try rw [jj]); exact zc6 rfl rfl) (ph_y (zaR rfl rfl rfl) (gN [1,2,20] rfl (zap rfl (fun hc20=>?_) (fun hc20=>?_))))))))))))))))))))
 ·have hP:=zqs (S:=S) (V:=V) hc20
  refine gS (gA rfl (gN [1,2] rfl (zaw (zay (zaC rfl (zau rfl)) ?_))))
  rw [zeW,hP]; rfl
 ·
  refine zaq (zac (gS (gQ (zab zkW rfl) (gQ (zah 0 tf34 rfl rfl rfl) (gQ (zaV (Tryz.underlying34) rfl) (gM rfl (gN [1,2,22,23,24] rfl (zas (zbf (X:=Int) (fun(i:Int)=>[(1,.pointer (some ⟨b1,0,none⟩)),(2,.int .i64 0),(22,.slice a S.length cap),(23,.int .i64 (S.length:Int)),(24,.int .i64 i)]) (fun(i:Int)=>[Box b1 [.slice a S.length cap,.slice b V.length bcap] 37]) (fun(i:Int)=>(0≤i∧i≤S.length∧∀ j:Nat,(j:Int) < i→shAt S j=true)) (fun(i:Int)=>(S.length - i).toNat) 0 (sB rfl) rfl ?_ ?_)))))))))
  ·exact⟨by omega,by omega,fun j hj=>by omega⟩
  ·rintro i hI
   obtain⟨g0,g1,g2⟩:=hI
   refine gS (gQ (zbw rfl rfl) (gN [1,2,22,23,24,25] rfl (zac (zap rfl (fun hc25=>?_) (fun hc25=>?_)))))
   ·have hc25:=oT hc25
    refine zaq (zac (zas (gS (gM rfl (gQ (zaE se34 rfl rfl (fun _=>rH hl)) (gQ (zbv (vs:=[_,_,_,_,_,_,_,_,_,_,_,_,_,_,_,_,_,_,_,_]) zyq rfl (fun _=>rH hl) (by omega) (by omega) rfl) (zaG rfl rfl (zaL zyq (zs:=[_,_,_,_,_,_,_,_,_,_,_,_,_,_,_,_,_,_,_,_]) rfl) fun b4=>(gA rfl (zbz 0 zyq rfl rfl (vs:=[_,_,_,_,_,_,_,_,_,_,_,_,_,_,_,_,_,_,_,_]) rfl rfl rfl rfl rfl (gN [1,2,3,4,22,23,24] rfl (zac (zCs [] (ch [(11,Nat)]) 1000 14 [0,1,0,7,15,0,32,127,255,511,511,0,3071,8191] [] rfl (fun _=>mixed) (by kernel_rfl) (zjK _ ⟨inferInstance,trivial⟩) (pY (fun ρ=>zab zkW rfl) (pY (fun ρ=>zah 1 tf34 rfl rfl rfl) (pY (fun ρ=>zaf rfl) (pY (fun ρ=>zg8 se34 rfl rfl (by omega) (by omega) hcS) (pY (fun ρ=>zaI rfl (zFK _ _ _)) (pY (fun ρ=>zab zBp rfl) (pY (fun ρ=>zah 0 tf9 rfl rfl rfl) (pY (fun ρ=>zaJ zDb rfl (fun w hw=>zeu _ _ (S.take i.toNat) _ _ _ _ w (zje (rH hl hw) (by omega) (by omega)) (by rw [List.length_take]; have:=hs; unfold zaP at *; omega))) (pY (fun ρ=>zaf rfl) (pY (fun ρ=>zaB rfl rfl) (pY (fun ρ=>zaB rfl rfl) (zFy (fun ρ=>zaL zyq (zs:=[_,_,_,_,_,_,_,_,_,_,_,_,_,_,_,_,_,_,_,_]) rfl) (fun ρ ρ' h=>⟨by rfl,by rfl⟩) ?_))))))))))))))))))))))))
    refine zIb (R:=fun ρ=>Box (ρ 11) [.string ⟨#[]⟩,.int .i64 0,.int .i64 0,.int .i64 0,.int .i64 0,.slice none 0 0,.int .i64 0,.int .i64 0,.int .i64 0,.int .i64 0,.int .i64 0,.int .i64 0,.int .i64 0,.int .u8 0,.int .i64 0,.int .i64 0,.int .i64 0,.int .i64 0,.int .i64 0,.int .i64 0] 118) (A:=fun ρ=>Box (ρ 11) (sV ((zav (S.take i.toNat) ((S.getD (i).toNat default).s.name)).s) ((zav (S.take i.toNat) ((S.getD (i).toNat default).s.name)).a) ((zav (S.take i.toNat) ((S.getD (i).toNat default).s.name)).cap)) 118) 11 rfl rfl (fun _=>rfl) (fun ρ=>zex zyq rfl rfl (vs:=[_,_,_,_,_,_,_,_,_,_,_,_,_,_,_,_,_,_,_,_]) rfl rfl rfl rfl rfl) (fun ρ ρ' h=>by(first | rfl | (simp only [h 11 rfl]; done) | (simp only [h 11 rfl]; rfl))) (pY (fun ρ=>zad rfl) ?_)
    refine fun ρ=>zag (zf4 (X:=Nat) (ρ 11) (fun b5=>[(1,.pointer (some ⟨b1,0,none⟩)),(2,.int .i64 0),(4,.pointer (some ⟨b4,0,none⟩)),(6,.bool (decide (0≤zaS (S.take i.toNat) ((S.getD (i).toNat default).s.name)))),(22,.slice a S.length cap),(23,.int .i64 (S.length:Int)),(24,.int .i64 i)]) (fun b5=>[Box b5 (sV ((zav (S.take i.toNat) ((S.getD (i).toNat default).s.name)).s) ((zav (S.take i.toNat) ((S.getD (i).toNat default).s.name)).a) ((zav (S.take i.toNat) ((S.getD (i).toNat default).s.name)).cap)) 118,Box b4 (sV ((S.getD (i).toNat default).s) ((S.getD (i).toNat default).a) ((S.getD (i).toNat default).cap)) 118,Box b1 [.slice a S.length cap,.slice b V.length bcap] 37]) (sB rfl) rfl ?_)
    rintro b5
    refine zac (gZ 6 (ph_y (zaf rfl) (ph_y (zaf rfl) (zaz rfl rfl (fun jj=>by(try rw [jj]); exact zat 1 zyq rfl rfl (vs:=[_,_,_,_,_,_,_,_,_,_,_,_,_,_,_,_,_,_,_,_]) rfl rfl) (zaz rfl rfl (fun jj=>by(try rw [jj]); exact zaJ (v:=.int .i64 (zcX ((S.getD (i).toNat default).s))) zvR rfl (fun w hw=>zd4 ((S.getD (i).toNat default).a) ((S.getD (i).toNat default).cap) ((S.getD (i).toNat default).s) w (Rd.has (Has.rd (hsh _ (za0 (by omega)))) hw) (hss _ (za0 (by omega))))) (zaz rfl rfl (fun jj=>by(try rw [jj]); exact zcr rfl rfl) (ph_y (zaR rfl rfl rfl) (gN [1,2,22,23,24,45] rfl (zap rfl (fun hc45=>?_) (fun hc45=>?_))))))))))
    ·have hno:shAt S i.toNat=false:=zqg ((zqK g0 hc25).symm.trans hc45)
     refine gS (gA rfl (gN [1,2,22,23,24] rfl (zaw (zay (zaC rfl (zau rfl)) ?_))))
     rw [zeW,znF g0 hc25 hno]; rfl
    ·have hyes:shAt S i.toNat=true:=zll ((zqK g0 hc25).symm.trans hc45)
     refine zaq (zaa (gQ (zaY rfl rfl) (gM rfl (gN [1,2,22,23,24] rfl (zaK 0 rfl (zaK 0 rfl ?_))))))
     exact za1 (i+1) (sB rfl) rfl ⟨by omega,by omega,zdu g0 g2 hyes⟩ (by omega)
   ·have hc25:=oD hc25
    have hS:=zg3 (S:=S) (fun j hj=>g2 j (by omega))
    refine za8 rfl (zac (gS (gQ (zab zna rfl) (gQ (zah 0 tf35 rfl rfl rfl) (gQ (zaV (Tryz.underlying35) rfl) (gM rfl (gN [1,2,48,49,50] rfl (zas (zbf (X:=Int) (fun(i:Int)=>[(1,.pointer (some ⟨b1,0,none⟩)),(2,.int .i64 0),(48,.slice b V.length bcap),(49,.int .i64 (V.length:Int)),(50,.int .i64 i)]) (fun(i:Int)=>[Box b1 [.slice a S.length cap,.slice b V.length bcap] 37]) (fun(i:Int)=>(0≤i∧i≤V.length∧∀ j:Nat,(j:Int) < i→wlAt S V j=true)) (fun(i:Int)=>(V.length - i).toNat) 0 (sB rfl) rfl ?_ ?_)))))))))
    ·exact⟨by omega,by omega,fun j hj=>by omega⟩
    ·rintro i hI
     have gi2:=g2; have hgi:=hc25
     rename_i ii
     obtain⟨k0,k1,k2⟩:=hI
     refine gS (gQ (zbw rfl rfl) (gN [1,2,48,49,50,51] rfl (zac (zap rfl (fun hc51=>?_) (fun hc51=>?_)))))
     ·have hc51:=oT hc51
      refine zaq (zac (zas (gS (gM rfl (gQ (zaE se35 rfl rfl (fun _=>rH hlw)) (gQ (zbv (vs:=[_,_,_,_]) zyz rfl (fun _=>rH hlw) (by omega) (by omega) rfl) (zaG rfl rfl (zaL zyz (zs:=[_,_,_,_]) rfl) fun b8=>(gA rfl (zaA 0 zyz rfl rfl (vs:=[_,_,_,_]) rfl rfl rfl rfl rfl (gN [1,2,7,8,48,49,50] rfl (gS (gQ (zat 1 tf37 rfl rfl (vs:=[_,_]) rfl rfl) (gQ (zab zBo rfl) (gQ (zah 0 tf9 rfl rfl rfl) (gQ (zaJ zDb rfl (fun w hw=>zeu _ _ S _ _ _ _ w (rH hl hw) (by assumption))) (gM rfl (gQ (zaB rfl rfl) (gQ (zaB rfl rfl) (zaG rfl rfl (zaL zyq (zs:=[_,_,_,_,_,_,_,_,_,_,_,_,_,_,_,_,_,_,_,_]) rfl) fun b9=>(zbz 0 zyq rfl rfl (vs:=[_,_,_,_,_,_,_,_,_,_,_,_,_,_,_,_,_,_,_,_]) rfl rfl rfl rfl rfl (gA rfl (gN [1,2,7,8,9,10,48,49,50] rfl (zac (gZ 16 (ph_y (zaf rfl) (ph_y (zbR rfl) (ph_y (zaf rfl) (zaz rfl rfl (fun jj=>by(try rw [jj]); exact zat 2 tf37 rfl rfl (vs:=[_,_]) rfl rfl) (zaz rfl rfl (fun jj=>by(try rw [jj]); exact zab zBn rfl) (zaz rfl rfl (fun jj=>by(try rw [jj]); exact zah 1 tf9 rfl rfl rfl) ?_))))))))))))))))))))))))))))))
      refine zaz rfl rfl (fun jj=>by(try rw [jj]); exact zaJ (v:=.int .i64 (zaM V ((V.getD (i).toNat default).s.name))) zw0 rfl (fun w hw=>zkg _ _ _ _ _ V _ w (rH hlw hw) (by assumption))) (zaz rfl rfl (fun jj=>by(try rw [jj]); exact zaf rfl) (zaz rfl rfl (fun jj=>by(try rw [jj]); exact zbw rfl rfl) (ph_y (zaR rfl rfl rfl) (ph_y (zaf rfl) (zaz rfl rfl (fun jj=>by(try rw [jj]); exact zat 1 zyz rfl rfl (vs:=[_,_,_,_]) rfl rfl) (zaz rfl rfl (fun jj=>by(try rw [jj]); exact zat 0 zyq rfl rfl (vs:=[_,_,_,_,_,_,_,_,_,_,_,_,_,_,_,_,_,_,_,_]) rfl rfl) (zaz rfl rfl (fun jj=>by(try rw [jj]); exact zaJ (v:=.bool (zd1 ((zav S ((V.getD (i).toNat default).s.sheet)).s).height ((V.getD (i).toNat default).s))) zw1 rfl (fun w hw=>zmI ((V.getD (i).toNat default).a) ((V.getD (i).toNat default).cap) ((V.getD (i).toNat default).s) ((zav S ((V.getD (i).toNat default).s.sheet)).a) ((zav S ((V.getD (i).toNat default).s.sheet)).cap) ((zav S ((V.getD (i).toNat default).s.sheet)).s) w (Rd.has (Has.rd (hwo _ (za0 (by omega)))) hw) (hcp _ (za0 (by omega))) (hsv _ (za0 (by omega))) (hkn _ (za0 (by omega))) (zog hS))) (zaz rfl rfl (fun jj=>by(try rw [jj]); exact zbR rfl) (ph_y (zaR rfl rfl rfl) (gN [1,2,48,49,50,77] rfl (zap rfl (fun hc77=>?_) (fun hc77=>?_))))))))))))
      ·have hno:wlAt S V i.toNat=false:=zqg ((zqY k0 hc51).symm.trans hc77)
       refine gS (gA rfl (gN [1,2,48,49,50] rfl (zaw (zay (zaC rfl (zau rfl)) ?_))))
       rw [zeW,znG k0 hc51 hno]; rfl
      ·have hyes:wlAt S V i.toNat=true:=zll ((zqY k0 hc51).symm.trans hc77)
       refine zaq (zaa (gQ (zaY rfl rfl) (gM rfl (gN [1,2,48,49,50] rfl (zaK 0 rfl (zaK 0 rfl ?_))))))
       exact za1 (i+1) (sB rfl) rfl ⟨by omega,by omega,zdu k0 k2 hyes⟩ (by omega)
     ·have hc51:=oD hc51
      refine za8 rfl (gS (gA rfl (gN [2] rfl (zaw (zay (zaC rfl (zau rfl)) ?_)))))
      rw [zeW,znH hc25 hc51 g2 k2]; simp only [oF,dF] at hc20; rw [decide_eq_true (by omega),decide_eq_true (by omega)]; rfl
theorem tf22:TF Tryz.prog 22 false 1 (.slice none 0 0):=tK
theorem tf23:TF Tryz.prog 23 false 1 (.slice none 0 0):=tK
theorem tf25:TF Tryz.prog 25 true 2 (.agg #[.slice none 0 0,.slice none 0 0]):=tK
theorem zAj:TF Tryz.prog 132 false 1 (.slice none 0 0):=tK
theorem zAk:TF Tryz.prog 134 true 4 (.agg #[.string ⟨#[]⟩,.string ⟨#[]⟩,.int .i64 0,.slice none 0 0]):=tK
theorem zzW:TF Tryz.prog 138 true 5 (.agg #[.int .u8 0,.int .i64 0,.int .i64 0,.int .i64 0,.int .i64 0]):=tK
theorem zd6:FO Tryz.prog 25 0 0:=fK
theorem zdT:FO Tryz.prog 25 1 1:=fK
theorem zBs:FO Tryz.prog 134 0 0:=fK
theorem zCk:FO Tryz.prog 134 1 1:=fK
theorem zAJ:FO Tryz.prog 134 2 2:=fK
theorem zyN:FO Tryz.prog 134 3 3:=fK
theorem zzr:FO Tryz.prog 138 0 0:=fK
theorem zzP:FO Tryz.prog 138 1 1:=fK
theorem zzQ:FO Tryz.prog 138 2 2:=fK
theorem zyC:FO Tryz.prog 138 3 3:=fK
theorem zzs:FO Tryz.prog 138 4 4:=fK
theorem se22:SE Tryz.prog 22 135 20:=⟨Tryz.underlying22,by kernel_rfl⟩
theorem se23:SE Tryz.prog 23 134 4:=⟨Tryz.underlying23,by kernel_rfl⟩
theorem zEf:SE Tryz.prog 132 138 5:=⟨Tryz.underlying132,by kernel_rfl⟩
theorem en86:En Tryz.prog 86:=eK Tryz.func86
theorem en87:En Tryz.prog 87:=eK Tryz.func87
theorem ztF:En Tryz.prog 111:=eK Tryz.func111
theorem zw4:En Tryz.prog 112:=eK Tryz.func112
theorem zfq (a:Option Addr) (cap:Nat) (S:List ShC) (b:Option Addr) (nw bcap:Nat) (n:ByteArray) (w:World) (hl:Has w (zaW a 20 zbH S)) (hs:zaP S.length) :
  Calls Tryz.prog 87 #[.agg #[.slice a S.length cap,.slice b nw bcap],.string n] w (Pure (.int .i64 (zaS S n)) w):=by
 refine zan (vs:=[_,_]) Tryz.func87 rfl rfl (bL rfl) (gS (zaG rfl rfl (za3 (vs:=[_,_]) rfl rfl) fun b2=>(gA rfl (gN [1,2,4] rfl (zac (gS (gA rfl (gN [1,2,4,5] rfl (zas (zbf (X:=Int) (fun(i:Int)=>[(1,.string n),(2,.pointer (some ⟨b2,0,none⟩)),(4,.int .i64 0),(5,.int .i64 i)]) (fun(i:Int)=>[Box b2 [.slice a S.length cap,.slice b nw bcap] 25]) (fun(i:Int)=>(0≤i∧i≤S.length∧∀ j:Nat,(j:Int) < i→((S.getD j default).s.name.toList == n.toList)=false)) (fun(i:Int)=>(S.length - i).toNat) 0 ⟨rfl,rfl,rfl,rfl,trivial⟩ rfl ?_ ?_))))))))))
 ·exact⟨by omega,by omega,fun j hj=>by omega⟩
 ·rintro i hI
  obtain⟨g0,g1,g2⟩:=hI
  refine zac (gS (gM rfl (gQ (zab zd6 rfl) (gQ (zah 0 tf22 rfl rfl rfl) (gQ (zaV (Tryz.underlying22) rfl) (gQ (zbw rfl rfl) (gN [1,2,4,5,10] rfl (zap rfl (fun hc10=>?_) (fun hc10=>?_)))))))))
  ·simp only [dT] at hc10
   refine zaq (zac (zas (gS (gQ (zab zd6 rfl) (gQ (zah 0 tf22 rfl rfl rfl) (gM rfl (gQ (zaE se22 rfl rfl (fun _=>rH hl)) (gQ (zbh zAK rfl (fun w hw=>zaO (i:=i) (rH hl hw))) (gQ (zbn tf9 rfl (fun _=>rH hl) (by omega) (by omega) rfl) (gM rfl (gQ (zge rfl rfl) (gN [1,2,4,5,20] rfl (zap rfl (fun hc20=>?_) (fun hc20=>?_))))))))))))))
   ·
    refine gS (gM rfl (gA rfl (gN [1,2,4,5] rfl (zaw (zay (zaC rfl (zau rfl)) ?_)))))
    exact congrArg (fun x=>Value.int .i64 x) (zcs (p:=fun z:ShC=>z.s.name.toList == n.toList) g0 (by omega) g2 hc20).symm
   ·
    refine zaq (zaa (gM rfl (gQ (zaY rfl rfl) (gA rfl (gN [1,2,4,5] rfl ?_)))))
    exact za1 (i+1) ⟨rfl,rfl,rfl,rfl,trivial⟩ rfl ⟨by omega,by omega,zdP (f:=fun j=>(S.getD j default).s.name.toList == n.toList) g0 g2 hc20⟩ (by omega)
  ·simp only [dF] at hc10
   refine za8 rfl (gS (gA rfl (gN [4] rfl (zaw (zay (zaC rfl (zau rfl)) ?_)))))
   exact congrArg (fun x=>Value.int .i64 x) (zck (p:=fun z:ShC=>z.s.name.toList == n.toList) (fun j hj=>g2 j (by omega))).symm
theorem zf9 (a:Option Addr) (ns cap:Nat) (b:Option Addr) (bcap:Nat) (V:List WlC) (n:ByteArray) (w:World) (hlw:Has w (zaW b 4 zbS V)) (hsw:zaP V.length) :
  Calls Tryz.prog 86 #[.agg #[.slice a ns cap,.slice b V.length bcap],.string n] w (Pure (.int .i64 (zaM V n)) w):=by
 refine zan (vs:=[_,_]) Tryz.func86 rfl rfl (bL rfl) (gS (zaG rfl rfl (za3 (vs:=[_,_]) rfl rfl) fun b2=>(gA rfl (gN [1,2,4] rfl (zac (gS (gA rfl (gN [1,2,4,5] rfl (zas (zbf (X:=Int) (fun(i:Int)=>[(1,.string n),(2,.pointer (some ⟨b2,0,none⟩)),(4,.int .i64 0),(5,.int .i64 i)]) (fun(i:Int)=>[Box b2 [.slice a ns cap,.slice b V.length bcap] 25]) (fun(i:Int)=>(0≤i∧i≤V.length∧∀ j:Nat,(j:Int) < i→((V.getD j default).s.name.toList == n.toList)=false)) (fun(i:Int)=>(V.length - i).toNat) 0 ⟨rfl,rfl,rfl,rfl,trivial⟩ rfl ?_ ?_))))))))))
 ·exact⟨by omega,by omega,fun j hj=>by omega⟩
 ·rintro i hI
  obtain⟨g0,g1,g2⟩:=hI
  refine zac (gS (gM rfl (gQ (zab zdT rfl) (gQ (zah 0 tf23 rfl rfl rfl) (gQ (zaV (Tryz.underlying23) rfl) (gQ (zbw rfl rfl) (gN [1,2,4,5,10] rfl (zap rfl (fun hc10=>?_) (fun hc10=>?_)))))))))
  ·simp only [dT] at hc10
   refine zaq (zac (zas (gS (gQ (zab zdT rfl) (gQ (zah 0 tf23 rfl rfl rfl) (gM rfl (gQ (zaE se23 rfl rfl (fun _=>rH hlw)) (gQ (zbh zBs rfl (fun w hw=>zaO (i:=i) (rH hlw hw))) (gQ (zbn tf9 rfl (fun _=>rH hlw) (by omega) (by omega) rfl) (gM rfl (gQ (zge rfl rfl) (gN [1,2,4,5,20] rfl (zap rfl (fun hc20=>?_) (fun hc20=>?_))))))))))))))
   ·
    refine gS (gM rfl (gA rfl (gN [1,2,4,5] rfl (zaw (zay (zaC rfl (zau rfl)) ?_)))))
    exact congrArg (fun x=>Value.int .i64 x) (zcs (p:=fun z:WlC=>z.s.name.toList == n.toList) g0 (by omega) g2 hc20).symm
   ·
    refine zaq (zaa (gM rfl (gQ (zaY rfl rfl) (gA rfl (gN [1,2,4,5] rfl ?_)))))
    exact za1 (i+1) ⟨rfl,rfl,rfl,rfl,trivial⟩ rfl ⟨by omega,by omega,zdP (f:=fun j=>(V.getD j default).s.name.toList == n.toList) g0 g2 hc20⟩ (by omega)
  ·simp only [dF] at hc10
   refine za8 rfl (gS (gA rfl (gN [4] rfl (zaw (zay (zaC rfl (zau rfl)) ?_)))))
   exact congrArg (fun x=>Value.int .i64 x) (zck (p:=fun z:WlC=>z.s.name.toList == n.toList) (fun j hj=>g2 j (by omega))).symm
theorem zlx (b:Option Addr) (bcap:Nat) (v:Wll) (a:Option Addr) (cap:Nat) (s:Sht) (w:World) (hv:Has w (zaW b 5 zba v.opens)) (hsv:zaP v.opens.length) (hkn:∀ o∈v.opens,Knd o) (hh:0≤s.height∧s.height≤3000) (hfit:Fits v.name.size) :
  Calls Tryz.prog 112 #[.agg #[.string v.name,.string v.sheet,.int .i64 v.length,.slice b v.opens.length bcap],.agg #[.string s.name,.int .i64 s.base,.int .i64 s.batter,.int .i64 s.height,.int .i64 s.skin,.slice a s.heights.length cap,.int .i64 s.least,.int .i64 s.lap,.int .i64 s.run,.int .i64 s.every,.int .i64 s.at_,.int .i64 s.footing,.int .i64 s.spread,.int .u8 s.cope,.int .i64 s.tall,.int .i64 s.short,.int .i64 s.thick,.int .i64 s.low,.int .i64 s.high,.int .i64 s.rood]] w (Pure (.bool (zd1 s.height v)) w):=by
 refine zan (vs:=[_,_]) Tryz.func112 rfl rfl (bL rfl) (gS (zaG rfl rfl (za3 (vs:=[_,_,_,_]) rfl rfl) fun b2=>(zaG rfl rfl (za3 (vs:=[_,_,_,_,_,_,_,_,_,_,_,_,_,_,_,_,_,_,_,_]) rfl rfl) fun b3=>(gA rfl (gN [2,3,4] rfl (zac (zac (gZ 16 (ph_y (zab zBs rfl) (ph_y (zah 1 tf9 rfl rfl rfl) (ph_y (zaJ en85 rfl (fun w hw=>znM _ w (by assumption))) (ph_y (zbR rfl) (ph_y (zaf rfl) (zaz rfl rfl (fun jj=>by(try rw [jj]); exact zab zAJ rfl) (zaz rfl rfl (fun jj=>by(try rw [jj]); exact zah 1 tf3 rfl rfl rfl) (zaz rfl rfl (fun jj=>by(try rw [jj]); exact zaJ (v:=.bool (inB v.length 1 100000)) zyV rfl (fun w hw=>in_c _ _ _ w)) (zaz rfl rfl (fun jj=>by(try rw [jj]); exact zbR rfl) (ph_y (zaR rfl rfl rfl) (ph_y (zaf rfl) (zaz rfl rfl (fun jj=>by(try rw [jj]); exact zab zyN rfl) (zaz rfl rfl (fun jj=>by(try rw [jj]); exact zah 1 zAj rfl rfl rfl) (zaz rfl rfl (fun jj=>by(try rw [jj]); exact zaV (Tryz.underlying132) rfl) (zaz rfl rfl (fun jj=>by(try rw [jj]); exact zc6 rfl rfl) (ph_y (zaR rfl rfl rfl) (gN [2,3,4,25] rfl (zap rfl (fun hc25=>?_) (fun hc25=>?_)))))))))))))))))))))))))))
 ·have hw0:zfP v=false:=znZ hc25
  refine gS (gA rfl (gN [2,3,4] rfl (zaw (zay (zaC rfl (zau rfl)) ?_))))
  rw [zkz hw0]
 ·have hw0:zfP v=true:=znZ hc25
  have hlen:=(zgM hw0).1
  refine zaq (zac (gS (gA rfl (gN [2,3,4,5] rfl (zas (zbf (X:=Int) (fun(i:Int)=>[(2,.pointer (some ⟨b2,0,none⟩)),(3,.pointer (some ⟨b3,0,none⟩)),(4,.bool false),(5,.int .i64 i)]) (fun(i:Int)=>[Box b3 (sV s a cap) 135,Box b2 (wV v b bcap) 134]) (fun(i:Int)=>(0≤i∧i≤v.opens.length∧∀ j:Nat,(j:Int) < i→zcI s.height v j=true)) (fun(i:Int)=>(v.opens.length - i).toNat) 0 ⟨rfl,rfl,rfl,rfl,trivial⟩ rfl ?_ ?_))))))
  ·exact⟨by omega,by omega,fun j hj=>by omega⟩
  ·rintro i hI
   obtain⟨g0,g1,g2⟩:=hI
   refine zac (gS (gM rfl (gQ (zab zyN rfl) (gQ (zah 1 zAj rfl rfl rfl) (gQ (zaV (Tryz.underlying132) rfl) (gQ (zbw rfl rfl) (gN [2,3,4,5,30] rfl (zap rfl (fun hc30=>?_) (fun hc30=>?_)))))))))
   ·have hc30:=oT hc30
    have hko:=hkn (v.opens.getD (i).toNat default) (za0 (by omega))
    have hwk:IntKind.i64.wrap (v.opens.getD (i).toNat default).kind=(v.opens.getD (i).toNat default).kind:=zbr (by omega) (by omega)
    refine zaq (zac (zas (gS (gQ (zab zyN rfl) (gQ (zah 1 zAj rfl rfl rfl) (gM rfl (gQ (zaE zEf rfl rfl (fun _=>rH hv)) (gQ (zbv (vs:=[_,_,_,_,_]) zzW rfl (fun _=>rH hv) (by omega) (by omega) rfl) (zaG rfl rfl (zaL zzW (zs:=[_,_,_,_,_]) rfl) fun b6=>(zaA 0 zzW rfl rfl (vs:=[_,_,_,_,_]) rfl rfl rfl rfl rfl (gN [2,3,4,5,6] rfl (zac (zac (gZ 57 (ph_y (zab zzr rfl) (ph_y (zah 0 tf5 rfl rfl rfl) (ph_y (ziU (by kernel_rfl) (Tryz.underlying3) rfl) (ph_y (zaJ zyV rfl (fun w hw=>in_c _ _ _ w)) (ph_y (zbR rfl) (ph_y (zaf rfl) (zaz rfl rfl (fun hgd=>by(try rw [hgd]); have hgd0:=hgd; (try simp only [nT,nF,zbp] at hgd0); exact(zab zzP rfl)) (zaz rfl rfl (fun hgd=>by(try rw [hgd]); have hgd0:=hgd; (try simp only [nT,nF,zbp] at hgd0); exact(zah 0 tf3 rfl rfl rfl)) (zaz rfl rfl (fun hgd=>by(try rw [hgd]); have hgd0:=hgd; (try simp only [nT,nF,zbp] at hgd0); exact(zab zAJ rfl)) (zaz rfl rfl (fun hgd=>by(try rw [hgd]); have hgd0:=hgd; (try simp only [nT,nF,zbp] at hgd0); exact(zah 2 tf3 rfl rfl rfl)) ?_))))))))))))))))))))))))
    refine zaz rfl rfl (fun hgd=>by(try rw [hgd]); have hgd0:=hgd; (try simp only [nT,nF,zbp] at hgd0); exact(zaJ (v:=.bool (inB ((v.opens.getD (i).toNat default).at_) 0 v.length)) zyV rfl (fun w hw=>in_c _ _ _ w))) (zaz rfl rfl (fun hgd=>by(try rw [hgd]); have hgd0:=hgd; (try simp only [nT,nF,zbp] at hgd0); exact(zbR rfl)) (ph_y (zaR rfl rfl rfl) (ph_y (zaf rfl) (zaz rfl rfl (fun hgd=>by(try rw [hgd]); have hgd0:=hgd; (try simp only [nT,oF,nF,zbp] at hgd0); exact(zab zzQ rfl)) (zaz rfl rfl (fun hgd=>by(try rw [hgd]); have hgd0:=hgd; (try simp only [nT,oF,nF,zbp] at hgd0); exact(zah 0 tf3 rfl rfl rfl)) (zaz rfl rfl (fun hgd=>by(try rw [hgd]); have hgd0:=hgd; (try simp only [nT,oF,nF,zbp] at hgd0); exact(zab zAJ rfl)) (zaz rfl rfl (fun hgd=>by(try rw [hgd]); have hgd0:=hgd; (try simp only [nT,oF,nF,zbp] at hgd0); exact(zah 2 tf3 rfl rfl rfl)) ?_)))))))
    refine zaz rfl rfl (fun hgd=>by(try rw [hgd]); have hgd0:=hgd; (try simp only [nT,oF,nF,zbp] at hgd0); exact(zaJ (v:=.bool (inB ((v.opens.getD (i).toNat default).width) 1 v.length)) zyV rfl (fun w hw=>in_c _ _ _ w))) (zaz rfl rfl (fun hgd=>by(try rw [hgd]); have hgd0:=hgd; (try simp only [nT,oF,nF,zbp] at hgd0); exact(zbR rfl)) (ph_y (zaR rfl rfl rfl) (ph_y (zaf rfl) (zaz rfl rfl (fun hgd=>by(try rw [hgd]); have hgd0:=hgd; (try simp only [nT,oF,nF,zbp] at hgd0); exact(zab zzP rfl)) (zaz rfl rfl (fun hgd=>by(try rw [hgd]); have hgd0:=hgd; (try simp only [nT,oF,nF,zbp] at hgd0); exact(zah 0 tf3 rfl rfl rfl)) (zaz rfl rfl (fun hgd=>by(try rw [hgd]); have hgd0:=hgd; (try simp only [nT,oF,nF,zbp] at hgd0); exact(zab zzQ rfl)) (zaz rfl rfl (fun hgd=>by(try rw [hgd]); have hgd0:=hgd; (try simp only [nT,oF,nF,zbp] at hgd0); exact(zah 0 tf3 rfl rfl rfl)) ?_)))))))
    refine zaz rfl rfl (fun hgd=>by(try rw [hgd]); have hgd0:=hgd; (try simp only [nT,oF,nF,zbp] at hgd0); exact(zaY rfl rfl)) (zaz rfl rfl (fun hgd=>by(try rw [hgd]); have hgd0:=hgd; (try simp only [nT,oF,nF,zbp] at hgd0); exact(zab zAJ rfl)) (zaz rfl rfl (fun hgd=>by(try rw [hgd]); have hgd0:=hgd; (try simp only [nT,oF,nF,zbp] at hgd0); exact(zah 2 tf3 rfl rfl rfl)) (zaz rfl rfl (fun hgd=>by(try rw [hgd]); have hgd0:=hgd; (try simp only [nT,oF,nF,zbp] at hgd0); exact(zc6 rfl rfl)) (ph_y (zaR rfl rfl rfl) (ph_y (zaf rfl) (zaz rfl rfl (fun hgd=>by(try rw [hgd]); have hgd0:=hgd; (try simp only [nT,oF,nF,zbp,dF] at hgd0); exact(zab zyC rfl)) (zaz rfl rfl (fun hgd=>by(try rw [hgd]); have hgd0:=hgd; (try simp only [nT,oF,nF,zbp,dF] at hgd0); exact(zah 0 tf3 rfl rfl rfl)) (zaz rfl rfl (fun hgd=>by(try rw [hgd]); have hgd0:=hgd; (try simp only [nT,oF,nF,zbp,dF] at hgd0); exact(zab zyH rfl)) ?_))))))))
    refine zaz rfl rfl (fun hgd=>by(try rw [hgd]); have hgd0:=hgd; (try simp only [nT,oF,nF,zbp,dF] at hgd0); exact(zah 1 tf3 rfl rfl rfl)) (zaz rfl rfl (fun hgd=>by(try rw [hgd]); have hgd0:=hgd; (try simp only [nT,oF,nF,zbp,dF] at hgd0); exact(zaJ (v:=.bool (inB ((v.opens.getD (i).toNat default).frm) 0 s.height)) zyV rfl (fun w hw=>in_c _ _ _ w))) (zaz rfl rfl (fun hgd=>by(try rw [hgd]); have hgd0:=hgd; (try simp only [nT,oF,nF,zbp,dF] at hgd0); exact(zbR rfl)) (ph_y (zaR rfl rfl rfl) (ph_y (zaf rfl) (zaz rfl rfl (fun hgd=>by(try rw [hgd]); have hgd0:=hgd; (try simp only [nT,oF,nF,zbp,dF] at hgd0); exact(zab zzs rfl)) (zaz rfl rfl (fun hgd=>by(try rw [hgd]); have hgd0:=hgd; (try simp only [nT,oF,nF,zbp,dF] at hgd0); exact(zah 0 tf3 rfl rfl rfl)) (zaz rfl rfl (fun hgd=>by(try rw [hgd]); have hgd0:=hgd; (try simp only [nT,oF,nF,zbp,dF] at hgd0); exact(zab zyH rfl)) ?_)))))))
    refine zaz rfl rfl (fun hgd=>by(try rw [hgd]); have hgd0:=hgd; (try simp only [nT,oF,nF,zbp,dF] at hgd0); exact(zah 1 tf3 rfl rfl rfl)) (zaz rfl rfl (fun hgd=>by(try rw [hgd]); have hgd0:=hgd; (try simp only [nT,oF,nF,zbp,dF] at hgd0); exact(zaJ (v:=.bool (inB ((v.opens.getD (i).toNat default).high) 1 s.height)) zyV rfl (fun w hw=>in_c _ _ _ w))) (zaz rfl rfl (fun hgd=>by(try rw [hgd]); have hgd0:=hgd; (try simp only [nT,oF,nF,zbp,dF] at hgd0); exact(zbR rfl)) (ph_y (zaR rfl rfl rfl) (ph_y (zaf rfl) (zaz rfl rfl (fun hgd=>by(try rw [hgd]); have hgd0:=hgd; (try simp only [nT,oF,nF,zbp,dF] at hgd0); exact(zab zyC rfl)) (zaz rfl rfl (fun hgd=>by(try rw [hgd]); have hgd0:=hgd; (try simp only [nT,oF,nF,zbp,dF] at hgd0); exact(zah 0 tf3 rfl rfl rfl)) (zaz rfl rfl (fun hgd=>by(try rw [hgd]); have hgd0:=hgd; (try simp only [nT,oF,nF,zbp,dF] at hgd0); exact(zab zzs rfl)) ?_)))))))
    refine zaz rfl rfl (fun hgd=>by(try rw [hgd]); have hgd0:=hgd; (try simp only [nT,oF,nF,zbp,dF] at hgd0); exact(zah 0 tf3 rfl rfl rfl)) (zaz rfl rfl (fun hgd=>by(try rw [hgd]); have hgd0:=hgd; (try simp only [nT,oF,nF,zbp,dF] at hgd0); exact(zaY rfl rfl)) (zaz rfl rfl (fun hgd=>by(try rw [hgd]); have hgd0:=hgd; (try simp only [nT,oF,nF,zbp,dF] at hgd0); exact(zab zyH rfl)) (zaz rfl rfl (fun hgd=>by(try rw [hgd]); have hgd0:=hgd; (try simp only [nT,oF,nF,zbp,dF] at hgd0); exact(zah 1 tf3 rfl rfl rfl)) (zaz rfl rfl (fun hgd=>by(try rw [hgd]); have hgd0:=hgd; (try simp only [nT,oF,nF,zbp,dF] at hgd0); exact(zc6 rfl rfl)) (ph_y (zaR rfl rfl rfl) (gN [2,3,4,5,6,94] rfl (zap rfl (fun hc94=>?_) (fun hc94=>?_))))))))
    ·rw [hwk] at hc94
     have hno:zcI s.height v i.toNat=false:=zjo (by rw [zuD hlen,show rf1 _ _ _=true from hc94]; rfl)
     refine gS (gA rfl (gN [2,3,4,5,6] rfl (zaw (zay (zaC rfl (zau rfl)) ?_))))
     rw [zhH g0 hc30 hno]
    ·rw [hwk] at hc94
     have hF:=zqw hc94
     refine zaq (zac (zac (gZ 23 (ph_y (zab zzr rfl) (ph_y (zah 0 tf5 rfl rfl rfl) (ph_y (zfx rfl rfl) (ph_y (zaf rfl) (zaH rfl rfl (fun hgd=>by(try rw [hgd]); have hgd0:=hgd; (try simp only [dT] at hgd0); exact(zab zyC rfl)) (zaH rfl rfl (fun hgd=>by(try rw [hgd]); have hgd0:=hgd; (try simp only [dT] at hgd0); exact(zah 0 tf3 rfl rfl rfl)) (zaH rfl rfl (fun hgd=>by(try rw [hgd]); have hgd0:=hgd; (try simp only [dT] at hgd0); exact(zab zzs rfl)) (zaH rfl rfl (fun hgd=>by(try rw [hgd]); have hgd0:=hgd; (try simp only [dT] at hgd0); exact(zah 0 tf3 rfl rfl rfl)) (zaH rfl rfl (fun hgd=>by(try rw [hgd]); have hgd0:=hgd; (try simp only [dT] at hgd0); exact(zaY rfl rfl)) (zaH rfl rfl (fun hgd=>by(try rw [hgd]); have hgd0:=hgd; (try simp only [dT] at hgd0); exact(zab zyH rfl)) (zaH rfl rfl (fun hgd=>by(try rw [hgd]); have hgd0:=hgd; (try simp only [dT] at hgd0); exact(zah 1 tf3 rfl rfl rfl)) (zaH rfl rfl (fun hgd=>by(try rw [hgd]); have hgd0:=hgd; (try simp only [dT] at hgd0); exact(zcr rfl rfl)) (ph_y (zaX rfl rfl rfl) (ph_y (zaf rfl) ?_)))))))))))))))))
     refine zaz rfl rfl (fun hgd=>by(try rw [hgd]); have hgd0:=hgd; (try simp only [nT] at hgd0); exact(zab zzr rfl)) (zaz rfl rfl (fun hgd=>by(try rw [hgd]); have hgd0:=hgd; (try simp only [nT] at hgd0); exact(zah 0 tf5 rfl rfl rfl)) (zaz rfl rfl (fun hgd=>by(try rw [hgd]); have hgd0:=hgd; (try simp only [nT] at hgd0); exact(zbL rfl rfl)) (zaz rfl rfl (fun hgd=>by(try rw [hgd]); have hgd0:=hgd; (try simp only [nT] at hgd0); exact(zaf rfl)) (zdr rfl rfl (fun hgd=>by(try rw [hgd]); have hgd0:=hgd; (try simp only [nT,aT,dT] at hgd0); exact(zab zyC rfl)) (zdr rfl rfl (fun hgd=>by(try rw [hgd]); have hgd0:=hgd; (try simp only [nT,aT,dT] at hgd0); exact(zah 0 tf3 rfl rfl rfl)) (zdr rfl rfl (fun hgd=>by(try rw [hgd]); have hgd0:=hgd; (try simp only [nT,aT,dT] at hgd0); exact(zcr rfl rfl)) (zaz rfl rfl (fun hgd=>by(try rw [hgd]); have hgd0:=hgd; (try simp only [nT] at hgd0); exact(zaX rfl rfl rfl)) (ph_y (zaR rfl rfl rfl) (gN [2,3,4,5,6,117] rfl (zap rfl (fun hc117=>?_) (fun hc117=>?_)))))))))))
     ·have hno:zcI s.height v i.toNat=false:=zjo (by rw [zuD hlen,show rf2 _ _=true from hc117,Bool.or_true]; rfl)
      refine gS (gA rfl (gN [2,3,4,5,6] rfl (zaw (zay (zaC rfl (zau rfl)) ?_))))
      rw [zhH g0 hc30 hno]
     ·have hfit2:zfY v.length s.height (v.opens.getD (i).toNat default)=true:=by rw [zuD hlen,show rf1 _ _ _=false from hc94,show rf2 _ _=false from hc117]; rfl
      refine zaq (gS (gA rfl (gN [2,3,4,5,6,7] rfl (zas (zbf (X:=Int) (fun(k:Int)=>[(2,.pointer (some ⟨b2,0,none⟩)),(3,.pointer (some ⟨b3,0,none⟩)),(4,.bool false),(5,.int .i64 i),(6,.pointer (some ⟨b6,0,none⟩)),(7,.int .i64 k)]) (fun(k:Int)=>[Box b6 [.int .u8 (v.opens.getD (i).toNat default).kind,.int .i64 (v.opens.getD (i).toNat default).at_,.int .i64 (v.opens.getD (i).toNat default).width,.int .i64 (v.opens.getD (i).toNat default).frm,.int .i64 (v.opens.getD (i).toNat default).high] 138,Box b3 (sV s a cap) 135,Box b2 (wV v b bcap) 134]) (fun(k:Int)=>(0≤k∧k≤i∧∀ j:Nat,(j:Int) < k→zea (v.opens.getD (i).toNat default) (v.opens.getD j default)=false)) (fun(k:Int)=>(i - k).toNat) 0 (sB rfl) rfl ?_ ?_)))))
      ·exact⟨by omega,by omega,fun j hj=>by omega⟩
      ·rintro k hI
       obtain⟨k0,k1,k2⟩:=hI
       refine zac (gS (gM rfl (gM rfl (gQ (zbw rfl rfl) (gN [2,3,4,5,6,7,120] rfl (zap rfl (fun hc120=>?_) (fun hc120=>?_)))))))
       ·have hc120:=oT hc120
        have hQ:=zf7 (g2 k.toNat (by omega))
        have q1:=hQ.a; have q2:=hQ.w; have q3:=hQ.h; have q4:=hQ.f
        refine zaq (zac (zas (gS (gQ (zab zyN rfl) (gQ (zah 2 zAj rfl rfl rfl) (gM rfl (gQ (zaE zEf rfl rfl (fun _=>rH hv)) (gQ (zbv (vs:=[_,_,_,_,_]) zzW rfl (fun _=>rH hv) (by omega) (by omega) rfl) (zaG rfl rfl (zaL zzW (zs:=[_,_,_,_,_]) rfl) fun b8=>(zaA 0 zzW rfl rfl (vs:=[_,_,_,_,_]) rfl rfl rfl rfl rfl (gN [2,3,4,5,6,7,8] rfl (zac (gZ 39 (ph_y (zab zzP rfl) (ph_y (zah 1 tf3 rfl rfl rfl) (ph_y (zab zzQ rfl) (ph_y (zah 1 tf3 rfl rfl rfl) (ph_y (zaY rfl rfl) (ph_y (zab zzP rfl) (ph_y (zah 0 tf3 rfl rfl rfl) (ph_y (zeT rfl rfl) (ph_y (zaf rfl) (zaz rfl rfl (fun hgd=>by(try rw [hgd]); have hgd0:=hgd; (try simp only [nT,dF] at hgd0); exact(zab zzP rfl)) (zaz rfl rfl (fun hgd=>by(try rw [hgd]); have hgd0:=hgd; (try simp only [nT,dF] at hgd0); exact(zah 0 tf3 rfl rfl rfl)) (zaz rfl rfl (fun hgd=>by(try rw [hgd]); have hgd0:=hgd; (try simp only [nT,dF] at hgd0); exact(zab zzQ rfl)) (zaz rfl rfl (fun hgd=>by(try rw [hgd]); have hgd0:=hgd; (try simp only [nT,dF] at hgd0); exact(zah 0 tf3 rfl rfl rfl)) ?_))))))))))))))))))))))))))
        refine zaz rfl rfl (fun hgd=>by(try rw [hgd]); have hgd0:=hgd; (try simp only [nT,dF] at hgd0); exact(zaY rfl rfl)) (zaz rfl rfl (fun hgd=>by(try rw [hgd]); have hgd0:=hgd; (try simp only [nT,dF] at hgd0); exact(zab zzP rfl)) (zaz rfl rfl (fun hgd=>by(try rw [hgd]); have hgd0:=hgd; (try simp only [nT,dF] at hgd0); exact(zah 1 tf3 rfl rfl rfl)) (zaz rfl rfl (fun hgd=>by(try rw [hgd]); have hgd0:=hgd; (try simp only [nT,dF] at hgd0); exact(zeT rfl rfl)) (ph_y (zaR rfl rfl rfl) (ph_y (zaf rfl) (zaz rfl rfl (fun hgd=>by(try rw [hgd]); have hgd0:=hgd; (try simp only [nT,oF,dF] at hgd0); exact(zab zyC rfl)) (zaz rfl rfl (fun hgd=>by(try rw [hgd]); have hgd0:=hgd; (try simp only [nT,oF,dF] at hgd0); exact(zah 1 tf3 rfl rfl rfl)) (zaz rfl rfl (fun hgd=>by(try rw [hgd]); have hgd0:=hgd; (try simp only [nT,oF,dF] at hgd0); exact(zab zzs rfl)) ?_))))))))
        refine zaz rfl rfl (fun hgd=>by(try rw [hgd]); have hgd0:=hgd; (try simp only [nT,oF,dF] at hgd0); exact(zah 1 tf3 rfl rfl rfl)) (zaz rfl rfl (fun hgd=>by(try rw [hgd]); have hgd0:=hgd; (try simp only [nT,oF,dF] at hgd0); exact(zaY rfl rfl)) (zaz rfl rfl (fun hgd=>by(try rw [hgd]); have hgd0:=hgd; (try simp only [nT,oF,dF] at hgd0); exact(zab zyC rfl)) (zaz rfl rfl (fun hgd=>by(try rw [hgd]); have hgd0:=hgd; (try simp only [nT,oF,dF] at hgd0); exact(zah 0 tf3 rfl rfl rfl)) (zaz rfl rfl (fun hgd=>by(try rw [hgd]); have hgd0:=hgd; (try simp only [nT,oF,dF] at hgd0); exact(zeT rfl rfl)) (ph_y (zaR rfl rfl rfl) (ph_y (zaf rfl) (zaz rfl rfl (fun hgd=>by(try rw [hgd]); have hgd0:=hgd; (try simp only [nT,oF,dF] at hgd0); exact(zab zyC rfl)) (zaz rfl rfl (fun hgd=>by(try rw [hgd]); have hgd0:=hgd; (try simp only [nT,oF,dF] at hgd0); exact(zah 0 tf3 rfl rfl rfl)) ?_))))))))
        refine zaz rfl rfl (fun hgd=>by(try rw [hgd]); have hgd0:=hgd; (try simp only [nT,oF,dF] at hgd0); exact(zab zzs rfl)) (zaz rfl rfl (fun hgd=>by(try rw [hgd]); have hgd0:=hgd; (try simp only [nT,oF,dF] at hgd0); exact(zah 0 tf3 rfl rfl rfl)) (zaz rfl rfl (fun hgd=>by(try rw [hgd]); have hgd0:=hgd; (try simp only [nT,oF,dF] at hgd0); exact(zaY rfl rfl)) (zaz rfl rfl (fun hgd=>by(try rw [hgd]); have hgd0:=hgd; (try simp only [nT,oF,dF] at hgd0); exact(zab zyC rfl)) (zaz rfl rfl (fun hgd=>by(try rw [hgd]); have hgd0:=hgd; (try simp only [nT,oF,dF] at hgd0); exact(zah 1 tf3 rfl rfl rfl)) (zaz rfl rfl (fun hgd=>by(try rw [hgd]); have hgd0:=hgd; (try simp only [nT,oF,dF] at hgd0); exact(zeT rfl rfl)) (ph_y (zaR rfl rfl rfl) (ph_y (zad rfl) (gN [2,3,4,5,6,7,9] rfl (gS (gM rfl (gQ (zbR rfl) (gN [2,3,4,5,6,7,167] rfl (zap rfl (fun hc167=>?_) (fun hc167=>?_))))))))))))))
        ·have hm:zea (v.opens.getD (i).toNat default) (v.opens.getD (k).toNat default)=true:=by rw [znr]; exact hc167
         refine gS (gA rfl (gN [2,3,4,5,6,7] rfl (zaw (zay (zaC rfl (zau rfl)) ?_))))
         rw [zhH g0 hc30 (zon k0 hc120 hc30 hm)]
        ·have hm:zea (v.opens.getD (i).toNat default) (v.opens.getD (k).toNat default)=false:=by rw [znr]; exact hc167
         refine zaq (zaa (gM rfl (gQ (zaY rfl rfl) (gA rfl (gN [2,3,4,5,6,7] rfl (zaK 0 rfl ?_))))))
         exact za1 (k+1) (sB rfl) rfl ⟨by omega,by omega,zdP (f:=fun j=>zea (v.opens.getD (i).toNat default) (v.opens.getD j default)) k0 k2 hm⟩ (by omega)
       ·have hc120:=oD hc120
        have hyes:=zoo hc30 hfit2 hc120 k2
        refine za8 rfl (zaa (gM rfl (gQ (zaY rfl rfl) (gA rfl (gN [2,3,4,5] rfl (zaK 0 rfl ?_))))))
        exact za1 (i+1) ⟨rfl,rfl,rfl,rfl,trivial⟩ rfl ⟨by omega,by omega,zdu g0 g2 hyes⟩ (by omega)
   ·have hc30:=oD hc30
    refine za8 rfl (gS (gA rfl (gN [4] rfl (zaw (zay (zaC rfl (zau rfl)) ?_)))))
    rw [zn0 hw0 hc30 g2]
theorem zsf (a:Option Addr) (cap:Nat) (S:List ShC) (b:Option Addr) (bcap:Nat) (V:List WlC) (w:World) (hl:Has w (zaW a 20 zbH S)) (hs:zaP S.length) (hlw:Has w (zaW b 4 zbS V)) (hsw:zaP V.length) (hsh:∀ z∈S,Has w (Ints z.a z.s.heights)) (hss:∀ z∈S,zaP z.s.heights.length) (hwo:∀ z∈V,Has w (zaW z.a 5 zba z.s.opens)) (hsv:∀ z∈V,zaP z.s.opens.length) (_hcp:∀ z∈V,z.s.opens.length≤z.cap) (hkn:∀ z∈V,∀ o∈z.s.opens,Knd o) (hfS:∀ z∈S,Fits z.s.name.size) (hfV:∀ z∈V,Fits z.s.name.size) (hco:∀ z∈S,0≤z.s.cope) :
  Calls Tryz.prog 83 #[.agg #[.slice a S.length cap,.slice b V.length bcap]] w (Pure (.bool (zc4 S V)) w):=by
 refine zan (vs:=[_]) Tryz.func83 rfl rfl (bL rfl) (gS (zaG rfl rfl (za3 (vs:=[_,_]) rfl rfl) fun b1=>(gA rfl (gN [1,2] rfl (zac (gS (gA rfl (gN [1,2,3] rfl (zas (zbf (X:=Int) (fun(i:Int)=>[(1,.pointer (some ⟨b1,0,none⟩)),(2,.bool false),(3,.int .i64 i)]) (fun(i:Int)=>[Box b1 [.slice a S.length cap,.slice b V.length bcap] 25]) (fun(i:Int)=>(0≤i∧i≤S.length∧∀ j:Nat,(j:Int) < i→shAt S j=true)) (fun(i:Int)=>(S.length - i).toNat) 0 ⟨rfl,rfl,rfl,trivial⟩ rfl ?_ ?_))))))))))
 ·exact⟨by omega,by omega,fun j hj=>by omega⟩
 ·rintro i hI
  obtain⟨g0,g1,g2⟩:=hI
  refine zac (gS (gM rfl (gQ (zab zd6 rfl) (gQ (zah 0 tf22 rfl rfl rfl) (gQ (zaV (Tryz.underlying22) rfl) (gQ (zbw rfl rfl) (gN [1,2,3,10] rfl (zap rfl (fun hc10=>?_) (fun hc10=>?_)))))))))
  ·have hc10:=oT hc10
   refine zaq (zac (zas (zac (gZ 19 (ph_y (zab zd6 rfl) (ph_y (zah 0 tf22 rfl rfl rfl) (ph_y (zaf rfl) (ph_y (zaE se22 rfl rfl (fun _=>rH hl)) (ph_y (zbv (vs:=[_,_,_,_,_,_,_,_,_,_,_,_,_,_,_,_,_,_,_,_]) zzu rfl (fun _=>rH hl) (by omega) (by omega) rfl) (ph_y (zaJ ztF rfl (fun w hw=>zkm ((S.getD (i).toNat default).a) ((S.getD (i).toNat default).cap) ((S.getD (i).toNat default).s) w (Rd.has (Has.rd (hsh _ (za0 (by omega)))) hw) (hss _ (za0 (by omega))) (hco _ (za0 (by omega))) (hfS _ (za0 (by omega))))) (ph_y (zbR rfl) (ph_y (zaf rfl) (zaz rfl rfl (fun hgd=>by(try rw [hgd]); have hgd0:=hgd; (try simp only [nT,nF] at hgd0); exact(zat 0 tf25 rfl rfl (vs:=[_,_]) rfl rfl)) (zaz rfl rfl (fun hgd=>by(try rw [hgd]); have hgd0:=hgd; (try simp only [nT,nF] at hgd0); exact(zab zd6 rfl)) (zaz rfl rfl (fun hgd=>by(try rw [hgd]); have hgd0:=hgd; (try simp only [nT,nF] at hgd0); exact(zah 0 tf22 rfl rfl rfl)) (zaz rfl rfl (fun hgd=>by(try rw [hgd]); have hgd0:=hgd; (try simp only [nT,nF] at hgd0); exact(zaf rfl)) ?_))))))))))))))))
   refine zaz rfl rfl (fun hgd=>by(try rw [hgd]); have hgd0:=hgd; (try simp only [nT,nF] at hgd0); exact(zaE se22 rfl rfl (fun _=>rH hl))) (zaz rfl rfl (fun hgd=>by(try rw [hgd]); have hgd0:=hgd; (try simp only [nT,nF] at hgd0); exact(zbh zAK rfl (fun w hw=>zaO (i:=i) (rH hl hw)))) (zaz rfl rfl (fun hgd=>by(try rw [hgd]); have hgd0:=hgd; (try simp only [nT,nF] at hgd0); exact(zbn tf9 rfl (fun _=>rH hl) (by omega) (by omega) rfl)) (zaz rfl rfl (fun hgd=>by(try rw [hgd]); have hgd0:=hgd; (try simp only [nT,nF] at hgd0); exact(zaJ (v:=.int .i64 (zaS S ((S.getD (i).toNat default).s.name))) en87 rfl (fun w hw=>zfq _ _ S _ _ _ _ w (rH hl hw) (by assumption)))) (zaz rfl rfl (fun hgd=>by(try rw [hgd]); have hgd0:=hgd; (try simp only [nT,nF] at hgd0); exact(zaf rfl)) (zaz rfl rfl (fun hgd=>by(try rw [hgd]); have hgd0:=hgd; (try simp only [nT,nF] at hgd0); exact(zcr rfl rfl)) (ph_y (zaR rfl rfl rfl) (gN [1,2,3,31] rfl (zap rfl (fun hc31=>?_) (fun hc31=>?_)))))))))
   ·have hno:shAt S i.toNat=false:=zqg ((znR g0 hc10).symm.trans hc31)
    refine gS (gA rfl (gN [1,2,3] rfl (zaw (zay (zaC rfl (zau rfl)) ?_))))
    rw [znF g0 hc10 hno]
   ·have hyes:shAt S i.toNat=true:=zll ((znR g0 hc10).symm.trans hc31)
    refine zaq (zaa (gM rfl (gQ (zaY rfl rfl) (gA rfl (gN [1,2,3] rfl ?_)))))
    exact za1 (i+1) ⟨rfl,rfl,rfl,trivial⟩ rfl ⟨by omega,by omega,zdu g0 g2 hyes⟩ (by omega)
  ·have hc10:=oD hc10
   have hS:=zg3 (S:=S) (fun j hj=>g2 j (by omega))
   refine za8 rfl (zac (gS (gA rfl (gN [1,2,4] rfl (zas (zbf (X:=Int) (fun(i:Int)=>[(1,.pointer (some ⟨b1,0,none⟩)),(2,.bool false),(4,.int .i64 i)]) (fun(i:Int)=>[Box b1 [.slice a S.length cap,.slice b V.length bcap] 25]) (fun(i:Int)=>(0≤i∧i≤V.length∧∀ j:Nat,(j:Int) < i→wlAt S V j=true)) (fun(i:Int)=>(V.length - i).toNat) 0 ⟨rfl,rfl,rfl,trivial⟩ rfl ?_ ?_))))))
   ·exact⟨by omega,by omega,fun j hj=>by omega⟩
   ·rintro i hI
    obtain⟨k0,k1,k2⟩:=hI
    refine zac (gS (gM rfl (gQ (zab zdT rfl) (gQ (zah 0 tf23 rfl rfl rfl) (gQ (zaV (Tryz.underlying23) rfl) (gQ (zbw rfl rfl) (gN [1,2,4,36] rfl (zap rfl (fun hc36=>?_) (fun hc36=>?_)))))))))
    ·have hc36:=oT hc36
     have hlt:=fun h=>ziE (S:=S) (n:=(V.getD (i).toNat default).s.sheet) h
     refine zaq (zac (zas (zac (gZ 9 (ph_y (zat 0 tf25 rfl rfl (vs:=[_,_]) rfl rfl) (ph_y (zab zdT rfl) (ph_y (zah 0 tf23 rfl rfl rfl) (ph_y (zaf rfl) (ph_y (zaE se23 rfl rfl (fun _=>rH hlw)) (ph_y (zbh zCk rfl (fun w hw=>zaO (i:=i) (rH hlw hw))) (ph_y (zbn tf9 rfl (fun _=>rH hlw) (by omega) (by omega) rfl) (ph_y (zaJ en87 rfl (fun w hw=>zfq _ _ S _ _ _ _ w (rH hl hw) (by assumption))) (ph_y (zad rfl) (gN [1,2,4,5] rfl (zac (gZ 28 (ph_y (zaf rfl) (ph_y (zbw rfl rfl) (ph_y (zaf rfl) (zaz rfl rfl (fun hgd=>by(try rw [hgd]); have hgd0:=hgd; (try simp only [nT,dF] at hgd0); exact(zab zdT rfl)) (zaz rfl rfl (fun hgd=>by(try rw [hgd]); have hgd0:=hgd; (try simp only [nT,dF] at hgd0); exact(zah 0 tf23 rfl rfl rfl)) (zaz rfl rfl (fun hgd=>by(try rw [hgd]); have hgd0:=hgd; (try simp only [nT,dF] at hgd0); exact(zaf rfl)) (zaz rfl rfl (fun hgd=>by(try rw [hgd]); have hgd0:=hgd; (try simp only [nT,dF] at hgd0); exact(zaE se23 rfl rfl (fun _=>rH hlw))) ?_)))))))))))))))))))))))
     refine zaz rfl rfl (fun hgd=>by(try rw [hgd]); have hgd0:=hgd; (try simp only [nT,dF] at hgd0); exact(zbv (vs:=[_,_,_,_]) zAk rfl (fun _=>rH hlw) (by omega) (by omega) rfl)) (zaz rfl rfl (fun hgd=>by(try rw [hgd]); have hgd0:=hgd; (try simp only [nT,dF] at hgd0); exact(zab zd6 rfl)) (zaz rfl rfl (fun hgd=>by(try rw [hgd]); have hgd0:=hgd; (try simp only [nT,dF] at hgd0); exact(zah 0 tf22 rfl rfl rfl)) (zaz rfl rfl (fun hgd=>by(try rw [hgd]); have hgd0:=hgd; (try simp only [nT,dF] at hgd0); exact(zaf rfl)) (zaz rfl rfl (fun hgd=>by(try rw [hgd]); have hgd0:=hgd; (try simp only [nT,dF] at hgd0); exact(zaE se22 rfl rfl (fun _=>rH hl))) (zaz rfl rfl (fun hgd=>by(try rw [hgd]); have hgd0:=hgd; (try simp only [nT,dF] at hgd0); exact(zbv (vs:=[_,_,_,_,_,_,_,_,_,_,_,_,_,_,_,_,_,_,_,_]) zzu rfl (fun _=>rH hl) (by omega) (by omega) rfl)) ?_)))))
     refine zaz rfl rfl (fun hgd=>by(try rw [hgd]); have hgd0:=hgd; (try simp only [nT,dF] at hgd0); exact(zaJ (v:=.bool (zd1 ((S.getD ((zaS S ((V.getD (i).toNat default).s.sheet))).toNat default).s).height ((V.getD (i).toNat default).s))) zw4 rfl (fun w hw=>zlx ((V.getD (i).toNat default).a) ((V.getD (i).toNat default).cap) ((V.getD (i).toNat default).s) ((S.getD ((zaS S ((V.getD (i).toNat default).s.sheet))).toNat default).a) ((S.getD ((zaS S ((V.getD (i).toNat default).s.sheet))).toNat default).cap) ((S.getD ((zaS S ((V.getD (i).toNat default).s.sheet))).toNat default).s) w (Rd.has (Has.rd (hwo _ (za0 (by omega)))) hw) (hsv _ (za0 (by omega))) (hkn _ (za0 (by omega))) (by have:=(zaZ (hS _ (za0 (l:=S) (i:=(zaS S (V.getD (i).toNat default).s.sheet).toNat) (by omega)))).height; omega) (hfV _ (za0 (by omega)))))) (zaz rfl rfl (fun hgd=>by(try rw [hgd]); have hgd0:=hgd; (try simp only [nT,dF] at hgd0); exact(zbR rfl)) (ph_y (zaR rfl rfl rfl) (ph_y (zaf rfl) (zaz rfl rfl (fun hgd=>by(try rw [hgd]); have hgd0:=hgd; (try simp only [nT,oF,nF,dF] at hgd0); exact(zat 0 tf25 rfl rfl (vs:=[_,_]) rfl rfl)) ?_))))
     refine zaz rfl rfl (fun hgd=>by(try rw [hgd]); have hgd0:=hgd; (try simp only [nT,oF,nF,dF] at hgd0); exact(zab zdT rfl)) (zaz rfl rfl (fun hgd=>by(try rw [hgd]); have hgd0:=hgd; (try simp only [nT,oF,nF,dF] at hgd0); exact(zah 0 tf23 rfl rfl rfl)) (zaz rfl rfl (fun hgd=>by(try rw [hgd]); have hgd0:=hgd; (try simp only [nT,oF,nF,dF] at hgd0); exact(zaf rfl)) (zaz rfl rfl (fun hgd=>by(try rw [hgd]); have hgd0:=hgd; (try simp only [nT,oF,nF,dF] at hgd0); exact(zaE se23 rfl rfl (fun _=>rH hlw))) (zaz rfl rfl (fun hgd=>by(try rw [hgd]); have hgd0:=hgd; (try simp only [nT,oF,nF,dF] at hgd0); exact(zbh zBs rfl (fun w hw=>zaO (i:=i) (rH hlw hw)))) (zaz rfl rfl (fun hgd=>by(try rw [hgd]); have hgd0:=hgd; (try simp only [nT,oF,nF,dF] at hgd0); exact(zbn tf9 rfl (fun _=>rH hlw) (by omega) (by omega) rfl)) ?_)))))
     refine zaz rfl rfl (fun hgd=>by(try rw [hgd]); have hgd0:=hgd; (try simp only [nT,oF,nF,dF] at hgd0); exact(zaJ (v:=.int .i64 (zaM V ((V.getD (i).toNat default).s.name))) en86 rfl (fun w hw=>zf9 _ _ _ _ _ V _ w (rH hlw hw) (by assumption)))) (zaz rfl rfl (fun hgd=>by(try rw [hgd]); have hgd0:=hgd; (try simp only [nT,oF,nF,dF] at hgd0); exact(zaf rfl)) (zaz rfl rfl (fun hgd=>by(try rw [hgd]); have hgd0:=hgd; (try simp only [nT,oF,nF,dF] at hgd0); exact(zcr rfl rfl)) (ph_y (zaR rfl rfl rfl) (gN [1,2,4,74] rfl (zap rfl (fun hc74=>?_) (fun hc74=>?_))))))
     ·have hno:wlAt S V i.toNat=false:=zqg ((zn4 k0 hc36).symm.trans hc74)
      refine gS (gA rfl (gN [1,2,4] rfl (zaw (zay (zaC rfl (zau rfl)) ?_))))
      rw [znG k0 hc36 hno]
     ·have hyes:wlAt S V i.toNat=true:=zll ((zn4 k0 hc36).symm.trans hc74)
      refine zaq (zaa (gM rfl (gQ (zaY rfl rfl) (gA rfl (gN [1,2,4] rfl ?_)))))
      exact za1 (i+1) ⟨rfl,rfl,rfl,trivial⟩ rfl ⟨by omega,by omega,zdu k0 k2 hyes⟩ (by omega)
    ·have hc36:=oD hc36
     refine za8 rfl (zac (gZ 11 (ph_y (zab zd6 rfl) (ph_y (zah 0 tf22 rfl rfl rfl) (ph_y (zaV (Tryz.underlying22) rfl) (ph_y (zeT rfl rfl) (ph_y (zaf rfl) (zaH rfl rfl (fun jj=>by(try rw [jj]); exact zab zdT rfl) (zaH rfl rfl (fun jj=>by(try rw [jj]); exact zah 0 tf23 rfl rfl rfl) (zaH rfl rfl (fun jj=>by(try rw [jj]); exact zaV (Tryz.underlying23) rfl) (zaH rfl rfl (fun jj=>by(try rw [jj]); exact zeT rfl rfl) (ph_y (zaX rfl rfl rfl) (ph_y (zad rfl) (gN [2] rfl (zaw (zay (zaC rfl (zau rfl)) ?_))))))))))))))))
     rw [znH hc10 hc36 g2 k2]
end Go.Proofs.YteepmmghanbllaaGreatDoor