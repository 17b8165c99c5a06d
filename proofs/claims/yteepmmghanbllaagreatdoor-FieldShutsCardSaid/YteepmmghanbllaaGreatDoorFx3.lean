/- What the proof of the root text leans on, part 3: the layer, plain facts and walks. No statement of the seat is proved in this text. -/
import Derived.Test.YteepmmghanbllaaGreatDoorFx2
set_option maxRecDepth 100000
set_option maxHeartbeats 32000000
namespace Go.Proofs.YteepmmghanbllaaGreatDoor
open Go.K Go.Stn Go.Pln Go.RowKit
theorem tf9:TF Tryz.prog 9 false 1 (.string ⟨#[]⟩):=tK
theorem tf45:TF Tryz.prog 45 false 1 (C none 0 0):=tK
theorem zyq:TF Tryz.prog 118 true 20 (.agg #[.string ⟨#[]⟩,O 0,O 0,O 0,O 0,C none 0 0,O 0,O 0,O 0,O 0,O 0,O 0,O 0,.int .u8 0,O 0,O 0,O 0,O 0,O 0,O 0]):=tK
theorem zzu:TF Tryz.prog 135 true 20 (.agg #[.string ⟨#[]⟩,O 0,O 0,O 0,O 0,C none 0 0,O 0,O 0,O 0,O 0,O 0,O 0,O 0,.int .u8 0,O 0,O 0,O 0,O 0,O 0,O 0]):=tK
theorem zBp:FO Tryz.prog 118 0 0:=fK
theorem zyM:FO Tryz.prog 118 3 3:=fK
theorem zDM:FO Tryz.prog 118 4 4:=fK
theorem zzi:FO Tryz.prog 118 5 5:=fK
theorem zCi:FO Tryz.prog 118 6 6:=fK
theorem zDN:FO Tryz.prog 118 7 7:=fK
theorem zDO:FO Tryz.prog 118 8 8:=fK
theorem zBr:FO Tryz.prog 118 9 9:=fK
theorem zAu:FO Tryz.prog 118 10 10:=fK
theorem zCH:FO Tryz.prog 118 11 11:=fK
theorem zCI:FO Tryz.prog 118 12 12:=fK
theorem zCK:FO Tryz.prog 118 17 17:=fK
theorem zBq:FO Tryz.prog 118 18 18:=fK
theorem zCL:FO Tryz.prog 118 19 19:=fK
theorem zAK:FO Tryz.prog 135 0 0:=fK
theorem zyH:FO Tryz.prog 135 3 3:=fK
theorem zDP:FO Tryz.prog 135 4 4:=fK
theorem zzj:FO Tryz.prog 135 5 5:=fK
theorem zCn:FO Tryz.prog 135 6 6:=fK
theorem zDQ:FO Tryz.prog 135 7 7:=fK
theorem zDR:FO Tryz.prog 135 8 8:=fK
theorem zCo:FO Tryz.prog 135 9 9:=fK
theorem zBt:FO Tryz.prog 135 10 10:=fK
theorem zCM:FO Tryz.prog 135 11 11:=fK
theorem zCN:FO Tryz.prog 135 12 12:=fK
theorem zzz:FO Tryz.prog 135 13 13:=fK
theorem zzZ:FO Tryz.prog 135 14 14:=fK
theorem zAv:FO Tryz.prog 135 15 15:=fK
theorem zBu:FO Tryz.prog 135 16 16:=fK
theorem zCO:FO Tryz.prog 135 17 17:=fK
theorem zBv:FO Tryz.prog 135 18 18:=fK
theorem zCP:FO Tryz.prog 135 19 19:=fK
theorem zGa:FO Tryz.prog 261 1 1:=fK
theorem zGb:FO Tryz.prog 264 1 1:=fK
theorem zHZ:SE Tryz.prog 237 261 2:=⟨Tryz.underlying237,by kernel_rfl⟩
theorem zH0:SE Tryz.prog 245 264 2:=⟨Tryz.underlying245,by kernel_rfl⟩
theorem zGU:AF Tryz.prog 237 261 2 16 [O 0,O 0]:=⟨Tryz.underlying237,by kernel_rfl,rfl⟩
theorem zGV:AF Tryz.prog 245 264 2 16 [O 0,O 0]:=⟨Tryz.underlying245,by kernel_rfl,rfl⟩
theorem en71:En Tryz.prog 71:=eK Tryz.func71
theorem en85:En Tryz.prog 85:=eK Tryz.func85
theorem en88:En Tryz.prog 88:=eK Tryz.func88
theorem zvR:En Tryz.prog 104:=eK Tryz.func104
theorem zhY:En Tryz.prog 131:=eK Tryz.func131
theorem ztI:En Tryz.prog 132:=eK Tryz.func132
theorem zxb:En Tryz.prog 133:=eK Tryz.func133
theorem zxc:En Tryz.prog 134:=eK Tryz.func134
theorem zxd:En Tryz.prog 135:=eK Tryz.func135
theorem zyV:En Tryz.prog 142:=eK Tryz.func142
theorem zHE:En Tryz.prog 143:=eK Tryz.func143
theorem zAC (x0 x1:Int) (w:World):(Instr.build 261 #[(0,O x0),(1,O x1)]).run Tryz.prog w=.ok (.agg #[O x0,O x1]) w:=by kernel_rfl
theorem zAD (x0 x1:Int) (w:World):(Instr.build 264 #[(0,O x0),(1,O x1)]).run Tryz.prog w=.ok (.agg #[O x0,O x1]) w:=by kernel_rfl
theorem zDA (x0_0 x0_1:Int) (w:World):(Instr.buildSlice 237 1 #[(0,.agg #[O x0_0,O x0_1])]).run Tryz.prog w=.ok (C (some ⟨w.heap.size,0,none⟩) 1 1) (w.alloc (.cells (([⟨x0_0,x0_1⟩]:List (Crs)).flatMap zbq).toArray 261)):=by kernel_rfl
theorem zDB (x0_0 x0_1:Int) (w:World):(Instr.buildSlice 245 1 #[(0,.agg #[O x0_0,O x0_1])]).run Tryz.prog w=.ok (C (some ⟨w.heap.size,0,none⟩) 1 1) (w.alloc (.cells (([⟨x0_0,x0_1⟩]:List (Crs)).flatMap zbq).toArray 264)):=by kernel_rfl
theorem zB7 (x0_0 x0_1 x0_2 x1_0 x1_1 x1_2:Int) (w:World):(Instr.buildSlice 257 2 #[(0,.agg #[O x0_0,O x0_1,O x0_2]),(1,.agg #[O x1_0,O x1_1,O x1_2])]).run Tryz.prog w=.ok (C (some ⟨w.heap.size,0,none⟩) 2 2) (w.alloc (.cells (([⟨x0_0,x0_1,x0_2⟩,⟨x1_0,x1_1,x1_2⟩]:List (Lim)).flatMap zgk).toArray 236)):=by kernel_rfl
theorem zEE (x0_0 x0_1 x0_2 x1_0 x1_1 x1_2 x2_0 x2_1 x2_2 x3_0 x3_1 x3_2 x4_0 x4_1 x4_2 x5_0 x5_1 x5_2 x6_0 x6_1 x6_2 x7_0 x7_1 x7_2 x8_0 x8_1 x8_2 x9_0 x9_1 x9_2 x10_0 x10_1 x10_2 x11_0 x11_1 x11_2 x12_0 x12_1 x12_2:Int) (w:World):(Instr.buildSlice 257 13 #[(0,.agg #[O x0_0,O x0_1,O x0_2]),(1,.agg #[O x1_0,O x1_1,O x1_2]),(2,.agg #[O x2_0,O x2_1,O x2_2]),(3,.agg #[O x3_0,O x3_1,O x3_2]),(4,.agg #[O x4_0,O x4_1,O x4_2]),(5,.agg #[O x5_0,O x5_1,O x5_2]),(6,.agg #[O x6_0,O x6_1,O x6_2]),(7,.agg #[O x7_0,O x7_1,O x7_2]),(8,.agg #[O x8_0,O x8_1,O x8_2]),(9,.agg #[O x9_0,O x9_1,O x9_2]),(10,.agg #[O x10_0,O x10_1,O x10_2]),(11,.agg #[O x11_0,O x11_1,O x11_2]),(12,.agg #[O x12_0,O x12_1,O x12_2])]).run Tryz.prog w=.ok (C (some ⟨w.heap.size,0,none⟩) 13 13) (w.alloc (.cells (([⟨x0_0,x0_1,x0_2⟩,⟨x1_0,x1_1,x1_2⟩,⟨x2_0,x2_1,x2_2⟩,⟨x3_0,x3_1,x3_2⟩,⟨x4_0,x4_1,x4_2⟩,⟨x5_0,x5_1,x5_2⟩,⟨x6_0,x6_1,x6_2⟩,⟨x7_0,x7_1,x7_2⟩,⟨x8_0,x8_1,x8_2⟩,⟨x9_0,x9_1,x9_2⟩,⟨x10_0,x10_1,x10_2⟩,⟨x11_0,x11_1,x11_2⟩,⟨x12_0,x12_1,x12_2⟩]:List (Lim)).flatMap zgk).toArray 236)):=by kernel_rfl
abbrev yan (w:World) (a:Option Addr) (s:Sht):=Has w (Ints a s.heights)
theorem ze3 (a:yO) (cap:Nat) (s:Sht) (w:World) (hl:yan w a s) (hn:Nums s) :
  Calls Tryz.prog 135 #[.agg #[.string s.name,O s.base,O s.batter,O s.height,O s.skin,C a s.heights.length cap,O s.least,O s.lap,O s.run,O s.every,O s.at_,O s.footing,O s.spread,.int .u8 s.cope,O s.tall,O s.short,O s.thick,O s.low,O s.high,O s.rood]] w (zcU (λ z:yO×Nat=>C z.1 (zaj s).length z.2) (λ z=>Row z.1 2 z.2 261 zbq (zaj s)) w):=by
 refine zan (vs:=[_]) Tryz.func135 I I (bL I) (gS (zaG I I (za3 (vs:=[_,_,_,_,_,_,_,_,_,_,_,_,_,_,_,_,_,_,_,_]) I I) λ b1=>(gA I (gN [1,2] I (gS (gA I (gN [1,2,3] I (gS (gA I (gN [1,2,3,4] I (zac (gS (gA I (gN [1,2,3,4,5] I (zas (zbB 261 zbq 2 (zbf (X:=Nat×Int×yO×Nat×List Crs) (λ⟨n,z,b,bc,L⟩=>[(1,Z b1),(2,C none 0 0),(3,C b L.length bc),(4,O z),(5,O (n:Int))]) (λ⟨n,z,b,bc,L⟩=>[Row b 2 bc 261 zbq L,Box b1 (sV s a cap) 118]) (λ⟨n,z,b,bc,L⟩=>(L=crsN s n∧z=zAt s n∧∀ j,j<n→zc5 s j=true)) (λ⟨n,z,b,bc,L⟩=>3001 - n) (0,0,none,0,[]) (sB I) I ?_ ?_)))))))))))))))))
 ·exact⟨rfl,rfl,λ j hj=>by omega⟩
 ·rintro ⟨n,z,b,bc,L⟩ hI
  obtain⟨gL,gz,gu⟩:=hI
  have hnl:=hn.len
  have hnh:=hn.height
  have he:=zeg hn n
  have hz0:=zjC hn n
  have hz1:=zn7 (by omega) gu
  have hn3:=zjb hn gu
  have hll:L.length=n:=by rw [gL,zeC]
  refine zac (zas (gS (gQ (zab zzi I) (gQ (zah 1 tf45 I I I) (gM I (gQ (zab zzi I) (gQ (zah 1 tf45 I I I) (gQ (zaV (Tryz.underlying45) I) (gQ (zfV I I) (gQ (zsy I I) (gQ (zaE se45 I I (λ _=>rH hl)) (gQ (zcE tf3 I (λ _=>rH hl) (by omega) (by omega) I) (gA I (gN [1,2,3,4,5,6] I (zae (T':=[(1,_),(2,_),(3,_),(4,_),(5,_),(6,O (zce s n))]) ⟨I,I,I,I,I,(by rw [←zxq hnl.1 n];rfl),trivial⟩ (zac (gS (gM I (gM I (gQ (zaY I I) (gQ (zab zyM I) (gQ (zah 1 tf3 I I I) (gQ (zc6 I I) (gN [1,2,3,4,5,6,25] I (zap I (λ hc25=>?_) (λ hc25=>?_))))))))))))))))))))))))))
  ·have hc25:=oT hc25
   have hcn:=zsG hn gu (by rw [←gz];omega)
   refine za8 I (zac (gS (gQ (zab zyM I) (gQ (zah 1 tf3 I I I) (gM I (gQ (zfV I I) (gA I (gN [1,2,3,4,7] I (zas (gS (gM I (gQ (zbL I I) (gA I (gN [1,2,3,4,7,49] I (zap I (λ hc49=>?_) (λ hc49=>?_))))))))))))))))
   ·have h0:s.height - zAt s n=0:=by rw [←gz];exact oT hc49
    have hcs:zaj s=L:=(ze6 hcn h0).trans gL.symm
    refine zaq (gS (gM I (gA I (gN [2] I (zaw (zbd (b,bc) 0 (zaC I (zau I)) ?_ (by rw [hcs];rfl)))))))
    first|(rw [hcs];done)|(rw [hcs,List.length_set])
   ·have h0:¬ s.height - zAt s n=0:=by rw [←gz];exact oD hc49
    refine zac (gZ 10 (ph_y (zaf I) (ph_y (zab zCi I) (ph_y (zah 1 tf3 I I I) (ph_y (zfx I I) (ph_y (zaf I) (zaz I I (λ jj=>by(try rw [jj]);exact zaf I) (zaz I I (λ jj=>by(try rw [jj]);exact zaV (Tryz.underlying237) I) (zaz I I (λ jj=>by(try rw [jj]);exact zbL I I) (ph_y (zaR I I I) (ph_y (zad I) (gN [1,2,3,4,52] I (zap I (λ hc52=>?_) (λ hc52=>?_))))))))))))))
    ·have hcs:zaj s=L++[⟨z,s.height⟩]:=by rw [ze5 hcn h0 (by simp only [Bool.or_eq_true,dT] at hc52;rw [←gz];omega),gL,gz]
     refine zaa (gM I (gM I (gQ (zab zyM I) (gQ (zah 1 tf3 I I I) (gQ (zaI I (zAC _ _)) (zaG I I (zaD I (zDA _ _) zax I) λ b67=>(zb4 (m:=[(⟨z,s.height⟩:Crs)]) 1 zGU zax I I I I (λ _ hw=>(zam zax (hw.has (p:=0) I))) (by first|omega|(simp only [lC,lN];omega)) (by first|(unfold maxLen;omega)|(simp only [lC,lN,maxLen];omega)) λ a68 c68=>(gA I (gN [2,3] I (gS (gM I (gA I (gN [2] I (zaw (zbd (a68,c68) 1 (zaC I (zau I)) ?_ (by rw [hcs];rfl))))))))))))))))
     first|(rw [hcs];done)|(rw [hcs,List.length_set])
    ·simp only [oF,dF] at hc52
     have hcs:zaj s=L.set ((L.length:Int) - 1).toNat ({ L.getD ((L.length:Int) - 1).toNat default with to:=s.height }):=by rw [ze4 hcn h0 (by rw [←gz];omega),zlf gL (by omega),gL]
     refine zaa (gM I (gM I (gQ (zaV (Tryz.underlying237) I) (gQ (zfV I I) (gQ (zab zyM I) (gQ (zah 1 tf3 I I I) (gQ (zaE zHZ I I (λ _ hw=>(zam zax (hw.has (p:=0) I)))) (gQ (zbh zGa I (λ w hw=>zaO (i:=((L.length:Int) - 1)) (zam zax (hw.has (p:=0) I)))) (zfG (x':=({ (L.getD (((L.length:Int) - 1)).toNat default) with to:=s.height }:Crs)) 0 zax tf3 I I (vs:=[_]) I I (by decide) I I (by omega) (by omega) (gN [2,3] I (gS (gM I (gA I (gN [2] I (zaw (zbd (b,bc) 0 (zaC I (zau I)) ?_ (by rw [hcs];rfl)))))))))))))))))
     first|(rw [hcs];done)|(rw [hcs,List.length_set])
  ·have hc25:=oD hc25
   refine zaq (gS (gM I (gM I (gM I (gM I (gQ (zaY I I) (gQ (zaI I (zAC _ _)) (zaG I I (zaD I (zDA _ _) zax I) λ b32=>(zb4 (m:=[(⟨z,(z+(zce s n))⟩:Crs)]) 1 zGU zax I I I I (λ _ hw=>(zam zax (hw.has (p:=0) I))) (by first|omega|(simp only [lC,lN];omega)) (by first|(unfold maxLen;omega)|(simp only [lC,lN,maxLen];omega)) λ a33 c33=>(gA I (gN [1,2,3,4,5,6] I (zaa (gM I (gM I (gQ (zaY I I) (gA I (gN [1,2,3,4,5] I (zaa (gM I (gQ (zaY I I) (gA I (gN [1,2,3,4,5] I (zaK 0 I ?_)))))))))))))))))))))))
   exact za1 (n+1,_,_,_,_) (sB I) I ⟨by rw [gL,ze7,gz];rfl,by rw [gz];rfl,zg7 gu (ziR (by rw [←gz];omega))⟩ (by simp only [];omega)
theorem zd4 (a:yO) (cap:Nat) (s:Sht) (w:World) (hl:yan w a s) (hs:zaP s.heights.length) :
  Calls Tryz.prog 104 #[.agg #[.string s.name,O s.base,O s.batter,O s.height,O s.skin,C a s.heights.length cap,O s.least,O s.lap,O s.run,O s.every,O s.at_,O s.footing,O s.spread,.int .u8 s.cope,O s.tall,O s.short,O s.thick,O s.low,O s.high,O s.rood]] w (Pure (O (zcX s)) w):=by
 refine zan (vs:=[_]) Tryz.func104 I I (bL I) (gS (zaG I I (za3 (vs:=[_,_,_,_,_,_,_,_,_,_,_,_,_,_,_,_,_,_,_,_]) I I) λ b1=>(gA I (gN [1,2] I (zih (X:=Unit) (λ _=>[(1,Z b1),(2,O 0),(3,.bool (zdJ s))]) (λ _=>[Box b1 (sV s a cap) 118]) (λ _=>True) ?_ ?_)))))
 ·refine zaa (gQ (zab zBr I) (gQ (zah 0 tf3 I I I) (gQ (zbL I I) (gM I (zai I I I I (λ hg9=>?_) (λ hg9=>?_))))))
  ·replace hg9:_=true:=hg9
   try rw [hg9]
   refine gQ (zab zAu I) (gT I I I (gQ (zah 0 tf3 I I I) (gT I I I (gQ (zbL I I) (gQ (za5 I I I) (gM I (zai I I I I (λ hg14=>?_) (λ hg14=>?_))))))))
   ·replace hg14:_=false:=hg14
    try rw [hg14]
    refine gQ (zab zBr I) (gT I I I (gQ (zah 0 tf3 I I I) (gT I I I (gQ (zaI I (zyk _ _ _)) (gT I I I (gQ (zab zAu I) (gT I I I (gQ (zah 0 tf3 I I I) (gT I I I (gQ (zaI I (zyk _ _ _)) (gT I I I (zaG I I (zaD I (zB7 _ _ _ _ _ _) zbM I) λ b21=>(gT I I I (gQ (zaJ zAY I (λ w hw=>zfT _ _ ([(⟨s.every,1,100000⟩:Lim),(⟨s.at_,0,3000⟩:Lim)]) w (zam zbM (hw.has (p:=0) I)) (by simp [zaP]))) (gQ (za5 I I I) (gA I (gN [1,2,3] I (zaK 0 I ?_))))))))))))))))))
    exact zb9 () ⟨I,I,(by refine congrArg (λ b=>some (Value.bool b)) ?_;first|exact ziM hg9 hg14|exact ziN hg14|exact ziO hg9),trivial⟩ rfl trivial
   ·replace hg14:_=true:=hg14
    try rw [hg14]
    refine gF I I I (gF I I I (gF I I I (gF I I I (gF I I I (gF I I I (gF I I I (gQ (za5 I I I) (gA I (gN [1,2,3] I ?_)))))))))
    exact zb9 () ⟨I,I,(by refine congrArg (λ b=>some (Value.bool b)) ?_;first|exact ziM hg9 hg14|exact ziN hg14|exact ziO hg9),trivial⟩ rfl trivial
  ·replace hg9:_=false:=hg9
   try rw [hg9]
   refine gF I I I (gF I I I (gQ (za5 I I I) (gM I (gT I I I (gQ (zab zBr I) (gT I I I (gQ (zah 0 tf3 I I I) (gT I I I (gQ (zaI I (zyk _ _ _)) (gT I I I (gQ (zab zAu I) (gT I I I (gQ (zah 0 tf3 I I I) (gT I I I (gQ (zaI I (zyk _ _ _)) (gT I I I (zaG I I (zaD I (zB7 _ _ _ _ _ _) zbM I) λ b21=>(gT I I I (gQ (zaJ zAY I (λ w hw=>zfT _ _ ([(⟨s.every,1,100000⟩:Lim),(⟨s.at_,0,3000⟩:Lim)]) w (zam zbM (hw.has (p:=0) I)) (by simp [zaP]))) (gQ (za5 I I I) (gA I (gN [1,2,3] I (zaK 0 I ?_)))))))))))))))))))))))
   exact zb9 () ⟨I,I,(by refine congrArg (λ b=>some (Value.bool b)) ?_;first|exact ziM hg9 hg14|exact ziN hg14|exact ziO hg9),trivial⟩ rfl trivial
 ·rintro _ hJ
  refine gS (gQ (zab zCg I) (gQ (zah 0 tf3 I I I) (gQ (zaI I (zyk _ _ _)) (gQ (zab zCh I) (gQ (zah 0 tf3 I I I) (gQ (zaI I (zyk _ _ _)) (gQ (zab zyM I) (gQ (zah 0 tf3 I I I) (gQ (zaI I (zyk _ _ _)) (gQ (zab zDM I) (gQ (zah 0 tf3 I I I) (gQ (zaI I (zyk _ _ _)) (gQ (zab zzi I) (gQ (zah 0 tf45 I I I) (gQ (zaV (Tryz.underlying45) I) (gQ (zaI I (zyk _ _ _)) (gQ (zab zCi I) (gQ (zah 0 tf3 I I I) (gQ (zaI I (zyk _ _ _)) (gQ (zab zDN I) (gQ (zah 0 tf3 I I I) (gQ (zaI I (zyk _ _ _)) (gQ (zab zDO I) (gQ (zah 0 tf3 I I I) (gQ (zaI I (zyk _ _ _)) (gQ (zab zCH I) (gQ (zah 0 tf3 I I I) (gQ (zaI I (zyk _ _ _)) (gQ (zab zCI I) (gQ (zah 0 tf3 I I I) (gQ (zaI I (zyk _ _ _)) ?_)))))))))))))))))))))))))))))))
  refine gQ (zab zCK I) (gQ (zah 0 tf3 I I I) (gQ (zab zBq I) (gQ (zah 0 tf3 I I I) (gQ (zaI I (zyk _ _ _)) (gQ (zab zBq I) (gQ (zah 0 tf3 I I I) (gQ (zaI I (zyk _ _ _)) (gQ (zab zCL I) (gQ (zah 0 tf3 I I I) (gQ (zaI I (zyk _ _ _)) (zaG I I (zaD I (zEE _ _ _ _ _ _ _ _ _ _ _ _ _ _ _ _ _ _ _ _ _ _ _ _ _ _ _ _ _ _ _ _ _ _ _ _ _ _ _) zbM I) λ b66=>(gQ (zaJ zAY I (λ w hw=>zfT _ _ ([(⟨s.base,1,3000⟩:Lim),(⟨s.batter,0,500⟩:Lim),(⟨s.height,1,3000⟩:Lim),(⟨s.skin,1,1500⟩:Lim),(⟨(s.heights.length:Int),1,12⟩:Lim),(⟨s.least,1,1000⟩:Lim),(⟨s.lap,0,500⟩:Lim),(⟨s.run,1,20⟩:Lim),(⟨s.footing,0,1000⟩:Lim),(⟨s.spread,0,1000⟩:Lim),(⟨s.low,0,s.high⟩:Lim),(⟨s.high,0,2000⟩:Lim),(⟨s.rood,1,100000⟩:Lim)]) w (zam zbM (hw.has (p:=0) I)) (by simp [zaP]))) (gA I (gN [1,2,3,4] I (gS (gA I (gN [1,2,3,4,5] I (zac (gS (gQ (zab zBp I) (gQ (zah 1 tf9 I I I) (gQ (zaJ ztI I (λ w hw=>zmo _ w)) (gQ (zbR I) (gM I ?_))))))))))))))))))))))))
  refine zai I I I I (λ hg72=>?_) (λ hg72=>?_)
  ·replace hg72:_=false:=hg72
   try rw [hg72]
   refine gM I (gT I I I (gQ (zbR I) (gQ (za5 I I I) (gM I (zai I I I I (λ hg76=>?_) (λ hg76=>?_))))))
   ·replace hg76:_=false:=hg76
    try rw [hg76]
    refine gM I (gT I I I (gQ (zbR I) (gQ (za5 I I I) (gM I (zai I I I I (λ hg80=>?_) (λ hg80=>?_))))))
    ·replace hg80:_=false:=hg80
     try rw [hg80]
     refine gQ (zab zzi I) (gT I I I (gQ (zah 1 tf45 I I I) (gT I I I (gM I (gT I I I (gQ (zaJ en71 I (λ w hw=>zhP _ _ s.heights zgP _ [] [] w (rH hl hw) (by assumption) (λ _=>True) (λ _ _=>trivial) zhY (λ z w _=>zjL z w))) (gQ (za5 I I I) (gM I (zai I I I I (λ hg86=>?_) (λ hg86=>?_))))))))))
     ·replace hg86:_=false:=hg86
      try rw [hg86]
      refine gQ (zat 1 zyq I I (vs:=[_,_,_,_,_,_,_,_,_,_,_,_,_,_,_,_,_,_,_,_]) I I) (gT I I I (gQ (zaJ zxb I (λ w hw=>ztv a cap s w)) (gT I I I (gQ (zbR I) (gQ (za5 I I I) (gM I (zai I I I I (λ hg91=>?_) (λ hg91=>?_))))))))
      ·replace hg91:_=false:=hg91
       try rw [hg91]
       refine gQ (zat 1 zyq I I (vs:=[_,_,_,_,_,_,_,_,_,_,_,_,_,_,_,_,_,_,_,_]) I I) (gT I I I (gQ (zab zyM I) (gT I I I (gQ (zah 1 tf3 I I I) (gT I I I (gQ (zaJ zxc I (λ w hw=>zkA a cap s _ w)) (gT I I I (gQ (zbw I I) (gQ (za5 I I I) (gM I (zai I I I I (λ hg98=>?_) (λ hg98=>?_))))))))))))
       ·replace hg98:_=false:=hg98
        try rw [hg98]
        refine gQ (zat 1 zyq I I (vs:=[_,_,_,_,_,_,_,_,_,_,_,_,_,_,_,_,_,_,_,_]) I I) (gT I I I (zaG I I (zbm zxd I (λ w hw=>ze3 a cap s w (rH hl hw) (zgZ (zjE hg72 hg76 hg80 hg86 hg91)))) λ p100=>(gT I I I (gQ (zaV (Tryz.underlying237) I) (gT I I I (gQ (zc6 I I) (gQ (za5 I I I) (gN [2,103] I (zap I (λ hc103=>?_) (λ hc103=>?_))))))))))
        ·simp only [dT] at hc103
         refine gS (gA I (gN [2] I (zaw (zay (zaC I (zau I)) ?_))))
         rw [zhM (zjE hg72 hg76 hg80 hg86 hg91) (oD hg98),if_pos (by omega)]
        ·simp only [dF] at hc103
         refine zaq (gS (gA I (gN [2] I (zaw (zay (zaC I (zau I)) ?_)))))
         rw [zhM (zjE hg72 hg76 hg80 hg86 hg91) (oD hg98),if_neg (by omega)]
       ·replace hg98:_=true:=hg98
        try rw [hg98]
        refine gF I I I (gF I I I (gF I I I (gQ (za5 I I I) (gN [2,103] I (zdg I (gS (gA I (gN [2] I (zaw (zay (zaC I (zau I)) ?_))))))))))
        rw [zo4 (zjE hg72 hg76 hg80 hg86 hg91) (oT hg98)]
      ·replace hg91:_=true:=hg91
       try rw [hg91]
       refine gF I I I (gF I I I (gF I I I (gF I I I (gQ (za5 I I I) (gM I (gF I I I (gF I I I (gF I I I (gF I I I (gQ (za5 I I I) (gN [2,103] I (zdg I (gS (gA I (gN [2] I (zaw (zay (zaC I (zau I)) ?_)))))))))))))))))
       rw [zeX (zu8 hg91)]
     ·replace hg86:_=true:=hg86
      try rw [hg86]
      refine gF I I I (gF I I I (gQ (za5 I I I) (gM I (gF I I I (gF I I I (gF I I I (gF I I I (gF I I I (gQ (za5 I I I) (gM I (gF I I I (gF I I I (gF I I I (gF I I I (gQ (za5 I I I) (gN [2,103] I (zdg I (gS (gA I (gN [2] I (zaw (zay (zaC I (zau I)) ?_))))))))))))))))))))))
      rw [zeX (zu7 hg86)]
    ·replace hg80:_=true:=hg80
     try rw [hg80]
     refine gF I I I (gF I I I (gF I I I (gQ (za5 I I I) (gM I (gF I I I (gF I I I (gF I I I (gQ (za5 I I I) (gM I (gF I I I (gF I I I (gF I I I (gF I I I (gF I I I (gQ (za5 I I I) (gM I (gF I I I (gF I I I (gF I I I (gF I I I (gQ (za5 I I I) (gN [2,103] I (zdg I (gS (gA I (gN [2] I (zaw (zay (zaC I (zau I)) ?_))))))))))))))))))))))))))))
     rw [zeX (zu6 hg80)]
   ·replace hg76:_=true:=hg76
    try rw [hg76]
    refine gF I I I (gQ (za5 I I I) (gM I (gF I I I (gF I I I (gF I I I (gF I I I (gQ (za5 I I I) (gM I (gF I I I (gF I I I (gF I I I (gQ (za5 I I I) (gM I (gF I I I (gF I I I (gF I I I (gF I I I (gF I I I (gQ (za5 I I I) (gM I (gF I I I (gF I I I (gF I I I (gF I I I (gQ (za5 I I I) (gN [2,103] I (zdg I (gS (gA I (gN [2] I (zaw (zay (zaC I (zau I)) ?_))))))))))))))))))))))))))))))))
    rw [zeX (zu5 hg76)]
  ·replace hg72:_=true:=hg72
   try rw [hg72]
   refine gF I I I (gQ (za5 I I I) (gM I (gF I I I (gF I I I (gQ (za5 I I I) (gM I (gF I I I (gF I I I (gF I I I (gF I I I (gQ (za5 I I I) (gM I (gF I I I (gF I I I (gF I I I (gQ (za5 I I I) (gM I (gF I I I (gF I I I (gF I I I (gF I I I (gF I I I (gQ (za5 I I I) (gM I (gF I I I (gF I I I (gF I I I (gF I I I (gQ (za5 I I I) (gN [2,103] I (zdg I (gS (gA I (gN [2] I (zaw (zay (zaC I (zau I)) ?_))))))))))))))))))))))))))))))))))))
   rw [zeX (zu4 hg72)]
theorem zda {s:Sht}:zcX s=0↔za4 s=true:=by
 unfold zcX
 cases za4 s <;> simp
theorem zkH {s:Sht} (h:¬ zcX s=0):za4 s=false∧zcX s=2:=by
 have h2:¬ za4 s=true:=λ x=>h (zda.2 x)
 exact⟨by simpa using h2,if_neg h2⟩
def zlL (s:Sht) (z:Int):Int:=if za4 s=true∧0≤z∧z≤s.height then zb5 s z else 0
def zlK (s:Sht) (z:Int):Int:=if za4 s=true then(if 0≤z∧z≤s.height then 0 else 3) else 2
theorem ztc (a:yO) (cap:Nat) (s:Sht) (z:Int) (w:World) (hl:yan w a s) (hs:zaP s.heights.length) :
  Calls Tryz.prog 113 #[.agg #[.string s.name,O s.base,O s.batter,O s.height,O s.skin,C a s.heights.length cap,O s.least,O s.lap,O s.run,O s.every,O s.at_,O s.footing,O s.spread,.int .u8 s.cope,O s.tall,O s.short,O s.thick,O s.low,O s.high,O s.rood],O z] w (Pure (.tuple #[O (zlL s z),O (zlK s z)]) w):=by
 refine zan (vs:=[_,_]) Tryz.func113 I I (bL I) (gS (zaG I I (za3 (vs:=[_,_,_,_,_,_,_,_,_,_,_,_,_,_,_,_,_,_,_,_]) I I) λ b2=>(gA I (gA I (gN [1,2,4,5] I (zac (gS (gQ (zat 0 zyq I I (vs:=[_,_,_,_,_,_,_,_,_,_,_,_,_,_,_,_,_,_,_,_]) I I) (gQ (zaJ zvR I (λ w hw=>zd4 a cap s w (rH hl hw) (by assumption))) (gA I (gN [1,2,4,5,6] I (gS (gM I (gQ (zcr I I) (gN [1,2,4,5,6,10] I (zap I (λ hc10=>?_) (λ hc10=>?_)))))))))))))))))
 ·have hE:=zkH (show ¬ zcX s=0 by simpa using hc10)
  have hno:¬ za4 s=true:=by rw [hE.1];exact fT
  refine gS (gM I (gA I (gA I (gN [1,2,4,5] I (zaw (zay (zc2 I (zau I) (zau I)) ?_))))))
  rw [zlL,zlK,if_neg (λ h=>hno h.1),if_neg hno,hE.2]
 ·have hok:za4 s=true:=zda.1 (by simpa using hc10)
  have hn:=zaZ hok
  have hnh:=hn.height
  refine zaq (zac (zac (gZ 8 (ph_y (zaf I) (ph_y (zbw I I) (ph_y (zaf I) (zaz I I (λ jj=>by(try rw [jj]);exact zaf I) (zaz I I (λ jj=>by(try rw [jj]);exact zab zyM I) (zaz I I (λ jj=>by(try rw [jj]);exact zah 0 tf3 I I I) (zaz I I (λ jj=>by(try rw [jj]);exact zc6 I I) (ph_y (zaR I I I) (gN [1,2,4,5,19] I (zap I (λ hc19=>?_) (λ hc19=>?_))))))))))))))
  ·simp only [Bool.or_eq_true,dT] at hc19
   refine gS (gA I (gA I (gN [1,2,4,5] I (zaw (zay (zc2 I (zau I) (zau I)) ?_)))))
   rw [zlL,zlK,if_neg (by omega),if_pos hok,if_neg (by omega)]
  ·simp only [oF,dF] at hc19
   refine zaq (gS (gQ (zat 0 zyq I I (vs:=[_,_,_,_,_,_,_,_,_,_,_,_,_,_,_,_,_,_,_,_]) I I) (gM I (gQ (zaJ zxc I (λ w hw=>zkA a cap s _ w)) (gA I (gA I (gN [4,5] I (zaw (zay (zc2 I (zau I) (zau I)) ?_)))))))))
   rw [zlL,zlK,if_pos ⟨hok,by omega,by omega⟩,if_pos hok,if_pos (by omega),zfM hn.batter hn.base (by omega) (by omega)]
theorem zg2 (a:yO) (cap:Nat) (s:Sht) (w:World) (hl:yan w a s) (hn:Nums s) :
  Calls Tryz.prog 143 #[.agg #[.string s.name,O s.base,O s.batter,O s.height,O s.skin,C a s.heights.length cap,O s.least,O s.lap,O s.run,O s.every,O s.at_,O s.footing,O s.spread,.int .u8 s.cope,O s.tall,O s.short,O s.thick,O s.low,O s.high,O s.rood]] w (zcU (λ z:yO×Nat=>C z.1 (zaj s).length z.2) (λ z=>Row z.1 2 z.2 264 zbq (zaj s)) w):=by
 refine zan (vs:=[_]) Tryz.func143 I I (bL I) (gS (zaG I I (za3 (vs:=[_,_,_,_,_,_,_,_,_,_,_,_,_,_,_,_,_,_,_,_]) I I) λ b1=>(gA I (gN [1,2] I (gS (gA I (gN [1,2,3] I (gS (gA I (gA I (gN [1,2,3,4,5] I (zac (zas (zbB 264 zbq 2 (zbf (X:=Nat×Int×Int×yO×Nat×List Crs) (λ⟨n,z,i,b,bc,L⟩=>[(1,Z b1),(2,C none 0 0),(3,C b L.length bc),(4,O z),(5,O i)]) (λ⟨n,z,i,b,bc,L⟩=>[Row b 2 bc 264 zbq L,Box b1 (sV s a cap) 135]) (λ⟨n,z,i,b,bc,L⟩=>(L=crsN s n∧z=zAt s n∧i=((min n (s.heights.length - 1):Nat):Int)∧∀ j,j<n→zc5 s j=true)) (λ⟨n,z,i,b,bc,L⟩=>3001 - n) (0,0,0,none,0,[]) (sB I) I ?_ ?_)))))))))))))))
 ·exact⟨rfl,rfl,by simp,λ j hj=>by omega⟩
 ·rintro ⟨n,z,i,b,bc,L⟩ hI
  obtain⟨gL,gz,gi,gu⟩:=hI
  have hnl:=hn.len
  have hnh:=hn.height
  have he:=zeg hn n
  have hz0:=zjC hn n
  have hz1:=zn7 (by omega) gu
  have hn3:=zjb hn gu
  have hll:L.length=n:=by rw [gL,zeC]
  have hix:s.heights.getD i.toNat default=zce s n:=by rw [gi];rfl
  refine zac (zac (gZ 10 (ph_y (zaf I) (ph_y (zab zzj I) (ph_y (zah 1 tf45 I I I) (ph_y (zaf I) (ph_y (zaE se45 I I (λ _=>rH hl)) (ph_y (zcE tf3 I (λ _=>rH hl) (by omega) (by omega) I) (ph_y (zaY I I) (ph_y (zab zyH I) (ph_y (zah 1 tf3 I I I) (ph_y (zeT I I) (gN [1,2,3,4,5,16] I (zap I (λ hc16=>?_) (λ hc16=>?_)))))))))))))))
  ·have hc16:=oT hc16
   refine zaq (zas (gS (gM I (gM I (gM I (gQ (zab zzj I) (gQ (zah 1 tf45 I I I) (gM I (gQ (zaE se45 I I (λ _=>rH hl)) (gQ (zcE tf3 I (λ _=>rH hl) (by omega) (by omega) I) (gQ (zaY I I) (gQ (zaI I (zAD _ _)) (zaG I I (zaD I (zDB _ _) zax I) λ b27=>(zb4 (m:=[(⟨z,(z+(s.heights.getD i.toNat default))⟩:Crs)]) 1 zGV zax I I I I (λ _ hw=>(zam zax (hw.has (p:=0) I))) (by first|omega|(simp only [lC,lN];omega)) (by first|(unfold maxLen;omega)|(simp only [lC,lN,maxLen];omega)) λ a28 c28=>(gA I (gN [1,2,3,4,5] I (gS (gM I (gQ (zab zzj I) (gQ (zah 2 tf45 I I I) (gM I (gQ (zaE se45 I I (λ _=>rH hl)) (gQ (zcE tf3 I (λ _=>rH hl) (by omega) (by omega) I) (gQ (zaY I I) (gA I (gN [1,2,3,4,5] I (gS (gM I (gQ (zaY I I) (gQ (zab zzj I) (gQ (zah 2 tf45 I I I) (gQ (zaV (Tryz.underlying45) I) (gQ (zbw I I) (gN [1,2,3,4,5,41] I (zap I (λ hc41=>?_) (λ hc41=>?_))))))))))))))))))))))))))))))))))))
   ·simp only [dT] at hc41
    refine zaa (gM I (gQ (zaY I I) (gA I (gN [1,2,3,4,5] I (zaK 0 I ?_)))))
    exact za1 (n+1,_,_,_,_,_) (sB I) I ⟨by rw [gL,ze7,gz,hix];rfl,by rw [gz,hix];rfl,by omega,zg7 gu (ziR (by rw [←gz];omega))⟩ (by simp only [];omega)
   ·simp only [dF] at hc41
    refine zaq (zaK 0 I ?_)
    exact za1 (n+1,_,_,_,_,_) (sB I) I ⟨by rw [gL,ze7,gz,hix];rfl,by rw [gz,hix];rfl,by omega,zg7 gu (ziR (by rw [←gz];omega))⟩ (by simp only [];omega)
  ·have hc16:=oD hc16
   have hcn:=zsG hn gu (by rw [←gz];omega)
   refine za8 I (gS (gQ (zab zyH I) (gQ (zah 1 tf3 I I I) (gM I (gQ (zfV I I) (gA I (gN [1,2,3,4,6] I (zac (zac (gZ 13 (ph_y (zaf I) (ph_y (zab zCn I) (ph_y (zah 1 tf3 I I I) (ph_y (zfx I I) (ph_y (zaf I) (zaz I I (λ jj=>by(try rw [jj]);exact zaf I) (zaz I I (λ jj=>by(try rw [jj]);exact zc6 I I) (zaz I I (λ jj=>by(try rw [jj]);exact zaf I) (zdr I I (λ jj=>by(try rw [jj]);exact zaf I) (zdr I I (λ jj=>by(try rw [jj]);exact zaV (Tryz.underlying245) I) (zdr I I (λ jj=>by(try rw [jj]);exact zbL I I) (zaz I I (λ jj=>by(try rw [jj]);exact zaX I I I) (ph_y (zaR I I I) (gN [1,2,3,4,6,60] I (zap I (λ hc60=>?_) (λ hc60=>?_))))))))))))))))))))))))))
   ·simp only [Bool.or_eq_true,aT,dT] at hc60
    have hle:=hn.least
    have hcs:zaj s=L++[⟨z,s.height⟩]:=by rw [ze5 hcn (by rw [←gz];omega) (by rw [←gz];omega),gL,gz]
    refine zaa (gM I (gM I (gQ (zab zyH I) (gQ (zah 1 tf3 I I I) (gQ (zaI I (zAD _ _)) (zaG I I (zaD I (zDB _ _) zax I) λ b66=>(zb4 (m:=[(⟨z,s.height⟩:Crs)]) 1 zGV zax I I I I (λ _ hw=>(zam zax (hw.has (p:=0) I))) (by first|omega|(simp only [lC,lN];omega)) (by first|(unfold maxLen;omega)|(simp only [lC,lN,maxLen];omega)) λ a67 c67=>(gA I (gN [2,3] I (gS (gM I (gA I (gN [2] I (zaw (zbd (a67,c67) 1 (zaC I (zau I)) ?_ (by rw [hcs];rfl))))))))))))))))
    first|(rw [hcs];done)|(rw [hcs,List.length_set])
   ·simp only [oF,Bool.and_eq_false_iff,dF] at hc60
    refine gS (gM I (gQ (zc6 I I) (gN [1,2,3,69] I (zap I (λ hc69=>?_) (λ hc69=>?_)))))
    ·have hc69:=oT hc69
     have hcs:zaj s=L.set ((L.length:Int) - 1).toNat ({ L.getD ((L.length:Int) - 1).toNat default with to:=s.height }):=by rw [ze4 hcn (by rw [←gz];omega) (by rw [←gz];omega),zlf gL (by omega),gL]
     refine zaa (gM I (gM I (gQ (zaV (Tryz.underlying245) I) (gQ (zfV I I) (gQ (zab zyH I) (gQ (zah 1 tf3 I I I) (gQ (zaE zH0 I I (λ _ hw=>(zam zax (hw.has (p:=0) I)))) (gQ (zbh zGb I (λ w hw=>zaO (i:=((L.length:Int) - 1)) (zam zax (hw.has (p:=0) I)))) (zfG (x':=({ (L.getD (((L.length:Int) - 1)).toNat default) with to:=s.height }:Crs)) 0 zax tf3 I I (vs:=[_]) I I (by decide) I I (by omega) (by omega) (gN [2,3] I (gS (gM I (gA I (gN [2] I (zaw (zbd (b,bc) 0 (zaC I (zau I)) ?_ (by rw [hcs];rfl)))))))))))))))))
     first|(rw [hcs];done)|(rw [hcs,List.length_set])
    ·have hc69:=oD hc69
     have hcs:zaj s=L:=(ze6 hcn (by rw [←gz];omega)).trans gL.symm
     refine zaq (gS (gM I (gA I (gN [2] I (zaw (zbd (b,bc) 0 (zaC I (zau I)) ?_ (by rw [hcs];rfl)))))))
     first|(rw [hcs];done)|(rw [hcs,List.length_set])
theorem zkm (a:yO) (cap:Nat) (s:Sht) (w:World) (hl:yan w a s) (hs:zaP s.heights.length) (hco:0≤s.cope) (hfit:Fits s.name.size) :
  Calls Tryz.prog 111 #[.agg #[.string s.name,O s.base,O s.batter,O s.height,O s.skin,C a s.heights.length cap,O s.least,O s.lap,O s.run,O s.every,O s.at_,O s.footing,O s.spread,.int .u8 s.cope,O s.tall,O s.short,O s.thick,O s.low,O s.high,O s.rood]] w (Pure (.bool (za4 s)) w):=by
 refine zan (vs:=[_]) Tryz.func111 I I (bL I) (gS (zaG I I (za3 (vs:=[_,_,_,_,_,_,_,_,_,_,_,_,_,_,_,_,_,_,_,_]) I I) λ b1=>(gA I (gN [1,2] I (zac (zac (gZ 35 (ph_y (zab zAK I) (ph_y (zah 0 tf9 I I I) (ph_y (zaJ en85 I (λ w hw=>znM _ w (by assumption))) (ph_y (zbR I) (ph_y (zaf I) (zaz I I (λ jj=>by(try rw [jj]);exact zab zCl I) (zaz I I (λ jj=>by(try rw [jj]);exact zah 0 tf3 I I I) (zaz I I (λ jj=>by(try rw [jj]);exact zaJ (v:=.bool (inB s.base 1 3000)) zyV I (λ w hw=>in_c _ _ _ w)) (zaz I I (λ jj=>by(try rw [jj]);exact zbR I) (ph_y (zaR I I I) (ph_y (zaf I) (zaz I I (λ jj=>by(try rw [jj]);exact zab zCm I) (zaz I I (λ jj=>by(try rw [jj]);exact zah 0 tf3 I I I) (zaz I I (λ jj=>by(try rw [jj]);exact zaJ (v:=.bool (inB s.batter 0 500)) zyV I (λ w hw=>in_c _ _ _ w)) (zaz I I (λ jj=>by(try rw [jj]);exact zbR I) (ph_y (zaR I I I) (ph_y (zaf I) (zaz I I (λ jj=>by(try rw [jj]);exact zab zyH I) (zaz I I (λ jj=>by(try rw [jj]);exact zah 0 tf3 I I I) ?_))))))))))))))))))))))))))
 refine zaz I I (λ jj=>by(try rw [jj]);exact zaJ (v:=.bool (inB s.height 1 3000)) zyV I (λ w hw=>in_c _ _ _ w)) (zaz I I (λ jj=>by(try rw [jj]);exact zbR I) (ph_y (zaR I I I) (ph_y (zaf I) (zaz I I (λ jj=>by(try rw [jj]);exact zab zDP I) (zaz I I (λ jj=>by(try rw [jj]);exact zah 0 tf3 I I I) (zaz I I (λ jj=>by(try rw [jj]);exact zaJ (v:=.bool (inB s.skin 1 1500)) zyV I (λ w hw=>in_c _ _ _ w)) (zaz I I (λ jj=>by(try rw [jj]);exact zbR I) (ph_y (zaR I I I) (ph_y (zaf I) (zaz I I (λ jj=>by(try rw [jj]);exact zab zzj I) (zaz I I (λ jj=>by(try rw [jj]);exact zah 0 tf45 I I I) (zaz I I (λ jj=>by(try rw [jj]);exact zaV (Tryz.underlying45) I) (zaz I I (λ jj=>by(try rw [jj]);exact zaJ (v:=.bool (inB (s.heights.length:Int) 1 12)) zyV I (λ w hw=>in_c _ _ _ w)) (zaz I I (λ jj=>by(try rw [jj]);exact zbR I) (ph_y (zaR I I I) (gN [1,2,38] I (zap I (λ hc38=>?_) (λ hc38=>?_))))))))))))))))))
 ·refine gS (gA I (gN [1,2] I (zaw (zay (zaC I (zau I)) ?_))))
  rw [zcS (by rw [zdE hco,show v1 s=true from hc38];simp)]
 ·refine zaq (zac (gS (gA I (gN [1,2,3] I (zas (zbf (X:=Int) (λ(i:Int)=>[(1,Z b1),(2,.bool false),(3,O i)]) (λ(i:Int)=>[Box b1 (sV s a cap) 135]) (λ(i:Int)=>(0≤i∧i≤s.heights.length∧∀ j:Nat,(j:Int)<i→(!inB (s.heights.getD j default) 1 1000)=false)) (λ(i:Int)=>(s.heights.length - i).toNat) 0 ⟨I,I,I,trivial⟩ rfl ?_ ?_))))))
  ·exact⟨by omega,by omega,λ j hj=>by omega⟩
  ·rintro i hI
   obtain⟨g0,g1,g2⟩:=hI
   refine zac (gS (gM I (gQ (zab zzj I) (gQ (zah 0 tf45 I I I) (gQ (zaV (Tryz.underlying45) I) (gQ (zbw I I) (gN [1,2,3,43] I (zap I (λ hc43=>?_) (λ hc43=>?_)))))))))
   ·simp only [dT] at hc43
    refine zaq (zac (zas (gS (gQ (zab zzj I) (gQ (zah 0 tf45 I I I) (gM I (gQ (zaE se45 I I (λ _=>rH hl)) (gQ (zcE tf3 I (λ _=>rH hl) (by omega) (by omega) I) (gQ (zaJ zyV I (λ w hw=>in_c _ _ _ w)) (gQ (zbR I) (gN [1,2,3,52] I (zap I (λ hc52=>?_) (λ hc52=>?_)))))))))))))
    ·refine gS (gA I (gN [1,2,3] I (zaw (zay (zaC I (zau I)) ?_))))
     rw [zcS (by rw [zdE hco,zuN g0 hc43 hc52];simp)]
    ·refine zaq (zaa (gM I (gQ (zaY I I) (gA I (gN [1,2,3] I ?_)))))
     exact za1 (i+1) ⟨I,I,I,trivial⟩ rfl ⟨by omega,by omega,zdP (f:=λ j=>!inB (s.heights.getD j default) 1 1000) g0 g2 hc52⟩ (by omega)
   ·simp only [dF] at hc43
    refine za8 I (zac (zac (gZ 28 (ph_y (zab zCn I) (ph_y (zah 0 tf3 I I I) (ph_y (zaJ zyV I (λ w hw=>in_c _ _ _ w)) (ph_y (zbR I) (ph_y (zaf I) (zaz I I (λ jj=>by(try rw [jj]);exact zab zDQ I) (zaz I I (λ jj=>by(try rw [jj]);exact zah 0 tf3 I I I) (zaz I I (λ jj=>by(try rw [jj]);exact zaJ (v:=.bool (inB s.lap 0 500)) zyV I (λ w hw=>in_c _ _ _ w)) (zaz I I (λ jj=>by(try rw [jj]);exact zbR I) (ph_y (zaR I I I) (ph_y (zaf I) (zaz I I (λ jj=>by(try rw [jj]);exact zab zDR I) (zaz I I (λ jj=>by(try rw [jj]);exact zah 0 tf3 I I I) (zaz I I (λ jj=>by(try rw [jj]);exact zaJ (v:=.bool (inB s.run 1 20)) zyV I (λ w hw=>in_c _ _ _ w)) (zaz I I (λ jj=>by(try rw [jj]);exact zbR I) (ph_y (zaR I I I) (ph_y (zaf I) (zaz I I (λ jj=>by(try rw [jj]);exact zab zCM I) (zaz I I (λ jj=>by(try rw [jj]);exact zah 0 tf3 I I I) (zaz I I (λ jj=>by(try rw [jj]);exact zaJ (v:=.bool (inB s.footing 0 1000)) zyV I (λ w hw=>in_c _ _ _ w)) (zaz I I (λ jj=>by(try rw [jj]);exact zbR I) (ph_y (zaR I I I) (ph_y (zaf I) (zaz I I (λ jj=>by(try rw [jj]);exact zab zCN I) ?_)))))))))))))))))))))))))))
    refine zaz I I (λ jj=>by(try rw [jj]);exact zah 0 tf3 I I I) (zaz I I (λ jj=>by(try rw [jj]);exact zaJ (v:=.bool (inB s.spread 0 1000)) zyV I (λ w hw=>in_c _ _ _ w)) (zaz I I (λ jj=>by(try rw [jj]);exact zbR I) (ph_y (zaR I I I) (gN [1,2,80] I (zap I (λ hc80=>?_) (λ hc80=>?_))))))
    ·refine gS (gA I (gN [1,2] I (zaw (zay (zaC I (zau I)) ?_))))
     rw [zcS (by rw [zdE hco,show v2 s=true from hc80];simp)]
    ·refine zaq (zac (zac (gZ 20 (ph_y (zab zCo I) (ph_y (zah 0 tf3 I I I) (ph_y (zbL I I) (ph_y (zaf I) (zaH I I (λ jj=>by(try rw [jj]);exact zab zBt I) (zaH I I (λ jj=>by(try rw [jj]);exact zah 0 tf3 I I I) (zaH I I (λ jj=>by(try rw [jj]);exact zbL I I) (ph_y (zaX I I I) (ph_y (zbR I) (ph_y (zaf I) (zaH I I (λ jj=>by(try rw [jj]);exact zab zCo I) (zaH I I (λ jj=>by(try rw [jj]);exact zah 0 tf3 I I I) (zaH I I (λ jj=>by(try rw [jj]);exact zaJ (v:=.bool (inB s.every 1 100000)) zyV I (λ w hw=>in_c _ _ _ w)) (zaH I I (λ jj=>by(try rw [jj]);exact zaf I) (zdr I I (λ jj=>by(try rw [jj]);exact zab zBt I) (zdr I I (λ jj=>by(try rw [jj]);exact zah 0 tf3 I I I) (zdr I I (λ jj=>by(try rw [jj]);exact zaJ (v:=.bool (inB s.at_ 0 3000)) zyV I (λ w hw=>in_c _ _ _ w)) (zaH I I (λ jj=>by(try rw [jj]);exact zaX I I I) (zaH I I (λ jj=>by(try rw [jj]);exact zbR I) (ph_y (zaX I I I) (gN [1,2,100] I (zap I (λ hc100=>?_) (λ hc100=>?_))))))))))))))))))))))))))
     ·refine gS (gA I (gN [1,2] I (zaw (zay (zaC I (zau I)) ?_))))
      rw [zcS (by rw [zdE hco,show v3 s=true from hc100];simp)]
     ·refine zaq (zac (zac (gZ 23 (ph_y (zab zBv I) (ph_y (zah 0 tf3 I I I) (ph_y (zaJ zyV I (λ w hw=>in_c _ _ _ w)) (ph_y (zbR I) (ph_y (zaf I) (zaz I I (λ jj=>by(try rw [jj]);exact zab zCO I) (zaz I I (λ jj=>by(try rw [jj]);exact zah 0 tf3 I I I) (zaz I I (λ jj=>by(try rw [jj]);exact zab zBv I) (zaz I I (λ jj=>by(try rw [jj]);exact zah 0 tf3 I I I) (zaz I I (λ jj=>by(try rw [jj]);exact zaJ (v:=.bool (inB s.low 0 s.high)) zyV I (λ w hw=>in_c _ _ _ w)) (zaz I I (λ jj=>by(try rw [jj]);exact zbR I) (ph_y (zaR I I I) (ph_y (zaf I) (zaz I I (λ jj=>by(try rw [jj]);exact zab zCP I) (zaz I I (λ jj=>by(try rw [jj]);exact zah 0 tf3 I I I) (zaz I I (λ jj=>by(try rw [jj]);exact zaJ (v:=.bool (inB s.rood 1 100000)) zyV I (λ w hw=>in_c _ _ _ w)) (zaz I I (λ jj=>by(try rw [jj]);exact zbR I) (ph_y (zaR I I I) (ph_y (zaf I) (zaz I I (λ jj=>by(try rw [jj]);exact zab zzz I) (zaz I I (λ jj=>by(try rw [jj]);exact zah 0 tf5 I I I) (zaz I I (λ jj=>by(try rw [jj]);exact zc6 I I) (ph_y (zaR I I I) (gN [1,2,123] I ?_)))))))))))))))))))))))))))
      refine zap I (λ hc123=>?_) (λ hc123=>?_)
      ·refine gS (gA I (gN [1,2] I (zaw (zay (zaC I (zau I)) ?_))))
       rw [zcS (by rw [zdE hco,show v4 s=true from hc123];simp)]
      ·refine zaq (zac (zac (gZ 18 (ph_y (zab zzz I) (ph_y (zah 0 tf5 I I I) (ph_y (zbL I I) (ph_y (zaf I) (zaH I I (λ jj=>by(try rw [jj]);exact zab zzZ I) (zaH I I (λ jj=>by(try rw [jj]);exact zah 0 tf3 I I I) (zaH I I (λ jj=>by(try rw [jj]);exact zcr I I) (zaH I I (λ jj=>by(try rw [jj]);exact zaf I) (zc0 I I (λ jj=>by(try rw [jj]);exact zab zAv I) (zc0 I I (λ jj=>by(try rw [jj]);exact zah 0 tf3 I I I) (zc0 I I (λ jj=>by(try rw [jj]);exact zcr I I) (zaH I I (λ jj=>by(try rw [jj]);exact zaR I I I) (zaH I I (λ jj=>by(try rw [jj]);exact zaf I) (zc0 I I (λ jj=>by(try rw [jj]);exact zab zBu I) (zc0 I I (λ jj=>by(try rw [jj]);exact zah 0 tf3 I I I) (zc0 I I (λ jj=>by(try rw [jj]);exact zcr I I) (zaH I I (λ jj=>by(try rw [jj]);exact zaR I I I) (ph_y (zaX I I I) (gN [1,2,141] I (zap I (λ hc141=>?_) (λ hc141=>?_))))))))))))))))))))))))
       ·refine gS (gA I (gN [1,2] I (zaw (zay (zaC I (zau I)) ?_))))
        rw [zcS (by rw [zdE hco,show v5 s=true from hc141];simp)]
       ·refine zaq (zac (zac (gZ 15 (ph_y (zab zzz I) (ph_y (zah 0 tf5 I I I) (ph_y (zcr I I) (ph_y (zaf I) (zaH I I (λ jj=>by(try rw [jj]);exact zab zzZ I) (zaH I I (λ jj=>by(try rw [jj]);exact zah 0 tf3 I I I) (zaH I I (λ jj=>by(try rw [jj]);exact zaJ (v:=.bool (inB s.tall 1 1000)) zyV I (λ w hw=>in_c _ _ _ w)) (zaH I I (λ jj=>by(try rw [jj]);exact zbR I) (zaH I I (λ jj=>by(try rw [jj]);exact zaf I) (zc0 I I (λ jj=>by(try rw [jj]);exact zab zBu I) (zc0 I I (λ jj=>by(try rw [jj]);exact zah 0 tf3 I I I) (zc0 I I (λ jj=>by(try rw [jj]);exact zaJ (v:=.bool (inB s.thick 1 1000)) zyV I (λ w hw=>in_c _ _ _ w)) (zc0 I I (λ jj=>by(try rw [jj]);exact zbR I) (zaH I I (λ jj=>by(try rw [jj]);exact zaR I I I) (ph_y (zaX I I I) (gN [1,2,156] I (zap I (λ hc156=>?_) (λ hc156=>?_)))))))))))))))))))))
        ·refine gS (gA I (gN [1,2] I (zaw (zay (zaC I (zau I)) ?_))))
         rw [zcS (by rw [zdE hco,show v6 s=true from hc156];simp)]
        ·refine zaq (zac (zac (gZ 19 (ph_y (zab zzz I) (ph_y (zah 0 tf5 I I I) (ph_y (zbL I I) (ph_y (zaf I) (zaH I I (λ jj=>by(try rw [jj]);exact zab zAv I) (zaH I I (λ jj=>by(try rw [jj]);exact zah 0 tf3 I I I) (zaH I I (λ jj=>by(try rw [jj]);exact zaJ (v:=.bool (inB s.short 1 1000)) zyV I (λ w hw=>in_c _ _ _ w)) (zaH I I (λ jj=>by(try rw [jj]);exact zbR I) (ph_y (zaX I I I) (ph_y (zaf I) (zaz I I (λ jj=>by(try rw [jj]);exact zab zzz I) (zaz I I (λ jj=>by(try rw [jj]);exact zah 0 tf5 I I I) (zaz I I (λ jj=>by(try rw [jj]);exact zcr I I) (zaz I I (λ jj=>by(try rw [jj]);exact zaf I) (zdr I I (λ jj=>by(try rw [jj]);exact zab zAv I) (zdr I I (λ jj=>by(try rw [jj]);exact zah 0 tf3 I I I) (zdr I I (λ jj=>by(try rw [jj]);exact zcr I I) (zaz I I (λ jj=>by(try rw [jj]);exact zaX I I I) (ph_y (zaR I I I) (gN [1,2,175] I (zap I (λ hc175=>?_) (λ hc175=>?_)))))))))))))))))))))))))
         ·refine gS (gA I (gN [1,2] I (zaw (zay (zaC I (zau I)) ?_))))
          rw [zcS (by rw [zdE hco,show v7 s=true from hc175];simp)]
         ·have hbad:=zq7 hco hc38 (zsq hc43 g2) hc80 hc100 hc123 hc141 hc156 hc175
          refine zaq (gS (gQ (zat 0 zzu I I (vs:=[_,_,_,_,_,_,_,_,_,_,_,_,_,_,_,_,_,_,_,_]) I I) (gQ (zab zyH I) (gQ (zah 0 tf3 I I I) (gQ (zaJ en88 I (λ w hw=>zkn a cap s _ w)) (gQ (zfx I I) (gM I (zai I I I I (λ hg181=>?_) (λ hg181=>?_)))))))))
          ·replace hg181:_=true:=hg181
           try rw [hg181]
           refine gQ (zat 0 zzu I I (vs:=[_,_,_,_,_,_,_,_,_,_,_,_,_,_,_,_,_,_,_,_]) I I) (gT I I I (zaG I I (zbm zHE I (λ w hw=>zg2 a cap s w (rH hl hw) (zgZ hbad))) λ p183=>(gT I I I (gQ (zaV (Tryz.underlying245) I) (gT I I I (gQ (zeT I I) (gQ (za5 I I I) (gA I (gN [2] I (zaw (zay (zaC I (zau I)) ?_)))))))))))
           rw [zlD hbad,hg181];rfl
          ·replace hg181:_=false:=hg181
           try rw [hg181]
           refine gF I I I (gF I I I (gF I I I (gQ (za5 I I I) (gA I (gN [2] I (zaw (zay (zaC I (zau I)) ?_)))))))
           rw [zlD hbad,hg181];rfl
end Go.Proofs.YteepmmghanbllaaGreatDoor
namespace Go.Pln
open Go Go.K Go.RowKit Go.Stn
abbrev Knd (o:Opn):Prop:=0≤o.kind∧o.kind≤255
def zvV (len top:Int) (o:Opn):Bool:=zhr [⟨W o.kind,1,4⟩,⟨len,1,100000⟩,⟨o.width,1,len⟩,⟨o.at_,0,W (len - o.width)⟩,⟨o.high,1,top⟩,⟨o.frm,0,W (top - o.high)⟩]
theorem zbp {n lo hi:Int}:inB n lo hi=true↔lo≤n∧n≤hi:=by
 unfold inB;simp only [aT,dT]
theorem zh4 {len top:Int} {o:Opn} (hk:Knd o) (hl:1≤len∧len≤100000) (hh:0≤top∧top≤3000) :
  zvV len top o=true↔(1≤o.kind∧o.kind≤4)∧(1≤o.width∧o.width≤len)∧(0≤o.at_∧o.at_≤len - o.width)∧(1≤o.high∧o.high≤top)∧(0≤o.frm∧o.frm≤top - o.high):=by
 unfold zvV
 simp only [zcC,zdI,aT,zbp,and_true]
 rw [zbr (n:=o.kind) (by omega) (by omega)]
 constructor
 ·rintro ⟨a,b,c,d,e,f⟩
  rw [zbr (by omega) (by omega)] at d f
  exact⟨a,c,d,e,f⟩
 ·rintro ⟨a,c,d,e,f⟩
  rw [zbr (n:=len - o.width) (by omega) (by omega),zbr (n:=top - o.high) (by omega) (by omega)]
  exact⟨a,hl,c,d,e,f⟩
structure zn8 (len top:Int) (o:Opn):Prop where
 k:1≤o.kind∧o.kind≤4
 w:1≤o.width∧o.width≤len
 a:0≤o.at_∧o.at_+o.width≤len
 h:1≤o.high∧o.high≤top
 f:0≤o.frm∧o.frm+o.high≤top
 l:1≤len∧len≤100000
 s:o.kind=3→o.frm+o.high=top
 g:o.kind=4→o.frm+o.high=top∧o.frm=0
theorem zh3 {len top:Int} {o:Opn}:zfY len top o=true↔zn8 len top o:=by
 unfold zfY
 simp only [aT,Bool.or_eq_true,nT,dT,dF,zbp]
 constructor
 ·rintro ⟨⟨⟨⟨⟨⟨a,b⟩,c⟩,d⟩,e⟩,f⟩,g,h⟩
  exact⟨a,c,by omega,e,by omega,b,by omega,by omega⟩
 ·rintro ⟨a,b,c,d,e,f,g,h⟩
  refine⟨⟨⟨⟨⟨⟨a,f⟩,b⟩,by omega⟩,d⟩,by omega⟩,?_,?_⟩
  ·by_cases h3:o.kind=3
   ·exact .inr (g h3)
   ·exact .inl h3
  ·by_cases h4:o.kind=4
   ·exact .inr (h h4)
   ·exact .inl h4
theorem ztO {len top:Int} {o:Opn} (hk:Knd o) (hl:1≤len∧len≤100000) (hh:0≤top∧top≤3000) (h:(!zvV len top o)=true):zfY len top o=false:=by
 cases hb:zfY len top o with
 | false=>rfl
 | true=>
  have f:=zh3.1 hb
  have:=(zh4 hk hl hh).2 ⟨f.k,f.w,by have:=f.a;omega,f.h,by have:=f.f;omega⟩
  rw [this] at h;cases h
theorem zrq {len top:Int} {o:Opn} (hk:Knd o) (hl:1≤len∧len≤100000) (hh:0≤top∧top≤3000) (h:(!zvV len top o)=false) :
  zfY len top o=((!decide (o.kind=3)||decide (o.frm+o.high=top))&&(!decide (o.kind=4)||(decide (o.frm+o.high=top)&&decide (o.frm=0)))):=by
 have f:=(zh4 hk hl hh).1 (zll h)
 unfold zfY
 rw [show inB o.kind 1 4=true from zbp.2 f.1,show inB len 1 100000=true from zbp.2 hl,show inB o.width 1 len=true from zbp.2 f.2.1,show inB o.at_ 0 (len - o.width)=true from zbp.2 f.2.2.1,show inB o.high 1 top=true from zbp.2 f.2.2.2.1,show inB o.frm 0 (top - o.high)=true from zbp.2 f.2.2.2.2]
 simp
def zhk (o p:Opn):Bool:=decide (o.at_<W (p.at_+p.width))&&decide (p.at_<W (o.at_+o.width))&&decide (o.frm<W (p.frm+p.high))&&decide (p.frm<W (o.frm+o.high))
theorem zp8 {len top:Int} {o p:Opn} (hh:top≤3000) (ho:zn8 len top o) (hp:zn8 len top p):zhk o p=zea o p:=by
 have a1:=ho.a;have a2:=ho.f;have a3:=hp.a;have a4:=hp.f;have a5:=ho.w;have a6:=ho.h;have a7:=hp.w;have a8:=hp.h;have a9:=ho.l
 unfold zhk zea
 rw [zbr (n:=p.at_+p.width) (by omega) (by omega),zbr (n:=o.at_+o.width) (by omega) (by omega),zbr (n:=p.frm+p.high) (by omega) (by omega),zbr (n:=o.frm+o.high) (by omega) (by omega)]
theorem zf7 {top:Int} {w:Wll} {i:Nat} (h:zcI top w i=true):zn8 w.length top (w.opens.getD i default):=by
 unfold zcI at h
 simp only [aT] at h
 exact zh3.1 h.1
theorem zoS {top:Int} {w:Wll} {i:Int} (hh:top≤3000) (h0:0≤i) (h1:i<(w.opens.length:Int)) (hp:∀ j:Nat,(j:Int)<i→zcI top w j=true) (ho:zn8 w.length top (w.opens.getD i.toNat default)) :
  (w.opens.take i.toNat).any (zhk (w.opens.getD i.toNat default))=(w.opens.take i.toNat).any (λ q=>zea (w.opens.getD i.toNat default) q):=by
 have key:∀ q∈w.opens.take i.toNat,zhk (w.opens.getD i.toNat default) q=zea (w.opens.getD i.toNat default) q:=λ q hq=>by
  obtain⟨j,hj,rfl⟩:=List.getElem_of_mem hq
  rw [List.length_take] at hj
  have hf:=zf7 (hp j (by omega))
  rw [gE,eG (by omega)] at hf
  rw [List.getElem_take]
  exact zp8 hh ho hf
 rw [Bool.eq_iff_iff,List.any_eq_true,List.any_eq_true]
 exact⟨λ⟨q,h1,h2⟩=>⟨q,h1,by rw [←key q h1];exact h2⟩,λ⟨q,h1,h2⟩=>⟨q,h1,by rw [key q h1];exact h2⟩⟩
theorem zln {top:Int} {w:Wll} {i:Int} (hh:top≤3000) (h0:0≤i) (h1:i<(w.opens.length:Int)) (hp:∀ j:Nat,(j:Int)<i→zcI top w j=true) :
  (!zfY w.length top (w.opens.getD i.toNat default)||(w.opens.take i.toNat).any (zhk (w.opens.getD i.toNat default))) = !zcI top w i.toNat:=by
 unfold zcI
 cases hf:zfY w.length top (w.opens.getD i.toNat default) with
 | false=>rfl
 | true=>rw [zoS hh h0 h1 hp (zh3.1 hf)];simp
def zfP (w:Wll):Bool:=zdY w.name&&inB w.length 1 100000&&inB (w.opens.length:Int) 0 20
theorem zgN (top:Int) (w:Wll):zd1 top w=(zfP w&&allI w.opens.length λ i=>zcI top w i):=rfl
theorem zkz {top:Int} {w:Wll} (h:zfP w=false):zd1 top w=false:=by rw [zgN,h];rfl
theorem zhH {top:Int} {w:Wll} {i:Int} (h0:0≤i) (h1:i<(w.opens.length:Int)) (h:zcI top w i.toNat=false):zd1 top w=false:=by
 rw [zgN,zc9 (i:=i.toNat) (by omega) h,Bool.and_false]
theorem zn0 {top:Int} {w:Wll} {i:Int} (h:zfP w=true) (h1:¬ i<(w.opens.length:Int)) (hp:∀ j:Nat,(j:Int)<i→zcI top w j=true):zd1 top w=true:=by
 rw [zgN,h,zdN (λ j hj=>hp j (by omega))];rfl
theorem zgM {w:Wll} (h:zfP w=true):(1≤w.length∧w.length≤100000)∧w.opens.length≤20:=by
 unfold zfP at h
 simp only [aT,zbp] at h
 omega
theorem zqW {top:Int} {w:Wll} (h:zd1 top w=true):zfP w=true:=by
 rw [zgN,aT] at h;exact h.1
theorem zmJ (w:Wll):zfP w = !(!zgx w.name||!zhr [⟨w.length,1,100000⟩,⟨(w.opens.length:Int),0,20⟩]):=by
 unfold zfP
 rw [zcC,zcC,zdI,znv]
 cases zdY w.name <;> cases inB w.length 1 100000 <;> cases inB (w.opens.length:Int) 0 20 <;> rfl
theorem zuO (w:Wll):zfP w = !(!zdY w.name||!inB w.length 1 100000||decide (20<(w.opens.length:Int))):=by
 unfold zfP
 have:inB (w.opens.length:Int) 0 20 = !decide (20<(w.opens.length:Int)):=by
  rw [Bool.eq_iff_iff,zbp,nT,dF];omega
 rw [this]
 cases zdY w.name <;> cases inB w.length 1 100000 <;> cases decide (20<(w.opens.length:Int)) <;> rfl
theorem zdu {f:Nat→Bool} {i:Int} (h0:0≤i) (h:∀ j:Nat,(j:Int)<i→f j=true) (hi:f i.toNat=true):∀ j:Nat,(j:Int)<i+1→f j=true:=λ j hj=>by
 rcases Int.lt_or_eq_of_le (show(j:Int)≤i by omega) with g|g
 ·exact h j g
 ·rw [show j=i.toNat from by omega];exact hi
def zav (S:List ShC) (n:yB):ShC:=if 0≤zaS S n then S.getD (zaS S n).toNat default else default
theorem findI_lt {α:Type} (p:α→Bool) (l:List α):zbJ p l<(l.length:Int)∨zbJ p l = -1:=by
 unfold zbJ
 split
 ·rename_i h
  left
  obtain⟨x,hx,hp⟩:=List.any_eq_true.1 h
  have:=List.findIdx_lt_length_of_exists ⟨x,hx,hp⟩
  omega
 ·right;rfl
theorem zrp {α:Type} (p:α→Bool) (l:List α):-1≤zbJ p l:=by unfold zbJ;split <;> omega
theorem ziE {S:List ShC} {n:yB} (h:0≤zaS S n):zaS S n<(S.length:Int):=by
 rcases findI_lt (λ z:ShC=>z.s.name.toList == n.toList) S with g|g
 ·exact g
 ·unfold zaS at h;rw [g] at h;omega
theorem zky {S:List WlC} {n:yB} (h:0≤zaM S n):zaM S n<(S.length:Int):=by
 rcases findI_lt (λ z:WlC=>z.s.name.toList == n.toList) S with g|g
 ·exact g
 ·unfold zaM at h;rw [g] at h;omega
theorem zgp {S:List ShC} {n:yB} (h:0≤zaS S n):zav S n∈S:=by
 unfold zav
 rw [if_pos h]
 exact za0 (by have:=ziE h;omega)
theorem zpL {S:List ShC} {n:yB} {w:World} (h:∀ z∈S,Has w (Ints z.a z.s.heights)):Has w (Ints (zav S n).a (zav S n).s.heights):=by
 by_cases h0:0≤zaS S n
 ·exact h _ (zgp h0)
 ·unfold zav
  rw [if_neg h0]
  exact⟨λ _=>False,λ _ hk=>hk.elim,.inl I⟩
theorem zrs {S:List ShC} {n:yB} {P:ShC→Prop} (h:∀ z∈S,P z) (hd:P default):P (zav S n):=by
 by_cases h0:0≤zaS S n
 ·exact h _ (zgp h0)
 ·unfold zav;rw [if_neg h0];exact hd
theorem zh2 {α:Type} [Inhabited α] {p:α→Bool} {l:List α} {i:Int} (h0:0≤i) (h1:i<(l.length:Int)) (hp:p (l.getD i.toNat default)=true):decide (zbJ p l=i) = !(l.take i.toNat).any p:=by
 rw [Bool.eq_iff_iff,dT,nT,List.any_eq_false]
 constructor
 ·intro h x hx
  obtain⟨j,hj,rfl⟩:=List.getElem_of_mem hx
  rw [List.length_take] at hj
  rw [List.getElem_take]
  have hany:l.any p=true:=List.any_eq_true.2 ⟨_,za0 (by omega),hp⟩
  unfold zbJ at h
  rw [if_pos hany] at h
  have:=List.not_of_lt_findIdx (p:=p) (xs:=l) (i:=j) (by omega)
  simpa using this
 ·intro h
  refine zcs h0 h1 (λ j hj=>?_) hp
  have:=h (l.getD j default) (by
   rw [gE,eG (by omega)]
   exact List.mem_take_iff_getElem.2 ⟨j,by omega,rfl⟩)
  simpa using this
theorem ztM {α:Type} [Inhabited α] {p:α→Bool} {l:List α} {i:Int} (h0:0≤i) (h1:i<(l.length:Int)) (hp:p (l.getD i.toNat default)=true):decide (zbJ p l<i) = !decide (zbJ p l=i):=by
 have hany:l.any p=true:=List.any_eq_true.2 ⟨_,za0 (by omega),hp⟩
 have hle:(l.findIdx p:Int)≤i:=by
  have:l.findIdx p≤i.toNat:=by
   rcases Nat.lt_or_ge i.toNat (l.findIdx p) with g|g
   ·have:=List.not_of_lt_findIdx g
    rw [gE,eG (by omega)] at hp
    simp at hp
    simp [hp] at this
   ·exact g
  omega
 unfold zbJ
 rw [if_pos hany,Bool.eq_iff_iff,dT,nT,dF]
 omega
def shAt (S:List ShC) (i:Nat):Bool:=!(S.take i).any (λ z=>z.s.name.toList == (S.getD i default).s.name.toList)&&za4 (S.getD i default).s
def wlAt (S:List ShC) (V:List WlC) (i:Nat):Bool:=decide (0≤zaS S (V.getD i default).s.sheet)&&!(V.take i).any (λ z=>z.s.name.toList == (V.getD i default).s.name.toList)&&zd1 (zav S (V.getD i default).s.sheet).s.height (V.getD i default).s
def zc4 (S:List ShC) (V:List WlC):Bool:=!(decide (20<(S.length:Int))||decide (50<(V.length:Int)))&&allI S.length (shAt S)&&allI V.length (wlAt S V)
def zeW (S:List ShC) (V:List WlC):Int:=if zc4 S V=true then 0 else 2
end Go.Pln
namespace Go.Proofs.YteepmmghanbllaaGreatDoor
open Go.K Go.Stn Go.Pln Go.RowKit
theorem tf34:TF Tryz.prog 34 false 1 (C none 0 0):=tK
theorem tf35:TF Tryz.prog 35 false 1 (C none 0 0):=tK
theorem zAi:TF Tryz.prog 114 false 1 (C none 0 0):=tK
theorem zyz:TF Tryz.prog 116 true 4 (.agg #[.string ⟨#[]⟩,.string ⟨#[]⟩,O 0,C none 0 0]):=tK
theorem zy2:TF Tryz.prog 122 true 5 (.agg #[.int .u8 0,O 0,O 0,O 0,O 0]):=tK
theorem zkW:FO Tryz.prog 37 0 0:=fK
theorem zna:FO Tryz.prog 37 1 1:=fK
theorem zBn:FO Tryz.prog 116 0 0:=fK
theorem zAH:FO Tryz.prog 116 2 2:=fK
theorem zyL:FO Tryz.prog 116 3 3:=fK
theorem zAI:FO Tryz.prog 122 0 0:=fK
theorem zAb:FO Tryz.prog 122 1 1:=fK
theorem zAc:FO Tryz.prog 122 2 2:=fK
theorem zyW:FO Tryz.prog 122 3 3:=fK
theorem zzO:FO Tryz.prog 122 4 4:=fK
theorem se34:SE Tryz.prog 34 118 20:=⟨Tryz.underlying34,by kernel_rfl⟩
theorem se35:SE Tryz.prog 35 116 4:=⟨Tryz.underlying35,by kernel_rfl⟩
theorem zCz:SE Tryz.prog 114 122 5:=⟨Tryz.underlying114,by kernel_rfl⟩
theorem zHB:En Tryz.prog 128:=eK Tryz.func128
theorem zHC:En Tryz.prog 129:=eK Tryz.func129
theorem zxe:En Tryz.prog 136:=eK Tryz.func136
theorem zxf:En Tryz.prog 137:=eK Tryz.func137
theorem zxg:En Tryz.prog 138:=eK Tryz.func138
theorem zxh:En Tryz.prog 139:=eK Tryz.func139
theorem zvT:En Tryz.prog 140:=eK Tryz.func140
theorem zxl:En Tryz.prog 156:=eK Tryz.func156
theorem zDu  (w:World):(Instr.build 118 #[]).run Tryz.prog w=.ok (.agg #[.string ⟨#[]⟩,O 0,O 0,O 0,O 0,C none 0 0,O 0,O 0,O 0,O 0,O 0,O 0,O 0,.int .u8 0,O 0,O 0,O 0,O 0,O 0,O 0]) w:=by kernel_rfl
theorem zFU (x0_0 x0_1 x0_2 x1_0 x1_1 x1_2 x2_0 x2_1 x2_2 x3_0 x3_1 x3_2 x4_0 x4_1 x4_2 x5_0 x5_1 x5_2:Int) (w:World):(Instr.buildSlice 257 6 #[(0,.agg #[O x0_0,O x0_1,O x0_2]),(1,.agg #[O x1_0,O x1_1,O x1_2]),(2,.agg #[O x2_0,O x2_1,O x2_2]),(3,.agg #[O x3_0,O x3_1,O x3_2]),(4,.agg #[O x4_0,O x4_1,O x4_2]),(5,.agg #[O x5_0,O x5_1,O x5_2])]).run Tryz.prog w=.ok (C (some ⟨w.heap.size,0,none⟩) 6 6) (w.alloc (.cells (([⟨x0_0,x0_1,x0_2⟩,⟨x1_0,x1_1,x1_2⟩,⟨x2_0,x2_1,x2_2⟩,⟨x3_0,x3_1,x3_2⟩,⟨x4_0,x4_1,x4_2⟩,⟨x5_0,x5_1,x5_2⟩]:List (Lim)).flatMap zgk).toArray 236)):=by kernel_rfl
theorem zhj (a:yO) (cap:Nat) (l:List Opn) (f:Opn→Bool) (gg:FuncId) (gfs gcap:List Value) (w:World) (hl:Has w (zaW a 5 zba l)) (hs:zaP l.length) (M:World→Prop) (hM:yap w M) (hen:En Tryz.prog gg) (hg:∀ (z:Opn) w',M w'→Calls Tryz.prog gg (gfs++[Value.agg #[.int .u8 z.kind,O z.at_,O z.width,O z.frm,O z.high]]++gcap).toArray w' (Pure (.bool (f z)) w')) :
  Calls Tryz.prog 156 #[C a l.length cap,.func (.func gg) gfs.toArray gcap.toArray] w (Pure (O (zbJ f l)) w):=by
 refine zan (vs:=[_,_]) Tryz.func156 I I (bL I) (gS (gA I (gN [0,1,4] I (zac (gS (gM I (gQ (zaV (Tryz.underlying114) I) (gM I (gN [0,1,4,7,8] I (zas (zbf (X:=Int) (λ(i:Int)=>[(0,C a l.length cap),(1,.func (.func gg) gfs.toArray gcap.toArray),(4,O 0),(7,O (l.length:Int)),(8,O i)]) (λ(i:Int)=>[]) (λ(i:Int)=>(0≤i∧i≤l.length∧∀ j:Nat,(j:Int)<i→f (l.getD j default)=false)) (λ(i:Int)=>(l.length - i).toNat) 0 (sB I) I ?_ ?_)))))))))))
 ·exact⟨by omega,by omega,λ j hj=>by omega⟩
 ·rintro i hI
  obtain⟨g0,g1,g2⟩:=hI
  refine gS (gQ (zbw I I) (gN [0,1,4,7,8,9] I (zac (zap I (λ hc9=>?_) (λ hc9=>?_)))))
  ·simp only [dT] at hc9
   refine zaq (zac (zas (gS (gM I (gA I (gN [0,1,4,5,7,8] I (gS (gM I (gM I (gM I (gQ (zaE zCz I I (λ _=>rH hl)) (gQ (zbv (vs:=[_,_,_,_,_]) zy2 I (λ _=>rH hl) (by omega) (by omega) I) (gQ (zde (fs:=gfs) (cap:=gcap) hen I I (λ w hw=>hg (l.getD i.toNat default) w (hM _ hw.base.ext0))) (gN [0,1,4,5,7,8,16] I (zap I (λ hc16=>?_) (λ hc16=>?_))))))))))))))))
   ·refine gS (gM I (gA I (gN [0,1,4,7,8] I (zaw (zay (zaC I (zau I)) ?_)))))
    exact congrArg _ (zcs g0 (by omega) g2 hc16).symm
   ·refine zaq (zaa (gQ (zaY I I) (gM I (gN [0,1,4,7,8] I ?_))))
    exact za1 _ (sB I) I ⟨by omega,by omega,λ j hj=>if h:(j:Int)<i then g2 j h else(by rw [show j=i.toNat from by omega];exact hc16)⟩ (by omega)
  ·simp only [dF] at hc9
   refine za8 I (gS (gA I (gN [4] I (zaw (zay (zaC I (zau I)) ?_)))))
   exact congrArg _ (zck (λ j hj=>g2 j (by omega))).symm
theorem zhR (a:yO) (cap:Nat) (l:List Opn) (f:Opn→Bool) (gg:FuncId) (gfs gcap:List Value) (w:World) (hl:Has w (zaW a 5 zba l)) (hs:zaP l.length) (M:World→Prop) (hM:yap w M) (hen:En Tryz.prog gg) (hg:∀ (z:Opn) w',M w'→Calls Tryz.prog gg (gfs++[Value.agg #[.int .u8 z.kind,O z.at_,O z.width,O z.frm,O z.high]]++gcap).toArray w' (Pure (.bool (f z)) w')) :
  Calls Tryz.prog 139 #[C a l.length cap,.func (.func gg) gfs.toArray gcap.toArray] w (Pure (.bool (l.any f)) w):=by
 refine zan (vs:=[_,_]) Tryz.func139 I I (bL I) (gS (gA I (gN [0,1,4] I (gS (gM I (gM I (gQ (zaJ zxl I (λ w hw=>zhj _ _ l f _ _ _ w (rH hl hw) (by assumption) M (λ w' h=>hM w' (hw.base.ext0.trans h)) hen hg)) (gQ (zfx I I) (gA I (gN [4] I (zaw (zay (zaC I (zau I)) ?_))))))))))))
 rw [ze9]
theorem zld (a:yO) (cap:Nat) (l:List ShC) (f:ShC→Bool) (gg:FuncId) (gfs gcap:List Value) (w:World) (hl:Has w (zaW a 20 zbH l)) (hs:zaP l.length) (M:World→Prop) (hM:yap w M) (hen:En Tryz.prog gg) (hg:∀ (z:ShC) w',M w'→Calls Tryz.prog gg (gfs++[Value.agg #[.string z.s.name,O z.s.base,O z.s.batter,O z.s.height,O z.s.skin,C z.a z.s.heights.length z.cap,O z.s.least,O z.s.lap,O z.s.run,O z.s.every,O z.s.at_,O z.s.footing,O z.s.spread,.int .u8 z.s.cope,O z.s.tall,O z.s.short,O z.s.thick,O z.s.low,O z.s.high,O z.s.rood]]++gcap).toArray w' (Pure (.bool (f z)) w')) :
  Calls Tryz.prog 128 #[C a l.length cap,.func (.func gg) gfs.toArray gcap.toArray] w (Pure (O (zbJ f l)) w):=by
 refine zan (vs:=[_,_]) Tryz.func128 I I (bL I) (gS (gA I (gN [0,1,4] I (zac (gS (gM I (gQ (zaV (Tryz.underlying34) I) (gM I (gN [0,1,4,7,8] I (zas (zbf (X:=Int) (λ(i:Int)=>[(0,C a l.length cap),(1,.func (.func gg) gfs.toArray gcap.toArray),(4,O 0),(7,O (l.length:Int)),(8,O i)]) (λ(i:Int)=>[]) (λ(i:Int)=>(0≤i∧i≤l.length∧∀ j:Nat,(j:Int)<i→f (l.getD j default)=false)) (λ(i:Int)=>(l.length - i).toNat) 0 (sB I) I ?_ ?_)))))))))))
 ·exact⟨by omega,by omega,λ j hj=>by omega⟩
 ·rintro i hI
  obtain⟨g0,g1,g2⟩:=hI
  refine gS (gQ (zbw I I) (gN [0,1,4,7,8,9] I (zac (zap I (λ hc9=>?_) (λ hc9=>?_)))))
  ·simp only [dT] at hc9
   refine zaq (zac (zas (gS (gM I (gA I (gN [0,1,4,5,7,8] I (gS (gM I (gM I (gM I (gQ (zaE se34 I I (λ _=>rH hl)) (gQ (zbv (vs:=[_,_,_,_,_,_,_,_,_,_,_,_,_,_,_,_,_,_,_,_]) zyq I (λ _=>rH hl) (by omega) (by omega) I) (gQ (zde (fs:=gfs) (cap:=gcap) hen I I (λ w hw=>hg (l.getD i.toNat default) w (hM _ hw.base.ext0))) (gN [0,1,4,5,7,8,16] I (zap I (λ hc16=>?_) (λ hc16=>?_))))))))))))))))
   ·refine gS (gM I (gA I (gN [0,1,4,7,8] I (zaw (zay (zaC I (zau I)) ?_)))))
    exact congrArg _ (zcs g0 (by omega) g2 hc16).symm
   ·refine zaq (zaa (gQ (zaY I I) (gM I (gN [0,1,4,7,8] I ?_))))
    exact za1 _ (sB I) I ⟨by omega,by omega,λ j hj=>if h:(j:Int)<i then g2 j h else(by rw [show j=i.toNat from by omega];exact hc16)⟩ (by omega)
  ·simp only [dF] at hc9
   refine za8 I (gS (gA I (gN [4] I (zaw (zay (zaC I (zau I)) ?_)))))
   exact congrArg _ (zck (λ j hj=>g2 j (by omega))).symm
theorem zle (a:yO) (cap:Nat) (l:List WlC) (f:WlC→Bool) (gg:FuncId) (gfs gcap:List Value) (w:World) (hl:Has w (zaW a 4 zbS l)) (hs:zaP l.length) (M:World→Prop) (hM:yap w M) (hen:En Tryz.prog gg) (hg:∀ (z:WlC) w',M w'→Calls Tryz.prog gg (gfs++[Value.agg #[.string z.s.name,.string z.s.sheet,O z.s.length,C z.a z.s.opens.length z.cap]]++gcap).toArray w' (Pure (.bool (f z)) w')) :
  Calls Tryz.prog 136 #[C a l.length cap,.func (.func gg) gfs.toArray gcap.toArray] w (Pure (O (zbJ f l)) w):=by
 refine zan (vs:=[_,_]) Tryz.func136 I I (bL I) (gS (gA I (gN [0,1,4] I (zac (gS (gM I (gQ (zaV (Tryz.underlying35) I) (gM I (gN [0,1,4,7,8] I (zas (zbf (X:=Int) (λ(i:Int)=>[(0,C a l.length cap),(1,.func (.func gg) gfs.toArray gcap.toArray),(4,O 0),(7,O (l.length:Int)),(8,O i)]) (λ(i:Int)=>[]) (λ(i:Int)=>(0≤i∧i≤l.length∧∀ j:Nat,(j:Int)<i→f (l.getD j default)=false)) (λ(i:Int)=>(l.length - i).toNat) 0 (sB I) I ?_ ?_)))))))))))
 ·exact⟨by omega,by omega,λ j hj=>by omega⟩
 ·rintro i hI
  obtain⟨g0,g1,g2⟩:=hI
  refine gS (gQ (zbw I I) (gN [0,1,4,7,8,9] I (zac (zap I (λ hc9=>?_) (λ hc9=>?_)))))
  ·simp only [dT] at hc9
   refine zaq (zac (zas (gS (gM I (gA I (gN [0,1,4,5,7,8] I (gS (gM I (gM I (gM I (gQ (zaE se35 I I (λ _=>rH hl)) (gQ (zbv (vs:=[_,_,_,_]) zyz I (λ _=>rH hl) (by omega) (by omega) I) (gQ (zde (fs:=gfs) (cap:=gcap) hen I I (λ w hw=>hg (l.getD i.toNat default) w (hM _ hw.base.ext0))) (gN [0,1,4,5,7,8,16] I (zap I (λ hc16=>?_) (λ hc16=>?_))))))))))))))))
   ·refine gS (gM I (gA I (gN [0,1,4,7,8] I (zaw (zay (zaC I (zau I)) ?_)))))
    exact congrArg _ (zcs g0 (by omega) g2 hc16).symm
   ·refine zaq (zaa (gQ (zaY I I) (gM I (gN [0,1,4,7,8] I ?_))))
    exact za1 _ (sB I) I ⟨by omega,by omega,λ j hj=>if h:(j:Int)<i then g2 j h else(by rw [show j=i.toNat from by omega];exact hc16)⟩ (by omega)
  ·simp only [dF] at hc9
   refine za8 I (gS (gA I (gN [4] I (zaw (zay (zaC I (zau I)) ?_)))))
   exact congrArg _ (zck (λ j hj=>g2 j (by omega))).symm
theorem zsi (z:ShC) (n:yB) (b:Nat) (w:World) (hb:Has w (Box b [.string n] 9)) :
  Calls Tryz.prog 129 #[.agg #[.string z.s.name,O z.s.base,O z.s.batter,O z.s.height,O z.s.skin,C z.a z.s.heights.length z.cap,O z.s.least,O z.s.lap,O z.s.run,O z.s.every,O z.s.at_,O z.s.footing,O z.s.spread,.int .u8 z.s.cope,O z.s.tall,O z.s.short,O z.s.thick,O z.s.low,O z.s.high,O z.s.rood],Z b] w (Pure (.bool (z.s.name.toList == n.toList)) w):=by
 refine zan (vs:=[_,_]) Tryz.func129 I I (bL I) (gS (zaG I I (za3 (vs:=[_,_,_,_,_,_,_,_,_,_,_,_,_,_,_,_,_,_,_,_]) I I) λ b2=>(gA I (gN [1,2,3] I (gS (gQ (zab zBp I) (gQ (zah 0 tf9 I I I) (gQ (zbW tf9 I (λ _ hw=>zaQ (rH hb hw) I)) (gQ (zge I I) (gA I (gN [3] I (zaw (zay (zaC I (zau I)) ?_)))))))))))))
 rfl
theorem zuP (z:WlC) (n:yB) (b:Nat) (w:World) (hb:Has w (Box b [.string n] 9)) :
  Calls Tryz.prog 137 #[.agg #[.string z.s.name,.string z.s.sheet,O z.s.length,C z.a z.s.opens.length z.cap],Z b] w (Pure (.bool (z.s.name.toList == n.toList)) w):=by
 refine zan (vs:=[_,_]) Tryz.func137 I I (bL I) (gS (zaG I I (za3 (vs:=[_,_,_,_]) I I) λ b2=>(gA I (gN [1,2,3] I (gS (gQ (zab zBn I) (gQ (zah 0 tf9 I I I) (gQ (zbW tf9 I (λ _ hw=>zaQ (rH hb hw) I)) (gQ (zge I I) (gA I (gN [3] I (zaw (zay (zaC I (zau I)) ?_)))))))))))))
 rfl
abbrev yag (w:World) (a:Option Addr) (S:List ShC):=Has w (zaW a 20 zbH S)
theorem zeu (a:yO) (cap:Nat) (S:List ShC) (b:yO) (nw bcap:Nat) (n:yB) (w:World) (hl:yag w a S) (hs:zaP S.length) :
  Calls Tryz.prog 103 #[.agg #[C a S.length cap,C b nw bcap],.string n] w (Pure (.tuple #[.agg (zbH (zav S n)).toArray,.bool (decide (0≤zaS S n))]) w):=by
 have hlt:=λ h=>ziE (S:=S) (n:=n) h
 refine zan (vs:=[_,_]) Tryz.func103 I I (bL I) (gS (zaG I I (za3 (vs:=[_,_]) I I) λ b2=>(zaG I I (za3 (vs:=[_]) I I) λ b3=>(zaG I I (zaL zyq (zs:=[_,_,_,_,_,_,_,_,_,_,_,_,_,_,_,_,_,_,_,_]) I) λ b4=>(gA I (gN [2,3,4,5] I (gS (gQ (zab zkW I) (gQ (zah 2 tf34 I I I) (gQ (zbO («as»:=[]) (bs:=[_]) I I) (gQ (zaJ zHB I (λ w hw=>show Calls _ _ _ w (Pure (O (zaS S n)) w) from zld _ _ S (λ z=>z.s.name.toList == n.toList) 129 [] [Z b3] w (rH hl hw) (by assumption) (λ w'=>Has w' (Box b3 [.string n] 9)) (λ w' hx=>Has.ext (hw.has (p:=1) I) hx) zHC (λ z w' hm=>zsi z n b3 w' hm))) (gA I (gN [2,4,5,6] I (zac (gS (gM I (gQ (zbw I I) (gN [2,4,5,6,12] I (zap I (λ hc12=>?_) (λ hc12=>?_))))))))))))))))))))
 ·have h0:¬ 0≤zaS S n:=by have:=oT hc12;omega
  refine gS (gQ (zaI (parts:=[]) I zDu) (zbz 0 zyq I I (vs:=[_,_,_,_,_,_,_,_,_,_,_,_,_,_,_,_,_,_,_,_]) I I I I I (gA I (gN [2,4,5,6] I (zaw (zay (zc2 I (zbU (i:=0) (vs:=[.string ⟨#[]⟩,O 0,O 0,O 0,O 0,C none 0 0,O 0,O 0,O 0,O 0,O 0,O 0,O 0,.int .u8 0,O 0,O 0,O 0,O 0,O 0,O 0]) zyq I I I I) (zau I)) ?_))))))
  rw [show zav S n=default from if_neg h0,decide_eq_false h0];rfl
 ·have h0:0≤zaS S n:=by have:=oD hc12;omega
  have h1:=hlt h0
  refine zaq (gS (gQ (zab zkW I) (gQ (zah 2 tf34 I I I) (gM I (gQ (zaE se34 I I (λ _=>rH hl)) (gQ (zbv (vs:=[_,_,_,_,_,_,_,_,_,_,_,_,_,_,_,_,_,_,_,_]) zyq I (λ _=>rH hl) (by omega) (by omega) I) (zbz 0 zyq I I (vs:=[_,_,_,_,_,_,_,_,_,_,_,_,_,_,_,_,_,_,_,_]) I I I I I (gA I (gN [4,5] I (zaw (zay (zc2 I (zbU (i:=0) (vs:=(sV ((S.getD ((zaS S n)).toNat default).s) ((S.getD ((zaS S n)).toNat default).a) ((S.getD ((zaS S n)).toNat default).cap))) zyq I I I I) (zau I)) ?_)))))))))))
  rw [show zav S n=S.getD (zaS S n).toNat default from if_pos h0,decide_eq_true h0]
abbrev yah (w:World) (b:Option Addr) (V:List WlC):=Has w (zaW b 4 zbS V)
theorem zkg (a:yO) (ns cap:Nat) (b:yO) (bcap:Nat) (V:List WlC) (n:yB) (w:World) (hlw:yah w b V) (hsw:zaP V.length) :
  Calls Tryz.prog 105 #[.agg #[C a ns cap,C b V.length bcap],.string n] w (Pure (O (zaM V n)) w):=by
 refine zan (vs:=[_,_]) Tryz.func105 I I (bL I) (gS (zaG I I (za3 (vs:=[_,_]) I I) λ b2=>(zaG I I (za3 (vs:=[_]) I I) λ b3=>(gA I (gN [2,3,4] I (gS (gQ (zab zna I) (gQ (zah 1 tf35 I I I) (gQ (zbO («as»:=[]) (bs:=[_]) I I) (gQ (zaJ zxe I (λ w hw=>show Calls _ _ _ w (Pure (O (zaM V n)) w) from zle _ _ V (λ z=>z.s.name.toList == n.toList) 137 [] [Z b3] w (rH hlw hw) (by assumption) (λ w'=>Has w' (Box b3 [.string n] 9)) (λ w' hx=>Has.ext (hw.has (p:=0) I) hx) zxf (λ z w' hm=>zuP z n b3 w' hm))) (gA I (gN [4] I (zaw (zay (zaC I (zau I)) ?_))))))))))))))
 rfl
theorem zvW (o:Opn) (b:yO) (bcap:Nat) (v:Wll) (a:yO) (cap:Nat) (s:Sht) (w:World) (hk:Knd o) (hlen:1≤v.length∧v.length≤100000) (hh:0≤s.height∧s.height≤3000) :
  Calls Tryz.prog 138 #[.agg #[.int .u8 o.kind,O o.at_,O o.width,O o.frm,O o.high],.agg #[.string v.name,.string v.sheet,O v.length,C b v.opens.length bcap],.agg #[.string s.name,O s.base,O s.batter,O s.height,O s.skin,C a s.heights.length cap,O s.least,O s.lap,O s.run,O s.every,O s.at_,O s.footing,O s.spread,.int .u8 s.cope,O s.tall,O s.short,O s.thick,O s.low,O s.high,O s.rood]] w (Pure (.bool (zfY v.length s.height o)) w):=by
 refine zan (vs:=[_,_,_]) Tryz.func138 I I (bL I) (gS (zaG I I (za3 (vs:=[_,_,_,_,_]) I I) λ b3=>(zaG I I (za3 (vs:=[_,_,_,_]) I I) λ b4=>(zaG I I (za3 (vs:=[_,_,_,_,_,_,_,_,_,_,_,_,_,_,_,_,_,_,_,_]) I I) λ b5=>(gA I (gN [3,4,5,6] I (zac (gS (gQ (zab zAI I) (gQ (zah 2 tf5 I I I) (gQ (ziU (by kernel_rfl) (Tryz.underlying3) I) (gQ (zaI I (zyk _ _ _)) (gQ (zab zAH I) (gQ (zah 1 tf3 I I I) (gQ (zaI I (zyk _ _ _)) (gQ (zab zAc I) (gQ (zah 2 tf3 I I I) (gQ (zab zAH I) (gQ (zah 1 tf3 I I I) (gQ (zaI I (zyk _ _ _)) (gQ (zab zAb I) (gQ (zah 2 tf3 I I I) (gQ (zab zAH I) (gQ (zah 1 tf3 I I I) (gQ (zab zAc I) (gQ (zah 2 tf3 I I I) (gQ (ziW I I) (gQ (zaI I (zyk _ _ _)) (gQ (zab zzO I) (gQ (zah 2 tf3 I I I) (gQ (zab zyM I) (gQ (zah 0 tf3 I I I) ?_))))))))))))))))))))))))))))))))
 refine gQ (zaI I (zyk _ _ _)) (gQ (zab zyW I) (gQ (zah 2 tf3 I I I) (gQ (zab zyM I) (gQ (zah 0 tf3 I I I) (gQ (zab zzO I) (gQ (zah 2 tf3 I I I) (gQ (ziW I I) (gQ (zaI I (zyk _ _ _)) (zaG I I (zaD I (zFU _ _ _ _ _ _ _ _ _ _ _ _ _ _ _ _ _ _) zbM I) λ b41=>(gQ (zaJ zAY I (λ w hw=>zfT _ _ ([(⟨(IntKind.i64.wrap o.kind),1,4⟩:Lim),(⟨v.length,1,100000⟩:Lim),(⟨o.width,1,v.length⟩:Lim),(⟨o.at_,0,(IntKind.i64.wrap (v.length - o.width))⟩:Lim),(⟨o.high,1,s.height⟩:Lim),(⟨o.frm,0,(IntKind.i64.wrap (s.height - o.high))⟩:Lim)]) w (zam zbM (hw.has (p:=0) I)) (by simp [zaP]))) (gQ (zbR I) (gN [3,5,6,43] I (zap I (λ hc43=>?_) (λ hc43=>?_))))))))))))))
 ·have hf:=ztO hk hlen hh hc43
  refine gS (gA I (gN [3,5,6] I (zaw (zay (zaC I (zau I)) ?_))))
  rw [hf]
 ·have hf:=zrq hk hlen hh hc43
  have hF:=(zh4 hk hlen hh).1 (zll hc43)
  refine zaq (gS (gQ (zab zyW I) (gQ (zah 3 tf3 I I I) (gQ (zab zzO I) (gQ (zah 3 tf3 I I I) (gQ (zaY I I) (gQ (zab zyM I) (gQ (zah 1 tf3 I I I) (gQ (zbL I I) (gA I (gN [3,6,7] I (zac (gZ 20 (ph_y (zab zAI I) (ph_y (zah 3 tf5 I I I) (ph_y (zcr I I) (ph_y (zaf I) (zaz I I (λ jj=>by(try rw [jj]);exact zaf I) (ph_y (zaR I I I) (ph_y (zaf I) (zaH I I (λ jj=>by(try rw [jj]);exact zab zAI I) (zaH I I (λ jj=>by(try rw [jj]);exact zah 3 tf5 I I I) (zaH I I (λ jj=>by(try rw [jj]);exact zcr I I) (zaH I I (λ jj=>by(try rw [jj]);exact zaf I) (zc0 I I (λ jj=>by(try rw [jj]);exact zaf I) (zc0 I I (λ jj=>by(try rw [jj]);exact zaf I) (zdr I I (λ jj=>by(try rw [jj]);exact zab zyW I) (zdr I I (λ jj=>by(try rw [jj]);exact zah 3 tf3 I I I) (zdr I I (λ jj=>by(try rw [jj]);exact zbL I I) (zc0 I I (λ jj=>by(try rw [jj]);exact zaX I I I) (zaH I I (λ jj=>by(try rw [jj]);exact zaR I I I) (ph_y (zaX I I I) (ph_y (zad I) (gN [6] I (zaw ?_)))))))))))))))))))))))))))))))))))
  refine zay (zaC I (zau I)) ?_
  rw [hf]
theorem zug (o p:Opn) (w:World)  :
  Calls Tryz.prog 140 #[.agg #[.int .u8 o.kind,O o.at_,O o.width,O o.frm,O o.high],.agg #[.int .u8 p.kind,O p.at_,O p.width,O p.frm,O p.high]] w (Pure (.bool (zhk o p)) w):=by
 refine zan (vs:=[_,_]) Tryz.func140 I I (bL I) (gS (zaG I I (za3 (vs:=[_,_,_,_,_]) I I) λ b2=>(zaG I I (za3 (vs:=[_,_,_,_,_]) I I) λ b3=>(gA I (gN [2,3,4] I (zac (gZ 39 (ph_y (zab zAb I) (ph_y (zah 1 tf3 I I I) (ph_y (zab zAb I) (ph_y (zah 0 tf3 I I I) (ph_y (zab zAc I) (ph_y (zah 0 tf3 I I I) (ph_y (zfw I I) (ph_y (zbw I I) (ph_y (zaf I) (zaH I I (λ jj=>by(try rw [jj]);exact zab zAb I) (zaH I I (λ jj=>by(try rw [jj]);exact zah 0 tf3 I I I) (zaH I I (λ jj=>by(try rw [jj]);exact zab zAb I) (zaH I I (λ jj=>by(try rw [jj]);exact zah 1 tf3 I I I) (zaH I I (λ jj=>by(try rw [jj]);exact zab zAc I) (zaH I I (λ jj=>by(try rw [jj]);exact zah 1 tf3 I I I) (zaH I I (λ jj=>by(try rw [jj]);exact zfw I I) (zaH I I (λ jj=>by(try rw [jj]);exact zbw I I) (ph_y (zaX I I I) (ph_y (zaf I) (zaH I I (λ jj=>by(try rw [jj]);exact zab zyW I) (zaH I I (λ jj=>by(try rw [jj]);exact zah 1 tf3 I I I) (zaH I I (λ jj=>by(try rw [jj]);exact zab zyW I) ?_)))))))))))))))))))))))))))))
 refine zaH I I (λ jj=>by(try rw [jj]);exact zah 0 tf3 I I I) (zaH I I (λ jj=>by(try rw [jj]);exact zab zzO I) (zaH I I (λ jj=>by(try rw [jj]);exact zah 0 tf3 I I I) (zaH I I (λ jj=>by(try rw [jj]);exact zfw I I) (zaH I I (λ jj=>by(try rw [jj]);exact zbw I I) (ph_y (zaX I I I) (ph_y (zaf I) (zaH I I (λ jj=>by(try rw [jj]);exact zab zyW I) (zaH I I (λ jj=>by(try rw [jj]);exact zah 0 tf3 I I I) (zaH I I (λ jj=>by(try rw [jj]);exact zab zyW I) (zaH I I (λ jj=>by(try rw [jj]);exact zah 1 tf3 I I I) (zaH I I (λ jj=>by(try rw [jj]);exact zab zzO I) (zaH I I (λ jj=>by(try rw [jj]);exact zah 1 tf3 I I I) (zaH I I (λ jj=>by(try rw [jj]);exact zfw I I) (zaH I I (λ jj=>by(try rw [jj]);exact zbw I I) (ph_y (zaX I I I) (ph_y (zad I) (gN [4] I (zaw (zay (zaC I (zau I)) ?_)))))))))))))))))))
 rfl
abbrev yaq (w:World) (b:Option Addr) (v:Wll):=Has w (zaW b 5 zba v.opens)
theorem zmI (b:yO) (bcap:Nat) (v:Wll) (a:yO) (cap:Nat) (s:Sht) (w:World) (hv:yaq w b v) (hcap:v.opens.length≤bcap) (hsv:zaP v.opens.length) (hkn:∀ o∈v.opens,Knd o) (hh:0≤s.height∧s.height≤3000) :
  Calls Tryz.prog 106 #[.agg #[.string v.name,.string v.sheet,O v.length,C b v.opens.length bcap],.agg #[.string s.name,O s.base,O s.batter,O s.height,O s.skin,C a s.heights.length cap,O s.least,O s.lap,O s.run,O s.every,O s.at_,O s.footing,O s.spread,.int .u8 s.cope,O s.tall,O s.short,O s.thick,O s.low,O s.high,O s.rood]] w (Pure (.bool (zd1 s.height v)) w):=by
 refine zan (vs:=[_,_]) Tryz.func106 I I (bL I) (gS (zaG I I (za3 (vs:=[_,_,_,_]) I I) λ b2=>(zaG I I (za3 (vs:=[_,_,_,_,_,_,_,_,_,_,_,_,_,_,_,_,_,_,_,_]) I I) λ b3=>(gA I (gN [2,3,4] I (zih (X:=Unit) (λ _=>[(2,Z b2),(3,Z b3)]) (λ _=>[Box b3 (sV s a cap) 118,Box b2 (wV v b bcap) 116]) (λ _=>zfP v=true) ?_ ?_))))))
 ·refine gS (gQ (zab zBn I) (gQ (zah 1 tf9 I I I) (gQ (zaJ ztI I (λ w hw=>zmo _ w)) (gQ (zbR I) (gM I (zai I I I I (λ hg11=>?_) (λ hg11=>?_)))))))
  ·replace hg11:_=false:=hg11
   try rw [hg11]
   refine gQ (zab zAH I) (gT I I I (gQ (zah 1 tf3 I I I) (gT I I I (gQ (zaI I (zyk _ _ _)) (gT I I I (gQ (zab zyL I) (gT I I I (gQ (zah 1 zAi I I I) (gT I I I (gQ (zaV (Tryz.underlying114) I) (gT I I I (gQ (zaI I (zyk _ _ _)) (gT I I I (zaG I I (zaD I (zB7 _ _ _ _ _ _) zbM I) λ b19=>(gT I I I (gQ (zaJ zAY I (λ w hw=>zfT _ _ ([(⟨v.length,1,100000⟩:Lim),(⟨(v.opens.length:Int),0,20⟩:Lim)]) w (zam zbM (hw.has (p:=0) I)) (by simp [zaP]))) (gT I I I (gQ (zbR I) (gQ (za5 I I I) (gN [2,3,4,22] I (zap I (λ hc22=>?_) (λ hc22=>?_))))))))))))))))))))))
   ·have hw0:zfP v=false:=by rw [zmJ];rw [show(!zhr _)=true from hc22];simp
    refine gS (gA I (gN [2,3,4] I (zaw (zay (zaC I (zau I)) ?_))))
    rw [zkz hw0]
   ·have hw0:zfP v=true:=by rw [zmJ];rw [show(!zgx _)=false from hg11,show(!zhr _)=false from hc22];rfl
    refine zaq (zaK 0 I ?_)
    exact zb9 () ⟨I,I,trivial⟩ rfl hw0
  ·replace hg11:_=true:=hg11
   try rw [hg11]
   refine gF I I I (gF I I I (gF I I I (gF I I I (gF I I I (gF I I I (gF I I I (gF I I I (gF I I I (gQ (za5 I I I) (gN [2,3,4,22] I (zdg I (gS (gA I (gN [2,3,4] I (zaw (zay (zaC I (zau I)) ?_))))))))))))))))
   rw [zkz (by rw [zmJ,show(!zgx _)=true from hg11];rfl)]
 ·rintro _ hJ
  have hlen:=(zgM hJ).1
  refine zac (gS (gQ (zab zyL I) (gQ (zah 1 zAi I I I) (gQ (zaV (Tryz.underlying114) I) (gM I (gN [2,3,24,25,26] I (zas (zbf (X:=Int) (λ(i:Int)=>[(2,Z b2),(3,Z b3),(24,C b v.opens.length bcap),(25,O (v.opens.length:Int)),(26,O i)]) (λ(i:Int)=>[Box b3 (sV s a cap) 118,Box b2 (wV v b bcap) 116]) (λ(i:Int)=>(0≤i∧i≤v.opens.length∧∀ j:Nat,(j:Int)<i→zcI s.height v j=true)) (λ(i:Int)=>(v.opens.length - i).toNat) 0 (sB I) I ?_ ?_))))))))
  ·exact⟨by omega,by omega,λ j hj=>by omega⟩
  ·rintro i hI
   obtain⟨g0,g1,g2⟩:=hI
   refine gS (gQ (zbw I I) (gN [2,3,24,25,26,27] I (zac (zap I (λ hc27=>?_) (λ hc27=>?_)))))
   ·simp only [dT] at hc27
    refine zaq (zac (zas (gS (gM I (gQ (zaE zCz I I (λ _=>rH hv)) (gQ (zbv (vs:=[_,_,_,_,_]) zy2 I (λ _=>rH hv) (by omega) (by omega) I) (zaG I I (zaL zy2 (zs:=[_,_,_,_,_]) I) λ b6=>(gA I (zaA 0 zy2 I I (vs:=[_,_,_,_,_]) I I I I I (gN [2,3,5,6,24,25,26] I (zac (gZ 14 (ph_y (zat 0 zy2 I I (vs:=[_,_,_,_,_]) I I) (ph_y (zat 2 zyz I I (vs:=[_,_,_,_]) I I) (ph_y (zat 1 zyq I I (vs:=[_,_,_,_,_,_,_,_,_,_,_,_,_,_,_,_,_,_,_,_]) I I) (ph_y (zaJ zxg I (λ w hw=>zvW (v.opens.getD i.toNat default) b bcap v a cap s w (hkn _ (za0 (by omega))) hlen hh)) (ph_y (zbR I) (ph_y (zaf I) (zaz I I (λ jj=>by(try rw [jj]);exact zab zyL I) (zaz I I (λ jj=>by(try rw [jj]);exact zah 2 zAi I I I) (zaz I I (λ jj=>by(try rw [jj]);exact zaf I) (zaz I I (λ jj=>by(try rw [jj]);exact zg8 zCz I I (by omega) (by omega) hcap) (zaz I I (λ jj=>by(try rw [jj]);exact zat 0 zy2 I I (vs:=[_,_,_,_,_]) I I) (zaz I I (λ jj=>by(try rw [jj]);exact zbO («as»:=[_]) (bs:=[]) I I) ?_))))))))))))))))))))))))
    refine zaz I I (λ jj=>by(try rw [jj]);exact zaJ (v:=.bool ((v.opens.take i.toNat).any (zhk (v.opens.getD i.toNat default)))) zxh I (λ w hw=>zhR _ _ (v.opens.take i.toNat) (zhk (v.opens.getD i.toNat default)) 140 [.agg (zba (v.opens.getD i.toNat default)).toArray] [] w (zje (rH hv hw) (by omega) (by omega)) (by rw [List.length_take];have:=hsv;unfold zaP at *;omega) (λ _=>True) (λ _ _=>trivial) zvT (λ z w _=>zug _ z w))) (ph_y (zaR I I I) (gN [2,3,24,25,26,44] I (zap I (λ hc44=>?_) (λ hc44=>?_))))
    ·have hno:zcI s.height v i.toNat=false:=zqg ((zln (by omega) g0 hc27 g2).symm.trans hc44)
     refine gS (gA I (gN [2,3,4,24,25,26] I (zaw (zay (zaC I (zau I)) ?_))))
     rw [zhH g0 hc27 hno]
    ·have hyes:zcI s.height v i.toNat=true:=zll ((zln (by omega) g0 hc27 g2).symm.trans hc44)
     refine zaq (zaa (gQ (zaY I I) (gM I (gN [2,3,24,25,26] I (zaK 0 I ?_)))))
     exact za1 (i+1) (sB I) I ⟨by omega,by omega,zdu g0 g2 hyes⟩ (by omega)
   ·simp only [dF] at hc27
    refine za8 I (gS (gA I (gN [4] I (zaw (zay (zaC I (zau I)) ?_)))))
    rw [zn0 hJ hc27 g2]
end Go.Proofs.YteepmmghanbllaaGreatDoor
namespace Go.Pln
open Go Go.K Go.RowKit Go.Stn
theorem zgw (a:yB):(a.toList == a.toList)=true:=beq_self_eq_true _
theorem zqK {S:List ShC} {i:Int} (_h0:0≤i) (_h1:i<(S.length:Int)) :
  (decide (0≤zaS (S.take i.toNat) (S.getD i.toNat default).s.name)||!decide (zcX (S.getD i.toNat default).s=0)) = !shAt S i.toNat:=by
 unfold shAt zaS
 rw [ze9]
 have:decide (zcX (S.getD i.toNat default).s=0)=za4 (S.getD i.toNat default).s:=by
  unfold zcX
  cases za4 (S.getD i.toNat default).s <;> rfl
 rw [this]
 cases (S.take i.toNat).any _ <;> cases za4 (S.getD i.toNat default).s <;> rfl
theorem znR {S:List ShC} {i:Int} (h0:0≤i) (h1:i<(S.length:Int)) :
  (!za4 (S.getD i.toNat default).s||!decide (zaS S (S.getD i.toNat default).s.name=i)) = !shAt S i.toNat:=by
 unfold shAt
 have:=zh2 (p:=λ z:ShC=>z.s.name.toList == (S.getD i.toNat default).s.name.toList) h0 h1 (zgw _)
 rw [show zaS S (S.getD i.toNat default).s.name=zbJ (λ z:ShC=>z.s.name.toList == (S.getD i.toNat default).s.name.toList) S from rfl,this]
 cases (S.take i.toNat).any _ <;> cases za4 (S.getD i.toNat default).s <;> rfl
theorem zqY {S:List ShC} {V:List WlC} {i:Int} (h0:0≤i) (h1:i<(V.length:Int)) :
  ((!decide (0≤zaS S (V.getD i.toNat default).s.sheet)||decide (zaM V (V.getD i.toNat default).s.name<i))||!zd1 (zav S (V.getD i.toNat default).s.sheet).s.height (V.getD i.toNat default).s) = !wlAt S V i.toNat:=by
 unfold wlAt
 have h2:=zh2 (p:=λ z:WlC=>z.s.name.toList == (V.getD i.toNat default).s.name.toList) h0 h1 (zgw _)
 have h3:=ztM (p:=λ z:WlC=>z.s.name.toList == (V.getD i.toNat default).s.name.toList) h0 h1 (zgw _)
 rw [show zaM V (V.getD i.toNat default).s.name=zbJ (λ z:WlC=>z.s.name.toList == (V.getD i.toNat default).s.name.toList) V from rfl,h3,h2]
 cases decide (0≤zaS S (V.getD i.toNat default).s.sheet) <;> cases (V.take i.toNat).any _ <;> cases zd1 _ _ <;> rfl
theorem zn4 {S:List ShC} {V:List WlC} {i:Int} (h0:0≤i) (h1:i<(V.length:Int)) :
  ((decide (zaS S (V.getD i.toNat default).s.sheet<0)||!zd1 (S.getD (zaS S (V.getD i.toNat default).s.sheet).toNat default).s.height (V.getD i.toNat default).s)||!decide (zaM V (V.getD i.toNat default).s.name=i)) = !wlAt S V i.toNat:=by
 unfold wlAt
 have h2:=zh2 (p:=λ z:WlC=>z.s.name.toList == (V.getD i.toNat default).s.name.toList) h0 h1 (zgw _)
 rw [show zaM V (V.getD i.toNat default).s.name=zbJ (λ z:WlC=>z.s.name.toList == (V.getD i.toNat default).s.name.toList) V from rfl,h2]
 by_cases hk:0≤zaS S (V.getD i.toNat default).s.sheet
 ·rw [show zav S (V.getD i.toNat default).s.sheet=S.getD (zaS S (V.getD i.toNat default).s.sheet).toNat default from if_pos hk,decide_eq_true hk,decide_eq_false (show ¬ zaS S (V.getD i.toNat default).s.sheet<0 by omega)]
  cases (V.take i.toNat).any _ <;> cases zd1 _ _ <;> rfl
 ·rw [decide_eq_false hk,decide_eq_true (show zaS S (V.getD i.toNat default).s.sheet<0 by omega)];simp
theorem zox {S:List ShC} {i:Nat} (h:shAt S i=true):za4 (S.getD i default).s=true:=by
 unfold shAt at h
 rw [aT] at h
 exact h.2
theorem zg3 {S:List ShC} (h:∀ j:Nat,(j:Int)<(S.length:Int)→shAt S j=true):∀ z∈S,za4 z.s=true:=λ z hz=>by
 obtain⟨j,hj,rfl⟩:=List.getElem_of_mem hz
 have:=zox (h j (by omega))
 simpa [hj] using this
theorem zog {S:List ShC} {n:yB} (h:∀ z∈S,za4 z.s=true):0≤(zav S n).s.height∧(zav S n).s.height≤3000:=
 zrs (P:=λ z=>0≤z.s.height∧z.s.height≤3000) (λ z hz=>by have:=(zaZ (h z hz)).height;omega) (by decide)
theorem zqs {S:List ShC} {V:List WlC} (h:(decide (20<(S.length:Int))||decide (50<(V.length:Int)))=true):zc4 S V=false:=by unfold zc4;rw [h];rfl
theorem znF {S:List ShC} {V:List WlC} {i:Int} (h0:0≤i) (h1:i<(S.length:Int)) (h:shAt S i.toNat=false):zc4 S V=false:=by
 unfold zc4;rw [zc9 (i:=i.toNat) (by omega) h];simp
theorem znG {S:List ShC} {V:List WlC} {i:Int} (h0:0≤i) (h1:i<(V.length:Int)) (h:wlAt S V i.toNat=false):zc4 S V=false:=by
 unfold zc4;rw [zc9 (i:=i.toNat) (by omega) h,Bool.and_false]
theorem znH {S:List ShC} {V:List WlC} {i k:Int} (hi:¬ i<(S.length:Int)) (hk:¬ k<(V.length:Int)) (h1:∀ j:Nat,(j:Int)<i→shAt S j=true) (h2:∀ j:Nat,(j:Int)<k→wlAt S V j=true) :
  zc4 S V=(decide ((S.length:Int)≤20)&&decide ((V.length:Int)≤50)):=by
 unfold zc4
 rw [zdN (λ j hj=>h1 j (by omega)),zdN (λ j hj=>h2 j (by omega)),Bool.and_true,Bool.and_true,Bool.not_or]
 congr 1 <;> (rw [Bool.eq_iff_iff,nT,dF,dT];omega)
theorem zix {S:List ShC} {V:List WlC} (h:zc4 S V=true):S.length≤20∧V.length≤50∧(∀ j,j<S.length→shAt S j=true)∧(∀ j,j<V.length→wlAt S V j=true):=by
 unfold zc4 at h
 simp only [aT,nT,oF,dF] at h
 exact⟨by omega,by omega,zdf.1 h.1.2,zdf.1 h.2⟩
theorem zls {S:List ShC} {V:List WlC} (h:zc4 S V=true):∀ z∈S,za4 z.s=true:=zg3 λ j hj=>(zix h).2.2.1 j (by omega)
theorem zoG {S:List ShC} {V:List WlC} {i:Nat} (h:wlAt S V i=true):0≤zaS S (V.getD i default).s.sheet∧zd1 (zav S (V.getD i default).s.sheet).s.height (V.getD i default).s=true:=by
 unfold wlAt at h
 simp only [aT,dT] at h
 exact⟨h.1.1,h.2⟩
theorem zf8 {S:List ShC} {V:List WlC} (h:zc4 S V=true):∀ z∈V,0≤zaS S z.s.sheet∧zd1 (zav S z.s.sheet).s.height z.s=true:=λ z hz=>by
 obtain⟨j,hj,rfl⟩:=List.getElem_of_mem hz
 have:=zoG ((zix h).2.2.2 j hj)
 simpa [hj] using this
theorem znZ {w:Wll} {b:Bool} (h:(!zdY w.name||!inB w.length 1 100000||decide (20<(w.opens.length:Int)))=b):zfP w = !b:=by rw [zuO,h]
def rf1 (len top:Int) (o:Opn):Bool:=!inB o.kind 1 4||!inB o.at_ 0 len||!inB o.width 1 len||decide (len<o.at_+o.width)||!inB o.frm 0 top||!inB o.high 1 top||decide (top<o.frm+o.high)
def rf2 (top:Int) (o:Opn):Bool:=(decide (3≤o.kind)&&!decide (o.frm+o.high=top))||(decide (o.kind=4)&&!decide (o.frm=0))
theorem zuD {len top:Int} {o:Opn} (hl:1≤len∧len≤100000):zfY len top o = !(rf1 len top o||rf2 top o):=by
 rw [ztN (zbp.2 hl)];rfl
theorem zqw {len top:Int} {o:Opn} (h:rf1 len top o=false):(1≤o.kind∧o.kind≤4)∧(0≤o.at_∧o.at_≤len)∧(1≤o.width∧o.width≤len)∧o.at_+o.width≤len∧(0≤o.frm∧o.frm≤top)∧(1≤o.high∧o.high≤top)∧o.frm+o.high≤top:=by
 unfold rf1 at h
 simp only [oF,nF,zbp,dF] at h
 omega
theorem zjo {top:Int} {w:Wll} {i:Nat} (h:zfY w.length top (w.opens.getD i default)=false):zcI top w i=false:=by unfold zcI;rw [h];rfl
theorem zon {top:Int} {w:Wll} {i k:Int} (h0:0≤k) (hk:k<i) (h1:i<(w.opens.length:Int)) (h:zea (w.opens.getD i.toNat default) (w.opens.getD k.toNat default)=true):zcI top w i.toNat=false:=by
 unfold zcI
 have:(w.opens.take i.toNat).any (λ q=>zea (w.opens.getD i.toNat default) q)=true:=List.any_eq_true.2 ⟨w.opens.getD k.toNat default,by
  rw [gE (l:=w.opens) (i:=k.toNat),eG (by omega)]
  exact List.mem_take_iff_getElem.2 ⟨k.toNat,by omega,rfl⟩,h⟩
 rw [this];simp
theorem zoo {top:Int} {w:Wll} {i k:Int} (h1:i<(w.opens.length:Int)) (hf:zfY w.length top (w.opens.getD i.toNat default)=true) (hk:¬ k<i) (h:∀ j:Nat,(j:Int)<k→zea (w.opens.getD i.toNat default) (w.opens.getD j default)=false):zcI top w i.toNat=true:=by
 unfold zcI
 rw [hf,Bool.true_and,nT,List.any_eq_false]
 intro q hq
 obtain⟨j,hj,rfl⟩:=List.mem_take_iff_getElem.1 hq
 have:=h j (by omega)
 rw [gE (l:=w.opens) (i:=j),eG (by omega)] at this
 simpa using this
end Go.Pln
namespace Go.Proofs.YteepmmghanbllaaGreatDoor
open Go.K Go.Stn Go.Pln Go.RowKit
theorem tf37:TF Tryz.prog 37 true 2 (.agg #[C none 0 0,C none 0 0]):=tK
theorem zBo:FO Tryz.prog 116 1 1:=fK
theorem zDb:En Tryz.prog 103:=eK Tryz.func103
theorem zw0:En Tryz.prog 105:=eK Tryz.func105
theorem zw1:En Tryz.prog 106:=eK Tryz.func106
theorem zFK (x0a:yO) (x0n x0c:Nat) (w:World):(Instr.build 37 #[(0,C x0a x0n x0c)]).run Tryz.prog w=.ok (.agg #[C x0a x0n x0c,C none 0 0]) w:=by kernel_rfl
abbrev yaf (V:List WlC):=∀ z∈V,∀ o∈z.s.opens,Knd o
abbrev yae (V:List WlC):=∀ z∈V,zaP z.s.opens.length
abbrev yad (V:List WlC):=∀ z∈V,z.s.opens.length≤z.cap
abbrev yac (S:List ShC):=∀ z∈S,zaP z.s.heights.length
abbrev yab (S:List ShC) (w:World):=∀ z∈S,Has w (Ints z.a z.s.heights)
abbrev yaa (V:List WlC) (w:World):=∀ z∈V,Has w (zaW z.a 5 zba z.s.opens)
abbrev zzz3 (a:Option Addr) (S:List ShC) (c:Nat) (b:Option Addr) (V:List WlC) (d:Nat):Value:=.agg #[.slice a S.length c,.slice b V.length d]
abbrev zzz5 (a:Option Addr) (S:List ShC) (c:Nat) (b:Option Addr) (V:List WlC) (d:Nat):List Value:=[.slice a S.length c,.slice b V.length d]
theorem ztt (a:yO) (cap:Nat) (S:List ShC) (b:yO) (bcap:Nat) (V:List WlC) (w:World) (hl:yag w a S) (hs:zaP S.length) (hcS:S.length≤cap) (hlw:yah w b V) (hsw:zaP V.length) (hsh:yab S w) (hss:yac S) (hwo:yaa V w) (hsv:yae V) (hcp:yad V) (hkn:yaf V) :
  Calls Tryz.prog 75 #[zzz3 a S cap b V bcap] w (Pure (O (zeW S V)) w):=by
 refine zan (vs:=[_]) Tryz.func75 I I (bL I) (gS (zaG I I (za3 (vs:=[_,_]) I I) λ b1=>(gA I (gN [1,2] I (zac (zac (gZ 10 (ph_y (zab zkW I) (ph_y (zah 0 tf34 I I I) (ph_y (zaV (Tryz.underlying34) I) (ph_y (zc6 I I) (ph_y (zaf I) (zaz I I (λ jj=>by(try rw [jj]);exact zab zna I) (zaz I I (λ jj=>by(try rw [jj]);exact zah 0 tf35 I I I) (zaz I I (λ jj=>by(try rw [jj]);exact zaV (Tryz.underlying35) I) (zaz I I (λ jj=>by(try rw [jj]);exact zc6 I I) (ph_y (zaR I I I) (gN [1,2,20] I (zap I (λ hc20=>?_) (λ hc20=>?_))))))))))))))))))))
 ·have hP:=zqs (S:=S) (V:=V) hc20
  refine gS (gA I (gN [1,2] I (zaw (zay (zaC I (zau I)) ?_))))
  rw [zeW,hP];rfl
 ·refine zaq (zac (gS (gQ (zab zkW I) (gQ (zah 0 tf34 I I I) (gQ (zaV (Tryz.underlying34) I) (gM I (gN [1,2,22,23,24] I (zas (zbf (X:=Int) (λ(i:Int)=>[(1,Z b1),(2,O 0),(22,C a S.length cap),(23,O (S.length:Int)),(24,O i)]) (λ(i:Int)=>[Box b1 (zzz5 a S cap b V bcap) 37]) (λ(i:Int)=>(0≤i∧i≤S.length∧∀ j:Nat,(j:Int)<i→shAt S j=true)) (λ(i:Int)=>(S.length - i).toNat) 0 (sB I) I ?_ ?_)))))))))
  ·exact⟨by omega,by omega,λ j hj=>by omega⟩
  ·rintro i hI
   obtain⟨g0,g1,g2⟩:=hI
   refine gS (gQ (zbw I I) (gN [1,2,22,23,24,25] I (zac (zap I (λ hc25=>?_) (λ hc25=>?_)))))
   ·have hc25:=oT hc25
    refine zaq (zac (zas (gS (gM I (gQ (zaE se34 I I (λ _=>rH hl)) (gQ (zbv (vs:=[_,_,_,_,_,_,_,_,_,_,_,_,_,_,_,_,_,_,_,_]) zyq I (λ _=>rH hl) (by omega) (by omega) I) (zaG I I (zaL zyq (zs:=[_,_,_,_,_,_,_,_,_,_,_,_,_,_,_,_,_,_,_,_]) I) λ b4=>(gA I (zbz 0 zyq I I (vs:=[_,_,_,_,_,_,_,_,_,_,_,_,_,_,_,_,_,_,_,_]) I I I I I (gN [1,2,3,4,22,23,24] I (zac (zCs [] (ch [(11,Nat)]) 1000 14 [0,1,0,7,15,0,32,127,255,511,511,0,3071,8191] [] I (λ _=>mixed) (by kernel_rfl) (zjK _ ⟨inferInstance,trivial⟩) (pY (λ ρ=>zab zkW I) (pY (λ ρ=>zah 1 tf34 I I I) (pY (λ ρ=>zaf I) (pY (λ ρ=>zg8 se34 I I (by omega) (by omega) hcS) (pY (λ ρ=>zaI I (zFK _ _ _)) (pY (λ ρ=>zab zBp I) (pY (λ ρ=>zah 0 tf9 I I I) (pY (λ ρ=>zaJ zDb I (λ w hw=>zeu _ _ (S.take i.toNat) _ _ _ _ w (zje (rH hl hw) (by omega) (by omega)) (by rw [List.length_take];have:=hs;unfold zaP at *;omega))) (pY (λ ρ=>zaf I) (pY (λ ρ=>zaB I I) (pY (λ ρ=>zaB I I) (zFy (λ ρ=>zaL zyq (zs:=[_,_,_,_,_,_,_,_,_,_,_,_,_,_,_,_,_,_,_,_]) I) (λ ρ ρ' h=>⟨by rfl,by rfl⟩) ?_))))))))))))))))))))))))
    refine zIb (R:=λ ρ=>Box (ρ 11) [.string ⟨#[]⟩,O 0,O 0,O 0,O 0,C none 0 0,O 0,O 0,O 0,O 0,O 0,O 0,O 0,.int .u8 0,O 0,O 0,O 0,O 0,O 0,O 0] 118) (A:=λ ρ=>Box (ρ 11) (sV ((zav (S.take i.toNat) ((S.getD i.toNat default).s.name)).s) ((zav (S.take i.toNat) ((S.getD i.toNat default).s.name)).a) ((zav (S.take i.toNat) ((S.getD i.toNat default).s.name)).cap)) 118) 11 I I (λ _=>rfl) (λ ρ=>zex zyq I I (vs:=[_,_,_,_,_,_,_,_,_,_,_,_,_,_,_,_,_,_,_,_]) I I I I I) (λ ρ ρ' h=>by(first|rfl|(simp only [h 11 I];done)|(simp only [h 11 I];rfl))) (pY (λ ρ=>zad I) ?_)
    refine λ ρ=>zag (zf4 (X:=Nat) (ρ 11) (λ b5=>[(1,Z b1),(2,O 0),(4,Z b4),(6,.bool (decide (0≤zaS (S.take i.toNat) ((S.getD i.toNat default).s.name)))),(22,C a S.length cap),(23,O (S.length:Int)),(24,O i)]) (λ b5=>[Box b5 (sV ((zav (S.take i.toNat) ((S.getD i.toNat default).s.name)).s) ((zav (S.take i.toNat) ((S.getD i.toNat default).s.name)).a) ((zav (S.take i.toNat) ((S.getD i.toNat default).s.name)).cap)) 118,Box b4 (sV ((S.getD i.toNat default).s) ((S.getD i.toNat default).a) ((S.getD i.toNat default).cap)) 118,Box b1 (zzz5 a S cap b V bcap) 37]) (sB I) I ?_)
    rintro b5
    refine zac (gZ 6 (ph_y (zaf I) (ph_y (zaf I) (zaz I I (λ jj=>by(try rw [jj]);exact zat 1 zyq I I (vs:=[_,_,_,_,_,_,_,_,_,_,_,_,_,_,_,_,_,_,_,_]) I I) (zaz I I (λ jj=>by(try rw [jj]);exact zaJ (v:=O (zcX ((S.getD i.toNat default).s))) zvR I (λ w hw=>zd4 ((S.getD i.toNat default).a) ((S.getD i.toNat default).cap) ((S.getD i.toNat default).s) w (Rd.has (Has.rd (hsh _ (za0 (by omega)))) hw) (hss _ (za0 (by omega))))) (zaz I I (λ jj=>by(try rw [jj]);exact zcr I I) (ph_y (zaR I I I) (gN [1,2,22,23,24,45] I (zap I (λ hc45=>?_) (λ hc45=>?_))))))))))
    ·have hno:shAt S i.toNat=false:=zqg ((zqK g0 hc25).symm.trans hc45)
     refine gS (gA I (gN [1,2,22,23,24] I (zaw (zay (zaC I (zau I)) ?_))))
     rw [zeW,znF g0 hc25 hno];rfl
    ·have hyes:shAt S i.toNat=true:=zll ((zqK g0 hc25).symm.trans hc45)
     refine zaq (zaa (gQ (zaY I I) (gM I (gN [1,2,22,23,24] I (zaK 0 I (zaK 0 I ?_))))))
     exact za1 (i+1) (sB I) I ⟨by omega,by omega,zdu g0 g2 hyes⟩ (by omega)
   ·have hc25:=oD hc25
    have hS:=zg3 (S:=S) (λ j hj=>g2 j (by omega))
    refine za8 I (zac (gS (gQ (zab zna I) (gQ (zah 0 tf35 I I I) (gQ (zaV (Tryz.underlying35) I) (gM I (gN [1,2,48,49,50] I (zas (zbf (X:=Int) (λ(i:Int)=>[(1,Z b1),(2,O 0),(48,C b V.length bcap),(49,O (V.length:Int)),(50,O i)]) (λ(i:Int)=>[Box b1 (zzz5 a S cap b V bcap) 37]) (λ(i:Int)=>(0≤i∧i≤V.length∧∀ j:Nat,(j:Int)<i→wlAt S V j=true)) (λ(i:Int)=>(V.length - i).toNat) 0 (sB I) I ?_ ?_)))))))))
    ·exact⟨by omega,by omega,λ j hj=>by omega⟩
    ·rintro i hI
     have gi2:=g2;have hgi:=hc25
     rename_i ii
     obtain⟨k0,k1,k2⟩:=hI
     refine gS (gQ (zbw I I) (gN [1,2,48,49,50,51] I (zac (zap I (λ hc51=>?_) (λ hc51=>?_)))))
     ·have hc51:=oT hc51
      refine zaq (zac (zas (gS (gM I (gQ (zaE se35 I I (λ _=>rH hlw)) (gQ (zbv (vs:=[_,_,_,_]) zyz I (λ _=>rH hlw) (by omega) (by omega) I) (zaG I I (zaL zyz (zs:=[_,_,_,_]) I) λ b8=>(gA I (zaA 0 zyz I I (vs:=[_,_,_,_]) I I I I I (gN [1,2,7,8,48,49,50] I (gS (gQ (zat 1 tf37 I I (vs:=[_,_]) I I) (gQ (zab zBo I) (gQ (zah 0 tf9 I I I) (gQ (zaJ zDb I (λ w hw=>zeu _ _ S _ _ _ _ w (rH hl hw) (by assumption))) (gM I (gQ (zaB I I) (gQ (zaB I I) (zaG I I (zaL zyq (zs:=[_,_,_,_,_,_,_,_,_,_,_,_,_,_,_,_,_,_,_,_]) I) λ b9=>(zbz 0 zyq I I (vs:=[_,_,_,_,_,_,_,_,_,_,_,_,_,_,_,_,_,_,_,_]) I I I I I (gA I (gN [1,2,7,8,9,10,48,49,50] I (zac (gZ 16 (ph_y (zaf I) (ph_y (zbR I) (ph_y (zaf I) (zaz I I (λ jj=>by(try rw [jj]);exact zat 2 tf37 I I (vs:=[_,_]) I I) (zaz I I (λ jj=>by(try rw [jj]);exact zab zBn I) (zaz I I (λ jj=>by(try rw [jj]);exact zah 1 tf9 I I I) ?_))))))))))))))))))))))))))))))
      refine zaz I I (λ jj=>by(try rw [jj]);exact zaJ (v:=O (zaM V ((V.getD i.toNat default).s.name))) zw0 I (λ w hw=>zkg _ _ _ _ _ V _ w (rH hlw hw) (by assumption))) (zaz I I (λ jj=>by(try rw [jj]);exact zaf I) (zaz I I (λ jj=>by(try rw [jj]);exact zbw I I) (ph_y (zaR I I I) (ph_y (zaf I) (zaz I I (λ jj=>by(try rw [jj]);exact zat 1 zyz I I (vs:=[_,_,_,_]) I I) (zaz I I (λ jj=>by(try rw [jj]);exact zat 0 zyq I I (vs:=[_,_,_,_,_,_,_,_,_,_,_,_,_,_,_,_,_,_,_,_]) I I) (zaz I I (λ jj=>by(try rw [jj]);exact zaJ (v:=.bool (zd1 ((zav S ((V.getD i.toNat default).s.sheet)).s).height ((V.getD i.toNat default).s))) zw1 I (λ w hw=>zmI ((V.getD i.toNat default).a) ((V.getD i.toNat default).cap) ((V.getD i.toNat default).s) ((zav S ((V.getD i.toNat default).s.sheet)).a) ((zav S ((V.getD i.toNat default).s.sheet)).cap) ((zav S ((V.getD i.toNat default).s.sheet)).s) w (Rd.has (Has.rd (hwo _ (za0 (by omega)))) hw) (hcp _ (za0 (by omega))) (hsv _ (za0 (by omega))) (hkn _ (za0 (by omega))) (zog hS))) (zaz I I (λ jj=>by(try rw [jj]);exact zbR I) (ph_y (zaR I I I) (gN [1,2,48,49,50,77] I (zap I (λ hc77=>?_) (λ hc77=>?_))))))))))))
      ·have hno:wlAt S V i.toNat=false:=zqg ((zqY k0 hc51).symm.trans hc77)
       refine gS (gA I (gN [1,2,48,49,50] I (zaw (zay (zaC I (zau I)) ?_))))
       rw [zeW,znG k0 hc51 hno];rfl
      ·have hyes:wlAt S V i.toNat=true:=zll ((zqY k0 hc51).symm.trans hc77)
       refine zaq (zaa (gQ (zaY I I) (gM I (gN [1,2,48,49,50] I (zaK 0 I (zaK 0 I ?_))))))
       exact za1 (i+1) (sB I) I ⟨by omega,by omega,zdu k0 k2 hyes⟩ (by omega)
     ·have hc51:=oD hc51
      refine za8 I (gS (gA I (gN [2] I (zaw (zay (zaC I (zau I)) ?_)))))
      rw [zeW,znH hc25 hc51 g2 k2];simp only [oF,dF] at hc20;rw [decide_eq_true (by omega),decide_eq_true (by omega)];rfl
theorem tf22:TF Tryz.prog 22 false 1 (C none 0 0):=tK
theorem tf23:TF Tryz.prog 23 false 1 (C none 0 0):=tK
theorem tf25:TF Tryz.prog 25 true 2 (.agg #[C none 0 0,C none 0 0]):=tK
theorem zAj:TF Tryz.prog 132 false 1 (C none 0 0):=tK
theorem zAk:TF Tryz.prog 134 true 4 (.agg #[.string ⟨#[]⟩,.string ⟨#[]⟩,O 0,C none 0 0]):=tK
theorem zzW:TF Tryz.prog 138 true 5 (.agg #[.int .u8 0,O 0,O 0,O 0,O 0]):=tK
theorem zd6:FO Tryz.prog 25 0 0:=fK
theorem zdT:FO Tryz.prog 25 1 1:=fK
theorem zBs:FO Tryz.prog 134 0 0:=fK
theorem zCk:FO Tryz.prog 134 1 1:=fK
theorem zAJ:FO Tryz.prog 134 2 2:=fK
theorem zyN:FO Tryz.prog 134 3 3:=fK
theorem zzr:FO Tryz.prog 138 0 0:=fK
theorem zzP:FO Tryz.prog 138 1 1:=fK
theorem zzQ:FO Tryz.prog 138 2 2:=fK
theorem zyC:FO Tryz.prog 138 3 3:=fK
theorem zzs:FO Tryz.prog 138 4 4:=fK
theorem se22:SE Tryz.prog 22 135 20:=⟨Tryz.underlying22,by kernel_rfl⟩
theorem se23:SE Tryz.prog 23 134 4:=⟨Tryz.underlying23,by kernel_rfl⟩
theorem zEf:SE Tryz.prog 132 138 5:=⟨Tryz.underlying132,by kernel_rfl⟩
theorem en86:En Tryz.prog 86:=eK Tryz.func86
theorem en87:En Tryz.prog 87:=eK Tryz.func87
theorem ztF:En Tryz.prog 111:=eK Tryz.func111
theorem zw4:En Tryz.prog 112:=eK Tryz.func112
theorem zfq (a:yO) (cap:Nat) (S:List ShC) (b:yO) (nw bcap:Nat) (n:yB) (w:World) (hl:yag w a S) (hs:zaP S.length) :
  Calls Tryz.prog 87 #[.agg #[C a S.length cap,C b nw bcap],.string n] w (Pure (O (zaS S n)) w):=by
 refine zan (vs:=[_,_]) Tryz.func87 I I (bL I) (gS (zaG I I (za3 (vs:=[_,_]) I I) λ b2=>(gA I (gN [1,2,4] I (zac (gS (gA I (gN [1,2,4,5] I (zas (zbf (X:=Int) (λ(i:Int)=>[(1,.string n),(2,Z b2),(4,O 0),(5,O i)]) (λ(i:Int)=>[Box b2 [C a S.length cap,C b nw bcap] 25]) (λ(i:Int)=>(0≤i∧i≤S.length∧∀ j:Nat,(j:Int)<i→((S.getD j default).s.name.toList == n.toList)=false)) (λ(i:Int)=>(S.length - i).toNat) 0 ⟨I,I,I,I,trivial⟩ rfl ?_ ?_))))))))))
 ·exact⟨by omega,by omega,λ j hj=>by omega⟩
 ·rintro i hI
  obtain⟨g0,g1,g2⟩:=hI
  refine zac (gS (gM I (gQ (zab zd6 I) (gQ (zah 0 tf22 I I I) (gQ (zaV (Tryz.underlying22) I) (gQ (zbw I I) (gN [1,2,4,5,10] I (zap I (λ hc10=>?_) (λ hc10=>?_)))))))))
  ·simp only [dT] at hc10
   refine zaq (zac (zas (gS (gQ (zab zd6 I) (gQ (zah 0 tf22 I I I) (gM I (gQ (zaE se22 I I (λ _=>rH hl)) (gQ (zbh zAK I (λ w hw=>zaO (i:=i) (rH hl hw))) (gQ (zbn tf9 I (λ _=>rH hl) (by omega) (by omega) I) (gM I (gQ (zge I I) (gN [1,2,4,5,20] I (zap I (λ hc20=>?_) (λ hc20=>?_))))))))))))))
   ·refine gS (gM I (gA I (gN [1,2,4,5] I (zaw (zay (zaC I (zau I)) ?_)))))
    exact congrArg (λ x=>Value.int .i64 x) (zcs (p:=λ z:ShC=>z.s.name.toList == n.toList) g0 (by omega) g2 hc20).symm
   ·refine zaq (zaa (gM I (gQ (zaY I I) (gA I (gN [1,2,4,5] I ?_)))))
    exact za1 (i+1) ⟨I,I,I,I,trivial⟩ rfl ⟨by omega,by omega,zdP (f:=λ j=>(S.getD j default).s.name.toList == n.toList) g0 g2 hc20⟩ (by omega)
  ·simp only [dF] at hc10
   refine za8 I (gS (gA I (gN [4] I (zaw (zay (zaC I (zau I)) ?_)))))
   exact congrArg (λ x=>Value.int .i64 x) (zck (p:=λ z:ShC=>z.s.name.toList == n.toList) (λ j hj=>g2 j (by omega))).symm
theorem zf9 (a:yO) (ns cap:Nat) (b:yO) (bcap:Nat) (V:List WlC) (n:yB) (w:World) (hlw:yah w b V) (hsw:zaP V.length) :
  Calls Tryz.prog 86 #[.agg #[C a ns cap,C b V.length bcap],.string n] w (Pure (O (zaM V n)) w):=by
 refine zan (vs:=[_,_]) Tryz.func86 I I (bL I) (gS (zaG I I (za3 (vs:=[_,_]) I I) λ b2=>(gA I (gN [1,2,4] I (zac (gS (gA I (gN [1,2,4,5] I (zas (zbf (X:=Int) (λ(i:Int)=>[(1,.string n),(2,Z b2),(4,O 0),(5,O i)]) (λ(i:Int)=>[Box b2 [C a ns cap,C b V.length bcap] 25]) (λ(i:Int)=>(0≤i∧i≤V.length∧∀ j:Nat,(j:Int)<i→((V.getD j default).s.name.toList == n.toList)=false)) (λ(i:Int)=>(V.length - i).toNat) 0 ⟨I,I,I,I,trivial⟩ rfl ?_ ?_))))))))))
 ·exact⟨by omega,by omega,λ j hj=>by omega⟩
 ·rintro i hI
  obtain⟨g0,g1,g2⟩:=hI
  refine zac (gS (gM I (gQ (zab zdT I) (gQ (zah 0 tf23 I I I) (gQ (zaV (Tryz.underlying23) I) (gQ (zbw I I) (gN [1,2,4,5,10] I (zap I (λ hc10=>?_) (λ hc10=>?_)))))))))
  ·simp only [dT] at hc10
   refine zaq (zac (zas (gS (gQ (zab zdT I) (gQ (zah 0 tf23 I I I) (gM I (gQ (zaE se23 I I (λ _=>rH hlw)) (gQ (zbh zBs I (λ w hw=>zaO (i:=i) (rH hlw hw))) (gQ (zbn tf9 I (λ _=>rH hlw) (by omega) (by omega) I) (gM I (gQ (zge I I) (gN [1,2,4,5,20] I (zap I (λ hc20=>?_) (λ hc20=>?_))))))))))))))
   ·refine gS (gM I (gA I (gN [1,2,4,5] I (zaw (zay (zaC I (zau I)) ?_)))))
    exact congrArg (λ x=>Value.int .i64 x) (zcs (p:=λ z:WlC=>z.s.name.toList == n.toList) g0 (by omega) g2 hc20).symm
   ·refine zaq (zaa (gM I (gQ (zaY I I) (gA I (gN [1,2,4,5] I ?_)))))
    exact za1 (i+1) ⟨I,I,I,I,trivial⟩ rfl ⟨by omega,by omega,zdP (f:=λ j=>(V.getD j default).s.name.toList == n.toList) g0 g2 hc20⟩ (by omega)
  ·simp only [dF] at hc10
   refine za8 I (gS (gA I (gN [4] I (zaw (zay (zaC I (zau I)) ?_)))))
   exact congrArg (λ x=>Value.int .i64 x) (zck (p:=λ z:WlC=>z.s.name.toList == n.toList) (λ j hj=>g2 j (by omega))).symm
theorem zlx (b:yO) (bcap:Nat) (v:Wll) (a:yO) (cap:Nat) (s:Sht) (w:World) (hv:yaq w b v) (hsv:zaP v.opens.length) (hkn:∀ o∈v.opens,Knd o) (hh:0≤s.height∧s.height≤3000) (hfit:Fits v.name.size) :
  Calls Tryz.prog 112 #[.agg #[.string v.name,.string v.sheet,O v.length,C b v.opens.length bcap],.agg #[.string s.name,O s.base,O s.batter,O s.height,O s.skin,C a s.heights.length cap,O s.least,O s.lap,O s.run,O s.every,O s.at_,O s.footing,O s.spread,.int .u8 s.cope,O s.tall,O s.short,O s.thick,O s.low,O s.high,O s.rood]] w (Pure (.bool (zd1 s.height v)) w):=by
 refine zan (vs:=[_,_]) Tryz.func112 I I (bL I) (gS (zaG I I (za3 (vs:=[_,_,_,_]) I I) λ b2=>(zaG I I (za3 (vs:=[_,_,_,_,_,_,_,_,_,_,_,_,_,_,_,_,_,_,_,_]) I I) λ b3=>(gA I (gN [2,3,4] I (zac (zac (gZ 16 (ph_y (zab zBs I) (ph_y (zah 1 tf9 I I I) (ph_y (zaJ en85 I (λ w hw=>znM _ w (by assumption))) (ph_y (zbR I) (ph_y (zaf I) (zaz I I (λ jj=>by(try rw [jj]);exact zab zAJ I) (zaz I I (λ jj=>by(try rw [jj]);exact zah 1 tf3 I I I) (zaz I I (λ jj=>by(try rw [jj]);exact zaJ (v:=.bool (inB v.length 1 100000)) zyV I (λ w hw=>in_c _ _ _ w)) (zaz I I (λ jj=>by(try rw [jj]);exact zbR I) (ph_y (zaR I I I) (ph_y (zaf I) (zaz I I (λ jj=>by(try rw [jj]);exact zab zyN I) (zaz I I (λ jj=>by(try rw [jj]);exact zah 1 zAj I I I) (zaz I I (λ jj=>by(try rw [jj]);exact zaV (Tryz.underlying132) I) (zaz I I (λ jj=>by(try rw [jj]);exact zc6 I I) (ph_y (zaR I I I) (gN [2,3,4,25] I (zap I (λ hc25=>?_) (λ hc25=>?_)))))))))))))))))))))))))))
 ·have hw0:zfP v=false:=znZ hc25
  refine gS (gA I (gN [2,3,4] I (zaw (zay (zaC I (zau I)) ?_))))
  rw [zkz hw0]
 ·have hw0:zfP v=true:=znZ hc25
  have hlen:=(zgM hw0).1
  refine zaq (zac (gS (gA I (gN [2,3,4,5] I (zas (zbf (X:=Int) (λ(i:Int)=>[(2,Z b2),(3,Z b3),(4,.bool false),(5,O i)]) (λ(i:Int)=>[Box b3 (sV s a cap) 135,Box b2 (wV v b bcap) 134]) (λ(i:Int)=>(0≤i∧i≤v.opens.length∧∀ j:Nat,(j:Int)<i→zcI s.height v j=true)) (λ(i:Int)=>(v.opens.length - i).toNat) 0 ⟨I,I,I,I,trivial⟩ rfl ?_ ?_))))))
  ·exact⟨by omega,by omega,λ j hj=>by omega⟩
  ·rintro i hI
   obtain⟨g0,g1,g2⟩:=hI
   refine zac (gS (gM I (gQ (zab zyN I) (gQ (zah 1 zAj I I I) (gQ (zaV (Tryz.underlying132) I) (gQ (zbw I I) (gN [2,3,4,5,30] I (zap I (λ hc30=>?_) (λ hc30=>?_)))))))))
   ·have hc30:=oT hc30
    have hko:=hkn (v.opens.getD i.toNat default) (za0 (by omega))
    have hwk:IntKind.i64.wrap (v.opens.getD i.toNat default).kind=(v.opens.getD i.toNat default).kind:=zbr (by omega) (by omega)
    refine zaq (zac (zas (gS (gQ (zab zyN I) (gQ (zah 1 zAj I I I) (gM I (gQ (zaE zEf I I (λ _=>rH hv)) (gQ (zbv (vs:=[_,_,_,_,_]) zzW I (λ _=>rH hv) (by omega) (by omega) I) (zaG I I (zaL zzW (zs:=[_,_,_,_,_]) I) λ b6=>(zaA 0 zzW I I (vs:=[_,_,_,_,_]) I I I I I (gN [2,3,4,5,6] I (zac (zac (gZ 57 (ph_y (zab zzr I) (ph_y (zah 0 tf5 I I I) (ph_y (ziU (by kernel_rfl) (Tryz.underlying3) I) (ph_y (zaJ zyV I (λ w hw=>in_c _ _ _ w)) (ph_y (zbR I) (ph_y (zaf I) (zaz I I (λ hgd=>by(try rw [hgd]);have hgd0:=hgd;(try simp only [nT,nF,zbp] at hgd0);exact(zab zzP I)) (zaz I I (λ hgd=>by(try rw [hgd]);have hgd0:=hgd;(try simp only [nT,nF,zbp] at hgd0);exact(zah 0 tf3 I I I)) (zaz I I (λ hgd=>by(try rw [hgd]);have hgd0:=hgd;(try simp only [nT,nF,zbp] at hgd0);exact(zab zAJ I)) (zaz I I (λ hgd=>by(try rw [hgd]);have hgd0:=hgd;(try simp only [nT,nF,zbp] at hgd0);exact(zah 2 tf3 I I I)) ?_))))))))))))))))))))))))
    refine zaz I I (λ hgd=>by(try rw [hgd]);have hgd0:=hgd;(try simp only [nT,nF,zbp] at hgd0);exact(zaJ (v:=.bool (inB ((v.opens.getD i.toNat default).at_) 0 v.length)) zyV I (λ w hw=>in_c _ _ _ w))) (zaz I I (λ hgd=>by(try rw [hgd]);have hgd0:=hgd;(try simp only [nT,nF,zbp] at hgd0);exact(zbR I)) (ph_y (zaR I I I) (ph_y (zaf I) (zaz I I (λ hgd=>by(try rw [hgd]);have hgd0:=hgd;(try simp only [nT,oF,nF,zbp] at hgd0);exact(zab zzQ I)) (zaz I I (λ hgd=>by(try rw [hgd]);have hgd0:=hgd;(try simp only [nT,oF,nF,zbp] at hgd0);exact(zah 0 tf3 I I I)) (zaz I I (λ hgd=>by(try rw [hgd]);have hgd0:=hgd;(try simp only [nT,oF,nF,zbp] at hgd0);exact(zab zAJ I)) (zaz I I (λ hgd=>by(try rw [hgd]);have hgd0:=hgd;(try simp only [nT,oF,nF,zbp] at hgd0);exact(zah 2 tf3 I I I)) ?_)))))))
    refine zaz I I (λ hgd=>by(try rw [hgd]);have hgd0:=hgd;(try simp only [nT,oF,nF,zbp] at hgd0);exact(zaJ (v:=.bool (inB ((v.opens.getD i.toNat default).width) 1 v.length)) zyV I (λ w hw=>in_c _ _ _ w))) (zaz I I (λ hgd=>by(try rw [hgd]);have hgd0:=hgd;(try simp only [nT,oF,nF,zbp] at hgd0);exact(zbR I)) (ph_y (zaR I I I) (ph_y (zaf I) (zaz I I (λ hgd=>by(try rw [hgd]);have hgd0:=hgd;(try simp only [nT,oF,nF,zbp] at hgd0);exact(zab zzP I)) (zaz I I (λ hgd=>by(try rw [hgd]);have hgd0:=hgd;(try simp only [nT,oF,nF,zbp] at hgd0);exact(zah 0 tf3 I I I)) (zaz I I (λ hgd=>by(try rw [hgd]);have hgd0:=hgd;(try simp only [nT,oF,nF,zbp] at hgd0);exact(zab zzQ I)) (zaz I I (λ hgd=>by(try rw [hgd]);have hgd0:=hgd;(try simp only [nT,oF,nF,zbp] at hgd0);exact(zah 0 tf3 I I I)) ?_)))))))
    refine zaz I I (λ hgd=>by(try rw [hgd]);have hgd0:=hgd;(try simp only [nT,oF,nF,zbp] at hgd0);exact(zaY I I)) (zaz I I (λ hgd=>by(try rw [hgd]);have hgd0:=hgd;(try simp only [nT,oF,nF,zbp] at hgd0);exact(zab zAJ I)) (zaz I I (λ hgd=>by(try rw [hgd]);have hgd0:=hgd;(try simp only [nT,oF,nF,zbp] at hgd0);exact(zah 2 tf3 I I I)) (zaz I I (λ hgd=>by(try rw [hgd]);have hgd0:=hgd;(try simp only [nT,oF,nF,zbp] at hgd0);exact(zc6 I I)) (ph_y (zaR I I I) (ph_y (zaf I) (zaz I I (λ hgd=>by(try rw [hgd]);have hgd0:=hgd;(try simp only [nT,oF,nF,zbp,dF] at hgd0);exact(zab zyC I)) (zaz I I (λ hgd=>by(try rw [hgd]);have hgd0:=hgd;(try simp only [nT,oF,nF,zbp,dF] at hgd0);exact(zah 0 tf3 I I I)) (zaz I I (λ hgd=>by(try rw [hgd]);have hgd0:=hgd;(try simp only [nT,oF,nF,zbp,dF] at hgd0);exact(zab zyH I)) ?_))))))))
    refine zaz I I (λ hgd=>by(try rw [hgd]);have hgd0:=hgd;(try simp only [nT,oF,nF,zbp,dF] at hgd0);exact(zah 1 tf3 I I I)) (zaz I I (λ hgd=>by(try rw [hgd]);have hgd0:=hgd;(try simp only [nT,oF,nF,zbp,dF] at hgd0);exact(zaJ (v:=.bool (inB ((v.opens.getD i.toNat default).frm) 0 s.height)) zyV I (λ w hw=>in_c _ _ _ w))) (zaz I I (λ hgd=>by(try rw [hgd]);have hgd0:=hgd;(try simp only [nT,oF,nF,zbp,dF] at hgd0);exact(zbR I)) (ph_y (zaR I I I) (ph_y (zaf I) (zaz I I (λ hgd=>by(try rw [hgd]);have hgd0:=hgd;(try simp only [nT,oF,nF,zbp,dF] at hgd0);exact(zab zzs I)) (zaz I I (λ hgd=>by(try rw [hgd]);have hgd0:=hgd;(try simp only [nT,oF,nF,zbp,dF] at hgd0);exact(zah 0 tf3 I I I)) (zaz I I (λ hgd=>by(try rw [hgd]);have hgd0:=hgd;(try simp only [nT,oF,nF,zbp,dF] at hgd0);exact(zab zyH I)) ?_)))))))
    refine zaz I I (λ hgd=>by(try rw [hgd]);have hgd0:=hgd;(try simp only [nT,oF,nF,zbp,dF] at hgd0);exact(zah 1 tf3 I I I)) (zaz I I (λ hgd=>by(try rw [hgd]);have hgd0:=hgd;(try simp only [nT,oF,nF,zbp,dF] at hgd0);exact(zaJ (v:=.bool (inB ((v.opens.getD i.toNat default).high) 1 s.height)) zyV I (λ w hw=>in_c _ _ _ w))) (zaz I I (λ hgd=>by(try rw [hgd]);have hgd0:=hgd;(try simp only [nT,oF,nF,zbp,dF] at hgd0);exact(zbR I)) (ph_y (zaR I I I) (ph_y (zaf I) (zaz I I (λ hgd=>by(try rw [hgd]);have hgd0:=hgd;(try simp only [nT,oF,nF,zbp,dF] at hgd0);exact(zab zyC I)) (zaz I I (λ hgd=>by(try rw [hgd]);have hgd0:=hgd;(try simp only [nT,oF,nF,zbp,dF] at hgd0);exact(zah 0 tf3 I I I)) (zaz I I (λ hgd=>by(try rw [hgd]);have hgd0:=hgd;(try simp only [nT,oF,nF,zbp,dF] at hgd0);exact(zab zzs I)) ?_)))))))
    refine zaz I I (λ hgd=>by(try rw [hgd]);have hgd0:=hgd;(try simp only [nT,oF,nF,zbp,dF] at hgd0);exact(zah 0 tf3 I I I)) (zaz I I (λ hgd=>by(try rw [hgd]);have hgd0:=hgd;(try simp only [nT,oF,nF,zbp,dF] at hgd0);exact(zaY I I)) (zaz I I (λ hgd=>by(try rw [hgd]);have hgd0:=hgd;(try simp only [nT,oF,nF,zbp,dF] at hgd0);exact(zab zyH I)) (zaz I I (λ hgd=>by(try rw [hgd]);have hgd0:=hgd;(try simp only [nT,oF,nF,zbp,dF] at hgd0);exact(zah 1 tf3 I I I)) (zaz I I (λ hgd=>by(try rw [hgd]);have hgd0:=hgd;(try simp only [nT,oF,nF,zbp,dF] at hgd0);exact(zc6 I I)) (ph_y (zaR I I I) (gN [2,3,4,5,6,94] I (zap I (λ hc94=>?_) (λ hc94=>?_))))))))
    ·rw [hwk] at hc94
     have hno:zcI s.height v i.toNat=false:=zjo (by rw [zuD hlen,show rf1 _ _ _=true from hc94];rfl)
     refine gS (gA I (gN [2,3,4,5,6] I (zaw (zay (zaC I (zau I)) ?_))))
     rw [zhH g0 hc30 hno]
    ·rw [hwk] at hc94
     have hF:=zqw hc94
     refine zaq (zac (zac (gZ 23 (ph_y (zab zzr I) (ph_y (zah 0 tf5 I I I) (ph_y (zfx I I) (ph_y (zaf I) (zaH I I (λ hgd=>by(try rw [hgd]);have hgd0:=hgd;(try simp only [dT] at hgd0);exact(zab zyC I)) (zaH I I (λ hgd=>by(try rw [hgd]);have hgd0:=hgd;(try simp only [dT] at hgd0);exact(zah 0 tf3 I I I)) (zaH I I (λ hgd=>by(try rw [hgd]);have hgd0:=hgd;(try simp only [dT] at hgd0);exact(zab zzs I)) (zaH I I (λ hgd=>by(try rw [hgd]);have hgd0:=hgd;(try simp only [dT] at hgd0);exact(zah 0 tf3 I I I)) (zaH I I (λ hgd=>by(try rw [hgd]);have hgd0:=hgd;(try simp only [dT] at hgd0);exact(zaY I I)) (zaH I I (λ hgd=>by(try rw [hgd]);have hgd0:=hgd;(try simp only [dT] at hgd0);exact(zab zyH I)) (zaH I I (λ hgd=>by(try rw [hgd]);have hgd0:=hgd;(try simp only [dT] at hgd0);exact(zah 1 tf3 I I I)) (zaH I I (λ hgd=>by(try rw [hgd]);have hgd0:=hgd;(try simp only [dT] at hgd0);exact(zcr I I)) (ph_y (zaX I I I) (ph_y (zaf I) ?_)))))))))))))))))
     refine zaz I I (λ hgd=>by(try rw [hgd]);have hgd0:=hgd;(try simp only [nT] at hgd0);exact(zab zzr I)) (zaz I I (λ hgd=>by(try rw [hgd]);have hgd0:=hgd;(try simp only [nT] at hgd0);exact(zah 0 tf5 I I I)) (zaz I I (λ hgd=>by(try rw [hgd]);have hgd0:=hgd;(try simp only [nT] at hgd0);exact(zbL I I)) (zaz I I (λ hgd=>by(try rw [hgd]);have hgd0:=hgd;(try simp only [nT] at hgd0);exact(zaf I)) (zdr I I (λ hgd=>by(try rw [hgd]);have hgd0:=hgd;(try simp only [nT,aT,dT] at hgd0);exact(zab zyC I)) (zdr I I (λ hgd=>by(try rw [hgd]);have hgd0:=hgd;(try simp only [nT,aT,dT] at hgd0);exact(zah 0 tf3 I I I)) (zdr I I (λ hgd=>by(try rw [hgd]);have hgd0:=hgd;(try simp only [nT,aT,dT] at hgd0);exact(zcr I I)) (zaz I I (λ hgd=>by(try rw [hgd]);have hgd0:=hgd;(try simp only [nT] at hgd0);exact(zaX I I I)) (ph_y (zaR I I I) (gN [2,3,4,5,6,117] I (zap I (λ hc117=>?_) (λ hc117=>?_)))))))))))
     ·have hno:zcI s.height v i.toNat=false:=zjo (by rw [zuD hlen,show rf2 _ _=true from hc117,Bool.or_true];rfl)
      refine gS (gA I (gN [2,3,4,5,6] I (zaw (zay (zaC I (zau I)) ?_))))
      rw [zhH g0 hc30 hno]
     ·have hfit2:zfY v.length s.height (v.opens.getD i.toNat default)=true:=by rw [zuD hlen,show rf1 _ _ _=false from hc94,show rf2 _ _=false from hc117];rfl
      refine zaq (gS (gA I (gN [2,3,4,5,6,7] I (zas (zbf (X:=Int) (λ(k:Int)=>[(2,Z b2),(3,Z b3),(4,.bool false),(5,O i),(6,Z b6),(7,O k)]) (λ(k:Int)=>[Box b6 [.int .u8 (v.opens.getD i.toNat default).kind,O (v.opens.getD i.toNat default).at_,O (v.opens.getD i.toNat default).width,O (v.opens.getD i.toNat default).frm,O (v.opens.getD i.toNat default).high] 138,Box b3 (sV s a cap) 135,Box b2 (wV v b bcap) 134]) (λ(k:Int)=>(0≤k∧k≤i∧∀ j:Nat,(j:Int)<k→zea (v.opens.getD i.toNat default) (v.opens.getD j default)=false)) (λ(k:Int)=>(i - k).toNat) 0 (sB I) I ?_ ?_)))))
      ·exact⟨by omega,by omega,λ j hj=>by omega⟩
      ·rintro k hI
       obtain⟨k0,k1,k2⟩:=hI
       refine zac (gS (gM I (gM I (gQ (zbw I I) (gN [2,3,4,5,6,7,120] I (zap I (λ hc120=>?_) (λ hc120=>?_)))))))
       ·have hc120:=oT hc120
        have hQ:=zf7 (g2 k.toNat (by omega))
        have q1:=hQ.a;have q2:=hQ.w;have q3:=hQ.h;have q4:=hQ.f
        refine zaq (zac (zas (gS (gQ (zab zyN I) (gQ (zah 2 zAj I I I) (gM I (gQ (zaE zEf I I (λ _=>rH hv)) (gQ (zbv (vs:=[_,_,_,_,_]) zzW I (λ _=>rH hv) (by omega) (by omega) I) (zaG I I (zaL zzW (zs:=[_,_,_,_,_]) I) λ b8=>(zaA 0 zzW I I (vs:=[_,_,_,_,_]) I I I I I (gN [2,3,4,5,6,7,8] I (zac (gZ 39 (ph_y (zab zzP I) (ph_y (zah 1 tf3 I I I) (ph_y (zab zzQ I) (ph_y (zah 1 tf3 I I I) (ph_y (zaY I I) (ph_y (zab zzP I) (ph_y (zah 0 tf3 I I I) (ph_y (zeT I I) (ph_y (zaf I) (zaz I I (λ hgd=>by(try rw [hgd]);have hgd0:=hgd;(try simp only [nT,dF] at hgd0);exact(zab zzP I)) (zaz I I (λ hgd=>by(try rw [hgd]);have hgd0:=hgd;(try simp only [nT,dF] at hgd0);exact(zah 0 tf3 I I I)) (zaz I I (λ hgd=>by(try rw [hgd]);have hgd0:=hgd;(try simp only [nT,dF] at hgd0);exact(zab zzQ I)) (zaz I I (λ hgd=>by(try rw [hgd]);have hgd0:=hgd;(try simp only [nT,dF] at hgd0);exact(zah 0 tf3 I I I)) ?_))))))))))))))))))))))))))
        refine zaz I I (λ hgd=>by(try rw [hgd]);have hgd0:=hgd;(try simp only [nT,dF] at hgd0);exact(zaY I I)) (zaz I I (λ hgd=>by(try rw [hgd]);have hgd0:=hgd;(try simp only [nT,dF] at hgd0);exact(zab zzP I)) (zaz I I (λ hgd=>by(try rw [hgd]);have hgd0:=hgd;(try simp only [nT,dF] at hgd0);exact(zah 1 tf3 I I I)) (zaz I I (λ hgd=>by(try rw [hgd]);have hgd0:=hgd;(try simp only [nT,dF] at hgd0);exact(zeT I I)) (ph_y (zaR I I I) (ph_y (zaf I) (zaz I I (λ hgd=>by(try rw [hgd]);have hgd0:=hgd;(try simp only [nT,oF,dF] at hgd0);exact(zab zyC I)) (zaz I I (λ hgd=>by(try rw [hgd]);have hgd0:=hgd;(try simp only [nT,oF,dF] at hgd0);exact(zah 1 tf3 I I I)) (zaz I I (λ hgd=>by(try rw [hgd]);have hgd0:=hgd;(try simp only [nT,oF,dF] at hgd0);exact(zab zzs I)) ?_))))))))
        refine zaz I I (λ hgd=>by(try rw [hgd]);have hgd0:=hgd;(try simp only [nT,oF,dF] at hgd0);exact(zah 1 tf3 I I I)) (zaz I I (λ hgd=>by(try rw [hgd]);have hgd0:=hgd;(try simp only [nT,oF,dF] at hgd0);exact(zaY I I)) (zaz I I (λ hgd=>by(try rw [hgd]);have hgd0:=hgd;(try simp only [nT,oF,dF] at hgd0);exact(zab zyC I)) (zaz I I (λ hgd=>by(try rw [hgd]);have hgd0:=hgd;(try simp only [nT,oF,dF] at hgd0);exact(zah 0 tf3 I I I)) (zaz I I (λ hgd=>by(try rw [hgd]);have hgd0:=hgd;(try simp only [nT,oF,dF] at hgd0);exact(zeT I I)) (ph_y (zaR I I I) (ph_y (zaf I) (zaz I I (λ hgd=>by(try rw [hgd]);have hgd0:=hgd;(try simp only [nT,oF,dF] at hgd0);exact(zab zyC I)) (zaz I I (λ hgd=>by(try rw [hgd]);have hgd0:=hgd;(try simp only [nT,oF,dF] at hgd0);exact(zah 0 tf3 I I I)) ?_))))))))
        refine zaz I I (λ hgd=>by(try rw [hgd]);have hgd0:=hgd;(try simp only [nT,oF,dF] at hgd0);exact(zab zzs I)) (zaz I I (λ hgd=>by(try rw [hgd]);have hgd0:=hgd;(try simp only [nT,oF,dF] at hgd0);exact(zah 0 tf3 I I I)) (zaz I I (λ hgd=>by(try rw [hgd]);have hgd0:=hgd;(try simp only [nT,oF,dF] at hgd0);exact(zaY I I)) (zaz I I (λ hgd=>by(try rw [hgd]);have hgd0:=hgd;(try simp only [nT,oF,dF] at hgd0);exact(zab zyC I)) (zaz I I (λ hgd=>by(try rw [hgd]);have hgd0:=hgd;(try simp only [nT,oF,dF] at hgd0);exact(zah 1 tf3 I I I)) (zaz I I (λ hgd=>by(try rw [hgd]);have hgd0:=hgd;(try simp only [nT,oF,dF] at hgd0);exact(zeT I I)) (ph_y (zaR I I I) (ph_y (zad I) (gN [2,3,4,5,6,7,9] I (gS (gM I (gQ (zbR I) (gN [2,3,4,5,6,7,167] I (zap I (λ hc167=>?_) (λ hc167=>?_))))))))))))))
        ·have hm:zea (v.opens.getD i.toNat default) (v.opens.getD k.toNat default)=true:=by rw [znr];exact hc167
         refine gS (gA I (gN [2,3,4,5,6,7] I (zaw (zay (zaC I (zau I)) ?_))))
         rw [zhH g0 hc30 (zon k0 hc120 hc30 hm)]
        ·have hm:zea (v.opens.getD i.toNat default) (v.opens.getD k.toNat default)=false:=by rw [znr];exact hc167
         refine zaq (zaa (gM I (gQ (zaY I I) (gA I (gN [2,3,4,5,6,7] I (zaK 0 I ?_))))))
         exact za1 (k+1) (sB I) I ⟨by omega,by omega,zdP (f:=λ j=>zea (v.opens.getD i.toNat default) (v.opens.getD j default)) k0 k2 hm⟩ (by omega)
       ·have hc120:=oD hc120
        have hyes:=zoo hc30 hfit2 hc120 k2
        refine za8 I (zaa (gM I (gQ (zaY I I) (gA I (gN [2,3,4,5] I (zaK 0 I ?_))))))
        exact za1 (i+1) ⟨I,I,I,I,trivial⟩ rfl ⟨by omega,by omega,zdu g0 g2 hyes⟩ (by omega)
   ·have hc30:=oD hc30
    refine za8 I (gS (gA I (gN [4] I (zaw (zay (zaC I (zau I)) ?_)))))
    rw [zn0 hw0 hc30 g2]
abbrev yas (S:List ShC):=∀ z∈S,Fits z.s.name.size
theorem zsf (a:yO) (cap:Nat) (S:List ShC) (b:yO) (bcap:Nat) (V:List WlC) (w:World) (hl:yag w a S) (hs:zaP S.length) (hlw:yah w b V) (hsw:zaP V.length) (hsh:yab S w) (hss:yac S) (hwo:yaa V w) (hsv:yae V) (_hcp:yad V) (hkn:yaf V) (hfS:yas S) (hfV:∀ z∈V,Fits z.s.name.size) (hco:∀ z∈S,0≤z.s.cope) :
  Calls Tryz.prog 83 #[zzz3 a S cap b V bcap] w (Pure (.bool (zc4 S V)) w):=by
 refine zan (vs:=[_]) Tryz.func83 I I (bL I) (gS (zaG I I (za3 (vs:=[_,_]) I I) λ b1=>(gA I (gN [1,2] I (zac (gS (gA I (gN [1,2,3] I (zas (zbf (X:=Int) (λ(i:Int)=>[(1,Z b1),(2,.bool false),(3,O i)]) (λ(i:Int)=>[Box b1 (zzz5 a S cap b V bcap) 25]) (λ(i:Int)=>(0≤i∧i≤S.length∧∀ j:Nat,(j:Int)<i→shAt S j=true)) (λ(i:Int)=>(S.length - i).toNat) 0 ⟨I,I,I,trivial⟩ rfl ?_ ?_))))))))))
 ·exact⟨by omega,by omega,λ j hj=>by omega⟩
 ·rintro i hI
  obtain⟨g0,g1,g2⟩:=hI
  refine zac (gS (gM I (gQ (zab zd6 I) (gQ (zah 0 tf22 I I I) (gQ (zaV (Tryz.underlying22) I) (gQ (zbw I I) (gN [1,2,3,10] I (zap I (λ hc10=>?_) (λ hc10=>?_)))))))))
  ·have hc10:=oT hc10
   refine zaq (zac (zas (zac (gZ 19 (ph_y (zab zd6 I) (ph_y (zah 0 tf22 I I I) (ph_y (zaf I) (ph_y (zaE se22 I I (λ _=>rH hl)) (ph_y (zbv (vs:=[_,_,_,_,_,_,_,_,_,_,_,_,_,_,_,_,_,_,_,_]) zzu I (λ _=>rH hl) (by omega) (by omega) I) (ph_y (zaJ ztF I (λ w hw=>zkm ((S.getD i.toNat default).a) ((S.getD i.toNat default).cap) ((S.getD i.toNat default).s) w (Rd.has (Has.rd (hsh _ (za0 (by omega)))) hw) (hss _ (za0 (by omega))) (hco _ (za0 (by omega))) (hfS _ (za0 (by omega))))) (ph_y (zbR I) (ph_y (zaf I) (zaz I I (λ hgd=>by(try rw [hgd]);have hgd0:=hgd;(try simp only [nT,nF] at hgd0);exact(zat 0 tf25 I I (vs:=[_,_]) I I)) (zaz I I (λ hgd=>by(try rw [hgd]);have hgd0:=hgd;(try simp only [nT,nF] at hgd0);exact(zab zd6 I)) (zaz I I (λ hgd=>by(try rw [hgd]);have hgd0:=hgd;(try simp only [nT,nF] at hgd0);exact(zah 0 tf22 I I I)) (zaz I I (λ hgd=>by(try rw [hgd]);have hgd0:=hgd;(try simp only [nT,nF] at hgd0);exact(zaf I)) ?_))))))))))))))))
   refine zaz I I (λ hgd=>by(try rw [hgd]);have hgd0:=hgd;(try simp only [nT,nF] at hgd0);exact(zaE se22 I I (λ _=>rH hl))) (zaz I I (λ hgd=>by(try rw [hgd]);have hgd0:=hgd;(try simp only [nT,nF] at hgd0);exact(zbh zAK I (λ w hw=>zaO (i:=i) (rH hl hw)))) (zaz I I (λ hgd=>by(try rw [hgd]);have hgd0:=hgd;(try simp only [nT,nF] at hgd0);exact(zbn tf9 I (λ _=>rH hl) (by omega) (by omega) I)) (zaz I I (λ hgd=>by(try rw [hgd]);have hgd0:=hgd;(try simp only [nT,nF] at hgd0);exact(zaJ (v:=O (zaS S ((S.getD i.toNat default).s.name))) en87 I (λ w hw=>zfq _ _ S _ _ _ _ w (rH hl hw) (by assumption)))) (zaz I I (λ hgd=>by(try rw [hgd]);have hgd0:=hgd;(try simp only [nT,nF] at hgd0);exact(zaf I)) (zaz I I (λ hgd=>by(try rw [hgd]);have hgd0:=hgd;(try simp only [nT,nF] at hgd0);exact(zcr I I)) (ph_y (zaR I I I) (gN [1,2,3,31] I (zap I (λ hc31=>?_) (λ hc31=>?_)))))))))
   ·have hno:shAt S i.toNat=false:=zqg ((znR g0 hc10).symm.trans hc31)
    refine gS (gA I (gN [1,2,3] I (zaw (zay (zaC I (zau I)) ?_))))
    rw [znF g0 hc10 hno]
   ·have hyes:shAt S i.toNat=true:=zll ((znR g0 hc10).symm.trans hc31)
    refine zaq (zaa (gM I (gQ (zaY I I) (gA I (gN [1,2,3] I ?_)))))
    exact za1 (i+1) ⟨I,I,I,trivial⟩ rfl ⟨by omega,by omega,zdu g0 g2 hyes⟩ (by omega)
  ·have hc10:=oD hc10
   have hS:=zg3 (S:=S) (λ j hj=>g2 j (by omega))
   refine za8 I (zac (gS (gA I (gN [1,2,4] I (zas (zbf (X:=Int) (λ(i:Int)=>[(1,Z b1),(2,.bool false),(4,O i)]) (λ(i:Int)=>[Box b1 (zzz5 a S cap b V bcap) 25]) (λ(i:Int)=>(0≤i∧i≤V.length∧∀ j:Nat,(j:Int)<i→wlAt S V j=true)) (λ(i:Int)=>(V.length - i).toNat) 0 ⟨I,I,I,trivial⟩ rfl ?_ ?_))))))
   ·exact⟨by omega,by omega,λ j hj=>by omega⟩
   ·rintro i hI
    obtain⟨k0,k1,k2⟩:=hI
    refine zac (gS (gM I (gQ (zab zdT I) (gQ (zah 0 tf23 I I I) (gQ (zaV (Tryz.underlying23) I) (gQ (zbw I I) (gN [1,2,4,36] I (zap I (λ hc36=>?_) (λ hc36=>?_)))))))))
    ·have hc36:=oT hc36
     have hlt:=λ h=>ziE (S:=S) (n:=(V.getD i.toNat default).s.sheet) h
     refine zaq (zac (zas (zac (gZ 9 (ph_y (zat 0 tf25 I I (vs:=[_,_]) I I) (ph_y (zab zdT I) (ph_y (zah 0 tf23 I I I) (ph_y (zaf I) (ph_y (zaE se23 I I (λ _=>rH hlw)) (ph_y (zbh zCk I (λ w hw=>zaO (i:=i) (rH hlw hw))) (ph_y (zbn tf9 I (λ _=>rH hlw) (by omega) (by omega) I) (ph_y (zaJ en87 I (λ w hw=>zfq _ _ S _ _ _ _ w (rH hl hw) (by assumption))) (ph_y (zad I) (gN [1,2,4,5] I (zac (gZ 28 (ph_y (zaf I) (ph_y (zbw I I) (ph_y (zaf I) (zaz I I (λ hgd=>by(try rw [hgd]);have hgd0:=hgd;(try simp only [nT,dF] at hgd0);exact(zab zdT I)) (zaz I I (λ hgd=>by(try rw [hgd]);have hgd0:=hgd;(try simp only [nT,dF] at hgd0);exact(zah 0 tf23 I I I)) (zaz I I (λ hgd=>by(try rw [hgd]);have hgd0:=hgd;(try simp only [nT,dF] at hgd0);exact(zaf I)) (zaz I I (λ hgd=>by(try rw [hgd]);have hgd0:=hgd;(try simp only [nT,dF] at hgd0);exact(zaE se23 I I (λ _=>rH hlw))) ?_)))))))))))))))))))))))
     refine zaz I I (λ hgd=>by(try rw [hgd]);have hgd0:=hgd;(try simp only [nT,dF] at hgd0);exact(zbv (vs:=[_,_,_,_]) zAk I (λ _=>rH hlw) (by omega) (by omega) I)) (zaz I I (λ hgd=>by(try rw [hgd]);have hgd0:=hgd;(try simp only [nT,dF] at hgd0);exact(zab zd6 I)) (zaz I I (λ hgd=>by(try rw [hgd]);have hgd0:=hgd;(try simp only [nT,dF] at hgd0);exact(zah 0 tf22 I I I)) (zaz I I (λ hgd=>by(try rw [hgd]);have hgd0:=hgd;(try simp only [nT,dF] at hgd0);exact(zaf I)) (zaz I I (λ hgd=>by(try rw [hgd]);have hgd0:=hgd;(try simp only [nT,dF] at hgd0);exact(zaE se22 I I (λ _=>rH hl))) (zaz I I (λ hgd=>by(try rw [hgd]);have hgd0:=hgd;(try simp only [nT,dF] at hgd0);exact(zbv (vs:=[_,_,_,_,_,_,_,_,_,_,_,_,_,_,_,_,_,_,_,_]) zzu I (λ _=>rH hl) (by omega) (by omega) I)) ?_)))))
     refine zaz I I (λ hgd=>by(try rw [hgd]);have hgd0:=hgd;(try simp only [nT,dF] at hgd0);exact(zaJ (v:=.bool (zd1 ((S.getD ((zaS S ((V.getD i.toNat default).s.sheet))).toNat default).s).height ((V.getD i.toNat default).s))) zw4 I (λ w hw=>zlx ((V.getD i.toNat default).a) ((V.getD i.toNat default).cap) ((V.getD i.toNat default).s) ((S.getD ((zaS S ((V.getD i.toNat default).s.sheet))).toNat default).a) ((S.getD ((zaS S ((V.getD i.toNat default).s.sheet))).toNat default).cap) ((S.getD ((zaS S ((V.getD i.toNat default).s.sheet))).toNat default).s) w (Rd.has (Has.rd (hwo _ (za0 (by omega)))) hw) (hsv _ (za0 (by omega))) (hkn _ (za0 (by omega))) (by have:=(zaZ (hS _ (za0 (l:=S) (i:=(zaS S (V.getD i.toNat default).s.sheet).toNat) (by omega)))).height;omega) (hfV _ (za0 (by omega)))))) (zaz I I (λ hgd=>by(try rw [hgd]);have hgd0:=hgd;(try simp only [nT,dF] at hgd0);exact(zbR I)) (ph_y (zaR I I I) (ph_y (zaf I) (zaz I I (λ hgd=>by(try rw [hgd]);have hgd0:=hgd;(try simp only [nT,oF,nF,dF] at hgd0);exact(zat 0 tf25 I I (vs:=[_,_]) I I)) ?_))))
     refine zaz I I (λ hgd=>by(try rw [hgd]);have hgd0:=hgd;(try simp only [nT,oF,nF,dF] at hgd0);exact(zab zdT I)) (zaz I I (λ hgd=>by(try rw [hgd]);have hgd0:=hgd;(try simp only [nT,oF,nF,dF] at hgd0);exact(zah 0 tf23 I I I)) (zaz I I (λ hgd=>by(try rw [hgd]);have hgd0:=hgd;(try simp only [nT,oF,nF,dF] at hgd0);exact(zaf I)) (zaz I I (λ hgd=>by(try rw [hgd]);have hgd0:=hgd;(try simp only [nT,oF,nF,dF] at hgd0);exact(zaE se23 I I (λ _=>rH hlw))) (zaz I I (λ hgd=>by(try rw [hgd]);have hgd0:=hgd;(try simp only [nT,oF,nF,dF] at hgd0);exact(zbh zBs I (λ w hw=>zaO (i:=i) (rH hlw hw)))) (zaz I I (λ hgd=>by(try rw [hgd]);have hgd0:=hgd;(try simp only [nT,oF,nF,dF] at hgd0);exact(zbn tf9 I (λ _=>rH hlw) (by omega) (by omega) I)) ?_)))))
     refine zaz I I (λ hgd=>by(try rw [hgd]);have hgd0:=hgd;(try simp only [nT,oF,nF,dF] at hgd0);exact(zaJ (v:=O (zaM V ((V.getD i.toNat default).s.name))) en86 I (λ w hw=>zf9 _ _ _ _ _ V _ w (rH hlw hw) (by assumption)))) (zaz I I (λ hgd=>by(try rw [hgd]);have hgd0:=hgd;(try simp only [nT,oF,nF,dF] at hgd0);exact(zaf I)) (zaz I I (λ hgd=>by(try rw [hgd]);have hgd0:=hgd;(try simp only [nT,oF,nF,dF] at hgd0);exact(zcr I I)) (ph_y (zaR I I I) (gN [1,2,4,74] I (zap I (λ hc74=>?_) (λ hc74=>?_))))))
     ·have hno:wlAt S V i.toNat=false:=zqg ((zn4 k0 hc36).symm.trans hc74)
      refine gS (gA I (gN [1,2,4] I (zaw (zay (zaC I (zau I)) ?_))))
      rw [znG k0 hc36 hno]
     ·have hyes:wlAt S V i.toNat=true:=zll ((zn4 k0 hc36).symm.trans hc74)
      refine zaq (zaa (gM I (gQ (zaY I I) (gA I (gN [1,2,4] I ?_)))))
      exact za1 (i+1) ⟨I,I,I,trivial⟩ rfl ⟨by omega,by omega,zdu k0 k2 hyes⟩ (by omega)
    ·have hc36:=oD hc36
     refine za8 I (zac (gZ 11 (ph_y (zab zd6 I) (ph_y (zah 0 tf22 I I I) (ph_y (zaV (Tryz.underlying22) I) (ph_y (zeT I I) (ph_y (zaf I) (zaH I I (λ jj=>by(try rw [jj]);exact zab zdT I) (zaH I I (λ jj=>by(try rw [jj]);exact zah 0 tf23 I I I) (zaH I I (λ jj=>by(try rw [jj]);exact zaV (Tryz.underlying23) I) (zaH I I (λ jj=>by(try rw [jj]);exact zeT I I) (ph_y (zaX I I I) (ph_y (zad I) (gN [2] I (zaw (zay (zaC I (zau I)) ?_))))))))))))))))
     rw [znH hc10 hc36 g2 k2]
end Go.Proofs.YteepmmghanbllaaGreatDoor