/- What the proof of the root text leans on, part 9: the layer, plain facts and walks. No statement of the seat is proved in this text. -/
import Derived.ChangeSame
import Derived.Deep.Slices
import Derived.Handed
import Derived.HandedShaped
import Derived.LaidHandle
import Derived.LaidLaws
import Derived.LaidMore
import Derived.Lay
import Derived.Lib.LaidU8
import Derived.OpenShut
import Derived.ProofKit
import Derived.Shelf.Vars
import Derived.SizedLaws
import Derived.Stop.Joined
import Derived.Test.YteepmmghanbllaaGreatDoorRows
import Derived.WideKeyArgs
import Derived.Test.YteepmmghanbllaaGreatDoorFr8
set_option maxRecDepth 100000
set_option maxHeartbeats 32000000
namespace Go.Proofs.YteepmmghanbllaaGreatDoor
open Go.K Go.Stn Go.Pln Go.Fld Go.RowKit
theorem tf76:TF Tryz.prog 76 false 1 (.slice none 0 0):=tK
theorem tf95:TF Tryz.prog 95 true 3 (.agg #[.int .i64 0,.slice none 0 0,.bool false]):=tK
theorem zIs:FO Tryz.prog 95 0 0:=fK
theorem zIi:FO Tryz.prog 95 1 1:=fK
theorem zIt:FO Tryz.prog 95 2 2:=fK
theorem zIy:FO Tryz.prog 160 0 0:=fK
theorem se76:SE Tryz.prog 76 160 2:=⟨Tryz.underlying76,by kernel_rfl⟩
theorem se92:SE Tryz.prog 92 95 3:=⟨Tryz.underlying92,by kernel_rfl⟩
theorem af76:AF Tryz.prog 76 160 2 16 [.int .i64 0,.int .i64 0]:=⟨Tryz.underlying76,by kernel_rfl,rfl⟩
theorem af92:AF Tryz.prog 92 95 3 40 [.int .i64 0,.slice none 0 0,.bool false]:=⟨Tryz.underlying92,by kernel_rfl,rfl⟩
theorem en26:En Tryz.prog 26:=eK Tryz.func26
theorem en64:En Tryz.prog 64:=eK Tryz.func64
theorem en66:En Tryz.prog 66:=eK Tryz.func66
theorem zIl (x0:Int) (x1a:Option Addr) (x1n x1c:Nat) (x2:Bool) (w:World):(Instr.build 95 #[(0,.int .i64 x0),(1,.slice x1a x1n x1c),(2,.bool x2)]).run Tryz.prog w=.ok (.agg #[.int .i64 x0,.slice x1a x1n x1c,.bool x2]) w:=by kernel_rfl
theorem zIp (x0 x1:Int) (w:World):(Instr.build 160 #[(0,.int .i64 x0),(1,.int .i64 x1)]).run Tryz.prog w=.ok (.agg #[.int .i64 x0,.int .i64 x1]) w:=by kernel_rfl
theorem zJD (x0_0 x0_1:Int) (w:World):(Instr.buildSlice 76 1 #[(0,.agg #[.int .i64 x0_0,.int .i64 x0_1])]).run Tryz.prog w=.ok (.slice (some ⟨w.heap.size,0,none⟩) 1 1) (w.alloc (.cells (([⟨x0_0,x0_1⟩]:List (Int×Int)).flatMap zyQ).toArray 160)):=by kernel_rfl
abbrev rowT (z:TrkR):Res:=Row z.2.1 2 z.2.2 160 zyQ (stpL z.1.l)
theorem zJe (t o:Trk) (a:Option Addr) (cap:Nat) (b:Option Addr) (bcap:Nat) (w:World) (hl:Has w (zaW a 2 zyQ (stpL t.l))) (_hs:t.l.length≤300000) (hm:Has w (zaW b 2 zyQ (stpL o.l))) (hs2:o.l.length≤300000) :
  Calls Tryz.prog 66 #[.agg #[.int .i64 t.eff,.slice a (stpL t.l).length cap,.bool t.there],.agg #[.int .i64 o.eff,.slice b (stpL o.l).length bcap,.bool o.there]] w (Pure (.bool (zIg t o)) w):=by
 have l1:(stpL t.l).length=t.l.length:=zIA
 have l2:(stpL o.l).length=o.l.length:=zIA
 refine zan (vs:=[_,_]) Tryz.func66 rfl rfl (bL rfl) (gS (zaG rfl rfl (za3 (vs:=[_,_,_]) rfl rfl) fun b2=>(zaG rfl rfl (za3 (vs:=[_,_,_]) rfl rfl) fun b3=>(gA rfl (gN [2,3,4] rfl (zac (zac (gZ 10 (ph_y (zab zIt rfl) (ph_y (zah 0 tf4 rfl rfl rfl) (ph_y (zbR rfl) (ph_y (zaf rfl) (zaz rfl rfl (fun jj=>by(try rw [jj]); exact zab zIs rfl) (zaz rfl rfl (fun jj=>by(try rw [jj]); exact zah 1 tf3 rfl rfl rfl) (zaz rfl rfl (fun jj=>by(try rw [jj]); exact zab zIs rfl) (zaz rfl rfl (fun jj=>by(try rw [jj]); exact zah 0 tf3 rfl rfl rfl) (zaz rfl rfl (fun jj=>by(try rw [jj]); exact zcr rfl rfl) (ph_y (zaR rfl rfl rfl) (gN [2,3,4,15] rfl (zap rfl (fun hc15=>?_) (fun hc15=>?_)))))))))))))))))))))
 ·
  refine zac (gZ 11 (ph_y (zab zIt rfl) (ph_y (zah 0 tf4 rfl rfl rfl) (ph_y (zbR rfl) (ph_y (zaf rfl) (zaz rfl rfl (fun jj=>by(try rw [jj]); exact zab zIs rfl) (zaz rfl rfl (fun jj=>by(try rw [jj]); exact zah 1 tf3 rfl rfl rfl) (zaz rfl rfl (fun jj=>by(try rw [jj]); exact zab zIs rfl) (zaz rfl rfl (fun jj=>by(try rw [jj]); exact zah 0 tf3 rfl rfl rfl) (zaz rfl rfl (fun jj=>by(try rw [jj]); exact zbw rfl rfl) (ph_y (zaR rfl rfl rfl) (ph_y (zad rfl) (gN [2,3,4] rfl (zaw (zay (zaC rfl (zau rfl)) ?_)))))))))))))))
  rw [zJ4 hc15]
 ·have hq:=zJ5 hc15
  refine zaq (zac (gS (gQ (zab zIi rfl) (gQ (zah 1 tf76 rfl rfl rfl) (gQ (zaV (Tryz.underlying76) rfl) (gQ (zab zIi rfl) (gQ (zah 0 tf76 rfl rfl rfl) (gQ (zaV (Tryz.underlying76) rfl) (gQ (zcr rfl rfl) (gN [2,3,4,32] rfl (zap rfl (fun hc32=>?_) (fun hc32=>?_))))))))))))
  ·have hn:¬ t.l.length=o.l.length:=by intro h; rw [l1,l2,h] at hc32; simp at hc32
   refine gS (gQ (zab zIi rfl) (gQ (zah 1 tf76 rfl rfl rfl) (gQ (zaV (Tryz.underlying76) rfl) (gQ (zab zIi rfl) (gQ (zah 0 tf76 rfl rfl rfl) (gQ (zaV (Tryz.underlying76) rfl) (gQ (zbw rfl rfl) (gA rfl (gN [2,3,4] rfl (zaw (zay (zaC rfl (zau rfl)) ?_)))))))))))
   rw [zJ6 hq hn,l1,l2]; exact congrArg Value.bool (decide_eq_decide.2 (by omega))
  ·have he:t.l.length=o.l.length:=by rw [l1,l2] at hc32; simp only [nF,dT] at hc32; omega
   refine zaq (zac (gS (gA rfl (gN [2,3,4,5] rfl (zas (zbf (X:=Int) (fun(i:Int)=>[(2,.pointer (some ⟨b2,0,none⟩)),(3,.pointer (some ⟨b3,0,none⟩)),(4,.bool false),(5,.int .i64 i)]) (fun(i:Int)=>[Box b3 [.int .i64 o.eff,.slice b (stpL o.l).length bcap,.bool o.there] 95,Box b2 [.int .i64 t.eff,.slice a (stpL t.l).length cap,.bool t.there] 95]) (fun(i:Int)=>(0≤i∧i≤t.l.length∧∀ j:Nat,(j:Int) < i→(zIh t.l).getD j default=(zIh o.l).getD j default)) (fun(i:Int)=>(t.l.length - i).toNat) 0 ⟨rfl,rfl,rfl,rfl,trivial⟩ rfl ?_ ?_))))))
   ·exact⟨by omega,by omega,fun j hj=>by omega⟩
   ·rintro i hI
    obtain⟨g0,g1,g2⟩:=hI
    refine zac (gS (gM rfl (gQ (zab zIi rfl) (gQ (zah 1 tf76 rfl rfl rfl) (gQ (zaV (Tryz.underlying76) rfl) (gQ (zbw rfl rfl) (gN [2,3,4,5,44] rfl (zap rfl (fun hc44=>?_) (fun hc44=>?_)))))))))
    ·have hc44:=oT hc44
     refine zaq (zac (zas (zac (gZ 13 (ph_y (zab zIi rfl) (ph_y (zah 1 tf76 rfl rfl rfl) (ph_y (zaf rfl) (ph_y (zaE se76 rfl rfl (fun _=>rH hl)) (ph_y (zbh zIy rfl (fun w hw=>zaO (i:=i) (rH hl hw))) (ph_y (zbn tf3 rfl (fun _=>rH hl) (by omega) (by omega) rfl) (ph_y (zab zIi rfl) (ph_y (zah 0 tf76 rfl rfl rfl) (ph_y (zaf rfl) (ph_y (zaE se76 rfl rfl (fun _=>rH hm)) (ph_y (zbh zIy rfl (fun w hw=>zaO (i:=i) (rH hm hw))) (ph_y (zbn tf3 rfl (fun _=>rH hm) (by omega) (by omega) rfl) (ph_y (zcr rfl rfl) (gN [2,3,4,5,59] rfl (zap rfl (fun hc59=>?_) (fun hc59=>?_))))))))))))))))))))
     ·have hd:¬ (zIh t.l).getD i.toNat default=(zIh o.l).getD i.toNat default:=by rw [←zIu,←zIu]; simpa only [nT,dF] using hc59
      refine zac (gZ 14 (ph_y (zab zIi rfl) (ph_y (zah 1 tf76 rfl rfl rfl) (ph_y (zaf rfl) (ph_y (zaE se76 rfl rfl (fun _=>rH hl)) (ph_y (zbh zIy rfl (fun w hw=>zaO (i:=i) (rH hl hw))) (ph_y (zbn tf3 rfl (fun _=>rH hl) (by omega) (by omega) rfl) (ph_y (zab zIi rfl) (ph_y (zah 0 tf76 rfl rfl rfl) (ph_y (zaf rfl) (ph_y (zaE se76 rfl rfl (fun _=>rH hm)) (ph_y (zbh zIy rfl (fun w hw=>zaO (i:=i) (rH hm hw))) (ph_y (zbn tf3 rfl (fun _=>rH hm) (by omega) (by omega) rfl) (ph_y (zbw rfl rfl) (ph_y (zad rfl) (gN [2,3,4,5] rfl (zaw (zay (zaC rfl (zau rfl)) ?_))))))))))))))))))
      rw [zJE hq he,zJF (i:=i.toNat) (by rw [zId,zId]; exact he) (by rw [zId]; omega) (fun j hj=>g2 j (by omega)) hd,←zIu,←zIu]
     ·have hd:(zIh t.l).getD i.toNat default=(zIh o.l).getD i.toNat default:=by rw [←zIu,←zIu]; simpa only [nF,dT] using hc59
      refine zaq (zaa (gM rfl (gQ (zaY rfl rfl) (gA rfl (gN [2,3,4,5] rfl ?_)))))
      exact za1 _ ⟨rfl,rfl,rfl,rfl,trivial⟩ rfl ⟨by omega,by omega,fun j hj=>if h:(j:Int) < i then g2 j h else(by rw [show j=i.toNat from by omega]; exact hd)⟩ (by omega)
    ·have hc44:=oD hc44
     refine za8 rfl (gS (gA rfl (gN [4] rfl (zaw (zay (zaC rfl (zau rfl)) ?_)))))
     rw [zJE hq he,zJx (by rw [zId,zId]; exact he) (fun j hj=>g2 j (by rw [zId] at hj; omega))]
theorem zJh (a:Option Addr) (cap:Nat) (S:List ShC) (b:Option Addr) (bcap:Nat) (V:List WlC) (ca:Option Addr) (ccap:Nat) (cs:List ByteArray) (ba:Option Addr) (bcp:Nat) (bs:List Bdr) (x:Anm) (frm:Int) (cla:Option Addr) (clc:Nat) (cl:List Int) (w:World) (hl:Has w (zaW a 20 zbH S)) (hs:zaP S.length) (hcS:S.length≤cap) (hlw:Has w (zaW b 4 zbS V)) (hsw:zaP V.length) (hsh:∀ z∈S,Has w (Ints z.a z.s.heights)) (hss:∀ z∈S,zaP z.s.heights.length) (hwo:∀ z∈V,Has w (zaW z.a 5 zba z.s.opens)) (hsv:∀ z∈V,zaP z.s.opens.length) (hcp:∀ z∈V,z.s.opens.length≤z.cap) (hkn:∀ z∈V,∀ o∈z.s.opens,Knd o) (hc:Has w (zaW ca 1 encS cs)) (hcs:zaP cs.length) (hcap:cs.length≤ccap) (hbd:Has w (zaW ba 6 zyr bs)) (hbs:zaP bs.length) (hok:(zym S V cs bs x)=true) (h0:0≤frm) (h1:frm < cs.length) (hcl:Has w (Ints cla cl)) (hcls:zaP cl.length) :
  Calls Tryz.prog 38 #[.agg #[.slice a S.length cap,.slice b V.length bcap],.agg #[.slice ca cs.length ccap,.slice ba bs.length bcp],.agg #[.int .i64 x.wide,.int .i64 x.high,.int .i64 x.step,.int .i64 x.leap,.int .i64 x.reach],.int .i64 frm,.slice cla cl.length clc] w (zcU (fun z:Option Addr×Nat×List TrkR=>.slice z.1 z.2.2.length z.2.1) (fun z=>zDo (Best (zyj S V bs x) (mayC cl) cs.length frm (trkL z.2.2)) (SepR [Row z.1 3 z.2.1 95 zIf z.2.2,Go.K.Rows rowT z.2.2])) w):=by
 obtain⟨_,hcs40,hbs80,_,_,hbo⟩:=zzD hok
 have hp:=zBa hok
 have heff:=zI5 hok
 have hcell:=zIr hok
 have hlw_:(zyj S V bs x).length=bs.length:=zz5
 have hrl:(List.replicate cs.length (default:TrkR)).length=cs.length:=List.length_replicate ..
 refine zan (vs:=[_,_,_,_,_]) Tryz.func38 rfl rfl (bL rfl) (gS (zaG rfl rfl (za3 (vs:=[_,_]) rfl rfl) fun b5=>(zaG rfl rfl (za3 (vs:=[_,_]) rfl rfl) fun b6=>(zaG rfl rfl (za3 (vs:=[_,_,_,_,_]) rfl rfl) fun b7=>(gA rfl (gN [3,4,5,6,7,10] rfl (gS (gQ (zab zAp rfl) (gQ (zah 1 tf26 rfl rfl rfl) (gQ (zaV (Tryz.underlying26) rfl) (zaG rfl rfl (zB1 (n:=cs.length) (default:TrkR) af92 rfl rfl zIc rfl (by omega) (by omega)) fun b25=>(gA rfl (gN [3,4,5,6,7,10,11] rfl (gS (gM rfl (gM rfl (gQ (zaE se92 rfl rfl (fun _ hw=>(zam zIc (hw.has (p:=0) rfl)))) (gQ (zbh zIt rfl (fun w hw=>zaO (i:=frm) (zam zIc (hw.has (p:=0) rfl)))) (zfG (x':=({ ((List.replicate cs.length (default:TrkR)).getD (frm).toNat default).1 with there:=true },((List.replicate cs.length (default:TrkR)).getD (frm).toNat default).2)) 0 zIc tf4 rfl rfl (vs:=[_]) rfl rfl (by decide) rfl rfl (by omega) (by omega) (gN [4,5,6,7,10,11] rfl ?_))))))))))))))))))))
 refine zae (T':=[(4,_),(5,_),(6,_),(7,_),(10,_),(11,.slice (some ⟨b25,0,none⟩) (trk0 cs.length frm).length cs.length)]) ⟨rfl,rfl,rfl,rfl,rfl,(by show some (Value.slice _ (List.replicate cs.length (default:TrkR)).length _)=some (Value.slice _ (trk0 cs.length frm).length _); rw [zIW,List.length_replicate]),trivial⟩ (za2 (R':=Row (some ⟨b25,0,none⟩) 3 cs.length 95 zIf (trk0 cs.length frm)) 0 rfl (fun B w hA=>by rw [zJB] at hA; exact hA) (zIL rowT (trk0 cs.length frm) (fun w z hz=>by obtain⟨e1,e2⟩:=zJA hz; show(Row z.2.1 2 z.2.2 160 zyQ (stpL z.1.l)).A _ _; rw [e2,e1]; exact zAR) (zac (gS (gA rfl (gN [4,5,6,7,10,11,12] rfl (zas ?_)))))))
 refine zbf (X:=Bool×List TrkR) (fun⟨cg,L⟩=>[(4,.slice cla cl.length clc),(5,.pointer (some ⟨b5,0,none⟩)),(6,.pointer (some ⟨b6,0,none⟩)),(7,.pointer (some ⟨b7,0,none⟩)),(10,.slice none 0 0),(11,.slice (some ⟨b25,0,none⟩) L.length cs.length),(12,.bool cg)]) (fun⟨cg,L⟩=>[Go.K.Rows rowT L,Row (some ⟨b25,0,none⟩) 3 cs.length 95 zIf L,Box b7 [.int .i64 x.wide,.int .i64 x.high,.int .i64 x.step,.int .i64 x.leap,.int .i64 x.reach] 31,Box b6 [.slice ca cs.length ccap,.slice ba bs.length bcp] 29,Box b5 [.slice a S.length cap,.slice b V.length bcap] 25]) (fun⟨cg,L⟩=>(Imp (zyj S V bs x) (mayC cl) cs.length frm (trkL L)∧L.length=cs.length∧(cg=false→FixN (zyj S V bs x) (mayC cl) (trkL L) bs.length))) (fun⟨cg,L⟩=>(if cg=true then zIj (trkL L)+1 else 0)) (true,(trk0 cs.length frm)) (sB rfl) rfl ?_ ?_
 ·exact⟨zJz h0 h1,zIW,fun h=>by cases h⟩
 ·rintro ⟨cg,L⟩ hI
  obtain⟨himp,hln,hfix⟩:=hI
  refine zac (gS (gM rfl (gN [4,5,6,7,10,11,12,30] rfl (zap rfl (fun hc30=>?_) (fun hc30=>?_)))))
  ·
   refine zaq (zas (gS (gA rfl (gN [4,5,6,7,10,11,12] rfl (gS (gA rfl (gN [4,5,6,7,10,11,12,13] rfl (zas (zbf (X:=Int×Bool×List TrkR) (fun⟨i,c2,L2⟩=>[(4,.slice cla cl.length clc),(5,.pointer (some ⟨b5,0,none⟩)),(6,.pointer (some ⟨b6,0,none⟩)),(7,.pointer (some ⟨b7,0,none⟩)),(10,.slice none 0 0),(11,.slice (some ⟨b25,0,none⟩) L2.length cs.length),(12,.bool c2),(13,.int .i64 i)]) (fun⟨i,c2,L2⟩=>[Go.K.Rows rowT L2,Row (some ⟨b25,0,none⟩) 3 cs.length 95 zIf L2,Box b7 [.int .i64 x.wide,.int .i64 x.high,.int .i64 x.step,.int .i64 x.leap,.int .i64 x.reach] 31,Box b6 [.slice ca cs.length ccap,.slice ba bs.length bcp] 29,Box b5 [.slice a S.length cap,.slice b V.length bcap] 25]) (fun⟨i,c2,L2⟩=>((0≤i∧i≤bs.length)∧Imp (zyj S V bs x) (mayC cl) cs.length frm (trkL L2)∧L2.length=cs.length∧zIj (trkL L2)+(if c2=true then 1 else 0)≤zIj (trkL L)∧(c2=false→FixN (zyj S V bs x) (mayC cl) (trkL L2) i.toNat))) (fun⟨i,c2,L2⟩=>(bs.length - i).toNat) (0,false,L) (sB rfl) rfl ?_ ?_)))))))))
   ·exact⟨⟨by omega,by omega⟩,himp,hln,by simp,fun _=>zJZ⟩
   ·rintro ⟨i,c2,L2⟩ hI
    obtain⟨⟨i0,i1⟩,himp2,hln2,hrk2,hfix2⟩:=hI
    refine zac (gS (gM rfl (gQ (zab zzL rfl) (gQ (zah 3 tf27 rfl rfl rfl) (gQ (zaV (Tryz.underlying27) rfl) (gQ (zbw rfl rfl) (gN [4,5,6,7,10,11,12,13,35] rfl (zap rfl (fun hc35=>?_) (fun hc35=>?_)))))))))
    ·have hc35:=oT hc35
     have i1:i < bs.length:=hc35
     have hwf:=zJW hok i0 i1
     have hbf:=zzq (hbo i.toNat (by omega))
     refine zaq (zac (zas (zac (gS (gM rfl (gM rfl (gQ (zaJ en64 rfl (fun w hw=>zKb _ _ cl i w (rH hcl hw) (by first | assumption | (unfold zaP; omega)))) (gN [4,5,6,7,10,11,12,13,40] rfl (zap rfl (fun hc40=>?_) (fun hc40=>?_))))))))))
     ·
      refine za8 rfl (zaa (gM rfl (gQ (zaY rfl rfl) (gA rfl (gN [4,5,6,7,10,11,12,13] rfl ?_)))))
      exact za1 (i+1,c2,L2) (sB rfl) rfl ⟨⟨by omega,by omega⟩,himp2,hln2,hrk2,fun hf=>zID hok i0 (hfix2 hf) (zJa (by rw [mayC,hwf.2.2.2.2.1,hc40]; rfl)) (zJa (by rw [mayC,hwf.2.2.2.2.2,hc40]; rfl))⟩ (by simp only []; omega)
     ·have hmay0:(mayC cl) (wayI S V bs x i false)=true:=by rw [mayC,hwf.2.2.2.2.1,hc40]; rfl
      have hmay1:(mayC cl) (wayI S V bs x i true)=true:=by rw [mayC,hwf.2.2.2.2.2,hc40]; rfl
      refine zaq (gS (gA rfl (gN [4,5,6,7,10,11,12,13,14] rfl (zas (zbf (X:=Int×Bool×List TrkR) (fun⟨k,c3,L3⟩=>[(4,.slice cla cl.length clc),(5,.pointer (some ⟨b5,0,none⟩)),(6,.pointer (some ⟨b6,0,none⟩)),(7,.pointer (some ⟨b7,0,none⟩)),(10,.slice none 0 0),(11,.slice (some ⟨b25,0,none⟩) L3.length cs.length),(12,.bool c3),(13,.int .i64 i),(14,.int .i64 k)]) (fun⟨k,c3,L3⟩=>[Go.K.Rows rowT L3,Row (some ⟨b25,0,none⟩) 3 cs.length 95 zIf L3,Box b7 [.int .i64 x.wide,.int .i64 x.high,.int .i64 x.step,.int .i64 x.leap,.int .i64 x.reach] 31,Box b6 [.slice ca cs.length ccap,.slice ba bs.length bcp] 29,Box b5 [.slice a S.length cap,.slice b V.length bcap] 25]) (fun⟨k,c3,L3⟩=>((0≤k∧k≤2)∧Imp (zyj S V bs x) (mayC cl) cs.length frm (trkL L3)∧L3.length=cs.length∧zIj (trkL L3)+(if c3=true then 1 else 0)≤zIj (trkL L)∧(c3=false→FixN (zyj S V bs x) (mayC cl) (trkL L3) i.toNat∧(1≤k→fixC (zyj S V bs x) (mayC cl) (trkL L3) (wayI S V bs x i false))∧(2≤k→fixC (zyj S V bs x) (mayC cl) (trkL L3) (wayI S V bs x i true))))) (fun⟨k,c3,L3⟩=>(2 - k).toNat) (0,c2,L2) (sB rfl) rfl ?_ ?_)))))
      ·exact⟨⟨by omega,by omega⟩,himp2,hln2,hrk2,fun hf=>⟨hfix2 hf,fun h=>absurd h (by decide),fun h=>absurd h (by decide)⟩⟩
      ·rintro ⟨k,c3,L3⟩ hI
       obtain⟨⟨k0,k1⟩,himp3,hln3,hrk3,hfix3⟩:=hI
       refine zac (gS (gM rfl (gQ (zbw rfl rfl) (gN [4,5,6,7,10,11,12,13,14,42] rfl (zap rfl (fun hc42=>?_) (fun hc42=>?_))))))
       ·have hc42:=oT hc42
        have hk01:k=0∨k=1:=by omega
        rcases hk01 with hk | hk
        ·
         refine zae (T':=[(4,_),(5,_),(6,_),(7,_),(10,_),(11,_),(12,_),(13,_),(14,.int .i64 0),(42,_)]) ⟨rfl,rfl,rfl,rfl,rfl,rfl,rfl,rfl,(by show some (Value.int .i64 k)=_; rw [hk]),rfl,trivial⟩ ?_
         rw [hk] at hfix3
         have hr:=zC7 hok i0 i1 false
         refine zaq (zac (zas (gS (gQ (zab zzL rfl) (gQ (zah 3 tf27 rfl rfl rfl) (gM rfl (gQ (zaE se27 rfl rfl (fun _=>rH hbd)) (gQ (zbv (vs:=[_,_,_,_,_,_]) zAU rfl (fun _=>rH hbd) (by omega) (by omega) rfl) (zaG rfl rfl (zaL zAU (zs:=[_,_,_,_,_,_]) rfl) fun b15=>(zaA 0 zAU rfl rfl (vs:=[_,_,_,_,_,_]) rfl rfl rfl rfl rfl (gN [4,5,6,7,10,11,12,13,14,15] rfl (zac (gZ 6 (ph_y (zab zCa rfl) (ph_y (zah 0 tf3 rfl rfl rfl) (ph_y (zab zCb rfl) (ph_y (zah 0 tf3 rfl rfl rfl) (ph_y (zad rfl) (ph_y (zad rfl) (gN [4,5,6,7,10,11,12,13,14,16,17] rfl (zac (gS (gM rfl (gQ (zbL rfl rfl) (gN [4,5,6,7,10,11,12,13,14,16,17,55] rfl (zd8 rfl (zaq (gS (gQ (zat 5 tf25 rfl rfl (vs:=[_,_]) rfl rfl) (gQ (zat 4 tf29 rfl rfl (vs:=[_,_]) rfl rfl) (gQ (zat 3 tf31 rfl rfl (vs:=[_,_,_,_,_]) rfl rfl) (gM rfl (gM rfl (gQ (zbL rfl rfl) (gQ (zaJ en26 rfl (fun w hw=>zEb _ _ S _ _ V _ _ cs _ _ bs x i false w (rH hl hw) hs hcS (rH hlw hw) hsw (fun z hz=>(rH (hsh z hz) hw)) hss (fun z hz=>(rH (hwo z hz) hw)) hsv hcp hkn (rH hc hw) hcs hcap (rH hbd hw) hbs hok i0 i1)) (gM rfl (gQ (zaB rfl rfl) ?_)))))))))))))))))))))))))))))))))))))
         refine gQ (zaB rfl rfl) (gQ (zaB rfl rfl) (gA rfl (gA rfl (gA rfl (gN [4,5,6,7,10,11,12,13,14,16,17,18,19,20] rfl (zac (zac (gZ 10 (ph_y (zaf rfl) (ph_y (zbR rfl) (ph_y (zaf rfl) (zaz rfl rfl (fun jj=>by(try rw [jj]); exact zaf rfl) (zaz rfl rfl (fun jj=>by(try rw [jj]); exact zaf rfl) (zaz rfl rfl (fun jj=>by(try rw [jj]); exact zaE se92 rfl rfl (fun _ hw=>(zam zIc (hw.has (p:=2) rfl)))) (zaz rfl rfl (fun jj=>by(try rw [jj]); exact zbh zIt rfl (fun w hw=>zaO (i:=(bs.getD (i).toNat default).a) (zam zIc (hw.has (p:=2) rfl)))) (zaz rfl rfl (fun jj=>by(try rw [jj]); exact zbn tf4 rfl (fun _ hw=>(zam zIc (hw.has (p:=2) rfl))) (by omega) (by omega) rfl) (zaz rfl rfl (fun jj=>by(try rw [jj]); exact zbR rfl) (ph_y (zaR rfl rfl rfl) (gN [4,5,6,7,10,11,12,13,14,16,17,18,19,78] rfl (zap rfl (fun hc78=>?_) (fun hc78=>?_)))))))))))))))))))))
         ·
          have hfc:=zIP (may:=(mayC cl)) (L:=L3) hok i0 i1 false (by rw [hwf.1]; exact hc78)
          refine za8 rfl (zaa (gM rfl (gQ (zaY rfl rfl) (gA rfl (gN [4,5,6,7,10,11,12,13,14] rfl (zaK 0 rfl ?_))))))
          exact za1 (1,c3,L3) (sB rfl) rfl ⟨⟨by decide,by decide⟩,himp3,hln3,hrk3,fun hf=>⟨(hfix3 hf).1,fun _=>hfc,fun h=>absurd h (by decide)⟩⟩ (by simp only []; omega)
         ·
          have hsome:(acrB S V x (bs.getD i.toNat default) false ((zaN S V (bs.getD i.toNat default).wall).s.opens.length+1)).some=true∧(L3.getD (bs.getD i.toNat default).a.toNat default).1.there=true:=by simp only [oF,nF] at hc78; exact hc78
          have hway:=(hr.2 hsome.1).2.1
          have heffc:=(hr.2 hsome.1).2.2
          have hus:=zJp (may:=(mayC cl)) hok i0 i1 (back:=false) hsome.1 hmay0
          have hec:1≤(acrB S V x (bs.getD i.toNat default) false ((zaN S V (bs.getD i.toNat default).wall).s.opens.length+1)).eff∧(acrB S V x (bs.getD i.toNat default) false ((zaN S V (bs.getD i.toNat default).wall).s.opens.length+1)).eff≤7001:=by have h:=heff _ hus.1 hus.2.1; rw [heffc] at h; exact h
          have hxl:=zIz hp hbs80 himp3 hcs40.2 (i:=(bs.getD i.toNat default).a.toNat) (by omega)
          rw [zIe] at hxl
          have hyl:=zIz hp hbs80 himp3 hcs40.2 (i:=(bs.getD i.toNat default).b.toNat) (by omega)
          rw [zIe] at hyl
          have hsl:(stpL (L3.getD (bs.getD i.toNat default).a.toNat default).1.l).length=(L3.getD (bs.getD i.toNat default).a.toNat default).1.l.length:=zIA
          have hxx:(extT (L3.getD (bs.getD i.toNat default).a.toNat default).1 (wayI S V bs x i false)).l.length=(L3.getD (bs.getD i.toNat default).a.toNat default).1.l.length+1:=zI7
          refine zbB 160 zyQ 2 (zaq (zac (zCs [_] (ch [(16,Nat),(19,Nat),(12,(Option Addr×Nat)),(17,(Option Addr×Nat))]) 1000 21 [0,0,3,7,15,0,63,0,0,384,896,1920,3968,0,0,24576,57344,130944,262143,0,1048575] [] rfl (fun _=>mixed) (by kernel_rfl) (zjK _ ⟨inferInstance,inferInstance,inferInstance,inferInstance,trivial⟩) (pY (fun ρ=>zaf rfl) (pY (fun ρ=>zaf rfl) (pY (fun ρ=>zaE se92 rfl rfl (fun _ hw=>(zam zIc (hw.has (p:=2) (R:=Row (some ⟨b25,0,none⟩) 3 cs.length 95 zIf L3) (by simp only [zeS,tIs,okSt,rcf,zbe]; rfl))))) (pY (fun ρ=>zbh zIs rfl (fun w hw=>zaO (i:=(bs.getD (i).toNat default).a) (zam zIc (hw.has (p:=2) (R:=Row (some ⟨b25,0,none⟩) 3 cs.length 95 zIf L3) (by simp only [zeS,tIs,okSt,rcf,zbe]; rfl))))) (pY (fun ρ=>zbn tf3 rfl (fun _ hw=>(zam zIc (hw.has (p:=2) (R:=Row (some ⟨b25,0,none⟩) 3 cs.length 95 zIf L3) (by simp only [zeS,tIs,okSt,rcf,zbe]; rfl)))) (by omega) (by omega) rfl) (pY (fun ρ=>zaf rfl) (pY (fun ρ=>zaY rfl rfl) (pY (fun ρ=>zaf rfl) (pY (fun ρ=>zaf rfl) (pY (fun ρ=>zaE se92 rfl rfl (fun _ hw=>(zam zIc (hw.has (p:=2) (R:=Row (some ⟨b25,0,none⟩) 3 cs.length 95 zIf L3) (by simp only [zeS,tIs,okSt,rcf,zbe]; rfl))))) ?_)))))))))))))
          refine pY (fun ρ=>zbh zIi rfl (fun w hw=>zaO (i:=(bs.getD (i).toNat default).a) (zam zIc (hw.has (p:=2) (R:=Row (some ⟨b25,0,none⟩) 3 cs.length 95 zIf L3) (by simp only [zeS,tIs,okSt,rcf,zbe]; rfl))))) (pY (fun ρ=>zbn tf76 rfl (fun _ hw=>(zam zIc (hw.has (p:=2) (R:=Row (some ⟨b25,0,none⟩) 3 cs.length 95 zIf L3) (by simp only [zeS,tIs,okSt,rcf,zbe]; rfl)))) (by omega) (by omega) rfl) (zFx (R:=fun ρ=>Row none 2 0 160 zyQ []) (fun z:(Option Addr×Nat)=>.slice z.1 ([]++(stpL (L3.getD ((bs.getD (i).toNat default).a).toNat default).1.l)).length z.2) (fun z=>Row z.1 2 z.2 160 zyQ ([]++(stpL (L3.getD ((bs.getD (i).toNat default).a).toNat default).1.l))) 1000 rfl (by kernel_rfl) (by kernel_rfl) (fun _=>by kernel_rfl) (fun ρ=>zBZ (m:=(stpL (L3.getD ((bs.getD (i).toNat default).a).toNat default).1.l)) af76 zyJ rfl rfl (fun _ hw=>(zam zyJ (zbV (f:=rowT) (hw.has (p:=1) rfl) (za0 (by omega))))) (by simp only [lN]; first | omega | (unfold maxLen; omega)) (by simp only [lN]; first | omega | (unfold maxLen; omega))) (pY (fun ρ=>zaf rfl) (pY (fun ρ=>zaf rfl) (pY (fun ρ=>zaI rfl (zIp _ _)) (zFy (fun ρ=>zaD rfl (zJD _ _) zyJ rfl) (fun ρ ρ' h=>⟨by rfl,by rfl⟩) ?_))))))
          refine zFx (R:=fun ρ=>Row (ρ 12).1 2 (ρ 12).2 160 zyQ ([]++(stpL (L3.getD ((bs.getD (i).toNat default).a).toNat default).1.l))) (fun z:(Option Addr×Nat)=>.slice z.1 (([]++(stpL (L3.getD ((bs.getD (i).toNat default).a).toNat default).1.l))++[(⟨i,((acrB S V x (bs.getD i.toNat default) false ((zaN S V (bs.getD i.toNat default).wall).s.opens.length+1)).way)⟩:Int×Int)]).length z.2) (fun z=>Row z.1 2 z.2 160 zyQ (([]++(stpL (L3.getD ((bs.getD (i).toNat default).a).toNat default).1.l))++[(⟨i,((acrB S V x (bs.getD i.toNat default) false ((zaN S V (bs.getD i.toNat default).wall).s.opens.length+1)).way)⟩:Int×Int)])) 1000 rfl (by kernel_rfl) (by kernel_rfl) (fun _=>by kernel_rfl) (fun ρ=>zBZ (m:=[(⟨i,((acrB S V x (bs.getD i.toNat default) false ((zaN S V (bs.getD i.toNat default).wall).s.opens.length+1)).way)⟩:Int×Int)]) af76 zyJ rfl rfl (fun _ hw=>(zam zyJ (hw.has (p:=0) (R:=Row (some ⟨(ρ 16),0,none⟩) 2 1 160 zyQ [(⟨i,((acrB S V x (bs.getD i.toNat default) false ((zaN S V (bs.getD i.toNat default).wall).s.opens.length+1)).way)⟩:Int×Int)]) (by simp only [zeS,tIs,okSt,rcf,zbe]; rfl)))) (by simp only [List.nil_append,lC,lN]; first | omega | (unfold maxLen; omega)) (by simp only [List.nil_append,lC,lN]; first | omega | (unfold maxLen; omega))) ?_
          refine zAr (fun ρ=>zaI rfl (zIl _ _ _ _ _)) (fun ρ ρ' h=>by(first | rfl | (simp only [h 17 rfl]; done) | (simp only [h 17 rfl]; rfl))) (zFy (fun ρ=>zaL tf95 (zs:=[_,_,_]) rfl) (fun ρ ρ' h=>⟨by rfl,by rfl⟩) (zIb (R:=fun ρ=>Box (ρ 19) [.int .i64 0,.slice none 0 0,.bool false] 95) (A:=fun ρ=>Box (ρ 19) [.int .i64 (((L3.getD ((bs.getD (i).toNat default).a).toNat default).1.eff)+((acrB S V x (bs.getD i.toNat default) false ((zaN S V (bs.getD i.toNat default).wall).s.opens.length+1)).eff)),.slice (ρ 17).1 (([]++(stpL (L3.getD ((bs.getD (i).toNat default).a).toNat default).1.l))++[(⟨i,((acrB S V x (bs.getD i.toNat default) false ((zaN S V (bs.getD i.toNat default).wall).s.opens.length+1)).way)⟩:Int×Int)]).length (ρ 17).2,.bool true] 95) 19 rfl rfl (fun _=>rfl) (fun ρ=>zex tf95 rfl rfl (vs:=[_,_,_]) rfl rfl rfl rfl rfl) (fun ρ ρ' h=>by(first | rfl | (simp only [h 17 rfl,h 19 rfl]; done) | (simp only [h 17 rfl,h 19 rfl]; rfl))) ?_))
          refine fun ρ=>zag (zf4 (X:=Nat×Nat×(Option Addr×Nat)×(Option Addr×Nat)) (ρ 16,ρ 19,ρ 12,ρ 17) (fun⟨b95,b21,m91,m96⟩=>[(4,.slice cla cl.length clc),(5,.pointer (some ⟨b5,0,none⟩)),(6,.pointer (some ⟨b6,0,none⟩)),(7,.pointer (some ⟨b7,0,none⟩)),(10,.slice none 0 0),(11,.slice (some ⟨b25,0,none⟩) L3.length cs.length),(12,.bool c3),(13,.int .i64 i),(14,.int .i64 0),(17,.int .i64 (bs.getD (i).toNat default).b),(21,.pointer (some ⟨b21,0,none⟩))]) (fun⟨b95,b21,m91,m96⟩=>[Box b21 [.int .i64 (((L3.getD ((bs.getD (i).toNat default).a).toNat default).1.eff)+((acrB S V x (bs.getD i.toNat default) false ((zaN S V (bs.getD i.toNat default).wall).s.opens.length+1)).eff)),.slice m96.1 (([]++(stpL (L3.getD ((bs.getD (i).toNat default).a).toNat default).1.l))++[(⟨i,((acrB S V x (bs.getD i.toNat default) false ((zaN S V (bs.getD i.toNat default).wall).s.opens.length+1)).way)⟩:Int×Int)]).length m96.2,.bool true] 95,Row (some ⟨b95,0,none⟩) 2 1 160 zyQ [(⟨i,((acrB S V x (bs.getD i.toNat default) false ((zaN S V (bs.getD i.toNat default).wall).s.opens.length+1)).way)⟩:Int×Int)],Row m96.1 2 m96.2 160 zyQ (([]++(stpL (L3.getD ((bs.getD (i).toNat default).a).toNat default).1.l))++[(⟨i,((acrB S V x (bs.getD i.toNat default) false ((zaN S V (bs.getD i.toNat default).wall).s.opens.length+1)).way)⟩:Int×Int)]),Box b15 [.int .i64 (bs.getD (i).toNat default).a,.int .i64 (bs.getD (i).toNat default).b,.string (bs.getD (i).toNat default).wall,.int .i64 (bs.getD (i).toNat default).gA,.int .i64 (bs.getD (i).toNat default).gB,.bool (bs.getD (i).toNat default).shut] 100,Go.K.Rows rowT L3,Row (some ⟨b25,0,none⟩) 3 cs.length 95 zIf L3,Box b7 [.int .i64 x.wide,.int .i64 x.high,.int .i64 x.step,.int .i64 x.leap,.int .i64 x.reach] 31,Box b6 [.slice ca cs.length ccap,.slice ba bs.length bcp] 29,Box b5 [.slice a S.length cap,.slice b V.length bcap] 25]) (sB rfl) rfl ?_)
          rintro ⟨b95,b21,m91,m96⟩
          have hst:(stpL (extT (L3.getD (bs.getD i.toNat default).a.toNat default).1 (wayI S V bs x i false)).l)=stpL (L3.getD (bs.getD i.toNat default).a.toNat default).1.l++[(i,(acrB S V x (bs.getD i.toNat default) false ((zaN S V (bs.getD i.toNat default).wall).s.opens.length+1)).way)]:=zI8 hwf.2.2.2.2.1 hway
          have hef:(extT (L3.getD (bs.getD i.toNat default).a.toNat default).1 (wayI S V bs x i false)).eff=(L3.getD (bs.getD i.toNat default).a.toNat default).1.eff+(acrB S V x (bs.getD i.toNat default) false ((zaN S V (bs.getD i.toNat default).wall).s.opens.length+1)).eff:=zI6 heffc
          refine za2 (R':=Box b21 [.int .i64 ((extT (L3.getD (bs.getD i.toNat default).a.toNat default).1 (wayI S V bs x i false)).eff),.slice m96.1 (stpL (extT (L3.getD (bs.getD i.toNat default).a.toNat default).1 (wayI S V bs x i false)).l).length m96.2,.bool (extT (L3.getD (bs.getD i.toNat default).a.toNat default).1 (wayI S V bs x i false)).there] 95) 0 rfl (fun B w hA=>by rw [hst,hef]; exact hA) (za2 (R':=Row m96.1 2 m96.2 160 zyQ (stpL (extT (L3.getD (bs.getD i.toNat default).a.toNat default).1 (wayI S V bs x i false)).l)) 2 rfl (fun B w hA=>by rw [hst]; exact hA) (zac (gZ 6 (ph_y (zat 0 tf95 rfl rfl (vs:=[_,_,_]) rfl rfl) (ph_y (zaf rfl) (ph_y (zaf rfl) (ph_y (zaE se92 rfl rfl (fun _ hw=>(zam zIc (hw.has (p:=5) rfl)))) (ph_y (zbv (vs:=[_,_,_]) tf95 rfl (fun _ hw=>(zam zIc (hw.has (p:=5) rfl))) (by omega) (by omega) rfl) (ph_y (zaJ en66 rfl (fun w hw=>zJe (extT (L3.getD (bs.getD i.toNat default).a.toNat default).1 (wayI S V bs x i false)) (L3.getD ((bs.getD (i).toNat default).b).toNat default).1 _ _ _ _ w (zam zyJ (hw.has (p:=2) rfl)) (by omega) (zam zyJ (zbV (f:=rowT) (hw.has (p:=4) rfl) (za0 (by omega)))) (by omega))) (gN [4,5,6,7,10,11,12,13,14,17,21,103] rfl (zap rfl (fun hc103=>?_) (fun hc103=>?_))))))))))))
          ·
           have h4:=zIX hp hbs80 heff hcell hcs40.2 h0 himp3 hus (by rw [hwf.1]; exact hsome.2) (by rw [hwf.1,hwf.2.1]; exact hc103) (m96.1,m96.2)
           rw [hwf.1,hwf.2.1] at h4
           have himp4:=h4.1
           have hrk4:=h4.2
           refine gS (gM rfl (gM rfl (gQ (zat 0 tf95 rfl rfl (vs:=[_,_,_]) rfl rfl) (gQ (zaE se92 rfl rfl (fun _ hw=>(zam zIc (hw.has (p:=5) rfl)))) (zpR (x':=(((extT (L3.getD (bs.getD i.toNat default).a.toNat default).1 (wayI S V bs x i false)),m96.1,m96.2):TrkR)) 5 zIc tf95 rfl rfl (vs:=[_,_,_]) rfl rfl rfl (by omega) (by omega) (gN [4,5,6,7,10,11,12,13,14] rfl (zao 2 rfl (zao 4 rfl (zbT 2 (za2 (R':=Go.K.Rows rowT (L3.set ((bs.getD (i).toNat default).b).toNat (((extT (L3.getD (bs.getD i.toNat default).a.toNat default).1 (wayI S V bs x i false)),m96.1,m96.2):TrkR))) 0 rfl (fun B w hA=>zIV _ hA) (zae (T':=[(4,_),(5,_),(6,_),(7,_),(10,_),(11,.slice (some ⟨b25,0,none⟩) (L3.set ((bs.getD (i).toNat default).b).toNat (((extT (L3.getD (bs.getD i.toNat default).a.toNat default).1 (wayI S V bs x i false)),m96.1,m96.2):TrkR)).length cs.length),(12,_),(13,_),(14,_)]) ⟨rfl,rfl,rfl,rfl,rfl,(by show some (Value.slice _ L3.length _)=some (Value.slice _ (L3.set ((bs.getD (i).toNat default).b).toNat (((extT (L3.getD (bs.getD i.toNat default).a.toNat default).1 (wayI S V bs x i false)),m96.1,m96.2):TrkR)).length _); rw [List.length_set]),rfl,rfl,rfl,trivial⟩ ?_)))))))))))
           have hln4:(L3.set ((bs.getD (i).toNat default).b).toNat (((extT (L3.getD (bs.getD i.toNat default).a.toNat default).1 (wayI S V bs x i false)),m96.1,m96.2):TrkR)).length=cs.length:=by rw [List.length_set]; exact hln3
           refine zaa (gA rfl (gN [4,5,6,7,10,11,12,13,14] rfl (zaa (gM rfl (gQ (zaY rfl rfl) (gA rfl (gN [4,5,6,7,10,11,12,13,14] rfl (zaK 1 rfl (zaK 1 rfl (zaK 1 rfl ?_))))))))))
           exact za1 (1,true,(L3.set ((bs.getD (i).toNat default).b).toNat (((extT (L3.getD (bs.getD i.toNat default).a.toNat default).1 (wayI S V bs x i false)),m96.1,m96.2):TrkR))) (sB rfl) rfl ⟨⟨by decide,by decide⟩,himp4,hln4,by rw [if_pos rfl]; omega,fun hf=>by cases hf⟩ (by simp only []; omega)
          ·
           have hfc:fixC (zyj S V bs x) (mayC cl) (trkL L3) (wayI S V bs x i false):=zIQ (by rw [zIe,zIe,hwf.1,hwf.2.1]; exact hc103)
           refine zaq (zaa (gM rfl (gQ (zaY rfl rfl) (gA rfl (gN [4,5,6,7,10,11,12,13,14] rfl (zaK 0 rfl (zaK 0 rfl (zaK 0 rfl (zaK 0 rfl ?_)))))))))
           exact za1 (1,c3,L3) (sB rfl) rfl ⟨⟨by decide,by decide⟩,himp3,hln3,hrk3,fun hf=>⟨(hfix3 hf).1,fun _=>hfc,fun h=>absurd h (by decide)⟩⟩ (by simp only []; omega)
        ·
         refine zae (T':=[(4,_),(5,_),(6,_),(7,_),(10,_),(11,_),(12,_),(13,_),(14,.int .i64 1),(42,_)]) ⟨rfl,rfl,rfl,rfl,rfl,rfl,rfl,rfl,(by show some (Value.int .i64 k)=_; rw [hk]),rfl,trivial⟩ ?_
         rw [hk] at hfix3
         have hr:=zC7 hok i0 i1 true
         refine zaq (zac (zas (gS (gQ (zab zzL rfl) (gQ (zah 3 tf27 rfl rfl rfl) (gM rfl (gQ (zaE se27 rfl rfl (fun _=>rH hbd)) (gQ (zbv (vs:=[_,_,_,_,_,_]) zAU rfl (fun _=>rH hbd) (by omega) (by omega) rfl) (zaG rfl rfl (zaL zAU (zs:=[_,_,_,_,_,_]) rfl) fun b15=>(zaA 0 zAU rfl rfl (vs:=[_,_,_,_,_,_]) rfl rfl rfl rfl rfl (gN [4,5,6,7,10,11,12,13,14,15] rfl (zac (gZ 6 (ph_y (zab zCa rfl) (ph_y (zah 0 tf3 rfl rfl rfl) (ph_y (zab zCb rfl) (ph_y (zah 0 tf3 rfl rfl rfl) (ph_y (zad rfl) (ph_y (zad rfl) (gN [4,5,6,7,10,11,12,13,14,16,17] rfl (zac (gS (gM rfl (gQ (zbL rfl rfl) (gN [4,5,6,7,10,11,12,13,14,16,17,55] rfl (zdg rfl (zaa (gM rfl (gM rfl (gA rfl (gA rfl (gN [4,5,6,7,10,11,12,13,14,16,17] rfl (gS (gQ (zat 5 tf25 rfl rfl (vs:=[_,_]) rfl rfl) (gQ (zat 4 tf29 rfl rfl (vs:=[_,_]) rfl rfl) (gQ (zat 3 tf31 rfl rfl (vs:=[_,_,_,_,_]) rfl rfl) (gM rfl ?_)))))))))))))))))))))))))))))))))))))
         refine gM rfl (gQ (zbL rfl rfl) (gQ (zaJ en26 rfl (fun w hw=>zEb _ _ S _ _ V _ _ cs _ _ bs x i true w (rH hl hw) hs hcS (rH hlw hw) hsw (fun z hz=>(rH (hsh z hz) hw)) hss (fun z hz=>(rH (hwo z hz) hw)) hsv hcp hkn (rH hc hw) hcs hcap (rH hbd hw) hbs hok i0 i1)) (gM rfl (gQ (zaB rfl rfl) (gQ (zaB rfl rfl) (gQ (zaB rfl rfl) (gA rfl (gA rfl (gA rfl (gN [4,5,6,7,10,11,12,13,14,16,17,18,19,20] rfl (zac (zac (gZ 10 (ph_y (zaf rfl) (ph_y (zbR rfl) (ph_y (zaf rfl) (zaz rfl rfl (fun jj=>by(try rw [jj]); exact zaf rfl) (zaz rfl rfl (fun jj=>by(try rw [jj]); exact zaf rfl) (zaz rfl rfl (fun jj=>by(try rw [jj]); exact zaE se92 rfl rfl (fun _ hw=>(zam zIc (hw.has (p:=2) rfl)))) (zaz rfl rfl (fun jj=>by(try rw [jj]); exact zbh zIt rfl (fun w hw=>zaO (i:=(bs.getD (i).toNat default).b) (zam zIc (hw.has (p:=2) rfl)))) (zaz rfl rfl (fun jj=>by(try rw [jj]); exact zbn tf4 rfl (fun _ hw=>(zam zIc (hw.has (p:=2) rfl))) (by omega) (by omega) rfl) (zaz rfl rfl (fun jj=>by(try rw [jj]); exact zbR rfl) (ph_y (zaR rfl rfl rfl) (gN [4,5,6,7,10,11,12,13,14,16,17,18,19,78] rfl (zap rfl (fun hc78=>?_) (fun hc78=>?_))))))))))))))))))))))))))
         ·
          have hfc:=zIP (may:=(mayC cl)) (L:=L3) hok i0 i1 true (by rw [hwf.2.2.1]; exact hc78)
          refine za8 rfl (zaa (gM rfl (gQ (zaY rfl rfl) (gA rfl (gN [4,5,6,7,10,11,12,13,14] rfl (zaK 0 rfl ?_))))))
          exact za1 (2,c3,L3) (sB rfl) rfl ⟨⟨by decide,by decide⟩,himp3,hln3,hrk3,fun hf=>⟨(hfix3 hf).1,(fun _=>(hfix3 hf).2.1 (by decide)),fun _=>hfc⟩⟩ (by simp only []; omega)
         ·
          have hsome:(acrB S V x (bs.getD i.toNat default) true ((zaN S V (bs.getD i.toNat default).wall).s.opens.length+1)).some=true∧(L3.getD (bs.getD i.toNat default).b.toNat default).1.there=true:=by simp only [oF,nF] at hc78; exact hc78
          have hway:=(hr.2 hsome.1).2.1
          have heffc:=(hr.2 hsome.1).2.2
          have hus:=zJp (may:=(mayC cl)) hok i0 i1 (back:=true) hsome.1 hmay1
          have hec:1≤(acrB S V x (bs.getD i.toNat default) true ((zaN S V (bs.getD i.toNat default).wall).s.opens.length+1)).eff∧(acrB S V x (bs.getD i.toNat default) true ((zaN S V (bs.getD i.toNat default).wall).s.opens.length+1)).eff≤7001:=by have h:=heff _ hus.1 hus.2.1; rw [heffc] at h; exact h
          have hxl:=zIz hp hbs80 himp3 hcs40.2 (i:=(bs.getD i.toNat default).b.toNat) (by omega)
          rw [zIe] at hxl
          have hyl:=zIz hp hbs80 himp3 hcs40.2 (i:=(bs.getD i.toNat default).a.toNat) (by omega)
          rw [zIe] at hyl
          have hsl:(stpL (L3.getD (bs.getD i.toNat default).b.toNat default).1.l).length=(L3.getD (bs.getD i.toNat default).b.toNat default).1.l.length:=zIA
          have hxx:(extT (L3.getD (bs.getD i.toNat default).b.toNat default).1 (wayI S V bs x i true)).l.length=(L3.getD (bs.getD i.toNat default).b.toNat default).1.l.length+1:=zI7
          refine zbB 160 zyQ 2 (zaq (zac (zCs [_] (ch [(16,Nat),(19,Nat),(12,(Option Addr×Nat)),(17,(Option Addr×Nat))]) 1000 21 [0,0,3,7,15,0,63,0,0,384,896,1920,3968,0,0,24576,57344,130944,262143,0,1048575] [] rfl (fun _=>mixed) (by kernel_rfl) (zjK _ ⟨inferInstance,inferInstance,inferInstance,inferInstance,trivial⟩) (pY (fun ρ=>zaf rfl) (pY (fun ρ=>zaf rfl) (pY (fun ρ=>zaE se92 rfl rfl (fun _ hw=>(zam zIc (hw.has (p:=2) (R:=Row (some ⟨b25,0,none⟩) 3 cs.length 95 zIf L3) (by simp only [zeS,tIs,okSt,rcf,zbe]; rfl))))) (pY (fun ρ=>zbh zIs rfl (fun w hw=>zaO (i:=(bs.getD (i).toNat default).b) (zam zIc (hw.has (p:=2) (R:=Row (some ⟨b25,0,none⟩) 3 cs.length 95 zIf L3) (by simp only [zeS,tIs,okSt,rcf,zbe]; rfl))))) (pY (fun ρ=>zbn tf3 rfl (fun _ hw=>(zam zIc (hw.has (p:=2) (R:=Row (some ⟨b25,0,none⟩) 3 cs.length 95 zIf L3) (by simp only [zeS,tIs,okSt,rcf,zbe]; rfl)))) (by omega) (by omega) rfl) (pY (fun ρ=>zaf rfl) (pY (fun ρ=>zaY rfl rfl) (pY (fun ρ=>zaf rfl) (pY (fun ρ=>zaf rfl) (pY (fun ρ=>zaE se92 rfl rfl (fun _ hw=>(zam zIc (hw.has (p:=2) (R:=Row (some ⟨b25,0,none⟩) 3 cs.length 95 zIf L3) (by simp only [zeS,tIs,okSt,rcf,zbe]; rfl))))) ?_)))))))))))))
          refine pY (fun ρ=>zbh zIi rfl (fun w hw=>zaO (i:=(bs.getD (i).toNat default).b) (zam zIc (hw.has (p:=2) (R:=Row (some ⟨b25,0,none⟩) 3 cs.length 95 zIf L3) (by simp only [zeS,tIs,okSt,rcf,zbe]; rfl))))) (pY (fun ρ=>zbn tf76 rfl (fun _ hw=>(zam zIc (hw.has (p:=2) (R:=Row (some ⟨b25,0,none⟩) 3 cs.length 95 zIf L3) (by simp only [zeS,tIs,okSt,rcf,zbe]; rfl)))) (by omega) (by omega) rfl) (zFx (R:=fun ρ=>Row none 2 0 160 zyQ []) (fun z:(Option Addr×Nat)=>.slice z.1 ([]++(stpL (L3.getD ((bs.getD (i).toNat default).b).toNat default).1.l)).length z.2) (fun z=>Row z.1 2 z.2 160 zyQ ([]++(stpL (L3.getD ((bs.getD (i).toNat default).b).toNat default).1.l))) 1000 rfl (by kernel_rfl) (by kernel_rfl) (fun _=>by kernel_rfl) (fun ρ=>zBZ (m:=(stpL (L3.getD ((bs.getD (i).toNat default).b).toNat default).1.l)) af76 zyJ rfl rfl (fun _ hw=>(zam zyJ (zbV (f:=rowT) (hw.has (p:=1) rfl) (za0 (by omega))))) (by simp only [lN]; first | omega | (unfold maxLen; omega)) (by simp only [lN]; first | omega | (unfold maxLen; omega))) (pY (fun ρ=>zaf rfl) (pY (fun ρ=>zaf rfl) (pY (fun ρ=>zaI rfl (zIp _ _)) (zFy (fun ρ=>zaD rfl (zJD _ _) zyJ rfl) (fun ρ ρ' h=>⟨by rfl,by rfl⟩) ?_))))))
          refine zFx (R:=fun ρ=>Row (ρ 12).1 2 (ρ 12).2 160 zyQ ([]++(stpL (L3.getD ((bs.getD (i).toNat default).b).toNat default).1.l))) (fun z:(Option Addr×Nat)=>.slice z.1 (([]++(stpL (L3.getD ((bs.getD (i).toNat default).b).toNat default).1.l))++[(⟨i,((acrB S V x (bs.getD i.toNat default) true ((zaN S V (bs.getD i.toNat default).wall).s.opens.length+1)).way)⟩:Int×Int)]).length z.2) (fun z=>Row z.1 2 z.2 160 zyQ (([]++(stpL (L3.getD ((bs.getD (i).toNat default).b).toNat default).1.l))++[(⟨i,((acrB S V x (bs.getD i.toNat default) true ((zaN S V (bs.getD i.toNat default).wall).s.opens.length+1)).way)⟩:Int×Int)])) 1000 rfl (by kernel_rfl) (by kernel_rfl) (fun _=>by kernel_rfl) (fun ρ=>zBZ (m:=[(⟨i,((acrB S V x (bs.getD i.toNat default) true ((zaN S V (bs.getD i.toNat default).wall).s.opens.length+1)).way)⟩:Int×Int)]) af76 zyJ rfl rfl (fun _ hw=>(zam zyJ (hw.has (p:=0) (R:=Row (some ⟨(ρ 16),0,none⟩) 2 1 160 zyQ [(⟨i,((acrB S V x (bs.getD i.toNat default) true ((zaN S V (bs.getD i.toNat default).wall).s.opens.length+1)).way)⟩:Int×Int)]) (by simp only [zeS,tIs,okSt,rcf,zbe]; rfl)))) (by simp only [List.nil_append,lC,lN]; first | omega | (unfold maxLen; omega)) (by simp only [List.nil_append,lC,lN]; first | omega | (unfold maxLen; omega))) ?_
          refine zAr (fun ρ=>zaI rfl (zIl _ _ _ _ _)) (fun ρ ρ' h=>by(first | rfl | (simp only [h 17 rfl]; done) | (simp only [h 17 rfl]; rfl))) (zFy (fun ρ=>zaL tf95 (zs:=[_,_,_]) rfl) (fun ρ ρ' h=>⟨by rfl,by rfl⟩) (zIb (R:=fun ρ=>Box (ρ 19) [.int .i64 0,.slice none 0 0,.bool false] 95) (A:=fun ρ=>Box (ρ 19) [.int .i64 (((L3.getD ((bs.getD (i).toNat default).b).toNat default).1.eff)+((acrB S V x (bs.getD i.toNat default) true ((zaN S V (bs.getD i.toNat default).wall).s.opens.length+1)).eff)),.slice (ρ 17).1 (([]++(stpL (L3.getD ((bs.getD (i).toNat default).b).toNat default).1.l))++[(⟨i,((acrB S V x (bs.getD i.toNat default) true ((zaN S V (bs.getD i.toNat default).wall).s.opens.length+1)).way)⟩:Int×Int)]).length (ρ 17).2,.bool true] 95) 19 rfl rfl (fun _=>rfl) (fun ρ=>zex tf95 rfl rfl (vs:=[_,_,_]) rfl rfl rfl rfl rfl) (fun ρ ρ' h=>by(first | rfl | (simp only [h 17 rfl,h 19 rfl]; done) | (simp only [h 17 rfl,h 19 rfl]; rfl))) ?_))
          refine fun ρ=>zag (zf4 (X:=Nat×Nat×(Option Addr×Nat)×(Option Addr×Nat)) (ρ 16,ρ 19,ρ 12,ρ 17) (fun⟨b95,b21,m91,m96⟩=>[(4,.slice cla cl.length clc),(5,.pointer (some ⟨b5,0,none⟩)),(6,.pointer (some ⟨b6,0,none⟩)),(7,.pointer (some ⟨b7,0,none⟩)),(10,.slice none 0 0),(11,.slice (some ⟨b25,0,none⟩) L3.length cs.length),(12,.bool c3),(13,.int .i64 i),(14,.int .i64 1),(17,.int .i64 (bs.getD (i).toNat default).a),(21,.pointer (some ⟨b21,0,none⟩))]) (fun⟨b95,b21,m91,m96⟩=>[Box b21 [.int .i64 (((L3.getD ((bs.getD (i).toNat default).b).toNat default).1.eff)+((acrB S V x (bs.getD i.toNat default) true ((zaN S V (bs.getD i.toNat default).wall).s.opens.length+1)).eff)),.slice m96.1 (([]++(stpL (L3.getD ((bs.getD (i).toNat default).b).toNat default).1.l))++[(⟨i,((acrB S V x (bs.getD i.toNat default) true ((zaN S V (bs.getD i.toNat default).wall).s.opens.length+1)).way)⟩:Int×Int)]).length m96.2,.bool true] 95,Row (some ⟨b95,0,none⟩) 2 1 160 zyQ [(⟨i,((acrB S V x (bs.getD i.toNat default) true ((zaN S V (bs.getD i.toNat default).wall).s.opens.length+1)).way)⟩:Int×Int)],Row m96.1 2 m96.2 160 zyQ (([]++(stpL (L3.getD ((bs.getD (i).toNat default).b).toNat default).1.l))++[(⟨i,((acrB S V x (bs.getD i.toNat default) true ((zaN S V (bs.getD i.toNat default).wall).s.opens.length+1)).way)⟩:Int×Int)]),Box b15 [.int .i64 (bs.getD (i).toNat default).a,.int .i64 (bs.getD (i).toNat default).b,.string (bs.getD (i).toNat default).wall,.int .i64 (bs.getD (i).toNat default).gA,.int .i64 (bs.getD (i).toNat default).gB,.bool (bs.getD (i).toNat default).shut] 100,Go.K.Rows rowT L3,Row (some ⟨b25,0,none⟩) 3 cs.length 95 zIf L3,Box b7 [.int .i64 x.wide,.int .i64 x.high,.int .i64 x.step,.int .i64 x.leap,.int .i64 x.reach] 31,Box b6 [.slice ca cs.length ccap,.slice ba bs.length bcp] 29,Box b5 [.slice a S.length cap,.slice b V.length bcap] 25]) (sB rfl) rfl ?_)
          rintro ⟨b95,b21,m91,m96⟩
          have hst:(stpL (extT (L3.getD (bs.getD i.toNat default).b.toNat default).1 (wayI S V bs x i true)).l)=stpL (L3.getD (bs.getD i.toNat default).b.toNat default).1.l++[(i,(acrB S V x (bs.getD i.toNat default) true ((zaN S V (bs.getD i.toNat default).wall).s.opens.length+1)).way)]:=zI8 hwf.2.2.2.2.2 hway
          have hef:(extT (L3.getD (bs.getD i.toNat default).b.toNat default).1 (wayI S V bs x i true)).eff=(L3.getD (bs.getD i.toNat default).b.toNat default).1.eff+(acrB S V x (bs.getD i.toNat default) true ((zaN S V (bs.getD i.toNat default).wall).s.opens.length+1)).eff:=zI6 heffc
          refine za2 (R':=Box b21 [.int .i64 ((extT (L3.getD (bs.getD i.toNat default).b.toNat default).1 (wayI S V bs x i true)).eff),.slice m96.1 (stpL (extT (L3.getD (bs.getD i.toNat default).b.toNat default).1 (wayI S V bs x i true)).l).length m96.2,.bool (extT (L3.getD (bs.getD i.toNat default).b.toNat default).1 (wayI S V bs x i true)).there] 95) 0 rfl (fun B w hA=>by rw [hst,hef]; exact hA) (za2 (R':=Row m96.1 2 m96.2 160 zyQ (stpL (extT (L3.getD (bs.getD i.toNat default).b.toNat default).1 (wayI S V bs x i true)).l)) 2 rfl (fun B w hA=>by rw [hst]; exact hA) (zac (gZ 6 (ph_y (zat 0 tf95 rfl rfl (vs:=[_,_,_]) rfl rfl) (ph_y (zaf rfl) (ph_y (zaf rfl) (ph_y (zaE se92 rfl rfl (fun _ hw=>(zam zIc (hw.has (p:=5) rfl)))) (ph_y (zbv (vs:=[_,_,_]) tf95 rfl (fun _ hw=>(zam zIc (hw.has (p:=5) rfl))) (by omega) (by omega) rfl) (ph_y (zaJ en66 rfl (fun w hw=>zJe (extT (L3.getD (bs.getD i.toNat default).b.toNat default).1 (wayI S V bs x i true)) (L3.getD ((bs.getD (i).toNat default).a).toNat default).1 _ _ _ _ w (zam zyJ (hw.has (p:=2) rfl)) (by omega) (zam zyJ (zbV (f:=rowT) (hw.has (p:=4) rfl) (za0 (by omega)))) (by omega))) (gN [4,5,6,7,10,11,12,13,14,17,21,103] rfl (zap rfl (fun hc103=>?_) (fun hc103=>?_))))))))))))
          ·
           have h4:=zIX hp hbs80 heff hcell hcs40.2 h0 himp3 hus (by rw [hwf.2.2.1]; exact hsome.2) (by rw [hwf.2.2.1,hwf.2.2.2.1]; exact hc103) (m96.1,m96.2)
           rw [hwf.2.2.1,hwf.2.2.2.1] at h4
           have himp4:=h4.1
           have hrk4:=h4.2
           refine gS (gM rfl (gM rfl (gQ (zat 0 tf95 rfl rfl (vs:=[_,_,_]) rfl rfl) (gQ (zaE se92 rfl rfl (fun _ hw=>(zam zIc (hw.has (p:=5) rfl)))) (zpR (x':=(((extT (L3.getD (bs.getD i.toNat default).b.toNat default).1 (wayI S V bs x i true)),m96.1,m96.2):TrkR)) 5 zIc tf95 rfl rfl (vs:=[_,_,_]) rfl rfl rfl (by omega) (by omega) (gN [4,5,6,7,10,11,12,13,14] rfl (zao 2 rfl (zao 4 rfl (zbT 2 (za2 (R':=Go.K.Rows rowT (L3.set ((bs.getD (i).toNat default).a).toNat (((extT (L3.getD (bs.getD i.toNat default).b.toNat default).1 (wayI S V bs x i true)),m96.1,m96.2):TrkR))) 0 rfl (fun B w hA=>zIV _ hA) (zae (T':=[(4,_),(5,_),(6,_),(7,_),(10,_),(11,.slice (some ⟨b25,0,none⟩) (L3.set ((bs.getD (i).toNat default).a).toNat (((extT (L3.getD (bs.getD i.toNat default).b.toNat default).1 (wayI S V bs x i true)),m96.1,m96.2):TrkR)).length cs.length),(12,_),(13,_),(14,_)]) ⟨rfl,rfl,rfl,rfl,rfl,(by show some (Value.slice _ L3.length _)=some (Value.slice _ (L3.set ((bs.getD (i).toNat default).a).toNat (((extT (L3.getD (bs.getD i.toNat default).b.toNat default).1 (wayI S V bs x i true)),m96.1,m96.2):TrkR)).length _); rw [List.length_set]),rfl,rfl,rfl,trivial⟩ ?_)))))))))))
           have hln4:(L3.set ((bs.getD (i).toNat default).a).toNat (((extT (L3.getD (bs.getD i.toNat default).b.toNat default).1 (wayI S V bs x i true)),m96.1,m96.2):TrkR)).length=cs.length:=by rw [List.length_set]; exact hln3
           refine zaa (gA rfl (gN [4,5,6,7,10,11,12,13,14] rfl (zaa (gM rfl (gQ (zaY rfl rfl) (gA rfl (gN [4,5,6,7,10,11,12,13,14] rfl (zaK 1 rfl (zaK 1 rfl (zaK 1 rfl ?_))))))))))
           exact za1 (2,true,(L3.set ((bs.getD (i).toNat default).a).toNat (((extT (L3.getD (bs.getD i.toNat default).b.toNat default).1 (wayI S V bs x i true)),m96.1,m96.2):TrkR))) (sB rfl) rfl ⟨⟨by decide,by decide⟩,himp4,hln4,by rw [if_pos rfl]; omega,fun hf=>by cases hf⟩ (by simp only []; omega)
          ·
           have hfc:fixC (zyj S V bs x) (mayC cl) (trkL L3) (wayI S V bs x i true):=zIQ (by rw [zIe,zIe,hwf.2.2.1,hwf.2.2.2.1]; exact hc103)
           refine zaq (zaa (gM rfl (gQ (zaY rfl rfl) (gA rfl (gN [4,5,6,7,10,11,12,13,14] rfl (zaK 0 rfl (zaK 0 rfl (zaK 0 rfl (zaK 0 rfl ?_)))))))))
           exact za1 (2,c3,L3) (sB rfl) rfl ⟨⟨by decide,by decide⟩,himp3,hln3,hrk3,fun hf=>⟨(hfix3 hf).1,(fun _=>(hfix3 hf).2.1 (by decide)),fun _=>hfc⟩⟩ (by simp only []; omega)
       ·have hc42:=oD hc42
        refine za8 rfl (zaa (gM rfl (gQ (zaY rfl rfl) (gA rfl (gN [4,5,6,7,10,11,12,13] rfl ?_)))))
        exact za1 (i+1,c3,L3) (sB rfl) rfl ⟨⟨by omega,by omega⟩,himp3,hln3,hrk3,fun hf=>zID hok i0 (hfix3 hf).1 ((hfix3 hf).2.1 (by omega)) ((hfix3 hf).2.2 (by omega))⟩ (by simp only []; omega)
    ·have hc35:=oD hc35
     refine za8 rfl ?_
     exact za1 (c2,L2) (sB rfl) rfl ⟨himp2,hln2,fun hf=>by have h:=hfix2 hf; rwa [show i.toNat=bs.length from by omega] at h⟩ (by simp only []; rw [hc30,if_pos rfl]; exact zKc hrk2)
  ·have hbest:=zI9 himp (by rw [hlw_]; exact hfix hc30)
   refine za8 rfl (gS (gM rfl (gA rfl (gN [10] rfl (zaw (zao 1 rfl (zbT 2 (zBO (P:=Best (zyj S V bs x) (mayC cl) cs.length frm (trkL L)) hbest ?_))))))))
   exact zbd ((some ⟨b25,0,none⟩),cs.length,L) 0 (zaC rfl (zau rfl)) rfl rfl
end Go.Proofs.YteepmmghanbllaaGreatDoor
namespace Go.Fld
open Go Go.K Go.Stn Go.Pln
abbrev thrB (L:List TrkR):List Bool:=L.map fun z=>z.1.there
theorem zJl {L:List TrkR} {i:Nat}:(thrB L).getD i false=(L.getD i default).1.there:=by
 rw [gE,List.getElem?_map,gE]
 cases L[i]? <;> rfl
theorem zIv {l:List Bool} {n:Nat}:∀ {m:Nat},n≤m→(∀ i,n≤i→i < m→l.getD i false=false)→zAs l n=zAs l m
 | 0,h,_=>by rw [show n=0 from by omega]
 | m+1,h,k=>by
  by_cases e:n=m+1
  ·rw [e]
  ·rw [zFf (k m (by omega) (by omega))]
   exact zIv (by omega) fun i h1 h2=>k i h1 (by omega)
theorem zIw {a b:List Bool}:∀ {n:Nat},(∀ i,i < n→a.getD i false=b.getD i false)→zAs a n=zAs b n
 | 0,_=>rfl
 | n+1,h=>by
  have ih:=zIw (n:=n) fun i hi=>h i (by omega)
  cases e:a.getD n false with
  | true=>rw [zEr e,zEr (by rw [←h n (by omega)]; exact e),ih]
  | false=>rw [zFf e,zFf (by rw [←h n (by omega)]; exact e),ih]
section
variable {W:List (Crg×Crg)} {may:Crg→Bool} {n:Nat} {frm:Int}
theorem zJ9 (hw:zIB W n) (h0:0≤frm) (h1:frm < n) {y:Int} (h:Rch W may frm y):0≤y∧y < n:=by
 cases h with
 | here=>exact⟨h0,h1⟩
 | far _ hc _=>exact(hw _ (zJd hc).1).2
theorem zI2 (hto:ToOk W) (hw:zIB W n) (hn:n≤40) (h0:0≤frm) (h1:frm < n) {L:List TrkR} (hb:Best W may n frm (trkL L)):zAs (thrB L) n=zAs (zze W may frm) 40:=by
 have key:∀ i:Nat,i < n→(thrB L).getD i false=(zze W may frm).getD i false:=fun i hi=>by
  rw [zJl,←zIe]
  have e1:=zJr hb hi
  have e2:=zIF (may:=may) hto h0 (show frm < 40 by omega) (x:=i)
  cases ha:((trkL L).getD i default).there with
  | true=>exact(e2.2 (e1.1 ha)).symm
  | false=>
   cases hc:(zze W may frm).getD i false with
   | false=>rfl
   | true=>rw [e1.2 (e2.1 hc)] at ha; cases ha
 rw [zIw key]
 refine zIv hn fun i h2 h3=>?_
 cases hc:(zze W may frm).getD i false with
 | false=>rfl
 | true=>
  have:=zJ9 hw h0 h1 ((zIF hto h0 (show frm < 40 by omega) (x:=i)).1 hc)
  omega
end
section
variable {S:List ShC} {V:List WlC} {bs:List Bdr} {x:Anm}
theorem zJt {b:Bdr} {n:Nat} (hn:n < (opB S V b).length):((mayB S V x b false n).2&&(mayB S V x b true n).2)=((zBN S V x b ((opB S V b).getD n default)).1&&(zBN S V x b ((opB S V b).getD n default)).2):=by
 unfold mayB
 have hn2:n < (zaN S V b.wall).s.opens.length:=hn
 rw [zHi hn2,zHi hn2]; rfl
end
end Go.Fld
namespace Go.Proofs.YteepmmghanbllaaGreatDoor
open Go.K Go.Stn Go.Pln Go.Fld Go.RowKit
theorem zJN:FO Tryz.prog 130 0 0:=fK
theorem zJO:FO Tryz.prog 130 1 1:=fK
theorem se49:SE Tryz.prog 49 130 2:=⟨Tryz.underlying49,by kernel_rfl⟩
theorem se52:SE Tryz.prog 52 141 2:=⟨Tryz.underlying52,by kernel_rfl⟩
theorem af52:AF Tryz.prog 52 141 2 16 [.int .i64 0,.int .i64 0]:=⟨Tryz.underlying52,by kernel_rfl,rfl⟩
theorem en38:En Tryz.prog 38:=eK Tryz.func38
theorem zJC (x0_0 x0_1:Int) (w:World):(Instr.buildSlice 52 1 #[(0,.agg #[.int .i64 x0_0,.int .i64 x0_1])]).run Tryz.prog w=.ok (.slice (some ⟨w.heap.size,0,none⟩) 1 1) (w.alloc (.cells (([⟨x0_0,x0_1⟩]:List (Int×Int)).flatMap zyQ).toArray 141)):=by kernel_rfl
theorem zJy (a:Option Addr) (cap:Nat) (b:Option Addr) (bcap:Nat) (l:List (Int×Int)) (w:World) (hl:Has w (zaW a 2 zyQ l)) (hm:Has w (zaW b 2 zyQ l)) (hs:zaP l.length) :
  Calls Tryz.prog 19 #[.slice a l.length cap,.slice b l.length bcap] w (Pure (.bool true) w):=by
 refine zan (vs:=[_,_]) Tryz.func19 rfl rfl (bL rfl) (gS (gA rfl (gN [0,1,4] rfl (zac (gS (gM rfl (gQ (zaV (Tryz.underlying49) rfl) (gM rfl (gQ (zaV (Tryz.underlying52) rfl) (gQ (zcr rfl rfl) (gN [0,1,4,10] rfl (zap rfl (fun hc10=>?_) (fun hc10=>?_)))))))))))))
 ·exfalso; simp at hc10
 ·simp only [nF,dT] at hc10
  refine zaq (zac (gS (gA rfl (gN [0,1,4,5] rfl (zas (zbf (X:=Int) (fun(i:Int)=>[(0,.slice a l.length cap),(1,.slice b l.length bcap),(4,.bool false),(5,.int .i64 i)]) (fun(i:Int)=>[]) (fun(i:Int)=>(0≤i∧i≤l.length)) (fun(i:Int)=>(l.length - i).toNat) 0 ⟨rfl,rfl,rfl,rfl,trivial⟩ rfl ?_ ?_))))))
  ·exact⟨by omega,by omega⟩
  ·rintro i hI
   obtain⟨g0,g1⟩:=hI
   refine zac (gS (gM rfl (gM rfl (gQ (zaV (Tryz.underlying49) rfl) (gQ (zbw rfl rfl) (gN [0,1,4,5,14] rfl (zap rfl (fun hc14=>?_) (fun hc14=>?_))))))))
   ·have hc14:=oT hc14
    refine zaq (zac (zas (zac (gZ 24 (ph_y (zaf rfl) (ph_y (zaf rfl) (ph_y (zaE se49 rfl rfl (fun _=>rH hl)) (ph_y (zbh zJN rfl (fun w hw=>zaO (i:=i) (rH hl hw))) (ph_y (zbn tf3 rfl (fun _=>rH hl) (by omega) (by omega) rfl) (ph_y (zaf rfl) (ph_y (zaf rfl) (ph_y (zaE se52 rfl rfl (fun _=>rH hm)) (ph_y (zzw 0 zEy rfl rfl rfl (by decide) (fun w hw=>zaO (i:=i) (rH hm hw))) (ph_y (zbn tf3 rfl (fun _=>rH hm) (by omega) (by omega) rfl) (ph_y (zcr rfl rfl) (ph_y (zaf rfl) (zaz rfl rfl (fun jj=>by(try rw [jj]); exact zaf rfl) (zaz rfl rfl (fun jj=>by(try rw [jj]); exact zaf rfl) (zaz rfl rfl (fun jj=>by(try rw [jj]); exact zaE se49 rfl rfl (fun _=>rH hl)) (zaz rfl rfl (fun jj=>by(try rw [jj]); exact zbh zJO rfl (fun w hw=>zaO (i:=i) (rH hl hw))) (zaz rfl rfl (fun jj=>by(try rw [jj]); exact zbn tf3 rfl (fun _=>rH hl) (by omega) (by omega) rfl) (zaz rfl rfl (fun jj=>by(try rw [jj]); exact zaf rfl) (zaz rfl rfl (fun jj=>by(try rw [jj]); exact zaf rfl) (zaz rfl rfl (fun jj=>by(try rw [jj]); exact zaE se52 rfl rfl (fun _=>rH hm)) (zaz rfl rfl (fun jj=>by(try rw [jj]); exact zzw 1 zEy rfl rfl rfl (by decide) (fun w hw=>zaO (i:=i) (rH hm hw))) ?_)))))))))))))))))))))))))
    refine zaz rfl rfl (fun jj=>by(try rw [jj]); exact zbn tf3 rfl (fun _=>rH hm) (by omega) (by omega) rfl) (zaz rfl rfl (fun jj=>by(try rw [jj]); exact zcr rfl rfl) (ph_y (zaR rfl rfl rfl) (gN [0,1,4,5,40] rfl (zap rfl (fun hc40=>?_) (fun hc40=>?_)))))
    ·exfalso; simp at hc40
    ·simp only [oF,nF,dT] at hc40
     refine zaq (zaa (gM rfl (gQ (zaY rfl rfl) (gA rfl (gN [0,1,4,5] rfl ?_)))))
     exact za1 (i+1) ⟨rfl,rfl,rfl,rfl,trivial⟩ rfl ⟨by omega,by omega⟩ (by omega)
   ·have hc14:=oD hc14
    refine za8 rfl (gS (gA rfl (gN [4] rfl (zaw (zay (zaC rfl (zau rfl)) ?_)))))
    rfl
theorem zJ0 (a:Option Addr) (cap:Nat) (b:Option Addr) (bcap:Nat) (l:List Int) (w:World) (hl:Has w (Ints a l)) (hm:Has w (Ints b l)) (hs:zaP l.length) :
  Calls Tryz.prog 21 #[.slice a l.length cap,.slice b l.length bcap] w (Pure (.bool true) w):=by
 refine zan (vs:=[_,_]) Tryz.func21 rfl rfl (bL rfl) (gS (gA rfl (gN [0,1,4] rfl (zac (gS (gM rfl (gQ (zaV (Tryz.underlying45) rfl) (gM rfl (gQ (zaV (Tryz.underlying45) rfl) (gQ (zcr rfl rfl) (gN [0,1,4,10] rfl (zap rfl (fun hc10=>?_) (fun hc10=>?_)))))))))))))
 ·exfalso; simp at hc10
 ·simp only [nF,dT] at hc10
  refine zaq (zac (gS (gA rfl (gN [0,1,4,5] rfl (zas (zbf (X:=Int) (fun(i:Int)=>[(0,.slice a l.length cap),(1,.slice b l.length bcap),(4,.bool false),(5,.int .i64 i)]) (fun(i:Int)=>[]) (fun(i:Int)=>(0≤i∧i≤l.length)) (fun(i:Int)=>(l.length - i).toNat) 0 ⟨rfl,rfl,rfl,rfl,trivial⟩ rfl ?_ ?_))))))
  ·exact⟨by omega,by omega⟩
  ·rintro i hI
   obtain⟨g0,g1⟩:=hI
   refine zac (gS (gM rfl (gM rfl (gQ (zaV (Tryz.underlying45) rfl) (gQ (zbw rfl rfl) (gN [0,1,4,5,14] rfl (zap rfl (fun hc14=>?_) (fun hc14=>?_))))))))
   ·have hc14:=oT hc14
    refine zaq (zac (zas (zac (gZ 9 (ph_y (zaf rfl) (ph_y (zaf rfl) (ph_y (zaE se45 rfl rfl (fun _=>rH hl)) (ph_y (zcE tf3 rfl (fun _=>rH hl) (by omega) (by omega) rfl) (ph_y (zaf rfl) (ph_y (zaf rfl) (ph_y (zaE se45 rfl rfl (fun _=>rH hm)) (ph_y (zcE tf3 rfl (fun _=>rH hm) (by omega) (by omega) rfl) (ph_y (zcr rfl rfl) (gN [0,1,4,5,25] rfl (zap rfl (fun hc25=>?_) (fun hc25=>?_))))))))))))))))
    ·exfalso; simp at hc25
    ·simp only [nF,dT] at hc25
     refine zaq (zaa (gM rfl (gQ (zaY rfl rfl) (gA rfl (gN [0,1,4,5] rfl ?_)))))
     exact za1 (i+1) ⟨rfl,rfl,rfl,rfl,trivial⟩ rfl ⟨by omega,by omega⟩ (by omega)
   ·have hc14:=oD hc14
    refine za8 rfl (gS (gA rfl (gN [4] rfl (zaw (zay (zaC rfl (zau rfl)) ?_)))))
    rfl
theorem zJg (a:Option Addr) (cap:Nat) (S:List ShC) (b:Option Addr) (bcap:Nat) (V:List WlC) (ca:Option Addr) (ccap:Nat) (cs:List ByteArray) (ba:Option Addr) (bcp:Nat) (bs:List Bdr) (x:Anm) (w:World) (hl:Has w (zaW a 20 zbH S)) (hs:zaP S.length) (hcS:S.length≤cap) (hlw:Has w (zaW b 4 zbS V)) (hsw:zaP V.length) (hsh:∀ z∈S,Has w (Ints z.a z.s.heights)) (hss:∀ z∈S,zaP z.s.heights.length) (hwo:∀ z∈V,Has w (zaW z.a 5 zba z.s.opens)) (hsv:∀ z∈V,zaP z.s.opens.length) (hcp:∀ z∈V,z.s.opens.length≤z.cap) (hkn:∀ z∈V,∀ o∈z.s.opens,Knd o) (hc:Has w (zaW ca 1 encS cs)) (hcs:zaP cs.length) (hcap:cs.length≤ccap) (hbd:Has w (zaW ba 6 zyr bs)) (hbs:zaP bs.length) (hok:(zym S V cs bs x)=true) :
  Calls Tryz.prog 18 #[.agg #[.slice a S.length cap,.slice b V.length bcap],.agg #[.slice ca cs.length ccap,.slice ba bs.length bcp],.agg #[.int .i64 x.wide,.int .i64 x.high,.int .i64 x.step,.int .i64 x.leap,.int .i64 x.reach]] w (zcU (fun z:(Option Addr×Nat)×(Option Addr×Nat)=>.tuple #[.slice z.1.1 (smN S V bs x true bs.length).length z.1.2,.slice z.2.1 (smN S V bs x false bs.length).length z.2.2]) (fun z=>SepR [Row z.1.1 2 z.1.2 141 zyQ (smN S V bs x true bs.length),Row z.2.1 2 z.2.2 141 zyQ (smN S V bs x false bs.length)]) w):=by
 obtain⟨_,_,hbn,_,_,hbo⟩:=zzD hok
 refine zan (vs:=[_,_,_]) Tryz.func18 rfl rfl (bL rfl) (gS (zaG rfl rfl (za3 (vs:=[_,_]) rfl rfl) fun b3=>(zaG rfl rfl (za3 (vs:=[_,_]) rfl rfl) fun b4=>(zaG rfl rfl (za3 (vs:=[_,_,_,_,_]) rfl rfl) fun b5=>(gA rfl (gA rfl (gN [3,4,5,6,7] rfl (gS (gA rfl (gA rfl (gN [3,4,5,6,7,8,9] rfl (zac (gS (gA rfl (gN [3,4,5,6,7,8,9,10] rfl (zas (zbB 141 zyQ 2 (zbB 141 zyQ 2 ?_))))))))))))))))))
 refine zbf (X:=Int×(Option Addr×Nat×List (Int×Int))×(Option Addr×Nat×List (Int×Int))) (fun⟨i,⟨ra,rc,N⟩,⟨ea,ec,M⟩⟩=>[(3,.pointer (some ⟨b3,0,none⟩)),(4,.pointer (some ⟨b4,0,none⟩)),(5,.pointer (some ⟨b5,0,none⟩)),(6,.slice none 0 0),(7,.slice none 0 0),(8,.slice ra N.length rc),(9,.slice ea M.length ec),(10,.int .i64 i)]) (fun⟨i,⟨ra,rc,N⟩,⟨ea,ec,M⟩⟩=>[Row ea 2 ec 141 zyQ M,Row ra 2 rc 141 zyQ N,Box b5 [.int .i64 x.wide,.int .i64 x.high,.int .i64 x.step,.int .i64 x.leap,.int .i64 x.reach] 31,Box b4 [.slice ca cs.length ccap,.slice ba bs.length bcp] 29,Box b3 [.slice a S.length cap,.slice b V.length bcap] 25]) (fun⟨i,⟨ra,rc,N⟩,⟨ea,ec,M⟩⟩=>((0≤i∧i≤bs.length)∧(N.length≤i.toNat*100∧M.length≤i.toNat*100)∧N=smN S V bs x true i.toNat∧M=smN S V bs x false i.toNat)) (fun⟨i,⟨ra,rc,N⟩,⟨ea,ec,M⟩⟩=>(bs.length - i).toNat) (0,(none,0,[]),(none,0,[])) (sB rfl) rfl ?_ ?_
 ·exact⟨⟨by omega,by omega⟩,⟨by simp,by simp⟩,rfl,rfl⟩
 ·rintro ⟨i,⟨ra,rc,N⟩,⟨ea,ec,M⟩⟩ hI
  obtain⟨⟨g0,g1⟩,⟨g2,g3⟩,g4,g5⟩:=hI
  refine zac (gS (gM rfl (gQ (zab zzL rfl) (gQ (zah 3 tf27 rfl rfl rfl) (gQ (zaV (Tryz.underlying27) rfl) (gQ (zbw rfl rfl) (gN [3,4,5,6,7,8,9,10,22] rfl (zap rfl (fun hc22=>?_) (fun hc22=>?_)))))))))
  ·have hc22:=oT hc22
   have hbrd:=hbo i.toNat (by omega)
   have hf:=(zzq hbrd).1
   obtain⟨hG1,hG2⟩:=zBh hbrd
   have hnums:=hG1.nums
   have hgg1:=hG1.g
   have hgg2:=hG2.g
   have hwo1:=zfL (S:=S) (V:=V) (n:=(bs.getD i.toNat default).wall) hwo
   have hss1:=zhG (S:=S) (V:=V) (n:=(bs.getD i.toNat default).wall) hsh
   obtain⟨hsvw,hsss⟩:=zxT (n:=(bs.getD i.toNat default).wall) hsv hss
   have hon:=hG1.wf.num
   refine zaq (zac (zas (zac (zCs [] (ch [(10,Nat),(11,Nat)]) 1000 14 [0,0,2,0,14,30,63,127,255,255,0,0,3583,8191] [] rfl (fun _=>mixed) (by kernel_rfl) (zjK _ ⟨inferInstance,inferInstance,trivial⟩) (pY (fun ρ=>zat 4 tf25 rfl rfl (vs:=[_,_]) rfl rfl) (pY (fun ρ=>zab zzL rfl) (pY (fun ρ=>zah 3 tf27 rfl rfl rfl) (pY (fun ρ=>zaf rfl) (pY (fun ρ=>zaE se27 rfl rfl (fun _=>rH hbd)) (pY (fun ρ=>zbv (vs:=[_,_,_,_,_,_]) zAU rfl (fun _=>rH hbd) (by omega) (by omega) rfl) (pY (fun ρ=>zaJ en52 rfl (fun w hw=>zEe _ _ S _ _ V (bs.getD i.toNat default) w (rH hl hw) hs hcS (rH hlw hw) hsw (fun z hz=>(rH (hsh z hz) hw)) hss (fun z hz=>(rH (hwo z hz) hw)) hsv hcp hkn hf)) (pY (fun ρ=>zaf rfl) (pY (fun ρ=>zaB rfl rfl) (pY (fun ρ=>zaB rfl rfl) (zFy (fun ρ=>zaL zAk (zs:=[_,_,_,_]) rfl) (fun ρ ρ' h=>⟨by rfl,by rfl⟩) (zFy (fun ρ=>zaL zzu (zs:=[_,_,_,_,_,_,_,_,_,_,_,_,_,_,_,_,_,_,_,_]) rfl) (fun ρ ρ' h=>⟨by rfl,by rfl⟩) ?_))))))))))))))))
   refine zIb (R:=fun ρ=>Box (ρ 10) [.string ⟨#[]⟩,.string ⟨#[]⟩,.int .i64 0,.slice none 0 0] 134) (A:=fun ρ=>Box (ρ 10) (wV ((zaN S V (bs.getD i.toNat default).wall).s) ((zaN S V (bs.getD i.toNat default).wall).a) ((zaN S V (bs.getD i.toNat default).wall).cap)) 134) 10 rfl rfl (fun _=>rfl) (fun ρ=>zex zAk rfl rfl (vs:=[_,_,_,_]) rfl rfl rfl rfl rfl) (fun ρ ρ' h=>by(first | rfl | (simp only [h 10 rfl]; done) | (simp only [h 10 rfl]; rfl))) (zIb (R:=fun ρ=>Box (ρ 11) [.string ⟨#[]⟩,.int .i64 0,.int .i64 0,.int .i64 0,.int .i64 0,.slice none 0 0,.int .i64 0,.int .i64 0,.int .i64 0,.int .i64 0,.int .i64 0,.int .i64 0,.int .i64 0,.int .u8 0,.int .i64 0,.int .i64 0,.int .i64 0,.int .i64 0,.int .i64 0,.int .i64 0] 135) (A:=fun ρ=>Box (ρ 11) (sV ((zar S V (bs.getD i.toNat default).wall).s) ((zar S V (bs.getD i.toNat default).wall).a) ((zar S V (bs.getD i.toNat default).wall).cap)) 135) 11 rfl rfl (fun _=>rfl) (fun ρ=>zex zzu rfl rfl (vs:=[_,_,_,_,_,_,_,_,_,_,_,_,_,_,_,_,_,_,_,_]) rfl rfl rfl rfl rfl) (fun ρ ρ' h=>by(first | rfl | (simp only [h 11 rfl]; done) | (simp only [h 11 rfl]; rfl))) ?_)
   refine fun ρ=>zag (zf4 (X:=Nat×Nat) (ρ 10,ρ 11) (fun⟨b11,b12⟩=>[(3,.pointer (some ⟨b3,0,none⟩)),(4,.pointer (some ⟨b4,0,none⟩)),(5,.pointer (some ⟨b5,0,none⟩)),(6,.slice none 0 0),(7,.slice none 0 0),(8,.slice ra N.length rc),(9,.slice ea M.length ec),(10,.int .i64 i),(11,.pointer (some ⟨b11,0,none⟩))]) (fun⟨b11,b12⟩=>[Box b12 (sV ((zar S V (bs.getD i.toNat default).wall).s) ((zar S V (bs.getD i.toNat default).wall).a) ((zar S V (bs.getD i.toNat default).wall).cap)) 135,Box b11 (wV ((zaN S V (bs.getD i.toNat default).wall).s) ((zaN S V (bs.getD i.toNat default).wall).a) ((zaN S V (bs.getD i.toNat default).wall).cap)) 134,Row ea 2 ec 141 zyQ M,Row ra 2 rc 141 zyQ N,Box b5 [.int .i64 x.wide,.int .i64 x.high,.int .i64 x.step,.int .i64 x.leap,.int .i64 x.reach] 31,Box b4 [.slice ca cs.length ccap,.slice ba bs.length bcp] 29,Box b3 [.slice a S.length cap,.slice b V.length bcap] 25]) (sB rfl) rfl ?_)
   rintro ⟨b11,b12⟩
   refine gS (gA rfl (gN [3,4,5,6,7,8,9,10,11,13] rfl (zas ?_)))
   refine zbf (X:=Int×(Option Addr×Nat×List (Int×Int))×(Option Addr×Nat×List (Int×Int))) (fun⟨k,⟨qa,qc,Q⟩,⟨ta,tc,T⟩⟩=>[(3,.pointer (some ⟨b3,0,none⟩)),(4,.pointer (some ⟨b4,0,none⟩)),(5,.pointer (some ⟨b5,0,none⟩)),(6,.slice none 0 0),(7,.slice none 0 0),(8,.slice qa Q.length qc),(9,.slice ta T.length tc),(10,.int .i64 i),(11,.pointer (some ⟨b11,0,none⟩)),(13,.int .i64 k)]) (fun⟨k,⟨qa,qc,Q⟩,⟨ta,tc,T⟩⟩=>[Box b12 (sV ((zar S V (bs.getD i.toNat default).wall).s) ((zar S V (bs.getD i.toNat default).wall).a) ((zar S V (bs.getD i.toNat default).wall).cap)) 135,Box b11 (wV ((zaN S V (bs.getD i.toNat default).wall).s) ((zaN S V (bs.getD i.toNat default).wall).a) ((zaN S V (bs.getD i.toNat default).wall).cap)) 134,Row ta 2 tc 141 zyQ T,Row qa 2 qc 141 zyQ Q,Box b5 [.int .i64 x.wide,.int .i64 x.high,.int .i64 x.step,.int .i64 x.leap,.int .i64 x.reach] 31,Box b4 [.slice ca cs.length ccap,.slice ba bs.length bcp] 29,Box b3 [.slice a S.length cap,.slice b V.length bcap] 25]) (fun⟨k,⟨qa,qc,Q⟩,⟨ta,tc,T⟩⟩=>((0≤k∧k≤(zaN S V (bs.getD i.toNat default).wall).s.opens.length)∧(Q.length≤i.toNat*100+k.toNat∧T.length≤i.toNat*100+k.toNat)∧Q=(smN S V bs x true i.toNat++smB S V x (bs.getD i.toNat default) i.toNat true k.toNat)∧T=(smN S V bs x false i.toNat++smB S V x (bs.getD i.toNat default) i.toNat false k.toNat))) (fun⟨k,⟨qa,qc,Q⟩,⟨ta,tc,T⟩⟩=>((zaN S V (bs.getD i.toNat default).wall).s.opens.length - k).toNat) (0,(ra,rc,N),(ea,ec,M)) (sB rfl) rfl ?_ ?_
   ·exact⟨⟨by omega,by omega⟩,⟨by omega,by omega⟩,by rw [g4]; exact(List.append_nil _).symm,by rw [g5]; exact(List.append_nil _).symm⟩
   ·rintro ⟨k,⟨qa,qc,Q⟩,⟨ta,tc,T⟩⟩ hI
    obtain⟨⟨h0,h1⟩,⟨h2,h3⟩,h4,h5⟩:=hI
    refine zac (gS (gM rfl (gQ (zab zyN rfl) (gQ (zah 1 zAj rfl rfl rfl) (gQ (zaV (Tryz.underlying132) rfl) (gQ (zbw rfl rfl) (gN [3,4,5,6,7,8,9,10,11,13,39] rfl (zap rfl (fun hc39=>?_) (fun hc39=>?_)))))))))
    ·have hc39:=oT hc39
     have hfm:(((mayB S V x (bs.getD i.toNat default) false k).2&&(mayB S V x (bs.getD i.toNat default) true k).2))=((zBN S V x (bs.getD i.toNat default) ((opB S V (bs.getD i.toNat default)).getD k.toNat default)).1&&(zBN S V x (bs.getD i.toNat default) ((opB S V (bs.getD i.toNat default)).getD k.toNat default)).2):=by have h:=zJt (S:=S) (V:=V) (x:=x) (b:=(bs.getD i.toNat default)) (n:=k.toNat) (by show k.toNat < (zaN S V (bs.getD i.toNat default).wall).s.opens.length; omega); rwa [tN h0] at h
     refine zaq (zac (zas (zac (gS (gQ (zab zyN rfl) (gQ (zah 1 zAj rfl rfl rfl) (gM rfl (gQ (zaE zEf rfl rfl (fun _=>rH hwo1)) (gQ (zbh zzr rfl (fun w hw=>zaO (i:=k) (rH hwo1 hw))) (gQ (zbn tf5 rfl (fun _=>rH hwo1) (by omega) (by omega) rfl) (gQ (zcr rfl rfl) (gN [3,4,5,6,7,8,9,10,11,13,48] rfl (zap rfl (fun hc48=>?_) (fun hc48=>?_))))))))))))))
     ·have hk1:decide (((opB S V (bs.getD i.toNat default)).getD k.toNat default).kind=1)=false:=by have h:=hc48; rw [nT] at h; exact h
      have hta:smT S V x (bs.getD i.toNat default) k.toNat true=false:=by unfold smT; rw [hk1]; rfl
      have htb:smT S V x (bs.getD i.toNat default) k.toNat false=false:=by unfold smT; rw [hk1]; rfl
      refine za8 rfl (zaa (gM rfl (gQ (zaY rfl rfl) (gA rfl (gN [3,4,5,6,7,8,9,10,11,13] rfl ?_)))))
      exact za1 (k+1,(_,_,_),(_,_,_)) (sB rfl) rfl ⟨⟨by omega,by omega⟩,⟨by first | omega | (rw [lA]; simp only [lC,lN]; omega),by first | omega | (rw [lA]; simp only [lC,lN]; omega)⟩,by rw [show(k+1).toNat=k.toNat+1 from by omega]; first | rw [zAh hta,tN g0,tN h0,←List.append_assoc,←h4] | rw [zBc hta,←h4],by rw [show(k+1).toNat=k.toNat+1 from by omega]; first | rw [zAh htb,tN g0,tN h0,←List.append_assoc,←h5] | rw [zBc htb,←h5]⟩ (by simp only []; omega)
     ·have hk1:decide (((opB S V (bs.getD i.toNat default)).getD k.toNat default).kind=1)=true:=by have h:=hc48; rw [nF] at h; exact h
      have e1:∀ want,smT S V x (bs.getD i.toNat default) k.toNat want=(((mayB S V x (bs.getD i.toNat default) false k).2&&(mayB S V x (bs.getD i.toNat default) true k).2) == want):=fun want=>by unfold smT; rw [hk1,hfm]; rfl
      refine zaq (gS (gQ (zat 6 tf25 rfl rfl (vs:=[_,_]) rfl rfl) (gQ (zat 5 tf29 rfl rfl (vs:=[_,_]) rfl rfl) (gQ (zat 4 tf31 rfl rfl (vs:=[_,_,_,_,_]) rfl rfl) (gM rfl (gM rfl (gQ (zaJ en53 rfl (fun w hw=>zFz _ _ S _ _ V _ _ cs _ _ bs x i false k w (rH hl hw) hs hcS (rH hlw hw) hsw (fun z hz=>(rH (hsh z hz) hw)) hss (fun z hz=>(rH (hwo z hz) hw)) hsv hcp hkn (rH hc hw) hcs hcap (rH hbd hw) hbs hok g0 (by omega))) (gM rfl (gQ (zaB rfl rfl) (gQ (zaB rfl rfl) (gA rfl (gA rfl (gN [3,4,5,6,7,8,9,10,11,13,15] rfl (gS (gQ (zat 6 tf25 rfl rfl (vs:=[_,_]) rfl rfl) (gQ (zat 5 tf29 rfl rfl (vs:=[_,_]) rfl rfl) (gQ (zat 4 tf31 rfl rfl (vs:=[_,_,_,_,_]) rfl rfl) (gM rfl (gM rfl (gQ (zaJ en53 rfl (fun w hw=>zFz _ _ S _ _ V _ _ cs _ _ bs x i true k w (rH hl hw) hs hcS (rH hlw hw) hsw (fun z hz=>(rH (hsh z hz) hw)) hss (fun z hz=>(rH (hwo z hz) hw)) hsv hcp hkn (rH hc hw) hcs hcap (rH hbd hw) hbs hok g0 (by omega))) (gM rfl (gQ (zaB rfl rfl) (gQ (zaB rfl rfl) (gA rfl (gA rfl (gN [3,4,5,6,7,8,9,10,11,13,15,17] rfl (zac (gZ 4 (ph_y (zaf rfl) (ph_y (zaf rfl) (zaH rfl rfl (fun jj=>by(try rw [jj]); exact zaf rfl) (ph_y (zaX rfl rfl rfl) ?_))))))))))))))))))))))))))))))))
      refine gN [3,4,5,6,7,8,9,10,11,13,70] rfl (zap rfl (fun hc70=>?_) (fun hc70=>?_))
      ·have hta:=(e1 true).trans (by rw [hc70])
       have htb:=(e1 false).trans (by rw [hc70])
       refine zaa (gM rfl (gM rfl (gM rfl (gQ (zaI rfl (zAB _ _)) (zaG rfl rfl (zaD rfl (zJC _ _) zyJ rfl) fun b75=>(zb4 (m:=[(⟨i,k⟩:Int×Int)]) 4 af52 zyJ rfl rfl rfl rfl (fun _ hw=>(zam zyJ (hw.has (p:=0) rfl))) (by first | omega | (simp only [lC,lN]; omega)) (by first | (unfold maxLen; omega) | (simp only [lC,lN,maxLen]; omega)) fun a76 c76=>(gA rfl (gN [3,4,5,6,7,8,9,10,11,13] rfl (zaa (gM rfl (gQ (zaY rfl rfl) (gA rfl (gN [3,4,5,6,7,8,9,10,11,13] rfl (zaK 0 rfl ?_))))))))))))))
       exact za1 (k+1,(_,_,_),(_,_,_)) (sB rfl) rfl ⟨⟨by omega,by omega⟩,⟨by first | omega | (rw [lA]; simp only [lC,lN]; omega),by first | omega | (rw [lA]; simp only [lC,lN]; omega)⟩,by rw [show(k+1).toNat=k.toNat+1 from by omega]; first | rw [zAh hta,tN g0,tN h0,←List.append_assoc,←h4] | rw [zBc hta,←h4],by rw [show(k+1).toNat=k.toNat+1 from by omega]; first | rw [zAh htb,tN g0,tN h0,←List.append_assoc,←h5] | rw [zBc htb,←h5]⟩ (by simp only []; omega)
      ·have hta:=(e1 true).trans (by rw [hc70])
       have htb:=(e1 false).trans (by rw [hc70])
       refine zaa (gM rfl (gM rfl (gM rfl (gQ (zaI rfl (zAB _ _)) (zaG rfl rfl (zaD rfl (zJC _ _) zyJ rfl) fun b81=>(zb4 (m:=[(⟨i,k⟩:Int×Int)]) 3 af52 zyJ rfl rfl rfl rfl (fun _ hw=>(zam zyJ (hw.has (p:=0) rfl))) (by first | omega | (simp only [lC,lN]; omega)) (by first | (unfold maxLen; omega) | (simp only [lC,lN,maxLen]; omega)) fun a82 c82=>(gA rfl (gN [3,4,5,6,7,8,9,10,11,13] rfl (zaa (gM rfl (gQ (zaY rfl rfl) (gA rfl (gN [3,4,5,6,7,8,9,10,11,13] rfl (zaK 0 rfl ?_))))))))))))))
       exact za1 (k+1,(_,_,_),(_,_,_)) (sB rfl) rfl ⟨⟨by omega,by omega⟩,⟨by first | omega | (rw [lA]; simp only [lC,lN]; omega),by first | omega | (rw [lA]; simp only [lC,lN]; omega)⟩,by rw [show(k+1).toNat=k.toNat+1 from by omega]; first | rw [zAh hta,tN g0,tN h0,←List.append_assoc,←h4] | rw [zBc hta,←h4],by rw [show(k+1).toNat=k.toNat+1 from by omega]; first | rw [zAh htb,tN g0,tN h0,←List.append_assoc,←h5] | rw [zBc htb,←h5]⟩ (by simp only []; omega)
    ·have hc39:=oD hc39
     have hnE:k.toNat=(opB S V (bs.getD i.toNat default)).length:=by show k.toNat=(zaN S V (bs.getD i.toNat default).wall).s.opens.length; omega
     have hu1:=zHn (S:=S) (V:=V) (bs:=bs) (x:=x) (want:=true) g0 hnE
     have hu2:=zHn (S:=S) (V:=V) (bs:=bs) (x:=x) (want:=false) g0 hnE
     refine za8 rfl (zaa (gM rfl (gQ (zaY rfl rfl) (gA rfl (gN [3,4,5,6,7,8,9,10] rfl (zaK 0 rfl (zaK 0 rfl ?_)))))))
     exact za1 (i+1,(_,_,_),(_,_,_)) (sB rfl) rfl ⟨⟨by omega,by omega⟩,⟨by omega,by omega⟩,by rw [hu1,h4],by rw [hu2,h5]⟩ (by simp only []; omega)
  ·have hc22:=oD hc22
   refine za8 rfl (gS (gM rfl (gM rfl (gA rfl (gA rfl (gN [6,7] rfl (zaw (zao 1 rfl (zbT 2 (zbd ((ra,rc),(ea,ec)) 0 (zc2 rfl (zau rfl) (zau rfl)) ?_ (by rw [g4,g5,show i.toNat=bs.length from by omega]; rfl)))))))))))
   rw [g4,g5,show i.toNat=bs.length from by omega]
theorem zI0 (a:Option Addr) (cap:Nat) (S:List ShC) (b:Option Addr) (bcap:Nat) (V:List WlC) (ca:Option Addr) (ccap:Nat) (cs:List ByteArray) (ba:Option Addr) (bcp:Nat) (bs:List Bdr) (x:Anm) (frm:Int) (w:World) (hl:Has w (zaW a 20 zbH S)) (hs:zaP S.length) (hcS:S.length≤cap) (hlw:Has w (zaW b 4 zbS V)) (hsw:zaP V.length) (hsh:∀ z∈S,Has w (Ints z.a z.s.heights)) (hss:∀ z∈S,zaP z.s.heights.length) (hwo:∀ z∈V,Has w (zaW z.a 5 zba z.s.opens)) (hsv:∀ z∈V,zaP z.s.opens.length) (hcp:∀ z∈V,z.s.opens.length≤z.cap) (hkn:∀ z∈V,∀ o∈z.s.opens,Knd o) (hc:Has w (zaW ca 1 encS cs)) (hcs:zaP cs.length) (hcap:cs.length≤ccap) (hbd:Has w (zaW ba 6 zyr bs)) (hbs:zaP bs.length) (hok:(zym S V cs bs x)=true) (h0:0≤frm) (h1:frm < cs.length) :
  Calls Tryz.prog 22 #[.agg #[.slice a S.length cap,.slice b V.length bcap],.agg #[.slice ca cs.length ccap,.slice ba bs.length bcp],.agg #[.int .i64 x.wide,.int .i64 x.high,.int .i64 x.step,.int .i64 x.leap,.int .i64 x.reach],.int .i64 frm] w (zcU (fun z:Option Addr×Nat=>.slice z.1 (zAs (zze (zyj S V bs x) allM frm) 40).length z.2) (fun z=>Row z.1 1 z.2 3 Go.Stn.encI (zAs (zze (zyj S V bs x) allM frm) 40)) w):=by
 obtain⟨_,hcs40,_,_,_,_⟩:=zzD hok
 refine zan (vs:=[_,_,_,_]) Tryz.func22 rfl rfl (bL rfl) (gS (zaG rfl rfl (za3 (vs:=[_,_]) rfl rfl) fun b4=>(zaG rfl rfl (za3 (vs:=[_,_]) rfl rfl) fun b5=>(zaG rfl rfl (za3 (vs:=[_,_,_,_,_]) rfl rfl) fun b6=>(gA rfl (gN [3,4,5,6,8] rfl (gS (gQ (zat 2 tf25 rfl rfl (vs:=[_,_]) rfl rfl) (gQ (zat 1 tf29 rfl rfl (vs:=[_,_]) rfl rfl) (gQ (zat 0 tf31 rfl rfl (vs:=[_,_,_,_,_]) rfl rfl) (gM rfl (zaG rfl rfl (zbm en38 rfl (fun w hw=>zJh _ _ S _ _ V _ _ cs _ _ bs x frm none 0 [] w (rH hl hw) hs hcS (rH hlw hw) hsw (fun z hz=>(rH (hsh z hz) hw)) hss (fun z hz=>(rH (hwo z hz) hw)) hsv hcp hkn (rH hc hw) hcs hcap (rH hbd hw) hbs hok h0 h1 zJQ (by simp [zaP]))) fun p16=>(gA rfl (gN [8,9] rfl ?_))))))))))))))
 obtain⟨ta,tc,L⟩:=p16
 refine zz4 fun hB=>zbP ?_
 have hB:Best (zyj S V bs x) (mayC []) cs.length frm (trkL L):=hB
 have hLl:L.length=cs.length:=by have h:=hB.len; rwa [lM] at h
 refine gS (gA rfl (gN [8,9,10] rfl (zac (gS (gA rfl (gN [8,9,10,11] rfl (zas (zbB 3 Go.Stn.encI 1 (zbf (X:=Int×Option Addr×Nat×List Int) (fun⟨i,ra,rc,N⟩=>[(8,.slice none 0 0),(9,.slice ta L.length tc),(10,.slice ra N.length rc),(11,.int .i64 i)]) (fun⟨i,ra,rc,N⟩=>[Row ra 1 rc 3 Go.Stn.encI N,Row ta 3 tc 95 zIf L,Go.K.Rows rowT L,Box b6 [.int .i64 x.wide,.int .i64 x.high,.int .i64 x.step,.int .i64 x.leap,.int .i64 x.reach] 31,Box b5 [.slice ca cs.length ccap,.slice ba bs.length bcp] 29,Box b4 [.slice a S.length cap,.slice b V.length bcap] 25]) (fun⟨i,ra,rc,N⟩=>((0≤i∧i≤L.length)∧N.length≤i.toNat∧N=zAs (thrB L) i.toNat)) (fun⟨i,ra,rc,N⟩=>(L.length - i).toNat) (0,none,0,[]) ⟨rfl,rfl,rfl,rfl,trivial⟩ rfl ?_ ?_)))))))))
 ·exact⟨⟨by omega,by omega⟩,by simp,rfl⟩
 ·rintro ⟨i,ra,rc,N⟩ hI
  obtain⟨g0,g1,g2⟩:=hI
  refine zac (gS (gM rfl (gM rfl (gQ (zaV (Tryz.underlying92) rfl) (gQ (zbw rfl rfl) (gN [8,9,10,11,20] rfl (zap rfl (fun hc20=>?_) (fun hc20=>?_))))))))
  ·have hc20:=oT hc20
   refine zaq (zac (zas (gS (gM rfl (gM rfl (gQ (zaE se92 rfl rfl (fun _ hw=>(zam zIc (hw.has (p:=1) rfl)))) (gQ (zbh zIt rfl (fun w hw=>zaO (i:=i) (zam zIc (hw.has (p:=1) rfl)))) (gQ (zbn tf4 rfl (fun _ hw=>(zam zIc (hw.has (p:=1) rfl))) (by omega) (by omega) rfl) (gN [8,9,10,11,27] rfl (zap rfl (fun hc27=>?_) (fun hc27=>?_)))))))))))
   ·have hst:=zEr (l:=thrB L) (n:=i.toNat) (by rw [zJl]; exact hc27)
    refine zaa (gM rfl (gM rfl (zaG rfl rfl (zaD rfl (zA3 _) Go.Stn.encI_ok rfl) fun b30=>(zb4 (m:=[i]) 1 af45 Go.Stn.encI_ok rfl rfl rfl rfl (fun _ hw=>(zam Go.Stn.encI_ok (hw.has (p:=0) rfl))) (by first | omega | (simp only [lC,lN]; omega)) (by first | (unfold maxLen; omega) | (simp only [lC,lN,maxLen]; omega)) fun a31 c31=>(gA rfl (gN [8,9,10,11] rfl (zaa (gM rfl (gQ (zaY rfl rfl) (gA rfl (gN [8,9,10,11] rfl (zaK 0 rfl ?_))))))))))))
    exact za1 (i+1,_,_,_) ⟨rfl,rfl,rfl,rfl,trivial⟩ rfl ⟨⟨by omega,by omega⟩,by first | omega | (rw [lA]; simp only [lC,lN]; omega),by rw [show(i+1).toNat=i.toNat+1 from by omega,hst,←g2] <;> first | rfl | rw [tN g0.1]⟩ (by simp only []; omega)
   ·have hst:=zFf (l:=thrB L) (n:=i.toNat) (by rw [zJl]; exact hc27)
    refine zaq (zaa (gM rfl (gQ (zaY rfl rfl) (gA rfl (gN [8,9,10,11] rfl ?_)))))
    exact za1 (i+1,_,_,_) ⟨rfl,rfl,rfl,rfl,trivial⟩ rfl ⟨⟨by omega,by omega⟩,by first | omega | (rw [lA]; simp only [lC,lN]; omega),by rw [show(i+1).toNat=i.toNat+1 from by omega,hst,←g2] <;> first | rfl | rw [tN g0.1]⟩ (by simp only []; omega)
  ·have hc20:=oD hc20
   have hN:N=zAs (zze (zyj S V bs x) allM frm) 40:=by rw [g2,show i.toNat=cs.length from by omega]; exact zI2 (zFe hok) (zIr hok) hcs40.2 h0 h1 hB
   refine za8 rfl (gS (gM rfl (gA rfl (gN [8] rfl (zaw (zbd (ra,rc) 0 (zaC rfl (zau rfl)) ?_ (by rw [hN]; rfl)))))))
   rw [hN]
theorem en18:En Tryz.prog 18:=eK Tryz.func18
theorem en19:En Tryz.prog 19:=eK Tryz.func19
theorem en21:En Tryz.prog 21:=eK Tryz.func21
theorem en22:En Tryz.prog 22:=eK Tryz.func22
theorem zIE (a:Option Addr) (cap:Nat) (b:Option Addr) (bcap:Nat) (l m:List (Int×Int)) (w:World) (hl:Has w (zaW a 2 zyQ l)) (hm:Has w (zaW b 2 zyQ m)) (e:l=m) (hs:zaP m.length):Calls Tryz.prog 19 #[.slice a l.length cap,.slice b m.length bcap] w (Pure (.bool true) w):=by
 subst e; exact zJy a cap b bcap l w hl hm hs
theorem zJR (a:Option Addr) (cap:Nat) (b:Option Addr) (bcap:Nat) (l m:List Int) (w:World) (hl:Has w (Ints a l)) (hm:Has w (Ints b m)) (e:l=m) (hs:zaP m.length):Calls Tryz.prog 21 #[.slice a l.length cap,.slice b m.length bcap] w (Pure (.bool true) w):=by
 subst e; exact zJ0 a cap b bcap l w hl hm hs
theorem zJi {S:List ShC} {V:List WlC} {cs:List ByteArray} {bs:List Bdr} {x:Anm} (hok:zym S V cs bs x=true) (want:Bool):∀ n,n≤bs.length→(smN S V bs x want n).length≤n*100
 | 0,_=>Nat.zero_le _
 | n+1,h=>by
  have ih:=zJi hok want n (by omega)
  obtain⟨_,_,_,_,_,hb⟩:=zzD hok
  have hw:=(zBh (hb n (by omega))).1.wf.num
  have h2:(smB S V x (bs.getD n default) n want (opB S V (bs.getD n default)).length).length≤(opB S V (bs.getD n default)).length:=zJj
  have h3:(opB S V (bs.getD n default)).length≤20:=hw
  rw [smN,lA]
  omega
theorem FieldReaches_c (a:Option Addr) (cap:Nat) (S:List ShC) (b:Option Addr) (bcap:Nat) (V:List WlC) (ca:Option Addr) (ccap:Nat) (cs:List ByteArray) (ba:Option Addr) (bcp:Nat) (bs:List Bdr) (x:Anm) (frm:Int) (w:World) (hl:Has w (zaW a 20 zbH S)) (hs:S.length≤764877654104) (hlw:Has w (zaW b 4 zbS V)) (hsw:V.length≤2199023255552) (hsh:∀ z∈S,Has w (Ints z.a z.s.heights)) (hss:∀ z∈S,z.s.heights.length≤17592186044416) (hwo:∀ z∈V,Has w (zaW z.a 5 zba z.s.opens)) (hsv:∀ z∈V,z.s.opens.length≤3518437208883) (hfS:∀ z∈S,Fits z.s.name.size) (hc:Has w (zaW ca 1 encS cs)) (hcn:cs.length≤8796093022208) (hbd:Has w (zaW ba 6 zyr bs)) (hbn:bs.length≤2513169434915) (hcS:S.length≤cap) (hcpw:∀ z∈V,z.s.opens.length≤z.cap) (hkn:∀ z∈V,∀ o∈z.s.opens,Knd o) (hfV:∀ z∈V,Fits z.s.name.size) (hco:∀ z∈S,0≤z.s.cope) (hcf:∀ z∈cs,Fits z.size) (hcap:cs.length≤ccap) (hmx:Has w (IntV 2)) (hcp:Has w (zaW (some ⟨1,0,none⟩) 1 encS zeZ)) (hop:Has w (zaW (some ⟨0,0,none⟩) 1 encS opensW)) :
  Calls Tryz.prog 3 #[.agg #[.slice a S.length cap,.slice b V.length bcap,.slice ca cs.length ccap,.slice ba bs.length bcp,.int .i64 x.wide,.int .i64 x.high,.int .i64 x.step,.int .i64 x.leap,.int .i64 x.reach],.int .i64 frm] w (Pure (.bool true) w):=by
 refine zan (vs:=[_,_]) Tryz.func3 rfl rfl (bL rfl) (gS (zaG rfl rfl (za3 (vs:=[_,_,_,_,_,_,_,_,_]) rfl rfl) fun b2=>(gA rfl (gN [1,2,4] rfl (gS (gQ (zat 0 tf33 rfl rfl (vs:=[_,_,_,_,_,_,_,_,_]) rfl rfl) (zaG rfl rfl (zbm en13 rfl (fun w hw=>zG1 _ _ S _ _ V _ _ cs _ _ bs x w (rH hl hw) hs (rH hlw hw) hsw (fun z hz=>(rH (hsh z hz) hw)) hss (fun z hz=>(rH (hwo z hz) hw)) hsv hfS (rH hc hw) hcn (rH hbd hw) hbn)) fun p18=>(gM rfl (gQ (zaB rfl rfl) (gQ (zaB rfl rfl) (gQ (zaB rfl rfl) (gQ (zaB rfl rfl) (zaG rfl rfl (zaL tf37 (zs:=[_,_]) rfl) fun b5=>(zaG rfl rfl (zaL tf40 (zs:=[_,_]) rfl) fun b6=>(zaG rfl rfl (zaL tf41 (zs:=[_,_,_,_,_]) rfl) fun b7=>(zaA 2 tf37 rfl rfl (vs:=[_,_]) rfl rfl rfl rfl rfl (zaA 1 tf40 rfl rfl (vs:=[_,_]) rfl rfl rfl rfl rfl (zaA 0 tf41 rfl rfl (vs:=[_,_,_,_,_]) rfl rfl rfl rfl rfl (gA rfl (gN [1,2,4,5,6,7,8] rfl (zao 3 rfl (zbP (zac (gS (gM rfl (gQ (zbR rfl) (gN [1,2,4,5,6,7,24] rfl (zap rfl (fun hc24=>?_) (fun hc24=>?_)))))))))))))))))))))))))))))
 ·
  refine gS (gQ (zaJ en14 rfl (fun w hw=>zz3 w (rH hmx hw) (rH hcp hw) (rH hop hw))) (gA rfl (gN [1,2,4,5,6,7] rfl (zaw (zay (zaC rfl (zau rfl)) ?_)))))
  rfl
 ·
  obtain⟨⟨⟨ra,rc,S2⟩,⟨rb,rd,V2⟩⟩,⟨rca,rcc⟩,⟨rba,rbc⟩⟩:=p18
  refine zjk fun hS2 hV2=>?_
  have hS2:S2.map (·.s)=S.map (·.s):=hS2
  have hV2:V2.map (·.s)=V.map (·.s):=hV2
  obtain⟨hsmp,hcs45,hbs90⟩:=zEj (by simpa using hc24)
  have hsm:=zmC (S:=S) (V:=V) hsmp
  obtain⟨hss2,hsv2,hsw2,hS1,hV1⟩:=zjv hsm
  have hs2:zaP S.length:=by have:=hsm.ls; unfold zaP; omega
  have hcs2:zaP cs.length:=by unfold zaP; omega
  have hbs2:zaP bs.length:=by unfold zaP; omega
  obtain⟨l1,l2,y1,y2,y3,y4,ykn⟩:=zxG hsm hkn hS2 hV2
  refine za2 (R':=Box b5 [.slice ra S2.length rc,.slice rb V2.length rd] 37) 8 rfl (fun B w hA=>hA) (za2 (R':=Box b6 [.slice rca cs.length rcc,.slice rba bs.length rbc] 40) 7 rfl (fun B w hA=>hA) (zaq (gS (gQ (zat 8 tf37 rfl rfl (vs:=[_,_]) rfl rfl) (gQ (zat 7 tf40 rfl rfl (vs:=[_,_]) rfl rfl) (gQ (zat 6 tf41 rfl rfl (vs:=[_,_,_,_,_]) rfl rfl) (gM rfl (zaG rfl rfl (zbm en15 rfl (fun w hw=>zE5 _ _ S2 _ _ V2 _ _ cs _ _ bs x frm w (zam zbI (hw.has (p:=0) rfl)) y1 (zcM (hw.has (p:=0) rfl)) (zam zbo (hw.has (p:=2) rfl)) y2 (fun z hz2=>zam Go.Stn.encI_ok (zbV (f:=rowH 3) (hw.has (p:=1) rfl) hz2)) y3 (fun z hz2=>zam zyn (zbV (f:=rowO 122) (hw.has (p:=3) rfl) hz2)) y4 (fun z hz2=>zcM (zbV (f:=rowO 122) (hw.has (p:=3) rfl) hz2)) ykn (zam ztJ (hw.has (p:=4) rfl)) hcs2 (zcM (hw.has (p:=4) rfl)) (zam zyx (hw.has (p:=5) rfl)) hbs2)) fun p31=>(gM rfl (gQ (zaB rfl rfl) (gQ (zaB rfl rfl) (gA rfl (gA rfl (gN [1,2,4,5,6,7,9,10] rfl (gS (gQ (zat 9 tf37 rfl rfl (vs:=[_,_]) rfl rfl) (gQ (zat 8 tf40 rfl rfl (vs:=[_,_]) rfl rfl) (gQ (zat 7 tf41 rfl rfl (vs:=[_,_,_,_,_]) rfl rfl) ?_))))))))))))))))))
  refine zaG rfl rfl (zbm en16 rfl (fun w hw=>zE7 _ _ S2 _ _ V2 _ _ cs _ _ bs x w (zam zbI (hw.has (p:=1) rfl)) y1 (zcM (hw.has (p:=1) rfl)) (zam zbo (hw.has (p:=3) rfl)) y2 (fun z hz2=>zam Go.Stn.encI_ok (zbV (f:=rowH 3) (hw.has (p:=2) rfl) hz2)) y3 (fun z hz2=>zam zyn (zbV (f:=rowO 122) (hw.has (p:=4) rfl) hz2)) y4 (fun z hz2=>zcM (zbV (f:=rowO 122) (hw.has (p:=4) rfl) hz2)) ykn (zam ztJ (hw.has (p:=5) rfl)) hcs2 (zcM (hw.has (p:=5) rfl)) (zam zyx (hw.has (p:=6) rfl)) hbs2)) fun p38=>(gM rfl (gQ (zaB rfl rfl) (gQ (zaB rfl rfl) (gQ (zaB rfl rfl) (gA rfl (gA rfl (gA rfl (gN [1,2,4,9,10,11,12,13] rfl (zbP (zac (gS (gQ (zat 12 tf33 rfl rfl (vs:=[_,_,_,_,_,_,_,_,_]) rfl rfl) (gQ (zaJ en17 rfl (fun w hw=>zEO _ _ S _ _ V _ _ cs _ _ bs x w (rH hl hw) hs2 hcS (rH hlw hw) hsw2 (fun z hz=>(rH (hsh z hz) hw)) hss2 (fun z hz=>(rH (hwo z hz) hw)) hsv2 hcpw hkn (rH hc hw) hcs2 hcap (rH hbd hw) hbs2 hfS hfV hco hcf)) (gQ (zbR rfl) (gN [1,2,4,9,10,11,12,13,44] rfl (zap rfl (fun hc44=>?_) (fun hc44=>?_)))))))))))))))))
  ·have hno:¬ zym S V cs bs x=true:=by simpa using hc44
   have hE:=(zAM (cs:=cs) (bs:=bs) (x:=x) hS2 hV2).trans (zBz hno)
   have hA:=(zIk (cs:=cs) (bs:=bs) (x:=x) hS2 hV2 [frm]).trans (zFG hno)
   have hra:rchA S2 V2 cs bs x frm=[]:=if_neg (by rw [hA]; decide)
   have hno2:¬ zym S2 V2 cs bs x=true:=by rw [zAq hS2 hV2]; exact hno
   have hsa:smA S2 V2 cs bs x true=[]:=if_neg hno2
   have hsb:smA S2 V2 cs bs x false=[]:=if_neg hno2
   have hra0:(rchA S2 V2 cs bs x frm).length=0:=by rw [hra]; rfl
   have hsa0:(smA S2 V2 cs bs x true).length=0:=by rw [hsa]; rfl
   have hsb0:(smA S2 V2 cs bs x false).length=0:=by rw [hsb]; rfl
   refine gS (gM rfl (gQ (zbQ (zbL rfl rfl) (by exact decide_eq_true hA)) (gM rfl (gT rfl rfl rfl (gM rfl (gT rfl rfl rfl (gQ (zbQ (zbL rfl rfl) (by exact decide_eq_true hE)) (gQ (za5 rfl rfl rfl) (gM rfl (gT rfl rfl rfl (gM rfl (gT rfl rfl rfl (gQ (zaV (Tryz.underlying45) rfl) (gT rfl rfl rfl (gM rfl (gT rfl rfl rfl (gQ (zaV (Tryz.underlying49) rfl) (gT rfl rfl rfl (gQ (zaY rfl rfl) (gT rfl rfl rfl (gM rfl (gT rfl rfl rfl (gQ (zaV (Tryz.underlying49) rfl) (gT rfl rfl rfl (gQ (zaY rfl rfl) (gT rfl rfl rfl (gQ (zbQ (zbL rfl rfl) (by rw [hra0,hsa0,hsb0]; rfl)) (gQ (za5 rfl rfl rfl) (gM rfl (gT rfl rfl rfl (gQ (zaJ en14 rfl (fun w hw=>zz3 w (rH hmx hw) (rH hcp hw) (rH hop hw))) (gQ (za5 rfl rfl rfl) (gA rfl (gN [1,2,4,9,10,11,12,13] rfl (zaw (zay (zaC rfl (zau rfl)) ?_))))))))))))))))))))))))))))))))))))
   rfl
  ·have hok:zym S V cs bs x=true:=by simpa using hc44
   have hok2:zym S2 V2 cs bs x=true:=by rw [zAq hS2 hV2]; exact hok
   have hE:=(zAM (cs:=cs) (bs:=bs) (x:=x) hS2 hV2).trans (zBA hok)
   have hsa:smA S2 V2 cs bs x true=smN S V bs x true bs.length:=(zIG hS2 hV2 true).trans (if_pos hok)
   have hsb:smA S2 V2 cs bs x false=smN S V bs x false bs.length:=(zIG hS2 hV2 false).trans (if_pos hok)
   have hq1:zaP (smN S V bs x true bs.length).length:=by have:=zJi hok true bs.length (Nat.le_refl _); unfold zaP; omega
   have hq2:zaP (smN S V bs x false bs.length).length:=by have:=zJi hok false bs.length (Nat.le_refl _); unfold zaP; omega
   refine zaq (gS (gQ (zab zCR rfl) (gQ (zat 12 tf25 rfl rfl (vs:=[_,_]) rfl rfl) (gQ (zab zz0 rfl) (gQ (zat 12 tf29 rfl rfl (vs:=[_,_]) rfl rfl) (gQ (zab zAL rfl) (gQ (zat 12 tf31 rfl rfl (vs:=[_,_,_,_,_]) rfl rfl) (zaG rfl rfl (zbm en18 rfl (fun w hw=>zJg _ _ S _ _ V _ _ cs _ _ bs x w (rH hl hw) hs2 hcS (rH hlw hw) hsw2 (fun z hz=>(rH (hsh z hz) hw)) hss2 (fun z hz=>(rH (hwo z hz) hw)) hsv2 hcpw hkn (rH hc hw) hcs2 hcap (rH hbd hw) hbs2 hok)) fun p72=>(gM rfl (gQ (zaB rfl rfl) (gQ (zaB rfl rfl) (gA rfl (gA rfl (gN [1,2,4,9,10,11,12,13,14,15] rfl (zbP (zac (gS (gM rfl (gQ (zdB (b':=false) (zcr rfl rfl) (by rw [hE]; rfl)) (gM rfl (gT rfl rfl rfl (gM rfl (gT rfl rfl rfl (gM rfl (gT rfl rfl rfl (gQ (zaJ en19 rfl (fun w hw=>zIE _ _ _ _ (smA S2 V2 cs bs x true) (smN S V bs x true bs.length) w (zam zyJ (hw.has (p:=2) rfl)) (zam zyJ (hw.has (p:=0) rfl)) hsa hq1)) (gT rfl rfl rfl (gQ (zdB (b':=false) (zbR rfl) (by rfl)) (gQ (za5 rfl rfl rfl) (gM rfl (gT rfl rfl rfl (gM rfl (gT rfl rfl rfl (gM rfl (gT rfl rfl rfl ?_)))))))))))))))))))))))))))))))))))
   refine gQ (zaJ en19 rfl (fun w hw=>zIE _ _ _ _ (smA S2 V2 cs bs x false) (smN S V bs x false bs.length) w (zam zyJ (hw.has (p:=3) rfl)) (zam zyJ (hw.has (p:=1) rfl)) hsb hq2)) (gT rfl rfl rfl (gQ (zdB (b':=false) (zbR rfl) (by rfl)) (gQ (za5 rfl rfl rfl) (gN [1,2,4,9,10,88] rfl (zd8 rfl (zaq (zac (gS (gQ (zab zz0 rfl) (gQ (zat 14 tf29 rfl rfl (vs:=[_,_]) rfl rfl) (gM rfl (gQ (zaJ en20 rfl (fun w hw=>zEc _ _ cs _ _ bs frm w)) (gQ (zbR rfl) (gN [1,2,4,9,10,93] rfl (zap rfl (fun hc93=>?_) (fun hc93=>?_))))))))))))))))
   ·have hoc:zBG cs.length frm=false:=by rw [nT] at hc93; exact hc93
    have hA:=(zIk (cs:=cs) (bs:=bs) (x:=x) hS2 hV2 [frm]).trans (zDt hok (by simp only [List.any_cons,List.any_nil,Bool.or_false]; rw [zIN,hoc]; rfl))
    have hra:rchA S2 V2 cs bs x frm=[]:=if_neg (by rw [hA]; decide)
    have hra0:(rchA S2 V2 cs bs x frm).length=0:=by rw [hra]; rfl
    refine gS (gM rfl (gQ (zbQ (zbL rfl rfl) (by exact decide_eq_true hA)) (gM rfl (gT rfl rfl rfl (gM rfl (gT rfl rfl rfl (gQ (zaV (Tryz.underlying45) rfl) (gT rfl rfl rfl (gQ (zbQ (zbL rfl rfl) (by rw [hra0]; rfl)) (gQ (za5 rfl rfl rfl) (gM rfl (gT rfl rfl rfl (gQ (zaJ en14 rfl (fun w hw=>zz3 w (rH hmx hw) (rH hcp hw) (rH hop hw))) (gQ (za5 rfl rfl rfl) (gA rfl (gN [1,2,4,9,10] rfl (zaw (zay (zaC rfl (zau rfl)) ?_))))))))))))))))))
    rfl
   ·have hoc:zBG cs.length frm=true:=by rw [nF] at hc93; exact hc93
    have hA0:=zFF (l:=[frm]) hok (by simp only [List.any_cons,List.any_nil,Bool.or_false]; rw [zIN,hoc]; rfl)
    have hA:=(zIk (cs:=cs) (bs:=bs) (x:=x) hS2 hV2 [frm]).trans hA0
    have hra:rchA S2 V2 cs bs x frm=zAs (zze (zyj S V bs x) allM frm) 40:=(zIZ hS2 hV2 frm).trans (if_pos hA0)
    have hfz:0≤frm∧frm < cs.length:=by unfold zBG at hoc; simpa only [aT,dT] using hoc
    have f0:=hfz.1
    have f1:=hfz.2
    refine zaq (gS (gM rfl (gQ (zbQ (zbL rfl rfl) (by exact decide_eq_true hA)) (gM rfl (gT rfl rfl rfl (gM rfl (gT rfl rfl rfl (gQ (zab zCR rfl) (gT rfl rfl rfl (gQ (zat 14 tf25 rfl rfl (vs:=[_,_]) rfl rfl) (gT rfl rfl rfl (gQ (zab zz0 rfl) (gT rfl rfl rfl (gQ (zat 14 tf29 rfl rfl (vs:=[_,_]) rfl rfl) (gT rfl rfl rfl (gQ (zab zAL rfl) (gT rfl rfl rfl (gQ (zat 14 tf31 rfl rfl (vs:=[_,_,_,_,_]) rfl rfl) (gT rfl rfl rfl (gM rfl (gT rfl rfl rfl (zaG rfl rfl (zbm en22 rfl (fun w hw=>zI0 _ _ S _ _ V _ _ cs _ _ bs x frm w (rH hl hw) hs2 hcS (rH hlw hw) hsw2 (fun z hz=>(rH (hsh z hz) hw)) hss2 (fun z hz=>(rH (hwo z hz) hw)) hsv2 hcpw hkn (rH hc hw) hcs2 hcap (rH hbd hw) hbs2 hok f0 f1)) fun p115=>(gT rfl rfl rfl (gQ (zaJ en21 rfl (fun w hw=>zJR _ _ _ _ (rchA S2 V2 cs bs x frm) (zAs (zze (zyj S V bs x) allM frm) 40) w (zam Go.Stn.encI_ok (hw.has (p:=5) rfl)) (zam Go.Stn.encI_ok (hw.has (p:=0) rfl)) hra (Nat.le_trans zEq (by decide)))) (gQ (za5 rfl rfl rfl) (gM rfl (gT rfl rfl rfl (gQ (zaJ en14 rfl (fun w hw=>zz3 w (rH hmx hw) (rH hcp hw) (rH hop hw))) (gQ (za5 rfl rfl rfl) (gA rfl (gN [4] rfl (zaw (zay (zaC rfl (zau rfl)) ?_)))))))))))))))))))))))))))))))))
    rfl
end Go.Proofs.YteepmmghanbllaaGreatDoor
namespace Go.K
open Go Go.Stn Go.ChangeShapes Go.WideShapes Go.ChangeAt Go.WideElems Go.RowKit
def I64 (n:Int):Prop:=-9223372036854775808≤n∧n≤9223372036854775807
theorem zp6 {α:Type} {Q:Nat→α→Prop}:∀ n,(∀ i,i < n→∃ x,Q i x)→∃ l:List α,l.length=n∧∀ i x,l[i]?=some x→Q i x
 | 0,_=>⟨[],rfl,fun i x h=>by simp at h⟩
 | n+1,h=>by
  obtain⟨l,hl,hq⟩:=zp6 n (fun i hi=>h i (by omega))
  obtain⟨x,hx⟩:=h n (by omega)
  refine⟨l++[x],by simp [hl],fun i y hy=>?_⟩
  rcases Nat.lt_or_ge i n with hi | hi
  ·rw [List.getElem?_append_left (by omega)] at hy; exact hq i y hy
  ·rw [List.getElem?_append_right (by omega),hl] at hy
   have:i=n:=by
    rcases Nat.lt_or_ge n i with g | g
    ·rw [List.getElem?_eq_none (by simp; omega)] at hy; cases hy
    ·omega
   subst this
   simp at hy
   subst hy; exact hx
section
variable {H:Type} {enc:TypeId×Value→H} {P:Program}
theorem zgK (hl:laidOutB P=true) {W W':World} {sp':Nat→Bool}:∀ (ts:List TypeId) (vs:List Value) (ds:List (DataW H)) (ps:List MemPlace),(∀ t∈ts,P.readableRec t=true∧t < P.types.size) →
  DataW.TrodAll enc P W 0 (fun _=>true) true ts vs ds ps→(∀ p∈ps,W.sameAt W' p)→(∀ p∈ps,sp' p.block=true)→DataW.TrodAll enc P W' 0 sp' true ts vs ds ps
 | [],[],[],ps,_,h,_,_=>h
 | t :: ts,v :: vs,d :: ds,ps,hr,⟨p,q,h1,h2,he⟩,hs,hsp=>by
  subst he
  exact⟨p,q,Trod_stays hl (hr t (mS ..)).1 (hr t (mS ..)).2 h1 (fun x hx=>hs x (List.mem_append_left _ hx)) (fun x hx=>hsp x (List.mem_append_left _ hx)),
   zgK hl ts vs ds q (fun x hx=>hr x (mM _ hx)) h2 (fun x hx=>hs x (List.mem_append_right _ hx)) (fun x hx=>hsp x (List.mem_append_right _ hx)),rfl⟩
 | [],[],_ :: _,_,_,h,_,_=>h.elim
 | [],_ :: _,_,_,_,h,_,_=>h.elim
 | _ :: _,[],_,_,_,h,_,_=>h.elim
 | _ :: _,_ :: _,[],_,_,h,_,_=>h.elim
theorem law_post {f:Func} {s:ChangeSpec} {apart fresh handsOn again:Bool} {W W':World} {args:Array Value} {ds:List (DataW H)} {before:List MemPlace} {tb:TypeId} (hl:laidOutB P=true)
  (hW:DataW.Whole enc P f.params.toList s.vars apart W args.toList ds [] before) (hvars:s.vars=[]) (hread:f.params.toList.all (fun t=>P.readableRec t&&decide (t < P.types.size))=true)
  (hfn:s.fn H (ds++[])={ results:=[.lit (.bool true)],args:=ds }) (hrt:f.resultTypes=#[tb]) (htb:P.underlying tb=some .bool) (hb:Ext W W'):s.post enc P f apart fresh handsOn again W args (.bool true) W':=by
 have hlt:∀ p∈before,p.block < W.heap.size:=fun p hp=>hW.lt p hp
 have hold:∀ p∈before,(fun b=>decide (b < W.heap.size)) p.block=true:=fun p hp=>by simpa using hlt p hp
 have hW0:=hW
 obtain⟨p,q,hA,hV,hpq,hz,hn⟩:=hW
 rw [hvars] at hV
 obtain⟨_,rfl⟩:=trodVars_none hV
 rw [List.append_nil] at hpq
 subst hpq
 have hr:∀ t∈f.params.toList,P.readableRec t=true∧t < P.types.size:=fun t ht=>by
  have:=List.all_eq_true.1 hread t ht
  simpa using this
 have hsame:∀ x∈before,W.sameAt W' x:=fun x hx=>by
  have hlx:=hlt x hx
  cases x with
  | cell b off=>exact hb.below.cell (p:=⟨b,off,none⟩) hlx
  | map b=>exact hb.block b hlx
 have hargs:∀ sp:Nat→Bool,(∀ p∈before,sp p.block=true)→DataW.TrodAll enc P W' 0 sp true f.params.toList args.toList ds before:=fun sp hsp=>zgK hl _ _ _ _ hr hA hsame hsp
 have hres:∀ (b:Nat) (sp:Nat→Bool) (hd:Bool),DataW.TrodAll enc P W' b sp hd f.resultTypes.toList ((Value.bool true).resultList f.resultTypes.size) [.lit (.bool true)] []:=fun b sp hd=>by
  rw [hrt]
  exact⟨[],[],⟨1,by simp [DataW.trod,Value.cells,htb]⟩,rfl,rfl⟩
 refine⟨ds,[],before,[],before,[],hW0,?_,?_,?_,World.keptBut_mono (fun p hp=>⟨hp,Or.inr (Or.inl hp)⟩) (hb.below.frame (·∈before)),fun _=>?_⟩
 ·rw [hfn]; exact hres _ _ _
 ·rw [hfn]; exact hargs _ hold
 ·rw [hfn,hvars]; rfl
 ·refine⟨fun j t r ht hrr=>?_,ds.cons (.lit (.bool true)),[],before,⟨before,[],?_,by rw [hvars]; rfl,by simp,?_,?_⟩,fun x hx _=>hx⟩
  ·rw [hrt] at ht hrr
   have h0:t=tb:=by
    rcases j with _ | j
    ·simpa using ht.symm
    ·simp at ht
   have h1:r=.bool true:=by
    rcases j with _ | j
    ·simpa [Value.resultList] using hrr.symm
    ·simp at ht
   subst h0; subst h1
   exact okWide_bool_mk htb true
  ·have h1:=trodAll_append (hargs (fun _=>true) (fun _ _=>rfl)) (hres 0 (fun _=>true) true)
   simpa using h1
  ·intro b off hp
   rw [hb.below.frozen (hlt _ hp)]
   exact hz b off (by simpa using hp)
  ·intro ha
   have:=hn ha
   simpa using this
end
end Go.K
namespace Go.Proofs.YteepmmghanbllaaGreatDoor
open Go Go.K Go.Stn Go.Pln Go.ChangeShapes Go.WideShapes Go.ChangeAt Go.RowKit
theorem own:ownKnob Tryz.prog.godebug=none:=by kernel_rfl
theorem laidOut:laidOutB Tryz.prog=true:=by kernel_rfl
abbrev laidR:List (String×DataW Unit):=Rows.fieldCrossesRow.laid
noncomputable def worldR (os:Os):World:=(World.doorLaid Tryz.prog 400 os).layVars Tryz.prog [("unicode/utf8.first",Go.Pinned.utf8First)]
theorem worldR_os (os:Os):(worldR os).os=os:=World.layVars_os _ _ _
theorem door_metR (os:Os) (args:Array Value):laidMetH Tryz.prog laidR ((worldR os).forCall (fun _ _=>0) ⟨#[],args,[]⟩).memory:=
 laidMetH_of_parts3 (fuel:=8) (laidMet_of_run' 8 (by kernel_rfl) (by kernel_rfl)) (by kernel_rfl) (by kernel_rfl)
section
variable {H:Type} {enc:TypeId×Value→H}
theorem returnsInHanded_of_change_and_shaped {a:Assume} {C:Checked} {os:Os} {f:FuncId} {fn:Func} {s:ChangeSpec} {conds:List PathCond} {apart fresh handsOn again:Bool} {X:World→Array Value→Prop}
  (hX:∀ (w w':World) (args:Array Value),w.heap=w'.heap→X w args→X w' args)
  (own:ownKnob C.prog.godebug=none) (started:os.Started) (noInit:C.prog.inits.idxOf? f=none) (hfn:C.prog.funcs[f]?=some fn)
  (witness:∃ (w:World) (tape:Tape) (i:Input),w.os=os∧(w.forCall tape i).Shaped C.prog∧i.vars=[]∧Input.okWide C.prog (w.forCall tape i) .any w.heap.size f i ∧
   ((s.pre enc C.prog fn conds apart (w.forCall tape i).memory i.args∧X (w.forCall tape i).memory i.args)∧sizedMet enc C.prog fn (OpenSpec.ofChange s) apart (w.forCall tape i).memory i.args)∧a.holds C.prog (lone (Frame.enter C.prog f i.args .normal) [] (w.forCall tape i)))
  (contract:∀ (W:World) (base:Nat) (args:Array Value) (ds gs:List (DataW H)) (before:List MemPlace),
   (∀ (j:Nat) t v,fn.params[j]?=some t→args[j]?=some v→Value.okWide C.prog W .any base t v) →
   DataW.Whole enc C.prog fn.params.toList s.vars apart W args.toList ds gs before →
   conds.all (PathCond.test C.prog ⟨fn.params.toList,ds,s.plain.varTypes C.prog,gs⟩)=true →
   (DataW.weightsEach C.prog (fn.params.toList++s.plain.varTypes C.prog) (ds++gs)).all (·≤reachBytes)=true→X W args →
   W.ShapedOpen C.prog →
   Calls C.prog f args W fun e W'=>∃ v,e=.returned v∧s.post enc C.prog fn apart fresh handsOn again W args v W') :
  ReturnsInHanded a C os f .any (fun w args=>(s.pre enc C.prog fn conds apart w args∧X w args)∧sizedMet enc C.prog fn (OpenSpec.ofChange s) apart w args) (s.post enc C.prog fn apart fresh handsOn again):=by
 refine returnsInHanded_of_calls own started noInit witness ?_
 intro w tape i _ hsh _ hok hpre _
 obtain⟨_,_,_,fn',hfn',_,_,_,_,hval⟩:=hok
 have e:fn' = fn:=Option.some.inj (hfn'.symm.trans hfn)
 subst e
 obtain⟨⟨⟨ds,gs,before,hw,hc⟩,hx⟩,hz⟩:=hpre
 have hw':=DataW.Whole.of_heap (w':=w.forCall tape i) (by rfl) hw
 refine(contract (w.forCall tape i) w.heap.size i.args ds gs before hval hw' hc (hz.weights hw) (hX _ _ _ (by rfl) hx) hsh).mono fun e W' ⟨v,he,hp⟩=>?_
 subst he
 exact ChangeSpec.post_blind hp
end
theorem zo3 {W:World} {b o:Nat} {v:Value} (h:W.cell? ⟨b,o,none⟩=some v):b < W.heap.size:=by
 rcases Nat.lt_or_ge b W.heap.size with g | g
 ·exact g
 ·exfalso
  simp [World.cell?,Array.getElem?_eq_none g] at h
theorem int_of_shape {W:World} (h:W.ShapedOpen Tryz.prog):Has W (IntV 2):=by
 obtain⟨m,hm⟩:=cell_of_shapedOpen_int (P:=Tryz.prog) (g:=2) (t:=3) (zero:=#[.int .i64 0]) (k:=.i64) h (oT (by kernel_rfl)) (by kernel_rfl) rfl (by kernel_rfl) (by kernel_rfl) Tryz.underlying3
 exact⟨(· = 2),fun k hk=>by rw [hk]; exact zo3 hm,fun _=>Iff.rfl,m,hm⟩
theorem zok {W:World} {l:List (String×DataW Unit)} (h:laidMetH Tryz.prog l W) {n:String} {d:DataW Unit} (hm:(n,d)∈l) (hd:d.handleName?.isNone=true):Lib.VarReads Tryz.prog W n d:=by
 unfold laidMetH at h
 split at h
 ·exact Lib.laidMet.reads h hm
 ·exact Lib.laidMet.reads h.1 (List.mem_filter.2 ⟨hm,hd⟩)
theorem zlF {t:TypeId} {k:Nat} {W:World} {fuel:Nat} {l:List Value} {L:List ByteArray} {p:List MemPlace} (ht:Tryz.prog.underlying t=some (.array k 9)) (hct:Tryz.prog.cellsOf t=k) (hk:k=L.length)
  (h:DataW.trod (fun _=>()) Tryz.prog W 0 (fun _=>true) false fuel t l=some (.agg (L.map fun s=>.lit (.string s.data.toList)),p)):l=L.map fun s=>.string s:=by
 obtain⟨xs,m,_,hx,hlen,hn,hel⟩:=DataW.trod_array ht h
 have c9:Tryz.prog.cellsOf 9=1:=by kernel_rfl
 rw [c9] at hel
 simp only [Prod.mk.injEq,DataW.agg.injEq] at hx
 have hc:l.length=k:=by rw [hlen,hct]
 refine List.ext_getElem? fun i=>?_
 rw [List.getElem?_map]
 rcases Nat.lt_or_ge i k with hi | hi
 ·have he:=hel i hi
  have hli:i < l.length:=by omega
  have hLi:i < L.length:=by omega
  have hxi:i < xs.length:=by omega
  rw [Nat.mul_one,List.drop_eq_getElem_cons hli,eG hxi] at he
  have he1:DataW.trod (fun _=>()) Tryz.prog W 0 (fun _=>true) false m 9 [l[i]]=some xs[i]:=he
  obtain⟨s,e0,ey,_⟩:=DataW.trod_string Tryz.underlying9 he1
  have h1:(L.map fun s=>(DataW.lit (Lit.string s.data.toList):DataW Unit))[i]?=(xs.map (·.1))[i]?:=by rw [hx.1]
  rw [List.getElem?_map,List.getElem?_map,eG hLi,eG hxi,ey] at h1
  simp only [Option.map_some,sI,DataW.lit.injEq,Lit.string.injEq] at h1
  have h2:L[i]=s:=by
   have:=Array.toList_inj.1 h1
   exact ByteArray.ext this
  simp only [List.cons.injEq,and_true] at e0
  rw [eG hli,eG hLi,e0,h2]
  rfl
 ·rw [List.getElem?_eq_none (by omega),List.getElem?_eq_none (by omega)]; rfl
theorem znT {W:World} {g:Nat} {nm:String} {t:TypeId} {k:Nat} {L:List ByteArray} {l:List (String×DataW Unit)} (h:laidMetH Tryz.prog l W) (hm:(nm,.agg (L.map fun s=>.lit (.string s.data.toList)))∈l)
  (hd:(DataW.agg (L.map fun s=>.lit (.string s.data.toList)):DataW Unit).handleName?.isNone=true)
  (hg:Tryz.prog.globalNamed nm=some g) (htg:(Tryz.prog.globals[g]?).map (·.type)=some t) (ht:Tryz.prog.underlying t=some (.array k 9)) (hct:Tryz.prog.cellsOf t=k) (hk:k=L.length) (h0:0 < k):Has W (zaW (some ⟨g,0,none⟩) 1 encS L):=by
 obtain⟨g',t',cs,fuel,p,hg',ht',hv,hd'⟩:=zok h hm hd
 obtain rfl:=Option.some.inj (hg.symm.trans hg')
 obtain rfl:=Option.some.inj (htg.symm.trans ht')
 have hcs:=zlF ht hct hk hd'
 have hc:=World.var?_cell hg hv
 have hcell:∀ i x,L[i]?=some x→W.cell? ⟨g,i,none⟩=some (.string x):=fun i x hi=>by
  rw [hc i]
  obtain⟨lc⟩:=cs
  have h1:lc=_:=hcs
  rw [h1]
  simp [hi]
 refine⟨(· = g),fun b hb=>?_,.inr ⟨g,0,rfl,fun _=>Iff.rfl,fun i x hi=>⟨?_,trivial⟩⟩⟩
 ·rw [hb]
  match L,hk with
  | x :: r,_=>exact zo3 (hcell 0 x rfl)
  | [],hk=>exact absurd hk (by simp; omega)
 ·rw [Nat.zero_add,Nat.mul_one]; exact hcell i x hi
theorem copes_of_laid {W:World} {l:List (String×DataW Unit)} (h:laidMetH Tryz.prog l W) (hm:("copestone/plan.copes",Rows.laid_copestone_plan_copes)∈l):Has W (zaW (some ⟨1,0,none⟩) 1 encS zeZ):=
 znT (t:=252) (k:=4) h hm (by kernel_rfl) (by kernel_rfl) (by kernel_rfl) Tryz.underlying252 (by kernel_rfl) rfl (by decide)
theorem opens_of_laid {W:World} {l:List (String×DataW Unit)} (h:laidMetH Tryz.prog l W) (hm:("copestone/plan.openings",Rows.laid_copestone_plan_openings)∈l):Has W (zaW (some ⟨0,0,none⟩) 1 encS opensW):=
 znT (t:=231) (k:=5) h hm (by kernel_rfl) (by kernel_rfl) (by kernel_rfl) Tryz.underlying231 (by kernel_rfl) rfl (by decide)
end Go.Proofs.YteepmmghanbllaaGreatDoor
namespace Go.Proofs.YteepmmghanbllaaGreatDoor
open Go Go.K Go.Stn Go.Pln Go.Fld Go.ChangeShapes Go.WideShapes Go.ChangeAt Go.WideElems Go.RowKit
section
variable {H:Type} {enc:TypeId×Value→H} {P:Program} {w:World} {base:Nat} {spare:Nat→Bool} {held:Bool}
theorem ziT {e:TypeId} {d:DataW H}:∀ {l:List (DataW H)},d∈l→∀ n∈d.weights P e,n∈DataW.weightsAll P e l
 | [],h,_,_=>by cases h
 | x :: r,h,n,hn=>by
  rw [DataW.weightsAll]
  rcases List.mem_cons.1 h with rfl | h
  ·exact List.mem_append_left _ hn
  ·exact List.mem_append_right _ (ziT h n hn)
def WOk (P:Program) (t:TypeId) (d:DataW H):Prop:=∀ n∈d.weights P t,n≤reachBytes
theorem wok_each:∀ {ts:List TypeId} {ds:List (DataW H)},(∀ n∈DataW.weightsEach P ts ds,n≤reachBytes)→∀ (i:Nat) t d,ts[i]?=some t→ds[i]?=some d→WOk P t d
 | [],_,_,i,t,d,h1,_=>by simp at h1
 | _ :: _,[],_,i,t,d,_,h2=>by simp at h2
 | t0 :: ts,d0 :: ds,h,i,t,d,h1,h2=>by
  rw [DataW.weightsEach] at h
  cases i with
  | zero=>
   simp only [List.getElem?_cons_zero,sI] at h1 h2
   subst h1; subst h2
   exact fun n hn=>h n (List.mem_append_left _ hn)
  | succ i=>
   simp only [List.getElem?_cons_succ] at h1 h2
   exact wok_each (fun n hn=>h n (List.mem_append_right _ hn)) i t d h1 h2
theorem zoH {t:TypeId} {fs:Array Field} (ht:P.underlying t=some (.struct fs)) {ys:List (DataW H×List MemPlace)} (h:WOk P t (.agg (ys.map (·.1)))) {i:Nat} {f:Field} {y:DataW H×List MemPlace} (hf:fs[i]?=some f) (hy:ys[i]?=some y):WOk P f.type y.1:=by
 have h':∀ n∈DataW.weightsEach P (fs.toList.map (·.type)) (ys.map (·.1)),n≤reachBytes:=fun n hn=>h n (by rw [DataW.weights,ht]; exact hn)
 refine wok_each h' i f.type y.1 ?_ ?_
 ·rw [List.getElem?_map,Array.getElem?_toList,hf]; rfl
 ·rw [List.getElem?_map,hy]; rfl
theorem zop {α:Type} {enc':α→List Value} {n:Nat} {Q:α→Prop} {t e:TypeId} {fuel:Nat} {cs:List Value} {x:DataW H×List MemPlace} (ht:P.underlying t=some (.slice e)) (hc:P.cellsOf e=n) (hn:Enc n enc')
  (hel:∀ (fuel:Nat) (cs:List Value) (y:DataW H×List MemPlace),DataW.trod enc P w base spare held fuel e cs=some y→WOk P e y.1→∃ z,Q z∧cs=enc' z)
  (h:DataW.trod enc P w base spare held fuel t cs=some x) (hx:WOk P t x.1) :
  ∃ (a:Option Addr) (L:List α) (cap:Nat),cs=[.slice a L.length cap]∧Has w (zaW a n enc' L)∧L.length≤cap∧(∀ z∈L,Q z)∧L.length*P.bytesOf e≤reachBytes:=by
 rcases Go.Deep.open_slice ht h with ⟨rfl,_⟩ | ⟨a,len,cap,m,k,D,Pl,rfl,hb,hl,hm,hmm,hxe,hi⟩
 ·exact⟨none,[],0,rfl,⟨fun _=>False,fun _ h=>h.elim,.inl rfl⟩,Nat.le_refl _,by simp,by simp⟩
 ·have hlm:len≤m:=by rw [hmm]; split <;> omega
  have hw:∀ v∈(len+(m - len))*P.bytesOf e :: (DataW.weightsAll P e ((List.range len).map D)++DataW.weightsAll P e ((List.range (m - len)).map fun j=>D (len+j))),v≤reachBytes:=fun v hv=>by
   refine hx v ?_
   rw [hxe,DataW.weights,ht]
   simpa using hv
  obtain⟨L,hll,hq⟩:=zp6 (Q:=fun i (z:α)=>Q z∧∀ j v,(enc' z)[j]?=some v→w.cell? (a.add (i*n+j))=some v) len (fun i hil=>by
   obtain⟨cs',hcs,ht'⟩:=hi i (by omega)
   obtain⟨z,hz,rfl⟩:=hel _ _ _ ht' (fun v hv=>hw v (mM _ (List.mem_append_left _ (ziT (List.mem_map.2 ⟨i,List.mem_range.2 hil,rfl⟩) v hv))))
   rw [hc] at hcs
   obtain⟨_,_,hat⟩:=World.cells?_some hcs
   refine⟨z,hz,fun j v hj=>?_⟩
   have hjn:j < n:=by
    have:=(List.getElem?_eq_some_iff.1 hj).1
    rw [hn.len] at this; exact this
   have h0:=hat j hjn
   rw [Go.Deep.add_add] at h0
   rw [h0]; exact hj)
  refine⟨some a,L,cap,by rw [hll],?_,by omega,fun z hz=>?_,?_⟩
  ·cases L with
   | nil=>exact⟨fun _=>False,fun _ h=>h.elim,.inl rfl⟩
   | cons z0 r=>
    obtain⟨v0,hv0⟩:∃ v0,(enc' z0)[0]?=some v0:=by
     have:0 < (enc' z0).length:=by rw [hn.len]; exact hn.pos
     exact⟨_,eG this⟩
    have hc0:=(hq 0 z0 rfl).2 0 _ hv0
    obtain⟨b,off,sp⟩:=a
    have hsp:sp=none:=by
     cases sp with
     | none=>rfl
     | some s=>
      exfalso
      simp only [World.cell?,Addr.add] at hc0
      split at hc0 <;> simp_all
    subst hsp
    have hbs:b < w.heap.size:=by
     rcases Nat.lt_or_ge b w.heap.size with h | h
     ·exact h
     ·exfalso
      rw [zb2] at hc0
      simp [World.cell?,Array.getElem?_eq_none h] at hc0
    refine⟨(· = b),fun k hk=>by rw [hk]; exact hbs,.inr ⟨b,off,rfl,fun _=>Iff.rfl,fun i z hz=>zfA _ _ fun j v hj=>?_⟩⟩
    have:=(hq i z hz).2 j v hj
    rw [zb2] at this
    rw [Nat.add_assoc]; exact this
  ·obtain⟨i,hi',rfl⟩:=List.getElem_of_mem hz
   exact(hq i _ (by simp [hi'])).1
  ·have h1:=hw _ (mS ..)
   rw [hll]
   refine Nat.le_trans (Nat.mul_le_mul_right _ ?_) h1
   omega
theorem zfs {t:TypeId} {fs:Array Field} {fuel:Nat} {cs:List Value} {x:DataW H×List MemPlace} (ht:P.underlying t=some (.struct fs)) (h:DataW.trod enc P w base spare held fuel t cs=some x) (hx:WOk P t x.1) (i:Nat) (f:Field) (hf:fs[i]?=some f) (ho:f.offset=i) (hc:P.cellsOf f.type=1) (hi:i < cs.length) :
  ∃ (v:Value) (y:DataW H×List MemPlace) (m:Nat),cs[i]?=some v∧DataW.trod enc P w base spare held m f.type [v]=some y∧WOk P f.type y.1:=by
 obtain⟨ys,m,_,hxe,_,hyl,hg⟩:=DataW.trod_struct ht h
 have h1:=hg i f hf
 have hfi:i < fs.size:=by
  rcases Nat.lt_or_ge i fs.size with g | g
  ·exact g
  ·rw [Array.getElem?_eq_none g] at hf; cases hf
 rw [ho,hc,List.drop_eq_getElem_cons hi,eG (by omega)] at h1
 have h2:DataW.trod enc P w base spare held m f.type [cs[i]]=some (ys[i]'(by omega)):=h1
 refine⟨cs[i],ys[i]'(by omega),m,eG hi,h2,?_⟩
 rw [hxe] at hx
 exact zoH ht hx hf (eG (by omega))
theorem zh1 {t:TypeId} {fs:Array Field} {fuel:Nat} {cs:List Value} {x:DataW H×List MemPlace} (ht:P.underlying t=some (.struct fs)) (h:DataW.trod enc P w base spare held fuel t cs=some x) (hx:WOk P t x.1) (i:Nat) (f:Field) (hf:fs[i]?=some f) (ho:f.offset=i) (hc:P.cellsOf f.type=1) (hi:i < cs.length)
  (hu:P.underlying f.type=some .string):∃ s:ByteArray,cs[i]?=some (.string s)∧Fits s.size:=by
 obtain⟨v,y,m,hv,hy,hw⟩:=zfs ht h hx i f hf ho hc hi
 obtain⟨s,e,ey,_⟩:=DataW.trod_string hu hy
 simp only [List.cons.injEq,and_true] at e
 subst e; subst ey
 refine⟨s,hv,?_⟩
 have:=hw s.size (by rw [DataW.weights]; simp)
 unfold reachBytes at this
 unfold Fits
 omega
theorem zbA {t:TypeId} {fs:Array Field} {fuel:Nat} {cs:List Value} {x:DataW H×List MemPlace} (ht:P.underlying t=some (.struct fs)) (h:DataW.trod enc P w base spare held fuel t cs=some x) (hx:WOk P t x.1) (i:Nat) (f:Field) (hf:fs[i]?=some f) (ho:f.offset=i) (hc:P.cellsOf f.type=1) (hi:i < cs.length)
  {k:IntKind} (hu:P.underlying f.type=some (.int k)):∃ n:Int,cs[i]?=some (.int k n)∧(Lit.int k n).wf=true:=by
 obtain⟨v,y,m,hv,hy,hw⟩:=zfs ht h hx i f hf ho hc hi
 obtain⟨n,e,ey,hwf⟩:=DataW.trod_int hu hy
 simp only [List.cons.injEq,and_true] at e
 subst e
 exact⟨n,hv,hwf⟩
theorem zfD {α:Type} {enc':α→List Value} {n:Nat} {Q:α→Prop} {t e:TypeId} {fs:Array Field} {fuel:Nat} {cs:List Value} {x:DataW H×List MemPlace} (ht:P.underlying t=some (.struct fs)) (h:DataW.trod enc P w base spare held fuel t cs=some x) (hx:WOk P t x.1) (i:Nat) (f:Field) (hf:fs[i]?=some f) (ho:f.offset=i) (hc:P.cellsOf f.type=1) (hi:i < cs.length)
  (hu:P.underlying f.type=some (.slice e)) (hce:P.cellsOf e=n) (hn:Enc n enc') (hel:∀ (fuel:Nat) (cs:List Value) (y:DataW H×List MemPlace),DataW.trod enc P w base spare held fuel e cs=some y→WOk P e y.1→∃ z,Q z∧cs=enc' z) :
  ∃ (a:Option Addr) (L:List α) (cap:Nat),cs[i]?=some (.slice a L.length cap)∧Has w (zaW a n enc' L)∧L.length≤cap∧(∀ z∈L,Q z)∧L.length*P.bytesOf e≤reachBytes:=by
 obtain⟨v,y,m,hv,hy,hw⟩:=zfs ht h hx i f hf ho hc hi
 obtain⟨a,L,cap,e1,h1,h2,h3,h4⟩:=zop hu hce hn hel hy hw
 simp only [List.cons.injEq,and_true] at e1
 subst e1
 exact⟨a,L,cap,hv,h1,h2,h3,h4⟩
end
section
variable {H:Type} {enc:TypeId×Value→H} {w:World} {base:Nat} {spare:Nat→Bool} {held:Bool}
theorem zfH {P:Program} {t:TypeId} {fs:Array Field} {fuel n:Nat} {cs:List Value} {x:DataW H×List MemPlace} (ht:P.underlying t=some (.struct fs)) (hc:P.cellsOf t=n) (h:DataW.trod enc P w base spare held fuel t cs=some x):cs.length=n:=by
 obtain⟨_,_,_,_,hl,_⟩:=DataW.trod_struct ht h
 rw [hl,hc]
theorem h3 {n:Nat} (h:n*Tryz.prog.bytesOf 3≤reachBytes):n≤17592186044416:=by
 rw [show Tryz.prog.bytesOf 3=8 by kernel_rfl] at h
 unfold reachBytes at h
 omega
theorem hopn {n:Nat} (h:n*Tryz.prog.bytesOf 138≤reachBytes):n≤3518437208883:=by
 rw [show Tryz.prog.bytesOf 138=40 by kernel_rfl] at h
 unfold reachBytes at h
 omega
theorem hsht {n:Nat} (h:n*Tryz.prog.bytesOf 135≤reachBytes):n≤764877654104:=by
 rw [show Tryz.prog.bytesOf 135=184 by kernel_rfl] at h
 unfold reachBytes at h
 omega
theorem hwll {n:Nat} (h:n*Tryz.prog.bytesOf 134≤reachBytes):n≤2199023255552:=by
 rw [show Tryz.prog.bytesOf 134=64 by kernel_rfl] at h
 unfold reachBytes at h
 omega
theorem hcel {n:Nat} (h:n*Tryz.prog.bytesOf 9≤reachBytes):n≤8796093022208:=by
 rw [show Tryz.prog.bytesOf 9=16 by kernel_rfl] at h
 unfold reachBytes at h
 omega
theorem hbdr {n:Nat} (h:n*Tryz.prog.bytesOf 100≤reachBytes):n≤2513169434915:=by
 rw [show Tryz.prog.bytesOf 100=56 by kernel_rfl] at h
 unfold reachBytes at h
 omega
theorem zrX {fuel:Nat} {cs:List Value} {y:DataW H×List MemPlace} (h:DataW.trod enc Tryz.prog w base spare held fuel 3 cs=some y) (_:WOk Tryz.prog 3 y.1):∃ n:Int,True∧cs=Go.Stn.encI n:=by
 obtain⟨n,e,_,_⟩:=DataW.trod_int Tryz.underlying3 h
 exact⟨n,trivial,e⟩
theorem zrY {fuel:Nat} {cs:List Value} {y:DataW H×List MemPlace} (h:DataW.trod enc Tryz.prog w base spare held fuel 138 cs=some y) (hx:WOk Tryz.prog 138 y.1) :
  ∃ o:Opn,Knd o∧cs=zba o:=by
 have hl:cs.length=5:=zfH Tryz.underlying138 (by kernel_rfl) h
 obtain⟨f0,e0,q0⟩:=zbA Tryz.underlying138 h hx 0 _ rfl rfl (by kernel_rfl) (by omega) Tryz.underlying5
 obtain⟨f1,e1,q1⟩:=zbA Tryz.underlying138 h hx 1 _ rfl rfl (by kernel_rfl) (by omega) Tryz.underlying3
 obtain⟨f2,e2,q2⟩:=zbA Tryz.underlying138 h hx 2 _ rfl rfl (by kernel_rfl) (by omega) Tryz.underlying3
 obtain⟨f3,e3,q3⟩:=zbA Tryz.underlying138 h hx 3 _ rfl rfl (by kernel_rfl) (by omega) Tryz.underlying3
 obtain⟨f4,e4,q4⟩:=zbA Tryz.underlying138 h hx 4 _ rfl rfl (by kernel_rfl) (by omega) Tryz.underlying3
 match cs,hl with
 | [c0,c1,c2,c3,c4],_=>
  simp only [List.getElem?_cons_zero,List.getElem?_cons_succ,sI] at e0 e1 e2 e3 e4
  subst e0; subst e1; subst e2; subst e3; subst e4
  exact⟨⟨f0,f1,f2,f3,f4⟩,bounds_u8 q0,rfl⟩
structure ShIn (w:World) (z:ShC):Prop where
 hts:Has w (Ints z.a z.s.heights)
 cap:z.s.heights.length≤z.cap
 fits:Fits z.s.name.size
 cope:0≤z.s.cope
 cope2:z.s.cope≤255
 num:z.s.heights.length≤17592186044416
structure WlIn (w:World) (z:WlC):Prop where
 ops:Has w (zaW z.a 5 zba z.s.opens)
 cap:z.s.opens.length≤z.cap
 knd:∀ o∈z.s.opens,Knd o
 fits:Fits z.s.name.size
 fits2:Fits z.s.sheet.size
 num:z.s.opens.length≤3518437208883
theorem zr0 {fuel:Nat} {cs:List Value} {y:DataW H×List MemPlace} (h:DataW.trod enc Tryz.prog w base spare held fuel 135 cs=some y) (hx:WOk Tryz.prog 135 y.1) :
  ∃ z:ShC,ShIn w z∧cs=zbH z:=by
 have hl:cs.length=20:=zfH Tryz.underlying135 (by kernel_rfl) h
 obtain⟨f0,e0,q0⟩:=zh1 Tryz.underlying135 h hx 0 _ rfl rfl (by kernel_rfl) (by omega) Tryz.underlying9
 obtain⟨f1,e1,q1⟩:=zbA Tryz.underlying135 h hx 1 _ rfl rfl (by kernel_rfl) (by omega) Tryz.underlying3
 obtain⟨f2,e2,q2⟩:=zbA Tryz.underlying135 h hx 2 _ rfl rfl (by kernel_rfl) (by omega) Tryz.underlying3
 obtain⟨f3,e3,q3⟩:=zbA Tryz.underlying135 h hx 3 _ rfl rfl (by kernel_rfl) (by omega) Tryz.underlying3
 obtain⟨f4,e4,q4⟩:=zbA Tryz.underlying135 h hx 4 _ rfl rfl (by kernel_rfl) (by omega) Tryz.underlying3
 obtain⟨a5,f5,k5,e5,q5,r5,s5,b5⟩:=zfD (Q:=fun _=>True) Tryz.underlying135 h hx 5 _ rfl rfl (by kernel_rfl) (by omega) Tryz.underlying45 (by kernel_rfl) Go.Stn.encI_ok (fun _ _ _ h1 h2=>zrX h1 h2)
 obtain⟨f6,e6,q6⟩:=zbA Tryz.underlying135 h hx 6 _ rfl rfl (by kernel_rfl) (by omega) Tryz.underlying3
 obtain⟨f7,e7,q7⟩:=zbA Tryz.underlying135 h hx 7 _ rfl rfl (by kernel_rfl) (by omega) Tryz.underlying3
 obtain⟨f8,e8,q8⟩:=zbA Tryz.underlying135 h hx 8 _ rfl rfl (by kernel_rfl) (by omega) Tryz.underlying3
 obtain⟨f9,e9,q9⟩:=zbA Tryz.underlying135 h hx 9 _ rfl rfl (by kernel_rfl) (by omega) Tryz.underlying3
 obtain⟨f10,e10,q10⟩:=zbA Tryz.underlying135 h hx 10 _ rfl rfl (by kernel_rfl) (by omega) Tryz.underlying3
 obtain⟨f11,e11,q11⟩:=zbA Tryz.underlying135 h hx 11 _ rfl rfl (by kernel_rfl) (by omega) Tryz.underlying3
 obtain⟨f12,e12,q12⟩:=zbA Tryz.underlying135 h hx 12 _ rfl rfl (by kernel_rfl) (by omega) Tryz.underlying3
 obtain⟨f13,e13,q13⟩:=zbA Tryz.underlying135 h hx 13 _ rfl rfl (by kernel_rfl) (by omega) Tryz.underlying5
 obtain⟨f14,e14,q14⟩:=zbA Tryz.underlying135 h hx 14 _ rfl rfl (by kernel_rfl) (by omega) Tryz.underlying3
 obtain⟨f15,e15,q15⟩:=zbA Tryz.underlying135 h hx 15 _ rfl rfl (by kernel_rfl) (by omega) Tryz.underlying3
 obtain⟨f16,e16,q16⟩:=zbA Tryz.underlying135 h hx 16 _ rfl rfl (by kernel_rfl) (by omega) Tryz.underlying3
 obtain⟨f17,e17,q17⟩:=zbA Tryz.underlying135 h hx 17 _ rfl rfl (by kernel_rfl) (by omega) Tryz.underlying3
 obtain⟨f18,e18,q18⟩:=zbA Tryz.underlying135 h hx 18 _ rfl rfl (by kernel_rfl) (by omega) Tryz.underlying3
 obtain⟨f19,e19,q19⟩:=zbA Tryz.underlying135 h hx 19 _ rfl rfl (by kernel_rfl) (by omega) Tryz.underlying3
 match cs,hl with
 | [c0,c1,c2,c3,c4,c5,c6,c7,c8,c9,c10,c11,c12,c13,c14,c15,c16,c17,c18,c19],_=>
  simp only [List.getElem?_cons_zero,List.getElem?_cons_succ,sI] at e0 e1 e2 e3 e4 e5 e6 e7 e8 e9 e10 e11 e12 e13 e14 e15 e16 e17 e18 e19
  subst e0; subst e1; subst e2; subst e3; subst e4; subst e5; subst e6; subst e7; subst e8; subst e9; subst e10; subst e11; subst e12; subst e13; subst e14; subst e15; subst e16; subst e17; subst e18; subst e19
  exact⟨⟨⟨f0,f1,f2,f3,f4,f5,f6,f7,f8,f9,f10,f11,f12,f13,f14,f15,f16,f17,f18,f19⟩,a5,k5⟩,⟨q5,r5,q0,(bounds_u8 q13).1,(bounds_u8 q13).2,h3 b5⟩,rfl⟩
theorem zr1 {fuel:Nat} {cs:List Value} {y:DataW H×List MemPlace} (h:DataW.trod enc Tryz.prog w base spare held fuel 134 cs=some y) (hx:WOk Tryz.prog 134 y.1) :
  ∃ z:WlC,WlIn w z∧cs=zbS z:=by
 have hl:cs.length=4:=zfH Tryz.underlying134 (by kernel_rfl) h
 obtain⟨f0,e0,q0⟩:=zh1 Tryz.underlying134 h hx 0 _ rfl rfl (by kernel_rfl) (by omega) Tryz.underlying9
 obtain⟨f1,e1,q1⟩:=zh1 Tryz.underlying134 h hx 1 _ rfl rfl (by kernel_rfl) (by omega) Tryz.underlying9
 obtain⟨f2,e2,q2⟩:=zbA Tryz.underlying134 h hx 2 _ rfl rfl (by kernel_rfl) (by omega) Tryz.underlying3
 obtain⟨a3,f3,k3,e3,q3,r3,s3,b3⟩:=zfD (Q:=Knd) Tryz.underlying134 h hx 3 _ rfl rfl (by kernel_rfl) (by omega) Tryz.underlying132 (by kernel_rfl) zyn (fun _ _ _ h1 h2=>zrY h1 h2)
 match cs,hl with
 | [c0,c1,c2,c3],_=>
  simp only [List.getElem?_cons_zero,List.getElem?_cons_succ,sI] at e0 e1 e2 e3
  subst e0; subst e1; subst e2; subst e3
  exact⟨⟨⟨f0,f1,f2,f3⟩,a3,k3⟩,⟨q3,r3,s3,q0,q1,hopn b3⟩,rfl⟩
structure zsA (w:World) (a:Option Addr) (cap:Nat) (S:List ShC) (b:Option Addr) (bcap:Nat) (V:List WlC):Prop where
 hl:Has w (zaW a 20 zbH S)
 hcS:S.length≤cap
 hS:∀ z∈S,ShIn w z
 hs:S.length≤764877654104
 hlw:Has w (zaW b 4 zbS V)
 hcV:V.length≤bcap
 hV:∀ z∈V,WlIn w z
 hsw:V.length≤2199023255552
theorem zrZ {fuel:Nat} {cs:List Value} {y:DataW H×List MemPlace} (h:DataW.trod enc Tryz.prog w base spare held fuel 25 cs=some y) (hx:WOk Tryz.prog 25 y.1) :
  ∃ (a:Option Addr) (cap:Nat) (S:List ShC) (b:Option Addr) (bcap:Nat) (V:List WlC),zsA w a cap S b bcap V∧cs=[.slice a S.length cap,.slice b V.length bcap]:=by
 have hl:cs.length=2:=zfH Tryz.underlying25 (by kernel_rfl) h
 obtain⟨a0,f0,k0,e0,q0,r0,s0,b0⟩:=zfD (Q:=ShIn w) Tryz.underlying25 h hx 0 _ rfl rfl (by kernel_rfl) (by omega) Tryz.underlying22 (by kernel_rfl) zbI (fun _ _ _ h1 h2=>zr0 h1 h2)
 obtain⟨a1,f1,k1,e1,q1,r1,s1,b1⟩:=zfD (Q:=WlIn w) Tryz.underlying25 h hx 1 _ rfl rfl (by kernel_rfl) (by omega) Tryz.underlying23 (by kernel_rfl) zbo (fun _ _ _ h1 h2=>zr1 h1 h2)
 match cs,hl with
 | [c0,c1],_=>
  simp only [List.getElem?_cons_zero,List.getElem?_cons_succ,sI] at e0 e1
  subst e0; subst e1
  exact⟨a0,k0,f0,a1,k1,f1,⟨q0,r0,s0,hsht b0,q1,r1,s1,hwll b1⟩,rfl⟩
theorem zE0 {fuel:Nat} {cs:List Value} {y:DataW H×List MemPlace} (h:DataW.trod enc Tryz.prog w base spare held fuel 9 cs=some y) (hx:WOk Tryz.prog 9 y.1):∃ s:ByteArray,Fits s.size∧cs=encS s:=by
 obtain⟨s,e,ey,_⟩:=DataW.trod_string Tryz.underlying9 h
 refine⟨s,?_,e⟩
 have:=hx s.size (by rw [ey,DataW.weights]; simp)
 unfold reachBytes at this
 unfold Fits
 omega
theorem zDc {t:TypeId} {fs:Array Field} {fuel:Nat} {cs:List Value} {x:DataW H×List MemPlace} (ht:Tryz.prog.underlying t=some (.struct fs)) (h:DataW.trod enc Tryz.prog w base spare held fuel t cs=some x) (hx:WOk Tryz.prog t x.1) (i:Nat) (f:Field) (hf:fs[i]?=some f) (ho:f.offset=i) (hc:Tryz.prog.cellsOf f.type=1) (hi:i < cs.length)
  (hu:Tryz.prog.underlying f.type=some .bool):∃ b:Bool,cs[i]?=some (.bool b):=by
 obtain⟨v,y,m,hv,hy,hw⟩:=zfs ht h hx i f hf ho hc hi
 obtain⟨b,e,_⟩:=DataW.trod_bool hu hy
 simp only [List.cons.injEq,and_true] at e
 subst e
 exact⟨b,hv⟩
theorem zEY {fuel:Nat} {cs:List Value} {y:DataW H×List MemPlace} (h:DataW.trod enc Tryz.prog w base spare held fuel 100 cs=some y) (hx:WOk Tryz.prog 100 y.1):∃ z:Bdr,True∧cs=zyr z:=by
 have hl:cs.length=6:=zfH Tryz.underlying100 (by kernel_rfl) h
 obtain⟨f0,e0,_⟩:=zbA Tryz.underlying100 h hx 0 _ rfl rfl (by kernel_rfl) (by omega) Tryz.underlying3
 obtain⟨f1,e1,_⟩:=zbA Tryz.underlying100 h hx 1 _ rfl rfl (by kernel_rfl) (by omega) Tryz.underlying3
 obtain⟨f2,e2,_⟩:=zh1 Tryz.underlying100 h hx 2 _ rfl rfl (by kernel_rfl) (by omega) Tryz.underlying9
 obtain⟨f3,e3,_⟩:=zbA Tryz.underlying100 h hx 3 _ rfl rfl (by kernel_rfl) (by omega) Tryz.underlying3
 obtain⟨f4,e4,_⟩:=zbA Tryz.underlying100 h hx 4 _ rfl rfl (by kernel_rfl) (by omega) Tryz.underlying3
 obtain⟨f5,e5⟩:=zDc Tryz.underlying100 h hx 5 _ rfl rfl (by kernel_rfl) (by omega) Tryz.underlying4
 match cs,hl with
 | [c0,c1,c2,c3,c4,c5],_=>
  simp only [List.getElem?_cons_zero,List.getElem?_cons_succ,sI] at e0 e1 e2 e3 e4 e5
  subst e0; subst e1; subst e2; subst e3; subst e4; subst e5
  exact⟨⟨f0,f1,f2,f3,f4,f5⟩,trivial,rfl⟩
structure zGO (w:World) (ca:Option Addr) (ccap:Nat) (cs:List ByteArray) (ba:Option Addr) (bcp:Nat) (bs:List Bdr):Prop where
 hc:Has w (zaW ca 1 encS cs)
 hcap:cs.length≤ccap
 hcf:∀ z∈cs,Fits z.size
 hcn:cs.length≤8796093022208
 hbd:Has w (zaW ba 6 zyr bs)
 hbn:bs.length≤2513169434915
theorem zEZ {fuel:Nat} {cs:List Value} {y:DataW H×List MemPlace} (h:DataW.trod enc Tryz.prog w base spare held fuel 29 cs=some y) (hx:WOk Tryz.prog 29 y.1) :
  ∃ (ca:Option Addr) (ccap:Nat) (C:List ByteArray) (ba:Option Addr) (bcp:Nat) (B:List Bdr),zGO w ca ccap C ba bcp B∧cs=[.slice ca C.length ccap,.slice ba B.length bcp]:=by
 have hl:cs.length=2:=zfH Tryz.underlying29 (by kernel_rfl) h
 obtain⟨a0,f0,k0,e0,q0,r0,s0,b0⟩:=zfD (Q:=fun z:ByteArray=>Fits z.size) Tryz.underlying29 h hx 0 _ rfl rfl (by kernel_rfl) (by omega) Tryz.underlying26 (by kernel_rfl) ztJ (fun _ _ _ h1 h2=>zE0 h1 h2)
 obtain⟨a1,f1,k1,e1,q1,r1,s1,b1⟩:=zfD (Q:=fun _=>True) Tryz.underlying29 h hx 1 _ rfl rfl (by kernel_rfl) (by omega) Tryz.underlying27 (by kernel_rfl) zyx (fun _ _ _ h1 h2=>zEY h1 h2)
 match cs,hl with
 | [c0,c1],_=>
  simp only [List.getElem?_cons_zero,List.getElem?_cons_succ,sI] at e0 e1
  subst e0; subst e1
  exact⟨a0,k0,f0,a1,k1,f1,⟨q0,r0,s0,hcel b0,q1,hbdr b1⟩,rfl⟩
theorem zEX {fuel:Nat} {cs:List Value} {y:DataW H×List MemPlace} (h:DataW.trod enc Tryz.prog w base spare held fuel 31 cs=some y) (hx:WOk Tryz.prog 31 y.1):∃ x:Anm,cs=zHc x:=by
 have hl:cs.length=5:=zfH Tryz.underlying31 (by kernel_rfl) h
 obtain⟨f0,e0,_⟩:=zbA Tryz.underlying31 h hx 0 _ rfl rfl (by kernel_rfl) (by omega) Tryz.underlying3
 obtain⟨f1,e1,_⟩:=zbA Tryz.underlying31 h hx 1 _ rfl rfl (by kernel_rfl) (by omega) Tryz.underlying3
 obtain⟨f2,e2,_⟩:=zbA Tryz.underlying31 h hx 2 _ rfl rfl (by kernel_rfl) (by omega) Tryz.underlying3
 obtain⟨f3,e3,_⟩:=zbA Tryz.underlying31 h hx 3 _ rfl rfl (by kernel_rfl) (by omega) Tryz.underlying3
 obtain⟨f4,e4,_⟩:=zbA Tryz.underlying31 h hx 4 _ rfl rfl (by kernel_rfl) (by omega) Tryz.underlying3
 match cs,hl with
 | [c0,c1,c2,c3,c4],_=>
  simp only [List.getElem?_cons_zero,List.getElem?_cons_succ,sI] at e0 e1 e2 e3 e4
  subst e0; subst e1; subst e2; subst e3; subst e4
  exact⟨⟨f0,f1,f2,f3,f4⟩,rfl⟩
theorem zzU {t:TypeId} {fs:Array Field} {fuel:Nat} {cs:List Value} {x:DataW H×List MemPlace} (ht:Tryz.prog.underlying t=some (.struct fs)) (h:DataW.trod enc Tryz.prog w base spare held fuel t cs=some x) (hx:WOk Tryz.prog t x.1) (i:Nat) (f:Field) (hf:fs[i]?=some f) :
  ∃ (y:DataW H×List MemPlace) (m:Nat),DataW.trod enc Tryz.prog w base spare held m f.type ((cs.drop f.offset).take (Tryz.prog.cellsOf f.type))=some y∧WOk Tryz.prog f.type y.1:=by
 obtain⟨ys,m,_,hxe,_,hyl,hg⟩:=DataW.trod_struct ht h
 have hfi:i < fs.size:=by
  rcases Nat.lt_or_ge i fs.size with g | g
  ·exact g
  ·rw [Array.getElem?_eq_none g] at hf; cases hf
 have h1:=hg i f hf
 rw [eG (by omega)] at h1
 refine⟨ys[i]'(by omega),m,h1,?_⟩
 rw [hxe] at hx
 exact zoH ht hx hf (eG (by omega))
theorem open_scene {r:Reach} {b0:Nat} {v:Value} {d:DataW H} {p:List MemPlace} (hv:Value.okWide Tryz.prog w r b0 33 v) (h:DataW.Trod enc Tryz.prog w base spare held 33 v d p) (hx:WOk Tryz.prog 33 d) :
  ∃ (a:Option Addr) (cap:Nat) (S:List ShC) (b:Option Addr) (bcap:Nat) (V:List WlC) (ca:Option Addr) (ccap:Nat) (cs:List ByteArray) (ba:Option Addr) (bcp:Nat) (bs:List Bdr) (x:Anm),zsA w a cap S b bcap V∧zGO w ca ccap cs ba bcp bs ∧
   v=.agg #[.slice a S.length cap,.slice b V.length bcap,.slice ca cs.length ccap,.slice ba bs.length bcp,.int .i64 x.wide,.int .i64 x.high,.int .i64 x.step,.int .i64 x.leap,.int .i64 x.reach]:=by
 obtain⟨ls0,rfl,hsz⟩:=okWide_struct Tryz.underlying33 hv
 obtain⟨fuel,hf⟩:=h
 obtain⟨ls⟩:=ls0
 have hl:ls.length=9:=zfH Tryz.underlying33 (by kernel_rfl) hf
 obtain⟨y0,m0,t0,w0⟩:=zzU (x:=(d,p)) Tryz.underlying33 hf hx 0 _ rfl
 obtain⟨y1,m1,t1,w1⟩:=zzU (x:=(d,p)) Tryz.underlying33 hf hx 1 _ rfl
 obtain⟨y2,m2,t2,w2⟩:=zzU (x:=(d,p)) Tryz.underlying33 hf hx 2 _ rfl
 obtain⟨a,cap,S,b,bcap,V,h1,e1⟩:=zrZ t0 w0
 obtain⟨ca,ccap,cs,ba,bcp,bs,h2,e2⟩:=zEZ t1 w1
 obtain⟨x,e3⟩:=zEX t2 w2
 refine⟨a,cap,S,b,bcap,V,ca,ccap,cs,ba,bcp,bs,x,h1,h2,?_⟩
 match ls,hl with
 | [c0,c1,c2,c3,c4,c5,c6,c7,c8],_=>
  have k1:Tryz.prog.cellsOf 25=2:=by kernel_rfl
  have k2:Tryz.prog.cellsOf 29=2:=by kernel_rfl
  have k3:Tryz.prog.cellsOf 31=5:=by kernel_rfl
  have e1:(([c0,c1,c2,c3,c4,c5,c6,c7,c8]:List Value).drop 0).take (Tryz.prog.cellsOf 25)=_:=e1
  have e2:(([c0,c1,c2,c3,c4,c5,c6,c7,c8]:List Value).drop 2).take (Tryz.prog.cellsOf 29)=_:=e2
  have e3:(([c0,c1,c2,c3,c4,c5,c6,c7,c8]:List Value).drop 4).take (Tryz.prog.cellsOf 31)=_:=e3
  rw [k1] at e1; rw [k2] at e2; rw [k3] at e3
  simp only [List.drop_zero,List.drop_succ_cons,List.take_succ_cons,List.take_zero,List.cons.injEq,and_true] at e1 e2 e3
  obtain⟨rfl,rfl⟩:=e1
  obtain⟨rfl,rfl⟩:=e2
  obtain⟨rfl,rfl,rfl,rfl,rfl⟩:=e3
  rfl
theorem open_i64 {r:Reach} {b0:Nat} {v:Value} {d:DataW H} {p:List MemPlace} (hv:Value.okWide Tryz.prog w r b0 3 v) (h:DataW.Trod enc Tryz.prog w base spare held 3 v d p):∃ n:Int,I64 n∧v=.int .i64 n:=by
 obtain⟨n,rfl⟩:=okWide_int Tryz.underlying3 hv
 obtain⟨fuel,hf⟩:=h
 obtain⟨n',e,_,hw⟩:=DataW.trod_int Tryz.underlying3 hf
 simp only [Value.cells,List.cons.injEq,Value.int.injEq,true_and,and_true] at e
 subst e
 exact⟨n,bounds_i64 hw,rfl⟩
end
end Go.Proofs.YteepmmghanbllaaGreatDoor
namespace Go.Proofs.YteepmmghanbllaaGreatDoor
open Go Go.K
theorem jf_maps:mapsRowed Tryz.prog=true:=by kernel_rfl
theorem jf_stops:(Tryz.prog.stops == [])=true:=by kernel_rfl
theorem jf_knobs:(Tryz.prog.stopKnobs == [])=true:=by kernel_rfl
theorem jf_keys:(Rows.fieldCrossesRow.plainKeys == Tryz.prog.plainKeys)=true:=by kernel_rfl
theorem jf_heard:Tryz.prog.stopsHeard=true:=by kernel_rfl
theorem jf_enter:Tryz.prog.mayEnter=true:=by kernel_rfl
theorem jf_final:(Rows.fieldCrossesRow.lifted == Tryz.prog.liftsFinal)=true:=by kernel_rfl
theorem jf_make:(Tryz.prog.make == some Rows.fieldCrossesRow.make)=true:=by kernel_rfl
theorem and_t {a b:Bool} (h1:a=true) (h2:b=true):(a&&b)=true:=by rw [h1,h2]; rfl
end Go.Proofs.YteepmmghanbllaaGreatDoor