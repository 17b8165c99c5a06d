/- What the proof of the root text leans on, part 10: the layer, plain facts and walks. No statement of the seat is proved in this text. -/
import Derived.ChangeSame
import Derived.Deep.Slices
import Derived.Handed
import Derived.HandedShaped
import Derived.LaidHandle
import Derived.LaidLaws
import Derived.LaidMore
import Derived.Lay
import Derived.Lib.LaidU8
import Derived.OpenShut
import Derived.ProofKit
import Derived.Shelf.Vars
import Derived.SizedLaws
import Derived.Stop.Joined
import Derived.Test.YteepmmghanbllaaGreatDoorRows
import Derived.WideKeyArgs
import Derived.Test.YteepmmghanbllaaGreatDoorFw9
set_option maxRecDepth 100000
set_option maxHeartbeats 32000000
namespace Go.Proofs.YteepmmghanbllaaGreatDoor
open Go.K Go.Stn Go.Pln Go.Fld Go.RowKit
theorem tf76:TF Tryz.prog 76 false 1 (A none 0 0):=tK
theorem tf95:TF Tryz.prog 95 true 3 (.agg #[O 0,A none 0 0,.bool false]):=tK
theorem zIs:FO Tryz.prog 95 0 0:=fK
theorem zIi:FO Tryz.prog 95 1 1:=fK
theorem zIt:FO Tryz.prog 95 2 2:=fK
theorem zIy:FO Tryz.prog 160 0 0:=fK
theorem se76:SE Tryz.prog 76 160 2:=⟨Tryz.underlying76,by kernel_rfl⟩
theorem se92:SE Tryz.prog 92 95 3:=⟨Tryz.underlying92,by kernel_rfl⟩
theorem af76:AF Tryz.prog 76 160 2 16 [O 0,O 0]:=⟨Tryz.underlying76,by kernel_rfl,rfl⟩
theorem af92:AF Tryz.prog 92 95 3 40 [O 0,A none 0 0,.bool false]:=⟨Tryz.underlying92,by kernel_rfl,rfl⟩
theorem en26:En Tryz.prog 26:=eK Tryz.func26
theorem en64:En Tryz.prog 64:=eK Tryz.func64
theorem en66:En Tryz.prog 66:=eK Tryz.func66
theorem zIl (x0:Int) (x1a:yO) (x1n x1c:Nat) (x2:Bool) (w:World):(Instr.build 95 #[(0,O x0),(1,A x1a x1n x1c),(2,.bool x2)]).run Tryz.prog w=.ok (.agg #[O x0,A x1a x1n x1c,.bool x2]) w:=by kernel_rfl
theorem zIp (x0 x1:Int) (w:World):(Instr.build 160 #[(0,O x0),(1,O x1)]).run Tryz.prog w=.ok (.agg #[O x0,O x1]) w:=by kernel_rfl
theorem zJD (x0_0 x0_1:Int) (w:World):(Instr.buildSlice 76 1 #[(0,.agg #[O x0_0,O x0_1])]).run Tryz.prog w=.ok (A (some ⟨w.heap.size,0,none⟩) 1 1) (w.alloc (.cells (([⟨x0_0,x0_1⟩]:List (Int×Int)).flatMap zyQ).toArray 160)):=by kernel_rfl
abbrev rowT (z:TrkR):Res:=Row z.2.1 2 z.2.2 160 zyQ (stpL z.1.l)
theorem zJe (t o:Trk) (a:yO) (cap:Nat) (b:yO) (bcap:Nat) (w:World) (hl:Has w (zaW a 2 zyQ (stpL t.l))) (_hs:t.l.length≤300000) (hm:Has w (zaW b 2 zyQ (stpL o.l))) (hs2:o.l.length≤300000) :
  Calls Tryz.prog 66 #[.agg #[O t.eff,A a (stpL t.l).length cap,.bool t.there],.agg #[O o.eff,A b (stpL o.l).length bcap,.bool o.there]] w (Pure (.bool (zIg t o)) w):=by
 have l1:(stpL t.l).length=t.l.length:=zIA
 have l2:(stpL o.l).length=o.l.length:=zIA
 refine zan (vs:=[_,_]) Tryz.func66 I I (bL I) (gS (zaG I I (za3 (vs:=[_,_,_]) I I) λ b2=>(zaG I I (za3 (vs:=[_,_,_]) I I) λ b3=>(gA I (gN [2,3,4] I (zac (zac (gZ 10 (ph_y (zab zIt I) (ph_y (zah 0 tf4 I I I) (ph_y (zbR I) (ph_y (zaf I) (zaz I I (λ jj=>by(try rw [jj]);exact zab zIs I) (zaz I I (λ jj=>by(try rw [jj]);exact zah 1 tf3 I I I) (zaz I I (λ jj=>by(try rw [jj]);exact zab zIs I) (zaz I I (λ jj=>by(try rw [jj]);exact zah 0 tf3 I I I) (zaz I I (λ jj=>by(try rw [jj]);exact zcr I I) (ph_y (zaR I I I) (gN [2,3,4,15] I (zap I (λ hc15=>?_) (λ hc15=>?_)))))))))))))))))))))
 ·refine zac (gZ 11 (ph_y (zab zIt I) (ph_y (zah 0 tf4 I I I) (ph_y (zbR I) (ph_y (zaf I) (zaz I I (λ jj=>by(try rw [jj]);exact zab zIs I) (zaz I I (λ jj=>by(try rw [jj]);exact zah 1 tf3 I I I) (zaz I I (λ jj=>by(try rw [jj]);exact zab zIs I) (zaz I I (λ jj=>by(try rw [jj]);exact zah 0 tf3 I I I) (zaz I I (λ jj=>by(try rw [jj]);exact zbw I I) (ph_y (zaR I I I) (ph_y (zad I) (gN [2,3,4] I (zaw (zay (zaC I (zau I)) ?_)))))))))))))))
  rw [zJ4 hc15]
 ·have hq:=zJ5 hc15
  refine zaq (zac (gS (gQ (zab zIi I) (gQ (zah 1 tf76 I I I) (gQ (zaV (Tryz.underlying76) I) (gQ (zab zIi I) (gQ (zah 0 tf76 I I I) (gQ (zaV (Tryz.underlying76) I) (gQ (zcr I I) (gN [2,3,4,32] I (zap I (λ hc32=>?_) (λ hc32=>?_))))))))))))
  ·have hn:¬ t.l.length=o.l.length:=by intro h;rw [l1,l2,h] at hc32;simp at hc32
   refine gS (gQ (zab zIi I) (gQ (zah 1 tf76 I I I) (gQ (zaV (Tryz.underlying76) I) (gQ (zab zIi I) (gQ (zah 0 tf76 I I I) (gQ (zaV (Tryz.underlying76) I) (gQ (zbw I I) (gA I (gN [2,3,4] I (zaw (zay (zaC I (zau I)) ?_)))))))))))
   rw [zJ6 hq hn,l1,l2];exact congrArg Value.bool (decide_eq_decide.2 (by omega))
  ·have he:t.l.length=o.l.length:=by rw [l1,l2] at hc32;simp only [nF,dT] at hc32;omega
   refine zaq (zac (gS (gA I (gN [2,3,4,5] I (zas (zbf (X:=Int) (λ(i:Int)=>[(2,Z b2),(3,Z b3),(4,.bool false),(5,O i)]) (λ(i:Int)=>[Box b3 [O o.eff,A b (stpL o.l).length bcap,.bool o.there] 95,Box b2 [O t.eff,A a (stpL t.l).length cap,.bool t.there] 95]) (λ(i:Int)=>(0≤i∧i≤t.l.length∧∀ j:Nat,(j:Int)<i→(zIh t.l).getD j default=(zIh o.l).getD j default)) (λ(i:Int)=>(t.l.length - i).toNat) 0 ⟨I,I,I,I,trivial⟩ rfl ?_ ?_))))))
   ·exact⟨by omega,by omega,λ j hj=>by omega⟩
   ·rintro i hI
    obtain⟨g0,g1,g2⟩:=hI
    refine zac (gS (gM I (gQ (zab zIi I) (gQ (zah 1 tf76 I I I) (gQ (zaV (Tryz.underlying76) I) (gQ (zbw I I) (gN [2,3,4,5,44] I (zap I (λ hc44=>?_) (λ hc44=>?_)))))))))
    ·have hc44:=oT hc44
     refine zaq (zac (zas (zac (gZ 13 (ph_y (zab zIi I) (ph_y (zah 1 tf76 I I I) (ph_y (zaf I) (ph_y (zaE se76 I I (λ _=>rH hl)) (ph_y (zbh zIy I (λ w hw=>zaO (i:=i) (rH hl hw))) (ph_y (zbn tf3 I (λ _=>rH hl) (by omega) (by omega) I) (ph_y (zab zIi I) (ph_y (zah 0 tf76 I I I) (ph_y (zaf I) (ph_y (zaE se76 I I (λ _=>rH hm)) (ph_y (zbh zIy I (λ w hw=>zaO (i:=i) (rH hm hw))) (ph_y (zbn tf3 I (λ _=>rH hm) (by omega) (by omega) I) (ph_y (zcr I I) (gN [2,3,4,5,59] I (zap I (λ hc59=>?_) (λ hc59=>?_))))))))))))))))))))
     ·have hd:¬ (zIh t.l).getD i.toNat default=(zIh o.l).getD i.toNat default:=by rw [←zIu,←zIu];simpa only [nT,dF] using hc59
      refine zac (gZ 14 (ph_y (zab zIi I) (ph_y (zah 1 tf76 I I I) (ph_y (zaf I) (ph_y (zaE se76 I I (λ _=>rH hl)) (ph_y (zbh zIy I (λ w hw=>zaO (i:=i) (rH hl hw))) (ph_y (zbn tf3 I (λ _=>rH hl) (by omega) (by omega) I) (ph_y (zab zIi I) (ph_y (zah 0 tf76 I I I) (ph_y (zaf I) (ph_y (zaE se76 I I (λ _=>rH hm)) (ph_y (zbh zIy I (λ w hw=>zaO (i:=i) (rH hm hw))) (ph_y (zbn tf3 I (λ _=>rH hm) (by omega) (by omega) I) (ph_y (zbw I I) (ph_y (zad I) (gN [2,3,4,5] I (zaw (zay (zaC I (zau I)) ?_))))))))))))))))))
      rw [zJE hq he,zJF (i:=i.toNat) (by rw [zId,zId];exact he) (by rw [zId];omega) (λ j hj=>g2 j (by omega)) hd,←zIu,←zIu]
     ·have hd:(zIh t.l).getD i.toNat default=(zIh o.l).getD i.toNat default:=by rw [←zIu,←zIu];simpa only [nF,dT] using hc59
      refine zaq (zaa (gM I (gQ (zaY I I) (gA I (gN [2,3,4,5] I ?_)))))
      exact za1 _ ⟨I,I,I,I,trivial⟩ rfl ⟨by omega,by omega,λ j hj=>if h:(j:Int)<i then g2 j h else(by rw [show j=i.toNat from by omega];exact hd)⟩ (by omega)
    ·have hc44:=oD hc44
     refine za8 I (gS (gA I (gN [4] I (zaw (zay (zaC I (zau I)) ?_)))))
     rw [zJE hq he,zJx (by rw [zId,zId];exact he) (λ j hj=>g2 j (by rw [zId] at hj;omega))]
theorem zJh (a:yO) (cap:Nat) (S:List ShC) (b:yO) (bcap:Nat) (V:List WlC) (ca:yO) (ccap:Nat) (cs:List ByteArray) (ba:yO) (bcp:Nat) (bs:List Bdr) (x:Anm) (frm:Int) (cla:yO) (clc:Nat) (cl:List Int) (w:World) (hl:yag w a S) (hs:zaP S.length) (hcS:S.length≤cap) (hlw:yah w b V) (hsw:zaP V.length) (hsh:yab S w) (hss:yac S) (hwo:yaa V w) (hsv:yae V) (hcp:yad V) (hkn:yaf V) (hc:yai w ca cs) (hcs:zaP cs.length) (hcap:cs.length≤ccap) (hbd:yaj w ba bs) (hbs:zaP bs.length) (hok:(zym S V cs bs x)=true) (h0:0≤frm) (h1:frm<cs.length) (hcl:Has w (Ints cla cl)) (hcls:zaP cl.length) :
  Calls Tryz.prog 38 #[zzz3 a S cap b V bcap,zzz4 ca cs ccap ba bs bcp,zzz1 x,O frm,.slice cla cl.length clc] w (zcU (λ z:Option Addr×Nat×List TrkR=>.slice z.1 z.2.2.length z.2.1) (λ z=>zDo (Best (zyj S V bs x) (mayC cl) cs.length frm (trkL z.2.2)) (SepR [Row z.1 3 z.2.1 95 zIf z.2.2,Go.K.Rows rowT z.2.2])) w):=by
 obtain⟨_,hcs40,hbs80,_,_,hbo⟩:=zzD hok
 have hp:=zBa hok
 have heff:=zI5 hok
 have hcell:=zIr hok
 have hlw_:(zyj S V bs x).length=bs.length:=zz5
 have hrl:(List.replicate cs.length (default:TrkR)).length=cs.length:=List.length_replicate ..
 refine zan (vs:=[_,_,_,_,_]) Tryz.func38 I I (bL I) (gS (zaG I I (za3 (vs:=[_,_]) I I) λ b5=>(zaG I I (za3 (vs:=[_,_]) I I) λ b6=>(zaG I I (za3 (vs:=[_,_,_,_,_]) I I) λ b7=>(gA I (gN [3,4,5,6,7,10] I (gS (gQ (zab zAp I) (gQ (zah 1 tf26 I I I) (gQ (zaV (Tryz.underlying26) I) (zaG I I (zB1 (n:=cs.length) (default:TrkR) af92 I I zIc I (by omega) (by omega)) λ b25=>(gA I (gN [3,4,5,6,7,10,11] I (gS (gM I (gM I (gQ (zaE se92 I I (λ _ hw=>(zam zIc (hw.has (p:=0) I)))) (gQ (zbh zIt I (λ w hw=>zaO (i:=frm) (zam zIc (hw.has (p:=0) I)))) (zfG (x':=({ ((List.replicate cs.length (default:TrkR)).getD frm.toNat default).1 with there:=true },((List.replicate cs.length (default:TrkR)).getD frm.toNat default).2)) 0 zIc tf4 I I (vs:=[_]) I I (by decide) I I (by omega) (by omega) (gN [4,5,6,7,10,11] I ?_))))))))))))))))))))
 refine zae (T':=[(4,_),(5,_),(6,_),(7,_),(10,_),(11,.slice (some ⟨b25,0,none⟩) (trk0 cs.length frm).length cs.length)]) ⟨I,I,I,I,I,(by show some (Value.slice _ (List.replicate cs.length (default:TrkR)).length _)=some (Value.slice _ (trk0 cs.length frm).length _);rw [zIW,List.length_replicate]),trivial⟩ (za2 (R':=Row (some ⟨b25,0,none⟩) 3 cs.length 95 zIf (trk0 cs.length frm)) 0 I (λ B w hA=>by rw [zJB] at hA;exact hA) (zIL rowT (trk0 cs.length frm) (λ w z hz=>by obtain⟨e1,e2⟩:=zJA hz;show(Row z.2.1 2 z.2.2 160 zyQ (stpL z.1.l)).A _ _;rw [e2,e1];exact zAR) (zac (gS (gA I (gN [4,5,6,7,10,11,12] I (zas ?_)))))))
 refine zbf (X:=Bool×List TrkR) (λ⟨cg,L⟩=>[(4,.slice cla cl.length clc),(5,Z b5),(6,Z b6),(7,Z b7),(10,.slice none 0 0),(11,.slice (some ⟨b25,0,none⟩) L.length cs.length),(12,.bool cg)]) (λ⟨cg,L⟩=>[Go.K.Rows rowT L,Row (some ⟨b25,0,none⟩) 3 cs.length 95 zIf L,Box b7 (zzz2 x) 31,Box b6 (zzz6 ca cs ccap ba bs bcp) 29,Box b5 (zzz5 a S cap b V bcap) 25]) (λ⟨cg,L⟩=>(Imp (zyj S V bs x) (mayC cl) cs.length frm (trkL L)∧L.length=cs.length∧(cg=false→FixN (zyj S V bs x) (mayC cl) (trkL L) bs.length))) (λ⟨cg,L⟩=>(if cg=true then zIj (trkL L)+1 else 0)) (true,(trk0 cs.length frm)) (sB I) I ?_ ?_
 ·exact⟨zJz h0 h1,zIW,λ h=>by cases h⟩
 ·rintro ⟨cg,L⟩ hI
  obtain⟨himp,hln,hfix⟩:=hI
  refine zac (gS (gM I (gN [4,5,6,7,10,11,12,30] I (zap I (λ hc30=>?_) (λ hc30=>?_)))))
  ·refine zaq (zas (gS (gA I (gN [4,5,6,7,10,11,12] I (gS (gA I (gN [4,5,6,7,10,11,12,13] I (zas (zbf (X:=Int×Bool×List TrkR) (λ⟨i,c2,L2⟩=>[(4,.slice cla cl.length clc),(5,Z b5),(6,Z b6),(7,Z b7),(10,.slice none 0 0),(11,.slice (some ⟨b25,0,none⟩) L2.length cs.length),(12,.bool c2),(13,O i)]) (λ⟨i,c2,L2⟩=>[Go.K.Rows rowT L2,Row (some ⟨b25,0,none⟩) 3 cs.length 95 zIf L2,Box b7 (zzz2 x) 31,Box b6 (zzz6 ca cs ccap ba bs bcp) 29,Box b5 (zzz5 a S cap b V bcap) 25]) (λ⟨i,c2,L2⟩=>((0≤i∧i≤bs.length)∧Imp (zyj S V bs x) (mayC cl) cs.length frm (trkL L2)∧L2.length=cs.length∧zIj (trkL L2)+(if c2=true then 1 else 0)≤zIj (trkL L)∧(c2=false→FixN (zyj S V bs x) (mayC cl) (trkL L2) i.toNat))) (λ⟨i,c2,L2⟩=>(bs.length - i).toNat) (0,false,L) (sB I) I ?_ ?_)))))))))
   ·exact⟨⟨by omega,by omega⟩,himp,hln,by simp,λ _=>zJZ⟩
   ·rintro ⟨i,c2,L2⟩ hI
    obtain⟨⟨i0,i1⟩,himp2,hln2,hrk2,hfix2⟩:=hI
    refine zac (gS (gM I (gQ (zab zzL I) (gQ (zah 3 tf27 I I I) (gQ (zaV (Tryz.underlying27) I) (gQ (zbw I I) (gN [4,5,6,7,10,11,12,13,35] I (zap I (λ hc35=>?_) (λ hc35=>?_)))))))))
    ·have hc35:=oT hc35
     have i1:i<bs.length:=hc35
     have hwf:=zJW hok i0 i1
     have hbf:=zzq (hbo i.toNat (by omega))
     refine zaq (zac (zas (zac (gS (gM I (gM I (gQ (zaJ en64 I (λ w hw=>zKb _ _ cl i w (rH hcl hw) (by first|assumption|(unfold zaP;omega)))) (gN [4,5,6,7,10,11,12,13,40] I (zap I (λ hc40=>?_) (λ hc40=>?_))))))))))
     ·refine za8 I (zaa (gM I (gQ (zaY I I) (gA I (gN [4,5,6,7,10,11,12,13] I ?_)))))
      exact za1 (i+1,c2,L2) (sB I) I ⟨⟨by omega,by omega⟩,himp2,hln2,hrk2,λ hf=>zID hok i0 (hfix2 hf) (zJa (by rw [mayC,hwf.2.2.2.2.1,hc40];rfl)) (zJa (by rw [mayC,hwf.2.2.2.2.2,hc40];rfl))⟩ (by simp only [];omega)
     ·have hmay0:(mayC cl) (wayI S V bs x i false)=true:=by rw [mayC,hwf.2.2.2.2.1,hc40];rfl
      have hmay1:(mayC cl) (wayI S V bs x i true)=true:=by rw [mayC,hwf.2.2.2.2.2,hc40];rfl
      refine zaq (gS (gA I (gN [4,5,6,7,10,11,12,13,14] I (zas (zbf (X:=Int×Bool×List TrkR) (λ⟨k,c3,L3⟩=>[(4,.slice cla cl.length clc),(5,Z b5),(6,Z b6),(7,Z b7),(10,.slice none 0 0),(11,.slice (some ⟨b25,0,none⟩) L3.length cs.length),(12,.bool c3),(13,O i),(14,O k)]) (λ⟨k,c3,L3⟩=>[Go.K.Rows rowT L3,Row (some ⟨b25,0,none⟩) 3 cs.length 95 zIf L3,Box b7 (zzz2 x) 31,Box b6 (zzz6 ca cs ccap ba bs bcp) 29,Box b5 (zzz5 a S cap b V bcap) 25]) (λ⟨k,c3,L3⟩=>((0≤k∧k≤2)∧Imp (zyj S V bs x) (mayC cl) cs.length frm (trkL L3)∧L3.length=cs.length∧zIj (trkL L3)+(if c3=true then 1 else 0)≤zIj (trkL L)∧(c3=false→FixN (zyj S V bs x) (mayC cl) (trkL L3) i.toNat∧(1≤k→fixC (zyj S V bs x) (mayC cl) (trkL L3) (wayI S V bs x i false))∧(2≤k→fixC (zyj S V bs x) (mayC cl) (trkL L3) (wayI S V bs x i true))))) (λ⟨k,c3,L3⟩=>(2 - k).toNat) (0,c2,L2) (sB I) I ?_ ?_)))))
      ·exact⟨⟨by omega,by omega⟩,himp2,hln2,hrk2,λ hf=>⟨hfix2 hf,λ h=>absurd h (by decide),λ h=>absurd h (by decide)⟩⟩
      ·rintro ⟨k,c3,L3⟩ hI
       obtain⟨⟨k0,k1⟩,himp3,hln3,hrk3,hfix3⟩:=hI
       refine zac (gS (gM I (gQ (zbw I I) (gN [4,5,6,7,10,11,12,13,14,42] I (zap I (λ hc42=>?_) (λ hc42=>?_))))))
       ·have hc42:=oT hc42
        have hk01:k=0∨k=1:=by omega
        rcases hk01 with hk|hk
        ·refine zae (T':=[(4,_),(5,_),(6,_),(7,_),(10,_),(11,_),(12,_),(13,_),(14,O 0),(42,_)]) ⟨I,I,I,I,I,I,I,I,(by show some (Value.int .i64 k)=_;rw [hk]),I,trivial⟩ ?_
         rw [hk] at hfix3
         have hr:=zC7 hok i0 i1 false
         refine zaq (zac (zas (gS (gQ (zab zzL I) (gQ (zah 3 tf27 I I I) (gM I (gQ (zaE se27 I I (λ _=>rH hbd)) (gQ (zbv (vs:=[_,_,_,_,_,_]) zAU I (λ _=>rH hbd) (by omega) (by omega) I) (zaG I I (zaL zAU (zs:=[_,_,_,_,_,_]) I) λ b15=>(zaA 0 zAU I I (vs:=[_,_,_,_,_,_]) I I I I I (gN [4,5,6,7,10,11,12,13,14,15] I (zac (gZ 6 (ph_y (zab zCa I) (ph_y (zah 0 tf3 I I I) (ph_y (zab zCb I) (ph_y (zah 0 tf3 I I I) (ph_y (zad I) (ph_y (zad I) (gN [4,5,6,7,10,11,12,13,14,16,17] I (zac (gS (gM I (gQ (zbL I I) (gN [4,5,6,7,10,11,12,13,14,16,17,55] I (zd8 I (zaq (gS (gQ (zat 5 tf25 I I (vs:=[_,_]) I I) (gQ (zat 4 tf29 I I (vs:=[_,_]) I I) (gQ (zat 3 tf31 I I (vs:=[_,_,_,_,_]) I I) (gM I (gM I (gQ (zbL I I) (gQ (zaJ en26 I (λ w hw=>zEb _ _ S _ _ V _ _ cs _ _ bs x i false w (rH hl hw) hs hcS (rH hlw hw) hsw (λ z hz=>(rH (hsh z hz) hw)) hss (λ z hz=>(rH (hwo z hz) hw)) hsv hcp hkn (rH hc hw) hcs hcap (rH hbd hw) hbs hok i0 i1)) (gM I (gQ (zaB I I) ?_)))))))))))))))))))))))))))))))))))))
         refine gQ (zaB I I) (gQ (zaB I I) (gA I (gA I (gA I (gN [4,5,6,7,10,11,12,13,14,16,17,18,19,20] I (zac (zac (gZ 10 (ph_y (zaf I) (ph_y (zbR I) (ph_y (zaf I) (zaz I I (λ jj=>by(try rw [jj]);exact zaf I) (zaz I I (λ jj=>by(try rw [jj]);exact zaf I) (zaz I I (λ jj=>by(try rw [jj]);exact zaE se92 I I (λ _ hw=>(zam zIc (hw.has (p:=2) I)))) (zaz I I (λ jj=>by(try rw [jj]);exact zbh zIt I (λ w hw=>zaO (i:=(bs.getD i.toNat default).a) (zam zIc (hw.has (p:=2) I)))) (zaz I I (λ jj=>by(try rw [jj]);exact zbn tf4 I (λ _ hw=>(zam zIc (hw.has (p:=2) I))) (by omega) (by omega) I) (zaz I I (λ jj=>by(try rw [jj]);exact zbR I) (ph_y (zaR I I I) (gN [4,5,6,7,10,11,12,13,14,16,17,18,19,78] I (zap I (λ hc78=>?_) (λ hc78=>?_)))))))))))))))))))))
         ·have hfc:=zIP (may:=(mayC cl)) (L:=L3) hok i0 i1 false (by rw [hwf.1];exact hc78)
          refine za8 I (zaa (gM I (gQ (zaY I I) (gA I (gN [4,5,6,7,10,11,12,13,14] I (zaK 0 I ?_))))))
          exact za1 (1,c3,L3) (sB I) I ⟨⟨by decide,by decide⟩,himp3,hln3,hrk3,λ hf=>⟨(hfix3 hf).1,λ _=>hfc,λ h=>absurd h (by decide)⟩⟩ (by simp only [];omega)
         ·have hsome:(acrB S V x (bs.getD i.toNat default) false ((zaN S V (bs.getD i.toNat default).wall).s.opens.length+1)).some=true∧(L3.getD (bs.getD i.toNat default).a.toNat default).1.there=true:=by simp only [oF,nF] at hc78;exact hc78
          have hway:=(hr.2 hsome.1).2.1
          have heffc:=(hr.2 hsome.1).2.2
          have hus:=zJp (may:=(mayC cl)) hok i0 i1 (back:=false) hsome.1 hmay0
          have hec:1≤(acrB S V x (bs.getD i.toNat default) false ((zaN S V (bs.getD i.toNat default).wall).s.opens.length+1)).eff∧(acrB S V x (bs.getD i.toNat default) false ((zaN S V (bs.getD i.toNat default).wall).s.opens.length+1)).eff≤7001:=by have h:=heff _ hus.1 hus.2.1;rw [heffc] at h;exact h
          have hxl:=zIz hp hbs80 himp3 hcs40.2 (i:=(bs.getD i.toNat default).a.toNat) (by omega)
          rw [zIe] at hxl
          have hyl:=zIz hp hbs80 himp3 hcs40.2 (i:=(bs.getD i.toNat default).b.toNat) (by omega)
          rw [zIe] at hyl
          have hsl:(stpL (L3.getD (bs.getD i.toNat default).a.toNat default).1.l).length=(L3.getD (bs.getD i.toNat default).a.toNat default).1.l.length:=zIA
          have hxx:(extT (L3.getD (bs.getD i.toNat default).a.toNat default).1 (wayI S V bs x i false)).l.length=(L3.getD (bs.getD i.toNat default).a.toNat default).1.l.length+1:=zI7
          refine zbB 160 zyQ 2 (zaq (zac (zCs [_] (ch [(16,Nat),(19,Nat),(12,(Option Addr×Nat)),(17,(Option Addr×Nat))]) 1000 21 [0,0,3,7,15,0,63,0,0,384,896,1920,3968,0,0,24576,57344,130944,262143,0,1048575] [] I (λ _=>mixed) (by kernel_rfl) (zjK _ ⟨inferInstance,inferInstance,inferInstance,inferInstance,trivial⟩) (pY (λ ρ=>zaf I) (pY (λ ρ=>zaf I) (pY (λ ρ=>zaE se92 I I (λ _ hw=>(zam zIc (hw.has (p:=2) (R:=Row (some ⟨b25,0,none⟩) 3 cs.length 95 zIf L3) (by simp only [zeS,tIs,okSt,rcf,zbe];rfl))))) (pY (λ ρ=>zbh zIs I (λ w hw=>zaO (i:=(bs.getD i.toNat default).a) (zam zIc (hw.has (p:=2) (R:=Row (some ⟨b25,0,none⟩) 3 cs.length 95 zIf L3) (by simp only [zeS,tIs,okSt,rcf,zbe];rfl))))) (pY (λ ρ=>zbn tf3 I (λ _ hw=>(zam zIc (hw.has (p:=2) (R:=Row (some ⟨b25,0,none⟩) 3 cs.length 95 zIf L3) (by simp only [zeS,tIs,okSt,rcf,zbe];rfl)))) (by omega) (by omega) I) (pY (λ ρ=>zaf I) (pY (λ ρ=>zaY I I) (pY (λ ρ=>zaf I) (pY (λ ρ=>zaf I) (pY (λ ρ=>zaE se92 I I (λ _ hw=>(zam zIc (hw.has (p:=2) (R:=Row (some ⟨b25,0,none⟩) 3 cs.length 95 zIf L3) (by simp only [zeS,tIs,okSt,rcf,zbe];rfl))))) ?_)))))))))))))
          refine pY (λ ρ=>zbh zIi I (λ w hw=>zaO (i:=(bs.getD i.toNat default).a) (zam zIc (hw.has (p:=2) (R:=Row (some ⟨b25,0,none⟩) 3 cs.length 95 zIf L3) (by simp only [zeS,tIs,okSt,rcf,zbe];rfl))))) (pY (λ ρ=>zbn tf76 I (λ _ hw=>(zam zIc (hw.has (p:=2) (R:=Row (some ⟨b25,0,none⟩) 3 cs.length 95 zIf L3) (by simp only [zeS,tIs,okSt,rcf,zbe];rfl)))) (by omega) (by omega) I) (zFx (R:=λ ρ=>Row none 2 0 160 zyQ []) (λ z:(Option Addr×Nat)=>.slice z.1 ([]++(stpL (L3.getD ((bs.getD i.toNat default).a).toNat default).1.l)).length z.2) (λ z=>Row z.1 2 z.2 160 zyQ ([]++(stpL (L3.getD ((bs.getD i.toNat default).a).toNat default).1.l))) 1000 I (by kernel_rfl) (by kernel_rfl) (λ _=>by kernel_rfl) (λ ρ=>zBZ (m:=(stpL (L3.getD ((bs.getD i.toNat default).a).toNat default).1.l)) af76 zyJ I I (λ _ hw=>(zam zyJ (zbV (f:=rowT) (hw.has (p:=1) I) (za0 (by omega))))) (by simp only [lN];first|omega|(unfold maxLen;omega)) (by simp only [lN];first|omega|(unfold maxLen;omega))) (pY (λ ρ=>zaf I) (pY (λ ρ=>zaf I) (pY (λ ρ=>zaI I (zIp _ _)) (zFy (λ ρ=>zaD I (zJD _ _) zyJ I) (λ ρ ρ' h=>⟨by rfl,by rfl⟩) ?_))))))
          refine zFx (R:=λ ρ=>Row (ρ 12).1 2 (ρ 12).2 160 zyQ ([]++(stpL (L3.getD ((bs.getD i.toNat default).a).toNat default).1.l))) (λ z:(Option Addr×Nat)=>.slice z.1 (([]++(stpL (L3.getD ((bs.getD i.toNat default).a).toNat default).1.l))++[(⟨i,((acrB S V x (bs.getD i.toNat default) false ((zaN S V (bs.getD i.toNat default).wall).s.opens.length+1)).way)⟩:Int×Int)]).length z.2) (λ z=>Row z.1 2 z.2 160 zyQ (([]++(stpL (L3.getD ((bs.getD i.toNat default).a).toNat default).1.l))++[(⟨i,((acrB S V x (bs.getD i.toNat default) false ((zaN S V (bs.getD i.toNat default).wall).s.opens.length+1)).way)⟩:Int×Int)])) 1000 I (by kernel_rfl) (by kernel_rfl) (λ _=>by kernel_rfl) (λ ρ=>zBZ (m:=[(⟨i,((acrB S V x (bs.getD i.toNat default) false ((zaN S V (bs.getD i.toNat default).wall).s.opens.length+1)).way)⟩:Int×Int)]) af76 zyJ I I (λ _ hw=>(zam zyJ (hw.has (p:=0) (R:=Row (some ⟨(ρ 16),0,none⟩) 2 1 160 zyQ [(⟨i,((acrB S V x (bs.getD i.toNat default) false ((zaN S V (bs.getD i.toNat default).wall).s.opens.length+1)).way)⟩:Int×Int)]) (by simp only [zeS,tIs,okSt,rcf,zbe];rfl)))) (by simp only [List.nil_append,lC,lN];first|omega|(unfold maxLen;omega)) (by simp only [List.nil_append,lC,lN];first|omega|(unfold maxLen;omega))) ?_
          refine zAr (λ ρ=>zaI I (zIl _ _ _ _ _)) (λ ρ ρ' h=>by(first|rfl|(simp only [h 17 I];done)|(simp only [h 17 I];rfl))) (zFy (λ ρ=>zaL tf95 (zs:=[_,_,_]) I) (λ ρ ρ' h=>⟨by rfl,by rfl⟩) (zIb (R:=λ ρ=>Box (ρ 19) [O 0,.slice none 0 0,.bool false] 95) (A:=λ ρ=>Box (ρ 19) [O (((L3.getD ((bs.getD i.toNat default).a).toNat default).1.eff)+((acrB S V x (bs.getD i.toNat default) false ((zaN S V (bs.getD i.toNat default).wall).s.opens.length+1)).eff)),.slice (ρ 17).1 (([]++(stpL (L3.getD ((bs.getD i.toNat default).a).toNat default).1.l))++[(⟨i,((acrB S V x (bs.getD i.toNat default) false ((zaN S V (bs.getD i.toNat default).wall).s.opens.length+1)).way)⟩:Int×Int)]).length (ρ 17).2,.bool true] 95) 19 I I (λ _=>rfl) (λ ρ=>zex tf95 I I (vs:=[_,_,_]) I I I I I) (λ ρ ρ' h=>by(first|rfl|(simp only [h 17 I,h 19 I];done)|(simp only [h 17 I,h 19 I];rfl))) ?_))
          refine λ ρ=>zag (zf4 (X:=Nat×Nat×(Option Addr×Nat)×(Option Addr×Nat)) (ρ 16,ρ 19,ρ 12,ρ 17) (λ⟨b95,b21,m91,m96⟩=>[(4,.slice cla cl.length clc),(5,Z b5),(6,Z b6),(7,Z b7),(10,.slice none 0 0),(11,.slice (some ⟨b25,0,none⟩) L3.length cs.length),(12,.bool c3),(13,O i),(14,O 0),(17,O (bs.getD i.toNat default).b),(21,Z b21)]) (λ⟨b95,b21,m91,m96⟩=>[Box b21 [O (((L3.getD ((bs.getD i.toNat default).a).toNat default).1.eff)+((acrB S V x (bs.getD i.toNat default) false ((zaN S V (bs.getD i.toNat default).wall).s.opens.length+1)).eff)),.slice m96.1 (([]++(stpL (L3.getD ((bs.getD i.toNat default).a).toNat default).1.l))++[(⟨i,((acrB S V x (bs.getD i.toNat default) false ((zaN S V (bs.getD i.toNat default).wall).s.opens.length+1)).way)⟩:Int×Int)]).length m96.2,.bool true] 95,Row (some ⟨b95,0,none⟩) 2 1 160 zyQ [(⟨i,((acrB S V x (bs.getD i.toNat default) false ((zaN S V (bs.getD i.toNat default).wall).s.opens.length+1)).way)⟩:Int×Int)],Row m96.1 2 m96.2 160 zyQ (([]++(stpL (L3.getD ((bs.getD i.toNat default).a).toNat default).1.l))++[(⟨i,((acrB S V x (bs.getD i.toNat default) false ((zaN S V (bs.getD i.toNat default).wall).s.opens.length+1)).way)⟩:Int×Int)]),Box b15 [O (bs.getD i.toNat default).a,O (bs.getD i.toNat default).b,.string (bs.getD i.toNat default).wall,O (bs.getD i.toNat default).gA,O (bs.getD i.toNat default).gB,.bool (bs.getD i.toNat default).shut] 100,Go.K.Rows rowT L3,Row (some ⟨b25,0,none⟩) 3 cs.length 95 zIf L3,Box b7 (zzz2 x) 31,Box b6 (zzz6 ca cs ccap ba bs bcp) 29,Box b5 (zzz5 a S cap b V bcap) 25]) (sB I) I ?_)
          rintro ⟨b95,b21,m91,m96⟩
          have hst:(stpL (extT (L3.getD (bs.getD i.toNat default).a.toNat default).1 (wayI S V bs x i false)).l)=stpL (L3.getD (bs.getD i.toNat default).a.toNat default).1.l++[(i,(acrB S V x (bs.getD i.toNat default) false ((zaN S V (bs.getD i.toNat default).wall).s.opens.length+1)).way)]:=zI8 hwf.2.2.2.2.1 hway
          have hef:(extT (L3.getD (bs.getD i.toNat default).a.toNat default).1 (wayI S V bs x i false)).eff=(L3.getD (bs.getD i.toNat default).a.toNat default).1.eff+(acrB S V x (bs.getD i.toNat default) false ((zaN S V (bs.getD i.toNat default).wall).s.opens.length+1)).eff:=zI6 heffc
          refine za2 (R':=Box b21 [O ((extT (L3.getD (bs.getD i.toNat default).a.toNat default).1 (wayI S V bs x i false)).eff),.slice m96.1 (stpL (extT (L3.getD (bs.getD i.toNat default).a.toNat default).1 (wayI S V bs x i false)).l).length m96.2,.bool (extT (L3.getD (bs.getD i.toNat default).a.toNat default).1 (wayI S V bs x i false)).there] 95) 0 I (λ B w hA=>by rw [hst,hef];exact hA) (za2 (R':=Row m96.1 2 m96.2 160 zyQ (stpL (extT (L3.getD (bs.getD i.toNat default).a.toNat default).1 (wayI S V bs x i false)).l)) 2 I (λ B w hA=>by rw [hst];exact hA) (zac (gZ 6 (ph_y (zat 0 tf95 I I (vs:=[_,_,_]) I I) (ph_y (zaf I) (ph_y (zaf I) (ph_y (zaE se92 I I (λ _ hw=>(zam zIc (hw.has (p:=5) I)))) (ph_y (zbv (vs:=[_,_,_]) tf95 I (λ _ hw=>(zam zIc (hw.has (p:=5) I))) (by omega) (by omega) I) (ph_y (zaJ en66 I (λ w hw=>zJe (extT (L3.getD (bs.getD i.toNat default).a.toNat default).1 (wayI S V bs x i false)) (L3.getD ((bs.getD i.toNat default).b).toNat default).1 _ _ _ _ w (zam zyJ (hw.has (p:=2) I)) (by omega) (zam zyJ (zbV (f:=rowT) (hw.has (p:=4) I) (za0 (by omega)))) (by omega))) (gN [4,5,6,7,10,11,12,13,14,17,21,103] I (zap I (λ hc103=>?_) (λ hc103=>?_))))))))))))
          ·have h4:=zIX hp hbs80 heff hcell hcs40.2 h0 himp3 hus (by rw [hwf.1];exact hsome.2) (by rw [hwf.1,hwf.2.1];exact hc103) (m96.1,m96.2)
           rw [hwf.1,hwf.2.1] at h4
           have himp4:=h4.1
           have hrk4:=h4.2
           refine gS (gM I (gM I (gQ (zat 0 tf95 I I (vs:=[_,_,_]) I I) (gQ (zaE se92 I I (λ _ hw=>(zam zIc (hw.has (p:=5) I)))) (zpR (x':=(((extT (L3.getD (bs.getD i.toNat default).a.toNat default).1 (wayI S V bs x i false)),m96.1,m96.2):TrkR)) 5 zIc tf95 I I (vs:=[_,_,_]) I I I (by omega) (by omega) (gN [4,5,6,7,10,11,12,13,14] I (zao 2 I (zao 4 I (zbT 2 (za2 (R':=Go.K.Rows rowT (L3.set ((bs.getD i.toNat default).b).toNat (((extT (L3.getD (bs.getD i.toNat default).a.toNat default).1 (wayI S V bs x i false)),m96.1,m96.2):TrkR))) 0 I (λ B w hA=>zIV _ hA) (zae (T':=[(4,_),(5,_),(6,_),(7,_),(10,_),(11,.slice (some ⟨b25,0,none⟩) (L3.set ((bs.getD i.toNat default).b).toNat (((extT (L3.getD (bs.getD i.toNat default).a.toNat default).1 (wayI S V bs x i false)),m96.1,m96.2):TrkR)).length cs.length),(12,_),(13,_),(14,_)]) ⟨I,I,I,I,I,(by show some (Value.slice _ L3.length _)=some (Value.slice _ (L3.set ((bs.getD i.toNat default).b).toNat (((extT (L3.getD (bs.getD i.toNat default).a.toNat default).1 (wayI S V bs x i false)),m96.1,m96.2):TrkR)).length _);rw [List.length_set]),I,I,I,trivial⟩ ?_)))))))))))
           have hln4:(L3.set ((bs.getD i.toNat default).b).toNat (((extT (L3.getD (bs.getD i.toNat default).a.toNat default).1 (wayI S V bs x i false)),m96.1,m96.2):TrkR)).length=cs.length:=by rw [List.length_set];exact hln3
           refine zaa (gA I (gN [4,5,6,7,10,11,12,13,14] I (zaa (gM I (gQ (zaY I I) (gA I (gN [4,5,6,7,10,11,12,13,14] I (zaK 1 I (zaK 1 I (zaK 1 I ?_))))))))))
           exact za1 (1,true,(L3.set ((bs.getD i.toNat default).b).toNat (((extT (L3.getD (bs.getD i.toNat default).a.toNat default).1 (wayI S V bs x i false)),m96.1,m96.2):TrkR))) (sB I) I ⟨⟨by decide,by decide⟩,himp4,hln4,by rw [if_pos I];omega,λ hf=>by cases hf⟩ (by simp only [];omega)
          ·have hfc:fixC (zyj S V bs x) (mayC cl) (trkL L3) (wayI S V bs x i false):=zIQ (by rw [zIe,zIe,hwf.1,hwf.2.1];exact hc103)
           refine zaq (zaa (gM I (gQ (zaY I I) (gA I (gN [4,5,6,7,10,11,12,13,14] I (zaK 0 I (zaK 0 I (zaK 0 I (zaK 0 I ?_)))))))))
           exact za1 (1,c3,L3) (sB I) I ⟨⟨by decide,by decide⟩,himp3,hln3,hrk3,λ hf=>⟨(hfix3 hf).1,λ _=>hfc,λ h=>absurd h (by decide)⟩⟩ (by simp only [];omega)
        ·refine zae (T':=[(4,_),(5,_),(6,_),(7,_),(10,_),(11,_),(12,_),(13,_),(14,O 1),(42,_)]) ⟨I,I,I,I,I,I,I,I,(by show some (Value.int .i64 k)=_;rw [hk]),I,trivial⟩ ?_
         rw [hk] at hfix3
         have hr:=zC7 hok i0 i1 true
         refine zaq (zac (zas (gS (gQ (zab zzL I) (gQ (zah 3 tf27 I I I) (gM I (gQ (zaE se27 I I (λ _=>rH hbd)) (gQ (zbv (vs:=[_,_,_,_,_,_]) zAU I (λ _=>rH hbd) (by omega) (by omega) I) (zaG I I (zaL zAU (zs:=[_,_,_,_,_,_]) I) λ b15=>(zaA 0 zAU I I (vs:=[_,_,_,_,_,_]) I I I I I (gN [4,5,6,7,10,11,12,13,14,15] I (zac (gZ 6 (ph_y (zab zCa I) (ph_y (zah 0 tf3 I I I) (ph_y (zab zCb I) (ph_y (zah 0 tf3 I I I) (ph_y (zad I) (ph_y (zad I) (gN [4,5,6,7,10,11,12,13,14,16,17] I (zac (gS (gM I (gQ (zbL I I) (gN [4,5,6,7,10,11,12,13,14,16,17,55] I (zdg I (zaa (gM I (gM I (gA I (gA I (gN [4,5,6,7,10,11,12,13,14,16,17] I (gS (gQ (zat 5 tf25 I I (vs:=[_,_]) I I) (gQ (zat 4 tf29 I I (vs:=[_,_]) I I) (gQ (zat 3 tf31 I I (vs:=[_,_,_,_,_]) I I) (gM I ?_)))))))))))))))))))))))))))))))))))))
         refine gM I (gQ (zbL I I) (gQ (zaJ en26 I (λ w hw=>zEb _ _ S _ _ V _ _ cs _ _ bs x i true w (rH hl hw) hs hcS (rH hlw hw) hsw (λ z hz=>(rH (hsh z hz) hw)) hss (λ z hz=>(rH (hwo z hz) hw)) hsv hcp hkn (rH hc hw) hcs hcap (rH hbd hw) hbs hok i0 i1)) (gM I (gQ (zaB I I) (gQ (zaB I I) (gQ (zaB I I) (gA I (gA I (gA I (gN [4,5,6,7,10,11,12,13,14,16,17,18,19,20] I (zac (zac (gZ 10 (ph_y (zaf I) (ph_y (zbR I) (ph_y (zaf I) (zaz I I (λ jj=>by(try rw [jj]);exact zaf I) (zaz I I (λ jj=>by(try rw [jj]);exact zaf I) (zaz I I (λ jj=>by(try rw [jj]);exact zaE se92 I I (λ _ hw=>(zam zIc (hw.has (p:=2) I)))) (zaz I I (λ jj=>by(try rw [jj]);exact zbh zIt I (λ w hw=>zaO (i:=(bs.getD i.toNat default).b) (zam zIc (hw.has (p:=2) I)))) (zaz I I (λ jj=>by(try rw [jj]);exact zbn tf4 I (λ _ hw=>(zam zIc (hw.has (p:=2) I))) (by omega) (by omega) I) (zaz I I (λ jj=>by(try rw [jj]);exact zbR I) (ph_y (zaR I I I) (gN [4,5,6,7,10,11,12,13,14,16,17,18,19,78] I (zap I (λ hc78=>?_) (λ hc78=>?_))))))))))))))))))))))))))
         ·have hfc:=zIP (may:=(mayC cl)) (L:=L3) hok i0 i1 true (by rw [hwf.2.2.1];exact hc78)
          refine za8 I (zaa (gM I (gQ (zaY I I) (gA I (gN [4,5,6,7,10,11,12,13,14] I (zaK 0 I ?_))))))
          exact za1 (2,c3,L3) (sB I) I ⟨⟨by decide,by decide⟩,himp3,hln3,hrk3,λ hf=>⟨(hfix3 hf).1,(λ _=>(hfix3 hf).2.1 (by decide)),λ _=>hfc⟩⟩ (by simp only [];omega)
         ·have hsome:(acrB S V x (bs.getD i.toNat default) true ((zaN S V (bs.getD i.toNat default).wall).s.opens.length+1)).some=true∧(L3.getD (bs.getD i.toNat default).b.toNat default).1.there=true:=by simp only [oF,nF] at hc78;exact hc78
          have hway:=(hr.2 hsome.1).2.1
          have heffc:=(hr.2 hsome.1).2.2
          have hus:=zJp (may:=(mayC cl)) hok i0 i1 (back:=true) hsome.1 hmay1
          have hec:1≤(acrB S V x (bs.getD i.toNat default) true ((zaN S V (bs.getD i.toNat default).wall).s.opens.length+1)).eff∧(acrB S V x (bs.getD i.toNat default) true ((zaN S V (bs.getD i.toNat default).wall).s.opens.length+1)).eff≤7001:=by have h:=heff _ hus.1 hus.2.1;rw [heffc] at h;exact h
          have hxl:=zIz hp hbs80 himp3 hcs40.2 (i:=(bs.getD i.toNat default).b.toNat) (by omega)
          rw [zIe] at hxl
          have hyl:=zIz hp hbs80 himp3 hcs40.2 (i:=(bs.getD i.toNat default).a.toNat) (by omega)
          rw [zIe] at hyl
          have hsl:(stpL (L3.getD (bs.getD i.toNat default).b.toNat default).1.l).length=(L3.getD (bs.getD i.toNat default).b.toNat default).1.l.length:=zIA
          have hxx:(extT (L3.getD (bs.getD i.toNat default).b.toNat default).1 (wayI S V bs x i true)).l.length=(L3.getD (bs.getD i.toNat default).b.toNat default).1.l.length+1:=zI7
          refine zbB 160 zyQ 2 (zaq (zac (zCs [_] (ch [(16,Nat),(19,Nat),(12,(Option Addr×Nat)),(17,(Option Addr×Nat))]) 1000 21 [0,0,3,7,15,0,63,0,0,384,896,1920,3968,0,0,24576,57344,130944,262143,0,1048575] [] I (λ _=>mixed) (by kernel_rfl) (zjK _ ⟨inferInstance,inferInstance,inferInstance,inferInstance,trivial⟩) (pY (λ ρ=>zaf I) (pY (λ ρ=>zaf I) (pY (λ ρ=>zaE se92 I I (λ _ hw=>(zam zIc (hw.has (p:=2) (R:=Row (some ⟨b25,0,none⟩) 3 cs.length 95 zIf L3) (by simp only [zeS,tIs,okSt,rcf,zbe];rfl))))) (pY (λ ρ=>zbh zIs I (λ w hw=>zaO (i:=(bs.getD i.toNat default).b) (zam zIc (hw.has (p:=2) (R:=Row (some ⟨b25,0,none⟩) 3 cs.length 95 zIf L3) (by simp only [zeS,tIs,okSt,rcf,zbe];rfl))))) (pY (λ ρ=>zbn tf3 I (λ _ hw=>(zam zIc (hw.has (p:=2) (R:=Row (some ⟨b25,0,none⟩) 3 cs.length 95 zIf L3) (by simp only [zeS,tIs,okSt,rcf,zbe];rfl)))) (by omega) (by omega) I) (pY (λ ρ=>zaf I) (pY (λ ρ=>zaY I I) (pY (λ ρ=>zaf I) (pY (λ ρ=>zaf I) (pY (λ ρ=>zaE se92 I I (λ _ hw=>(zam zIc (hw.has (p:=2) (R:=Row (some ⟨b25,0,none⟩) 3 cs.length 95 zIf L3) (by simp only [zeS,tIs,okSt,rcf,zbe];rfl))))) ?_)))))))))))))
          refine pY (λ ρ=>zbh zIi I (λ w hw=>zaO (i:=(bs.getD i.toNat default).b) (zam zIc (hw.has (p:=2) (R:=Row (some ⟨b25,0,none⟩) 3 cs.length 95 zIf L3) (by simp only [zeS,tIs,okSt,rcf,zbe];rfl))))) (pY (λ ρ=>zbn tf76 I (λ _ hw=>(zam zIc (hw.has (p:=2) (R:=Row (some ⟨b25,0,none⟩) 3 cs.length 95 zIf L3) (by simp only [zeS,tIs,okSt,rcf,zbe];rfl)))) (by omega) (by omega) I) (zFx (R:=λ ρ=>Row none 2 0 160 zyQ []) (λ z:(Option Addr×Nat)=>.slice z.1 ([]++(stpL (L3.getD ((bs.getD i.toNat default).b).toNat default).1.l)).length z.2) (λ z=>Row z.1 2 z.2 160 zyQ ([]++(stpL (L3.getD ((bs.getD i.toNat default).b).toNat default).1.l))) 1000 I (by kernel_rfl) (by kernel_rfl) (λ _=>by kernel_rfl) (λ ρ=>zBZ (m:=(stpL (L3.getD ((bs.getD i.toNat default).b).toNat default).1.l)) af76 zyJ I I (λ _ hw=>(zam zyJ (zbV (f:=rowT) (hw.has (p:=1) I) (za0 (by omega))))) (by simp only [lN];first|omega|(unfold maxLen;omega)) (by simp only [lN];first|omega|(unfold maxLen;omega))) (pY (λ ρ=>zaf I) (pY (λ ρ=>zaf I) (pY (λ ρ=>zaI I (zIp _ _)) (zFy (λ ρ=>zaD I (zJD _ _) zyJ I) (λ ρ ρ' h=>⟨by rfl,by rfl⟩) ?_))))))
          refine zFx (R:=λ ρ=>Row (ρ 12).1 2 (ρ 12).2 160 zyQ ([]++(stpL (L3.getD ((bs.getD i.toNat default).b).toNat default).1.l))) (λ z:(Option Addr×Nat)=>.slice z.1 (([]++(stpL (L3.getD ((bs.getD i.toNat default).b).toNat default).1.l))++[(⟨i,((acrB S V x (bs.getD i.toNat default) true ((zaN S V (bs.getD i.toNat default).wall).s.opens.length+1)).way)⟩:Int×Int)]).length z.2) (λ z=>Row z.1 2 z.2 160 zyQ (([]++(stpL (L3.getD ((bs.getD i.toNat default).b).toNat default).1.l))++[(⟨i,((acrB S V x (bs.getD i.toNat default) true ((zaN S V (bs.getD i.toNat default).wall).s.opens.length+1)).way)⟩:Int×Int)])) 1000 I (by kernel_rfl) (by kernel_rfl) (λ _=>by kernel_rfl) (λ ρ=>zBZ (m:=[(⟨i,((acrB S V x (bs.getD i.toNat default) true ((zaN S V (bs.getD i.toNat default).wall).s.opens.length+1)).way)⟩:Int×Int)]) af76 zyJ I I (λ _ hw=>(zam zyJ (hw.has (p:=0) (R:=Row (some ⟨(ρ 16),0,none⟩) 2 1 160 zyQ [(⟨i,((acrB S V x (bs.getD i.toNat default) true ((zaN S V (bs.getD i.toNat default).wall).s.opens.length+1)).way)⟩:Int×Int)]) (by simp only [zeS,tIs,okSt,rcf,zbe];rfl)))) (by simp only [List.nil_append,lC,lN];first|omega|(unfold maxLen;omega)) (by simp only [List.nil_append,lC,lN];first|omega|(unfold maxLen;omega))) ?_
          refine zAr (λ ρ=>zaI I (zIl _ _ _ _ _)) (λ ρ ρ' h=>by(first|rfl|(simp only [h 17 I];done)|(simp only [h 17 I];rfl))) (zFy (λ ρ=>zaL tf95 (zs:=[_,_,_]) I) (λ ρ ρ' h=>⟨by rfl,by rfl⟩) (zIb (R:=λ ρ=>Box (ρ 19) [O 0,.slice none 0 0,.bool false] 95) (A:=λ ρ=>Box (ρ 19) [O (((L3.getD ((bs.getD i.toNat default).b).toNat default).1.eff)+((acrB S V x (bs.getD i.toNat default) true ((zaN S V (bs.getD i.toNat default).wall).s.opens.length+1)).eff)),.slice (ρ 17).1 (([]++(stpL (L3.getD ((bs.getD i.toNat default).b).toNat default).1.l))++[(⟨i,((acrB S V x (bs.getD i.toNat default) true ((zaN S V (bs.getD i.toNat default).wall).s.opens.length+1)).way)⟩:Int×Int)]).length (ρ 17).2,.bool true] 95) 19 I I (λ _=>rfl) (λ ρ=>zex tf95 I I (vs:=[_,_,_]) I I I I I) (λ ρ ρ' h=>by(first|rfl|(simp only [h 17 I,h 19 I];done)|(simp only [h 17 I,h 19 I];rfl))) ?_))
          refine λ ρ=>zag (zf4 (X:=Nat×Nat×(Option Addr×Nat)×(Option Addr×Nat)) (ρ 16,ρ 19,ρ 12,ρ 17) (λ⟨b95,b21,m91,m96⟩=>[(4,.slice cla cl.length clc),(5,Z b5),(6,Z b6),(7,Z b7),(10,.slice none 0 0),(11,.slice (some ⟨b25,0,none⟩) L3.length cs.length),(12,.bool c3),(13,O i),(14,O 1),(17,O (bs.getD i.toNat default).a),(21,Z b21)]) (λ⟨b95,b21,m91,m96⟩=>[Box b21 [O (((L3.getD ((bs.getD i.toNat default).b).toNat default).1.eff)+((acrB S V x (bs.getD i.toNat default) true ((zaN S V (bs.getD i.toNat default).wall).s.opens.length+1)).eff)),.slice m96.1 (([]++(stpL (L3.getD ((bs.getD i.toNat default).b).toNat default).1.l))++[(⟨i,((acrB S V x (bs.getD i.toNat default) true ((zaN S V (bs.getD i.toNat default).wall).s.opens.length+1)).way)⟩:Int×Int)]).length m96.2,.bool true] 95,Row (some ⟨b95,0,none⟩) 2 1 160 zyQ [(⟨i,((acrB S V x (bs.getD i.toNat default) true ((zaN S V (bs.getD i.toNat default).wall).s.opens.length+1)).way)⟩:Int×Int)],Row m96.1 2 m96.2 160 zyQ (([]++(stpL (L3.getD ((bs.getD i.toNat default).b).toNat default).1.l))++[(⟨i,((acrB S V x (bs.getD i.toNat default) true ((zaN S V (bs.getD i.toNat default).wall).s.opens.length+1)).way)⟩:Int×Int)]),Box b15 [O (bs.getD i.toNat default).a,O (bs.getD i.toNat default).b,.string (bs.getD i.toNat default).wall,O (bs.getD i.toNat default).gA,O (bs.getD i.toNat default).gB,.bool (bs.getD i.toNat default).shut] 100,Go.K.Rows rowT L3,Row (some ⟨b25,0,none⟩) 3 cs.length 95 zIf L3,Box b7 (zzz2 x) 31,Box b6 (zzz6 ca cs ccap ba bs bcp) 29,Box b5 (zzz5 a S cap b V bcap) 25]) (sB I) I ?_)
          rintro ⟨b95,b21,m91,m96⟩
          have hst:(stpL (extT (L3.getD (bs.getD i.toNat default).b.toNat default).1 (wayI S V bs x i true)).l)=stpL (L3.getD (bs.getD i.toNat default).b.toNat default).1.l++[(i,(acrB S V x (bs.getD i.toNat default) true ((zaN S V (bs.getD i.toNat default).wall).s.opens.length+1)).way)]:=zI8 hwf.2.2.2.2.2 hway
          have hef:(extT (L3.getD (bs.getD i.toNat default).b.toNat default).1 (wayI S V bs x i true)).eff=(L3.getD (bs.getD i.toNat default).b.toNat default).1.eff+(acrB S V x (bs.getD i.toNat default) true ((zaN S V (bs.getD i.toNat default).wall).s.opens.length+1)).eff:=zI6 heffc
          refine za2 (R':=Box b21 [O ((extT (L3.getD (bs.getD i.toNat default).b.toNat default).1 (wayI S V bs x i true)).eff),.slice m96.1 (stpL (extT (L3.getD (bs.getD i.toNat default).b.toNat default).1 (wayI S V bs x i true)).l).length m96.2,.bool (extT (L3.getD (bs.getD i.toNat default).b.toNat default).1 (wayI S V bs x i true)).there] 95) 0 I (λ B w hA=>by rw [hst,hef];exact hA) (za2 (R':=Row m96.1 2 m96.2 160 zyQ (stpL (extT (L3.getD (bs.getD i.toNat default).b.toNat default).1 (wayI S V bs x i true)).l)) 2 I (λ B w hA=>by rw [hst];exact hA) (zac (gZ 6 (ph_y (zat 0 tf95 I I (vs:=[_,_,_]) I I) (ph_y (zaf I) (ph_y (zaf I) (ph_y (zaE se92 I I (λ _ hw=>(zam zIc (hw.has (p:=5) I)))) (ph_y (zbv (vs:=[_,_,_]) tf95 I (λ _ hw=>(zam zIc (hw.has (p:=5) I))) (by omega) (by omega) I) (ph_y (zaJ en66 I (λ w hw=>zJe (extT (L3.getD (bs.getD i.toNat default).b.toNat default).1 (wayI S V bs x i true)) (L3.getD ((bs.getD i.toNat default).a).toNat default).1 _ _ _ _ w (zam zyJ (hw.has (p:=2) I)) (by omega) (zam zyJ (zbV (f:=rowT) (hw.has (p:=4) I) (za0 (by omega)))) (by omega))) (gN [4,5,6,7,10,11,12,13,14,17,21,103] I (zap I (λ hc103=>?_) (λ hc103=>?_))))))))))))
          ·have h4:=zIX hp hbs80 heff hcell hcs40.2 h0 himp3 hus (by rw [hwf.2.2.1];exact hsome.2) (by rw [hwf.2.2.1,hwf.2.2.2.1];exact hc103) (m96.1,m96.2)
           rw [hwf.2.2.1,hwf.2.2.2.1] at h4
           have himp4:=h4.1
           have hrk4:=h4.2
           refine gS (gM I (gM I (gQ (zat 0 tf95 I I (vs:=[_,_,_]) I I) (gQ (zaE se92 I I (λ _ hw=>(zam zIc (hw.has (p:=5) I)))) (zpR (x':=(((extT (L3.getD (bs.getD i.toNat default).b.toNat default).1 (wayI S V bs x i true)),m96.1,m96.2):TrkR)) 5 zIc tf95 I I (vs:=[_,_,_]) I I I (by omega) (by omega) (gN [4,5,6,7,10,11,12,13,14] I (zao 2 I (zao 4 I (zbT 2 (za2 (R':=Go.K.Rows rowT (L3.set ((bs.getD i.toNat default).a).toNat (((extT (L3.getD (bs.getD i.toNat default).b.toNat default).1 (wayI S V bs x i true)),m96.1,m96.2):TrkR))) 0 I (λ B w hA=>zIV _ hA) (zae (T':=[(4,_),(5,_),(6,_),(7,_),(10,_),(11,.slice (some ⟨b25,0,none⟩) (L3.set ((bs.getD i.toNat default).a).toNat (((extT (L3.getD (bs.getD i.toNat default).b.toNat default).1 (wayI S V bs x i true)),m96.1,m96.2):TrkR)).length cs.length),(12,_),(13,_),(14,_)]) ⟨I,I,I,I,I,(by show some (Value.slice _ L3.length _)=some (Value.slice _ (L3.set ((bs.getD i.toNat default).a).toNat (((extT (L3.getD (bs.getD i.toNat default).b.toNat default).1 (wayI S V bs x i true)),m96.1,m96.2):TrkR)).length _);rw [List.length_set]),I,I,I,trivial⟩ ?_)))))))))))
           have hln4:(L3.set ((bs.getD i.toNat default).a).toNat (((extT (L3.getD (bs.getD i.toNat default).b.toNat default).1 (wayI S V bs x i true)),m96.1,m96.2):TrkR)).length=cs.length:=by rw [List.length_set];exact hln3
           refine zaa (gA I (gN [4,5,6,7,10,11,12,13,14] I (zaa (gM I (gQ (zaY I I) (gA I (gN [4,5,6,7,10,11,12,13,14] I (zaK 1 I (zaK 1 I (zaK 1 I ?_))))))))))
           exact za1 (2,true,(L3.set ((bs.getD i.toNat default).a).toNat (((extT (L3.getD (bs.getD i.toNat default).b.toNat default).1 (wayI S V bs x i true)),m96.1,m96.2):TrkR))) (sB I) I ⟨⟨by decide,by decide⟩,himp4,hln4,by rw [if_pos I];omega,λ hf=>by cases hf⟩ (by simp only [];omega)
          ·have hfc:fixC (zyj S V bs x) (mayC cl) (trkL L3) (wayI S V bs x i true):=zIQ (by rw [zIe,zIe,hwf.2.2.1,hwf.2.2.2.1];exact hc103)
           refine zaq (zaa (gM I (gQ (zaY I I) (gA I (gN [4,5,6,7,10,11,12,13,14] I (zaK 0 I (zaK 0 I (zaK 0 I (zaK 0 I ?_)))))))))
           exact za1 (2,c3,L3) (sB I) I ⟨⟨by decide,by decide⟩,himp3,hln3,hrk3,λ hf=>⟨(hfix3 hf).1,(λ _=>(hfix3 hf).2.1 (by decide)),λ _=>hfc⟩⟩ (by simp only [];omega)
       ·have hc42:=oD hc42
        refine za8 I (zaa (gM I (gQ (zaY I I) (gA I (gN [4,5,6,7,10,11,12,13] I ?_)))))
        exact za1 (i+1,c3,L3) (sB I) I ⟨⟨by omega,by omega⟩,himp3,hln3,hrk3,λ hf=>zID hok i0 (hfix3 hf).1 ((hfix3 hf).2.1 (by omega)) ((hfix3 hf).2.2 (by omega))⟩ (by simp only [];omega)
    ·have hc35:=oD hc35
     refine za8 I ?_
     exact za1 (c2,L2) (sB I) I ⟨himp2,hln2,λ hf=>by have h:=hfix2 hf;rwa [show i.toNat=bs.length from by omega] at h⟩ (by simp only [];rw [hc30,if_pos I];exact zKc hrk2)
  ·have hbest:=zI9 himp (by rw [hlw_];exact hfix hc30)
   refine za8 I (gS (gM I (gA I (gN [10] I (zaw (zao 1 I (zbT 2 (zBO (P:=Best (zyj S V bs x) (mayC cl) cs.length frm (trkL L)) hbest ?_))))))))
   exact zbd ((some ⟨b25,0,none⟩),cs.length,L) 0 (zaC I (zau I)) I I
theorem en38:En Tryz.prog 38:=eK Tryz.func38
theorem zJ0 (a:yO) (cap:Nat) (b:yO) (bcap:Nat) (l:List Int) (w:World) (hl:Has w (Ints a l)) (hm:Has w (Ints b l)) (hs:zaP l.length) :
  Calls Tryz.prog 21 #[A a l.length cap,A b l.length bcap] w (Pure (.bool true) w):=by
 refine zan (vs:=[_,_]) Tryz.func21 I I (bL I) (gS (gA I (gN [0,1,4] I (zac (gS (gM I (gQ (zaV (Tryz.underlying45) I) (gM I (gQ (zaV (Tryz.underlying45) I) (gQ (zcr I I) (gN [0,1,4,10] I (zap I (λ hc10=>?_) (λ hc10=>?_)))))))))))))
 ·exfalso;simp at hc10
 ·simp only [nF,dT] at hc10
  refine zaq (zac (gS (gA I (gN [0,1,4,5] I (zas (zbf (X:=Int) (λ(i:Int)=>[(0,A a l.length cap),(1,A b l.length bcap),(4,.bool false),(5,O i)]) (λ(i:Int)=>[]) (λ(i:Int)=>(0≤i∧i≤l.length)) (λ(i:Int)=>(l.length - i).toNat) 0 ⟨I,I,I,I,trivial⟩ rfl ?_ ?_))))))
  ·exact⟨by omega,by omega⟩
  ·rintro i hI
   obtain⟨g0,g1⟩:=hI
   refine zac (gS (gM I (gM I (gQ (zaV (Tryz.underlying45) I) (gQ (zbw I I) (gN [0,1,4,5,14] I (zap I (λ hc14=>?_) (λ hc14=>?_))))))))
   ·have hc14:=oT hc14
    refine zaq (zac (zas (zac (gZ 9 (ph_y (zaf I) (ph_y (zaf I) (ph_y (zaE se45 I I (λ _=>rH hl)) (ph_y (zcE tf3 I (λ _=>rH hl) (by omega) (by omega) I) (ph_y (zaf I) (ph_y (zaf I) (ph_y (zaE se45 I I (λ _=>rH hm)) (ph_y (zcE tf3 I (λ _=>rH hm) (by omega) (by omega) I) (ph_y (zcr I I) (gN [0,1,4,5,25] I (zap I (λ hc25=>?_) (λ hc25=>?_))))))))))))))))
    ·exfalso;simp at hc25
    ·simp only [nF,dT] at hc25
     refine zaq (zaa (gM I (gQ (zaY I I) (gA I (gN [0,1,4,5] I ?_)))))
     exact za1 (i+1) ⟨I,I,I,I,trivial⟩ rfl ⟨by omega,by omega⟩ (by omega)
   ·have hc14:=oD hc14
    refine za8 I (gS (gA I (gN [4] I (zaw (zay (zaC I (zau I)) ?_)))))
    rfl
theorem zMX:FO Tryz.prog 160 1 1:=fK
theorem en21:En Tryz.prog 21:=eK Tryz.func21
theorem en35:En Tryz.prog 35:=eK Tryz.func35
theorem en36:En Tryz.prog 36:=eK Tryz.func36
theorem en37:En Tryz.prog 37:=eK Tryz.func37
theorem en39:En Tryz.prog 39:=eK Tryz.func39
theorem en40:En Tryz.prog 40:=eK Tryz.func40
theorem zMO (a:yO) (cap:Nat) (L:List TrkR) (w:World) (hl:Has w (zaW a 3 zIf L)) (hs:L.length≤40) (hli:∀ i:Nat,i<L.length→(L.getD i default).1.l.length≤280040∧0≤(L.getD i default).1.eff∧(L.getD i default).1.eff≤280040) :
  Calls Tryz.prog 40 #[A a L.length cap] w (zcU (λ z:Option Addr×Nat=>A z.1 (prfL (trkL L)).length z.2) (λ z=>Row z.1 1 z.2 3 C (prfL (trkL L))) w):=by
 have hfc:=zME hli
 refine zan (vs:=[_]) Tryz.func40 I I (bL I) (gS (gA I (gN [0,2] I (gS (gA I (gN [0,2,3] I (zac (gS (gA I (gN [0,2,3,4] I (zas (zbf (X:=Int×Int) (λ⟨i,far⟩=>[(0,A a L.length cap),(2,A none 0 0),(3,O far),(4,O i)]) (λ⟨i,far⟩=>[]) (λ⟨i,far⟩=>(0≤i∧i≤L.length∧far=farN (trkL L) i.toNat)) (λ⟨i,far⟩=>(L.length - i).toNat) (0,0) ⟨I,I,I,I,trivial⟩ rfl ?_ ?_))))))))))))
 ·exact⟨by omega,by omega,rfl⟩
 ·rintro ⟨i,far⟩ hI
  obtain⟨g0,g1,g2⟩:=hI
  refine zac (gS (gM I (gM I (gQ (zaV (Tryz.underlying92) I) (gQ (zbw I I) (gN [0,2,3,4,10] I (zap I (λ hc10=>?_) (λ hc10=>?_))))))))
  ·have hc10:=oT hc10
   have hfu:=zMS (L:=L) g0
   refine zaq (zac (zas (zaa (gM I (gM I (gM I (gQ (zaE se92 I I (λ _=>rH hl)) (gQ (zbh zIs I (λ w hw=>zaO (i:=i) (rH hl hw))) (gQ (zbn tf3 I (λ _=>rH hl) (by omega) (by omega) I) (gQ (zws I I) (gA I (gN [0,2,3,4] I (zaa (gM I (gQ (zaY I I) (gA I (gN [0,2,3,4] I ?_)))))))))))))))))
   exact za1 (i+1,_) ⟨I,I,I,I,trivial⟩ rfl ⟨by omega,by omega,by rw [hfu,←g2]⟩ (by simp only [];omega)
  ·have hc10:=oD hc10
   have hfr:far=farN (trkL L) L.length:=by rw [g2,show i.toNat=L.length from by omega]
   refine za8 I (gS (gA I (gN [0,2,3,5] I (zac (gS (gA I (gN [0,2,3,5,6] I (zas (zbB 3 C 1 (zbf (X:=Int×Option Addr×Nat×List Int) (λ⟨k,ra,rc,N⟩=>[(0,A a L.length cap),(2,A none 0 0),(3,O far),(5,A ra N.length rc),(6,O k)]) (λ⟨k,ra,rc,N⟩=>[Row ra 1 rc 3 C N]) (λ⟨k,ra,rc,N⟩=>(0≤k∧k≤L.length∧N=prfN (trkL L) far k.toNat)) (λ⟨k,ra,rc,N⟩=>(L.length - k).toNat) (0,none,0,[]) (sB I) I ?_ ?_))))))))))
   ·exact⟨by omega,by omega,rfl⟩
   ·rintro ⟨k,ra,rc,N⟩ hI
    obtain⟨k0,k1,k2⟩:=hI
    have hnl:N.length=k.toNat:=by rw [k2];exact zMB
    refine zac (gS (gM I (gM I (gQ (zaV (Tryz.underlying92) I) (gQ (zbw I I) (gN [0,2,3,5,6,23] I (zap I (λ hc23=>?_) (λ hc23=>?_))))))))
    ·have hc23:=oT hc23
     refine zaq (zac (zas (gS (gM I (gM I (gQ (zaE se92 I I (λ _=>rH hl)) (gQ (zbh zIt I (λ w hw=>zaO (i:=k) (rH hl hw))) (gQ (zbn tf4 I (λ _=>rH hl) (by omega) (by omega) I) (gN [0,2,3,5,6,30] I (zap I (λ hc30=>?_) (λ hc30=>?_)))))))))))
     ·have hup:=zMG (far:=far) k0 hc30
      refine zaa (gM I (gM I (gM I (gQ (zaE se92 I I (λ _=>rH hl)) (gQ (zbh zIs I (λ w hw=>zaO (i:=k) (rH hl hw))) (gQ (zbn tf3 I (λ _=>rH hl) (by omega) (by omega) I) (zaG I I (zaD I (zA3 _) Go.Stn.encI_ok I) λ b37=>(zb4 (m:=[((L.getD k.toNat default).1.eff)]) 1 af45 Go.Stn.encI_ok I I I I (λ _ hw=>(zam Go.Stn.encI_ok (hw.has (p:=0) I))) (by first|omega|(simp only [lC,lN];omega)) (by first|(unfold maxLen;omega)|(simp only [lC,lN,maxLen];omega)) λ a38 c38=>(gA I (gN [0,2,3,5,6] I (zaa (gM I (gQ (zaY I I) (gA I (gN [0,2,3,5,6] I (zaK 0 I ?_))))))))))))))))
      exact za1 (k+1,_,_,_) (sB I) I ⟨by omega,by omega,by rw [hup,←k2]⟩ (by simp only [];omega)
     ·have hup:=zMH (far:=far) k0 hc30
      refine zaa (gM I (gM I (gQ (zaY I I) (zaG I I (zaD I (zA3 _) Go.Stn.encI_ok I) λ b42=>(zb4 (m:=[(far+1)]) 1 af45 Go.Stn.encI_ok I I I I (λ _ hw=>(zam Go.Stn.encI_ok (hw.has (p:=0) I))) (by first|omega|(simp only [lC,lN];omega)) (by first|(unfold maxLen;omega)|(simp only [lC,lN,maxLen];omega)) λ a43 c43=>(gA I (gN [0,2,3,5,6] I (zaa (gM I (gQ (zaY I I) (gA I (gN [0,2,3,5,6] I (zaK 0 I ?_)))))))))))))
      exact za1 (k+1,_,_,_) (sB I) I ⟨by omega,by omega,by rw [hup,←k2]⟩ (by simp only [];omega)
    ·have hc23:=oD hc23
     have hN:N=prfL (trkL L):=by rw [k2,show k.toNat=L.length from by omega,zMF hfr I]
     refine za8 I (gS (gM I (gA I (gN [2] I (zaw (zbd (ra,rc) 0 (zaC I (zau I)) ?_ (by rw [hN];rfl)))))))
     rw [hN]
theorem zNc (a:yO) (cap:Nat) (b:yO) (bcap:Nat) (l:List (Int×Int)) (w:World) (hl:Has w (zaW a 2 zyQ l)) (hm:Has w (zaW b 2 zyQ l)) (hs:zaP l.length) :
  Calls Tryz.prog 39 #[A a l.length cap,A b l.length bcap] w (Pure (.bool true) w):=by
 refine zan (vs:=[_,_]) Tryz.func39 I I (bL I) (gS (gA I (gN [0,1,4] I (zac (gS (gM I (gQ (zaV (Tryz.underlying78) I) (gM I (gQ (zaV (Tryz.underlying76) I) (gQ (zcr I I) (gN [0,1,4,10] I (zap I (λ hc10=>?_) (λ hc10=>?_)))))))))))))
 ·exfalso;simp at hc10
 ·simp only [nF,dT] at hc10
  refine zaq (zac (gS (gA I (gN [0,1,4,5] I (zas (zbf (X:=Int) (λ(i:Int)=>[(0,A a l.length cap),(1,A b l.length bcap),(4,.bool false),(5,O i)]) (λ(i:Int)=>[]) (λ(i:Int)=>(0≤i∧i≤l.length)) (λ(i:Int)=>(l.length - i).toNat) 0 ⟨I,I,I,I,trivial⟩ rfl ?_ ?_))))))
  ·exact⟨by omega,by omega⟩
  ·rintro i hI
   obtain⟨g0,g1⟩:=hI
   refine zac (gS (gM I (gM I (gQ (zaV (Tryz.underlying78) I) (gQ (zbw I I) (gN [0,1,4,5,14] I (zap I (λ hc14=>?_) (λ hc14=>?_))))))))
   ·have hc14:=oT hc14
    refine zaq (zac (zas (zac (gZ 24 (ph_y (zaf I) (ph_y (zaf I) (ph_y (zaE se78 I I (λ _=>rH hl)) (ph_y (zbh zMA I (λ w hw=>zaO (i:=i) (rH hl hw))) (ph_y (zbn tf3 I (λ _=>rH hl) (by omega) (by omega) I) (ph_y (zaf I) (ph_y (zaf I) (ph_y (zaE se76 I I (λ _=>rH hm)) (ph_y (zbh zIy I (λ w hw=>zaO (i:=i) (rH hm hw))) (ph_y (zbn tf3 I (λ _=>rH hm) (by omega) (by omega) I) (ph_y (zcr I I) (ph_y (zaf I) (zaz I I (λ jj=>by(try rw [jj]);exact zaf I) (zaz I I (λ jj=>by(try rw [jj]);exact zaf I) (zaz I I (λ jj=>by(try rw [jj]);exact zaE se78 I I (λ _=>rH hl)) (zaz I I (λ jj=>by(try rw [jj]);exact zbh zMw I (λ w hw=>zaO (i:=i) (rH hl hw))) (zaz I I (λ jj=>by(try rw [jj]);exact zbn tf3 I (λ _=>rH hl) (by omega) (by omega) I) (zaz I I (λ jj=>by(try rw [jj]);exact zaf I) (zaz I I (λ jj=>by(try rw [jj]);exact zaf I) (zaz I I (λ jj=>by(try rw [jj]);exact zaE se76 I I (λ _=>rH hm)) (zaz I I (λ jj=>by(try rw [jj]);exact zbh zMX I (λ w hw=>zaO (i:=i) (rH hm hw))) (zaz I I (λ jj=>by(try rw [jj]);exact zbn tf3 I (λ _=>rH hm) (by omega) (by omega) I) ?_))))))))))))))))))))))))))
    refine zaz I I (λ jj=>by(try rw [jj]);exact zcr I I) (ph_y (zaR I I I) (gN [0,1,4,5,40] I (zap I (λ hc40=>?_) (λ hc40=>?_))))
    ·exfalso;simp at hc40
    ·simp only [oF,nF,dT] at hc40
     refine zaq (zaa (gM I (gQ (zaY I I) (gA I (gN [0,1,4,5] I ?_)))))
     exact za1 (i+1) ⟨I,I,I,I,trivial⟩ rfl ⟨by omega,by omega⟩ (by omega)
   ·have hc14:=oD hc14
    refine za8 I (gS (gA I (gN [4] I (zaw (zay (zaC I (zau I)) ?_)))))
    rfl
theorem zM6 (a:yO) (cap:Nat) (b:yO) (bcap:Nat) (l m:List (Int×Int)) (w:World) (hl:Has w (zaW a 2 zyQ l)) (hm:Has w (zaW b 2 zyQ m)) (e:l=m) (hs:zaP m.length):Calls Tryz.prog 39 #[A a l.length cap,A b m.length bcap] w (Pure (.bool true) w):=by
 subst e;exact zNc a cap b bcap l w hl hm hs
theorem zMY (a:yO) (cap:Nat) (b:yO) (bcap:Nat) (l m:List Int) (w:World) (hl:Has w (Ints a l)) (hm:Has w (Ints b m)) (e:l=m) (hs:zaP m.length):Calls Tryz.prog 21 #[A a l.length cap,A b m.length bcap] w (Pure (.bool true) w):=by
 subst e;exact zJ0 a cap b bcap l w hl hm hs
theorem FieldWalks_c (a:yO) (cap:Nat) (S:List ShC) (b:yO) (bcap:Nat) (V:List WlC) (ca:yO) (ccap:Nat) (cs:List ByteArray) (ba:yO) (bcp:Nat) (bs:List Bdr) (x:Anm) (frm to:Int) (w:World) (hl:yag w a S) (hs:S.length≤764877654104) (hlw:yah w b V) (hsw:V.length≤2199023255552) (hsh:yab S w) (hss:∀ z∈S,z.s.heights.length≤17592186044416) (hwo:yaa V w) (hsv:∀ z∈V,z.s.opens.length≤3518437208883) (hfS:yar S) (hc:yai w ca cs) (hcn:cs.length≤8796093022208) (hbd:yaj w ba bs) (hbn:bs.length≤2513169434915) (hcS:S.length≤cap) (hcpw:yad V) (hkn:yaf V) (hfV:∀ z∈V,Fits z.s.name.size) (hco:∀ z∈S,0≤z.s.cope) (hcf:∀ z∈cs,Fits z.size) (hcap:cs.length≤ccap) (hmx:Has w (IntV 2)) (hcp:yat w) (hop:yas w) :
  Calls Tryz.prog 11 #[.agg #[A a S.length cap,A b V.length bcap,A ca cs.length ccap,A ba bs.length bcp,O x.wide,O x.high,O x.step,O x.leap,O x.reach],O frm,O to] w (Pure (.bool true) w):=by
 refine zan (vs:=[_,_,_]) Tryz.func11 I I (bL I) (gS (zaG I I (za3 (vs:=[_,_,_,_,_,_,_,_,_]) I I) λ b3=>(gA I (gN [1,2,3,6] I (gS (gQ (zat 0 tf33 I I (vs:=[_,_,_,_,_,_,_,_,_]) I I) (zaG I I (zbm en13 I (λ w hw=>zG1 _ _ S _ _ V _ _ cs _ _ bs x w (rH hl hw) hs (rH hlw hw) hsw (λ z hz=>(rH (hsh z hz) hw)) hss (λ z hz=>(rH (hwo z hz) hw)) hsv hfS (rH hc hw) hcn (rH hbd hw) hbn)) λ p20=>(gM I (gQ (zaB I I) (gQ (zaB I I) (gQ (zaB I I) (gQ (zaB I I) (zaG I I (zaL tf37 (zs:=[_,_]) I) λ b7=>(zaG I I (zaL tf40 (zs:=[_,_]) I) λ b8=>(zaG I I (zaL tf41 (zs:=[_,_,_,_,_]) I) λ b9=>(zaA 2 tf37 I I (vs:=[_,_]) I I I I I (zaA 1 tf40 I I (vs:=[_,_]) I I I I I (zaA 0 tf41 I I (vs:=[_,_,_,_,_]) I I I I I (gA I (gN [1,2,3,6,7,8,9,10] I (zao 3 I (zbP (zac (gS (gM I (gQ (zbR I) (gN [1,2,3,6,7,8,9,26] I (zap I (λ hc26=>?_) (λ hc26=>?_)))))))))))))))))))))))))))))
 ·refine gS (gQ (zaJ en14 I (λ w hw=>zz3 w (rH hmx hw) (rH hcp hw) (rH hop hw))) (gA I (gN [1,2,3,6,7,8,9] I (zaw (zay (zaC I (zau I)) ?_)))))
  rfl
 ·obtain⟨⟨⟨ra,rc,S2⟩,⟨rb,rd,V2⟩⟩,⟨rca,rcc⟩,⟨rba,rbc⟩⟩:=p20
  refine zjk λ hS2 hV2=>?_
  have hS2:S2.map (·.s)=S.map (·.s):=hS2
  have hV2:V2.map (·.s)=V.map (·.s):=hV2
  obtain⟨hsmp,hcs45,hbs90⟩:=zEj (by simpa using hc26)
  have hsm:=zmC (S:=S) (V:=V) hsmp
  obtain⟨hss2,hsv2,hsw2,hS1,hV1⟩:=zjv hsm
  have hs2:zaP S.length:=by have:=hsm.ls;unfold zaP;omega
  have hcs2:zaP cs.length:=by unfold zaP;omega
  have hbs2:zaP bs.length:=by unfold zaP;omega
  obtain⟨l1,l2,y1,y2,y3,y4,ykn⟩:=zxG hsm hkn hS2 hV2
  refine za2 (R':=Box b7 (zzz5 ra S2 rc rb V2 rd) 37) 8 I (λ B w hA=>hA) (za2 (R':=Box b8 (zzz6 rca cs rcc rba bs rbc) 40) 7 I (λ B w hA=>hA) ?_)
  obtain⟨T,hT⟩:=zLS S2 V2 cs bs x frm
  have haa:(atE S2 V2 cs bs x [frm,to])=(atE S V cs bs x [frm,to]):=zIk hS2 hV2 _
  refine zaq (gS (gQ (zat 8 tf37 I I (vs:=[_,_]) I I) (gQ (zat 7 tf40 I I (vs:=[_,_]) I I) (gQ (zat 6 tf41 I I (vs:=[_,_,_,_,_]) I I) (gM I (gM I (zaG I I (zbm en36 I (λ w hw=>zLV _ _ S2 _ _ V2 _ _ cs _ _ bs x frm to T w (zam zbI (hw.has (p:=0) I)) y1 (zcM (hw.has (p:=0) I)) (zam zbo (hw.has (p:=2) I)) y2 (λ z hz2=>zam Go.Stn.encI_ok (zbV (f:=rowH 3) (hw.has (p:=1) I) hz2)) y3 (λ z hz2=>zam zyn (zbV (f:=rowO 122) (hw.has (p:=3) I) hz2)) y4 (λ z hz2=>zcM (zbV (f:=rowO 122) (hw.has (p:=3) I) hz2)) ykn (zam ztJ (hw.has (p:=4) I)) hcs2 (zcM (hw.has (p:=4) I)) (zam zyx (hw.has (p:=5) I)) hbs2 (hT _))) λ p34=>(gM I (gQ (zaB I I) (gQ (zaB I I) (gQ (zaB I I) (gA I (gA I (gA I (gN [1,2,3,6,7,8,9,11,12,13] I (gS (gQ (zat 9 tf37 I I (vs:=[_,_]) I I) (gQ (zat 8 tf40 I I (vs:=[_,_]) I I) (gQ (zat 7 tf41 I I (vs:=[_,_,_,_,_]) I I) (gM I (gM I ?_)))))))))))))))))))))
  refine zaG I I (zbm en37 I (λ w hw=>zM1 _ _ S2 _ _ V2 _ _ cs _ _ bs x frm to T w (zam zbI (hw.has (p:=1) I)) y1 (zcM (hw.has (p:=1) I)) (zam zbo (hw.has (p:=3) I)) y2 (λ z hz2=>zam Go.Stn.encI_ok (zbV (f:=rowH 3) (hw.has (p:=2) I) hz2)) y3 (λ z hz2=>zam zyn (zbV (f:=rowO 122) (hw.has (p:=4) I) hz2)) y4 (λ z hz2=>zcM (zbV (f:=rowO 122) (hw.has (p:=4) I) hz2)) ykn (zam ztJ (hw.has (p:=5) I)) hcs2 (zcM (hw.has (p:=5) I)) (zam zyx (hw.has (p:=6) I)) hbs2 (hT _))) λ p44=>(gM I (gQ (zaB I I) (gQ (zaB I I) (gA I (gA I (gN [1,2,3,6,7,8,9,11,12,13,14,15] I (gS (gA I (gN [1,2,3,6,7,8,9,11,12,13,14,15,16] I ?_)))))))))
  refine zih (X:=Unit) (λ _=>[(1,O frm),(2,O to),(3,Z b3),(6,.bool false),(7,Z b7),(8,Z b8),(9,Z b9),(11,A p34.1 (stpL (bwT S2 V2 cs bs x frm to T).l).length p34.2),(12,O ((bwT S2 V2 cs bs x frm to T).eff)),(13,O (bwE S2 V2 cs bs x frm to T)),(14,A p44.1 (prfA S2 V2 cs bs x frm to T).length p44.2),(15,O (bwE S2 V2 cs bs x frm to T)),(16,O (atE S V cs bs x [frm,to]))]) (λ _=>[Row p44.1 1 p44.2 3 C (prfA S2 V2 cs bs x frm to T),Row p34.1 2 p34.2 159 zyQ (stpL (bwT S2 V2 cs bs x frm to T).l),Row ra 20 rc 118 zbH S2,Go.K.Rows (rowH 3) S2,Row rb 4 rd 116 zbS V2,Go.K.Rows (rowO 122) V2,Row rca 1 rcc 9 encS cs,Row rba 6 rbc 64 zyr bs,Box b9 (zzz2 x) 41,Box b8 (zzz6 rca cs rcc rba bs rbc) 40,Box b7 (zzz5 ra S2 rc rb V2 rd) 37,Box b3 [A a S.length cap,A b V.length bcap,A ca cs.length ccap,A ba bs.length bcp,O x.wide,O x.high,O x.step,O x.leap,O x.reach] 33]) (λ _=>True) ?_ ?_
  ·refine gS (gQ (zat 11 tf33 I I (vs:=[_,_,_,_,_,_,_,_,_]) I I) (gQ (zaJ en17 I (λ w hw=>zEO _ _ S _ _ V _ _ cs _ _ bs x w (rH hl hw) hs2 hcS (rH hlw hw) hsw2 (λ z hz=>(rH (hsh z hz) hw)) hss2 (λ z hz=>(rH (hwo z hz) hw)) hsv2 hcpw hkn (rH hc hw) hcs2 hcap (rH hbd hw) hbs2 hfS hfV hco hcf)) (gQ (zbR I) (gN [1,2,3,6,7,8,9,11,12,13,14,15,16,49] I (zap I (λ hc49=>?_) (λ hc49=>?_))))))
   ·have hno:¬ zym S V cs bs x=true:=by simpa using hc49
    refine zaa (gA I (gN [1,2,3,6,7,8,9,11,12,13,14,15,16] I ?_))
    exact zb9 () ⟨I,I,I,I,I,I,I,I,I,I,I,I,(by exact congrArg (λ z=>some (Value.int .i64 z)) (by first|exact(zFG hno).symm|exact(zDt hok hout).symm|exact(zFF hok hin).symm)),trivial⟩ rfl trivial
   ·have hok:zym S V cs bs x=true:=by simpa using hc49
    refine zac (gZ 12 (ph_y (zab zz0 I) (ph_y (zat 11 tf29 I I (vs:=[_,_]) I I) (ph_y (zaf I) (ph_y (zaJ en20 I (λ w hw=>zEc _ _ cs _ _ bs frm w)) (ph_y (zbR I) (ph_y (zaf I) (zaz I I (λ jj=>by(try rw [jj]);exact zab zz0 I) (zaz I I (λ jj=>by(try rw [jj]);exact zat 11 tf29 I I (vs:=[_,_]) I I) (zaz I I (λ jj=>by(try rw [jj]);exact zaf I) (zaz I I (λ jj=>by(try rw [jj]);exact zaJ (v:=.bool (zBG cs.length to)) en20 I (λ w hw=>zEc _ _ cs _ _ bs to w)) (zaz I I (λ jj=>by(try rw [jj]);exact zbR I) (ph_y (zaR I I I) (gN [1,2,3,6,7,8,9,11,12,13,14,15,16,61] I (zap I (λ hc61=>?_) (λ hc61=>?_))))))))))))))))
    ·have hout:[frm,to].any (outC cs.length)=true:=by simp only [List.any_cons,List.any_nil,Bool.or_false,zIN];exact hc61
     refine zaa (gA I (gN [1,2,3,6,7,8,9,11,12,13,14,15,16] I ?_))
     exact zb9 () ⟨I,I,I,I,I,I,I,I,I,I,I,I,(by exact congrArg (λ z=>some (Value.int .i64 z)) (by first|exact(zFG hno).symm|exact(zDt hok hout).symm|exact(zFF hok hin).symm)),trivial⟩ rfl trivial
    ·have hin:[frm,to].any (outC cs.length)=false:=by simp only [List.any_cons,List.any_nil,Bool.or_false,zIN];exact hc61
     refine zaq ?_
     exact zb9 () ⟨I,I,I,I,I,I,I,I,I,I,I,I,(by exact congrArg (λ z=>some (Value.int .i64 z)) (by first|exact(zFG hno).symm|exact(zDt hok hout).symm|exact(zFF hok hin).symm)),trivial⟩ rfl trivial
  ·rintro _ hJ
   refine gS (gA I (gN [1,2,3,6,7,8,9,11,12,13,14,15,16,17] I (zac (gS (gM I (gQ (zbL I I) (gN [1,2,3,6,7,8,9,11,12,13,14,15,16,17,63] I (zap I (λ hc63=>?_) (λ hc63=>?_)))))))))
   ·have hat:=oT hc63
    have hat2:=haa.trans hat
    obtain⟨hok,hin,_,hbs80⟩:=zDr hat
    obtain⟨f0,f1⟩:=zCw hin frm (by simp)
    obtain⟨t0,t1⟩:=zCw hin to (by simp)
    have hcs40:=(zzD hok).2.1
    have hp:=zBa hok
    refine gS (gQ (zab zCR I) (gQ (zat 11 tf25 I I (vs:=[_,_]) I I) (gQ (zab zz0 I) (gQ (zat 11 tf29 I I (vs:=[_,_]) I I) (gQ (zab zAL I) (gQ (zat 11 tf31 I I (vs:=[_,_,_,_,_]) I I) (gM I (zaG I I (zbm en38 I (λ w hw=>zJh _ _ S _ _ V _ _ cs _ _ bs x frm none 0 [] w (rH hl hw) hs2 hcS (rH hlw hw) hsw2 (λ z hz=>(rH (hsh z hz) hw)) hss2 (λ z hz=>(rH (hwo z hz) hw)) hsv2 hcpw hkn (rH hc hw) hcs2 hcap (rH hbd hw) hbs2 hok f0 f1 zJQ (by simp [zaP]))) λ p71=>(gA I (gN [1,2,6,7,8,9,11,12,13,14,15,16,17] I ?_))))))))))
    obtain⟨ta,tc,L⟩:=p71
    refine zz4 λ hB=>zbP ?_
    have hB:Best (zyj S V bs x) (mayC []) cs.length frm (trkL L):=hB
    have hLl:L.length=cs.length:=by have h:=hB.len;rwa [lM] at h
    refine za2 (R':=Row ta 3 tc 95 zIf L) 0 I (λ B w hA=>hA) (za2 (R':=Go.K.Rows rowT L) 1 I (λ B w hA=>hA) (zae (T':=[(1,_),(2,_),(6,_),(7,_),(8,_),(9,_),(11,_),(12,_),(13,_),(14,_),(15,_),(16,_),(17,A ta L.length tc)]) ⟨I,I,I,I,I,I,I,I,I,I,I,I,(by rfl),trivial⟩ ?_))
    have hT1:=hT to hat2
    rw [zCu hS2 hV2] at hT1
    have hLT:trkL L=T:=zLG hp hB hT1.1
    have hIm:Imp (zyj S V bs x) allM cs.length frm (trkL L):=by rw [hLT];exact hT1.2
    have hli:=zLm hp hbs80 hIm hcs40.2
    have hbw:(L.getD to.toNat default).1=T.getD to.toNat default:=by rw [←hLT,zIe]
    refine gS (gM I (gM I (gQ (zaE se92 I I (λ _ hw=>(zam zIc (hw.has (p:=0) I)))) (gQ (zbh zIt I (λ w hw=>zaO (i:=to) (zam zIc (hw.has (p:=0) I)))) (gQ (zbn tf4 I (λ _ hw=>(zam zIc (hw.has (p:=0) I))) (by omega) (by omega) I) (gQ (zbR I) (gN [1,2,6,7,8,9,11,12,13,14,15,16,17,77] I (zap I (λ hc77=>?_) (λ hc77=>?_)))))))))
    ·have hth:(T.getD to.toNat default).there=false:=by rw [←hbw];simpa using hc77
     obtain⟨e1,e2,e3⟩:=zMi hat2 (hT to hat2).1 hth
     have hw1:(bwE S2 V2 cs bs x frm to T)=8:=e2
     have hsl:(stpL (bwT S2 V2 cs bs x frm to T).l).length≤300000:=by rw [e1];decide
     have hpb:∀ z∈(prfA S2 V2 cs bs x frm to T),-1000000000000≤z∧z≤1000000000000:=by rw [e3];intro z hz;cases hz
     have hl0:(stpL (bwT S2 V2 cs bs x frm to T).l).length=0:=by rw [e1];rfl
     have hp0:(prfA S2 V2 cs bs x frm to T).length=0:=by rw [e3];rfl
     have hprv:=zMM (S:=S2) (V:=V2) (cs:=cs) (bs:=bs) (x:=x) (frm:=frm) (to:=to) (l:=stpL (bwT S2 V2 cs bs x frm to T).l) (proof:=(prfA S2 V2 cs bs x frm to T)) (by rw [hp0];omega)
     refine zaa (gA I (gN [1,2,6,7,8,9,11,12,13,14,15,16,17] I (zac (gS (gM I (gQ (zcr I I) (gN [1,2,6,7,8,9,11,12,13,14,15,16,17,79] I (zdg I (gS (gM I (gM I (gQ (zbQ (zbL I I) (by rw [hw1];exact decide_eq_true I)) (gM I (gT I I I (gM I (gT I I I (gM I (gT I I I (gQ (zbQ (zbL I I) (by rw [hw1];exact decide_eq_true I)) (gQ (za5 I I I) (gM I (gT I I I (gM I (gT I I I (gQ (zaV (Tryz.underlying78) I) (gT I I I (gM I (gT I I I (gQ (zaV (Tryz.underlying45) I) (gT I I I (gQ (zaY I I) (gT I I I (gQ (zbQ (zbL I I) (by rw [hl0,hp0];rfl)) (gQ (za5 I I I) (gM I (gT I I I (gM I (gT I I I ?_))))))))))))))))))))))))))))))))))))))
     refine gQ (zbQ (zbL I I) (by rw [e1];rfl)) (gQ (za5 I I I) (gM I (gT I I I (gQ (zat 12 tf37 I I (vs:=[_,_]) I I) (gT I I I (gQ (zat 11 tf40 I I (vs:=[_,_]) I I) (gT I I I (gQ (zat 10 tf41 I I (vs:=[_,_,_,_,_]) I I) (gT I I I (gM I (gT I I I (gM I (gT I I I (gM I (gT I I I (gM I (gT I I I (gQ (zdB (b:=(prvA S2 V2 cs bs x frm to (stpL (bwT S2 V2 cs bs x frm to T).l) (prfA S2 V2 cs bs x frm to T))) (b':=false) (zaJ en35 I (λ w hw=>zMv _ _ S2 _ _ V2 _ _ cs _ _ bs x frm to _ _ (stpL (bwT S2 V2 cs bs x frm to T).l) _ _ (prfA S2 V2 cs bs x frm to T) w (zam zbI (hw.has (p:=4) I)) y1 (zcM (hw.has (p:=4) I)) (zam zbo (hw.has (p:=6) I)) y2 (λ z hz2=>zam Go.Stn.encI_ok (zbV (f:=rowH 3) (hw.has (p:=5) I) hz2)) y3 (λ z hz2=>zam zyn (zbV (f:=rowO 122) (hw.has (p:=7) I) hz2)) y4 (λ z hz2=>zcM (zbV (f:=rowO 122) (hw.has (p:=7) I) hz2)) ykn (zam ztJ (hw.has (p:=8) I)) hcs2 (zcM (hw.has (p:=8) I)) (zam zyx (hw.has (p:=9) I)) hbs2 (zam zyJ (hw.has (p:=3) I)) hsl (zam Go.Stn.encI_ok (hw.has (p:=2) I)) hpb)) (by exact hprv)) (gT I I I ?_)))))))))))))))))))
     refine gQ (zdB (b':=true) (zbR I) (by rfl)) (gQ (za5 I I I) (gM I (gT I I I (gQ (zaJ en14 I (λ w hw=>zz3 w (rH hmx hw) (rH hcp hw) (rH hop hw))) (gQ (za5 I I I) (gA I (gN [2,6,11,12,13,14,15,17] I (zaw (zay (zaC I (zau I)) ?_)))))))))
     rfl
    ·have hth:(T.getD to.toNat default).there=true:=by rw [←hbw];simpa using hc77
     obtain⟨e1,e2,e3⟩:=zLw hat2 hth
     have hsame:stpL (bwT S2 V2 cs bs x frm to T).l=stpL (L.getD to.toNat default).1.l:=by rw [e1,hbw]
     have hprf:(prfA S2 V2 cs bs x frm to T)=prfL (trkL L):=by rw [e3,hLT]
     refine zaq (zac (gS (gM I (gQ (zdB (b':=false) (zcr I I) (by rw [hat];rfl)) (gN [1,2,6,7,8,9,11,12,13,14,15,16,17,79] I (zd8 I (zaq (gS (gM I (gQ (zbQ (zbL I I) (by rw [e2];rfl)) (gM I (gT I I I (gM I (gT I I I (gQ (zbQ (zbL I I) (by rw [e2];rfl)) (gQ (za5 I I I) (gM I (gT I I I (gM I (gT I I I (gM I (gT I I I (gM I (gT I I I (gQ (zaE se92 I I (λ _ hw=>(zam zIc (hw.has (p:=0) I)))) (gT I I I (gQ (zbh zIi I (λ w hw=>zaO (i:=to) (zam zIc (hw.has (p:=0) I)))) (gT I I I (gQ (zbn tf76 I (λ _ hw=>(zam zIc (hw.has (p:=0) I))) (by omega) (by omega) I) (gT I I I (gQ (zaJ en39 I (λ w hw=>zM6 _ _ _ _ (stpL (bwT S2 V2 cs bs x frm to T).l) (stpL (L.getD to.toNat default).1.l) w (zam zyJ (hw.has (p:=3) I)) (zam zyJ (zbV (f:=rowT) (hw.has (p:=1) I) (za0 (by omega)))) hsame (by unfold zaP;rw [zIA];have:=(hli to.toNat (by omega)).1;omega))) (gQ (za5 I I I) (gM I (gT I I I (gM I (gT I I I (gM I (gT I I I ?_))))))))))))))))))))))))))))))))))))))
     refine gM I (gT I I I (gQ (zaE se92 I I (λ _ hw=>(zam zIc (hw.has (p:=0) I)))) (gT I I I (gQ (zbh zIs I (λ w hw=>zaO (i:=to) (zam zIc (hw.has (p:=0) I)))) (gT I I I (gQ (zbn tf3 I (λ _ hw=>(zam zIc (hw.has (p:=0) I))) (by omega) (by omega) I) (gT I I I (gQ (zbQ (zbL I I) (by rw [e1,hbw];exact decide_eq_true I)) (gQ (za5 I I I) (gM I (gT I I I (gM I (gT I I I (gM I (gT I I I (zaG I I (zbm en40 I (λ w hw=>zMO _ _ L w (zam zIc (hw.has (p:=0) I)) (by omega) (λ i hi=>hli i (by omega)))) λ p141=>(gT I I I (gQ (zaJ en21 I (λ w hw=>zMY _ _ _ _ (prfA S2 V2 cs bs x frm to T) (prfL (trkL L)) w (zam Go.Stn.encI_ok (hw.has (p:=3) I)) (zam Go.Stn.encI_ok (hw.has (p:=0) I)) hprf (by unfold zaP;rw [show(prfL (trkL L)).length=L.length from by unfold prfL;rw [zMB,lM]];omega))) (gQ (za5 I I I) (gM I (gT I I I (gQ (zaJ en14 I (λ w hw=>zz3 w (rH hmx hw) (rH hcp hw) (rH hop hw))) (gQ (za5 I I I) (gA I (gN [6] I (zaw (zay (zaC I (zau I)) ?_)))))))))))))))))))))))))))
     rfl
   ·have hat:=oD hc63
    have hat2:¬ (atE S2 V2 cs bs x [frm,to])=0:=by rw [haa];exact hat
    obtain⟨e1,e2,e3⟩:=zMh (T:=T) hat2
    have hw1:(bwE S2 V2 cs bs x frm to T)=(atE S V cs bs x [frm,to]):=e2.trans haa
    have hprv:=zMI (l:=stpL (bwT S2 V2 cs bs x frm to T).l) (proof:=(prfA S2 V2 cs bs x frm to T)) hat2
    have hsl:(stpL (bwT S2 V2 cs bs x frm to T).l).length≤300000:=by rw [e1];decide
    have hpb:∀ z∈(prfA S2 V2 cs bs x frm to T),-1000000000000≤z∧z≤1000000000000:=by rw [e3];intro z hz;cases hz
    have hl0:(stpL (bwT S2 V2 cs bs x frm to T).l).length=0:=by rw [e1];rfl
    have hp0:(prfA S2 V2 cs bs x frm to T).length=0:=by rw [e3];rfl
    refine zaq (zac (gS (gM I (gQ (zbQ (zcr I I) (by simpa using hat)) (gN [1,2,6,7,8,9,11,12,13,14,15,16,17,79] I (zdg I (gS (gM I (gM I (gQ (zbQ (zbL I I) (by rw [hw1];exact decide_eq_true I)) (gM I (gT I I I (gM I (gT I I I (gM I (gT I I I (gQ (zbQ (zbL I I) (by rw [hw1];exact decide_eq_true I)) (gQ (za5 I I I) (gM I (gT I I I (gM I (gT I I I (gQ (zaV (Tryz.underlying78) I) (gT I I I (gM I (gT I I I (gQ (zaV (Tryz.underlying45) I) (gT I I I (gQ (zaY I I) (gT I I I (gQ (zbQ (zbL I I) (by rw [hl0,hp0];rfl)) (gQ (za5 I I I) (gM I (gT I I I (gM I (gT I I I (gQ (zbQ (zbL I I) (by rw [e1];rfl)) (gQ (za5 I I I) ?_))))))))))))))))))))))))))))))))))))))
    refine gM I (gT I I I (gQ (zat 10 tf37 I I (vs:=[_,_]) I I) (gT I I I (gQ (zat 9 tf40 I I (vs:=[_,_]) I I) (gT I I I (gQ (zat 8 tf41 I I (vs:=[_,_,_,_,_]) I I) (gT I I I (gM I (gT I I I (gM I (gT I I I (gM I (gT I I I (gM I (gT I I I (gQ (zdB (b:=(prvA S2 V2 cs bs x frm to (stpL (bwT S2 V2 cs bs x frm to T).l) (prfA S2 V2 cs bs x frm to T))) (b':=false) (zaJ en35 I (λ w hw=>zMv _ _ S2 _ _ V2 _ _ cs _ _ bs x frm to _ _ (stpL (bwT S2 V2 cs bs x frm to T).l) _ _ (prfA S2 V2 cs bs x frm to T) w (zam zbI (hw.has (p:=2) I)) y1 (zcM (hw.has (p:=2) I)) (zam zbo (hw.has (p:=4) I)) y2 (λ z hz2=>zam Go.Stn.encI_ok (zbV (f:=rowH 3) (hw.has (p:=3) I) hz2)) y3 (λ z hz2=>zam zyn (zbV (f:=rowO 122) (hw.has (p:=5) I) hz2)) y4 (λ z hz2=>zcM (zbV (f:=rowO 122) (hw.has (p:=5) I) hz2)) ykn (zam ztJ (hw.has (p:=6) I)) hcs2 (zcM (hw.has (p:=6) I)) (zam zyx (hw.has (p:=7) I)) hbs2 (zam zyJ (hw.has (p:=1) I)) hsl (zam Go.Stn.encI_ok (hw.has (p:=0) I)) hpb)) (by exact hprv)) (gT I I I (gQ (zdB (b':=true) (zbR I) (by rfl)) (gQ (za5 I I I) (gM I (gT I I I ?_)))))))))))))))))))))
    refine gQ (zaJ en14 I (λ w hw=>zz3 w (rH hmx hw) (rH hcp hw) (rH hop hw))) (gQ (za5 I I I) (gA I (gN [2,6,11,12,13,14,15,17] I (zaw (zay (zaC I (zau I)) ?_)))))
    rfl
end Go.Proofs.YteepmmghanbllaaGreatDoor
namespace Go.K
open Go Go.Stn Go.ChangeShapes Go.WideShapes Go.ChangeAt Go.WideElems Go.RowKit
def I64 (n:Int):Prop:=-9223372036854775808≤n∧n≤9223372036854775807
theorem zp6 {α:Type} {Q:Nat→α→Prop}:∀ n,(∀ i,i<n→∃ x,Q i x)→∃ l:List α,l.length=n∧∀ i x,l[i]?=some x→Q i x
 | 0,_=>⟨[],rfl,λ i x h=>by simp at h⟩
 | n+1,h=>by
  obtain⟨l,hl,hq⟩:=zp6 n (λ i hi=>h i (by omega))
  obtain⟨x,hx⟩:=h n (by omega)
  refine⟨l++[x],by simp [hl],λ i y hy=>?_⟩
  rcases Nat.lt_or_ge i n with hi|hi
  ·rw [List.getElem?_append_left (by omega)] at hy;exact hq i y hy
  ·rw [List.getElem?_append_right (by omega),hl] at hy
   have:i=n:=by
    rcases Nat.lt_or_ge n i with g|g
    ·rw [List.getElem?_eq_none (by simp;omega)] at hy;cases hy
    ·omega
   subst this
   simp at hy
   subst hy;exact hx
section
variable {H:Type} {enc:TypeId×Value→H} {P:Program}
theorem zgK (hl:laidOutB P=true) {W W':World} {sp':Nat→Bool}:∀ (ts:List TypeId) (vs:List Value) (ds:List (DataW H)) (ps:List MemPlace),(∀ t∈ts,P.readableRec t=true∧t<P.types.size) →
  DataW.TrodAll enc P W 0 (λ _=>true) true ts vs ds ps→(∀ p∈ps,W.sameAt W' p)→(∀ p∈ps,sp' p.block=true)→DataW.TrodAll enc P W' 0 sp' true ts vs ds ps
 | [],[],[],ps,_,h,_,_=>h
 | t :: ts,v :: vs,d :: ds,ps,hr,⟨p,q,h1,h2,he⟩,hs,hsp=>by
  subst he
  exact⟨p,q,Trod_stays hl (hr t (mS ..)).1 (hr t (mS ..)).2 h1 (λ x hx=>hs x (List.mem_append_left _ hx)) (λ x hx=>hsp x (List.mem_append_left _ hx)),
   zgK hl ts vs ds q (λ x hx=>hr x (mM _ hx)) h2 (λ x hx=>hs x (List.mem_append_right _ hx)) (λ x hx=>hsp x (List.mem_append_right _ hx)),rfl⟩
 | [],[],_ :: _,_,_,h,_,_=>h.elim
 | [],_ :: _,_,_,_,h,_,_=>h.elim
 | _ :: _,[],_,_,_,h,_,_=>h.elim
 | _ :: _,_ :: _,[],_,_,h,_,_=>h.elim
theorem law_post {f:Func} {s:ChangeSpec} {apart fresh handsOn again:Bool} {W W':World} {args:Array Value} {ds:List (DataW H)} {before:List MemPlace} {tb:TypeId} (hl:laidOutB P=true)
  (hW:DataW.Whole enc P f.params.toList s.vars apart W args.toList ds [] before) (hvars:s.vars=[]) (hread:f.params.toList.all (λ t=>P.readableRec t&&decide (t<P.types.size))=true)
  (hfn:s.fn H (ds++[])={ results:=[.lit (.bool true)],args:=ds }) (hrt:f.resultTypes=#[tb]) (htb:P.underlying tb=some .bool) (hb:Ext W W'):s.post enc P f apart fresh handsOn again W args (.bool true) W':=by
 have hlt:∀ p∈before,p.block<W.heap.size:=λ p hp=>hW.lt p hp
 have hold:∀ p∈before,(λ b=>decide (b<W.heap.size)) p.block=true:=λ p hp=>by simpa using hlt p hp
 have hW0:=hW
 obtain⟨p,q,hA,hV,hpq,hz,hn⟩:=hW
 rw [hvars] at hV
 obtain⟨_,rfl⟩:=trodVars_none hV
 rw [List.append_nil] at hpq
 subst hpq
 have hr:∀ t∈f.params.toList,P.readableRec t=true∧t<P.types.size:=λ t ht=>by
  have:=List.all_eq_true.1 hread t ht
  simpa using this
 have hsame:∀ x∈before,W.sameAt W' x:=λ x hx=>by
  have hlx:=hlt x hx
  cases x with
  | cell b off=>exact hb.below.cell (p:=⟨b,off,none⟩) hlx
  | map b=>exact hb.block b hlx
 have hargs:∀ sp:Nat→Bool,(∀ p∈before,sp p.block=true)→DataW.TrodAll enc P W' 0 sp true f.params.toList args.toList ds before:=λ sp hsp=>zgK hl _ _ _ _ hr hA hsame hsp
 have hres:∀ (b:Nat) (sp:Nat→Bool) (hd:Bool),DataW.TrodAll enc P W' b sp hd f.resultTypes.toList ((Value.bool true).resultList f.resultTypes.size) [.lit (.bool true)] []:=λ b sp hd=>by
  rw [hrt]
  exact⟨[],[],⟨1,by simp [DataW.trod,Value.cells,htb]⟩,rfl,rfl⟩
 refine⟨ds,[],before,[],before,[],hW0,?_,?_,?_,World.keptBut_mono (λ p hp=>⟨hp,Or.inr (Or.inl hp)⟩) (hb.below.frame (·∈before)),λ _=>?_⟩
 ·rw [hfn];exact hres _ _ _
 ·rw [hfn];exact hargs _ hold
 ·rw [hfn,hvars];rfl
 ·refine⟨λ j t r ht hrr=>?_,ds.cons (.lit (.bool true)),[],before,⟨before,[],?_,by rw [hvars];rfl,by simp,?_,?_⟩,λ x hx _=>hx⟩
  ·rw [hrt] at ht hrr
   have h0:t=tb:=by
    rcases j with _|j
    ·simpa using ht.symm
    ·simp at ht
   have h1:r=.bool true:=by
    rcases j with _|j
    ·simpa [Value.resultList] using hrr.symm
    ·simp at ht
   subst h0;subst h1
   exact okWide_bool_mk htb true
  ·have h1:=trodAll_append (hargs (λ _=>true) (λ _ _=>rfl)) (hres 0 (λ _=>true) true)
   simpa using h1
  ·intro b off hp
   rw [hb.below.frozen (hlt _ hp)]
   exact hz b off (by simpa using hp)
  ·intro ha
   have:=hn ha
   simpa using this
end
end Go.K
namespace Go.Proofs.YteepmmghanbllaaGreatDoor
open Go Go.K Go.Stn Go.Pln Go.ChangeShapes Go.WideShapes Go.ChangeAt Go.RowKit
theorem own:ownKnob Tryz.prog.godebug=none:=by kernel_rfl
abbrev laidR:List (String×DataW Unit):=Rows.fieldCrossesRow.laid
noncomputable def worldR (os:Os):World:=(World.doorLaid Tryz.prog 400 os).layVars Tryz.prog [("unicode/utf8.first",Go.Pinned.utf8First)]
theorem worldR_os (os:Os):(worldR os).os=os:=World.layVars_os _ _ _
theorem door_metR (os:Os) (args:Array Value):laidMetH Tryz.prog laidR ((worldR os).forCall (λ _ _=>0) ⟨#[],args,[]⟩).memory:=
 laidMetH_of_parts3 (fuel:=8) (laidMet_of_run' 8 (by kernel_rfl) (by kernel_rfl)) (by kernel_rfl) (by kernel_rfl)
section
variable {H:Type} {enc:TypeId×Value→H}
theorem returnsInHanded_of_change_and_shaped {a:Assume} {C:Checked} {os:Os} {f:FuncId} {fn:Func} {s:ChangeSpec} {conds:List PathCond} {apart fresh handsOn again:Bool} {X:World→Array Value→Prop}
  (hX:∀ (w w':World) (args:Array Value),w.heap=w'.heap→X w args→X w' args)
  (own:ownKnob C.prog.godebug=none) (started:os.Started) (noInit:C.prog.inits.idxOf? f=none) (hfn:C.prog.funcs[f]?=some fn)
  (witness:∃ (w:World) (tape:Tape) (i:Input),w.os=os∧(w.forCall tape i).Shaped C.prog∧i.vars=[]∧Input.okWide C.prog (w.forCall tape i) .any w.heap.size f i ∧
   ((s.pre enc C.prog fn conds apart (w.forCall tape i).memory i.args∧X (w.forCall tape i).memory i.args)∧sizedMet enc C.prog fn (OpenSpec.ofChange s) apart (w.forCall tape i).memory i.args)∧a.holds C.prog (lone (Frame.enter C.prog f i.args .normal) [] (w.forCall tape i)))
  (contract:∀ (W:World) (base:Nat) (args:Array Value) (ds gs:List (DataW H)) (before:List MemPlace),
   (∀ (j:Nat) t v,fn.params[j]?=some t→args[j]?=some v→Value.okWide C.prog W .any base t v) →
   DataW.Whole enc C.prog fn.params.toList s.vars apart W args.toList ds gs before →
   conds.all (PathCond.test C.prog ⟨fn.params.toList,ds,s.plain.varTypes C.prog,gs⟩)=true →
   (DataW.weightsEach C.prog (fn.params.toList++s.plain.varTypes C.prog) (ds++gs)).all (·≤reachBytes)=true→X W args →
   W.ShapedOpen C.prog →
   Calls C.prog f args W λ e W'=>∃ v,e=.returned v∧s.post enc C.prog fn apart fresh handsOn again W args v W') :
  ReturnsInHanded a C os f .any (λ w args=>(s.pre enc C.prog fn conds apart w args∧X w args)∧sizedMet enc C.prog fn (OpenSpec.ofChange s) apart w args) (s.post enc C.prog fn apart fresh handsOn again):=by
 refine returnsInHanded_of_calls own started noInit witness ?_
 intro w tape i _ hsh _ hok hpre _
 obtain⟨_,_,_,fn',hfn',_,_,_,_,hval⟩:=hok
 have e:fn' = fn:=Option.some.inj (hfn'.symm.trans hfn)
 subst e
 obtain⟨⟨⟨ds,gs,before,hw,hc⟩,hx⟩,hz⟩:=hpre
 have hw':=DataW.Whole.of_heap (w':=w.forCall tape i) (by rfl) hw
 refine(contract (w.forCall tape i) w.heap.size i.args ds gs before hval hw' hc (hz.weights hw) (hX _ _ _ (by rfl) hx) hsh).mono λ e W' ⟨v,he,hp⟩=>?_
 subst he
 exact ChangeSpec.post_blind hp
end
theorem zo3 {W:World} {b o:Nat} {v:Value} (h:W.cell? ⟨b,o,none⟩=some v):b<W.heap.size:=by
 rcases Nat.lt_or_ge b W.heap.size with g|g
 ·exact g
 ·exfalso
  simp [World.cell?,Array.getElem?_eq_none g] at h
theorem int_of_shape {W:World} (h:W.ShapedOpen Tryz.prog):Has W (IntV 2):=by
 obtain⟨m,hm⟩:=cell_of_shapedOpen_int (P:=Tryz.prog) (g:=2) (t:=3) (zero:=#[O 0]) (k:=.i64) h (oT (by kernel_rfl)) (by kernel_rfl) I (by kernel_rfl) (by kernel_rfl) Tryz.underlying3
 exact⟨(· = 2),λ k hk=>by rw [hk];exact zo3 hm,λ _=>Iff.rfl,m,hm⟩
theorem zok {W:World} {l:List (String×DataW Unit)} (h:laidMetH Tryz.prog l W) {n:String} {d:DataW Unit} (hm:(n,d)∈l) (hd:d.handleName?.isNone=true):Lib.VarReads Tryz.prog W n d:=by
 unfold laidMetH at h
 split at h
 ·exact Lib.laidMet.reads h hm
 ·exact Lib.laidMet.reads h.1 (List.mem_filter.2 ⟨hm,hd⟩)
theorem zlF {t:TypeId} {k:Nat} {W:World} {fuel:Nat} {l:List Value} {L:List ByteArray} {p:List MemPlace} (ht:Tryz.prog.underlying t=some (.array k 9)) (hct:Tryz.prog.cellsOf t=k) (hk:k=L.length)
  (h:DataW.trod (λ _=>()) Tryz.prog W 0 (λ _=>true) false fuel t l=some (.agg (L.map λ s=>.lit (.string s.data.toList)),p)):l=L.map λ s=>.string s:=by
 obtain⟨xs,m,_,hx,hlen,hn,hel⟩:=DataW.trod_array ht h
 have c9:Tryz.prog.cellsOf 9=1:=by kernel_rfl
 rw [c9] at hel
 simp only [Prod.mk.injEq,DataW.agg.injEq] at hx
 have hc:l.length=k:=by rw [hlen,hct]
 refine List.ext_getElem? λ i=>?_
 rw [List.getElem?_map]
 rcases Nat.lt_or_ge i k with hi|hi
 ·have he:=hel i hi
  have hli:i<l.length:=by omega
  have hLi:i<L.length:=by omega
  have hxi:i<xs.length:=by omega
  rw [Nat.mul_one,List.drop_eq_getElem_cons hli,eG hxi] at he
  have he1:DataW.trod (λ _=>()) Tryz.prog W 0 (λ _=>true) false m 9 [l[i]]=some xs[i]:=he
  obtain⟨s,e0,ey,_⟩:=DataW.trod_string Tryz.underlying9 he1
  have h1:(L.map λ s=>(DataW.lit (Lit.string s.data.toList):DataW Unit))[i]?=(xs.map (·.1))[i]?:=by rw [hx.1]
  rw [List.getElem?_map,List.getElem?_map,eG hLi,eG hxi,ey] at h1
  simp only [Option.map_some,sI,DataW.lit.injEq,Lit.string.injEq] at h1
  have h2:L[i]=s:=by
   have:=Array.toList_inj.1 h1
   exact ByteArray.ext this
  simp only [List.cons.injEq,and_true] at e0
  rw [eG hli,eG hLi,e0,h2]
  rfl
 ·rw [List.getElem?_eq_none (by omega),List.getElem?_eq_none (by omega)];rfl
theorem znT {W:World} {g:Nat} {nm:String} {t:TypeId} {k:Nat} {L:List ByteArray} {l:List (String×DataW Unit)} (h:laidMetH Tryz.prog l W) (hm:(nm,.agg (L.map λ s=>.lit (.string s.data.toList)))∈l)
  (hd:(DataW.agg (L.map λ s=>.lit (.string s.data.toList)):DataW Unit).handleName?.isNone=true)
  (hg:Tryz.prog.globalNamed nm=some g) (htg:(Tryz.prog.globals[g]?).map (·.type)=some t) (ht:Tryz.prog.underlying t=some (.array k 9)) (hct:Tryz.prog.cellsOf t=k) (hk:k=L.length) (h0:0<k):Has W (zaW (some ⟨g,0,none⟩) 1 encS L):=by
 obtain⟨g',t',cs,fuel,p,hg',ht',hv,hd'⟩:=zok h hm hd
 obtain rfl:=Option.some.inj (hg.symm.trans hg')
 obtain rfl:=Option.some.inj (htg.symm.trans ht')
 have hcs:=zlF ht hct hk hd'
 have hc:=World.var?_cell hg hv
 have hcell:∀ i x,L[i]?=some x→W.cell? ⟨g,i,none⟩=some (.string x):=λ i x hi=>by
  rw [hc i]
  obtain⟨lc⟩:=cs
  have h1:lc=_:=hcs
  rw [h1]
  simp [hi]
 refine⟨(· = g),λ b hb=>?_,.inr ⟨g,0,I,λ _=>Iff.rfl,λ i x hi=>⟨?_,trivial⟩⟩⟩
 ·rw [hb]
  match L,hk with
  | x :: r,_=>exact zo3 (hcell 0 x I)
  | [],hk=>exact absurd hk (by simp;omega)
 ·rw [Nat.zero_add,Nat.mul_one];exact hcell i x hi
theorem copes_of_laid {W:World} {l:List (String×DataW Unit)} (h:laidMetH Tryz.prog l W) (hm:("copestone/plan.copes",Rows.laid_copestone_plan_copes)∈l):Has W (zaW (some ⟨1,0,none⟩) 1 encS zeZ):=
 znT (t:=252) (k:=4) h hm (by kernel_rfl) (by kernel_rfl) (by kernel_rfl) Tryz.underlying252 (by kernel_rfl) I (by decide)
theorem opens_of_laid {W:World} {l:List (String×DataW Unit)} (h:laidMetH Tryz.prog l W) (hm:("copestone/plan.openings",Rows.laid_copestone_plan_openings)∈l):Has W (zaW (some ⟨0,0,none⟩) 1 encS opensW):=
 znT (t:=231) (k:=5) h hm (by kernel_rfl) (by kernel_rfl) (by kernel_rfl) Tryz.underlying231 (by kernel_rfl) I (by decide)
end Go.Proofs.YteepmmghanbllaaGreatDoor
namespace Go.Proofs.YteepmmghanbllaaGreatDoor
open Go Go.K Go.Stn Go.Pln Go.Fld Go.ChangeShapes Go.WideShapes Go.ChangeAt Go.WideElems Go.RowKit
section
variable {H:Type} {enc:TypeId×Value→H} {P:Program} {w:World} {base:Nat} {spare:Nat→Bool} {held:Bool}
theorem ziT {e:TypeId} {d:DataW H}:∀ {l:List (DataW H)},d∈l→∀ n∈d.weights P e,n∈DataW.weightsAll P e l
 | [],h,_,_=>by cases h
 | x :: r,h,n,hn=>by
  rw [DataW.weightsAll]
  rcases List.mem_cons.1 h with rfl|h
  ·exact List.mem_append_left _ hn
  ·exact List.mem_append_right _ (ziT h n hn)
def WOk (P:Program) (t:TypeId) (d:DataW H):Prop:=∀ n∈d.weights P t,n≤reachBytes
theorem wok_each:∀ {ts:List TypeId} {ds:List (DataW H)},(∀ n∈DataW.weightsEach P ts ds,n≤reachBytes)→∀ (i:Nat) t d,ts[i]?=some t→ds[i]?=some d→WOk P t d
 | [],_,_,i,t,d,h1,_=>by simp at h1
 | _ :: _,[],_,i,t,d,_,h2=>by simp at h2
 | t0 :: ts,d0 :: ds,h,i,t,d,h1,h2=>by
  rw [DataW.weightsEach] at h
  cases i with
  | zero=>
   simp only [List.getElem?_cons_zero,sI] at h1 h2
   subst h1;subst h2
   exact λ n hn=>h n (List.mem_append_left _ hn)
  | succ i=>
   simp only [List.getElem?_cons_succ] at h1 h2
   exact wok_each (λ n hn=>h n (List.mem_append_right _ hn)) i t d h1 h2
theorem zoH {t:TypeId} {fs:Array Field} (ht:P.underlying t=some (.struct fs)) {ys:List (DataW H×List MemPlace)} (h:WOk P t (.agg (ys.map (·.1)))) {i:Nat} {f:Field} {y:DataW H×List MemPlace} (hf:fs[i]?=some f) (hy:ys[i]?=some y):WOk P f.type y.1:=by
 have h':∀ n∈DataW.weightsEach P (fs.toList.map (·.type)) (ys.map (·.1)),n≤reachBytes:=λ n hn=>h n (by rw [DataW.weights,ht];exact hn)
 refine wok_each h' i f.type y.1 ?_ ?_
 ·rw [List.getElem?_map,Array.getElem?_toList,hf];rfl
 ·rw [List.getElem?_map,hy];rfl
theorem zop {α:Type} {enc':α→List Value} {n:Nat} {Q:α→Prop} {t e:TypeId} {fuel:Nat} {cs:List Value} {x:DataW H×List MemPlace} (ht:P.underlying t=some (.slice e)) (hc:P.cellsOf e=n) (hn:Enc n enc')
  (hel:∀ (fuel:Nat) (cs:List Value) (y:DataW H×List MemPlace),DataW.trod enc P w base spare held fuel e cs=some y→WOk P e y.1→∃ z,Q z∧cs=enc' z)
  (h:DataW.trod enc P w base spare held fuel t cs=some x) (hx:WOk P t x.1) :
  ∃ (a:Option Addr) (L:List α) (cap:Nat),cs=[A a L.length cap]∧Has w (zaW a n enc' L)∧L.length≤cap∧(∀ z∈L,Q z)∧L.length*P.bytesOf e≤reachBytes:=by
 rcases Go.Deep.open_slice ht h with ⟨rfl,_⟩ | ⟨a,len,cap,m,k,D,Pl,rfl,hb,hl,hm,hmm,hxe,hi⟩
 ·exact⟨none,[],0,rfl,⟨λ _=>False,λ _ h=>h.elim,.inl I⟩,Nat.le_refl _,by simp,by simp⟩
 ·have hlm:len≤m:=by rw [hmm];split <;> omega
  have hw:∀ v∈(len+(m - len))*P.bytesOf e :: (DataW.weightsAll P e ((List.range len).map D)++DataW.weightsAll P e ((List.range (m - len)).map λ j=>D (len+j))),v≤reachBytes:=λ v hv=>by
   refine hx v ?_
   rw [hxe,DataW.weights,ht]
   simpa using hv
  obtain⟨L,hll,hq⟩:=zp6 (Q:=λ i (z:α)=>Q z∧∀ j v,(enc' z)[j]?=some v→w.cell? (a.add (i*n+j))=some v) len (λ i hil=>by
   obtain⟨cs',hcs,ht'⟩:=hi i (by omega)
   obtain⟨z,hz,rfl⟩:=hel _ _ _ ht' (λ v hv=>hw v (mM _ (List.mem_append_left _ (ziT (List.mem_map.2 ⟨i,List.mem_range.2 hil,rfl⟩) v hv))))
   rw [hc] at hcs
   obtain⟨_,_,hat⟩:=World.cells?_some hcs
   refine⟨z,hz,λ j v hj=>?_⟩
   have hjn:j<n:=by
    have:=(List.getElem?_eq_some_iff.1 hj).1
    rw [hn.len] at this;exact this
   have h0:=hat j hjn
   rw [Go.Deep.add_add] at h0
   rw [h0];exact hj)
  refine⟨some a,L,cap,by rw [hll],?_,by omega,λ z hz=>?_,?_⟩
  ·cases L with
   | nil=>exact⟨λ _=>False,λ _ h=>h.elim,.inl I⟩
   | cons z0 r=>
    obtain⟨v0,hv0⟩:∃ v0,(enc' z0)[0]?=some v0:=by
     have:0<(enc' z0).length:=by rw [hn.len];exact hn.pos
     exact⟨_,eG this⟩
    have hc0:=(hq 0 z0 I).2 0 _ hv0
    obtain⟨b,off,sp⟩:=a
    have hsp:sp=none:=by
     cases sp with
     | none=>rfl
     | some s=>
      exfalso
      simp only [World.cell?,Addr.add] at hc0
      split at hc0 <;> simp_all
    subst hsp
    have hbs:b<w.heap.size:=by
     rcases Nat.lt_or_ge b w.heap.size with h|h
     ·exact h
     ·exfalso
      rw [zb2] at hc0
      simp [World.cell?,Array.getElem?_eq_none h] at hc0
    refine⟨(· = b),λ k hk=>by rw [hk];exact hbs,.inr ⟨b,off,rfl,λ _=>Iff.rfl,λ i z hz=>zfA _ _ λ j v hj=>?_⟩⟩
    have:=(hq i z hz).2 j v hj
    rw [zb2] at this
    rw [Nat.add_assoc];exact this
  ·obtain⟨i,hi',rfl⟩:=List.getElem_of_mem hz
   exact(hq i _ (by simp [hi'])).1
  ·have h1:=hw _ (mS ..)
   rw [hll]
   refine Nat.le_trans (Nat.mul_le_mul_right _ ?_) h1
   omega
theorem zfs {t:TypeId} {fs:Array Field} {fuel:Nat} {cs:List Value} {x:DataW H×List MemPlace} (ht:P.underlying t=some (.struct fs)) (h:DataW.trod enc P w base spare held fuel t cs=some x) (hx:WOk P t x.1) (i:Nat) (f:Field) (hf:fs[i]?=some f) (ho:f.offset=i) (hc:P.cellsOf f.type=1) (hi:i<cs.length) :
  ∃ (v:Value) (y:DataW H×List MemPlace) (m:Nat),cs[i]?=some v∧DataW.trod enc P w base spare held m f.type [v]=some y∧WOk P f.type y.1:=by
 obtain⟨ys,m,_,hxe,_,hyl,hg⟩:=DataW.trod_struct ht h
 have h1:=hg i f hf
 have hfi:i<fs.size:=by
  rcases Nat.lt_or_ge i fs.size with g|g
  ·exact g
  ·rw [Array.getElem?_eq_none g] at hf;cases hf
 rw [ho,hc,List.drop_eq_getElem_cons hi,eG (by omega)] at h1
 have h2:DataW.trod enc P w base spare held m f.type [cs[i]]=some (ys[i]'(by omega)):=h1
 refine⟨cs[i],ys[i]'(by omega),m,eG hi,h2,?_⟩
 rw [hxe] at hx
 exact zoH ht hx hf (eG (by omega))
theorem zh1 {t:TypeId} {fs:Array Field} {fuel:Nat} {cs:List Value} {x:DataW H×List MemPlace} (ht:P.underlying t=some (.struct fs)) (h:DataW.trod enc P w base spare held fuel t cs=some x) (hx:WOk P t x.1) (i:Nat) (f:Field) (hf:fs[i]?=some f) (ho:f.offset=i) (hc:P.cellsOf f.type=1) (hi:i<cs.length)
  (hu:P.underlying f.type=some .string):∃ s:ByteArray,cs[i]?=some (.string s)∧Fits s.size:=by
 obtain⟨v,y,m,hv,hy,hw⟩:=zfs ht h hx i f hf ho hc hi
 obtain⟨s,e,ey,_⟩:=DataW.trod_string hu hy
 simp only [List.cons.injEq,and_true] at e
 subst e;subst ey
 refine⟨s,hv,?_⟩
 have:=hw s.size (by rw [DataW.weights];simp)
 unfold reachBytes at this
 unfold Fits
 omega
theorem zbA {t:TypeId} {fs:Array Field} {fuel:Nat} {cs:List Value} {x:DataW H×List MemPlace} (ht:P.underlying t=some (.struct fs)) (h:DataW.trod enc P w base spare held fuel t cs=some x) (hx:WOk P t x.1) (i:Nat) (f:Field) (hf:fs[i]?=some f) (ho:f.offset=i) (hc:P.cellsOf f.type=1) (hi:i<cs.length)
  {k:IntKind} (hu:P.underlying f.type=some (.int k)):∃ n:Int,cs[i]?=some (.int k n)∧(Lit.int k n).wf=true:=by
 obtain⟨v,y,m,hv,hy,hw⟩:=zfs ht h hx i f hf ho hc hi
 obtain⟨n,e,ey,hwf⟩:=DataW.trod_int hu hy
 simp only [List.cons.injEq,and_true] at e
 subst e
 exact⟨n,hv,hwf⟩
theorem zfD {α:Type} {enc':α→List Value} {n:Nat} {Q:α→Prop} {t e:TypeId} {fs:Array Field} {fuel:Nat} {cs:List Value} {x:DataW H×List MemPlace} (ht:P.underlying t=some (.struct fs)) (h:DataW.trod enc P w base spare held fuel t cs=some x) (hx:WOk P t x.1) (i:Nat) (f:Field) (hf:fs[i]?=some f) (ho:f.offset=i) (hc:P.cellsOf f.type=1) (hi:i<cs.length)
  (hu:P.underlying f.type=some (.slice e)) (hce:P.cellsOf e=n) (hn:Enc n enc') (hel:∀ (fuel:Nat) (cs:List Value) (y:DataW H×List MemPlace),DataW.trod enc P w base spare held fuel e cs=some y→WOk P e y.1→∃ z,Q z∧cs=enc' z) :
  ∃ (a:Option Addr) (L:List α) (cap:Nat),cs[i]?=some (A a L.length cap)∧Has w (zaW a n enc' L)∧L.length≤cap∧(∀ z∈L,Q z)∧L.length*P.bytesOf e≤reachBytes:=by
 obtain⟨v,y,m,hv,hy,hw⟩:=zfs ht h hx i f hf ho hc hi
 obtain⟨a,L,cap,e1,h1,h2,h3,h4⟩:=zop hu hce hn hel hy hw
 simp only [List.cons.injEq,and_true] at e1
 subst e1
 exact⟨a,L,cap,hv,h1,h2,h3,h4⟩
end
section
variable {H:Type} {enc:TypeId×Value→H} {w:World} {base:Nat} {spare:Nat→Bool} {held:Bool}
theorem zfH {P:Program} {t:TypeId} {fs:Array Field} {fuel n:Nat} {cs:List Value} {x:DataW H×List MemPlace} (ht:P.underlying t=some (.struct fs)) (hc:P.cellsOf t=n) (h:DataW.trod enc P w base spare held fuel t cs=some x):cs.length=n:=by
 obtain⟨_,_,_,_,hl,_⟩:=DataW.trod_struct ht h
 rw [hl,hc]
theorem h3 {n:Nat} (h:n*Tryz.prog.bytesOf 3≤reachBytes):n≤17592186044416:=by
 rw [show Tryz.prog.bytesOf 3=8 by kernel_rfl] at h
 unfold reachBytes at h
 omega
theorem hopn {n:Nat} (h:n*Tryz.prog.bytesOf 138≤reachBytes):n≤3518437208883:=by
 rw [show Tryz.prog.bytesOf 138=40 by kernel_rfl] at h
 unfold reachBytes at h
 omega
theorem hsht {n:Nat} (h:n*Tryz.prog.bytesOf 135≤reachBytes):n≤764877654104:=by
 rw [show Tryz.prog.bytesOf 135=184 by kernel_rfl] at h
 unfold reachBytes at h
 omega
theorem hwll {n:Nat} (h:n*Tryz.prog.bytesOf 134≤reachBytes):n≤2199023255552:=by
 rw [show Tryz.prog.bytesOf 134=64 by kernel_rfl] at h
 unfold reachBytes at h
 omega
theorem hcel {n:Nat} (h:n*Tryz.prog.bytesOf 9≤reachBytes):n≤8796093022208:=by
 rw [show Tryz.prog.bytesOf 9=16 by kernel_rfl] at h
 unfold reachBytes at h
 omega
theorem hbdr {n:Nat} (h:n*Tryz.prog.bytesOf 100≤reachBytes):n≤2513169434915:=by
 rw [show Tryz.prog.bytesOf 100=56 by kernel_rfl] at h
 unfold reachBytes at h
 omega
theorem zrX {fuel:Nat} {cs:List Value} {y:DataW H×List MemPlace} (h:DataW.trod enc Tryz.prog w base spare held fuel 3 cs=some y) (_:WOk Tryz.prog 3 y.1):∃ n:Int,True∧cs=C n:=by
 obtain⟨n,e,_,_⟩:=DataW.trod_int Tryz.underlying3 h
 exact⟨n,trivial,e⟩
theorem zrY {fuel:Nat} {cs:List Value} {y:DataW H×List MemPlace} (h:DataW.trod enc Tryz.prog w base spare held fuel 138 cs=some y) (hx:WOk Tryz.prog 138 y.1) :
  ∃ o:Opn,Knd o∧cs=zba o:=by
 have hl:cs.length=5:=zfH Tryz.underlying138 (by kernel_rfl) h
 obtain⟨f0,e0,q0⟩:=zbA Tryz.underlying138 h hx 0 _ I I (by kernel_rfl) (by omega) Tryz.underlying5
 obtain⟨f1,e1,q1⟩:=zbA Tryz.underlying138 h hx 1 _ I I (by kernel_rfl) (by omega) Tryz.underlying3
 obtain⟨f2,e2,q2⟩:=zbA Tryz.underlying138 h hx 2 _ I I (by kernel_rfl) (by omega) Tryz.underlying3
 obtain⟨f3,e3,q3⟩:=zbA Tryz.underlying138 h hx 3 _ I I (by kernel_rfl) (by omega) Tryz.underlying3
 obtain⟨f4,e4,q4⟩:=zbA Tryz.underlying138 h hx 4 _ I I (by kernel_rfl) (by omega) Tryz.underlying3
 match cs,hl with
 | [c0,c1,c2,c3,c4],_=>
  simp only [List.getElem?_cons_zero,List.getElem?_cons_succ,sI] at e0 e1 e2 e3 e4
  subst e0;subst e1;subst e2;subst e3;subst e4
  exact⟨⟨f0,f1,f2,f3,f4⟩,bounds_u8 q0,rfl⟩
structure ShIn (w:World) (z:ShC):Prop where
 hts:Has w (Ints z.a z.s.heights)
 cap:z.s.heights.length≤z.cap
 fits:Fits z.s.name.size
 cope:0≤z.s.cope
 cope2:z.s.cope≤255
 num:z.s.heights.length≤17592186044416
structure WlIn (w:World) (z:WlC):Prop where
 ops:Has w (zaW z.a 5 zba z.s.opens)
 cap:z.s.opens.length≤z.cap
 knd:∀ o∈z.s.opens,Knd o
 fits:Fits z.s.name.size
 fits2:Fits z.s.sheet.size
 num:z.s.opens.length≤3518437208883
theorem zr0 {fuel:Nat} {cs:List Value} {y:DataW H×List MemPlace} (h:DataW.trod enc Tryz.prog w base spare held fuel 135 cs=some y) (hx:WOk Tryz.prog 135 y.1) :
  ∃ z:ShC,ShIn w z∧cs=zbH z:=by
 have hl:cs.length=20:=zfH Tryz.underlying135 (by kernel_rfl) h
 obtain⟨f0,e0,q0⟩:=zh1 Tryz.underlying135 h hx 0 _ I I (by kernel_rfl) (by omega) Tryz.underlying9
 obtain⟨f1,e1,q1⟩:=zbA Tryz.underlying135 h hx 1 _ I I (by kernel_rfl) (by omega) Tryz.underlying3
 obtain⟨f2,e2,q2⟩:=zbA Tryz.underlying135 h hx 2 _ I I (by kernel_rfl) (by omega) Tryz.underlying3
 obtain⟨f3,e3,q3⟩:=zbA Tryz.underlying135 h hx 3 _ I I (by kernel_rfl) (by omega) Tryz.underlying3
 obtain⟨f4,e4,q4⟩:=zbA Tryz.underlying135 h hx 4 _ I I (by kernel_rfl) (by omega) Tryz.underlying3
 obtain⟨a5,f5,k5,e5,q5,r5,s5,b5⟩:=zfD (Q:=λ _=>True) Tryz.underlying135 h hx 5 _ I I (by kernel_rfl) (by omega) Tryz.underlying45 (by kernel_rfl) Go.Stn.encI_ok (λ _ _ _ h1 h2=>zrX h1 h2)
 obtain⟨f6,e6,q6⟩:=zbA Tryz.underlying135 h hx 6 _ I I (by kernel_rfl) (by omega) Tryz.underlying3
 obtain⟨f7,e7,q7⟩:=zbA Tryz.underlying135 h hx 7 _ I I (by kernel_rfl) (by omega) Tryz.underlying3
 obtain⟨f8,e8,q8⟩:=zbA Tryz.underlying135 h hx 8 _ I I (by kernel_rfl) (by omega) Tryz.underlying3
 obtain⟨f9,e9,q9⟩:=zbA Tryz.underlying135 h hx 9 _ I I (by kernel_rfl) (by omega) Tryz.underlying3
 obtain⟨f10,e10,q10⟩:=zbA Tryz.underlying135 h hx 10 _ I I (by kernel_rfl) (by omega) Tryz.underlying3
 obtain⟨f11,e11,q11⟩:=zbA Tryz.underlying135 h hx 11 _ I I (by kernel_rfl) (by omega) Tryz.underlying3
 obtain⟨f12,e12,q12⟩:=zbA Tryz.underlying135 h hx 12 _ I I (by kernel_rfl) (by omega) Tryz.underlying3
 obtain⟨f13,e13,q13⟩:=zbA Tryz.underlying135 h hx 13 _ I I (by kernel_rfl) (by omega) Tryz.underlying5
 obtain⟨f14,e14,q14⟩:=zbA Tryz.underlying135 h hx 14 _ I I (by kernel_rfl) (by omega) Tryz.underlying3
 obtain⟨f15,e15,q15⟩:=zbA Tryz.underlying135 h hx 15 _ I I (by kernel_rfl) (by omega) Tryz.underlying3
 obtain⟨f16,e16,q16⟩:=zbA Tryz.underlying135 h hx 16 _ I I (by kernel_rfl) (by omega) Tryz.underlying3
 obtain⟨f17,e17,q17⟩:=zbA Tryz.underlying135 h hx 17 _ I I (by kernel_rfl) (by omega) Tryz.underlying3
 obtain⟨f18,e18,q18⟩:=zbA Tryz.underlying135 h hx 18 _ I I (by kernel_rfl) (by omega) Tryz.underlying3
 obtain⟨f19,e19,q19⟩:=zbA Tryz.underlying135 h hx 19 _ I I (by kernel_rfl) (by omega) Tryz.underlying3
 match cs,hl with
 | [c0,c1,c2,c3,c4,c5,c6,c7,c8,c9,c10,c11,c12,c13,c14,c15,c16,c17,c18,c19],_=>
  simp only [List.getElem?_cons_zero,List.getElem?_cons_succ,sI] at e0 e1 e2 e3 e4 e5 e6 e7 e8 e9 e10 e11 e12 e13 e14 e15 e16 e17 e18 e19
  subst e0;subst e1;subst e2;subst e3;subst e4;subst e5;subst e6;subst e7;subst e8;subst e9;subst e10;subst e11;subst e12;subst e13;subst e14;subst e15;subst e16;subst e17;subst e18;subst e19
  exact⟨⟨⟨f0,f1,f2,f3,f4,f5,f6,f7,f8,f9,f10,f11,f12,f13,f14,f15,f16,f17,f18,f19⟩,a5,k5⟩,⟨q5,r5,q0,(bounds_u8 q13).1,(bounds_u8 q13).2,h3 b5⟩,rfl⟩
theorem zr1 {fuel:Nat} {cs:List Value} {y:DataW H×List MemPlace} (h:DataW.trod enc Tryz.prog w base spare held fuel 134 cs=some y) (hx:WOk Tryz.prog 134 y.1) :
  ∃ z:WlC,WlIn w z∧cs=zbS z:=by
 have hl:cs.length=4:=zfH Tryz.underlying134 (by kernel_rfl) h
 obtain⟨f0,e0,q0⟩:=zh1 Tryz.underlying134 h hx 0 _ I I (by kernel_rfl) (by omega) Tryz.underlying9
 obtain⟨f1,e1,q1⟩:=zh1 Tryz.underlying134 h hx 1 _ I I (by kernel_rfl) (by omega) Tryz.underlying9
 obtain⟨f2,e2,q2⟩:=zbA Tryz.underlying134 h hx 2 _ I I (by kernel_rfl) (by omega) Tryz.underlying3
 obtain⟨a3,f3,k3,e3,q3,r3,s3,b3⟩:=zfD (Q:=Knd) Tryz.underlying134 h hx 3 _ I I (by kernel_rfl) (by omega) Tryz.underlying132 (by kernel_rfl) zyn (λ _ _ _ h1 h2=>zrY h1 h2)
 match cs,hl with
 | [c0,c1,c2,c3],_=>
  simp only [List.getElem?_cons_zero,List.getElem?_cons_succ,sI] at e0 e1 e2 e3
  subst e0;subst e1;subst e2;subst e3
  exact⟨⟨⟨f0,f1,f2,f3⟩,a3,k3⟩,⟨q3,r3,s3,q0,q1,hopn b3⟩,rfl⟩
structure zsA (w:World) (a:Option Addr) (cap:Nat) (S:List ShC) (b:Option Addr) (bcap:Nat) (V:List WlC):Prop where
 hl:Has w (zaW a 20 zbH S)
 hcS:S.length≤cap
 hS:∀ z∈S,ShIn w z
 hs:S.length≤764877654104
 hlw:Has w (zaW b 4 zbS V)
 hcV:V.length≤bcap
 hV:∀ z∈V,WlIn w z
 hsw:V.length≤2199023255552
theorem zrZ {fuel:Nat} {cs:List Value} {y:DataW H×List MemPlace} (h:DataW.trod enc Tryz.prog w base spare held fuel 25 cs=some y) (hx:WOk Tryz.prog 25 y.1) :
  ∃ (a:Option Addr) (cap:Nat) (S:List ShC) (b:Option Addr) (bcap:Nat) (V:List WlC),zsA w a cap S b bcap V∧cs=[A a S.length cap,A b V.length bcap]:=by
 have hl:cs.length=2:=zfH Tryz.underlying25 (by kernel_rfl) h
 obtain⟨a0,f0,k0,e0,q0,r0,s0,b0⟩:=zfD (Q:=ShIn w) Tryz.underlying25 h hx 0 _ I I (by kernel_rfl) (by omega) Tryz.underlying22 (by kernel_rfl) zbI (λ _ _ _ h1 h2=>zr0 h1 h2)
 obtain⟨a1,f1,k1,e1,q1,r1,s1,b1⟩:=zfD (Q:=WlIn w) Tryz.underlying25 h hx 1 _ I I (by kernel_rfl) (by omega) Tryz.underlying23 (by kernel_rfl) zbo (λ _ _ _ h1 h2=>zr1 h1 h2)
 match cs,hl with
 | [c0,c1],_=>
  simp only [List.getElem?_cons_zero,List.getElem?_cons_succ,sI] at e0 e1
  subst e0;subst e1
  exact⟨a0,k0,f0,a1,k1,f1,⟨q0,r0,s0,hsht b0,q1,r1,s1,hwll b1⟩,rfl⟩
theorem zE0 {fuel:Nat} {cs:List Value} {y:DataW H×List MemPlace} (h:DataW.trod enc Tryz.prog w base spare held fuel 9 cs=some y) (hx:WOk Tryz.prog 9 y.1):∃ s:ByteArray,Fits s.size∧cs=encS s:=by
 obtain⟨s,e,ey,_⟩:=DataW.trod_string Tryz.underlying9 h
 refine⟨s,?_,e⟩
 have:=hx s.size (by rw [ey,DataW.weights];simp)
 unfold reachBytes at this
 unfold Fits
 omega
theorem zDc {t:TypeId} {fs:Array Field} {fuel:Nat} {cs:List Value} {x:DataW H×List MemPlace} (ht:Tryz.prog.underlying t=some (.struct fs)) (h:DataW.trod enc Tryz.prog w base spare held fuel t cs=some x) (hx:WOk Tryz.prog t x.1) (i:Nat) (f:Field) (hf:fs[i]?=some f) (ho:f.offset=i) (hc:Tryz.prog.cellsOf f.type=1) (hi:i<cs.length)
  (hu:Tryz.prog.underlying f.type=some .bool):∃ b:Bool,cs[i]?=some (.bool b):=by
 obtain⟨v,y,m,hv,hy,hw⟩:=zfs ht h hx i f hf ho hc hi
 obtain⟨b,e,_⟩:=DataW.trod_bool hu hy
 simp only [List.cons.injEq,and_true] at e
 subst e
 exact⟨b,hv⟩
theorem zEY {fuel:Nat} {cs:List Value} {y:DataW H×List MemPlace} (h:DataW.trod enc Tryz.prog w base spare held fuel 100 cs=some y) (hx:WOk Tryz.prog 100 y.1):∃ z:Bdr,True∧cs=zyr z:=by
 have hl:cs.length=6:=zfH Tryz.underlying100 (by kernel_rfl) h
 obtain⟨f0,e0,_⟩:=zbA Tryz.underlying100 h hx 0 _ I I (by kernel_rfl) (by omega) Tryz.underlying3
 obtain⟨f1,e1,_⟩:=zbA Tryz.underlying100 h hx 1 _ I I (by kernel_rfl) (by omega) Tryz.underlying3
 obtain⟨f2,e2,_⟩:=zh1 Tryz.underlying100 h hx 2 _ I I (by kernel_rfl) (by omega) Tryz.underlying9
 obtain⟨f3,e3,_⟩:=zbA Tryz.underlying100 h hx 3 _ I I (by kernel_rfl) (by omega) Tryz.underlying3
 obtain⟨f4,e4,_⟩:=zbA Tryz.underlying100 h hx 4 _ I I (by kernel_rfl) (by omega) Tryz.underlying3
 obtain⟨f5,e5⟩:=zDc Tryz.underlying100 h hx 5 _ I I (by kernel_rfl) (by omega) Tryz.underlying4
 match cs,hl with
 | [c0,c1,c2,c3,c4,c5],_=>
  simp only [List.getElem?_cons_zero,List.getElem?_cons_succ,sI] at e0 e1 e2 e3 e4 e5
  subst e0;subst e1;subst e2;subst e3;subst e4;subst e5
  exact⟨⟨f0,f1,f2,f3,f4,f5⟩,trivial,rfl⟩
structure zGO (w:World) (ca:Option Addr) (ccap:Nat) (cs:List ByteArray) (ba:Option Addr) (bcp:Nat) (bs:List Bdr):Prop where
 hc:Has w (zaW ca 1 encS cs)
 hcap:cs.length≤ccap
 hcf:∀ z∈cs,Fits z.size
 hcn:cs.length≤8796093022208
 hbd:Has w (zaW ba 6 zyr bs)
 hbn:bs.length≤2513169434915
theorem zEZ {fuel:Nat} {cs:List Value} {y:DataW H×List MemPlace} (h:DataW.trod enc Tryz.prog w base spare held fuel 29 cs=some y) (hx:WOk Tryz.prog 29 y.1) :
  ∃ (ca:Option Addr) (ccap:Nat) (C:List ByteArray) (ba:Option Addr) (bcp:Nat) (B:List Bdr),zGO w ca ccap C ba bcp B∧cs=[A ca C.length ccap,A ba B.length bcp]:=by
 have hl:cs.length=2:=zfH Tryz.underlying29 (by kernel_rfl) h
 obtain⟨a0,f0,k0,e0,q0,r0,s0,b0⟩:=zfD (Q:=λ z:ByteArray=>Fits z.size) Tryz.underlying29 h hx 0 _ I I (by kernel_rfl) (by omega) Tryz.underlying26 (by kernel_rfl) ztJ (λ _ _ _ h1 h2=>zE0 h1 h2)
 obtain⟨a1,f1,k1,e1,q1,r1,s1,b1⟩:=zfD (Q:=λ _=>True) Tryz.underlying29 h hx 1 _ I I (by kernel_rfl) (by omega) Tryz.underlying27 (by kernel_rfl) zyx (λ _ _ _ h1 h2=>zEY h1 h2)
 match cs,hl with
 | [c0,c1],_=>
  simp only [List.getElem?_cons_zero,List.getElem?_cons_succ,sI] at e0 e1
  subst e0;subst e1
  exact⟨a0,k0,f0,a1,k1,f1,⟨q0,r0,s0,hcel b0,q1,hbdr b1⟩,rfl⟩
theorem zEX {fuel:Nat} {cs:List Value} {y:DataW H×List MemPlace} (h:DataW.trod enc Tryz.prog w base spare held fuel 31 cs=some y) (hx:WOk Tryz.prog 31 y.1):∃ x:Anm,cs=zHc x:=by
 have hl:cs.length=5:=zfH Tryz.underlying31 (by kernel_rfl) h
 obtain⟨f0,e0,_⟩:=zbA Tryz.underlying31 h hx 0 _ I I (by kernel_rfl) (by omega) Tryz.underlying3
 obtain⟨f1,e1,_⟩:=zbA Tryz.underlying31 h hx 1 _ I I (by kernel_rfl) (by omega) Tryz.underlying3
 obtain⟨f2,e2,_⟩:=zbA Tryz.underlying31 h hx 2 _ I I (by kernel_rfl) (by omega) Tryz.underlying3
 obtain⟨f3,e3,_⟩:=zbA Tryz.underlying31 h hx 3 _ I I (by kernel_rfl) (by omega) Tryz.underlying3
 obtain⟨f4,e4,_⟩:=zbA Tryz.underlying31 h hx 4 _ I I (by kernel_rfl) (by omega) Tryz.underlying3
 match cs,hl with
 | [c0,c1,c2,c3,c4],_=>
  simp only [List.getElem?_cons_zero,List.getElem?_cons_succ,sI] at e0 e1 e2 e3 e4
  subst e0;subst e1;subst e2;subst e3;subst e4
  exact⟨⟨f0,f1,f2,f3,f4⟩,rfl⟩
theorem zzU {t:TypeId} {fs:Array Field} {fuel:Nat} {cs:List Value} {x:DataW H×List MemPlace} (ht:Tryz.prog.underlying t=some (.struct fs)) (h:DataW.trod enc Tryz.prog w base spare held fuel t cs=some x) (hx:WOk Tryz.prog t x.1) (i:Nat) (f:Field) (hf:fs[i]?=some f) :
  ∃ (y:DataW H×List MemPlace) (m:Nat),DataW.trod enc Tryz.prog w base spare held m f.type ((cs.drop f.offset).take (Tryz.prog.cellsOf f.type))=some y∧WOk Tryz.prog f.type y.1:=by
 obtain⟨ys,m,_,hxe,_,hyl,hg⟩:=DataW.trod_struct ht h
 have hfi:i<fs.size:=by
  rcases Nat.lt_or_ge i fs.size with g|g
  ·exact g
  ·rw [Array.getElem?_eq_none g] at hf;cases hf
 have h1:=hg i f hf
 rw [eG (by omega)] at h1
 refine⟨ys[i]'(by omega),m,h1,?_⟩
 rw [hxe] at hx
 exact zoH ht hx hf (eG (by omega))
theorem open_scene {r:Reach} {b0:Nat} {v:Value} {d:DataW H} {p:List MemPlace} (hv:Value.okWide Tryz.prog w r b0 33 v) (h:DataW.Trod enc Tryz.prog w base spare held 33 v d p) (hx:WOk Tryz.prog 33 d) :
  ∃ (a:Option Addr) (cap:Nat) (S:List ShC) (b:Option Addr) (bcap:Nat) (V:List WlC) (ca:Option Addr) (ccap:Nat) (cs:List ByteArray) (ba:Option Addr) (bcp:Nat) (bs:List Bdr) (x:Anm),zsA w a cap S b bcap V∧zGO w ca ccap cs ba bcp bs ∧
   v=.agg #[A a S.length cap,A b V.length bcap,A ca cs.length ccap,A ba bs.length bcp,O x.wide,O x.high,O x.step,O x.leap,O x.reach]:=by
 obtain⟨ls0,rfl,hsz⟩:=okWide_struct Tryz.underlying33 hv
 obtain⟨fuel,hf⟩:=h
 obtain⟨ls⟩:=ls0
 have hl:ls.length=9:=zfH Tryz.underlying33 (by kernel_rfl) hf
 obtain⟨y0,m0,t0,w0⟩:=zzU (x:=(d,p)) Tryz.underlying33 hf hx 0 _ I
 obtain⟨y1,m1,t1,w1⟩:=zzU (x:=(d,p)) Tryz.underlying33 hf hx 1 _ I
 obtain⟨y2,m2,t2,w2⟩:=zzU (x:=(d,p)) Tryz.underlying33 hf hx 2 _ I
 obtain⟨a,cap,S,b,bcap,V,h1,e1⟩:=zrZ t0 w0
 obtain⟨ca,ccap,cs,ba,bcp,bs,h2,e2⟩:=zEZ t1 w1
 obtain⟨x,e3⟩:=zEX t2 w2
 refine⟨a,cap,S,b,bcap,V,ca,ccap,cs,ba,bcp,bs,x,h1,h2,?_⟩
 match ls,hl with
 | [c0,c1,c2,c3,c4,c5,c6,c7,c8],_=>
  have k1:Tryz.prog.cellsOf 25=2:=by kernel_rfl
  have k2:Tryz.prog.cellsOf 29=2:=by kernel_rfl
  have k3:Tryz.prog.cellsOf 31=5:=by kernel_rfl
  have e1:(([c0,c1,c2,c3,c4,c5,c6,c7,c8]:List Value).drop 0).take (Tryz.prog.cellsOf 25)=_:=e1
  have e2:(([c0,c1,c2,c3,c4,c5,c6,c7,c8]:List Value).drop 2).take (Tryz.prog.cellsOf 29)=_:=e2
  have e3:(([c0,c1,c2,c3,c4,c5,c6,c7,c8]:List Value).drop 4).take (Tryz.prog.cellsOf 31)=_:=e3
  rw [k1] at e1;rw [k2] at e2;rw [k3] at e3
  simp only [List.drop_zero,List.drop_succ_cons,List.take_succ_cons,List.take_zero,List.cons.injEq,and_true] at e1 e2 e3
  obtain⟨rfl,rfl⟩:=e1
  obtain⟨rfl,rfl⟩:=e2
  obtain⟨rfl,rfl,rfl,rfl,rfl⟩:=e3
  rfl
theorem open_i64 {r:Reach} {b0:Nat} {v:Value} {d:DataW H} {p:List MemPlace} (hv:Value.okWide Tryz.prog w r b0 3 v) (h:DataW.Trod enc Tryz.prog w base spare held 3 v d p):∃ n:Int,I64 n∧v=O n:=by
 obtain⟨n,rfl⟩:=okWide_int Tryz.underlying3 hv
 obtain⟨fuel,hf⟩:=h
 obtain⟨n',e,_,hw⟩:=DataW.trod_int Tryz.underlying3 hf
 simp only [Value.cells,List.cons.injEq,Value.int.injEq,true_and,and_true] at e
 subst e
 exact⟨n,bounds_i64 hw,rfl⟩
end
end Go.Proofs.YteepmmghanbllaaGreatDoor
