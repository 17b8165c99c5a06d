/- What the proof of the root text leans on, part 10: the layer, plain facts and walks. No statement of the seat is proved in this text. -/
import Derived.ChangeSame
import Derived.Deep.Slices
import Derived.Handed
import Derived.HandedShaped
import Derived.LaidHandle
import Derived.LaidLaws
import Derived.LaidMore
import Derived.Lay
import Derived.Lib.LaidU8
import Derived.OpenShut
import Derived.ProofKit
import Derived.Shelf.Vars
import Derived.SizedLaws
import Derived.Stop.Joined
import Derived.Test.YteepmmghanbllaaGreatDoorRows
import Derived.WideKeyArgs
import Derived.Test.YteepmmghanbllaaGreatDoorFx9
set_option maxRecDepth 100000
set_option maxHeartbeats 32000000
namespace Go.Proofs.YteepmmghanbllaaGreatDoor
open Go.K Go.Stn Go.Pln Go.Fld Go.RowKit
theorem se75:SE Tryz.prog 75 76 1:=⟨Tryz.underlying75,by kernel_rfl⟩
theorem en38:En Tryz.prog 38:=eK Tryz.func38
theorem zOG {n:Nat} {b:Int}:(decide (b<0)||decide ((n:Int)≤b)) = !zBG n b:=by
 unfold zBG
 rw [Bool.not_and,←decide_not,←decide_not]
 congr 1
 ·exact decide_eq_decide.2 (by omega)
 ·exact decide_eq_decide.2 (by omega)
theorem zOM {a b:Nat}:decide ((a:Int)=(b:Int))=decide (a=b):=decide_eq_decide.2 (by omega)
theorem zOh (a:yO) (cap:Nat) (S:List ShC) (b:yO) (bcap:Nat) (V:List WlC) (ca:yO) (ccap:Nat) (cs:List ByteArray) (ba:yO) (bcp:Nat) (bs:List Bdr) (x:Anm) (frm to:Int) (cba:yO) (cbc:Nat) (cb:List Int) (ka:yO) (kc:Nat) (WK:List WkR) (w:World) (hl:yag w a S) (hs:zaP S.length) (hcS:S.length≤cap) (hlw:yah w b V) (hsw:zaP V.length) (hsh:yab S w) (hss:yac S) (hwo:yaa V w) (hsv:yae V) (hcp:yad V) (hkn:yaf V) (hc:yai w ca cs) (hcs:zaP cs.length) (hcap:cs.length≤ccap) (hbd:yaj w ba bs) (hbs:zaP bs.length) (hok:(zym S V cs bs x)=true) (f0:0≤frm) (f1:frm<cs.length) (t0:0≤to) (t1:to<cs.length) (hcb:Has w (Ints cba cb)) (hcbs:cb.length≤300000) (hwk:Has w (zaW ka 1 zBI WK)) (hws:yar WK w) (hwl:∀ z∈WK,z.1.length≤300000) :
  Calls Tryz.prog 30 #[zzz3 a S cap b V bcap,zzz4 ca cs ccap ba bs bcp,zzz1 x,O frm,O to,C cba cb.length cbc,C ka WK.length kc] w (Pure (.bool (isCx S V bs x frm to cb (WK.map (·.1)))) w):=by
 obtain⟨_,hcs40,hbs80,_,_,hbo⟩:=zzD hok
 have hml:(WK.map (·.1)).length=WK.length:=lM ..
 refine zan (vs:=[_,_,_,_,_,_,_]) Tryz.func30 I I (bL I) (gS (zaG I I (za3 (vs:=[_,_]) I I) λ b7=>(zaG I I (za3 (vs:=[_,_]) I I) λ b8=>(zaG I I (za3 (vs:=[_,_,_,_,_]) I I) λ b9=>(gA I (gN [3,4,5,6,7,8,9,14] I (zac (zac (gZ 10 (ph_y (zaf I) (ph_y (zaJ en63 I (λ w hw=>zNp _ _ cb w (rH hcb hw) (by first|assumption|(unfold zaP;omega)))) (ph_y (zbR I) (ph_y (zaf I) (zaz I I (λ jj=>by(try rw [jj]);exact zaf I) (zaz I I (λ jj=>by(try rw [jj]);exact zaV (Tryz.underlying75) I) (zaz I I (λ jj=>by(try rw [jj]);exact zaf I) (zaz I I (λ jj=>by(try rw [jj]);exact zaV (Tryz.underlying45) I) (zaz I I (λ jj=>by(try rw [jj]);exact zcr I I) (ph_y (zaR I I I) (gN [3,4,5,6,7,8,9,14,31] I (zap I (λ hc31=>?_) (λ hc31=>?_))))))))))))))))))))))
 ·have hno:=ic_1 (S:=S) (V:=V) (bs:=bs) (x:=x) (frm:=frm) (to:=to) (cb:=cb) (WL:=(WK.map (·.1))) (by rw [hml,←zOM];exact hc31)
  refine gS (gA I (gN [3,4,5,6,7,8,9,14] I (zaw (zay (zaC I (zau I)) ?_))))
  first|rw [hno]|rw [hyes,hno]
 ·have h31:((!risB cb)||!decide ((WK.map (·.1)).length=cb.length))=false:=by rw [hml,←zOM];exact hc31
  have hlen0:WK.length=cb.length:=by rw [oF] at h31;have:=h31.2;rw [hml] at this;simpa using this
  refine zaq (zac (gS (gA I (gN [3,4,5,6,7,8,9,14,15] I (zas (zbf (X:=Int) (λ(i:Int)=>[(3,O frm),(4,O to),(5,C cba cb.length cbc),(6,C ka WK.length kc),(7,Z b7),(8,Z b8),(9,Z b9),(14,.bool false),(15,O i)]) (λ(i:Int)=>[Box b9 (zzz2 x) 31,Box b8 (zzz6 ca cs ccap ba bs bcp) 29,Box b7 (zzz5 a S cap b V bcap) 25]) (λ(i:Int)=>(0≤i∧i≤cb.length∧∀ j:Nat,(j:Int)<i→zBG bs.length (cb.getD j default)=true)) (λ(i:Int)=>(cb.length - i).toNat) 0 (sB I) I ?_ ?_))))))
  ·exact⟨by omega,by omega,λ j hj=>by omega⟩
  ·rintro i hI
   obtain⟨g0,g1,g2⟩:=hI
   refine zac (gS (gM I (gM I (gQ (zaV (Tryz.underlying45) I) (gQ (zbw I I) (gN [3,4,5,6,7,8,9,14,15,35] I (zap I (λ hc35=>?_) (λ hc35=>?_))))))))
   ·have hc35:=oT hc35
    refine zaq (zac (zas (zac (gZ 15 (ph_y (zaf I) (ph_y (zaf I) (ph_y (zaE se45 I I (λ _=>rH hcb)) (ph_y (zcE tf3 I (λ _=>rH hcb) (by omega) (by omega) I) (ph_y (zbw I I) (ph_y (zaf I) (zaz I I (λ jj=>by(try rw [jj]);exact zaf I) (zaz I I (λ jj=>by(try rw [jj]);exact zaf I) (zaz I I (λ jj=>by(try rw [jj]);exact zaE se45 I I (λ _=>rH hcb)) (zaz I I (λ jj=>by(try rw [jj]);exact zcE tf3 I (λ _=>rH hcb) (by omega) (by omega) I) (zaz I I (λ jj=>by(try rw [jj]);exact zab zzL I) (zaz I I (λ jj=>by(try rw [jj]);exact zah 1 tf27 I I I) (zaz I I (λ jj=>by(try rw [jj]);exact zaV (Tryz.underlying27) I) (zaz I I (λ jj=>by(try rw [jj]);exact zfx I I) (ph_y (zaR I I I) (gN [3,4,5,6,7,8,9,14,15,52] I (zap I (λ hc52=>?_) (λ hc52=>?_))))))))))))))))))))))
    ·rw [zOG] at hc52
     have hno:=ic_2 (S:=S) (V:=V) (x:=x) (frm:=frm) (to:=to) (cb:=cb) (WL:=(WK.map (·.1))) (i:=i.toNat) (by omega) (by simpa using hc52)
     refine gS (gA I (gN [3,4,5,6,7,8,9,14,15] I (zaw (zay (zaC I (zau I)) ?_))))
     first|rw [hno]|rw [hyes,hno]
    ·rw [zOG] at hc52
     have hcz:zBG bs.length (cb.getD i.toNat default)=true:=by simpa using hc52
     refine zaq (zaa (gM I (gQ (zaY I I) (gA I (gN [3,4,5,6,7,8,9,14,15] I ?_)))))
     exact za1 (i+1) (sB I) I ⟨by omega,by omega,λ j hj=>if h:(j:Int)<i then g2 j h else(by rw [show j=i.toNat from by omega];exact hcz)⟩ (by omega)
   ·have hc35:=oD hc35
    have hcl:∀ j:Nat,j<cb.length→zBG bs.length (cb.getD j default)=true:=λ j hj=>g2 j (by omega)
    refine za8 I (zac (gS (gQ (zat 2 tf25 I I (vs:=[_,_]) I I) (gQ (zat 1 tf29 I I (vs:=[_,_]) I I) (gQ (zat 0 tf31 I I (vs:=[_,_,_,_,_]) I I) (gM I (gM I (zaG I I (zbm en38 I (λ w hw=>zJh _ _ S _ _ V _ _ cs _ _ bs x frm _ _ cb w (rH hl hw) hs hcS (rH hlw hw) hsw (λ z hz=>(rH (hsh z hz) hw)) hss (λ z hz=>(rH (hwo z hz) hw)) hsv hcp hkn (rH hc hw) hcs hcap (rH hbd hw) hbs hok f0 f1 (rH hcb hw) (by unfold zaP;omega))) λ p58=>?_))))))))
    obtain⟨ta,tc,L⟩:=p58
    refine zz4 λ hB=>zbP ?_
    have hB:Best (zyj S V bs x) (mayC cb) cs.length frm (trkL L):=hB
    have hLl:L.length=cs.length:=by have h:=hB.len;rwa [lM] at h
    refine za2 (R':=Row ta 3 tc 95 zIf L) 0 I (λ B w hA=>hA) (za2 (R':=Go.K.Rows rowT L) 1 I (λ B w hA=>hA) (zae (T':=[(3,_),(4,_),(5,_),(6,_),(7,_),(8,_),(9,_),(14,_),(15,_),(35,_),(53,_),(54,_),(55,_),(56,_),(57,_),(58,C ta L.length tc)]) ⟨I,I,I,I,I,I,I,I,I,I,I,I,I,I,I,(by rfl),trivial⟩ (gM I (gQ (zaE se92 I I (λ _ hw=>(zam zIc (hw.has (p:=0) I)))) (gQ (zbh zIt I (λ w hw=>zaO (i:=to) (zam zIc (hw.has (p:=0) I)))) (gQ (zbn tf4 I (λ _ hw=>(zam zIc (hw.has (p:=0) I))) (by omega) (by omega) I) (gN [3,4,6,7,8,9,14,62] I (zap I (λ hc62=>?_) (λ hc62=>?_)))))))))
    ·have hno:=ic_3 (WL:=(WK.map (·.1))) ((zOd hok f0 f1 hB t0 t1).trans (by rw [zIe];exact hc62))
     refine gS (gA I (gN [3,4,6,7,8,9,14] I (zaw (zay (zaC I (zau I)) ?_))))
     first|rw [hno]|rw [hyes,hno]
    ·have hyes:=zOL h31 hcl ((zOd hok f0 f1 hB t0 t1).trans (by rw [zIe];exact hc62))
     refine zaq (gS (gA I (gN [3,4,6,7,8,9,14,16] I (zac (gS (gA I (gN [3,4,6,7,8,9,14,16,17] I (zas (zbB 3 D 1 (zbf (X:=Int×Option Addr×Nat×List Int) (λ⟨i,ra,rc,u⟩=>[(3,O frm),(4,O to),(6,C ka WK.length kc),(7,Z b7),(8,Z b8),(9,Z b9),(14,.bool false),(16,C ra u.length rc),(17,O i)]) (λ⟨i,ra,rc,u⟩=>[Row ra 1 rc 3 D u,Row ta 3 tc 95 zIf L,Go.K.Rows rowT L,Box b9 (zzz2 x) 31,Box b8 (zzz6 ca cs ccap ba bs bcp) 29,Box b7 (zzz5 a S cap b V bcap) 25]) (λ⟨i,ra,rc,u⟩=>((0≤i∧i≤WK.length)∧(u.length:Int)≤i*300000∧clsT (wOk S V bs x frm to) (WK.map (·.1)) []=clsT (wOk S V bs x frm to) ((WK.map (·.1)).drop i.toNat) u)) (λ⟨i,ra,rc,u⟩=>(WK.length - i).toNat) (0,none,0,[]) (sB I) I ?_ ?_))))))))))
     ·exact⟨⟨by omega,by omega⟩,by simp,rfl⟩
     ·rintro ⟨i,ra,rc,u⟩ hI
      obtain⟨⟨n0,n1⟩,nl,n2⟩:=hI
      refine zac (gS (gM I (gM I (gQ (zaV (Tryz.underlying75) I) (gQ (zbw I I) (gN [3,4,6,7,8,9,14,16,17,66] I (zap I (λ hc66=>?_) (λ hc66=>?_))))))))
      ·have hc66:=oT hc66
       have hwlen:(WK.getD i.toNat default).1.length≤300000:=hwl _ (za0 (by omega))
       have hwa:(WK.map (·.1)).getD i.toNat default=(WK.getD i.toNat default).1:=zOQ
       refine zaq (zac (zas (zac (gZ 16 (ph_y (zat 5 tf25 I I (vs:=[_,_]) I I) (ph_y (zat 4 tf29 I I (vs:=[_,_]) I I) (ph_y (zat 3 tf31 I I (vs:=[_,_,_,_,_]) I I) (ph_y (zaf I) (ph_y (zaf I) (ph_y (zaf I) (ph_y (zaE se75 I I (λ _=>rH hwk)) (ph_y (zcE tf76 I (λ _=>rH hwk) (by omega) (by omega) I) (ph_y (zaJ en41 I (λ w hw=>zNq _ _ S _ _ V _ _ cs _ _ bs x frm _ _ (WK.getD i.toNat default).1 w (rH hl hw) hs hcS (rH hlw hw) hsw (λ z hz=>(rH (hsh z hz) hw)) hss (λ z hz=>(rH (hwo z hz) hw)) hsv hcp hkn (rH hc hw) hcs hcap (rH hbd hw) hbs hok (Rd.has (Has.rd (hws _ (za0 (by omega)))) hw) hwlen)) (ph_y (zaf I) (ph_y (zaB I I) (ph_y (zaB I I) (ph_y (zaB I I) (ph_y (zad I) (ph_y (zad I) (ph_y (zad I) (gN [3,4,6,7,8,9,14,16,17,18,20] I (zac (zac (gZ 7 (ph_y (zaf I) (ph_y (zbR I) (ph_y (zaf I) (zaz I I (λ jj=>by(try rw [jj]);exact zaf I) (zaz I I (λ jj=>by(try rw [jj]);exact zaf I) (zaz I I (λ jj=>by(try rw [jj]);exact zcr I I) (ph_y (zaR I I I) (gN [3,4,6,7,8,9,14,16,17,88] I (zap I (λ hc88=>?_) (λ hc88=>?_))))))))))))))))))))))))))))))))))
       ·rw [zOp] at hc88
        have hno:=n2.trans (zOH n0 (by rw [hml];exact hc66) (by rw [hwa];simpa using hc88))
        refine gS (gA I (gN [3,4,6,7,8,9,14,16,17] I (zaw (zay (zaC I (zau I)) ?_))))
        first|rw [hno]|rw [hyes,hno]
       ·rw [zOp] at hc88
        have hstep:=n2.trans (zOr n0 (by rw [hml];exact hc66) (by rw [hwa];simpa using hc88))
        rw [hwa] at hstep
        refine zaq (gS (gA I (gN [3,4,6,7,8,9,14,16,17,21] I (zas (zbf (X:=Int×Option Addr×Nat×List Int) (λ⟨j,qa,qc,v⟩=>[(3,O frm),(4,O to),(6,C ka WK.length kc),(7,Z b7),(8,Z b8),(9,Z b9),(14,.bool false),(16,C qa v.length qc),(17,O i),(21,O j)]) (λ⟨j,qa,qc,v⟩=>[Row qa 1 qc 3 D v,Row ta 3 tc 95 zIf L,Go.K.Rows rowT L,Box b9 (zzz2 x) 31,Box b8 (zzz6 ca cs ccap ba bs bcp) 29,Box b7 (zzz5 a S cap b V bcap) 25]) (λ⟨j,qa,qc,v⟩=>((0≤j∧j≤(WK.getD i.toNat default).1.length)∧(v.length:Int)≤i*300000+j∧v=u++((WK.getD i.toNat default).1.take j.toNat).map (·.1)∧frsB u (WK.getD i.toNat default).1=frsB v ((WK.getD i.toNat default).1.drop j.toNat))) (λ⟨j,qa,qc,v⟩=>((WK.getD i.toNat default).1.length - j).toNat) (0,ra,rc,u) (sB I) I ?_ ?_)))))
        ·exact⟨⟨by omega,by omega⟩,by omega,by simp,rfl⟩
        ·rintro ⟨j,qa,qc,v⟩ hI
         obtain⟨⟨k0,k1⟩,kl,k2,k3⟩:=hI
         refine zac (gS (gM I (gM I (gM I (gQ (zaE se75 I I (λ _=>rH hwk)) (gQ (zcE tf76 I (λ _=>rH hwk) (by omega) (by omega) I) (gQ (zaV (Tryz.underlying76) I) (gQ (zbw I I) (gN [3,4,6,7,8,9,14,16,17,21,95] I (zap I (λ hc95=>?_) (λ hc95=>?_)))))))))))
         ·have hc95:=oT hc95
          refine zaq (zac (zas (zac (gS (gM I (gM I (gM I (gQ (zaE se75 I I (λ _=>rH hwk)) (gQ (zcE tf76 I (λ _=>rH hwk) (by omega) (by omega) I) (gM I (gQ (zaE se76 I I (λ _ hw=>(Rd.has (Has.rd (hws _ (za0 (by omega)))) hw)) (by omega) (by omega)) (gQ (zbh zIy I (λ w hw=>zaO (i:=j) (Rd.has (Has.rd (hws _ (za0 (by omega)))) hw))) (gQ (zbn tf3 I (λ _ hw=>(Rd.has (Has.rd (hws _ (za0 (by omega)))) hw)) (by omega) (by omega) I) (gQ (zaJ en64 I (λ w hw=>zKb _ _ v (((WK.getD i.toNat default).1.getD j.toNat default).1) w (zam Go.Stn.encI_ok (hw.has (p:=0) I)) (by first|assumption|(unfold zaP;omega)))) (gN [3,4,6,7,8,9,14,16,17,21,107] I (zap I (λ hc107=>?_) (λ hc107=>?_)))))))))))))))))
          ·have hno:clsT (wOk S V bs x frm to) (WK.map (·.1)) []=false:=hstep.trans (by rw [k3,zOK k0 hc95 hc107,Bool.false_and])
           refine gS (gA I (gN [3,4,6,7,8,9,14,16,17,21] I (zaw (zay (zaC I (zau I)) ?_))))
           first|rw [hno]|rw [hyes,hno]
          ·have hnb:hasI v ((WK.getD i.toNat default).1.getD j.toNat default).1=false:=by simpa using hc107
           refine zaq (zaa (gM I (gM I (gM I (gQ (zaE se75 I I (λ _=>rH hwk)) (gQ (zcE tf76 I (λ _=>rH hwk) (by omega) (by omega) I) (gM I (gQ (zaE se76 I I (λ _ hw=>(Rd.has (Has.rd (hws _ (za0 (by omega)))) hw)) (by omega) (by omega)) (gQ (zbh zIy I (λ w hw=>zaO (i:=j) (Rd.has (Has.rd (hws _ (za0 (by omega)))) hw))) (gQ (zbn tf3 I (λ _ hw=>(Rd.has (Has.rd (hws _ (za0 (by omega)))) hw)) (by omega) (by omega) I) (zaG I I (zaD I (zA3 _) Go.Stn.encI_ok I) λ b117=>(zb4 (m:=[((WK.getD i.toNat default).1.getD j.toNat default).1]) 1 af45 Go.Stn.encI_ok I I I I (λ _ hw=>(zam Go.Stn.encI_ok (hw.has (p:=0) I))) (by first|omega|(simp only [lC,lN];omega)) (by first|(unfold maxLen;omega)|(simp only [lC,lN,maxLen];omega)) λ a118 c118=>(gA I (gN [3,4,6,7,8,9,14,16,17,21] I (zaa (gM I (gQ (zaY I I) (gA I (gN [3,4,6,7,8,9,14,16,17,21] I (zaK 0 I ?_))))))))))))))))))))
           exact za1 (j+1,_,_,v++[((WK.getD i.toNat default).1.getD j.toNat default).1]) (sB I) I ⟨⟨by omega,by omega⟩,by rw [lA];simp only [lC,lN];omega,by rw [k2];exact zOv k0 hc95,k3.trans (zOu k0 hc95 hnb)⟩ (by simp only [];omega)
         ·have hc95:=oD hc95
          have hfr:frsB u (WK.getD i.toNat default).1=true:=k3.trans (zOt hc95)
          have hv:v=u++(WK.getD i.toNat default).1.map (·.1):=by rw [k2,zml hc95]
          refine za8 I (zaa (gM I (gQ (zaY I I) (gA I (gN [3,4,6,7,8,9,14,16,17] I ?_)))))
          exact za1 (i+1,qa,qc,v) (sB I) I ⟨⟨by omega,by omega⟩,by omega,by rw [hstep,hfr,hv];rfl⟩ (by simp only [];omega)
      ·have hc66:=oD hc66
       have hend:=n2.trans (zOq (by rw [hml];exact hc66))
       refine za8 I (gS (gA I (gN [14] I (zaw (zay (zaC I (zau I)) ?_)))))
       rw [hyes,hend]
theorem en28:En Tryz.prog 28:=eK Tryz.func28
theorem en30:En Tryz.prog 30:=eK Tryz.func30
theorem FieldShuts_c (a:yO) (cap:Nat) (S:List ShC) (b:yO) (bcap:Nat) (V:List WlC) (ca:yO) (ccap:Nat) (cs:List ByteArray) (ba:yO) (bcp:Nat) (bs:List Bdr) (x:Anm) (frm to:Int) (cba:yO) (cbc:Nat) (cb:List Int) (ka:yO) (kc:Nat) (WK:List WkR) (w:World) (hl:yag w a S) (hs:S.length≤764877654104) (hlw:yah w b V) (hsw:V.length≤2199023255552) (hsh:yab S w) (hss:∀ z∈S,z.s.heights.length≤17592186044416) (hwo:yaa V w) (hsv:∀ z∈V,z.s.opens.length≤3518437208883) (hfS:yas S) (hc:yai w ca cs) (hcn:cs.length≤8796093022208) (hbd:yaj w ba bs) (hbn:bs.length≤2513169434915) (hcS:S.length≤cap) (hcpw:yad V) (hkn:yaf V) (hfV:∀ z∈V,Fits z.s.name.size) (hco:∀ z∈S,0≤z.s.cope) (hcf:∀ z∈cs,Fits z.size) (hcap:cs.length≤ccap) (hmx:Has w (IntV 2)) (hcp:yau w) (hop:yat w) (hcb:Has w (Ints cba cb)) (hwk:Has w (zaW ka 1 zBI WK)) (hws:yar WK w) :
  Calls Tryz.prog 8 #[.agg #[C a S.length cap,C b V.length bcap,C ca cs.length ccap,C ba bs.length bcp,O x.wide,O x.high,O x.step,O x.leap,O x.reach],O frm,O to,C cba cb.length cbc,C ka WK.length kc] w (Pure (.bool true) w):=by
 refine zan (vs:=[_,_,_,_,_]) Tryz.func8 I I (bL I) (gS (zaG I I (za3 (vs:=[_,_,_,_,_,_,_,_,_]) I I) λ b5=>(gA I (gN [1,2,3,4,5,10] I (gS (gQ (zat 0 tf33 I I (vs:=[_,_,_,_,_,_,_,_,_]) I I) (zaG I I (zbm en13 I (λ w hw=>zG1 _ _ S _ _ V _ _ cs _ _ bs x w (rH hl hw) hs (rH hlw hw) hsw (λ z hz=>(rH (hsh z hz) hw)) hss (λ z hz=>(rH (hwo z hz) hw)) hsv hfS (rH hc hw) hcn (rH hbd hw) hbn)) λ p20=>(gM I (gQ (zaB I I) (gQ (zaB I I) (gQ (zaB I I) (gQ (zaB I I) (zaG I I (zaL tf37 (zs:=[_,_]) I) λ b11=>(zaG I I (zaL tf40 (zs:=[_,_]) I) λ b12=>(zaG I I (zaL tf41 (zs:=[_,_,_,_,_]) I) λ b13=>(zaA 2 tf37 I I (vs:=[_,_]) I I I I I (zaA 1 tf40 I I (vs:=[_,_]) I I I I I (zaA 0 tf41 I I (vs:=[_,_,_,_,_]) I I I I I (gA I (gN [1,2,3,4,5,10,11,12,13,14] I (zao 3 I (zbP (zac (gS (gM I (gQ (zbR I) (gM I (zai I I I I (λ hg27=>?_) (λ hg27=>?_)))))))))))))))))))))))))))))
 ·replace hg27:_=false:=hg27
  try rw [hg27]
  refine gM I ?_
  obtain⟨⟨⟨ra,rc,S2⟩,⟨rb,rd,V2⟩⟩,⟨rca,rcc⟩,⟨rba,rbc⟩⟩:=p20
  refine zjk λ hS2 hV2=>?_
  have hS2:S2.map (·.s)=S.map (·.s):=hS2
  have hV2:V2.map (·.s)=V.map (·.s):=hV2
  obtain⟨hsmp,hcs45,hbs90⟩:=zEj (by simpa using hg27)
  have hsm:=zmC (S:=S) (V:=V) hsmp
  obtain⟨hss2,hsv2,hsw2,hS1,hV1⟩:=zjv hsm
  have hs2:zaP S.length:=by have:=hsm.ls;unfold zaP;omega
  have hcs2:zaP cs.length:=by unfold zaP;omega
  have hbs2:zaP bs.length:=by unfold zaP;omega
  obtain⟨l1,l2,y1,y2,y3,y4,ykn⟩:=zxG hsm hkn hS2 hV2
  refine za2 (R':=Box b11 (zzz5 ra S2 rc rb V2 rd) 37) 8 I (λ B w hA=>hA) (za2 (R':=Box b12 (zzz6 rca cs rcc rba bs rbc) 40) 7 I (λ B w hA=>hA) (gT I I I (gQ (zaV (Tryz.underlying45) I) (gT I I I (gQ (zc6 I I) (gQ (za5 I I I) (gM I (zai I I I I (λ hg32=>?_) (λ hg32=>?_)))))))))
  ·replace hg32:_=false:=hg32
   try rw [hg32]
   refine gM I ?_
   have hcb20:cb.length≤20:=by have:=oD hg32;omega
   refine gT I I I (gQ (zaV (Tryz.underlying75) I) (gT I I I (gQ (zc6 I I) (gQ (za5 I I I) (gN [1,2,3,4,5,10,11,12,13,36] I (zap I (λ hc36=>?_) (λ hc36=>?_)))))))
   ·refine gS (gQ (zaJ en14 I (λ w hw=>zz3 w (rH hmx hw) (rH hcp hw) (rH hop hw))) (gA I (gN [1,2,3,4,5,10,11,12,13] I (zaw (zay (zaC I (zau I)) ?_)))))
    rfl
   ·have hwk20:WK.length≤20:=by have:=oD hc36;omega
    refine zaq (gS (gA I (gN [1,2,3,4,5,10,11,12,13,15] I (zac (gS (gA I (gN [1,2,3,4,5,10,11,12,13,15,16] I (zas (zjj rowK (zbB 78 zBI 1 ?_))))))))))
    refine zbf (X:=Int×Option Addr×Nat×List WkR) (λ⟨i,qa,qc,L⟩=>[(1,O frm),(2,O to),(3,C cba cb.length cbc),(4,C ka WK.length kc),(5,Z b5),(10,.bool false),(11,Z b11),(12,Z b12),(13,Z b13),(15,C qa L.length qc),(16,O i)]) (λ⟨i,qa,qc,L⟩=>[Row qa 1 qc 78 zBI L,Go.K.Rows rowK L,Row ra 20 rc 118 zbH S2,Go.K.Rows (rowH 3) S2,Row rb 4 rd 116 zbS V2,Go.K.Rows (rowO 122) V2,Row rca 1 rcc 9 encS cs,Row rba 6 rbc 64 zyr bs,Box b13 (zzz2 x) 41,Box b12 (zzz6 rca cs rcc rba bs rbc) 40,Box b11 (zzz5 ra S2 rc rb V2 rd) 37,Box b5 [C a S.length cap,C b V.length bcap,C ca cs.length ccap,C ba bs.length bcp,O x.wide,O x.high,O x.step,O x.leap,O x.reach] 33]) (λ⟨i,qa,qc,L⟩=>((0≤i∧i≤WK.length)∧(L.length:Int)=i∧L.map (·.1)=(WK.take i.toNat).map (·.1)∧∀ j:Nat,(j:Int)<i→(WK.getD j default).1.length≤20)) (λ⟨i,qa,qc,L⟩=>(WK.length - i).toNat) (0,none,0,[]) (sB I) I ?_ ?_
    ·exact⟨⟨by omega,by omega⟩,rfl,rfl,λ j hj=>by omega⟩
    ·rintro ⟨i,qa,qc,L⟩ hI
     obtain⟨⟨l0,l1⟩,ll,l2,l3⟩:=hI
     refine zac (gS (gM I (gM I (gQ (zaV (Tryz.underlying75) I) (gQ (zbw I I) (gN [1,2,3,4,5,10,11,12,13,15,16,41] I (zap I (λ hc41=>?_) (λ hc41=>?_))))))))
     ·have hc41:=oT hc41
      refine zaq (zac (zas (zac (gS (gM I (gM I (gQ (zaE se75 I I (λ _=>rH hwk)) (gQ (zcE tf76 I (λ _=>rH hwk) (by omega) (by omega) I) (gQ (zaV (Tryz.underlying76) I) (gQ (zc6 I I) (gN [1,2,3,4,5,10,11,12,13,15,16,49] I (zap I (λ hc49=>?_) (λ hc49=>?_)))))))))))))
      ·refine gS (gQ (zaJ en14 I (λ w hw=>zz3 w (rH hmx hw) (rH hcp hw) (rH hop hw))) (gA I (gN [1,2,3,4,5,10,11,12,13,15,16] I (zaw (zay (zaC I (zau I)) ?_)))))
       rfl
      ·have hlw20:(WK.getD i.toNat default).1.length≤20:=by have:=oD hc49;omega
       refine zaq (zaa (gM I (gM I (gM I (gQ (zaE se75 I I (λ _=>rH hwk)) (gQ (zcE tf76 I (λ _=>rH hwk) (by omega) (by omega) I) (zaG I I (zbm en31 I (λ w hw=>zNu _ _ (WK.getD i.toNat default).1 w (Rd.has (Has.rd (hws _ (za0 (by omega)))) hw) (by omega))) λ p56=>(zaG I I (zaD I (zG6 ((WK.getD i.toNat default).1,p56.1,p56.2)) zBm I) λ b57=>(zb4 (m:=[((WK.getD i.toNat default).1,p56.1,p56.2)]) 2 af60 zBm I I I I (λ _ hw=>(zam zBm (hw.has (p:=0) I))) (by first|omega|(simp only [lC,lN];omega)) (by first|(unfold maxLen;omega)|(simp only [lC,lN,maxLen];omega)) λ a58 c58=>(gA I (gN [1,2,3,4,5,10,11,12,13,15,16] I (zao 1 I (zao 3 I (zbT 2 (za2 (R':=Go.K.Rows rowK (L++[(((WK.getD i.toNat default).1,p56.1,p56.2):WkR)])) 0 I (λ B w hA=>zfr hA) (zao 2 I (zaa (gM I (gQ (zaY I I) (gA I (gN [1,2,3,4,5,10,11,12,13,15,16] I (zaK 2 I ?_))))))))))))))))))))))
       exact za1 (i+1,_,_,L++[(((WK.getD i.toNat default).1,p56.1,p56.2):WkR)]) (sB I) I ⟨⟨by omega,by omega⟩,by rw [lA];simp only [lC,lN];omega,by rw [←zDi l0 hc41,List.map_append,List.map_append,l2];rfl,λ j hj=>if h:(j:Int)<i then l3 j h else(by rw [show j=i.toNat from by omega];exact hlw20)⟩ (by simp only [];omega)
     ·have hc41:=oD hc41
      have hLW:L.map (·.1)=WK.map (·.1):=by rw [l2,List.take_of_length_le (by omega)]
      have hw20:∀ z∈WK,z.1.length≤300000:=λ z hz=>by obtain⟨j,hj,e⟩:=List.getElem_of_mem hz;have h:=l3 j (by omega);rw [gE,eG hj,Option.getD_some,e] at h;omega
      have hL20:∀ z∈L,z.1.length≤300000:=λ z hz=>by obtain⟨y,hy,e⟩:=List.mem_map.1 (show z.1∈WK.map (·.1) by rw [←hLW];exact List.mem_map_of_mem hz);rw [←e];exact hw20 y hy
      have hCLS:(clsX S2 V2 cs bs x frm to cb (L.map (·.1)))=((((zym S V cs bs x&&zBG cs.length frm)&&zBG cs.length to)&&!decide (frm=to))&&(isCx S V bs x frm to cb (WK.map (·.1)))):=by rw [hLW];exact zOw hS2 hV2
      refine za8 I (zih (X:=Unit) (λ _=>[(1,O frm),(2,O to),(3,C cba cb.length cbc),(10,.bool false),(11,Z b11),(12,Z b12),(13,Z b13),(15,C qa L.length qc),(17,.bool (clsX S2 V2 cs bs x frm to cb (L.map (·.1))))]) (λ _=>[Row qa 1 qc 78 zBI L,Go.K.Rows rowK L,Row ra 20 rc 118 zbH S2,Go.K.Rows (rowH 3) S2,Row rb 4 rd 116 zbS V2,Go.K.Rows (rowO 122) V2,Row rca 1 rcc 9 encS cs,Row rba 6 rbc 64 zyr bs,Box b13 (zzz2 x) 41,Box b12 (zzz6 rca cs rcc rba bs rbc) 40,Box b11 (zzz5 ra S2 rc rb V2 rd) 37,Box b5 [C a S.length cap,C b V.length bcap,C ca cs.length ccap,C ba bs.length bcp,O x.wide,O x.high,O x.step,O x.leap,O x.reach] 33]) (λ _=>True) ?_ ?_)
      ·refine zaa (gQ (zat 11 tf33 I I (vs:=[_,_,_,_,_,_,_,_,_]) I I) (gQ (zaJ en17 I (λ w hw=>zEO _ _ S _ _ V _ _ cs _ _ bs x w (rH hl hw) hs2 hcS (rH hlw hw) hsw2 (λ z hz=>(rH (hsh z hz) hw)) hss2 (λ z hz=>(rH (hwo z hz) hw)) hsv2 hcpw hkn (rH hc hw) hcs2 hcap (rH hbd hw) hbs2 hfS hfV hco hcf)) (gM I (zai I I I I (λ hg61=>?_) (λ hg61=>?_)))))
       ·replace hg61:_=true:=hg61
        try rw [hg61]
        refine gQ (zab zz0 I) ?_
        have hok:zym S V cs bs x=true:=hg61
        refine gT I I I (gQ (zat 11 tf29 I I (vs:=[_,_]) I I) (gT I I I (gM I (gT I I I (gQ (zaJ en20 I (λ w hw=>zEc _ _ cs _ _ bs frm w)) (gQ (za5 I I I) (gM I (zai I I I I (λ hg67=>?_) (λ hg67=>?_)))))))))
        ·replace hg67:_=true:=hg67
         try rw [hg67]
         refine gQ (zab zz0 I) ?_
         have hoc:zBG cs.length frm=true:=by simpa using hg67
         have hfz:0≤frm∧frm<cs.length:=by unfold zBG at hoc;simpa only [aT,dT] using hoc
         have f0:=hfz.1
         have f1:=hfz.2
         refine gT I I I (gQ (zat 11 tf29 I I (vs:=[_,_]) I I) (gT I I I (gM I (gT I I I (gQ (zaJ en20 I (λ w hw=>zEc _ _ cs _ _ bs to w)) (gQ (za5 I I I) (gM I (zai I I I I (λ hg73=>?_) (λ hg73=>?_)))))))))
         ·replace hg73:_=true:=hg73
          try rw [hg73]
          refine gM I ?_
          have htz:0≤to∧to<cs.length:=by unfold zBG at hg73;simpa only [aT,dT] using hg73
          obtain⟨t0,t1⟩:=htz
          refine gT I I I (gM I (gT I I I (gQ (zcr I I) (gQ (za5 I I I) (gM I (zai I I I I (λ hg78=>?_) (λ hg78=>?_)))))))
          ·replace hg78:_=true:=hg78
           try rw [hg78]
           refine gQ (zab zCR I) (gT I I I (gQ (zat 11 tf25 I I (vs:=[_,_]) I I) (gT I I I (gQ (zab zz0 I) (gT I I I (gQ (zat 11 tf29 I I (vs:=[_,_]) I I) (gT I I I (gQ (zab zAL I) (gT I I I (gQ (zat 11 tf31 I I (vs:=[_,_,_,_,_]) I I) (gT I I I (gM I (gT I I I (gM I (gT I I I (gM I (gT I I I (gM I (gT I I I (gQ (zaJ en30 I (λ w hw=>zOh _ _ S _ _ V _ _ cs _ _ bs x frm to _ _ cb _ _ WK w (rH hl hw) hs2 hcS (rH hlw hw) hsw2 (λ z hz=>(rH (hsh z hz) hw)) hss2 (λ z hz=>(rH (hwo z hz) hw)) hsv2 hcpw hkn (rH hc hw) hcs2 hcap (rH hbd hw) hbs2 hok f0 f1 t0 t1 (rH hcb hw) (by omega) (rH hwk hw) (λ z hz=>rH (hws z hz) hw) hw20)) (gQ (za5 I I I) (gA I (gN [1,2,3,10,11,12,13,15,17] I ?_)))))))))))))))))))))))
           exact zb9 () ⟨I,I,I,I,I,I,I,I,(by exact congrArg (λ z=>some (Value.bool z)) (by first|(rw [hCLS,hg61,hg67,hg73,hg78];rfl)|(rw [hCLS,hg61,hg67,hg73];rfl)|(rw [hCLS,hg61,hg67];rfl)|(rw [hCLS,hg61];rfl))),trivial⟩ rfl trivial
          ·replace hg78:_=false:=hg78
           try rw [hg78]
           refine gF I I I (gF I I I (gF I I I (gF I I I (gF I I I (gF I I I (gF I I I (gF I I I (gF I I I (gF I I I (gQ (za5 I I I) (gA I (gN [1,2,3,10,11,12,13,15,17] I ?_))))))))))))
           exact zb9 () ⟨I,I,I,I,I,I,I,I,(by exact congrArg (λ z=>some (Value.bool z)) (by first|(rw [hCLS,hg61,hg67,hg73,hg78];rfl)|(rw [hCLS,hg61,hg67,hg73];rfl)|(rw [hCLS,hg61,hg67];rfl)|(rw [hCLS,hg61];rfl))),trivial⟩ rfl trivial
         ·replace hg73:_=false:=hg73
          try rw [hg73]
          refine gF I I I (gF I I I (gQ (za5 I I I) (gM I (gF I I I (gF I I I (gF I I I (gF I I I (gF I I I (gF I I I (gF I I I (gF I I I (gF I I I (gF I I I (gF I I I (gQ (za5 I I I) (gA I (gN [1,2,3,10,11,12,13,15,17] I ?_)))))))))))))))))
          exact zb9 () ⟨I,I,I,I,I,I,I,I,(by exact congrArg (λ z=>some (Value.bool z)) (by first|(rw [hCLS,hg61,hg67,hg73,hg78];rfl)|(rw [hCLS,hg61,hg67,hg73];rfl)|(rw [hCLS,hg61,hg67];rfl)|(rw [hCLS,hg61];rfl))),trivial⟩ rfl trivial
        ·replace hg67:_=false:=hg67
         try rw [hg67]
         refine gF I I I (gF I I I (gF I I I (gQ (za5 I I I) (gM I (gF I I I (gF I I I (gF I I I (gQ (za5 I I I) (gM I (gF I I I (gF I I I (gF I I I (gF I I I (gF I I I (gF I I I (gF I I I (gF I I I (gF I I I (gF I I I (gF I I I (gQ (za5 I I I) (gA I (gN [1,2,3,10,11,12,13,15,17] I ?_)))))))))))))))))))))))
         exact zb9 () ⟨I,I,I,I,I,I,I,I,(by exact congrArg (λ z=>some (Value.bool z)) (by first|(rw [hCLS,hg61,hg67,hg73,hg78];rfl)|(rw [hCLS,hg61,hg67,hg73];rfl)|(rw [hCLS,hg61,hg67];rfl)|(rw [hCLS,hg61];rfl))),trivial⟩ rfl trivial
       ·replace hg61:_=false:=hg61
        try rw [hg61]
        refine gF I I I (gF I I I (gF I I I (gQ (za5 I I I) (gM I (gF I I I (gF I I I (gF I I I (gF I I I (gQ (za5 I I I) (gM I (gF I I I (gF I I I (gF I I I (gQ (za5 I I I) (gM I (gF I I I (gF I I I (gF I I I (gF I I I (gF I I I (gF I I I (gF I I I (gF I I I (gF I I I (gF I I I (gF I I I (gQ (za5 I I I) (gA I (gN [1,2,3,10,11,12,13,15,17] I ?_)))))))))))))))))))))))))))))
        exact zb9 () ⟨I,I,I,I,I,I,I,I,(by exact congrArg (λ z=>some (Value.bool z)) (by first|(rw [hCLS,hg61,hg67,hg73,hg78];rfl)|(rw [hCLS,hg61,hg67,hg73];rfl)|(rw [hCLS,hg61,hg67];rfl)|(rw [hCLS,hg61];rfl))),trivial⟩ rfl trivial
      ·rintro _ hJ
       refine zac (gZ 14 (ph_y (zat 10 tf37 I I (vs:=[_,_]) I I) (ph_y (zat 9 tf40 I I (vs:=[_,_]) I I) (ph_y (zat 8 tf41 I I (vs:=[_,_,_,_,_]) I I) (ph_y (zaf I) (ph_y (zaf I) (ph_y (zaf I) (ph_y (zaf I) (ph_y (zaJ en28 I (λ w hw=>zN6 _ _ S2 _ _ V2 _ _ cs _ _ bs x frm to _ _ cb _ _ L w (zam zbI (hw.has (p:=2) I)) y1 (zcM (hw.has (p:=2) I)) (zam zbo (hw.has (p:=4) I)) y2 (λ z hz2=>zam Go.Stn.encI_ok (zbV (f:=rowH 3) (hw.has (p:=3) I) hz2)) y3 (λ z hz2=>zam zyn (zbV (f:=rowO 122) (hw.has (p:=5) I) hz2)) y4 (λ z hz2=>zcM (zbV (f:=rowO 122) (hw.has (p:=5) I) hz2)) ykn (zam ztJ (hw.has (p:=6) I)) hcs2 (zcM (hw.has (p:=6) I)) (zam zyx (hw.has (p:=7) I)) hbs2 (rH hcb hw) (by omega) (zam zBm (hw.has (p:=0) I)) (λ z hz=>zam zyJ (zbV (f:=rowK) (hw.has (p:=1) I) hz)) hL20)) (ph_y (zaf I) (ph_y (zbQ (zsx (Tryz.underlying4) I I) (by exact beq_self_eq_true _)) (ph_y (zaf I) (ziw I I (zaJ en14 I (λ w hw=>zz3 w (rH hmx hw) (rH hcp hw) (rH hop hw))) (ph_y (za5 I I I) (ph_y (zad I) (gN [10] I (zaw (zay (zaC I (zau I)) ?_))))))))))))))))))
       rfl
  ·replace hg32:_=true:=hg32
   try rw [hg32]
   refine gF I I I (gF I I I (gQ (za5 I I I) (gN [1,2,3,4,5,10,11,12,13,36] I (zdg I (gS (gQ (zaJ en14 I (λ w hw=>zz3 w (rH hmx hw) (rH hcp hw) (rH hop hw))) (gA I (gN [1,2,3,4,5,10,11,12,13] I (zaw (zay (zaC I (zau I)) ?_))))))))))
   rfl
 ·replace hg27:_=true:=hg27
  try rw [hg27]
  refine gF I I I (gF I I I (gQ (za5 I I I) (gM I (gF I I I (gF I I I (gF I I I (gQ (za5 I I I) (gN [1,2,3,4,5,10,11,12,13,36] I (zdg I (gS (gQ (zaJ en14 I (λ w hw=>zz3 w (rH hmx hw) (rH hcp hw) (rH hop hw))) (gA I (gN [1,2,3,4,5,10,11,12,13] I (zaw (zay (zaC I (zau I)) ?_)))))))))))))))
  rfl
end Go.Proofs.YteepmmghanbllaaGreatDoor
namespace Go.K
open Go Go.Stn Go.ChangeShapes Go.WideShapes Go.ChangeAt Go.WideElems Go.RowKit
def I64 (n:Int):Prop:=-9223372036854775808≤n∧n≤9223372036854775807
theorem zp6 {α:Type} {Q:Nat→α→Prop}:∀ n,(∀ i,i<n→∃ x,Q i x)→∃ l:List α,l.length=n∧∀ i x,l[i]?=some x→Q i x
 | 0,_=>⟨[],rfl,λ i x h=>by simp at h⟩
 | n+1,h=>by
  obtain⟨l,hl,hq⟩:=zp6 n (λ i hi=>h i (by omega))
  obtain⟨x,hx⟩:=h n (by omega)
  refine⟨l++[x],by simp [hl],λ i y hy=>?_⟩
  rcases Nat.lt_or_ge i n with hi|hi
  ·rw [List.getElem?_append_left (by omega)] at hy;exact hq i y hy
  ·rw [List.getElem?_append_right (by omega),hl] at hy
   have:i=n:=by
    rcases Nat.lt_or_ge n i with g|g
    ·rw [List.getElem?_eq_none (by simp;omega)] at hy;cases hy
    ·omega
   subst this
   simp at hy
   subst hy;exact hx
section
variable {H:Type} {enc:TypeId×Value→H} {P:Program}
theorem zgK (hl:laidOutB P=true) {W W':World} {sp':Nat→Bool}:∀ (ts:List TypeId) (vs:List Value) (ds:List (DataW H)) (ps:List MemPlace),(∀ t∈ts,P.readableRec t=true∧t<P.types.size) →
  DataW.TrodAll enc P W 0 (λ _=>true) true ts vs ds ps→(∀ p∈ps,W.sameAt W' p)→(∀ p∈ps,sp' p.block=true)→DataW.TrodAll enc P W' 0 sp' true ts vs ds ps
 | [],[],[],ps,_,h,_,_=>h
 | t :: ts,v :: vs,d :: ds,ps,hr,⟨p,q,h1,h2,he⟩,hs,hsp=>by
  subst he
  exact⟨p,q,Trod_stays hl (hr t (mS ..)).1 (hr t (mS ..)).2 h1 (λ x hx=>hs x (List.mem_append_left _ hx)) (λ x hx=>hsp x (List.mem_append_left _ hx)),
   zgK hl ts vs ds q (λ x hx=>hr x (mM _ hx)) h2 (λ x hx=>hs x (List.mem_append_right _ hx)) (λ x hx=>hsp x (List.mem_append_right _ hx)),rfl⟩
 | [],[],_ :: _,_,_,h,_,_=>h.elim
 | [],_ :: _,_,_,_,h,_,_=>h.elim
 | _ :: _,[],_,_,_,h,_,_=>h.elim
 | _ :: _,_ :: _,[],_,_,h,_,_=>h.elim
theorem law_post {f:Func} {s:ChangeSpec} {apart fresh handsOn again:Bool} {W W':World} {args:Array Value} {ds:List (DataW H)} {before:List MemPlace} {tb:TypeId} (hl:laidOutB P=true)
  (hW:DataW.Whole enc P f.params.toList s.vars apart W args.toList ds [] before) (hvars:s.vars=[]) (hread:f.params.toList.all (λ t=>P.readableRec t&&decide (t<P.types.size))=true)
  (hfn:s.fn H (ds++[])={ results:=[.lit (.bool true)],args:=ds }) (hrt:f.resultTypes=#[tb]) (htb:P.underlying tb=some .bool) (hb:Ext W W'):s.post enc P f apart fresh handsOn again W args (.bool true) W':=by
 have hlt:∀ p∈before,p.block<W.heap.size:=λ p hp=>hW.lt p hp
 have hold:∀ p∈before,(λ b=>decide (b<W.heap.size)) p.block=true:=λ p hp=>by simpa using hlt p hp
 have hW0:=hW
 obtain⟨p,q,hA,hV,hpq,hz,hn⟩:=hW
 rw [hvars] at hV
 obtain⟨_,rfl⟩:=trodVars_none hV
 rw [List.append_nil] at hpq
 subst hpq
 have hr:∀ t∈f.params.toList,P.readableRec t=true∧t<P.types.size:=λ t ht=>by
  have:=List.all_eq_true.1 hread t ht
  simpa using this
 have hsame:∀ x∈before,W.sameAt W' x:=λ x hx=>by
  have hlx:=hlt x hx
  cases x with
  | cell b off=>exact hb.below.cell (p:=⟨b,off,none⟩) hlx
  | map b=>exact hb.block b hlx
 have hargs:∀ sp:Nat→Bool,(∀ p∈before,sp p.block=true)→DataW.TrodAll enc P W' 0 sp true f.params.toList args.toList ds before:=λ sp hsp=>zgK hl _ _ _ _ hr hA hsame hsp
 have hres:∀ (b:Nat) (sp:Nat→Bool) (hd:Bool),DataW.TrodAll enc P W' b sp hd f.resultTypes.toList ((Value.bool true).resultList f.resultTypes.size) [.lit (.bool true)] []:=λ b sp hd=>by
  rw [hrt]
  exact⟨[],[],⟨1,by simp [DataW.trod,Value.cells,htb]⟩,rfl,rfl⟩
 refine⟨ds,[],before,[],before,[],hW0,?_,?_,?_,World.keptBut_mono (λ p hp=>⟨hp,Or.inr (Or.inl hp)⟩) (hb.below.frame (·∈before)),λ _=>?_⟩
 ·rw [hfn];exact hres _ _ _
 ·rw [hfn];exact hargs _ hold
 ·rw [hfn,hvars];rfl
 ·refine⟨λ j t r ht hrr=>?_,ds.cons (.lit (.bool true)),[],before,⟨before,[],?_,by rw [hvars];rfl,by simp,?_,?_⟩,λ x hx _=>hx⟩
  ·rw [hrt] at ht hrr
   have h0:t=tb:=by
    rcases j with _|j
    ·simpa using ht.symm
    ·simp at ht
   have h1:r=.bool true:=by
    rcases j with _|j
    ·simpa [Value.resultList] using hrr.symm
    ·simp at ht
   subst h0;subst h1
   exact okWide_bool_mk htb true
  ·have h1:=trodAll_append (hargs (λ _=>true) (λ _ _=>rfl)) (hres 0 (λ _=>true) true)
   simpa using h1
  ·intro b off hp
   rw [hb.below.frozen (hlt _ hp)]
   exact hz b off (by simpa using hp)
  ·intro ha
   have:=hn ha
   simpa using this
end
end Go.K
namespace Go.Proofs.YteepmmghanbllaaGreatDoor
open Go Go.K Go.Stn Go.Pln Go.ChangeShapes Go.WideShapes Go.ChangeAt Go.RowKit
theorem own:ownKnob Tryz.prog.godebug=none:=by kernel_rfl
abbrev laidR:List (String×DataW Unit):=Rows.fieldCrossesRow.laid
noncomputable def worldR (os:Os):World:=(World.doorLaid Tryz.prog 400 os).layVars Tryz.prog [("unicode/utf8.first",Go.Pinned.utf8First)]
theorem worldR_os (os:Os):(worldR os).os=os:=World.layVars_os _ _ _
theorem door_metR (os:Os) (args:Array Value):laidMetH Tryz.prog laidR ((worldR os).forCall (λ _ _=>0) ⟨#[],args,[]⟩).memory:=
 laidMetH_of_parts3 (fuel:=8) (laidMet_of_run' 8 (by kernel_rfl) (by kernel_rfl)) (by kernel_rfl) (by kernel_rfl)
section
variable {H:Type} {enc:TypeId×Value→H}
theorem returnsInHanded_of_change_and_shaped {a:Assume} {C:Checked} {os:Os} {f:FuncId} {fn:Func} {s:ChangeSpec} {conds:List PathCond} {apart fresh handsOn again:Bool} {X:World→Array Value→Prop}
  (hX:∀ (w w':World) (args:Array Value),w.heap=w'.heap→X w args→X w' args)
  (own:ownKnob C.prog.godebug=none) (started:os.Started) (noInit:C.prog.inits.idxOf? f=none) (hfn:C.prog.funcs[f]?=some fn)
  (witness:∃ (w:World) (tape:Tape) (i:Input),w.os=os∧(w.forCall tape i).Shaped C.prog∧i.vars=[]∧Input.okWide C.prog (w.forCall tape i) .any w.heap.size f i ∧
   ((s.pre enc C.prog fn conds apart (w.forCall tape i).memory i.args∧X (w.forCall tape i).memory i.args)∧sizedMet enc C.prog fn (OpenSpec.ofChange s) apart (w.forCall tape i).memory i.args)∧a.holds C.prog (lone (Frame.enter C.prog f i.args .normal) [] (w.forCall tape i)))
  (contract:∀ (W:World) (base:Nat) (args:Array Value) (ds gs:List (DataW H)) (before:List MemPlace),
   (∀ (j:Nat) t v,fn.params[j]?=some t→args[j]?=some v→Value.okWide C.prog W .any base t v) →
   DataW.Whole enc C.prog fn.params.toList s.vars apart W args.toList ds gs before →
   conds.all (PathCond.test C.prog ⟨fn.params.toList,ds,s.plain.varTypes C.prog,gs⟩)=true →
   (DataW.weightsEach C.prog (fn.params.toList++s.plain.varTypes C.prog) (ds++gs)).all (·≤reachBytes)=true→X W args →
   W.ShapedOpen C.prog →
   Calls C.prog f args W λ e W'=>∃ v,e=.returned v∧s.post enc C.prog fn apart fresh handsOn again W args v W') :
  ReturnsInHanded a C os f .any (λ w args=>(s.pre enc C.prog fn conds apart w args∧X w args)∧sizedMet enc C.prog fn (OpenSpec.ofChange s) apart w args) (s.post enc C.prog fn apart fresh handsOn again):=by
 refine returnsInHanded_of_calls own started noInit witness ?_
 intro w tape i _ hsh _ hok hpre _
 obtain⟨_,_,_,fn',hfn',_,_,_,_,hval⟩:=hok
 have e:fn' = fn:=Option.some.inj (hfn'.symm.trans hfn)
 subst e
 obtain⟨⟨⟨ds,gs,before,hw,hc⟩,hx⟩,hz⟩:=hpre
 have hw':=DataW.Whole.of_heap (w':=w.forCall tape i) (by rfl) hw
 refine(contract (w.forCall tape i) w.heap.size i.args ds gs before hval hw' hc (hz.weights hw) (hX _ _ _ (by rfl) hx) hsh).mono λ e W' ⟨v,he,hp⟩=>?_
 subst he
 exact ChangeSpec.post_blind hp
end
theorem zo3 {W:World} {b o:Nat} {v:Value} (h:W.cell? ⟨b,o,none⟩=some v):b<W.heap.size:=by
 rcases Nat.lt_or_ge b W.heap.size with g|g
 ·exact g
 ·exfalso
  simp [World.cell?,Array.getElem?_eq_none g] at h
theorem int_of_shape {W:World} (h:W.ShapedOpen Tryz.prog):Has W (IntV 2):=by
 obtain⟨m,hm⟩:=cell_of_shapedOpen_int (P:=Tryz.prog) (g:=2) (t:=3) (zero:=#[O 0]) (k:=.i64) h (oT (by kernel_rfl)) (by kernel_rfl) I (by kernel_rfl) (by kernel_rfl) Tryz.underlying3
 exact⟨(· = 2),λ k hk=>by rw [hk];exact zo3 hm,λ _=>Iff.rfl,m,hm⟩
theorem zok {W:World} {l:List (String×DataW Unit)} (h:laidMetH Tryz.prog l W) {n:String} {d:DataW Unit} (hm:(n,d)∈l) (hd:d.handleName?.isNone=true):Lib.VarReads Tryz.prog W n d:=by
 unfold laidMetH at h
 split at h
 ·exact Lib.laidMet.reads h hm
 ·exact Lib.laidMet.reads h.1 (List.mem_filter.2 ⟨hm,hd⟩)
theorem zlF {t:TypeId} {k:Nat} {W:World} {fuel:Nat} {l:List Value} {L:List ByteArray} {p:List MemPlace} (ht:Tryz.prog.underlying t=some (.array k 9)) (hct:Tryz.prog.cellsOf t=k) (hk:k=L.length)
  (h:DataW.trod (λ _=>()) Tryz.prog W 0 (λ _=>true) false fuel t l=some (.agg (L.map λ s=>.lit (.string s.data.toList)),p)):l=L.map λ s=>.string s:=by
 obtain⟨xs,m,_,hx,hlen,hn,hel⟩:=DataW.trod_array ht h
 have c9:Tryz.prog.cellsOf 9=1:=by kernel_rfl
 rw [c9] at hel
 simp only [Prod.mk.injEq,DataW.agg.injEq] at hx
 have hc:l.length=k:=by rw [hlen,hct]
 refine List.ext_getElem? λ i=>?_
 rw [List.getElem?_map]
 rcases Nat.lt_or_ge i k with hi|hi
 ·have he:=hel i hi
  have hli:i<l.length:=by omega
  have hLi:i<L.length:=by omega
  have hxi:i<xs.length:=by omega
  rw [Nat.mul_one,List.drop_eq_getElem_cons hli,eG hxi] at he
  have he1:DataW.trod (λ _=>()) Tryz.prog W 0 (λ _=>true) false m 9 [l[i]]=some xs[i]:=he
  obtain⟨s,e0,ey,_⟩:=DataW.trod_string Tryz.underlying9 he1
  have h1:(L.map λ s=>(DataW.lit (Lit.string s.data.toList):DataW Unit))[i]?=(xs.map (·.1))[i]?:=by rw [hx.1]
  rw [List.getElem?_map,List.getElem?_map,eG hLi,eG hxi,ey] at h1
  simp only [Option.map_some,sI,DataW.lit.injEq,Lit.string.injEq] at h1
  have h2:L[i]=s:=by
   have:=Array.toList_inj.1 h1
   exact ByteArray.ext this
  simp only [List.cons.injEq,and_true] at e0
  rw [eG hli,eG hLi,e0,h2]
  rfl
 ·rw [List.getElem?_eq_none (by omega),List.getElem?_eq_none (by omega)];rfl
theorem znT {W:World} {g:Nat} {nm:String} {t:TypeId} {k:Nat} {L:List ByteArray} {l:List (String×DataW Unit)} (h:laidMetH Tryz.prog l W) (hm:(nm,.agg (L.map λ s=>.lit (.string s.data.toList)))∈l)
  (hd:(DataW.agg (L.map λ s=>.lit (.string s.data.toList)):DataW Unit).handleName?.isNone=true)
  (hg:Tryz.prog.globalNamed nm=some g) (htg:(Tryz.prog.globals[g]?).map (·.type)=some t) (ht:Tryz.prog.underlying t=some (.array k 9)) (hct:Tryz.prog.cellsOf t=k) (hk:k=L.length) (h0:0<k):Has W (zaW (some ⟨g,0,none⟩) 1 encS L):=by
 obtain⟨g',t',cs,fuel,p,hg',ht',hv,hd'⟩:=zok h hm hd
 obtain rfl:=Option.some.inj (hg.symm.trans hg')
 obtain rfl:=Option.some.inj (htg.symm.trans ht')
 have hcs:=zlF ht hct hk hd'
 have hc:=World.var?_cell hg hv
 have hcell:∀ i x,L[i]?=some x→W.cell? ⟨g,i,none⟩=some (.string x):=λ i x hi=>by
  rw [hc i]
  obtain⟨lc⟩:=cs
  have h1:lc=_:=hcs
  rw [h1]
  simp [hi]
 refine⟨(· = g),λ b hb=>?_,.inr ⟨g,0,I,λ _=>Iff.rfl,λ i x hi=>⟨?_,trivial⟩⟩⟩
 ·rw [hb]
  match L,hk with
  | x :: r,_=>exact zo3 (hcell 0 x I)
  | [],hk=>exact absurd hk (by simp;omega)
 ·rw [Nat.zero_add,Nat.mul_one];exact hcell i x hi
theorem copes_of_laid {W:World} {l:List (String×DataW Unit)} (h:laidMetH Tryz.prog l W) (hm:("copestone/plan.copes",Rows.laid_copestone_plan_copes)∈l):Has W (zaW (some ⟨1,0,none⟩) 1 encS zeZ):=
 znT (t:=252) (k:=4) h hm (by kernel_rfl) (by kernel_rfl) (by kernel_rfl) Tryz.underlying252 (by kernel_rfl) I (by decide)
theorem opens_of_laid {W:World} {l:List (String×DataW Unit)} (h:laidMetH Tryz.prog l W) (hm:("copestone/plan.openings",Rows.laid_copestone_plan_openings)∈l):Has W (zaW (some ⟨0,0,none⟩) 1 encS opensW):=
 znT (t:=231) (k:=5) h hm (by kernel_rfl) (by kernel_rfl) (by kernel_rfl) Tryz.underlying231 (by kernel_rfl) I (by decide)
end Go.Proofs.YteepmmghanbllaaGreatDoor
namespace Go.Proofs.YteepmmghanbllaaGreatDoor
open Go Go.K Go.Stn Go.Pln Go.Fld Go.ChangeShapes Go.WideShapes Go.ChangeAt Go.WideElems Go.RowKit
section
variable {H:Type} {enc:TypeId×Value→H} {P:Program} {w:World} {base:Nat} {spare:Nat→Bool} {held:Bool}
theorem ziT {e:TypeId} {d:DataW H}:∀ {l:List (DataW H)},d∈l→∀ n∈d.weights P e,n∈DataW.weightsAll P e l
 | [],h,_,_=>by cases h
 | x :: r,h,n,hn=>by
  rw [DataW.weightsAll]
  rcases List.mem_cons.1 h with rfl|h
  ·exact List.mem_append_left _ hn
  ·exact List.mem_append_right _ (ziT h n hn)
def WOk (P:Program) (t:TypeId) (d:DataW H):Prop:=∀ n∈d.weights P t,n≤reachBytes
theorem wok_each:∀ {ts:List TypeId} {ds:List (DataW H)},(∀ n∈DataW.weightsEach P ts ds,n≤reachBytes)→∀ (i:Nat) t d,ts[i]?=some t→ds[i]?=some d→WOk P t d
 | [],_,_,i,t,d,h1,_=>by simp at h1
 | _ :: _,[],_,i,t,d,_,h2=>by simp at h2
 | t0 :: ts,d0 :: ds,h,i,t,d,h1,h2=>by
  rw [DataW.weightsEach] at h
  cases i with
  | zero=>
   simp only [List.getElem?_cons_zero,sI] at h1 h2
   subst h1;subst h2
   exact λ n hn=>h n (List.mem_append_left _ hn)
  | succ i=>
   simp only [List.getElem?_cons_succ] at h1 h2
   exact wok_each (λ n hn=>h n (List.mem_append_right _ hn)) i t d h1 h2
theorem zoH {t:TypeId} {fs:Array Field} (ht:P.underlying t=some (.struct fs)) {ys:List (DataW H×List MemPlace)} (h:WOk P t (.agg (ys.map (·.1)))) {i:Nat} {f:Field} {y:DataW H×List MemPlace} (hf:fs[i]?=some f) (hy:ys[i]?=some y):WOk P f.type y.1:=by
 have h':∀ n∈DataW.weightsEach P (fs.toList.map (·.type)) (ys.map (·.1)),n≤reachBytes:=λ n hn=>h n (by rw [DataW.weights,ht];exact hn)
 refine wok_each h' i f.type y.1 ?_ ?_
 ·rw [List.getElem?_map,Array.getElem?_toList,hf];rfl
 ·rw [List.getElem?_map,hy];rfl
theorem zop {α:Type} {enc':α→List Value} {n:Nat} {Q:α→Prop} {t e:TypeId} {fuel:Nat} {cs:List Value} {x:DataW H×List MemPlace} (ht:P.underlying t=some (.slice e)) (hc:P.cellsOf e=n) (hn:Enc n enc')
  (hel:∀ (fuel:Nat) (cs:List Value) (y:DataW H×List MemPlace),DataW.trod enc P w base spare held fuel e cs=some y→WOk P e y.1→∃ z,Q z∧cs=enc' z)
  (h:DataW.trod enc P w base spare held fuel t cs=some x) (hx:WOk P t x.1) :
  ∃ (a:Option Addr) (L:List α) (cap:Nat),cs=[C a L.length cap]∧Has w (zaW a n enc' L)∧L.length≤cap∧(∀ z∈L,Q z)∧L.length*P.bytesOf e≤reachBytes:=by
 rcases Go.Deep.open_slice ht h with ⟨rfl,_⟩ | ⟨a,len,cap,m,k,D,Pl,rfl,hb,hl,hm,hmm,hxe,hi⟩
 ·exact⟨none,[],0,rfl,⟨λ _=>False,λ _ h=>h.elim,.inl I⟩,Nat.le_refl _,by simp,by simp⟩
 ·have hlm:len≤m:=by rw [hmm];split <;> omega
  have hw:∀ v∈(len+(m - len))*P.bytesOf e :: (DataW.weightsAll P e ((List.range len).map D)++DataW.weightsAll P e ((List.range (m - len)).map λ j=>D (len+j))),v≤reachBytes:=λ v hv=>by
   refine hx v ?_
   rw [hxe,DataW.weights,ht]
   simpa using hv
  obtain⟨L,hll,hq⟩:=zp6 (Q:=λ i (z:α)=>Q z∧∀ j v,(enc' z)[j]?=some v→w.cell? (a.add (i*n+j))=some v) len (λ i hil=>by
   obtain⟨cs',hcs,ht'⟩:=hi i (by omega)
   obtain⟨z,hz,rfl⟩:=hel _ _ _ ht' (λ v hv=>hw v (mM _ (List.mem_append_left _ (ziT (List.mem_map.2 ⟨i,List.mem_range.2 hil,rfl⟩) v hv))))
   rw [hc] at hcs
   obtain⟨_,_,hat⟩:=World.cells?_some hcs
   refine⟨z,hz,λ j v hj=>?_⟩
   have hjn:j<n:=by
    have:=(List.getElem?_eq_some_iff.1 hj).1
    rw [hn.len] at this;exact this
   have h0:=hat j hjn
   rw [Go.Deep.add_add] at h0
   rw [h0];exact hj)
  refine⟨some a,L,cap,by rw [hll],?_,by omega,λ z hz=>?_,?_⟩
  ·cases L with
   | nil=>exact⟨λ _=>False,λ _ h=>h.elim,.inl I⟩
   | cons z0 r=>
    obtain⟨v0,hv0⟩:∃ v0,(enc' z0)[0]?=some v0:=by
     have:0<(enc' z0).length:=by rw [hn.len];exact hn.pos
     exact⟨_,eG this⟩
    have hc0:=(hq 0 z0 I).2 0 _ hv0
    obtain⟨b,off,sp⟩:=a
    have hsp:sp=none:=by
     cases sp with
     | none=>rfl
     | some s=>
      exfalso
      simp only [World.cell?,Addr.add] at hc0
      split at hc0 <;> simp_all
    subst hsp
    have hbs:b<w.heap.size:=by
     rcases Nat.lt_or_ge b w.heap.size with h|h
     ·exact h
     ·exfalso
      rw [zb2] at hc0
      simp [World.cell?,Array.getElem?_eq_none h] at hc0
    refine⟨(· = b),λ k hk=>by rw [hk];exact hbs,.inr ⟨b,off,rfl,λ _=>Iff.rfl,λ i z hz=>zfA _ _ λ j v hj=>?_⟩⟩
    have:=(hq i z hz).2 j v hj
    rw [zb2] at this
    rw [Nat.add_assoc];exact this
  ·obtain⟨i,hi',rfl⟩:=List.getElem_of_mem hz
   exact(hq i _ (by simp [hi'])).1
  ·have h1:=hw _ (mS ..)
   rw [hll]
   refine Nat.le_trans (Nat.mul_le_mul_right _ ?_) h1
   omega
theorem zfs {t:TypeId} {fs:Array Field} {fuel:Nat} {cs:List Value} {x:DataW H×List MemPlace} (ht:P.underlying t=some (.struct fs)) (h:DataW.trod enc P w base spare held fuel t cs=some x) (hx:WOk P t x.1) (i:Nat) (f:Field) (hf:fs[i]?=some f) (ho:f.offset=i) (hc:P.cellsOf f.type=1) (hi:i<cs.length) :
  ∃ (v:Value) (y:DataW H×List MemPlace) (m:Nat),cs[i]?=some v∧DataW.trod enc P w base spare held m f.type [v]=some y∧WOk P f.type y.1:=by
 obtain⟨ys,m,_,hxe,_,hyl,hg⟩:=DataW.trod_struct ht h
 have h1:=hg i f hf
 have hfi:i<fs.size:=by
  rcases Nat.lt_or_ge i fs.size with g|g
  ·exact g
  ·rw [Array.getElem?_eq_none g] at hf;cases hf
 rw [ho,hc,List.drop_eq_getElem_cons hi,eG (by omega)] at h1
 have h2:DataW.trod enc P w base spare held m f.type [cs[i]]=some (ys[i]'(by omega)):=h1
 refine⟨cs[i],ys[i]'(by omega),m,eG hi,h2,?_⟩
 rw [hxe] at hx
 exact zoH ht hx hf (eG (by omega))
theorem zh1 {t:TypeId} {fs:Array Field} {fuel:Nat} {cs:List Value} {x:DataW H×List MemPlace} (ht:P.underlying t=some (.struct fs)) (h:DataW.trod enc P w base spare held fuel t cs=some x) (hx:WOk P t x.1) (i:Nat) (f:Field) (hf:fs[i]?=some f) (ho:f.offset=i) (hc:P.cellsOf f.type=1) (hi:i<cs.length)
  (hu:P.underlying f.type=some .string):∃ s:ByteArray,cs[i]?=some (.string s)∧Fits s.size:=by
 obtain⟨v,y,m,hv,hy,hw⟩:=zfs ht h hx i f hf ho hc hi
 obtain⟨s,e,ey,_⟩:=DataW.trod_string hu hy
 simp only [List.cons.injEq,and_true] at e
 subst e;subst ey
 refine⟨s,hv,?_⟩
 have:=hw s.size (by rw [DataW.weights];simp)
 unfold reachBytes at this
 unfold Fits
 omega
theorem zbA {t:TypeId} {fs:Array Field} {fuel:Nat} {cs:List Value} {x:DataW H×List MemPlace} (ht:P.underlying t=some (.struct fs)) (h:DataW.trod enc P w base spare held fuel t cs=some x) (hx:WOk P t x.1) (i:Nat) (f:Field) (hf:fs[i]?=some f) (ho:f.offset=i) (hc:P.cellsOf f.type=1) (hi:i<cs.length)
  {k:IntKind} (hu:P.underlying f.type=some (.int k)):∃ n:Int,cs[i]?=some (.int k n)∧(Lit.int k n).wf=true:=by
 obtain⟨v,y,m,hv,hy,hw⟩:=zfs ht h hx i f hf ho hc hi
 obtain⟨n,e,ey,hwf⟩:=DataW.trod_int hu hy
 simp only [List.cons.injEq,and_true] at e
 subst e
 exact⟨n,hv,hwf⟩
theorem zfD {α:Type} {enc':α→List Value} {n:Nat} {Q:α→Prop} {t e:TypeId} {fs:Array Field} {fuel:Nat} {cs:List Value} {x:DataW H×List MemPlace} (ht:P.underlying t=some (.struct fs)) (h:DataW.trod enc P w base spare held fuel t cs=some x) (hx:WOk P t x.1) (i:Nat) (f:Field) (hf:fs[i]?=some f) (ho:f.offset=i) (hc:P.cellsOf f.type=1) (hi:i<cs.length)
  (hu:P.underlying f.type=some (.slice e)) (hce:P.cellsOf e=n) (hn:Enc n enc') (hel:∀ (fuel:Nat) (cs:List Value) (y:DataW H×List MemPlace),DataW.trod enc P w base spare held fuel e cs=some y→WOk P e y.1→∃ z,Q z∧cs=enc' z) :
  ∃ (a:Option Addr) (L:List α) (cap:Nat),cs[i]?=some (C a L.length cap)∧Has w (zaW a n enc' L)∧L.length≤cap∧(∀ z∈L,Q z)∧L.length*P.bytesOf e≤reachBytes:=by
 obtain⟨v,y,m,hv,hy,hw⟩:=zfs ht h hx i f hf ho hc hi
 obtain⟨a,L,cap,e1,h1,h2,h3,h4⟩:=zop hu hce hn hel hy hw
 simp only [List.cons.injEq,and_true] at e1
 subst e1
 exact⟨a,L,cap,hv,h1,h2,h3,h4⟩
end
section
variable {H:Type} {enc:TypeId×Value→H} {w:World} {base:Nat} {spare:Nat→Bool} {held:Bool}
theorem zfH {P:Program} {t:TypeId} {fs:Array Field} {fuel n:Nat} {cs:List Value} {x:DataW H×List MemPlace} (ht:P.underlying t=some (.struct fs)) (hc:P.cellsOf t=n) (h:DataW.trod enc P w base spare held fuel t cs=some x):cs.length=n:=by
 obtain⟨_,_,_,_,hl,_⟩:=DataW.trod_struct ht h
 rw [hl,hc]
theorem h3 {n:Nat} (h:n*Tryz.prog.bytesOf 3≤reachBytes):n≤17592186044416:=by
 rw [show Tryz.prog.bytesOf 3=8 by kernel_rfl] at h
 unfold reachBytes at h
 omega
theorem hopn {n:Nat} (h:n*Tryz.prog.bytesOf 138≤reachBytes):n≤3518437208883:=by
 rw [show Tryz.prog.bytesOf 138=40 by kernel_rfl] at h
 unfold reachBytes at h
 omega
theorem hsht {n:Nat} (h:n*Tryz.prog.bytesOf 135≤reachBytes):n≤764877654104:=by
 rw [show Tryz.prog.bytesOf 135=184 by kernel_rfl] at h
 unfold reachBytes at h
 omega
theorem hwll {n:Nat} (h:n*Tryz.prog.bytesOf 134≤reachBytes):n≤2199023255552:=by
 rw [show Tryz.prog.bytesOf 134=64 by kernel_rfl] at h
 unfold reachBytes at h
 omega
theorem hcel {n:Nat} (h:n*Tryz.prog.bytesOf 9≤reachBytes):n≤8796093022208:=by
 rw [show Tryz.prog.bytesOf 9=16 by kernel_rfl] at h
 unfold reachBytes at h
 omega
theorem hbdr {n:Nat} (h:n*Tryz.prog.bytesOf 100≤reachBytes):n≤2513169434915:=by
 rw [show Tryz.prog.bytesOf 100=56 by kernel_rfl] at h
 unfold reachBytes at h
 omega
theorem zrX {fuel:Nat} {cs:List Value} {y:DataW H×List MemPlace} (h:DataW.trod enc Tryz.prog w base spare held fuel 3 cs=some y) (_:WOk Tryz.prog 3 y.1):∃ n:Int,True∧cs=D n:=by
 obtain⟨n,e,_,_⟩:=DataW.trod_int Tryz.underlying3 h
 exact⟨n,trivial,e⟩
theorem zrY {fuel:Nat} {cs:List Value} {y:DataW H×List MemPlace} (h:DataW.trod enc Tryz.prog w base spare held fuel 138 cs=some y) (hx:WOk Tryz.prog 138 y.1) :
  ∃ o:Opn,Knd o∧cs=zba o:=by
 have hl:cs.length=5:=zfH Tryz.underlying138 (by kernel_rfl) h
 obtain⟨f0,e0,q0⟩:=zbA Tryz.underlying138 h hx 0 _ I I (by kernel_rfl) (by omega) Tryz.underlying5
 obtain⟨f1,e1,q1⟩:=zbA Tryz.underlying138 h hx 1 _ I I (by kernel_rfl) (by omega) Tryz.underlying3
 obtain⟨f2,e2,q2⟩:=zbA Tryz.underlying138 h hx 2 _ I I (by kernel_rfl) (by omega) Tryz.underlying3
 obtain⟨f3,e3,q3⟩:=zbA Tryz.underlying138 h hx 3 _ I I (by kernel_rfl) (by omega) Tryz.underlying3
 obtain⟨f4,e4,q4⟩:=zbA Tryz.underlying138 h hx 4 _ I I (by kernel_rfl) (by omega) Tryz.underlying3
 match cs,hl with
 | [c0,c1,c2,c3,c4],_=>
  simp only [List.getElem?_cons_zero,List.getElem?_cons_succ,sI] at e0 e1 e2 e3 e4
  subst e0;subst e1;subst e2;subst e3;subst e4
  exact⟨⟨f0,f1,f2,f3,f4⟩,bounds_u8 q0,rfl⟩
structure ShIn (w:World) (z:ShC):Prop where
 hts:Has w (Ints z.a z.s.heights)
 cap:z.s.heights.length≤z.cap
 fits:Fits z.s.name.size
 cope:0≤z.s.cope
 cope2:z.s.cope≤255
 num:z.s.heights.length≤17592186044416
structure WlIn (w:World) (z:WlC):Prop where
 ops:Has w (zaW z.a 5 zba z.s.opens)
 cap:z.s.opens.length≤z.cap
 knd:∀ o∈z.s.opens,Knd o
 fits:Fits z.s.name.size
 fits2:Fits z.s.sheet.size
 num:z.s.opens.length≤3518437208883
theorem zr0 {fuel:Nat} {cs:List Value} {y:DataW H×List MemPlace} (h:DataW.trod enc Tryz.prog w base spare held fuel 135 cs=some y) (hx:WOk Tryz.prog 135 y.1) :
  ∃ z:ShC,ShIn w z∧cs=zbH z:=by
 have hl:cs.length=20:=zfH Tryz.underlying135 (by kernel_rfl) h
 obtain⟨f0,e0,q0⟩:=zh1 Tryz.underlying135 h hx 0 _ I I (by kernel_rfl) (by omega) Tryz.underlying9
 obtain⟨f1,e1,q1⟩:=zbA Tryz.underlying135 h hx 1 _ I I (by kernel_rfl) (by omega) Tryz.underlying3
 obtain⟨f2,e2,q2⟩:=zbA Tryz.underlying135 h hx 2 _ I I (by kernel_rfl) (by omega) Tryz.underlying3
 obtain⟨f3,e3,q3⟩:=zbA Tryz.underlying135 h hx 3 _ I I (by kernel_rfl) (by omega) Tryz.underlying3
 obtain⟨f4,e4,q4⟩:=zbA Tryz.underlying135 h hx 4 _ I I (by kernel_rfl) (by omega) Tryz.underlying3
 obtain⟨a5,f5,k5,e5,q5,r5,s5,b5⟩:=zfD (Q:=λ _=>True) Tryz.underlying135 h hx 5 _ I I (by kernel_rfl) (by omega) Tryz.underlying45 (by kernel_rfl) Go.Stn.encI_ok (λ _ _ _ h1 h2=>zrX h1 h2)
 obtain⟨f6,e6,q6⟩:=zbA Tryz.underlying135 h hx 6 _ I I (by kernel_rfl) (by omega) Tryz.underlying3
 obtain⟨f7,e7,q7⟩:=zbA Tryz.underlying135 h hx 7 _ I I (by kernel_rfl) (by omega) Tryz.underlying3
 obtain⟨f8,e8,q8⟩:=zbA Tryz.underlying135 h hx 8 _ I I (by kernel_rfl) (by omega) Tryz.underlying3
 obtain⟨f9,e9,q9⟩:=zbA Tryz.underlying135 h hx 9 _ I I (by kernel_rfl) (by omega) Tryz.underlying3
 obtain⟨f10,e10,q10⟩:=zbA Tryz.underlying135 h hx 10 _ I I (by kernel_rfl) (by omega) Tryz.underlying3
 obtain⟨f11,e11,q11⟩:=zbA Tryz.underlying135 h hx 11 _ I I (by kernel_rfl) (by omega) Tryz.underlying3
 obtain⟨f12,e12,q12⟩:=zbA Tryz.underlying135 h hx 12 _ I I (by kernel_rfl) (by omega) Tryz.underlying3
 obtain⟨f13,e13,q13⟩:=zbA Tryz.underlying135 h hx 13 _ I I (by kernel_rfl) (by omega) Tryz.underlying5
 obtain⟨f14,e14,q14⟩:=zbA Tryz.underlying135 h hx 14 _ I I (by kernel_rfl) (by omega) Tryz.underlying3
 obtain⟨f15,e15,q15⟩:=zbA Tryz.underlying135 h hx 15 _ I I (by kernel_rfl) (by omega) Tryz.underlying3
 obtain⟨f16,e16,q16⟩:=zbA Tryz.underlying135 h hx 16 _ I I (by kernel_rfl) (by omega) Tryz.underlying3
 obtain⟨f17,e17,q17⟩:=zbA Tryz.underlying135 h hx 17 _ I I (by kernel_rfl) (by omega) Tryz.underlying3
 obtain⟨f18,e18,q18⟩:=zbA Tryz.underlying135 h hx 18 _ I I (by kernel_rfl) (by omega) Tryz.underlying3
 obtain⟨f19,e19,q19⟩:=zbA Tryz.underlying135 h hx 19 _ I I (by kernel_rfl) (by omega) Tryz.underlying3
 match cs,hl with
 | [c0,c1,c2,c3,c4,c5,c6,c7,c8,c9,c10,c11,c12,c13,c14,c15,c16,c17,c18,c19],_=>
  simp only [List.getElem?_cons_zero,List.getElem?_cons_succ,sI] at e0 e1 e2 e3 e4 e5 e6 e7 e8 e9 e10 e11 e12 e13 e14 e15 e16 e17 e18 e19
  subst e0;subst e1;subst e2;subst e3;subst e4;subst e5;subst e6;subst e7;subst e8;subst e9;subst e10;subst e11;subst e12;subst e13;subst e14;subst e15;subst e16;subst e17;subst e18;subst e19
  exact⟨⟨⟨f0,f1,f2,f3,f4,f5,f6,f7,f8,f9,f10,f11,f12,f13,f14,f15,f16,f17,f18,f19⟩,a5,k5⟩,⟨q5,r5,q0,(bounds_u8 q13).1,(bounds_u8 q13).2,h3 b5⟩,rfl⟩
theorem zr1 {fuel:Nat} {cs:List Value} {y:DataW H×List MemPlace} (h:DataW.trod enc Tryz.prog w base spare held fuel 134 cs=some y) (hx:WOk Tryz.prog 134 y.1) :
  ∃ z:WlC,WlIn w z∧cs=zbS z:=by
 have hl:cs.length=4:=zfH Tryz.underlying134 (by kernel_rfl) h
 obtain⟨f0,e0,q0⟩:=zh1 Tryz.underlying134 h hx 0 _ I I (by kernel_rfl) (by omega) Tryz.underlying9
 obtain⟨f1,e1,q1⟩:=zh1 Tryz.underlying134 h hx 1 _ I I (by kernel_rfl) (by omega) Tryz.underlying9
 obtain⟨f2,e2,q2⟩:=zbA Tryz.underlying134 h hx 2 _ I I (by kernel_rfl) (by omega) Tryz.underlying3
 obtain⟨a3,f3,k3,e3,q3,r3,s3,b3⟩:=zfD (Q:=Knd) Tryz.underlying134 h hx 3 _ I I (by kernel_rfl) (by omega) Tryz.underlying132 (by kernel_rfl) zyn (λ _ _ _ h1 h2=>zrY h1 h2)
 match cs,hl with
 | [c0,c1,c2,c3],_=>
  simp only [List.getElem?_cons_zero,List.getElem?_cons_succ,sI] at e0 e1 e2 e3
  subst e0;subst e1;subst e2;subst e3
  exact⟨⟨⟨f0,f1,f2,f3⟩,a3,k3⟩,⟨q3,r3,s3,q0,q1,hopn b3⟩,rfl⟩
structure zsA (w:World) (a:Option Addr) (cap:Nat) (S:List ShC) (b:Option Addr) (bcap:Nat) (V:List WlC):Prop where
 hl:Has w (zaW a 20 zbH S)
 hcS:S.length≤cap
 hS:∀ z∈S,ShIn w z
 hs:S.length≤764877654104
 hlw:Has w (zaW b 4 zbS V)
 hcV:V.length≤bcap
 hV:∀ z∈V,WlIn w z
 hsw:V.length≤2199023255552
theorem zrZ {fuel:Nat} {cs:List Value} {y:DataW H×List MemPlace} (h:DataW.trod enc Tryz.prog w base spare held fuel 25 cs=some y) (hx:WOk Tryz.prog 25 y.1) :
  ∃ (a:Option Addr) (cap:Nat) (S:List ShC) (b:Option Addr) (bcap:Nat) (V:List WlC),zsA w a cap S b bcap V∧cs=[C a S.length cap,C b V.length bcap]:=by
 have hl:cs.length=2:=zfH Tryz.underlying25 (by kernel_rfl) h
 obtain⟨a0,f0,k0,e0,q0,r0,s0,b0⟩:=zfD (Q:=ShIn w) Tryz.underlying25 h hx 0 _ I I (by kernel_rfl) (by omega) Tryz.underlying22 (by kernel_rfl) zbI (λ _ _ _ h1 h2=>zr0 h1 h2)
 obtain⟨a1,f1,k1,e1,q1,r1,s1,b1⟩:=zfD (Q:=WlIn w) Tryz.underlying25 h hx 1 _ I I (by kernel_rfl) (by omega) Tryz.underlying23 (by kernel_rfl) zbo (λ _ _ _ h1 h2=>zr1 h1 h2)
 match cs,hl with
 | [c0,c1],_=>
  simp only [List.getElem?_cons_zero,List.getElem?_cons_succ,sI] at e0 e1
  subst e0;subst e1
  exact⟨a0,k0,f0,a1,k1,f1,⟨q0,r0,s0,hsht b0,q1,r1,s1,hwll b1⟩,rfl⟩
theorem zE0 {fuel:Nat} {cs:List Value} {y:DataW H×List MemPlace} (h:DataW.trod enc Tryz.prog w base spare held fuel 9 cs=some y) (hx:WOk Tryz.prog 9 y.1):∃ s:ByteArray,Fits s.size∧cs=encS s:=by
 obtain⟨s,e,ey,_⟩:=DataW.trod_string Tryz.underlying9 h
 refine⟨s,?_,e⟩
 have:=hx s.size (by rw [ey,DataW.weights];simp)
 unfold reachBytes at this
 unfold Fits
 omega
theorem zDc {t:TypeId} {fs:Array Field} {fuel:Nat} {cs:List Value} {x:DataW H×List MemPlace} (ht:Tryz.prog.underlying t=some (.struct fs)) (h:DataW.trod enc Tryz.prog w base spare held fuel t cs=some x) (hx:WOk Tryz.prog t x.1) (i:Nat) (f:Field) (hf:fs[i]?=some f) (ho:f.offset=i) (hc:Tryz.prog.cellsOf f.type=1) (hi:i<cs.length)
  (hu:Tryz.prog.underlying f.type=some .bool):∃ b:Bool,cs[i]?=some (.bool b):=by
 obtain⟨v,y,m,hv,hy,hw⟩:=zfs ht h hx i f hf ho hc hi
 obtain⟨b,e,_⟩:=DataW.trod_bool hu hy
 simp only [List.cons.injEq,and_true] at e
 subst e
 exact⟨b,hv⟩
theorem zEY {fuel:Nat} {cs:List Value} {y:DataW H×List MemPlace} (h:DataW.trod enc Tryz.prog w base spare held fuel 100 cs=some y) (hx:WOk Tryz.prog 100 y.1):∃ z:Bdr,True∧cs=zyr z:=by
 have hl:cs.length=6:=zfH Tryz.underlying100 (by kernel_rfl) h
 obtain⟨f0,e0,_⟩:=zbA Tryz.underlying100 h hx 0 _ I I (by kernel_rfl) (by omega) Tryz.underlying3
 obtain⟨f1,e1,_⟩:=zbA Tryz.underlying100 h hx 1 _ I I (by kernel_rfl) (by omega) Tryz.underlying3
 obtain⟨f2,e2,_⟩:=zh1 Tryz.underlying100 h hx 2 _ I I (by kernel_rfl) (by omega) Tryz.underlying9
 obtain⟨f3,e3,_⟩:=zbA Tryz.underlying100 h hx 3 _ I I (by kernel_rfl) (by omega) Tryz.underlying3
 obtain⟨f4,e4,_⟩:=zbA Tryz.underlying100 h hx 4 _ I I (by kernel_rfl) (by omega) Tryz.underlying3
 obtain⟨f5,e5⟩:=zDc Tryz.underlying100 h hx 5 _ I I (by kernel_rfl) (by omega) Tryz.underlying4
 match cs,hl with
 | [c0,c1,c2,c3,c4,c5],_=>
  simp only [List.getElem?_cons_zero,List.getElem?_cons_succ,sI] at e0 e1 e2 e3 e4 e5
  subst e0;subst e1;subst e2;subst e3;subst e4;subst e5
  exact⟨⟨f0,f1,f2,f3,f4,f5⟩,trivial,rfl⟩
structure zGO (w:World) (ca:Option Addr) (ccap:Nat) (cs:List ByteArray) (ba:Option Addr) (bcp:Nat) (bs:List Bdr):Prop where
 hc:Has w (zaW ca 1 encS cs)
 hcap:cs.length≤ccap
 hcf:∀ z∈cs,Fits z.size
 hcn:cs.length≤8796093022208
 hbd:Has w (zaW ba 6 zyr bs)
 hbn:bs.length≤2513169434915
theorem zEZ {fuel:Nat} {cs:List Value} {y:DataW H×List MemPlace} (h:DataW.trod enc Tryz.prog w base spare held fuel 29 cs=some y) (hx:WOk Tryz.prog 29 y.1) :
  ∃ (ca:Option Addr) (ccap:Nat) (C:List ByteArray) (ba:Option Addr) (bcp:Nat) (B:List Bdr),zGO w ca ccap C ba bcp B∧cs=[.slice ca C.length ccap,.slice ba B.length bcp]:=by
 have hl:cs.length=2:=zfH Tryz.underlying29 (by kernel_rfl) h
 obtain⟨a0,f0,k0,e0,q0,r0,s0,b0⟩:=zfD (Q:=λ z:ByteArray=>Fits z.size) Tryz.underlying29 h hx 0 _ I I (by kernel_rfl) (by omega) Tryz.underlying26 (by kernel_rfl) ztJ (λ _ _ _ h1 h2=>zE0 h1 h2)
 obtain⟨a1,f1,k1,e1,q1,r1,s1,b1⟩:=zfD (Q:=λ _=>True) Tryz.underlying29 h hx 1 _ I I (by kernel_rfl) (by omega) Tryz.underlying27 (by kernel_rfl) zyx (λ _ _ _ h1 h2=>zEY h1 h2)
 match cs,hl with
 | [c0,c1],_=>
  simp only [List.getElem?_cons_zero,List.getElem?_cons_succ,sI] at e0 e1
  subst e0;subst e1
  exact⟨a0,k0,f0,a1,k1,f1,⟨q0,r0,s0,hcel b0,q1,hbdr b1⟩,rfl⟩
theorem zEX {fuel:Nat} {cs:List Value} {y:DataW H×List MemPlace} (h:DataW.trod enc Tryz.prog w base spare held fuel 31 cs=some y) (hx:WOk Tryz.prog 31 y.1):∃ x:Anm,cs=zHc x:=by
 have hl:cs.length=5:=zfH Tryz.underlying31 (by kernel_rfl) h
 obtain⟨f0,e0,_⟩:=zbA Tryz.underlying31 h hx 0 _ I I (by kernel_rfl) (by omega) Tryz.underlying3
 obtain⟨f1,e1,_⟩:=zbA Tryz.underlying31 h hx 1 _ I I (by kernel_rfl) (by omega) Tryz.underlying3
 obtain⟨f2,e2,_⟩:=zbA Tryz.underlying31 h hx 2 _ I I (by kernel_rfl) (by omega) Tryz.underlying3
 obtain⟨f3,e3,_⟩:=zbA Tryz.underlying31 h hx 3 _ I I (by kernel_rfl) (by omega) Tryz.underlying3
 obtain⟨f4,e4,_⟩:=zbA Tryz.underlying31 h hx 4 _ I I (by kernel_rfl) (by omega) Tryz.underlying3
 match cs,hl with
 | [c0,c1,c2,c3,c4],_=>
  simp only [List.getElem?_cons_zero,List.getElem?_cons_succ,sI] at e0 e1 e2 e3 e4
  subst e0;subst e1;subst e2;subst e3;subst e4
  exact⟨⟨f0,f1,f2,f3,f4⟩,rfl⟩
theorem zzU {t:TypeId} {fs:Array Field} {fuel:Nat} {cs:List Value} {x:DataW H×List MemPlace} (ht:Tryz.prog.underlying t=some (.struct fs)) (h:DataW.trod enc Tryz.prog w base spare held fuel t cs=some x) (hx:WOk Tryz.prog t x.1) (i:Nat) (f:Field) (hf:fs[i]?=some f) :
  ∃ (y:DataW H×List MemPlace) (m:Nat),DataW.trod enc Tryz.prog w base spare held m f.type ((cs.drop f.offset).take (Tryz.prog.cellsOf f.type))=some y∧WOk Tryz.prog f.type y.1:=by
 obtain⟨ys,m,_,hxe,_,hyl,hg⟩:=DataW.trod_struct ht h
 have hfi:i<fs.size:=by
  rcases Nat.lt_or_ge i fs.size with g|g
  ·exact g
  ·rw [Array.getElem?_eq_none g] at hf;cases hf
 have h1:=hg i f hf
 rw [eG (by omega)] at h1
 refine⟨ys[i]'(by omega),m,h1,?_⟩
 rw [hxe] at hx
 exact zoH ht hx hf (eG (by omega))
theorem open_scene {r:Reach} {b0:Nat} {v:Value} {d:DataW H} {p:List MemPlace} (hv:Value.okWide Tryz.prog w r b0 33 v) (h:DataW.Trod enc Tryz.prog w base spare held 33 v d p) (hx:WOk Tryz.prog 33 d) :
  ∃ (a:Option Addr) (cap:Nat) (S:List ShC) (b:Option Addr) (bcap:Nat) (V:List WlC) (ca:Option Addr) (ccap:Nat) (cs:List ByteArray) (ba:Option Addr) (bcp:Nat) (bs:List Bdr) (x:Anm),zsA w a cap S b bcap V∧zGO w ca ccap cs ba bcp bs ∧
   v=.agg #[C a S.length cap,C b V.length bcap,C ca cs.length ccap,C ba bs.length bcp,O x.wide,O x.high,O x.step,O x.leap,O x.reach]:=by
 obtain⟨ls0,rfl,hsz⟩:=okWide_struct Tryz.underlying33 hv
 obtain⟨fuel,hf⟩:=h
 obtain⟨ls⟩:=ls0
 have hl:ls.length=9:=zfH Tryz.underlying33 (by kernel_rfl) hf
 obtain⟨y0,m0,t0,w0⟩:=zzU (x:=(d,p)) Tryz.underlying33 hf hx 0 _ I
 obtain⟨y1,m1,t1,w1⟩:=zzU (x:=(d,p)) Tryz.underlying33 hf hx 1 _ I
 obtain⟨y2,m2,t2,w2⟩:=zzU (x:=(d,p)) Tryz.underlying33 hf hx 2 _ I
 obtain⟨a,cap,S,b,bcap,V,h1,e1⟩:=zrZ t0 w0
 obtain⟨ca,ccap,cs,ba,bcp,bs,h2,e2⟩:=zEZ t1 w1
 obtain⟨x,e3⟩:=zEX t2 w2
 refine⟨a,cap,S,b,bcap,V,ca,ccap,cs,ba,bcp,bs,x,h1,h2,?_⟩
 match ls,hl with
 | [c0,c1,c2,c3,c4,c5,c6,c7,c8],_=>
  have k1:Tryz.prog.cellsOf 25=2:=by kernel_rfl
  have k2:Tryz.prog.cellsOf 29=2:=by kernel_rfl
  have k3:Tryz.prog.cellsOf 31=5:=by kernel_rfl
  have e1:(([c0,c1,c2,c3,c4,c5,c6,c7,c8]:List Value).drop 0).take (Tryz.prog.cellsOf 25)=_:=e1
  have e2:(([c0,c1,c2,c3,c4,c5,c6,c7,c8]:List Value).drop 2).take (Tryz.prog.cellsOf 29)=_:=e2
  have e3:(([c0,c1,c2,c3,c4,c5,c6,c7,c8]:List Value).drop 4).take (Tryz.prog.cellsOf 31)=_:=e3
  rw [k1] at e1;rw [k2] at e2;rw [k3] at e3
  simp only [List.drop_zero,List.drop_succ_cons,List.take_succ_cons,List.take_zero,List.cons.injEq,and_true] at e1 e2 e3
  obtain⟨rfl,rfl⟩:=e1
  obtain⟨rfl,rfl⟩:=e2
  obtain⟨rfl,rfl,rfl,rfl,rfl⟩:=e3
  rfl
theorem open_i64 {r:Reach} {b0:Nat} {v:Value} {d:DataW H} {p:List MemPlace} (hv:Value.okWide Tryz.prog w r b0 3 v) (h:DataW.Trod enc Tryz.prog w base spare held 3 v d p):∃ n:Int,I64 n∧v=O n:=by
 obtain⟨n,rfl⟩:=okWide_int Tryz.underlying3 hv
 obtain⟨fuel,hf⟩:=h
 obtain⟨n',e,_,hw⟩:=DataW.trod_int Tryz.underlying3 hf
 simp only [Value.cells,List.cons.injEq,Value.int.injEq,true_and,and_true] at e
 subst e
 exact⟨n,bounds_i64 hw,rfl⟩
end
theorem open_ints {H:Type} {enc:TypeId×Value→H} {w:World} {base:Nat} {spare:Nat→Bool} {held:Bool} {r:Reach} {b0:Nat} {v:Value} {d:DataW H} {p:List MemPlace} (hv:Value.okWide Tryz.prog w r b0 45 v) (h:DataW.Trod enc Tryz.prog w base spare held 45 v d p) (hx:WOk Tryz.prog 45 d) :
  ∃ (a:Option Addr) (cap:Nat) (l:List Int),Has w (Ints a l)∧v=C a l.length cap:=by
 obtain⟨a0,len,c0,rfl⟩:=okWide_slice Tryz.underlying45 hv
 obtain⟨fuel,hf⟩:=h
 obtain⟨a,l,cap,h1,h2,_⟩:=zop (Q:=λ _:Int=>True) (x:=(d,p)) Tryz.underlying45 (by kernel_rfl) Go.Stn.encI_ok (λ _ _ _ h1 h2=>zrX h1 h2) hf hx
 exact⟨a,cap,l,h2,by simpa [Value.cells] using h1⟩
theorem zNv {H:Type} {enc:TypeId×Value→H} {w:World} {base:Nat} {spare:Nat→Bool} {held:Bool} {fuel:Nat} {cs:List Value} {y:DataW H×List MemPlace} (h:DataW.trod enc Tryz.prog w base spare held fuel 160 cs=some y) (hx:WOk Tryz.prog 160 y.1):∃ z:Int×Int,True∧cs=zyQ z:=by
 have hl:cs.length=2:=zfH Tryz.underlying160 (by kernel_rfl) h
 obtain⟨f0,e0,_⟩:=zbA Tryz.underlying160 h hx 0 _ I I (by kernel_rfl) (by omega) Tryz.underlying3
 obtain⟨f1,e1,_⟩:=zbA Tryz.underlying160 h hx 1 _ I I (by kernel_rfl) (by omega) Tryz.underlying3
 match cs,hl with
 | [c0,c1],_=>
  simp only [List.getElem?_cons_zero,List.getElem?_cons_succ,sI] at e0 e1
  subst e0;subst e1
  exact⟨(f0,f1),trivial,rfl⟩
theorem zOV {H:Type} {enc:TypeId×Value→H} {w:World} {base:Nat} {spare:Nat→Bool} {held:Bool} {fuel:Nat} {cs:List Value} {y:DataW H×List MemPlace} (h:DataW.trod enc Tryz.prog w base spare held fuel 76 cs=some y) (hx:WOk Tryz.prog 76 y.1):∃ z:WkR,Has w (zaW z.2.1 2 zyQ z.1)∧cs=zBI z:=by
 obtain⟨a,l,cap,h1,h2,_⟩:=zop (Q:=λ _:Int×Int=>True) Tryz.underlying76 (by kernel_rfl) zyJ (λ _ _ _ h1 h2=>zNv h1 h2) h hx
 exact⟨(l,a,cap),h2,h1⟩
theorem open_walks {H:Type} {enc:TypeId×Value→H} {w:World} {base:Nat} {spare:Nat→Bool} {held:Bool} {r:Reach} {b0:Nat} {v:Value} {d:DataW H} {p:List MemPlace} (hv:Value.okWide Tryz.prog w r b0 75 v) (h:DataW.Trod enc Tryz.prog w base spare held 75 v d p) (hx:WOk Tryz.prog 75 d) :
  ∃ (a:Option Addr) (cap:Nat) (WK:List WkR),Has w (zaW a 1 zBI WK)∧(∀ z∈WK,Has w (zaW z.2.1 2 zyQ z.1))∧v=C a WK.length cap:=by
 obtain⟨a0,len,c0,rfl⟩:=okWide_slice Tryz.underlying75 hv
 obtain⟨fuel,hf⟩:=h
 obtain⟨a,l,cap,h1,h2,_,h4,_⟩:=zop (Q:=λ z:WkR=>Has w (zaW z.2.1 2 zyQ z.1)) (x:=(d,p)) Tryz.underlying75 (by kernel_rfl) zBm (λ _ _ _ h1 h2=>zOV h1 h2) hf hx
 exact⟨a,cap,l,h2,h4,by simpa [Value.cells] using h1⟩
theorem trodAll_five {H:Type} {enc:TypeId×Value→H} {P:Program} {w:World} {base:Nat} {spare:Nat→Bool} {held:Bool} {t0 t1 t2 t3 t4:TypeId} {args:Array Value} {ds:List (DataW H)} {ps:List MemPlace} (h:DataW.TrodAll enc P w base spare held [t0,t1,t2,t3,t4] args.toList ds ps) :
  ∃ v0 v1 v2 v3 v4 d0 d1 d2 d3 d4 p0 p1 p2 p3 p4,args=#[v0,v1,v2,v3,v4]∧ds=[d0,d1,d2,d3,d4]∧ps=p0++p1++p2++p3++p4∧DataW.Trod enc P w base spare held t0 v0 d0 p0∧DataW.Trod enc P w base spare held t1 v1 d1 p1∧DataW.Trod enc P w base spare held t2 v2 d2 p2∧DataW.Trod enc P w base spare held t3 v3 d3 p3∧DataW.Trod enc P w base spare held t4 v4 d4 p4:=by
 obtain⟨v0,l0,d0,e0,p0,q0,ha,rfl,rfl,h0,h⟩:=trodAll_cons h
 obtain⟨v1,l1,d1,e1,p1,q1,rfl,rfl,rfl,h1,h⟩:=trodAll_cons h
 obtain⟨v2,l2,d2,e2,p2,q2,rfl,rfl,rfl,h2,h⟩:=trodAll_cons h
 obtain⟨v3,l3,d3,e3,p3,q3,rfl,rfl,rfl,h3,h⟩:=trodAll_cons h
 obtain⟨v4,l4,d4,e4,p4,q4,rfl,rfl,rfl,h4,h⟩:=trodAll_cons h
 obtain⟨rfl,rfl,rfl⟩:=trodAll_nil h
 exact⟨v0,v1,v2,v3,v4,d0,d1,d2,d3,d4,p0,p1,p2,p3,p4,by cases args;simp_all,rfl,by simp,h0,h1,h2,h3,h4⟩
end Go.Proofs.YteepmmghanbllaaGreatDoor
