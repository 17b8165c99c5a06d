/- What the proof of the root text leans on, part 9: the layer, plain facts and walks. No statement of the seat is proved in this text. -/
import Derived.Test.YteepmmghanbllaaGreatDoorFx8
set_option maxRecDepth 100000
set_option maxHeartbeats 32000000
namespace Go.Proofs.YteepmmghanbllaaGreatDoor
open Go.K Go.Stn Go.Pln Go.Fld Go.RowKit
theorem zM9:TF Tryz.prog 159 true 2 (.agg #[O 0,O 0]):=tK
theorem zL3:FO Tryz.prog 128 0 0:=fK
theorem zMA:FO Tryz.prog 159 0 0:=fK
theorem zMw:FO Tryz.prog 159 1 1:=fK
theorem se78:SE Tryz.prog 78 159 2:=⟨Tryz.underlying78,by kernel_rfl⟩
theorem zMQ (a:yO) (cap:Nat) (S:List ShC) (b:yO) (bcap:Nat) (V:List WlC) (ca:yO) (ccap:Nat) (cs:List ByteArray) (ba:yO) (bcp:Nat) (bs:List Bdr) (x:Anm) (lb:Nat) (wa fa:yO) (wc fc:Nat) (W:List (Crg×Crg)) (F:List (Nat×List (Bool×Bool))) (frm:Int) (la:yO) (lcap:Nat) (l:List (Int×Int)) (w:World) (hl:yag w a S) (hs:zaP S.length) (hcS:S.length≤cap) (hlw:yah w b V) (hsw:zaP V.length) (hsh:yab S w) (hss:yac S) (hwo:yaa V w) (hsv:yae V) (hcp:yad V) (hkn:yaf V) (_hc:yai w ca cs) (_hcs:zaP cs.length) (_hcap:cs.length≤ccap) (hbd:yaj w ba bs) (hbs:zaP bs.length) (hlb:Has w (Box lb [C ca cs.length ccap,C ba bs.length bcp,C wa W.length wc,C fa (F.map (·.1)).length fc] 128)) (hok:(zym S V cs bs x)=true) (hll:Has w (zaW la 2 zyQ l)) (hls:l.length≤300000) :
  Calls Tryz.prog 62 #[Z lb,zzz3 a S cap b V bcap,zzz1 x,O frm,C la l.length lcap] w (Pure (.tuple #[O (wkT (wkdA S V bs x frm l)).1,O (wkT (wkdA S V bs x frm l)).2.1,.bool (wkT (wkdA S V bs x frm l)).2.2]) w):=by
 obtain⟨_,_,hbn,_,_,hbo⟩:=zzD hok
 refine zan (vs:=[_,_,_,_,_]) Tryz.func62 I I (bL I) (gS (zaG I I (za3 (vs:=[_,_]) I I) λ b6=>(zaG I I (za3 (vs:=[_,_,_,_,_]) I I) λ b7=>(gA I (gA I (gA I (gN [0,3,4,6,7,10,11,12] I (zac (gS (gM I (gQ (zaV (Tryz.underlying78) I) (gM I (gN [0,3,6,7,10,11,12,23,24,25] I (zas (zbf (X:=Int×Int×Int) (λ⟨i,cur,eff⟩=>[(0,Z lb),(3,O cur),(6,Z b6),(7,Z b7),(10,O 0),(11,O eff),(12,.bool false),(23,C la l.length lcap),(24,O (l.length:Int)),(25,O i)]) (λ⟨i,cur,eff⟩=>[Box b7 (zzz2 x) 41,Box b6 (zzz5 a S cap b V bcap) 37]) (λ⟨i,cur,eff⟩=>(0≤i∧i≤l.length∧wkdN S V bs x frm l i.toNat=some (cur,eff))) (λ⟨i,cur,eff⟩=>(l.length - i).toNat) (0,frm,0) (sB I) I ?_ ?_)))))))))))))))
 ·exact⟨by omega,by omega,rfl⟩
 ·rintro ⟨i,cur,eff⟩ hI
  obtain⟨g0,g1,g2⟩:=hI
  refine gS (gQ (zbw I I) (gN [0,3,6,7,10,11,12,23,24,25,26] I (zac (zap I (λ hc26=>?_) (λ hc26=>?_)))))
  ·have hc26:=oT hc26
   have hwin:=zMW hok g2
   refine zaq (zac (zas (gS (gQ (zaE se78 I I (λ _=>rH hll)) (gQ (zbv (vs:=[_,_]) zM9 I (λ _=>rH hll) (by omega) (by omega) I) (zaG I I (zaL zM9 (zs:=[_,_]) I) λ b14=>(zaA 0 zM9 I I (vs:=[_,_]) I I I I I (gN [0,3,6,7,10,11,12,14,23,24,25] I (zac (zac (gZ 11 (ph_y (zab zMA I) (ph_y (zah 0 tf3 I I I) (ph_y (zaf I) (ph_y (zbx I) (ph_y (zab zL3 I) (ph_y (zab zz1 I) (ph_y (zbW tf38 I (λ _ hw=>zaQ (rH hlb hw) I)) (ph_y (zaV (Tryz.underlying38) I) (ph_y (zfV I I) (ph_y (zaJ en58 I (λ w hw=>zyR _ _ _ w)) (ph_y (zbR I) (gN [0,3,6,7,10,11,12,14,23,24,25,39] I (zap I (λ hc39=>?_) (λ hc39=>?_)))))))))))))))))))))))))
   ·have hno:=zMu g2 (by omega) (zM7 (by rw [zCF] at hc39;simpa using hc39))
    refine gS (gA I (gA I (gA I (gN [0,3,6,7,10,11,12,14,23,24,25] I (zaw (zay (zdh I (zau I) (zau I) (zau I)) ?_))))))
    rw [hno];rfl
   ·have hz:zBG bs.length (l.getD i.toNat default).1=true:=by rw [zCF] at hc39;simpa using hc39
    have hzz:0≤(l.getD i.toNat default).1∧(l.getD i.toNat default).1<bs.length:=by have h:=hz;unfold zBG at h;simpa only [aT,dT] using h
    obtain⟨z0,z1⟩:=hzz
    have hbrd:=hbo (l.getD i.toNat default).1.toNat (by omega)
    obtain⟨hG1,hG2⟩:=zBh hbrd
    obtain⟨hsvw,hsss⟩:=zxT (n:=(bs.getD (l.getD i.toNat default).1.toNat default).wall) hsv hss
    have hon:=hG1.wf.num
    refine zaq (zac (gZ 10 (ph_y (zaf I) (ph_y (zbx I) (ph_y (zab zL3 I) (ph_y (zab zz1 I) (ph_y (zbW tf38 I (λ _ hw=>zaQ (rH hlb hw) I)) (ph_y (zab zMA I) (ph_y (zah 0 tf3 I I I) (ph_y (zaE se38 I I (λ _=>rH hbd)) (ph_y (zbv (vs:=[_,_,_,_,_,_]) tf64 I (λ _=>rH hbd) (by omega) (by omega) I) (zmr (zaL tf64 (zs:=[_,_,_,_,_,_]) I) ?_))))))))))))
    intro b15
    refine gK [0,3,6,7,10,11,12,14,15,23,24,25,48] I (zaA 0 tf64 I I (vs:=[_,_,_,_,_,_]) I I I I I (gN [0,3,6,7,10,11,12,14,15,23,24,25] I (gS (gQ (zat 3 tf37 I I (vs:=[_,_]) I I) (gQ (zab zFs I) (gQ (zah 0 tf9 I I I) (zaG I I (zbm en50 I (λ w hw=>zyh _ _ S _ _ V (bs.getD (l.getD i.toNat default).1.toNat default).wall w (rH hl hw) hs hcS (rH hlw hw) hsw (λ z hz=>(rH (hsh z hz) hw)) hss (λ z hz=>(rH (hwo z hz) hw)) hsv hcp hkn)) λ p53=>zbP (gM I (gQ (zaB I I) (gQ (zaB I I) (gQ (zaB I I) (zaG I I (zaL zyz (zs:=[_,_,_,_]) I) λ b16=>(zaG I I (zaL zyq (zs:=[_,_,_,_,_,_,_,_,_,_,_,_,_,_,_,_,_,_,_,_]) I) λ b17=>(zaA 1 zyz I I (vs:=[_,_,_,_]) I I I I I (zbz 0 zyq I I (vs:=[_,_,_,_,_,_,_,_,_,_,_,_,_,_,_,_,_,_,_,_]) I I I I I (gA I (gN [0,3,6,7,10,11,12,14,15,16,17,23,24,25] I (gS (gQ (zat 1 zyz I I (vs:=[_,_,_,_]) I I) (gQ (zat 0 zyq I I (vs:=[_,_,_,_,_,_,_,_,_,_,_,_,_,_,_,_,_,_,_,_]) I I) (gQ (zab zFt I) (gQ (zah 4 tf4 I I I) ?_))))))))))))))))))))))
    refine gQ (zab zDU I) (gQ (zah 4 tf3 I I I) (gQ (zab zDV I) (gQ (zah 4 tf3 I I I) (gQ (zaI I (zyt _ _ _ _ _ _ _ _ _ _ _ _ _ _ _ _ _ _ _ _ _ _ _ _ _ _ _ _ _ _ _)) (zaG I I (zaL zAl (zs:=[_,_,_,_,_,_,_,_,_,_,_,_,_,_,_,_,_,_,_,_,_,_,_,_,_,_,_]) I) λ b19=>(zbz 0 zAl I I (vs:=[_,_,_,_,_,_,_,_,_,_,_,_,_,_,_,_,_,_,_,_,_,_,_,_,_,_,_]) I I I I I (gN [0,3,6,7,10,11,12,14,15,16,19,23,24,25] I (gS (gQ (zab zCS I) (gQ (zah 5 tf3 I I I) (gA I (gN [0,3,6,7,10,11,12,14,15,16,19,20,23,24,25] I ?_))))))))))))
    refine zih (X:=Bool) (λ bk=>[(0,Z lb),(3,O cur),(6,Z b6),(7,Z b7),(10,O 0),(11,O eff),(12,.bool false),(14,Z b14),(16,Z b16),(19,Z b19),(20,O (endW (bs.getD (l.getD i.toNat default).1.toNat default) bk)),(23,C la l.length lcap),(24,O (l.length:Int)),(25,O i)]) (λ bk=>[Box b19 (lV ((zaN S V (bs.getD (l.getD i.toNat default).1.toNat default).wall).s) p53.1.1 p53.1.2 ((zar S V (bs.getD (l.getD i.toNat default).1.toNat default).wall).s) p53.2.1 p53.2.2 ((bs.getD ((l.getD i.toNat default).1).toNat default).shut) (gOf (bs.getD (l.getD i.toNat default).1.toNat default) bk) (hOf (bs.getD (l.getD i.toNat default).1.toNat default) bk)) 179,Box b17 (sV ((zar S V (bs.getD (l.getD i.toNat default).1.toNat default).wall).s) p53.2.1 p53.2.2) 118,Box b16 (wV ((zaN S V (bs.getD (l.getD i.toNat default).1.toNat default).wall).s) p53.1.1 p53.1.2) 116,Row p53.1.1 5 p53.1.2 122 zba (zaN S V (bs.getD (l.getD i.toNat default).1.toNat default).wall).s.opens,Row p53.2.1 1 p53.2.2 3 D (zar S V (bs.getD (l.getD i.toNat default).1.toNat default).wall).s.heights,Box b15 [O (bs.getD ((l.getD i.toNat default).1).toNat default).a,O (bs.getD ((l.getD i.toNat default).1).toNat default).b,.string (bs.getD ((l.getD i.toNat default).1).toNat default).wall,O (bs.getD ((l.getD i.toNat default).1).toNat default).gA,O (bs.getD ((l.getD i.toNat default).1).toNat default).gB,.bool (bs.getD ((l.getD i.toNat default).1).toNat default).shut] 64,Box b14 [O (l.getD i.toNat default).1,O (l.getD i.toNat default).2] 159,Box b7 (zzz2 x) 41,Box b6 (zzz5 a S cap b V bcap) 37]) (λ bk=>((bk=false∧(bs.getD (l.getD i.toNat default).1.toNat default).a=cur)∨(bk=true∧¬ (bs.getD (l.getD i.toNat default).1.toNat default).a=cur∧(bs.getD (l.getD i.toNat default).1.toNat default).b=cur))) ?_ ?_
    ·refine gS (gM I (gN [0,3,6,7,10,11,12,14,15,16,19,20,23,24,25,68] I (zas (gS (gQ (zab zBK I) (gQ (zah 5 tf3 I I I) (gQ (zbL I I) (gA I (gN [0,3,6,7,10,11,12,14,15,16,19,20,23,24,25,68,69] I (zap I (λ hc69=>?_) (λ hc69=>?_)))))))))))
     ·have hc69:=oT hc69
      refine zaq ?_
      exact zb9 false (sB I) I (by first|exact .inl ⟨rfl,hc69.symm⟩|exact .inr ⟨rfl,hn69,hc73.symm⟩)
     ·have hc69:=oD hc69
      have hn69:¬ (bs.getD (l.getD i.toNat default).1.toNat default).a=cur:=λ h=>hc69 h.symm
      refine gS (gQ (zab zCS I) (gQ (zah 5 tf3 I I I) (gQ (zbL I I) (gA I (gN [0,3,6,7,10,11,12,14,15,16,19,20,23,24,25,73] I (zap I (λ hc73=>?_) (λ hc73=>?_)))))))
      ·have hc73:=oT hc73
       refine zCs [_] (ch []) 1000 11 [0,1,0,4,0,16,3,67,207,463,1023] [] I (λ _=>mixed) (by kernel_rfl) (zjK _ trivial) (pY (λ ρ=>zab zDV I) (pY (λ ρ=>zah 4 tf3 I I I) (pY (λ ρ=>zab zDU I) (pY (λ ρ=>zah 4 tf3 I I I) (pY (λ ρ=>zab zBK I) (pY (λ ρ=>zah 4 tf3 I I I) (pY (λ ρ=>zab zCp I) (zBT (R:=λ ρ=>Box b19 (lV ((zaN S V (bs.getD (l.getD i.toNat default).1.toNat default).wall).s) p53.1.1 p53.1.2 ((zar S V (bs.getD (l.getD i.toNat default).1.toNat default).wall).s) p53.2.1 p53.2.2 ((bs.getD ((l.getD i.toNat default).1).toNat default).shut) ((bs.getD ((l.getD i.toNat default).1).toNat default).gA) ((bs.getD ((l.getD i.toNat default).1).toNat default).gB)) 179) (A:=λ ρ=>Box b19 (lV ((zaN S V (bs.getD (l.getD i.toNat default).1.toNat default).wall).s) p53.1.1 p53.1.2 ((zar S V (bs.getD (l.getD i.toNat default).1.toNat default).wall).s) p53.2.1 p53.2.2 ((bs.getD ((l.getD i.toNat default).1).toNat default).shut) ((bs.getD ((l.getD i.toNat default).1).toNat default).gB) ((bs.getD ((l.getD i.toNat default).1).toNat default).gB)) 179) 1000 I (by kernel_rfl) (by kernel_rfl) (λ _=>by kernel_rfl) (λ ρ=>zex tf3 I I (vs:=[_]) I I I I I) (λ ρ ρ' h=>by rfl) (pY (λ ρ=>zab zF7 I) ?_)))))))))
       refine zBT (R:=λ ρ=>Box b19 (lV ((zaN S V (bs.getD (l.getD i.toNat default).1.toNat default).wall).s) p53.1.1 p53.1.2 ((zar S V (bs.getD (l.getD i.toNat default).1.toNat default).wall).s) p53.2.1 p53.2.2 ((bs.getD ((l.getD i.toNat default).1).toNat default).shut) ((bs.getD ((l.getD i.toNat default).1).toNat default).gB) ((bs.getD ((l.getD i.toNat default).1).toNat default).gB)) 179) (A:=λ ρ=>Box b19 (lV ((zaN S V (bs.getD (l.getD i.toNat default).1.toNat default).wall).s) p53.1.1 p53.1.2 ((zar S V (bs.getD (l.getD i.toNat default).1.toNat default).wall).s) p53.2.1 p53.2.2 ((bs.getD ((l.getD i.toNat default).1).toNat default).shut) ((bs.getD ((l.getD i.toNat default).1).toNat default).gB) ((bs.getD ((l.getD i.toNat default).1).toNat default).gA)) 179) 1000 I (by kernel_rfl) (by kernel_rfl) (λ _=>by kernel_rfl) (λ ρ=>zex tf3 I I (vs:=[_]) I I I I I) (λ ρ ρ' h=>by rfl) (pY (λ ρ=>zad I) ?_)
       refine λ ρ=>zag (zpT (T':=[(0,Z lb),(3,O cur),(6,Z b6),(7,Z b7),(10,O 0),(11,O eff),(12,.bool false),(14,Z b14),(16,Z b16),(19,Z b19),(20,O (bs.getD ((l.getD i.toNat default).1).toNat default).a),(23,C la l.length lcap),(24,O (l.length:Int)),(25,O i)]) (H':=[Box b19 (lV ((zaN S V (bs.getD (l.getD i.toNat default).1.toNat default).wall).s) p53.1.1 p53.1.2 ((zar S V (bs.getD (l.getD i.toNat default).1.toNat default).wall).s) p53.2.1 p53.2.2 ((bs.getD ((l.getD i.toNat default).1).toNat default).shut) ((bs.getD ((l.getD i.toNat default).1).toNat default).gB) ((bs.getD ((l.getD i.toNat default).1).toNat default).gA)) 179,Box b17 (sV ((zar S V (bs.getD (l.getD i.toNat default).1.toNat default).wall).s) p53.2.1 p53.2.2) 118,Box b16 (wV ((zaN S V (bs.getD (l.getD i.toNat default).1.toNat default).wall).s) p53.1.1 p53.1.2) 116,Row p53.1.1 5 p53.1.2 122 zba (zaN S V (bs.getD (l.getD i.toNat default).1.toNat default).wall).s.opens,Row p53.2.1 1 p53.2.2 3 D (zar S V (bs.getD (l.getD i.toNat default).1.toNat default).wall).s.heights,Box b15 [O (bs.getD ((l.getD i.toNat default).1).toNat default).a,O (bs.getD ((l.getD i.toNat default).1).toNat default).b,.string (bs.getD ((l.getD i.toNat default).1).toNat default).wall,O (bs.getD ((l.getD i.toNat default).1).toNat default).gA,O (bs.getD ((l.getD i.toNat default).1).toNat default).gB,.bool (bs.getD ((l.getD i.toNat default).1).toNat default).shut] 64,Box b14 [O (l.getD i.toNat default).1,O (l.getD i.toNat default).2] 159,Box b7 (zzz2 x) 41,Box b6 (zzz5 a S cap b V bcap) 37]) (sB I) I ?_)
       exact zb9 true (sB I) I (by first|exact .inl ⟨rfl,hc69.symm⟩|exact .inr ⟨rfl,hn69,hc73.symm⟩)
      ·have hc73:=oD hc73
       have hno:=zMu g2 (by omega) (zMP hn69 (λ h=>hc73 h.symm))
       refine gS (gA I (gA I (gA I (gN [0,3,6,7,10,11,12,14,16,19,20,23,24,25] I (zaw (zay (zdh I (zau I) (zau I) (zau I)) ?_))))))
       rw [hno];rfl
    ·rintro bk hJ
     have hG:Gnd (zar S V (bs.getD (l.getD i.toNat default).1.toNat default).wall).s (zaN S V (bs.getD (l.getD i.toNat default).1.toNat default).wall).s (gOf (bs.getD (l.getD i.toNat default).1.toNat default) bk) (hOf (bs.getD (l.getD i.toNat default).1.toNat default) bk):=by cases bk <;> first|exact hG1|exact hG2
     obtain⟨gs1,gs2,gs3,gs4⟩:=hG.nums
     have hov:=zGy hG
     have hJ5:=hJ
     refine zac (gZ 21 (ph_y (zat 0 zAl I I (vs:=[_,_,_,_,_,_,_,_,_,_,_,_,_,_,_,_,_,_,_,_,_,_,_,_,_,_,_]) I I) (ph_y (zaJ en91 I (λ w hw=>zFw _ _ (zaN S V (bs.getD (l.getD i.toNat default).1.toNat default).wall).s _ _ (zar S V (bs.getD (l.getD i.toNat default).1.toNat default).wall).s (bs.getD (l.getD i.toNat default).1.toNat default).shut (gOf (bs.getD (l.getD i.toNat default).1.toNat default) bk) (hOf (bs.getD (l.getD i.toNat default).1.toNat default) bk) w (zam Go.Stn.encI_ok (hw.has (p:=4) I)) hsss (zam zyn (hw.has (p:=3) I)) hG)) (ph_y (zws I I) (ph_y (zaY I I) (ph_y (zat 0 zAl I I (vs:=[_,_,_,_,_,_,_,_,_,_,_,_,_,_,_,_,_,_,_,_,_,_,_,_,_,_,_]) I I) (ph_y (zaJ en91 I (λ w hw=>zFw _ _ (zaN S V (bs.getD (l.getD i.toNat default).1.toNat default).wall).s _ _ (zar S V (bs.getD (l.getD i.toNat default).1.toNat default).wall).s (bs.getD (l.getD i.toNat default).1.toNat default).shut (gOf (bs.getD (l.getD i.toNat default).1.toNat default) bk) (hOf (bs.getD (l.getD i.toNat default).1.toNat default) bk) w (zam Go.Stn.encI_ok (hw.has (p:=4) I)) hsss (zam zyn (hw.has (p:=3) I)) hG)) (ph_y (zab zep I) (ph_y (zah 7 tf3 I I I) (ph_y (zeT I I) (ph_y (zaf I) ?_)))))))))))
     refine zaH I I (λ jj=>by(try rw [jj]);exact zat 0 zAl I I (vs:=[_,_,_,_,_,_,_,_,_,_,_,_,_,_,_,_,_,_,_,_,_,_,_,_,_,_,_]) I I) (zaH I I (λ jj=>by(try rw [jj]);exact zab zBw I) (zaH I I (λ jj=>by(try rw [jj]);exact zab zyM I) (zaH I I (λ jj=>by(try rw [jj]);exact zah 0 tf3 I I I) (zaH I I (λ jj=>by(try rw [jj]);exact zaJ (v:=O (zy8 (zar S V (bs.getD (l.getD i.toNat default).1.toNat default).wall).s ((zar S V (bs.getD (l.getD i.toNat default).1.toNat default).wall).s.height))) en92 I (λ w hw=>zEp _ _ (zaN S V (bs.getD (l.getD i.toNat default).1.toNat default).wall).s _ _ (zar S V (bs.getD (l.getD i.toNat default).1.toNat default).wall).s (bs.getD (l.getD i.toNat default).1.toNat default).shut (gOf (bs.getD (l.getD i.toNat default).1.toNat default) bk) (hOf (bs.getD (l.getD i.toNat default).1.toNat default) bk) ((zar S V (bs.getD (l.getD i.toNat default).1.toNat default).wall).s.height) w (zam Go.Stn.encI_ok (hw.has (p:=4) I)) hsss (zam zyn (hw.has (p:=3) I)) hG)) (zaH I I (λ jj=>by(try rw [jj]);exact zab znd I) (zaH I I (λ jj=>by(try rw [jj]);exact zah 7 tf3 I I I) (zaH I I (λ jj=>by(try rw [jj]);exact zeT I I) (ph_y (zaX I I I) (ph_y (zad I) ?_)))))))))
     refine ph_y (zad I) (gN [0,3,6,7,10,11,12,14,16,19,20,21,22,23,24,25] I ?_)
     refine zih (X:=Unit) (λ _=>[(0,Z lb),(3,O cur),(6,Z b6),(7,Z b7),(10,O 0),(11,O eff),(12,.bool false),(20,O (endW (bs.getD (l.getD i.toNat default).1.toNat default) bk)),(21,O (mayB S V x (bs.getD (l.getD i.toNat default).1.toNat default) bk (l.getD i.toNat default).2).1),(22,.bool (mayB S V x (bs.getD (l.getD i.toNat default).1.toNat default) bk (l.getD i.toNat default).2).2),(23,C la l.length lcap),(24,O (l.length:Int)),(25,O i)]) (λ _=>[Box b19 (lV ((zaN S V (bs.getD (l.getD i.toNat default).1.toNat default).wall).s) p53.1.1 p53.1.2 ((zar S V (bs.getD (l.getD i.toNat default).1.toNat default).wall).s) p53.2.1 p53.2.2 ((bs.getD ((l.getD i.toNat default).1).toNat default).shut) (gOf (bs.getD (l.getD i.toNat default).1.toNat default) bk) (hOf (bs.getD (l.getD i.toNat default).1.toNat default) bk)) 179,Box b17 (sV ((zar S V (bs.getD (l.getD i.toNat default).1.toNat default).wall).s) p53.2.1 p53.2.2) 118,Box b16 (wV ((zaN S V (bs.getD (l.getD i.toNat default).1.toNat default).wall).s) p53.1.1 p53.1.2) 116,Row p53.1.1 5 p53.1.2 122 zba (zaN S V (bs.getD (l.getD i.toNat default).1.toNat default).wall).s.opens,Row p53.2.1 1 p53.2.2 3 D (zar S V (bs.getD (l.getD i.toNat default).1.toNat default).wall).s.heights,Box b15 [O (bs.getD ((l.getD i.toNat default).1).toNat default).a,O (bs.getD ((l.getD i.toNat default).1).toNat default).b,.string (bs.getD ((l.getD i.toNat default).1).toNat default).wall,O (bs.getD ((l.getD i.toNat default).1).toNat default).gA,O (bs.getD ((l.getD i.toNat default).1).toNat default).gB,.bool (bs.getD ((l.getD i.toNat default).1).toNat default).shut] 64,Box b14 [O (l.getD i.toNat default).1,O (l.getD i.toNat default).2] 159,Box b7 (zzz2 x) 41,Box b6 (zzz5 a S cap b V bcap) 37]) (λ _=>True) ?_ ?_
     ·refine gS (gQ (zab zMw I) (gQ (zah 6 tf3 I I I) (gQ (zcr I I) (gN [0,3,6,7,10,11,12,14,16,19,20,21,22,23,24,25,106] I (zap I (λ hc106=>?_) (λ hc106=>?_))))))
      ·have hw1:¬ (l.getD i.toNat default).2 = -1:=by simpa using hc106
       refine zac (gS (gQ (zab zMw I) (gQ (zah 6 tf3 I I I) (gQ (zab zyL I) (gQ (zah 2 zAi I I I) (gQ (zaV (Tryz.underlying114) I) (gQ (zfV I I) (gQ (zaJ en58 I (λ w hw=>zyR _ _ _ w)) (gQ (zbR I) (gN [0,3,6,7,10,11,12,14,16,19,20,21,22,23,24,25,114] I (zap I (λ hc114=>?_) (λ hc114=>?_))))))))))))
       ·have hno:=zMu g2 (by omega) (zMV hz hJ5 (zNb hw1 hc114))
        refine gS (gA I (gA I (gA I (gN [0,3,6,7,10,11,12,14,16,19,20,21,22,23,24,25] I (zaw (zay (zdh I (zau I) (zau I) (zau I)) ?_))))))
        rw [hno];rfl
       ·have hwr:0≤(l.getD i.toNat default).2∧(l.getD i.toNat default).2<(zaN S V (bs.getD (l.getD i.toNat default).1.toNat default).wall).s.opens.length:=by have h:=hc114;unfold inZ at h;simp only [nF,aT,dT] at h;omega
        obtain⟨w0_,w1_⟩:=hwr
        have hmo:=zM0 (S:=S) (V:=V) (x:=x) (b:=(bs.getD (l.getD i.toNat default).1.toNat default)) (bk:=bk) w0_ w1_
        have hm1:=congrArg Prod.fst hmo
        have hm2:=congrArg Prod.snd hmo
        refine zaq (gZ 14 (ph_y (zat 0 zAl I I (vs:=[_,_,_,_,_,_,_,_,_,_,_,_,_,_,_,_,_,_,_,_,_,_,_,_,_,_,_]) I I) (ph_y (zab zyL I) (ph_y (zah 2 zAi I I I) (ph_y (zab zMw I) (ph_y (zah 6 tf3 I I I) (ph_y (zaE zCz I I (λ _ hw=>(zam zyn (hw.has (p:=3) I)))) (ph_y (zbv (vs:=[_,_,_,_,_]) zy2 I (λ _ hw=>(zam zyn (hw.has (p:=3) I))) (by omega) (by omega) I) (ph_y (zat 7 tf41 I I (vs:=[_,_,_,_,_]) I I) (ph_y (zaJ en79 I (λ w hw=>by_c _ _ (zaN S V (bs.getD (l.getD i.toNat default).1.toNat default).wall).s _ _ (zar S V (bs.getD (l.getD i.toNat default).1.toNat default).wall).s (bs.getD (l.getD i.toNat default).1.toNat default).shut (gOf (bs.getD (l.getD i.toNat default).1.toNat default) bk) (hOf (bs.getD (l.getD i.toNat default).1.toNat default) bk) ((zaN S V (bs.getD (l.getD i.toNat default).1.toNat default).wall).s.opens.getD (l.getD i.toNat default).2.toNat default) x w (zam Go.Stn.encI_ok (hw.has (p:=4) I)) hsss (zam zyn (hw.has (p:=3) I)) hG (hG.wf.fit _ (za0 (by omega))))) (ph_y (zaf I) (ph_y (zaB I I) (ph_y (zaB I I) (ph_y (zad I) (ph_y (zad I) (gN [0,3,6,7,10,11,12,20,21,22,23,24,25] I ?_))))))))))))))))
        exact zb9 () ⟨I,I,I,I,I,I,I,I,(by exact congrArg (λ z=>some (Value.int .i64 z)) hm1),(by exact congrArg (λ z=>some (Value.bool z)) hm2),I,I,I,trivial⟩ rfl trivial
      ·have hw1:(l.getD i.toNat default).2 = -1:=by simpa using hc106
       obtain⟨hm1,hm2⟩:=zMZ (S:=S) (V:=V) (x:=x) (b:=(bs.getD (l.getD i.toNat default).1.toNat default)) (bk:=bk) hw1
       refine zaq ?_
       exact zb9 () ⟨I,I,I,I,I,I,I,I,(by exact congrArg (λ z=>some (Value.int .i64 z)) hm1),(by exact congrArg (λ z=>some (Value.bool z)) hm2),I,I,I,trivial⟩ rfl trivial
     ·rintro _ hJ
      refine zac (gS (gM I (gQ (zbR I) (gN [0,3,6,7,10,11,12,20,21,23,24,25,128] I (zap I (λ hc128=>?_) (λ hc128=>?_))))))
      ·have hm0:(mayB S V x (bs.getD (l.getD i.toNat default).1.toNat default) bk (l.getD i.toNat default).2).2=false:=by simpa using hc128
       have hno:=zMu g2 (by omega) (zMV hz hJ5 hm0)
       refine gS (gA I (gA I (gA I (gN [0,3,6,7,10,11,12,20,21,23,24,25] I (zaw (zay (zdh I (zau I) (zau I) (zau I)) ?_))))))
       rw [hno];rfl
      ·have hm0:(mayB S V x (bs.getD (l.getD i.toNat default).1.toNat default) bk (l.getD i.toNat default).2).2=true:=by simpa using hc128
       have hnx:=zMR g2 (zM8 hz hJ5 hm0)
       have hmi:=zJS hok z0 z1 bk (l.getD i.toNat default).2
       refine zaq (zaa (gM I (gM I (gM I (gQ (zaY I I) (gA I (gA I (gN [0,3,6,7,10,11,12,23,24,25] I (zaa (gQ (zaY I I) (gM I (gN [0,3,6,7,10,11,12,23,24,25] I (zaK 0 I (zaK 0 I (zaK 0 I (zaK 0 I (zaK 0 I (zaK 0 I (zaK 0 I ?_)))))))))))))))))))
       exact za1 (i+1,_,_) (sB I) I ⟨by omega,by omega,by rw [show(i+1).toNat=i.toNat+1 from by omega];exact hnx⟩ (by simp only [];omega)
  ·have hc26:=oD hc26
   have hfin:wkdA S V bs x frm l=some (cur,eff):=by rw [←g2,show i.toNat=l.length from by omega];rfl
   refine za8 I (gS (gM I (gM I (gA I (gA I (gA I (gN [10,11,12] I (zaw (zay (zdh I (zau I) (zau I) (zau I)) ?_)))))))))
   rw [hfin];rfl
theorem en89:En Tryz.prog 89:=eK Tryz.func89
theorem zK3 (a:yO) (cap:Nat) (l:List Int) (n:Int) (w:World) (hl:Has w (Ints a l)) (hs:zaP l.length) :
  Calls Tryz.prog 89 #[C a l.length cap,O n] w (Pure (O (zbJ (λ z:Int=>decide (n=z)) l)) w):=by
 refine zan (vs:=[_,_]) Tryz.func89 I I (bL I) (gS (gA I (gN [0,1,4] I (zac (gS (gM I (gQ (zaV (Tryz.underlying45) I) (gM I (gN [0,1,4,7,8] I (zas (zbf (X:=Int) (λ(i:Int)=>[(0,C a l.length cap),(1,O n),(4,O 0),(7,O (l.length:Int)),(8,O i)]) (λ(i:Int)=>[]) (λ(i:Int)=>(0≤i∧i≤l.length∧∀ j:Nat,(j:Int)<i→decide (n=l.getD j default)=false)) (λ(i:Int)=>(l.length - i).toNat) 0 (sB I) I ?_ ?_)))))))))))
 ·exact⟨by omega,by omega,λ j hj=>by omega⟩
 ·rintro i hI
  obtain⟨g0,g1,g2⟩:=hI
  refine gS (gQ (zbw I I) (gN [0,1,4,7,8,9] I (zac (zap I (λ hc9=>?_) (λ hc9=>?_)))))
  ·simp only [dT] at hc9
   refine zaq (zac (zas (gS (gM I (gA I (gN [0,1,4,5,7,8] I (gS (gM I (gM I (gM I (gQ (zaE se45 I I (λ _=>rH hl)) (gQ (zcE tf3 I (λ _=>rH hl) (by omega) (by omega) I) (gQ (zbL I I) (gN [0,1,4,5,7,8,16] I (zap I (λ hc16=>?_) (λ hc16=>?_))))))))))))))))
   ·refine gS (gM I (gA I (gN [0,1,4,7,8] I (zaw (zay (zaC I (zau I)) ?_)))))
    exact congrArg (λ n=>Value.int .i64 n) (zcs (p:=(λ z:Int=>decide (n=z))) g0 (by omega) g2 hc16).symm
   ·refine zaq (zaa (gQ (zaY I I) (gM I (gN [0,1,4,7,8] I ?_))))
    exact za1 _ (sB I) I ⟨by omega,by omega,λ j hj=>if h:(j:Int)<i then g2 j h else(by rw [show j=i.toNat from by omega];exact hc16)⟩ (by omega)
  ·simp only [dF] at hc9
   refine za8 I (gS (gA I (gN [4] I (zaw (zay (zaC I (zau I)) ?_)))))
   exact congrArg (λ n=>Value.int .i64 n) (zck (p:=(λ z:Int=>decide (n=z))) (λ j hj=>g2 j (by omega))).symm
theorem zKI (a:yO) (cap:Nat) (l:List Int) (n:Int) (w:World) (hl:Has w (Ints a l)) (hs:zaP l.length) :
  Calls Tryz.prog 59 #[C a l.length cap,O n] w (Pure (.bool (hasI l n)) w):=by
 refine zan (vs:=[_,_]) Tryz.func59 I I (bL I) (gS (gA I (gN [0,1,4] I (gS (gM I (gM I (gQ (zaJ en89 I (λ w hw=>zK3 _ _ l n w (rH hl hw) (by assumption))) (gQ (zfx I I) (gA I (gN [4] I (zaw (zay (zaC I (zau I)) ?_))))))))))))
 rw [ze9];rfl
theorem zKb (a:yO) (cap:Nat) (l:List Int) (n:Int) (w:World) (hl:Has w (Ints a l)) (hs:zaP l.length) :
  Calls Tryz.prog 64 #[C a l.length cap,O n] w (Pure (.bool (hasI l n)) w):=by
 refine zan (vs:=[_,_]) Tryz.func64 I I (bL I) (gS (gA I (gN [0,1,4] I (zac (gS (gA I (gN [0,1,4,5] I (zas (zbf (X:=Int) (λ(i:Int)=>[(0,C a l.length cap),(1,O n),(4,.bool false),(5,O i)]) (λ(i:Int)=>[]) (λ(i:Int)=>(0≤i∧i≤l.length∧∀ j:Nat,(j:Int)<i→¬ l.getD j default=n)) (λ(i:Int)=>(l.length - i).toNat) 0 ⟨I,I,I,I,trivial⟩ rfl ?_ ?_)))))))))
 ·exact⟨by omega,by omega,λ j hj=>by omega⟩
 ·rintro i hI
  obtain⟨g0,g1,g2⟩:=hI
  refine zac (gS (gM I (gM I (gQ (zaV (Tryz.underlying45) I) (gQ (zbw I I) (gN [0,1,4,5,9] I (zap I (λ hc9=>?_) (λ hc9=>?_))))))))
  ·simp only [dT] at hc9
   refine zaq (zac (zas (gS (gM I (gM I (gQ (zaE se45 I I (λ _=>rH hl)) (gQ (zcE tf3 I (λ _=>rH hl) (by omega) (by omega) I) (gM I (gQ (zbL I I) (gN [0,1,4,5,17] I (zap I (λ hc17=>?_) (λ hc17=>?_))))))))))))
   ·have hc17:=oT hc17
    refine gS (gA I (gN [0,1,4,5] I (zaw (zay (zaC I (zau I)) ?_))))
    rw [zJu g0 (by omega) hc17]
   ·have hc17:=oD hc17
    refine zaq (zaa (gM I (gQ (zaY I I) (gA I (gN [0,1,4,5] I ?_)))))
    exact za1 _ ⟨I,I,I,I,trivial⟩ rfl ⟨by omega,by omega,λ j hj=>if h:(j:Int)<i then g2 j h else(by rw [show j=i.toNat from by omega];exact hc17)⟩ (by omega)
  ·simp only [dF] at hc9
   refine za8 I (gS (gA I (gN [4] I (zaw (zay (zaC I (zau I)) ?_)))))
   rw [zJP (λ j hj=>g2 j (by omega))]
theorem zNp (a:yO) (cap:Nat) (l:List Int) (w:World) (hl:Has w (Ints a l)) (hs:zaP l.length) :
  Calls Tryz.prog 63 #[C a l.length cap] w (Pure (.bool (risB l)) w):=by
 refine zan (vs:=[_]) Tryz.func63 I I (bL I) (gS (gA I (gN [0,2] I (zac (gS (gA I (gN [0,2,3] I (zas (zbf (X:=Int) (λ(i:Int)=>[(0,C a l.length cap),(2,.bool false),(3,O i)]) (λ(i:Int)=>[]) (λ(i:Int)=>(1≤i∧∀ j:Nat,1≤j→(j:Int)<i→l.getD (j - 1) default<l.getD j default)) (λ(i:Int)=>(l.length - i).toNat) 1 ⟨I,I,I,trivial⟩ rfl ?_ ?_)))))))))
 ·exact⟨by omega,λ j h1 hj=>by omega⟩
 ·rintro i hI
  obtain⟨g0,g2⟩:=hI
  refine zac (gS (gM I (gM I (gQ (zaV (Tryz.underlying45) I) (gQ (zbw I I) (gN [0,2,3,7] I (zap I (λ hc7=>?_) (λ hc7=>?_))))))))
  ·simp only [dT] at hc7
   refine zaq (zac (zas (zac (gZ 10 (ph_y (zaf I) (ph_y (zaf I) (ph_y (zfV I I) (ph_y (zaE se45 I I (λ _=>rH hl)) (ph_y (zcE tf3 I (λ _=>rH hl) (by omega) (by omega) I) (ph_y (zaf I) (ph_y (zaf I) (ph_y (zaE se45 I I (λ _=>rH hl)) (ph_y (zcE tf3 I (λ _=>rH hl) (by omega) (by omega) I) (ph_y (zfx I I) (gN [0,2,3,19] I (zap I (λ hc19=>?_) (λ hc19=>?_)))))))))))))))))
   ·have hc19:=oT hc19
    refine gS (gA I (gN [0,2,3] I (zaw (zay (zaC I (zau I)) ?_))))
    rw [zNG g0 (by omega) hc19]
   ·have hc19:=oD hc19
    refine zaq (zaa (gM I (gQ (zaY I I) (gA I (gN [0,2,3] I ?_)))))
    exact za1 _ ⟨I,I,I,trivial⟩ rfl ⟨by omega,λ j h1 hj=>if h:(j:Int)<i then g2 j h1 h else(by rw [show j=i.toNat from by omega,show i.toNat - 1=(i - 1).toNat from by omega];omega)⟩ (by omega)
  ·simp only [dF] at hc7
   refine za8 I (gS (gA I (gN [2] I (zaw (zay (zaC I (zau I)) ?_)))))
   rw [zNh.2 (λ j h1 hj=>g2 j h1 (by omega))]
end Go.Proofs.YteepmmghanbllaaGreatDoor
namespace Go.K
open Go Go.RowKit
theorem zI1 {R:Res} {w:World}:∀ (H:List Res) (i:Nat) (B C E:Nat→Prop),(∀ k,C k→B k)→(∀ k,E k→B k∧¬ C k)→All H C w→R.A E w→All (H.set i R) B w
 | [],_,_,_,_,_,_,_,_=>trivial
 | _ :: r,0,B,C,E,h1,h2,⟨D,F,k1,k2,_,hr⟩,hR=>by
  show All (R :: r) B w
  exact⟨E,F,λ k hk=>(h2 k hk).1,λ k hk=>⟨h1 k (k2 k hk).1,λ he=>(h2 k he).2 (k2 k hk).1⟩,hR,hr⟩
 | R0 :: r,i+1,B,C,E,h1,h2,⟨D,F,k1,k2,hA,hr⟩,hR=>by
  show All (R0 :: r.set i R) B w
  refine⟨D,λ k=>F k∨E k,λ k hk=>h1 k (k1 k hk),λ k hk=>?_,hA,zI1 r i (λ k=>F k∨E k) F E (λ k hk=>.inl hk) (λ k hk=>⟨.inr hk,λ hf=>(h2 k hk).2 (k2 k hf).1⟩) hr hR⟩
  rcases hk with hk|hk
  ·exact⟨h1 k (k2 k hk).1,(k2 k hk).2⟩
  ·exact⟨(h2 k hk).1,λ hd=>(h2 k hk).2 (k1 k hd)⟩
section
variable {α:Type} {f:α→Res} {L:List α} {z:α} {B:Nat→Prop} {w:World}
theorem zIV (i:Nat) (h:(SepR [Rows f L,f z]).A B w):(Rows f (L.set i z)).A B w:=by
 obtain⟨C,E,h1,h2,hA,D,_,h3,_,hR,_⟩:=h
 show All ((L.set i z).map f) B w
 rw [List.map_set]
 exact zI1 _ i B C D h1 (λ k hk=>h2 k (h3 k hk)) hA hR
theorem zJf {L:List α} (h:∀ z∈L,(f z).A (λ _=>False) w):(Rows f L).A (λ _=>False) w:=by
 show All (L.map f) _ w
 induction L with
 | nil=>trivial
 | cons x L ih=>exact⟨λ _=>False,λ _=>False,λ _ h=>h,λ _ h=>h.elim,h x (mS ..),ih λ z hz=>h z (mM _ hz)⟩
end
section
variable {c:Cx} {ds:List Deferred} {T:List (Nat×Value)} {H:List Res} {K:Act→World→Prop}
theorem zIL {α:Type} (f:α→Res) (L:List α) (hn:∀ w,∀ z∈L,(f z).A (λ _=>False) w) (h:GK c ds K T (Rows f L :: H)):GK c ds K T H:=λ a w ha hw=>
 h a w ha ⟨hw.base,λ _=>False,λ _ hk=>hk.elim,zJf (hn w),Holds.anti H (λ _ hk=>hk.elim id False.elim) hw.holds⟩
end
end Go.K
namespace Go.Proofs.YteepmmghanbllaaGreatDoor
open Go.K Go.Stn Go.Pln Go.Fld Go.RowKit
theorem tf76:TF Tryz.prog 76 false 1 (C none 0 0):=tK
theorem tf95:TF Tryz.prog 95 true 3 (.agg #[O 0,C none 0 0,.bool false]):=tK
theorem zIs:FO Tryz.prog 95 0 0:=fK
theorem zIi:FO Tryz.prog 95 1 1:=fK
theorem zIt:FO Tryz.prog 95 2 2:=fK
theorem zIy:FO Tryz.prog 160 0 0:=fK
theorem se76:SE Tryz.prog 76 160 2:=⟨Tryz.underlying76,by kernel_rfl⟩
theorem se92:SE Tryz.prog 92 95 3:=⟨Tryz.underlying92,by kernel_rfl⟩
theorem af76:AF Tryz.prog 76 160 2 16 [O 0,O 0]:=⟨Tryz.underlying76,by kernel_rfl,rfl⟩
theorem af92:AF Tryz.prog 92 95 3 40 [O 0,C none 0 0,.bool false]:=⟨Tryz.underlying92,by kernel_rfl,rfl⟩
theorem en26:En Tryz.prog 26:=eK Tryz.func26
theorem en64:En Tryz.prog 64:=eK Tryz.func64
theorem en66:En Tryz.prog 66:=eK Tryz.func66
theorem zIl (x0:Int) (x1a:yO) (x1n x1c:Nat) (x2:Bool) (w:World):(Instr.build 95 #[(0,O x0),(1,C x1a x1n x1c),(2,.bool x2)]).run Tryz.prog w=.ok (.agg #[O x0,C x1a x1n x1c,.bool x2]) w:=by kernel_rfl
theorem zIp (x0 x1:Int) (w:World):(Instr.build 160 #[(0,O x0),(1,O x1)]).run Tryz.prog w=.ok (.agg #[O x0,O x1]) w:=by kernel_rfl
theorem zJD (x0_0 x0_1:Int) (w:World):(Instr.buildSlice 76 1 #[(0,.agg #[O x0_0,O x0_1])]).run Tryz.prog w=.ok (C (some ⟨w.heap.size,0,none⟩) 1 1) (w.alloc (.cells (([⟨x0_0,x0_1⟩]:List (Int×Int)).flatMap zyQ).toArray 160)):=by kernel_rfl
abbrev rowT (z:TrkR):Res:=Row z.2.1 2 z.2.2 160 zyQ (stpL z.1.l)
theorem zJe (t o:Trk) (a:yO) (cap:Nat) (b:yO) (bcap:Nat) (w:World) (hl:Has w (zaW a 2 zyQ (stpL t.l))) (_hs:t.l.length≤300000) (hm:Has w (zaW b 2 zyQ (stpL o.l))) (hs2:o.l.length≤300000) :
  Calls Tryz.prog 66 #[.agg #[O t.eff,C a (stpL t.l).length cap,.bool t.there],.agg #[O o.eff,C b (stpL o.l).length bcap,.bool o.there]] w (Pure (.bool (zIg t o)) w):=by
 have l1:(stpL t.l).length=t.l.length:=zIA
 have l2:(stpL o.l).length=o.l.length:=zIA
 refine zan (vs:=[_,_]) Tryz.func66 I I (bL I) (gS (zaG I I (za3 (vs:=[_,_,_]) I I) λ b2=>(zaG I I (za3 (vs:=[_,_,_]) I I) λ b3=>(gA I (gN [2,3,4] I (zac (zac (gZ 10 (ph_y (zab zIt I) (ph_y (zah 0 tf4 I I I) (ph_y (zbR I) (ph_y (zaf I) (zaz I I (λ jj=>by(try rw [jj]);exact zab zIs I) (zaz I I (λ jj=>by(try rw [jj]);exact zah 1 tf3 I I I) (zaz I I (λ jj=>by(try rw [jj]);exact zab zIs I) (zaz I I (λ jj=>by(try rw [jj]);exact zah 0 tf3 I I I) (zaz I I (λ jj=>by(try rw [jj]);exact zcr I I) (ph_y (zaR I I I) (gN [2,3,4,15] I (zap I (λ hc15=>?_) (λ hc15=>?_)))))))))))))))))))))
 ·refine zac (gZ 11 (ph_y (zab zIt I) (ph_y (zah 0 tf4 I I I) (ph_y (zbR I) (ph_y (zaf I) (zaz I I (λ jj=>by(try rw [jj]);exact zab zIs I) (zaz I I (λ jj=>by(try rw [jj]);exact zah 1 tf3 I I I) (zaz I I (λ jj=>by(try rw [jj]);exact zab zIs I) (zaz I I (λ jj=>by(try rw [jj]);exact zah 0 tf3 I I I) (zaz I I (λ jj=>by(try rw [jj]);exact zbw I I) (ph_y (zaR I I I) (ph_y (zad I) (gN [2,3,4] I (zaw (zay (zaC I (zau I)) ?_)))))))))))))))
  rw [zJ4 hc15]
 ·have hq:=zJ5 hc15
  refine zaq (zac (gS (gQ (zab zIi I) (gQ (zah 1 tf76 I I I) (gQ (zaV (Tryz.underlying76) I) (gQ (zab zIi I) (gQ (zah 0 tf76 I I I) (gQ (zaV (Tryz.underlying76) I) (gQ (zcr I I) (gN [2,3,4,32] I (zap I (λ hc32=>?_) (λ hc32=>?_))))))))))))
  ·have hn:¬ t.l.length=o.l.length:=by intro h;rw [l1,l2,h] at hc32;simp at hc32
   refine gS (gQ (zab zIi I) (gQ (zah 1 tf76 I I I) (gQ (zaV (Tryz.underlying76) I) (gQ (zab zIi I) (gQ (zah 0 tf76 I I I) (gQ (zaV (Tryz.underlying76) I) (gQ (zbw I I) (gA I (gN [2,3,4] I (zaw (zay (zaC I (zau I)) ?_)))))))))))
   rw [zJ6 hq hn,l1,l2];exact congrArg Value.bool (decide_eq_decide.2 (by omega))
  ·have he:t.l.length=o.l.length:=by rw [l1,l2] at hc32;simp only [nF,dT] at hc32;omega
   refine zaq (zac (gS (gA I (gN [2,3,4,5] I (zas (zbf (X:=Int) (λ(i:Int)=>[(2,Z b2),(3,Z b3),(4,.bool false),(5,O i)]) (λ(i:Int)=>[Box b3 [O o.eff,C b (stpL o.l).length bcap,.bool o.there] 95,Box b2 [O t.eff,C a (stpL t.l).length cap,.bool t.there] 95]) (λ(i:Int)=>(0≤i∧i≤t.l.length∧∀ j:Nat,(j:Int)<i→(zIh t.l).getD j default=(zIh o.l).getD j default)) (λ(i:Int)=>(t.l.length - i).toNat) 0 ⟨I,I,I,I,trivial⟩ rfl ?_ ?_))))))
   ·exact⟨by omega,by omega,λ j hj=>by omega⟩
   ·rintro i hI
    obtain⟨g0,g1,g2⟩:=hI
    refine zac (gS (gM I (gQ (zab zIi I) (gQ (zah 1 tf76 I I I) (gQ (zaV (Tryz.underlying76) I) (gQ (zbw I I) (gN [2,3,4,5,44] I (zap I (λ hc44=>?_) (λ hc44=>?_)))))))))
    ·have hc44:=oT hc44
     refine zaq (zac (zas (zac (gZ 13 (ph_y (zab zIi I) (ph_y (zah 1 tf76 I I I) (ph_y (zaf I) (ph_y (zaE se76 I I (λ _=>rH hl)) (ph_y (zbh zIy I (λ w hw=>zaO (i:=i) (rH hl hw))) (ph_y (zbn tf3 I (λ _=>rH hl) (by omega) (by omega) I) (ph_y (zab zIi I) (ph_y (zah 0 tf76 I I I) (ph_y (zaf I) (ph_y (zaE se76 I I (λ _=>rH hm)) (ph_y (zbh zIy I (λ w hw=>zaO (i:=i) (rH hm hw))) (ph_y (zbn tf3 I (λ _=>rH hm) (by omega) (by omega) I) (ph_y (zcr I I) (gN [2,3,4,5,59] I (zap I (λ hc59=>?_) (λ hc59=>?_))))))))))))))))))))
     ·have hd:¬ (zIh t.l).getD i.toNat default=(zIh o.l).getD i.toNat default:=by rw [←zIu,←zIu];simpa only [nT,dF] using hc59
      refine zac (gZ 14 (ph_y (zab zIi I) (ph_y (zah 1 tf76 I I I) (ph_y (zaf I) (ph_y (zaE se76 I I (λ _=>rH hl)) (ph_y (zbh zIy I (λ w hw=>zaO (i:=i) (rH hl hw))) (ph_y (zbn tf3 I (λ _=>rH hl) (by omega) (by omega) I) (ph_y (zab zIi I) (ph_y (zah 0 tf76 I I I) (ph_y (zaf I) (ph_y (zaE se76 I I (λ _=>rH hm)) (ph_y (zbh zIy I (λ w hw=>zaO (i:=i) (rH hm hw))) (ph_y (zbn tf3 I (λ _=>rH hm) (by omega) (by omega) I) (ph_y (zbw I I) (ph_y (zad I) (gN [2,3,4,5] I (zaw (zay (zaC I (zau I)) ?_))))))))))))))))))
      rw [zJE hq he,zJF (i:=i.toNat) (by rw [zId,zId];exact he) (by rw [zId];omega) (λ j hj=>g2 j (by omega)) hd,←zIu,←zIu]
     ·have hd:(zIh t.l).getD i.toNat default=(zIh o.l).getD i.toNat default:=by rw [←zIu,←zIu];simpa only [nF,dT] using hc59
      refine zaq (zaa (gM I (gQ (zaY I I) (gA I (gN [2,3,4,5] I ?_)))))
      exact za1 _ ⟨I,I,I,I,trivial⟩ rfl ⟨by omega,by omega,λ j hj=>if h:(j:Int)<i then g2 j h else(by rw [show j=i.toNat from by omega];exact hd)⟩ (by omega)
    ·have hc44:=oD hc44
     refine za8 I (gS (gA I (gN [4] I (zaw (zay (zaC I (zau I)) ?_)))))
     rw [zJE hq he,zJx (by rw [zId,zId];exact he) (λ j hj=>g2 j (by rw [zId] at hj;omega))]
theorem zJh (a:yO) (cap:Nat) (S:List ShC) (b:yO) (bcap:Nat) (V:List WlC) (ca:yO) (ccap:Nat) (cs:List ByteArray) (ba:yO) (bcp:Nat) (bs:List Bdr) (x:Anm) (frm:Int) (cla:yO) (clc:Nat) (cl:List Int) (w:World) (hl:yag w a S) (hs:zaP S.length) (hcS:S.length≤cap) (hlw:yah w b V) (hsw:zaP V.length) (hsh:yab S w) (hss:yac S) (hwo:yaa V w) (hsv:yae V) (hcp:yad V) (hkn:yaf V) (hc:yai w ca cs) (hcs:zaP cs.length) (hcap:cs.length≤ccap) (hbd:yaj w ba bs) (hbs:zaP bs.length) (hok:(zym S V cs bs x)=true) (h0:0≤frm) (h1:frm<cs.length) (hcl:Has w (Ints cla cl)) (hcls:zaP cl.length) :
  Calls Tryz.prog 38 #[zzz3 a S cap b V bcap,zzz4 ca cs ccap ba bs bcp,zzz1 x,O frm,C cla cl.length clc] w (zcU (λ z:Option Addr×Nat×List TrkR=>C z.1 z.2.2.length z.2.1) (λ z=>zDo (Best (zyj S V bs x) (mayC cl) cs.length frm (trkL z.2.2)) (SepR [Row z.1 3 z.2.1 95 zIf z.2.2,Go.K.Rows rowT z.2.2])) w):=by
 obtain⟨_,hcs40,hbs80,_,_,hbo⟩:=zzD hok
 have hp:=zBa hok
 have heff:=zI5 hok
 have hcell:=zIr hok
 have hlw_:(zyj S V bs x).length=bs.length:=zz5
 have hrl:(List.replicate cs.length (default:TrkR)).length=cs.length:=List.length_replicate ..
 refine zan (vs:=[_,_,_,_,_]) Tryz.func38 I I (bL I) (gS (zaG I I (za3 (vs:=[_,_]) I I) λ b5=>(zaG I I (za3 (vs:=[_,_]) I I) λ b6=>(zaG I I (za3 (vs:=[_,_,_,_,_]) I I) λ b7=>(gA I (gN [3,4,5,6,7,10] I (gS (gQ (zab zAp I) (gQ (zah 1 tf26 I I I) (gQ (zaV (Tryz.underlying26) I) (zaG I I (zB1 (n:=cs.length) (default:TrkR) af92 I I zIc I (by omega) (by omega)) λ b25=>(gA I (gN [3,4,5,6,7,10,11] I (gS (gM I (gM I (gQ (zaE se92 I I (λ _ hw=>(zam zIc (hw.has (p:=0) I)))) (gQ (zbh zIt I (λ w hw=>zaO (i:=frm) (zam zIc (hw.has (p:=0) I)))) (zfG (x':=({ ((List.replicate cs.length (default:TrkR)).getD frm.toNat default).1 with there:=true },((List.replicate cs.length (default:TrkR)).getD frm.toNat default).2)) 0 zIc tf4 I I (vs:=[_]) I I (by decide) I I (by omega) (by omega) (gN [4,5,6,7,10,11] I ?_))))))))))))))))))))
 refine zae (T':=[(4,_),(5,_),(6,_),(7,_),(10,_),(11,C (some ⟨b25,0,none⟩) (trk0 cs.length frm).length cs.length)]) ⟨I,I,I,I,I,(by show some (Value.slice _ (List.replicate cs.length (default:TrkR)).length _)=some (Value.slice _ (trk0 cs.length frm).length _);rw [zIW,List.length_replicate]),trivial⟩ (za2 (R':=Row (some ⟨b25,0,none⟩) 3 cs.length 95 zIf (trk0 cs.length frm)) 0 I (λ B w hA=>by rw [zJB] at hA;exact hA) (zIL rowT (trk0 cs.length frm) (λ w z hz=>by obtain⟨e1,e2⟩:=zJA hz;show(Row z.2.1 2 z.2.2 160 zyQ (stpL z.1.l)).A _ _;rw [e2,e1];exact zAR) (zac (gS (gA I (gN [4,5,6,7,10,11,12] I (zas ?_)))))))
 refine zbf (X:=Bool×List TrkR) (λ⟨cg,L⟩=>[(4,C cla cl.length clc),(5,Z b5),(6,Z b6),(7,Z b7),(10,C none 0 0),(11,C (some ⟨b25,0,none⟩) L.length cs.length),(12,.bool cg)]) (λ⟨cg,L⟩=>[Go.K.Rows rowT L,Row (some ⟨b25,0,none⟩) 3 cs.length 95 zIf L,Box b7 (zzz2 x) 31,Box b6 (zzz6 ca cs ccap ba bs bcp) 29,Box b5 (zzz5 a S cap b V bcap) 25]) (λ⟨cg,L⟩=>(Imp (zyj S V bs x) (mayC cl) cs.length frm (trkL L)∧L.length=cs.length∧(cg=false→FixN (zyj S V bs x) (mayC cl) (trkL L) bs.length))) (λ⟨cg,L⟩=>(if cg=true then zIj (trkL L)+1 else 0)) (true,(trk0 cs.length frm)) (sB I) I ?_ ?_
 ·exact⟨zJz h0 h1,zIW,λ h=>by cases h⟩
 ·rintro ⟨cg,L⟩ hI
  obtain⟨himp,hln,hfix⟩:=hI
  refine zac (gS (gM I (gN [4,5,6,7,10,11,12,30] I (zap I (λ hc30=>?_) (λ hc30=>?_)))))
  ·refine zaq (zas (gS (gA I (gN [4,5,6,7,10,11,12] I (gS (gA I (gN [4,5,6,7,10,11,12,13] I (zas (zbf (X:=Int×Bool×List TrkR) (λ⟨i,c2,L2⟩=>[(4,C cla cl.length clc),(5,Z b5),(6,Z b6),(7,Z b7),(10,C none 0 0),(11,C (some ⟨b25,0,none⟩) L2.length cs.length),(12,.bool c2),(13,O i)]) (λ⟨i,c2,L2⟩=>[Go.K.Rows rowT L2,Row (some ⟨b25,0,none⟩) 3 cs.length 95 zIf L2,Box b7 (zzz2 x) 31,Box b6 (zzz6 ca cs ccap ba bs bcp) 29,Box b5 (zzz5 a S cap b V bcap) 25]) (λ⟨i,c2,L2⟩=>((0≤i∧i≤bs.length)∧Imp (zyj S V bs x) (mayC cl) cs.length frm (trkL L2)∧L2.length=cs.length∧zIj (trkL L2)+(if c2=true then 1 else 0)≤zIj (trkL L)∧(c2=false→FixN (zyj S V bs x) (mayC cl) (trkL L2) i.toNat))) (λ⟨i,c2,L2⟩=>(bs.length - i).toNat) (0,false,L) (sB I) I ?_ ?_)))))))))
   ·exact⟨⟨by omega,by omega⟩,himp,hln,by simp,λ _=>zJZ⟩
   ·rintro ⟨i,c2,L2⟩ hI
    obtain⟨⟨i0,i1⟩,himp2,hln2,hrk2,hfix2⟩:=hI
    refine zac (gS (gM I (gQ (zab zzL I) (gQ (zah 3 tf27 I I I) (gQ (zaV (Tryz.underlying27) I) (gQ (zbw I I) (gN [4,5,6,7,10,11,12,13,35] I (zap I (λ hc35=>?_) (λ hc35=>?_)))))))))
    ·have hc35:=oT hc35
     have i1:i<bs.length:=hc35
     have hwf:=zJW hok i0 i1
     have hbf:=zzq (hbo i.toNat (by omega))
     refine zaq (zac (zas (zac (gS (gM I (gM I (gQ (zaJ en64 I (λ w hw=>zKb _ _ cl i w (rH hcl hw) (by first|assumption|(unfold zaP;omega)))) (gN [4,5,6,7,10,11,12,13,40] I (zap I (λ hc40=>?_) (λ hc40=>?_))))))))))
     ·refine za8 I (zaa (gM I (gQ (zaY I I) (gA I (gN [4,5,6,7,10,11,12,13] I ?_)))))
      exact za1 (i+1,c2,L2) (sB I) I ⟨⟨by omega,by omega⟩,himp2,hln2,hrk2,λ hf=>zID hok i0 (hfix2 hf) (zJa (by rw [mayC,hwf.2.2.2.2.1,hc40];rfl)) (zJa (by rw [mayC,hwf.2.2.2.2.2,hc40];rfl))⟩ (by simp only [];omega)
     ·have hmay0:(mayC cl) (wayI S V bs x i false)=true:=by rw [mayC,hwf.2.2.2.2.1,hc40];rfl
      have hmay1:(mayC cl) (wayI S V bs x i true)=true:=by rw [mayC,hwf.2.2.2.2.2,hc40];rfl
      refine zaq (gS (gA I (gN [4,5,6,7,10,11,12,13,14] I (zas (zbf (X:=Int×Bool×List TrkR) (λ⟨k,c3,L3⟩=>[(4,C cla cl.length clc),(5,Z b5),(6,Z b6),(7,Z b7),(10,C none 0 0),(11,C (some ⟨b25,0,none⟩) L3.length cs.length),(12,.bool c3),(13,O i),(14,O k)]) (λ⟨k,c3,L3⟩=>[Go.K.Rows rowT L3,Row (some ⟨b25,0,none⟩) 3 cs.length 95 zIf L3,Box b7 (zzz2 x) 31,Box b6 (zzz6 ca cs ccap ba bs bcp) 29,Box b5 (zzz5 a S cap b V bcap) 25]) (λ⟨k,c3,L3⟩=>((0≤k∧k≤2)∧Imp (zyj S V bs x) (mayC cl) cs.length frm (trkL L3)∧L3.length=cs.length∧zIj (trkL L3)+(if c3=true then 1 else 0)≤zIj (trkL L)∧(c3=false→FixN (zyj S V bs x) (mayC cl) (trkL L3) i.toNat∧(1≤k→fixC (zyj S V bs x) (mayC cl) (trkL L3) (wayI S V bs x i false))∧(2≤k→fixC (zyj S V bs x) (mayC cl) (trkL L3) (wayI S V bs x i true))))) (λ⟨k,c3,L3⟩=>(2 - k).toNat) (0,c2,L2) (sB I) I ?_ ?_)))))
      ·exact⟨⟨by omega,by omega⟩,himp2,hln2,hrk2,λ hf=>⟨hfix2 hf,λ h=>absurd h (by decide),λ h=>absurd h (by decide)⟩⟩
      ·rintro ⟨k,c3,L3⟩ hI
       obtain⟨⟨k0,k1⟩,himp3,hln3,hrk3,hfix3⟩:=hI
       refine zac (gS (gM I (gQ (zbw I I) (gN [4,5,6,7,10,11,12,13,14,42] I (zap I (λ hc42=>?_) (λ hc42=>?_))))))
       ·have hc42:=oT hc42
        have hk01:k=0∨k=1:=by omega
        rcases hk01 with hk|hk
        ·refine zae (T':=[(4,_),(5,_),(6,_),(7,_),(10,_),(11,_),(12,_),(13,_),(14,O 0),(42,_)]) ⟨I,I,I,I,I,I,I,I,(by show some (Value.int .i64 k)=_;rw [hk]),I,trivial⟩ ?_
         rw [hk] at hfix3
         have hr:=zC7 hok i0 i1 false
         refine zaq (zac (zas (gS (gQ (zab zzL I) (gQ (zah 3 tf27 I I I) (gM I (gQ (zaE se27 I I (λ _=>rH hbd)) (gQ (zbv (vs:=[_,_,_,_,_,_]) zAU I (λ _=>rH hbd) (by omega) (by omega) I) (zaG I I (zaL zAU (zs:=[_,_,_,_,_,_]) I) λ b15=>(zaA 0 zAU I I (vs:=[_,_,_,_,_,_]) I I I I I (gN [4,5,6,7,10,11,12,13,14,15] I (zac (gZ 6 (ph_y (zab zCa I) (ph_y (zah 0 tf3 I I I) (ph_y (zab zCb I) (ph_y (zah 0 tf3 I I I) (ph_y (zad I) (ph_y (zad I) (gN [4,5,6,7,10,11,12,13,14,16,17] I (zac (gS (gM I (gQ (zbL I I) (gN [4,5,6,7,10,11,12,13,14,16,17,55] I (zd8 I (zaq (gS (gQ (zat 5 tf25 I I (vs:=[_,_]) I I) (gQ (zat 4 tf29 I I (vs:=[_,_]) I I) (gQ (zat 3 tf31 I I (vs:=[_,_,_,_,_]) I I) (gM I (gM I (gQ (zbL I I) (gQ (zaJ en26 I (λ w hw=>zEb _ _ S _ _ V _ _ cs _ _ bs x i false w (rH hl hw) hs hcS (rH hlw hw) hsw (λ z hz=>(rH (hsh z hz) hw)) hss (λ z hz=>(rH (hwo z hz) hw)) hsv hcp hkn (rH hc hw) hcs hcap (rH hbd hw) hbs hok i0 i1)) (gM I (gQ (zaB I I) ?_)))))))))))))))))))))))))))))))))))))
         refine gQ (zaB I I) (gQ (zaB I I) (gA I (gA I (gA I (gN [4,5,6,7,10,11,12,13,14,16,17,18,19,20] I (zac (zac (gZ 10 (ph_y (zaf I) (ph_y (zbR I) (ph_y (zaf I) (zaz I I (λ jj=>by(try rw [jj]);exact zaf I) (zaz I I (λ jj=>by(try rw [jj]);exact zaf I) (zaz I I (λ jj=>by(try rw [jj]);exact zaE se92 I I (λ _ hw=>(zam zIc (hw.has (p:=2) I)))) (zaz I I (λ jj=>by(try rw [jj]);exact zbh zIt I (λ w hw=>zaO (i:=(bs.getD i.toNat default).a) (zam zIc (hw.has (p:=2) I)))) (zaz I I (λ jj=>by(try rw [jj]);exact zbn tf4 I (λ _ hw=>(zam zIc (hw.has (p:=2) I))) (by omega) (by omega) I) (zaz I I (λ jj=>by(try rw [jj]);exact zbR I) (ph_y (zaR I I I) (gN [4,5,6,7,10,11,12,13,14,16,17,18,19,78] I (zap I (λ hc78=>?_) (λ hc78=>?_)))))))))))))))))))))
         ·have hfc:=zIP (may:=(mayC cl)) (L:=L3) hok i0 i1 false (by rw [hwf.1];exact hc78)
          refine za8 I (zaa (gM I (gQ (zaY I I) (gA I (gN [4,5,6,7,10,11,12,13,14] I (zaK 0 I ?_))))))
          exact za1 (1,c3,L3) (sB I) I ⟨⟨by decide,by decide⟩,himp3,hln3,hrk3,λ hf=>⟨(hfix3 hf).1,λ _=>hfc,λ h=>absurd h (by decide)⟩⟩ (by simp only [];omega)
         ·have hsome:(acrB S V x (bs.getD i.toNat default) false ((zaN S V (bs.getD i.toNat default).wall).s.opens.length+1)).some=true∧(L3.getD (bs.getD i.toNat default).a.toNat default).1.there=true:=by simp only [oF,nF] at hc78;exact hc78
          have hway:=(hr.2 hsome.1).2.1
          have heffc:=(hr.2 hsome.1).2.2
          have hus:=zJp (may:=(mayC cl)) hok i0 i1 (back:=false) hsome.1 hmay0
          have hec:1≤(acrB S V x (bs.getD i.toNat default) false ((zaN S V (bs.getD i.toNat default).wall).s.opens.length+1)).eff∧(acrB S V x (bs.getD i.toNat default) false ((zaN S V (bs.getD i.toNat default).wall).s.opens.length+1)).eff≤7001:=by have h:=heff _ hus.1 hus.2.1;rw [heffc] at h;exact h
          have hxl:=zIz hp hbs80 himp3 hcs40.2 (i:=(bs.getD i.toNat default).a.toNat) (by omega)
          rw [zIe] at hxl
          have hyl:=zIz hp hbs80 himp3 hcs40.2 (i:=(bs.getD i.toNat default).b.toNat) (by omega)
          rw [zIe] at hyl
          have hsl:(stpL (L3.getD (bs.getD i.toNat default).a.toNat default).1.l).length=(L3.getD (bs.getD i.toNat default).a.toNat default).1.l.length:=zIA
          have hxx:(extT (L3.getD (bs.getD i.toNat default).a.toNat default).1 (wayI S V bs x i false)).l.length=(L3.getD (bs.getD i.toNat default).a.toNat default).1.l.length+1:=zI7
          refine zbB 160 zyQ 2 (zaq (zac (zCs [_] (ch [(16,Nat),(19,Nat),(12,(Option Addr×Nat)),(17,(Option Addr×Nat))]) 1000 21 [0,0,3,7,15,0,63,0,0,384,896,1920,3968,0,0,24576,57344,130944,262143,0,1048575] [] I (λ _=>mixed) (by kernel_rfl) (zjK _ ⟨inferInstance,inferInstance,inferInstance,inferInstance,trivial⟩) (pY (λ ρ=>zaf I) (pY (λ ρ=>zaf I) (pY (λ ρ=>zaE se92 I I (λ _ hw=>(zam zIc (hw.has (p:=2) (R:=Row (some ⟨b25,0,none⟩) 3 cs.length 95 zIf L3) (by simp only [zeS,tIs,okSt,rcf,zbe];rfl))))) (pY (λ ρ=>zbh zIs I (λ w hw=>zaO (i:=(bs.getD i.toNat default).a) (zam zIc (hw.has (p:=2) (R:=Row (some ⟨b25,0,none⟩) 3 cs.length 95 zIf L3) (by simp only [zeS,tIs,okSt,rcf,zbe];rfl))))) (pY (λ ρ=>zbn tf3 I (λ _ hw=>(zam zIc (hw.has (p:=2) (R:=Row (some ⟨b25,0,none⟩) 3 cs.length 95 zIf L3) (by simp only [zeS,tIs,okSt,rcf,zbe];rfl)))) (by omega) (by omega) I) (pY (λ ρ=>zaf I) (pY (λ ρ=>zaY I I) (pY (λ ρ=>zaf I) (pY (λ ρ=>zaf I) (pY (λ ρ=>zaE se92 I I (λ _ hw=>(zam zIc (hw.has (p:=2) (R:=Row (some ⟨b25,0,none⟩) 3 cs.length 95 zIf L3) (by simp only [zeS,tIs,okSt,rcf,zbe];rfl))))) ?_)))))))))))))
          refine pY (λ ρ=>zbh zIi I (λ w hw=>zaO (i:=(bs.getD i.toNat default).a) (zam zIc (hw.has (p:=2) (R:=Row (some ⟨b25,0,none⟩) 3 cs.length 95 zIf L3) (by simp only [zeS,tIs,okSt,rcf,zbe];rfl))))) (pY (λ ρ=>zbn tf76 I (λ _ hw=>(zam zIc (hw.has (p:=2) (R:=Row (some ⟨b25,0,none⟩) 3 cs.length 95 zIf L3) (by simp only [zeS,tIs,okSt,rcf,zbe];rfl)))) (by omega) (by omega) I) (zFx (R:=λ ρ=>Row none 2 0 160 zyQ []) (λ z:(Option Addr×Nat)=>C z.1 ([]++(stpL (L3.getD ((bs.getD i.toNat default).a).toNat default).1.l)).length z.2) (λ z=>Row z.1 2 z.2 160 zyQ ([]++(stpL (L3.getD ((bs.getD i.toNat default).a).toNat default).1.l))) 1000 I (by kernel_rfl) (by kernel_rfl) (λ _=>by kernel_rfl) (λ ρ=>zBZ (m:=(stpL (L3.getD ((bs.getD i.toNat default).a).toNat default).1.l)) af76 zyJ I I (λ _ hw=>(zam zyJ (zbV (f:=rowT) (hw.has (p:=1) I) (za0 (by omega))))) (by simp only [lN];first|omega|(unfold maxLen;omega)) (by simp only [lN];first|omega|(unfold maxLen;omega))) (pY (λ ρ=>zaf I) (pY (λ ρ=>zaf I) (pY (λ ρ=>zaI I (zIp _ _)) (zFy (λ ρ=>zaD I (zJD _ _) zyJ I) (λ ρ ρ' h=>⟨by rfl,by rfl⟩) ?_))))))
          refine zFx (R:=λ ρ=>Row (ρ 12).1 2 (ρ 12).2 160 zyQ ([]++(stpL (L3.getD ((bs.getD i.toNat default).a).toNat default).1.l))) (λ z:(Option Addr×Nat)=>C z.1 (([]++(stpL (L3.getD ((bs.getD i.toNat default).a).toNat default).1.l))++[(⟨i,((acrB S V x (bs.getD i.toNat default) false ((zaN S V (bs.getD i.toNat default).wall).s.opens.length+1)).way)⟩:Int×Int)]).length z.2) (λ z=>Row z.1 2 z.2 160 zyQ (([]++(stpL (L3.getD ((bs.getD i.toNat default).a).toNat default).1.l))++[(⟨i,((acrB S V x (bs.getD i.toNat default) false ((zaN S V (bs.getD i.toNat default).wall).s.opens.length+1)).way)⟩:Int×Int)])) 1000 I (by kernel_rfl) (by kernel_rfl) (λ _=>by kernel_rfl) (λ ρ=>zBZ (m:=[(⟨i,((acrB S V x (bs.getD i.toNat default) false ((zaN S V (bs.getD i.toNat default).wall).s.opens.length+1)).way)⟩:Int×Int)]) af76 zyJ I I (λ _ hw=>(zam zyJ (hw.has (p:=0) (R:=Row (some ⟨(ρ 16),0,none⟩) 2 1 160 zyQ [(⟨i,((acrB S V x (bs.getD i.toNat default) false ((zaN S V (bs.getD i.toNat default).wall).s.opens.length+1)).way)⟩:Int×Int)]) (by simp only [zeS,tIs,okSt,rcf,zbe];rfl)))) (by simp only [List.nil_append,lC,lN];first|omega|(unfold maxLen;omega)) (by simp only [List.nil_append,lC,lN];first|omega|(unfold maxLen;omega))) ?_
          refine zAr (λ ρ=>zaI I (zIl _ _ _ _ _)) (λ ρ ρ' h=>by(first|rfl|(simp only [h 17 I];done)|(simp only [h 17 I];rfl))) (zFy (λ ρ=>zaL tf95 (zs:=[_,_,_]) I) (λ ρ ρ' h=>⟨by rfl,by rfl⟩) (zIb (R:=λ ρ=>Box (ρ 19) [O 0,C none 0 0,.bool false] 95) (A:=λ ρ=>Box (ρ 19) [O (((L3.getD ((bs.getD i.toNat default).a).toNat default).1.eff)+((acrB S V x (bs.getD i.toNat default) false ((zaN S V (bs.getD i.toNat default).wall).s.opens.length+1)).eff)),.slice (ρ 17).1 (([]++(stpL (L3.getD ((bs.getD i.toNat default).a).toNat default).1.l))++[(⟨i,((acrB S V x (bs.getD i.toNat default) false ((zaN S V (bs.getD i.toNat default).wall).s.opens.length+1)).way)⟩:Int×Int)]).length (ρ 17).2,.bool true] 95) 19 I I (λ _=>rfl) (λ ρ=>zex tf95 I I (vs:=[_,_,_]) I I I I I) (λ ρ ρ' h=>by(first|rfl|(simp only [h 17 I,h 19 I];done)|(simp only [h 17 I,h 19 I];rfl))) ?_))
          refine λ ρ=>zag (zf4 (X:=Nat×Nat×(Option Addr×Nat)×(Option Addr×Nat)) (ρ 16,ρ 19,ρ 12,ρ 17) (λ⟨b95,b21,m91,m96⟩=>[(4,C cla cl.length clc),(5,Z b5),(6,Z b6),(7,Z b7),(10,C none 0 0),(11,C (some ⟨b25,0,none⟩) L3.length cs.length),(12,.bool c3),(13,O i),(14,O 0),(17,O (bs.getD i.toNat default).b),(21,Z b21)]) (λ⟨b95,b21,m91,m96⟩=>[Box b21 [O (((L3.getD ((bs.getD i.toNat default).a).toNat default).1.eff)+((acrB S V x (bs.getD i.toNat default) false ((zaN S V (bs.getD i.toNat default).wall).s.opens.length+1)).eff)),C m96.1 (([]++(stpL (L3.getD ((bs.getD i.toNat default).a).toNat default).1.l))++[(⟨i,((acrB S V x (bs.getD i.toNat default) false ((zaN S V (bs.getD i.toNat default).wall).s.opens.length+1)).way)⟩:Int×Int)]).length m96.2,.bool true] 95,Row (some ⟨b95,0,none⟩) 2 1 160 zyQ [(⟨i,((acrB S V x (bs.getD i.toNat default) false ((zaN S V (bs.getD i.toNat default).wall).s.opens.length+1)).way)⟩:Int×Int)],Row m96.1 2 m96.2 160 zyQ (([]++(stpL (L3.getD ((bs.getD i.toNat default).a).toNat default).1.l))++[(⟨i,((acrB S V x (bs.getD i.toNat default) false ((zaN S V (bs.getD i.toNat default).wall).s.opens.length+1)).way)⟩:Int×Int)]),Box b15 [O (bs.getD i.toNat default).a,O (bs.getD i.toNat default).b,.string (bs.getD i.toNat default).wall,O (bs.getD i.toNat default).gA,O (bs.getD i.toNat default).gB,.bool (bs.getD i.toNat default).shut] 100,Go.K.Rows rowT L3,Row (some ⟨b25,0,none⟩) 3 cs.length 95 zIf L3,Box b7 (zzz2 x) 31,Box b6 (zzz6 ca cs ccap ba bs bcp) 29,Box b5 (zzz5 a S cap b V bcap) 25]) (sB I) I ?_)
          rintro ⟨b95,b21,m91,m96⟩
          have hst:(stpL (extT (L3.getD (bs.getD i.toNat default).a.toNat default).1 (wayI S V bs x i false)).l)=stpL (L3.getD (bs.getD i.toNat default).a.toNat default).1.l++[(i,(acrB S V x (bs.getD i.toNat default) false ((zaN S V (bs.getD i.toNat default).wall).s.opens.length+1)).way)]:=zI8 hwf.2.2.2.2.1 hway
          have hef:(extT (L3.getD (bs.getD i.toNat default).a.toNat default).1 (wayI S V bs x i false)).eff=(L3.getD (bs.getD i.toNat default).a.toNat default).1.eff+(acrB S V x (bs.getD i.toNat default) false ((zaN S V (bs.getD i.toNat default).wall).s.opens.length+1)).eff:=zI6 heffc
          refine za2 (R':=Box b21 [O ((extT (L3.getD (bs.getD i.toNat default).a.toNat default).1 (wayI S V bs x i false)).eff),C m96.1 (stpL (extT (L3.getD (bs.getD i.toNat default).a.toNat default).1 (wayI S V bs x i false)).l).length m96.2,.bool (extT (L3.getD (bs.getD i.toNat default).a.toNat default).1 (wayI S V bs x i false)).there] 95) 0 I (λ B w hA=>by rw [hst,hef];exact hA) (za2 (R':=Row m96.1 2 m96.2 160 zyQ (stpL (extT (L3.getD (bs.getD i.toNat default).a.toNat default).1 (wayI S V bs x i false)).l)) 2 I (λ B w hA=>by rw [hst];exact hA) (zac (gZ 6 (ph_y (zat 0 tf95 I I (vs:=[_,_,_]) I I) (ph_y (zaf I) (ph_y (zaf I) (ph_y (zaE se92 I I (λ _ hw=>(zam zIc (hw.has (p:=5) I)))) (ph_y (zbv (vs:=[_,_,_]) tf95 I (λ _ hw=>(zam zIc (hw.has (p:=5) I))) (by omega) (by omega) I) (ph_y (zaJ en66 I (λ w hw=>zJe (extT (L3.getD (bs.getD i.toNat default).a.toNat default).1 (wayI S V bs x i false)) (L3.getD ((bs.getD i.toNat default).b).toNat default).1 _ _ _ _ w (zam zyJ (hw.has (p:=2) I)) (by omega) (zam zyJ (zbV (f:=rowT) (hw.has (p:=4) I) (za0 (by omega)))) (by omega))) (gN [4,5,6,7,10,11,12,13,14,17,21,103] I (zap I (λ hc103=>?_) (λ hc103=>?_))))))))))))
          ·have h4:=zIX hp hbs80 heff hcell hcs40.2 h0 himp3 hus (by rw [hwf.1];exact hsome.2) (by rw [hwf.1,hwf.2.1];exact hc103) (m96.1,m96.2)
           rw [hwf.1,hwf.2.1] at h4
           have himp4:=h4.1
           have hrk4:=h4.2
           refine gS (gM I (gM I (gQ (zat 0 tf95 I I (vs:=[_,_,_]) I I) (gQ (zaE se92 I I (λ _ hw=>(zam zIc (hw.has (p:=5) I)))) (zpR (x':=(((extT (L3.getD (bs.getD i.toNat default).a.toNat default).1 (wayI S V bs x i false)),m96.1,m96.2):TrkR)) 5 zIc tf95 I I (vs:=[_,_,_]) I I I (by omega) (by omega) (gN [4,5,6,7,10,11,12,13,14] I (zao 2 I (zao 4 I (zbT 2 (za2 (R':=Go.K.Rows rowT (L3.set ((bs.getD i.toNat default).b).toNat (((extT (L3.getD (bs.getD i.toNat default).a.toNat default).1 (wayI S V bs x i false)),m96.1,m96.2):TrkR))) 0 I (λ B w hA=>zIV _ hA) (zae (T':=[(4,_),(5,_),(6,_),(7,_),(10,_),(11,C (some ⟨b25,0,none⟩) (L3.set ((bs.getD i.toNat default).b).toNat (((extT (L3.getD (bs.getD i.toNat default).a.toNat default).1 (wayI S V bs x i false)),m96.1,m96.2):TrkR)).length cs.length),(12,_),(13,_),(14,_)]) ⟨I,I,I,I,I,(by show some (Value.slice _ L3.length _)=some (Value.slice _ (L3.set ((bs.getD i.toNat default).b).toNat (((extT (L3.getD (bs.getD i.toNat default).a.toNat default).1 (wayI S V bs x i false)),m96.1,m96.2):TrkR)).length _);rw [List.length_set]),I,I,I,trivial⟩ ?_)))))))))))
           have hln4:(L3.set ((bs.getD i.toNat default).b).toNat (((extT (L3.getD (bs.getD i.toNat default).a.toNat default).1 (wayI S V bs x i false)),m96.1,m96.2):TrkR)).length=cs.length:=by rw [List.length_set];exact hln3
           refine zaa (gA I (gN [4,5,6,7,10,11,12,13,14] I (zaa (gM I (gQ (zaY I I) (gA I (gN [4,5,6,7,10,11,12,13,14] I (zaK 1 I (zaK 1 I (zaK 1 I ?_))))))))))
           exact za1 (1,true,(L3.set ((bs.getD i.toNat default).b).toNat (((extT (L3.getD (bs.getD i.toNat default).a.toNat default).1 (wayI S V bs x i false)),m96.1,m96.2):TrkR))) (sB I) I ⟨⟨by decide,by decide⟩,himp4,hln4,by rw [if_pos I];omega,λ hf=>by cases hf⟩ (by simp only [];omega)
          ·have hfc:fixC (zyj S V bs x) (mayC cl) (trkL L3) (wayI S V bs x i false):=zIQ (by rw [zIe,zIe,hwf.1,hwf.2.1];exact hc103)
           refine zaq (zaa (gM I (gQ (zaY I I) (gA I (gN [4,5,6,7,10,11,12,13,14] I (zaK 0 I (zaK 0 I (zaK 0 I (zaK 0 I ?_)))))))))
           exact za1 (1,c3,L3) (sB I) I ⟨⟨by decide,by decide⟩,himp3,hln3,hrk3,λ hf=>⟨(hfix3 hf).1,λ _=>hfc,λ h=>absurd h (by decide)⟩⟩ (by simp only [];omega)
        ·refine zae (T':=[(4,_),(5,_),(6,_),(7,_),(10,_),(11,_),(12,_),(13,_),(14,O 1),(42,_)]) ⟨I,I,I,I,I,I,I,I,(by show some (Value.int .i64 k)=_;rw [hk]),I,trivial⟩ ?_
         rw [hk] at hfix3
         have hr:=zC7 hok i0 i1 true
         refine zaq (zac (zas (gS (gQ (zab zzL I) (gQ (zah 3 tf27 I I I) (gM I (gQ (zaE se27 I I (λ _=>rH hbd)) (gQ (zbv (vs:=[_,_,_,_,_,_]) zAU I (λ _=>rH hbd) (by omega) (by omega) I) (zaG I I (zaL zAU (zs:=[_,_,_,_,_,_]) I) λ b15=>(zaA 0 zAU I I (vs:=[_,_,_,_,_,_]) I I I I I (gN [4,5,6,7,10,11,12,13,14,15] I (zac (gZ 6 (ph_y (zab zCa I) (ph_y (zah 0 tf3 I I I) (ph_y (zab zCb I) (ph_y (zah 0 tf3 I I I) (ph_y (zad I) (ph_y (zad I) (gN [4,5,6,7,10,11,12,13,14,16,17] I (zac (gS (gM I (gQ (zbL I I) (gN [4,5,6,7,10,11,12,13,14,16,17,55] I (zdg I (zaa (gM I (gM I (gA I (gA I (gN [4,5,6,7,10,11,12,13,14,16,17] I (gS (gQ (zat 5 tf25 I I (vs:=[_,_]) I I) (gQ (zat 4 tf29 I I (vs:=[_,_]) I I) (gQ (zat 3 tf31 I I (vs:=[_,_,_,_,_]) I I) (gM I ?_)))))))))))))))))))))))))))))))))))))
         refine gM I (gQ (zbL I I) (gQ (zaJ en26 I (λ w hw=>zEb _ _ S _ _ V _ _ cs _ _ bs x i true w (rH hl hw) hs hcS (rH hlw hw) hsw (λ z hz=>(rH (hsh z hz) hw)) hss (λ z hz=>(rH (hwo z hz) hw)) hsv hcp hkn (rH hc hw) hcs hcap (rH hbd hw) hbs hok i0 i1)) (gM I (gQ (zaB I I) (gQ (zaB I I) (gQ (zaB I I) (gA I (gA I (gA I (gN [4,5,6,7,10,11,12,13,14,16,17,18,19,20] I (zac (zac (gZ 10 (ph_y (zaf I) (ph_y (zbR I) (ph_y (zaf I) (zaz I I (λ jj=>by(try rw [jj]);exact zaf I) (zaz I I (λ jj=>by(try rw [jj]);exact zaf I) (zaz I I (λ jj=>by(try rw [jj]);exact zaE se92 I I (λ _ hw=>(zam zIc (hw.has (p:=2) I)))) (zaz I I (λ jj=>by(try rw [jj]);exact zbh zIt I (λ w hw=>zaO (i:=(bs.getD i.toNat default).b) (zam zIc (hw.has (p:=2) I)))) (zaz I I (λ jj=>by(try rw [jj]);exact zbn tf4 I (λ _ hw=>(zam zIc (hw.has (p:=2) I))) (by omega) (by omega) I) (zaz I I (λ jj=>by(try rw [jj]);exact zbR I) (ph_y (zaR I I I) (gN [4,5,6,7,10,11,12,13,14,16,17,18,19,78] I (zap I (λ hc78=>?_) (λ hc78=>?_))))))))))))))))))))))))))
         ·have hfc:=zIP (may:=(mayC cl)) (L:=L3) hok i0 i1 true (by rw [hwf.2.2.1];exact hc78)
          refine za8 I (zaa (gM I (gQ (zaY I I) (gA I (gN [4,5,6,7,10,11,12,13,14] I (zaK 0 I ?_))))))
          exact za1 (2,c3,L3) (sB I) I ⟨⟨by decide,by decide⟩,himp3,hln3,hrk3,λ hf=>⟨(hfix3 hf).1,(λ _=>(hfix3 hf).2.1 (by decide)),λ _=>hfc⟩⟩ (by simp only [];omega)
         ·have hsome:(acrB S V x (bs.getD i.toNat default) true ((zaN S V (bs.getD i.toNat default).wall).s.opens.length+1)).some=true∧(L3.getD (bs.getD i.toNat default).b.toNat default).1.there=true:=by simp only [oF,nF] at hc78;exact hc78
          have hway:=(hr.2 hsome.1).2.1
          have heffc:=(hr.2 hsome.1).2.2
          have hus:=zJp (may:=(mayC cl)) hok i0 i1 (back:=true) hsome.1 hmay1
          have hec:1≤(acrB S V x (bs.getD i.toNat default) true ((zaN S V (bs.getD i.toNat default).wall).s.opens.length+1)).eff∧(acrB S V x (bs.getD i.toNat default) true ((zaN S V (bs.getD i.toNat default).wall).s.opens.length+1)).eff≤7001:=by have h:=heff _ hus.1 hus.2.1;rw [heffc] at h;exact h
          have hxl:=zIz hp hbs80 himp3 hcs40.2 (i:=(bs.getD i.toNat default).b.toNat) (by omega)
          rw [zIe] at hxl
          have hyl:=zIz hp hbs80 himp3 hcs40.2 (i:=(bs.getD i.toNat default).a.toNat) (by omega)
          rw [zIe] at hyl
          have hsl:(stpL (L3.getD (bs.getD i.toNat default).b.toNat default).1.l).length=(L3.getD (bs.getD i.toNat default).b.toNat default).1.l.length:=zIA
          have hxx:(extT (L3.getD (bs.getD i.toNat default).b.toNat default).1 (wayI S V bs x i true)).l.length=(L3.getD (bs.getD i.toNat default).b.toNat default).1.l.length+1:=zI7
          refine zbB 160 zyQ 2 (zaq (zac (zCs [_] (ch [(16,Nat),(19,Nat),(12,(Option Addr×Nat)),(17,(Option Addr×Nat))]) 1000 21 [0,0,3,7,15,0,63,0,0,384,896,1920,3968,0,0,24576,57344,130944,262143,0,1048575] [] I (λ _=>mixed) (by kernel_rfl) (zjK _ ⟨inferInstance,inferInstance,inferInstance,inferInstance,trivial⟩) (pY (λ ρ=>zaf I) (pY (λ ρ=>zaf I) (pY (λ ρ=>zaE se92 I I (λ _ hw=>(zam zIc (hw.has (p:=2) (R:=Row (some ⟨b25,0,none⟩) 3 cs.length 95 zIf L3) (by simp only [zeS,tIs,okSt,rcf,zbe];rfl))))) (pY (λ ρ=>zbh zIs I (λ w hw=>zaO (i:=(bs.getD i.toNat default).b) (zam zIc (hw.has (p:=2) (R:=Row (some ⟨b25,0,none⟩) 3 cs.length 95 zIf L3) (by simp only [zeS,tIs,okSt,rcf,zbe];rfl))))) (pY (λ ρ=>zbn tf3 I (λ _ hw=>(zam zIc (hw.has (p:=2) (R:=Row (some ⟨b25,0,none⟩) 3 cs.length 95 zIf L3) (by simp only [zeS,tIs,okSt,rcf,zbe];rfl)))) (by omega) (by omega) I) (pY (λ ρ=>zaf I) (pY (λ ρ=>zaY I I) (pY (λ ρ=>zaf I) (pY (λ ρ=>zaf I) (pY (λ ρ=>zaE se92 I I (λ _ hw=>(zam zIc (hw.has (p:=2) (R:=Row (some ⟨b25,0,none⟩) 3 cs.length 95 zIf L3) (by simp only [zeS,tIs,okSt,rcf,zbe];rfl))))) ?_)))))))))))))
          refine pY (λ ρ=>zbh zIi I (λ w hw=>zaO (i:=(bs.getD i.toNat default).b) (zam zIc (hw.has (p:=2) (R:=Row (some ⟨b25,0,none⟩) 3 cs.length 95 zIf L3) (by simp only [zeS,tIs,okSt,rcf,zbe];rfl))))) (pY (λ ρ=>zbn tf76 I (λ _ hw=>(zam zIc (hw.has (p:=2) (R:=Row (some ⟨b25,0,none⟩) 3 cs.length 95 zIf L3) (by simp only [zeS,tIs,okSt,rcf,zbe];rfl)))) (by omega) (by omega) I) (zFx (R:=λ ρ=>Row none 2 0 160 zyQ []) (λ z:(Option Addr×Nat)=>C z.1 ([]++(stpL (L3.getD ((bs.getD i.toNat default).b).toNat default).1.l)).length z.2) (λ z=>Row z.1 2 z.2 160 zyQ ([]++(stpL (L3.getD ((bs.getD i.toNat default).b).toNat default).1.l))) 1000 I (by kernel_rfl) (by kernel_rfl) (λ _=>by kernel_rfl) (λ ρ=>zBZ (m:=(stpL (L3.getD ((bs.getD i.toNat default).b).toNat default).1.l)) af76 zyJ I I (λ _ hw=>(zam zyJ (zbV (f:=rowT) (hw.has (p:=1) I) (za0 (by omega))))) (by simp only [lN];first|omega|(unfold maxLen;omega)) (by simp only [lN];first|omega|(unfold maxLen;omega))) (pY (λ ρ=>zaf I) (pY (λ ρ=>zaf I) (pY (λ ρ=>zaI I (zIp _ _)) (zFy (λ ρ=>zaD I (zJD _ _) zyJ I) (λ ρ ρ' h=>⟨by rfl,by rfl⟩) ?_))))))
          refine zFx (R:=λ ρ=>Row (ρ 12).1 2 (ρ 12).2 160 zyQ ([]++(stpL (L3.getD ((bs.getD i.toNat default).b).toNat default).1.l))) (λ z:(Option Addr×Nat)=>C z.1 (([]++(stpL (L3.getD ((bs.getD i.toNat default).b).toNat default).1.l))++[(⟨i,((acrB S V x (bs.getD i.toNat default) true ((zaN S V (bs.getD i.toNat default).wall).s.opens.length+1)).way)⟩:Int×Int)]).length z.2) (λ z=>Row z.1 2 z.2 160 zyQ (([]++(stpL (L3.getD ((bs.getD i.toNat default).b).toNat default).1.l))++[(⟨i,((acrB S V x (bs.getD i.toNat default) true ((zaN S V (bs.getD i.toNat default).wall).s.opens.length+1)).way)⟩:Int×Int)])) 1000 I (by kernel_rfl) (by kernel_rfl) (λ _=>by kernel_rfl) (λ ρ=>zBZ (m:=[(⟨i,((acrB S V x (bs.getD i.toNat default) true ((zaN S V (bs.getD i.toNat default).wall).s.opens.length+1)).way)⟩:Int×Int)]) af76 zyJ I I (λ _ hw=>(zam zyJ (hw.has (p:=0) (R:=Row (some ⟨(ρ 16),0,none⟩) 2 1 160 zyQ [(⟨i,((acrB S V x (bs.getD i.toNat default) true ((zaN S V (bs.getD i.toNat default).wall).s.opens.length+1)).way)⟩:Int×Int)]) (by simp only [zeS,tIs,okSt,rcf,zbe];rfl)))) (by simp only [List.nil_append,lC,lN];first|omega|(unfold maxLen;omega)) (by simp only [List.nil_append,lC,lN];first|omega|(unfold maxLen;omega))) ?_
          refine zAr (λ ρ=>zaI I (zIl _ _ _ _ _)) (λ ρ ρ' h=>by(first|rfl|(simp only [h 17 I];done)|(simp only [h 17 I];rfl))) (zFy (λ ρ=>zaL tf95 (zs:=[_,_,_]) I) (λ ρ ρ' h=>⟨by rfl,by rfl⟩) (zIb (R:=λ ρ=>Box (ρ 19) [O 0,C none 0 0,.bool false] 95) (A:=λ ρ=>Box (ρ 19) [O (((L3.getD ((bs.getD i.toNat default).b).toNat default).1.eff)+((acrB S V x (bs.getD i.toNat default) true ((zaN S V (bs.getD i.toNat default).wall).s.opens.length+1)).eff)),.slice (ρ 17).1 (([]++(stpL (L3.getD ((bs.getD i.toNat default).b).toNat default).1.l))++[(⟨i,((acrB S V x (bs.getD i.toNat default) true ((zaN S V (bs.getD i.toNat default).wall).s.opens.length+1)).way)⟩:Int×Int)]).length (ρ 17).2,.bool true] 95) 19 I I (λ _=>rfl) (λ ρ=>zex tf95 I I (vs:=[_,_,_]) I I I I I) (λ ρ ρ' h=>by(first|rfl|(simp only [h 17 I,h 19 I];done)|(simp only [h 17 I,h 19 I];rfl))) ?_))
          refine λ ρ=>zag (zf4 (X:=Nat×Nat×(Option Addr×Nat)×(Option Addr×Nat)) (ρ 16,ρ 19,ρ 12,ρ 17) (λ⟨b95,b21,m91,m96⟩=>[(4,C cla cl.length clc),(5,Z b5),(6,Z b6),(7,Z b7),(10,C none 0 0),(11,C (some ⟨b25,0,none⟩) L3.length cs.length),(12,.bool c3),(13,O i),(14,O 1),(17,O (bs.getD i.toNat default).a),(21,Z b21)]) (λ⟨b95,b21,m91,m96⟩=>[Box b21 [O (((L3.getD ((bs.getD i.toNat default).b).toNat default).1.eff)+((acrB S V x (bs.getD i.toNat default) true ((zaN S V (bs.getD i.toNat default).wall).s.opens.length+1)).eff)),C m96.1 (([]++(stpL (L3.getD ((bs.getD i.toNat default).b).toNat default).1.l))++[(⟨i,((acrB S V x (bs.getD i.toNat default) true ((zaN S V (bs.getD i.toNat default).wall).s.opens.length+1)).way)⟩:Int×Int)]).length m96.2,.bool true] 95,Row (some ⟨b95,0,none⟩) 2 1 160 zyQ [(⟨i,((acrB S V x (bs.getD i.toNat default) true ((zaN S V (bs.getD i.toNat default).wall).s.opens.length+1)).way)⟩:Int×Int)],Row m96.1 2 m96.2 160 zyQ (([]++(stpL (L3.getD ((bs.getD i.toNat default).b).toNat default).1.l))++[(⟨i,((acrB S V x (bs.getD i.toNat default) true ((zaN S V (bs.getD i.toNat default).wall).s.opens.length+1)).way)⟩:Int×Int)]),Box b15 [O (bs.getD i.toNat default).a,O (bs.getD i.toNat default).b,.string (bs.getD i.toNat default).wall,O (bs.getD i.toNat default).gA,O (bs.getD i.toNat default).gB,.bool (bs.getD i.toNat default).shut] 100,Go.K.Rows rowT L3,Row (some ⟨b25,0,none⟩) 3 cs.length 95 zIf L3,Box b7 (zzz2 x) 31,Box b6 (zzz6 ca cs ccap ba bs bcp) 29,Box b5 (zzz5 a S cap b V bcap) 25]) (sB I) I ?_)
          rintro ⟨b95,b21,m91,m96⟩
          have hst:(stpL (extT (L3.getD (bs.getD i.toNat default).b.toNat default).1 (wayI S V bs x i true)).l)=stpL (L3.getD (bs.getD i.toNat default).b.toNat default).1.l++[(i,(acrB S V x (bs.getD i.toNat default) true ((zaN S V (bs.getD i.toNat default).wall).s.opens.length+1)).way)]:=zI8 hwf.2.2.2.2.2 hway
          have hef:(extT (L3.getD (bs.getD i.toNat default).b.toNat default).1 (wayI S V bs x i true)).eff=(L3.getD (bs.getD i.toNat default).b.toNat default).1.eff+(acrB S V x (bs.getD i.toNat default) true ((zaN S V (bs.getD i.toNat default).wall).s.opens.length+1)).eff:=zI6 heffc
          refine za2 (R':=Box b21 [O ((extT (L3.getD (bs.getD i.toNat default).b.toNat default).1 (wayI S V bs x i true)).eff),C m96.1 (stpL (extT (L3.getD (bs.getD i.toNat default).b.toNat default).1 (wayI S V bs x i true)).l).length m96.2,.bool (extT (L3.getD (bs.getD i.toNat default).b.toNat default).1 (wayI S V bs x i true)).there] 95) 0 I (λ B w hA=>by rw [hst,hef];exact hA) (za2 (R':=Row m96.1 2 m96.2 160 zyQ (stpL (extT (L3.getD (bs.getD i.toNat default).b.toNat default).1 (wayI S V bs x i true)).l)) 2 I (λ B w hA=>by rw [hst];exact hA) (zac (gZ 6 (ph_y (zat 0 tf95 I I (vs:=[_,_,_]) I I) (ph_y (zaf I) (ph_y (zaf I) (ph_y (zaE se92 I I (λ _ hw=>(zam zIc (hw.has (p:=5) I)))) (ph_y (zbv (vs:=[_,_,_]) tf95 I (λ _ hw=>(zam zIc (hw.has (p:=5) I))) (by omega) (by omega) I) (ph_y (zaJ en66 I (λ w hw=>zJe (extT (L3.getD (bs.getD i.toNat default).b.toNat default).1 (wayI S V bs x i true)) (L3.getD ((bs.getD i.toNat default).a).toNat default).1 _ _ _ _ w (zam zyJ (hw.has (p:=2) I)) (by omega) (zam zyJ (zbV (f:=rowT) (hw.has (p:=4) I) (za0 (by omega)))) (by omega))) (gN [4,5,6,7,10,11,12,13,14,17,21,103] I (zap I (λ hc103=>?_) (λ hc103=>?_))))))))))))
          ·have h4:=zIX hp hbs80 heff hcell hcs40.2 h0 himp3 hus (by rw [hwf.2.2.1];exact hsome.2) (by rw [hwf.2.2.1,hwf.2.2.2.1];exact hc103) (m96.1,m96.2)
           rw [hwf.2.2.1,hwf.2.2.2.1] at h4
           have himp4:=h4.1
           have hrk4:=h4.2
           refine gS (gM I (gM I (gQ (zat 0 tf95 I I (vs:=[_,_,_]) I I) (gQ (zaE se92 I I (λ _ hw=>(zam zIc (hw.has (p:=5) I)))) (zpR (x':=(((extT (L3.getD (bs.getD i.toNat default).b.toNat default).1 (wayI S V bs x i true)),m96.1,m96.2):TrkR)) 5 zIc tf95 I I (vs:=[_,_,_]) I I I (by omega) (by omega) (gN [4,5,6,7,10,11,12,13,14] I (zao 2 I (zao 4 I (zbT 2 (za2 (R':=Go.K.Rows rowT (L3.set ((bs.getD i.toNat default).a).toNat (((extT (L3.getD (bs.getD i.toNat default).b.toNat default).1 (wayI S V bs x i true)),m96.1,m96.2):TrkR))) 0 I (λ B w hA=>zIV _ hA) (zae (T':=[(4,_),(5,_),(6,_),(7,_),(10,_),(11,C (some ⟨b25,0,none⟩) (L3.set ((bs.getD i.toNat default).a).toNat (((extT (L3.getD (bs.getD i.toNat default).b.toNat default).1 (wayI S V bs x i true)),m96.1,m96.2):TrkR)).length cs.length),(12,_),(13,_),(14,_)]) ⟨I,I,I,I,I,(by show some (Value.slice _ L3.length _)=some (Value.slice _ (L3.set ((bs.getD i.toNat default).a).toNat (((extT (L3.getD (bs.getD i.toNat default).b.toNat default).1 (wayI S V bs x i true)),m96.1,m96.2):TrkR)).length _);rw [List.length_set]),I,I,I,trivial⟩ ?_)))))))))))
           have hln4:(L3.set ((bs.getD i.toNat default).a).toNat (((extT (L3.getD (bs.getD i.toNat default).b.toNat default).1 (wayI S V bs x i true)),m96.1,m96.2):TrkR)).length=cs.length:=by rw [List.length_set];exact hln3
           refine zaa (gA I (gN [4,5,6,7,10,11,12,13,14] I (zaa (gM I (gQ (zaY I I) (gA I (gN [4,5,6,7,10,11,12,13,14] I (zaK 1 I (zaK 1 I (zaK 1 I ?_))))))))))
           exact za1 (2,true,(L3.set ((bs.getD i.toNat default).a).toNat (((extT (L3.getD (bs.getD i.toNat default).b.toNat default).1 (wayI S V bs x i true)),m96.1,m96.2):TrkR))) (sB I) I ⟨⟨by decide,by decide⟩,himp4,hln4,by rw [if_pos I];omega,λ hf=>by cases hf⟩ (by simp only [];omega)
          ·have hfc:fixC (zyj S V bs x) (mayC cl) (trkL L3) (wayI S V bs x i true):=zIQ (by rw [zIe,zIe,hwf.2.2.1,hwf.2.2.2.1];exact hc103)
           refine zaq (zaa (gM I (gQ (zaY I I) (gA I (gN [4,5,6,7,10,11,12,13,14] I (zaK 0 I (zaK 0 I (zaK 0 I (zaK 0 I ?_)))))))))
           exact za1 (2,c3,L3) (sB I) I ⟨⟨by decide,by decide⟩,himp3,hln3,hrk3,λ hf=>⟨(hfix3 hf).1,(λ _=>(hfix3 hf).2.1 (by decide)),λ _=>hfc⟩⟩ (by simp only [];omega)
       ·have hc42:=oD hc42
        refine za8 I (zaa (gM I (gQ (zaY I I) (gA I (gN [4,5,6,7,10,11,12,13] I ?_)))))
        exact za1 (i+1,c3,L3) (sB I) I ⟨⟨by omega,by omega⟩,himp3,hln3,hrk3,λ hf=>zID hok i0 (hfix3 hf).1 ((hfix3 hf).2.1 (by omega)) ((hfix3 hf).2.2 (by omega))⟩ (by simp only [];omega)
    ·have hc35:=oD hc35
     refine za8 I ?_
     exact za1 (c2,L2) (sB I) I ⟨himp2,hln2,λ hf=>by have h:=hfix2 hf;rwa [show i.toNat=bs.length from by omega] at h⟩ (by simp only [];rw [hc30,if_pos I];exact zKc hrk2)
  ·have hbest:=zI9 himp (by rw [hlw_];exact hfix hc30)
   refine za8 I (gS (gM I (gA I (gN [10] I (zaw (zao 1 I (zbT 2 (zBO (P:=Best (zyj S V bs x) (mayC cl) cs.length frm (trkL L)) hbest ?_))))))))
   exact zbd ((some ⟨b25,0,none⟩),cs.length,L) 0 (zaC I (zau I)) I I
end Go.Proofs.YteepmmghanbllaaGreatDoor
namespace Go.Fld
open Go Go.K Go.Stn Go.Pln
section
variable {S:List ShC} {V:List WlC} {cs:List ByteArray} {bs:List Bdr} {x:Anm} {frm to cell i cur:Int} {l:List (Int×Int)} {pf pen:List Int} {b:Bdr}
theorem zNJ (h:b.a=cur∨(¬ b.a=cur∧b.b=cur)):((!decide (b.a=cur))=false∧b.a=cur)∨((!decide (b.a=cur))=true∧¬ b.a=cur∧b.b=cur):=by
 rcases h with h | ⟨h,h2⟩
 ·exact .inl ⟨by rw [decide_eq_true h];rfl,h⟩
 ·exact .inr ⟨by rw [decide_eq_false h];rfl,h,h2⟩
end
end Go.Fld
namespace Go.Proofs.YteepmmghanbllaaGreatDoor
open Go.K Go.Stn Go.Pln Go.Fld Go.RowKit
theorem zMX:FO Tryz.prog 160 1 1:=fK
theorem en41:En Tryz.prog 41:=eK Tryz.func41
theorem en63:En Tryz.prog 63:=eK Tryz.func63
theorem zNq (a:yO) (cap:Nat) (S:List ShC) (b:yO) (bcap:Nat) (V:List WlC) (ca:yO) (ccap:Nat) (cs:List ByteArray) (ba:yO) (bcp:Nat) (bs:List Bdr) (x:Anm) (frm:Int) (la:yO) (lcap:Nat) (l:List (Int×Int)) (w:World) (hl:yag w a S) (hs:zaP S.length) (hcS:S.length≤cap) (hlw:yah w b V) (hsw:zaP V.length) (hsh:yab S w) (hss:yac S) (hwo:yaa V w) (hsv:yae V) (hcp:yad V) (hkn:yaf V) (hc:yai w ca cs) (hcs:zaP cs.length) (hcap:cs.length≤ccap) (hbd:yaj w ba bs) (hbs:zaP bs.length) (hok:(zym S V cs bs x)=true) (hll:Has w (zaW la 2 zyQ l)) (hls:l.length≤300000) :
  Calls Tryz.prog 41 #[zzz3 a S cap b V bcap,zzz4 ca cs ccap ba bs bcp,zzz1 x,O frm,C la l.length lcap] w (Pure (.tuple #[O (wkT (wkdA S V bs x frm l)).1,O (wkT (wkdA S V bs x frm l)).2.1,.bool (wkT (wkdA S V bs x frm l)).2.2]) w):=by
 refine zan (vs:=[_,_,_,_,_]) Tryz.func41 I I (bL I) (gS (zaG I I (za3 (vs:=[_,_]) I I) λ b5=>(zaG I I (za3 (vs:=[_,_]) I I) λ b6=>(zaG I I (za3 (vs:=[_,_,_,_,_]) I I) λ b7=>(gA I (gA I (gA I (gN [3,4,5,6,7,10,11,12] I (gS (gA I (gN [3,4,5,6,7,10,11,12,13] I (zac (gS (gA I (gN [3,4,5,6,7,10,11,12,13,14] I (zas (zbf (X:=Int×Int×Int) (λ⟨i,cur,eff⟩=>[(3,O cur),(4,C la l.length lcap),(5,Z b5),(6,Z b6),(7,Z b7),(10,O 0),(11,O 0),(12,.bool false),(13,O eff),(14,O i)]) (λ⟨i,cur,eff⟩=>[Box b7 (zzz2 x) 31,Box b6 (zzz6 ca cs ccap ba bs bcp) 29,Box b5 (zzz5 a S cap b V bcap) 25]) (λ⟨i,cur,eff⟩=>(0≤i∧i≤l.length∧wkdN S V bs x frm l i.toNat=some (cur,eff))) (λ⟨i,cur,eff⟩=>(l.length - i).toNat) (0,frm,0) (sB I) I ?_ ?_)))))))))))))))))
 ·exact⟨by omega,by omega,rfl⟩
 ·rintro ⟨i,cur,eff⟩ hI
  obtain⟨g0,g1,g2⟩:=hI
  refine zac (gS (gM I (gM I (gQ (zaV (Tryz.underlying76) I) (gQ (zbw I I) (gN [3,4,5,6,7,10,11,12,13,14,22] I (zap I (λ hc22=>?_) (λ hc22=>?_))))))))
  ·have hc22:=oT hc22
   have hwin:=zMW hok g2
   refine zaq (zac (zas (gS (gM I (gM I (gQ (zaE se76 I I (λ _=>rH hll)) (gQ (zbh zIy I (λ w hw=>zaO (i:=i) (rH hll hw))) (gQ (zbn tf3 I (λ _=>rH hll) (by omega) (by omega) I) (gA I (gN [3,4,5,6,7,10,11,12,13,14,15] I (zih (X:=Unit) (λ _=>[(3,O cur),(4,C la l.length lcap),(5,Z b5),(6,Z b6),(7,Z b7),(10,O 0),(11,O 0),(12,.bool false),(13,O eff),(14,O i),(15,O (l.getD i.toNat default).1)]) (λ _=>[Box b7 (zzz2 x) 31,Box b6 (zzz6 ca cs ccap ba bs bcp) 29,Box b5 (zzz5 a S cap b V bcap) 25]) (λ _=>((0≤(l.getD i.toNat default).1∧(l.getD i.toNat default).1<bs.length)∧((bs.getD (l.getD i.toNat default).1.toNat default).a=cur∨(¬ (bs.getD (l.getD i.toNat default).1.toNat default).a=cur∧(bs.getD (l.getD i.toNat default).1.toNat default).b=cur)))) ?_ ?_)))))))))))
   ·refine gS (gM I (gQ (zbw I I) (gM I (zai I I I I (λ hg32=>?_) (λ hg32=>?_)))))
    ·replace hg32:_=false:=hg32
     try rw [hg32]
     refine gM I ?_
     have hg32:=oD hg32
     refine gT I I I (gQ (zab zzL I) (gT I I I (gQ (zah 1 tf27 I I I) (gT I I I (gQ (zaV (Tryz.underlying27) I) (gT I I I (gQ (zfx I I) (gQ (za5 I I I) (gM I (zai I I I I (λ hg39=>?_) (λ hg39=>?_)))))))))))
     ·replace hg39:_=false:=hg39
      try rw [hg39]
      refine gQ (zab zzL I) ?_
      have hg39:=oD hg39
      have z0:0≤(l.getD i.toNat default).1:=by omega
      have z1:(l.getD i.toNat default).1<bs.length:=by omega
      refine gT I I I (gQ (zah 1 tf27 I I I) (gT I I I (gM I (gT I I I (gQ (zaE se27 I I (λ _=>rH hbd)) (gT I I I (gQ (zbh zCa I (λ w hw=>zaO (i:=(l.getD i.toNat default).1) (rH hbd hw))) (gT I I I (gQ (zbn tf3 I (λ _=>rH hbd) (by omega) (by omega) I) (gT I I I (gM I (gT I I I (gQ (zcr I I) (gT I I I (gM I (zai I I I I (λ hg48=>?_) (λ hg48=>?_)))))))))))))))))
      ·replace hg48:_=true:=hg48
       try rw [hg48]
       refine gQ (zab zzL I) (gT I I I (gQ (zah 1 tf27 I I I) (gT I I I (gM I (gT I I I (gQ (zaE se27 I I (λ _=>rH hbd)) (gT I I I (gQ (zbh zCb I (λ w hw=>zaO (i:=(l.getD i.toNat default).1) (rH hbd hw))) (gT I I I (gQ (zbn tf3 I (λ _=>rH hbd) (by omega) (by omega) I) (gT I I I (gM I (gT I I I (gQ (zcr I I) (gT I I I (gQ (za5 I I I) (gQ (za5 I I I) (gN [3,4,5,6,7,10,11,12,13,14,15,58] I (zap I (λ hc58=>?_) (λ hc58=>?_))))))))))))))))))))
       ·have hno:=zMu g2 (by omega) (zMP (by simpa using hg48) (by simpa using hc58))
        refine gS (gA I (gA I (gA I (gN [3,4,5,6,7,10,11,12,13,14,15] I (zaw (zay (zdh I (zau I) (zau I) (zau I)) ?_))))))
        first|(rw [hno];rfl)|(rw [zMu g2 (by omega) (zM7 (by unfold zBG;(first|rw [decide_eq_false (by have:=oT hg32;omega:¬ 0≤(l.getD i.toNat default).1)]|rw [decide_eq_false (by have:=oT hg39;omega:¬ (l.getD i.toNat default).1<(bs.length:Int))]);simp))];rfl)
       ·refine zaq ?_
        exact zb9 () (sB I) I ⟨⟨z0,z1⟩,by first|exact .inl (by simpa using hg48)|exact .inr ⟨by simpa using hg48,by simpa using hc58⟩⟩
      ·replace hg48:_=false:=hg48
       try rw [hg48]
       refine gF I I I (gF I I I (gF I I I (gF I I I (gF I I I (gF I I I (gF I I I (gT I I I (gQ (za5 I I I) (gQ (za5 I I I) (gN [3,4,5,6,7,10,11,12,13,14,15,58] I (zd8 I (zaq ?_))))))))))))
       exact zb9 () (sB I) I ⟨⟨z0,z1⟩,by first|exact .inl (by simpa using hg48)|exact .inr ⟨by simpa using hg48,by simpa using hc58⟩⟩
     ·replace hg39:_=true:=hg39
      try rw [hg39]
      refine gF I I I (gF I I I (gF I I I (gF I I I (gF I I I (gF I I I (gF I I I (gF I I I (zNe I I I I (zNe I I I I (zNe I I I I (zNe I I I I (zNe I I I I (zNe I I I I (zNe I I I I (zNe I I I I (gF I I I (gQ (za5 I I I) (gN [3,4,5,6,7,10,11,12,13,14,15,58] I (zdg I (gS (gA I (gA I (gA I (gN [3,4,5,6,7,10,11,12,13,14,15] I (zaw (zay (zdh I (zau I) (zau I) (zau I)) ?_))))))))))))))))))))))))))
      first|(rw [hno];rfl)|(rw [zMu g2 (by omega) (zM7 (by unfold zBG;(first|rw [decide_eq_false (by have:=oT hg32;omega:¬ 0≤(l.getD i.toNat default).1)]|rw [decide_eq_false (by have:=oT hg39;omega:¬ (l.getD i.toNat default).1<(bs.length:Int))]);simp))];rfl)
    ·replace hg32:_=true:=hg32
     try rw [hg32]
     refine gF I I I (gF I I I (gF I I I (gF I I I (gQ (za5 I I I) (gM I (gF I I I (gF I I I (gF I I I (gF I I I (gF I I I (gF I I I (gF I I I (gF I I I (gF I I I (zNe I I I I (zNe I I I I (zNe I I I I (zNe I I I I (zNe I I I I (zNe I I I I (zNe I I I I (zNe I I I I (gF I I I (gQ (za5 I I I) (gN [3,4,5,6,7,10,11,12,13,14,15,58] I (zdg I (gS (gA I (gA I (gA I (gN [3,4,5,6,7,10,11,12,13,14,15] I (zaw (zay (zdh I (zau I) (zau I) (zau I)) ?_)))))))))))))))))))))))))))))))))
     first|(rw [hno];rfl)|(rw [zMu g2 (by omega) (zM7 (by unfold zBG;(first|rw [decide_eq_false (by have:=oT hg32;omega:¬ 0≤(l.getD i.toNat default).1)]|rw [decide_eq_false (by have:=oT hg39;omega:¬ (l.getD i.toNat default).1<(bs.length:Int))]);simp))];rfl)
   ·rintro _ hJ
    obtain⟨⟨z0,z1⟩,hJ⟩:=hJ
    have hJ5:=zNJ hJ
    have hz:zBG bs.length (l.getD i.toNat default).1=true:=by unfold zBG;rw [decide_eq_true z0,decide_eq_true z1];rfl
    refine gS (gQ (zab zzL I) (gQ (zah 1 tf27 I I I) (gM I (gQ (zaE se27 I I (λ _=>rH hbd)) (gQ (zbh zCa I (λ w hw=>zaO (i:=(l.getD i.toNat default).1) (rH hbd hw))) (gQ (zbn tf3 I (λ _=>rH hbd) (by omega) (by omega) I) (gM I (gQ (zcr I I) (gA I (gN [3,4,5,6,7,10,11,12,13,14,15,16] I (zac (gZ 16 (ph_y (zat 2 tf25 I I (vs:=[_,_]) I I) (ph_y (zat 1 tf29 I I (vs:=[_,_]) I I) (ph_y (zat 0 tf31 I I (vs:=[_,_,_,_,_]) I I) (ph_y (zaf I) (ph_y (zaf I) (ph_y (zaf I) (ph_y (zaf I) (ph_y (zaE se76 I I (λ _=>rH hll)) (ph_y (zbh zMX I (λ w hw=>zaO (i:=i) (rH hll hw))) (ph_y (zbn tf3 I (λ _=>rH hll) (by omega) (by omega) I) (ph_y (zaJ en53 I (λ w hw=>zFz _ _ S _ _ V _ _ cs _ _ bs x (l.getD i.toNat default).1 (!decide ((bs.getD (l.getD i.toNat default).1.toNat default).a=cur)) (l.getD i.toNat default).2 w (rH hl hw) hs hcS (rH hlw hw) hsw (λ z hz=>(rH (hsh z hz) hw)) hss (λ z hz=>(rH (hwo z hz) hw)) hsv hcp hkn (rH hc hw) hcs hcap (rH hbd hw) hbs hok z0 z1)) (ph_y (zaf I) (ph_y (zaB I I) (ph_y (zaB I I) (ph_y (zad I) (ph_y (zad I) (gN [3,4,5,6,7,10,11,12,13,14,15,16,17,18] I (zac (zac ?_)))))))))))))))))))))))))))))))
    refine zaa (gM I (gQ (zbR I) (gN [3,4,5,6,7,10,11,12,13,14,15,16,17,82] I (zap I (λ hc82=>?_) (λ hc82=>?_)))))
    ·have hm0:(mayB S V x (bs.getD (l.getD i.toNat default).1.toNat default) (!decide ((bs.getD (l.getD i.toNat default).1.toNat default).a=cur)) (l.getD i.toNat default).2).2=false:=by simpa using hc82
     have hno:=zMu g2 (by omega) (zMV hz hJ5 hm0)
     refine gS (gA I (gA I (gA I (gN [3,4,5,6,7,10,11,12,13,14,15,16,17] I (zaw (zay (zdh I (zau I) (zau I) (zau I)) ?_))))))
     first|(rw [hno];rfl)|(rw [zMu g2 (by omega) (zM7 (by unfold zBG;(first|rw [decide_eq_false (by have:=oT hg32;omega:¬ 0≤(l.getD i.toNat default).1)]|rw [decide_eq_false (by have:=oT hg39;omega:¬ (l.getD i.toNat default).1<(bs.length:Int))]);simp))];rfl)
    ·have hm0:(mayB S V x (bs.getD (l.getD i.toNat default).1.toNat default) (!decide ((bs.getD (l.getD i.toNat default).1.toNat default).a=cur)) (l.getD i.toNat default).2).2=true:=by simpa using hc82
     have hnx:=zMR g2 (zM8 hz hJ5 hm0)
     have hmi:=zJS hok z0 z1 (!decide ((bs.getD (l.getD i.toNat default).1.toNat default).a=cur)) (l.getD i.toNat default).2
     refine zaq (gS (gM I (gM I (gQ (zaY I I) (gA I (gN [3,4,5,6,7,10,11,12,13,14,15,16] I (gS (gQ (zab zzL I) (gQ (zah 1 tf27 I I I) (gM I (gQ (zaE se27 I I (λ _=>rH hbd)) (gQ (zbh zCb I (λ w hw=>zaO (i:=(l.getD i.toNat default).1) (rH hbd hw))) (gQ (zbn tf3 I (λ _=>rH hbd) (by omega) (by omega) I) (gA I (gN [3,4,5,6,7,10,11,12,13,14,15,16] I (gS (gM I (gN [3,4,5,6,7,10,11,12,13,14,15,92] I (zap I (λ hc92=>?_) (λ hc92=>?_))))))))))))))))))))
     ·refine zaa (gQ (zab zzL I) (gQ (zah 1 tf27 I I I) (gM I (gQ (zaE se27 I I (λ _=>rH hbd)) (gQ (zbh zCa I (λ w hw=>zaO (i:=(l.getD i.toNat default).1) (rH hbd hw))) (gQ (zbn tf3 I (λ _=>rH hbd) (by omega) (by omega) I) (gA I (gN [3,4,5,6,7,10,11,12,13,14] I (zaa (gM I (gQ (zaY I I) (gA I (gN [3,4,5,6,7,10,11,12,13,14] I ?_)))))))))))))
      exact za1 (i+1,_,_) (sB I) I ⟨by omega,by omega,by rw [show(i+1).toNat=i.toNat+1 from by omega,hnx,endW];first|rw [if_pos hc92]|rw [if_neg (by rw [hc92];exact fT)]⟩ (by simp only [];omega)
     ·refine zaq (zaa (gM I (gQ (zaY I I) (gA I (gN [3,4,5,6,7,10,11,12,13,14] I ?_)))))
      exact za1 (i+1,_,_) (sB I) I ⟨by omega,by omega,by rw [show(i+1).toNat=i.toNat+1 from by omega,hnx,endW];first|rw [if_pos hc92]|rw [if_neg (by rw [hc92];exact fT)]⟩ (by simp only [];omega)
  ·have hc22:=oD hc22
   have hfin:wkdA S V bs x frm l=some (cur,eff):=by rw [←g2,show i.toNat=l.length from by omega];rfl
   refine za8 I (gS (gM I (gM I (gA I (gA I (gA I (gN [10,11,12] I (zaw (zay (zdh I (zau I) (zau I) (zau I)) ?_)))))))))
   rw [hfin];rfl
theorem en31:En Tryz.prog 31:=eK Tryz.func31
theorem zNu (a:yO) (cap:Nat) (l:List (Int×Int)) (w:World) (hl:Has w (zaW a 2 zyQ l)) (hs:l.length≤300000) :
  Calls Tryz.prog 31 #[C a l.length cap] w (zcU (λ z:Option Addr×Nat=>C z.1 l.length z.2) (λ z=>Row z.1 2 z.2 159 zyQ l) w):=by
 refine zan (vs:=[_]) Tryz.func31 I I (bL I) (gS (gA I (gN [0,2] I (gS (gA I (gN [0,2,3] I (zac (gS (gA I (gN [0,2,3,4] I (zas (zbB 159 zyQ 2 (zbf (X:=Int×Option Addr×Nat×List (Int×Int)) (λ⟨i,ra,rc,N⟩=>[(0,C a l.length cap),(2,C none 0 0),(3,C ra N.length rc),(4,O i)]) (λ⟨i,ra,rc,N⟩=>[Row ra 2 rc 159 zyQ N]) (λ⟨i,ra,rc,N⟩=>(0≤i∧i≤l.length∧N=l.take i.toNat)) (λ⟨i,ra,rc,N⟩=>(l.length - i).toNat) (0,none,0,[]) ⟨I,I,I,I,trivial⟩ rfl ?_ ?_)))))))))))))
 ·exact⟨by omega,by omega,rfl⟩
 ·rintro ⟨i,ra,rc,N⟩ hI
  obtain⟨g0,g1,g2⟩:=hI
  have hnl:N.length≤i.toNat:=by rw [g2,List.length_take];omega
  refine zac (gS (gM I (gM I (gQ (zaV (Tryz.underlying76) I) (gQ (zbw I I) (gN [0,2,3,4,8] I (zap I (λ hc8=>?_) (λ hc8=>?_))))))))
  ·have hc8:=oT hc8
   refine zaq (zac (zas (gZ 13 (ph_y (zaf I) (ph_y (zaf I) (ph_y (zaf I) (ph_y (zaE se76 I I (λ _=>rH hl)) (ph_y (zbh zIy I (λ w hw=>zaO (i:=i) (rH hl hw))) (ph_y (zbn tf3 I (λ _=>rH hl) (by omega) (by omega) I) (ph_y (zaf I) (ph_y (zaf I) (ph_y (zaE se76 I I (λ _=>rH hl)) (ph_y (zbh zMX I (λ w hw=>zaO (i:=i) (rH hl hw))) (ph_y (zbn tf3 I (λ _=>rH hl) (by omega) (by omega) I) (ph_y (zaI I (zB4 _ _)) (zmr (zaD I (zG7 _ _) zyJ I) ?_))))))))))))))))
   intro b23
   refine gK [0,2,3,4,11,23] I (zb4 (m:=[(l.getD i.toNat default)]) 1 af78 zyJ I I I I (λ _ hw=>(zam zyJ (hw.has (p:=0) I))) (by first|omega|(simp only [lC,lN];omega)) (by first|(unfold maxLen;omega)|(simp only [lC,lN,maxLen];omega)) λ a24 c24=>(gA I (gN [0,2,3,4] I (zaa (gM I (gQ (zaY I I) (gA I (gN [0,2,3,4] I (zaK 0 I ?_)))))))))
   exact za1 (i+1,_,_,_) ⟨I,I,I,I,trivial⟩ rfl ⟨by omega,by omega,by rw [g2,←zDi g0 hc8]⟩ (by simp only [];omega)
  ·have hc8:=oD hc8
   have hN:N=l:=by rw [g2,List.take_of_length_le (by omega)]
   refine za8 I (gS (gM I (gA I (gN [2] I (zaw (zbd (ra,rc) 0 (zaC I (zau I)) ?_ (by rw [hN];rfl)))))))
   rw [hN]
end Go.Proofs.YteepmmghanbllaaGreatDoor
namespace Go.Fld
open Go Go.K Go.Stn Go.Pln
def frsB:List Int→List (Int×Int)→Bool
 | _,[]=>true
 | u,p :: r=>!hasI u p.1&&frsB (u++[p.1]) r
def clsT (ok:List (Int×Int)→Bool):List (List (Int×Int))→List Int→Bool
 | [],_=>true
 | l :: r,u=>ok l&&(frsB u l&&clsT ok r (u++l.map (·.1)))
def wOk (S:List ShC) (V:List WlC) (bs:List Bdr) (x:Anm) (frm to:Int) (l:List (Int×Int)):Bool:=(wkT (wkdA S V bs x frm l)).2.2&&decide ((wkT (wkdA S V bs x frm l)).1=to)
def bT (n:Nat) (cb:List Int) (i:Nat):Bool:=inZ (cb.getD i default) 0 ((n:Int) - 1)&&(decide (i=0)||decide (cb.getD (i - 1) default<cb.getD i default))
def clsX (S:List ShC) (V:List WlC) (cs:List ByteArray) (bs:List Bdr) (x:Anm) (frm to:Int) (cb:List Int) (WL:List (List (Int×Int))):Bool:=
 decide (prtE S V cs bs x frm to=0)&&(((decide (WL.length=cb.length)&&allI cb.length (bT bs.length cb))&&!(zze (zyj S V bs x) (mayC cb) frm).getD to.toNat false)&&clsT (wOk S V bs x frm to) WL [])
def isCx (S:List ShC) (V:List WlC) (bs:List Bdr) (x:Anm) (frm to:Int) (cb:List Int) (WL:List (List (Int×Int))):Bool:=
 (((risB cb&&decide (WL.length=cb.length))&&allI cb.length λ i=>zBG bs.length (cb.getD i default))&&!(zze (zyj S V bs x) (mayC cb) frm).getD to.toNat false)&&clsT (wOk S V bs x frm to) WL []
section
variable {ok:List (Int×Int)→Bool} {WL:List (List (Int×Int))} {l:List (Int×Int)} {u:List Int}
theorem zOq {i:Int} (h:¬ i<(WL.length:Int)):clsT ok (WL.drop i.toNat) u=true:=by rw [List.drop_eq_nil_of_le (by omega)];rfl
theorem zl1 {α:Type} [Inhabited α] {l:List α} {i:Int} (h0:0≤i) (h:i<(l.length:Int)):l.drop i.toNat=l.getD i.toNat default :: l.drop (i+1).toNat:=by
 rw [List.drop_eq_getElem_cons (by omega),show(i+1).toNat=i.toNat+1 from by omega,gE,eG (by omega)];rfl
theorem zOH {i:Int} (h0:0≤i) (h:i<(WL.length:Int)) (hk:ok (WL.getD i.toNat default)=false):clsT ok (WL.drop i.toNat) u=false:=by
 rw [zl1 h0 h,clsT,hk];rfl
theorem zOr {i:Int} (h0:0≤i) (h:i<(WL.length:Int)) (hk:ok (WL.getD i.toNat default)=true):clsT ok (WL.drop i.toNat) u=(frsB u (WL.getD i.toNat default)&&clsT ok (WL.drop (i+1).toNat) (u++(WL.getD i.toNat default).map (·.1))):=by
 rw [zl1 h0 h,clsT,hk];rfl
theorem zOt {j:Int} (h:¬ j<(l.length:Int)):frsB u (l.drop j.toNat)=true:=by rw [List.drop_eq_nil_of_le (by omega)];rfl
theorem zOK {j:Int} (h0:0≤j) (h:j<(l.length:Int)) (hh:hasI u (l.getD j.toNat default).1=true):frsB u (l.drop j.toNat)=false:=by
 rw [zl1 h0 h,frsB,hh];rfl
theorem zOu {j:Int} (h0:0≤j) (h:j<(l.length:Int)) (hh:hasI u (l.getD j.toNat default).1=false):frsB u (l.drop j.toNat)=frsB (u++[(l.getD j.toNat default).1]) (l.drop (j+1).toNat):=by
 rw [zl1 h0 h,frsB,hh];rfl
theorem zml {j:Int} (h:¬ j<(l.length:Int)):l.take j.toNat=l:=List.take_of_length_le (by omega)
theorem zOv {j:Int} (h0:0≤j) (h:j<(l.length:Int)):u++(l.take j.toNat).map (·.1)++[(l.getD j.toNat default).1]=u++(l.take (j+1).toNat).map (·.1):=by
 rw [←zDi h0 h,List.map_append,List.append_assoc];rfl
end
section
variable {S S2:List ShC} {V V2:List WlC} {cs:List ByteArray} {bs:List Bdr} {x:Anm} {frm to:Int} {cb:List Int} {WL:List (List (Int×Int))} {T:List Trk}
theorem zOd {may:Crg→Bool} (hok:zym S V cs bs x=true) (h0:0≤frm) (h1:frm<cs.length) (hb:Best (zyj S V bs x) may cs.length frm T) (_t0:0≤to) (t1:to<cs.length):(zze (zyj S V bs x) may frm).getD to.toNat false=(T.getD to.toNat default).there:=by
 have hcs:=(zzD hok).2.1
 have e1:=zJr hb (i:=to.toNat) (by omega)
 have e2:=zIF (may:=may) (zFe hok) h0 (show frm<40 by omega) (x:=to.toNat)
 rw [Bool.eq_iff_iff,e1,e2]
theorem zOi (h:¬ prtE S V cs bs x frm to=0):clsX S V cs bs x frm to cb WL=false:=by unfold clsX;rw [decide_eq_false h];rfl
theorem zOI (h:¬ WL.length=cb.length):clsX S V cs bs x frm to cb WL=false:=by unfold clsX;rw [decide_eq_false h];simp
theorem zOS {i:Nat} (hi:i<cb.length) (h:bT bs.length cb i=false):clsX S V cs bs x frm to cb WL=false:=by unfold clsX;rw [zc9 hi h];simp
theorem zOJ (h:(zze (zyj S V bs x) (mayC cb) frm).getD to.toNat false=true):clsX S V cs bs x frm to cb WL=false:=by unfold clsX;rw [h];simp
theorem zOs (h:prtE S V cs bs x frm to=0) (h1:WL.length=cb.length) (h2:∀ i:Nat,i<cb.length→bT bs.length cb i=true) (h3:(zze (zyj S V bs x) (mayC cb) frm).getD to.toNat false=false):clsX S V cs bs x frm to cb WL=clsT (wOk S V bs x frm to) WL []:=by
 unfold clsX;rw [decide_eq_true h,decide_eq_true h1,zdN h2,h3];rfl
theorem ic_1 (h:((!risB cb)||!decide (WL.length=cb.length))=true):isCx S V bs x frm to cb WL=false:=by
 unfold isCx
 cases h1:risB cb <;> cases h2:decide (WL.length=cb.length) <;> rw [h1,h2] at h <;> first|rfl|cases h
theorem ic_2 {i:Nat} (hi:i<cb.length) (h:zBG bs.length (cb.getD i default)=false):isCx S V bs x frm to cb WL=false:=by unfold isCx;rw [zc9 hi h];simp
theorem ic_3 (h:(zze (zyj S V bs x) (mayC cb) frm).getD to.toNat false=true):isCx S V bs x frm to cb WL=false:=by unfold isCx;rw [h];simp
theorem zOL (h:((!risB cb)||!decide (WL.length=cb.length))=false) (h2:∀ i:Nat,i<cb.length→zBG bs.length (cb.getD i default)=true) (h3:(zze (zyj S V bs x) (mayC cb) frm).getD to.toNat false=false):isCx S V bs x frm to cb WL=clsT (wOk S V bs x frm to) WL []:=by
 unfold isCx
 rw [zdN h2,h3]
 cases h1:risB cb <;> cases h2:decide (WL.length=cb.length) <;> rw [h1,h2] at h <;> first|rfl|cases h
theorem zOC:allI cb.length (bT bs.length cb)=(risB cb&&allI cb.length λ i=>zBG bs.length (cb.getD i default)):=by
 rw [Bool.eq_iff_iff,aT,zdf,zdf,zNh]
 have e:∀ z:Int,inZ z 0 ((bs.length:Int) - 1)=zBG bs.length z:=λ z=>by
  unfold zBG inZ
  congr 1
  exact decide_eq_decide.2 (by omega)
 constructor
 ·intro h
  refine⟨λ i h1 h2=>?_,λ i hi=>?_⟩
  ·have:=h i h2
   unfold bT at this
   rw [aT,Bool.or_eq_true] at this
   rcases this.2 with g|g
   ·have:=oT g;omega
   ·exact oT g
  ·have:=h i hi
   unfold bT at this
   rw [aT,e] at this
   exact this.1
 ·rintro ⟨h1,h2⟩ i hi
  unfold bT
  rw [e,h2 i hi,Bool.true_and,Bool.or_eq_true]
  by_cases h0:i=0
  ·exact .inl (decide_eq_true h0)
  ·exact .inr (decide_eq_true (h1 i (by omega) hi))
theorem zOm (h:prtE S V cs bs x frm to=0):clsX S V cs bs x frm to cb WL=isCx S V bs x frm to cb WL:=by
 unfold clsX isCx
 rw [decide_eq_true h,zOC,Bool.true_and]
 congr 2
 cases risB cb <;> cases decide (WL.length=cb.length) <;> simp
section
variable (h:S2.map (·.s)=S.map (·.s)) (h2:V2.map (·.s)=V.map (·.s))
include h h2
theorem zOg:clsX S2 V2 cs bs x frm to cb WL=clsX S V cs bs x frm to cb WL:=by
 have e:wOk S2 V2 bs x frm to=wOk S V bs x frm to:=funext λ l=>by unfold wOk;rw [zNm h h2]
 unfold clsX;rw [zN8 h h2,zCu h h2,e]
theorem zOw:clsX S2 V2 cs bs x frm to cb WL=((((zym S V cs bs x&&zBG cs.length frm)&&zBG cs.length to)&&!decide (frm=to))&&isCx S V bs x frm to cb WL):=by
 rw [zOg h h2]
 cases hok:zym S V cs bs x with
 | false=>
  rw [zOi ?_]
  ·rfl
  ·intro hz
   unfold prtE at hz
   rw [zFG (by rw [hok];exact fT)] at hz
   cases hz
 | true=>
  have hin:[frm,to].any (outC cs.length) = !(zBG cs.length frm&&zBG cs.length to):=by
   simp only [List.any_cons,List.any_nil,Bool.or_false,zIN]
   cases zBG cs.length frm <;> cases zBG cs.length to <;> rfl
  cases hc:(zBG cs.length frm&&zBG cs.length to) with
  | false=>
   rw [hc] at hin
   rw [zOi ?_,Bool.true_and,hc]
   ·rfl
   ·intro hz
    unfold prtE at hz
    rw [zDt hok hin] at hz
    cases hz
  | true=>
   rw [hc] at hin
   have ha:=zFF hok hin
   rw [Bool.true_and,hc,Bool.true_and]
   by_cases e:frm=to
   ·rw [decide_eq_true e,zOi (by unfold prtE;rw [if_pos ha,if_pos e];decide)];rfl
   ·rw [decide_eq_false e,zOm (by unfold prtE;rw [if_pos ha,if_neg e])];rfl
end
end
end Go.Fld
namespace Go.K
open Go
def Two (R S:Res):Res where
 A B w:=∃ C D,(∀ k,C k→B k)∧(∀ k,D k→B k)∧R.A C w∧S.A D w
 loc B w w' h hA:=by
  obtain⟨C,D,hC,hD,a,b⟩:=hA
  exact⟨C,D,hC,hD,R.loc C w w' (λ k hk=>h k (hC k hk)) a,S.loc D w w' (λ k hk=>h k (hD k hk)) b⟩
theorem ztZ {w:World} {R S:Res} (h:Has w (Two R S)):Has w R:=by
 obtain⟨B,hB,C,D,hC,hD,a,b⟩:=h
 exact⟨C,λ k hk=>hB k (hC k hk),a⟩
theorem zt0 {w:World} {R S:Res} (h:Has w (Two R S)):Has w S:=by
 obtain⟨B,hB,C,D,hC,hD,a,b⟩:=h
 exact⟨D,λ k hk=>hB k (hD k hk),b⟩
end Go.K
namespace Go.Proofs.YteepmmghanbllaaGreatDoor
open Go.K Go.Stn Go.Pln Go.Fld Go.RowKit
theorem tf78:TF Tryz.prog 78 false 1 (C none 0 0):=tK
theorem se60:SE Tryz.prog 60 78 1:=⟨Tryz.underlying60,by kernel_rfl⟩
theorem zOP:MZ Tryz.prog 156 3 4 1 false (.bool false):=⟨Tryz.underlying156,Tryz.underlying3,⟨by kernel_rfl,by kernel_rfl⟩⟩
theorem en59:En Tryz.prog 59:=eK Tryz.func59
theorem en61:En Tryz.prog 61:=eK Tryz.func61
theorem en62:En Tryz.prog 62:=eK Tryz.func62
theorem zOz {w:World} {R S:Res} (h:Has w R) (h2:Has w S):Has w (Two R S):=by
 obtain⟨C,hC,a⟩:=h
 obtain⟨D,hD,b⟩:=h2
 exact⟨λ k=>C k∨D k,λ k hk=>hk.elim (hC k) (hD k),C,D,λ _ h=>.inl h,λ _ h=>.inr h,a,b⟩
abbrev mkK (u:List Int):List (Int×Value):=u.map λ z=>(z,.bool true)
theorem zON (u:List Int) (n:Int):(zget (mkK u) n).getD (.bool false)=.bool (hasI u n):=by
 induction u with
 | nil=>rfl
 | cons z r ih=>
  show(if n=z then some (Value.bool true) else zget (mkK r) n).getD (.bool false)=.bool (decide (n=z)||hasI r n)
  by_cases h:n=z
  ·rw [if_pos h,decide_eq_true h];rfl
  ·rw [if_neg h,decide_eq_false h,Bool.false_or];exact ih
theorem zOO {u:List Int} {n:Int} (h:hasI u n=false):zput (mkK u) n (.bool true)=mkK (u++[n]):=by
 induction u with
 | nil=>rfl
 | cons z r ih=>
  have h':(decide (n=z)||hasI r n)=false:=h
  rw [oF] at h'
  show(if n=z then(n,Value.bool true) :: mkK r else(z,.bool true) :: zput (mkK r) n (.bool true))=(z,.bool true) :: mkK (r++[n])
  rw [if_neg (oD h'.1),ih h'.2]
theorem zOQ {WK:List WkR} {i:Nat}:(WK.map (·.1)).getD i default=(WK.getD i default).1:=by
 rw [gE,gE,List.getElem?_map]
 cases WK[i]? <;> rfl
theorem zOp {S:List ShC} {V:List WlC} {bs:List Bdr} {x:Anm} {frm to:Int} {l:List (Int×Int)}:((!(wkT (wkdA S V bs x frm l)).2.2)||(!decide ((wkT (wkdA S V bs x frm l)).1=to))) = !wOk S V bs x frm to l:=by
 unfold wOk;rw [Bool.not_and]
theorem zOF {n:Nat} {cb:List Int} {i:Int} (h0:0≤i):((!inZ (cb.getD i.toNat default) 0 ((n:Int) - 1))||(decide (0<i)&&decide (cb.getD i.toNat default≤cb.getD (i - 1).toNat default))) = !bT n cb i.toNat:=by
 unfold bT
 rw [Bool.not_and,Bool.not_or,←decide_not,←decide_not]
 congr 2
 ·exact decide_eq_decide.2 (by omega)
 ·rw [show i.toNat - 1=(i - 1).toNat from by omega];exact decide_eq_decide.2 (by omega)
theorem zOj (cba:yO) (cbc:Nat) (cb:List Int) (bx:Nat) (c:Crg) (w:World) (hbx:Has w (Box bx [C cba cb.length cbc] 45)) (hcb:Has w (Ints cba cb)) (hcbs:cb.length≤300000) :
  Calls Tryz.prog 61 #[.agg #[O c.frm,O c.to,O c.brd,O c.way,O c.eff],Z bx] w (Pure (.bool (mayC cb c)) w):=by
 refine zan (vs:=[_,_]) Tryz.func61 I I (bL I) (gS (zaG I I (za3 (vs:=[_,_,_,_,_]) I I) λ b2=>(gA I (gN [1,2,3] I (gS (gQ (zbW tf45 I (λ _ hw=>zaQ (rH hbx hw) I)) (gQ (zab zAd I) (gQ (zah 0 tf3 I I I) (gQ (zaJ en59 I (λ w hw=>zKI _ _ cb c.brd w (rH hcb hw) (by first|assumption|(unfold zaP;omega)))) (gQ (zbR I) (gA I (gN [3] I (zaw (zay (zaC I (zau I)) ?_))))))))))))))
 rfl
abbrev yar (WK:List WkR) (w:World):=∀ z∈WK,Has w (zaW z.2.1 2 zyQ z.1)
theorem zOa (a:yO) (cap:Nat) (S:List ShC) (b:yO) (bcap:Nat) (V:List WlC) (ca:yO) (ccap:Nat) (cs:List ByteArray) (ba:yO) (bcp:Nat) (bs:List Bdr) (x:Anm) (frm to:Int) (cba:yO) (cbc:Nat) (cb:List Int) (ka:yO) (kc:Nat) (WK:List WkR) (w:World) (hl:yag w a S) (hs:zaP S.length) (hcS:S.length≤cap) (hlw:yah w b V) (hsw:zaP V.length) (hsh:yab S w) (hss:yac S) (hwo:yaa V w) (hsv:yae V) (hcp:yad V) (hkn:yaf V) (hc:yai w ca cs) (hcs:zaP cs.length) (hcap:cs.length≤ccap) (hbd:yaj w ba bs) (hbs:zaP bs.length) (hcb:Has w (Ints cba cb)) (hcbs:cb.length≤300000) (hwk:Has w (zaW ka 1 zBI WK)) (hws:yar WK w) (hwl:∀ z∈WK,z.1.length≤300000) (hpr:prtE S V cs bs x frm to=0) :
  Calls Tryz.prog 28 #[zzz3 a S cap b V bcap,zzz4 ca cs ccap ba bs bcp,zzz1 x,O frm,O to,C cba cb.length cbc,C ka WK.length kc] w (Pure (.bool (clsX S V cs bs x frm to cb (WK.map (·.1)))) w):=by
 obtain⟨hat,hft⟩:=zHm hpr
 obtain⟨hok,hin,hcs40,hbs80⟩:=zDr hat
 obtain⟨f0,f1⟩:=zCw hin frm (by simp)
 obtain⟨t0,t1⟩:=zCw hin to (by simp)
 have hml:(WK.map (·.1)).length=WK.length:=lM ..
 refine zan (vs:=[_,_,_,_,_,_,_]) Tryz.func28 I I (bL I) (gS (zaG I I (za3 (vs:=[_,_]) I I) λ b7=>(zaG I I (za3 (vs:=[_,_]) I I) λ b8=>(zaG I I (za3 (vs:=[_,_,_,_,_]) I I) λ b9=>(zaG I I (za3 (vs:=[_]) I I) λ b12=>(gA I (gN [3,4,6,7,8,9,12,14] I (gS (gQ (zat 3 tf37 I I (vs:=[_,_]) I I) (gQ (zat 2 tf40 I I (vs:=[_,_]) I I) (gQ (zat 1 tf41 I I (vs:=[_,_,_,_,_]) I I) (gM I (gM I (zaG I I (zbm en54 I (λ w hw=>zD8 _ _ S _ _ V _ _ cs _ _ bs x frm to w (rH hl hw) hs hcS (rH hlw hw) hsw (λ z hz=>(rH (hsh z hz) hw)) hss (λ z hz=>(rH (hwo z hz) hw)) hsv hcp hkn (rH hc hw) hcs hcap (rH hbd hw) hbs hat hft)) λ p33=>(gM I (gQ (zaB I I) (gQ (zaB I I) (gA I (gA I (gN [3,4,6,7,8,9,12,14,15,16] I ?_))))))))))))))))))))
 obtain⟨lb,⟨wa,wc⟩,⟨fa,fc⟩,F⟩:=p33
 refine zz4 λ hF=>zbP ?_
 have hF:F.map (·.2)=(zzS S V bs x):=hF
 refine zac (gS (gM I (gQ (zcr I I) (gM I (gT I I I (gM I (gT I I I (gQ (zaV (Tryz.underlying60) I) (gT I I I (gQ (zah 4 tf45 I I I) (gT I I I (gQ (zaV (Tryz.underlying45) I) (gT I I I (gQ (zcr I I) (gQ (za5 I I I) (gN [3,4,6,7,8,9,12,14,15,44] I (zap I (λ hc44=>?_) (λ hc44=>?_))))))))))))))))))
 ·have hno:=zOI (S:=S) (V:=V) (cs:=cs) (bs:=bs) (x:=x) (frm:=frm) (to:=to) (cb:=cb) (WL:=(WK.map (·.1))) (by rw [hml];have h:=hc44;simp at h;omega)
  refine gS (gA I (gN [3,4,6,7,8,9,12,14,15] I (zaw (zay (zaC I (zau I)) ?_))))
  first|rw [hno]|rw [hyes,hno]
 ·have hlen0:WK.length=cb.length:=by have h:=hc44;simp at h;omega
  refine zaq (zac (gS (gQ (zah 4 tf45 I I I) (gQ (zaV (Tryz.underlying45) I) (gM I (gN [3,4,6,7,8,9,12,14,15,45,46,47] I (zas (zbf (X:=Int) (λ(i:Int)=>[(3,O frm),(4,O to),(6,C ka WK.length kc),(7,Z b7),(8,Z b8),(9,Z b9),(12,Z b12),(14,.bool false),(15,Z lb),(45,C cba cb.length cbc),(46,O (cb.length:Int)),(47,O i)]) (λ(i:Int)=>[Box lb [C ca cs.length ccap,C ba bs.length bcp,C wa (zyj S V bs x).length wc,C fa (F.map (·.1)).length fc] 128,Row wa 10 wc 148 zyw (zyj S V bs x),Row fa 1 fc 124 zy6 (F.map (·.1)),Go.K.Rows rowM F,Box b12 [C cba cb.length cbc] 45,Box b9 (zzz2 x) 41,Box b8 (zzz6 ca cs ccap ba bs bcp) 40,Box b7 (zzz5 a S cap b V bcap) 37]) (λ(i:Int)=>(0≤i∧i≤cb.length∧∀ j:Nat,(j:Int)<i→bT bs.length cb j=true)) (λ(i:Int)=>(cb.length - i).toNat) 0 (sB I) I ?_ ?_))))))))
  ·exact⟨by omega,by omega,λ j hj=>by omega⟩
  ·rintro i hI
   obtain⟨g0,g1,g2⟩:=hI
   refine gS (gQ (zbw I I) (gN [3,4,6,7,8,9,12,14,15,45,46,47,48] I (zac (zap I (λ hc48=>?_) (λ hc48=>?_)))))
   ·have hc48:=oT hc48
    refine zaq (zac (zas (gS (gM I (gQ (zaE se45 I I (λ _=>rH hcb)) (gQ (zcE tf3 I (λ _=>rH hcb) (by omega) (by omega) I) (gA I (gA I (gN [3,4,6,7,8,9,12,14,15,17,18,45,46,47] I (zac (gZ 20 (ph_y (zaf I) (ph_y (zab zz1 I) (ph_y (zah 6 tf38 I I I) (ph_y (zaV (Tryz.underlying38) I) (ph_y (zfV I I) (ph_y (zaJ en58 I (λ w hw=>zyR _ _ _ w)) (ph_y (zbR I) (ph_y (zaf I) (zaz I I (λ hgd=>by(try rw [hgd]);have hgd2:=hgd;(try simp only [nT] at hgd2);exact(zaf I)) (zaz I I (λ hgd=>by(try rw [hgd]);have hgd2:=hgd;(try simp only [nT] at hgd2);exact(zc6 I I)) (zaz I I (λ hgd=>by(try rw [hgd]);have hgd2:=hgd;(try simp only [nT] at hgd2);exact(zaf I)) (zdr I I (λ hgd=>by(try rw [hgd]);have hgd2:=hgd;(try simp only [aT,nT,dT] at hgd2);exact(zaf I)) (zdr I I (λ hgd=>by(try rw [hgd]);have hgd2:=hgd;(try simp only [aT,nT,dT] at hgd2);exact(zah 4 tf45 I I I)) (zdr I I (λ hgd=>by(try rw [hgd]);have hgd2:=hgd;(try simp only [aT,nT,dT] at hgd2);exact(zaf I)) ?_)))))))))))))))))))))))))
    refine zdr I I (λ hgd=>by(try rw [hgd]);have hgd2:=hgd;(try simp only [aT,nT,dT] at hgd2);exact(zfV I I)) (zdr I I (λ hgd=>by(try rw [hgd]);have hgd2:=hgd;(try simp only [aT,nT,dT] at hgd2);exact(zaE se45 I I (λ _=>rH hcb))) (zdr I I (λ hgd=>by(try rw [hgd]);have hgd2:=hgd;(try simp only [aT,nT,dT] at hgd2);exact(zcE tf3 I (λ _=>rH hcb) (by omega) (by omega) I)) (zdr I I (λ hgd=>by(try rw [hgd]);have hgd2:=hgd;(try simp only [aT,nT,dT] at hgd2);exact(zeT I I)) (zaz I I (λ hgd=>by(try rw [hgd]);have hgd2:=hgd;(try simp only [nT] at hgd2);exact(zaX I I I)) (ph_y (zaR I I I) (gN [3,4,6,7,8,9,12,14,15,45,46,47,71] I (zap I (λ hc71=>?_) (λ hc71=>?_))))))))
    ·rw [zOF g0] at hc71
     have hno:=zOS (S:=S) (V:=V) (cs:=cs) (x:=x) (frm:=frm) (to:=to) (cb:=cb) (WL:=(WK.map (·.1))) (i:=i.toNat) (by omega) (by simpa using hc71)
     refine gS (gA I (gN [3,4,6,7,8,9,12,14,15,45,46,47] I (zaw (zay (zaC I (zau I)) ?_))))
     first|rw [hno]|rw [hyes,hno]
    ·rw [zOF g0] at hc71
     have hbt:bT bs.length cb i.toNat=true:=by simpa using hc71
     refine zaq (zaa (gQ (zaY I I) (gM I (gN [3,4,6,7,8,9,12,14,15,45,46,47] I ?_))))
     exact za1 (i+1) (sB I) I ⟨by omega,by omega,λ j hj=>if h:(j:Int)<i then g2 j h else(by rw [show j=i.toNat from by omega];exact hbt)⟩ (by omega)
   ·have hc48:=oD hc48
    have hbts:∀ j:Nat,j<cb.length→bT bs.length cb j=true:=λ j hj=>g2 j (by omega)
    refine za8 I (zac (gS (gM I (gM I (gQ (zbO («as»:=[]) (bs:=[_]) I I) (gQ (zaJ en47 I (λ w hw=>zE8 ca ccap cs ba bcp bs lb wa fa wc fc (zyj S V bs x) F (mayC cb) 61 [Z b12] (Two (Box b12 [C cba cb.length cbc] 45) (Ints cba cb)) frm w f0 (by omega) (hw.has (p:=0) I) (zam zyl (hw.has (p:=1) I)) (zOz (hw.has (p:=4) I) (rH hcb hw)) (by rw [zz5];unfold zaP;omega) (zFe hok) en61 (λ c w' h=>zOj cba cbc cb b12 c w' (ztZ h) (zt0 h) hcbs))) (gM I (gQ (zEv zAW tf4 I I zy3 (by omega) (by omega)) (gN [3,4,6,7,9,14,15,78] I (zap I (λ hc78=>?_) (λ hc78=>?_)))))))))))
    ·have hno:=zOJ (cs:=cs) (WL:=(WK.map (·.1))) hc78
     refine gS (gA I (gN [3,4,6,7,9,14,15] I (zaw (zay (zaC I (zau I)) ?_))))
     first|rw [hno]|rw [hyes,hno]
    ·have hyes:=zOs hpr (by rw [hml];exact hlen0) hbts hc78
     refine zaq (gS (zaG I I (zCB) λ b79=>(gA I (gN [3,4,6,7,9,14,15,19] I (za2 (R':=MapZ b79 (mkK [])) 0 I (λ B w hA=>hA) (zac (gS (gM I (gQ (zaV (Tryz.underlying60) I) (gM I (gN [3,4,7,9,14,15,19,80,81,82] I (zas (zbf (X:=Int×List Int) (λ⟨i,u⟩=>[(3,O frm),(4,O to),(7,Z b7),(9,Z b9),(14,.bool false),(15,Z lb),(19,.map (some b79)),(80,C ka WK.length kc),(81,O (WK.length:Int)),(82,O i)]) (λ⟨i,u⟩=>[MapZ b79 (mkK u),Box lb [C ca cs.length ccap,C ba bs.length bcp,C wa (zyj S V bs x).length wc,C fa (F.map (·.1)).length fc] 128,Row wa 10 wc 148 zyw (zyj S V bs x),Row fa 1 fc 124 zy6 (F.map (·.1)),Go.K.Rows rowM F,Box b12 [C cba cb.length cbc] 45,Box b9 (zzz2 x) 41,Box b8 (zzz6 ca cs ccap ba bs bcp) 40,Box b7 (zzz5 a S cap b V bcap) 37]) (λ⟨i,u⟩=>(0≤i∧i≤WK.length∧clsT (wOk S V bs x frm to) (WK.map (·.1)) []=clsT (wOk S V bs x frm to) ((WK.map (·.1)).drop i.toNat) u)) (λ⟨i,u⟩=>(WK.length - i).toNat) (0,[]) (sB I) I ?_ ?_)))))))))))))
     ·exact⟨by omega,by omega,rfl⟩
     ·rintro ⟨i,u⟩ hI
      obtain⟨n0,n1,n2⟩:=hI
      refine gS (gQ (zbw I I) (gN [3,4,7,9,14,15,19,80,81,82,83] I (zac (zap I (λ hc83=>?_) (λ hc83=>?_)))))
      ·have hc83:=oT hc83
       have hwlen:(WK.getD i.toNat default).1.length≤300000:=hwl _ (za0 (by omega))
       have hwa:(WK.map (·.1)).getD i.toNat default=(WK.getD i.toNat default).1:=zOQ
       refine zaq (zac (zas (gS (gQ (zaE se60 I I (λ _=>rH hwk)) (gQ (zcE tf78 I (λ _=>rH hwk) (by omega) (by omega) I) (gA I (gN [3,4,7,9,14,15,19,21,80,81,82] I (zac (gS (gM I (gQ (zat 8 tf37 I I (vs:=[_,_]) I I) (gQ (zat 6 tf41 I I (vs:=[_,_,_,_,_]) I I) (gM I (gM I (gQ (zaJ en62 I (λ w hw=>zMQ _ _ S _ _ V _ _ cs _ _ bs x lb wa fa wc fc (zyj S V bs x) F frm _ _ (WK.getD i.toNat default).1 w (rH hl hw) hs hcS (rH hlw hw) hsw (λ z hz=>(rH (hsh z hz) hw)) hss (λ z hz=>(rH (hwo z hz) hw)) hsv hcp hkn (rH hc hw) hcs hcap (rH hbd hw) hbs (hw.has (p:=1) I) hok (Rd.has (Has.rd (hws _ (za0 (by omega)))) hw) hwlen)) (gM I (gQ (zaB I I) (gQ (zaB I I) (gQ (zaB I I) (gA I (gA I (gA I (gN [3,4,7,9,14,15,19,21,22,24,80,81,82] I (zac (gZ 7 (ph_y (zaf I) (ph_y (zbR I) (ph_y (zaf I) (zaz I I (λ jj=>by(try rw [jj]);exact zaf I) (zaz I I (λ jj=>by(try rw [jj]);exact zaf I) (zaz I I (λ jj=>by(try rw [jj]);exact zcr I I) (ph_y (zaR I I I) (gN [3,4,7,9,14,15,19,21,80,81,82,102] I (zap I (λ hc102=>?_) (λ hc102=>?_)))))))))))))))))))))))))))))))))))
       ·rw [zOp] at hc102
        have hno:=n2.trans (zOH n0 (by rw [hml];exact hc83) (by rw [hwa];simpa using hc102))
        refine gS (gA I (gN [3,4,7,9,14,15,19,21,80,81,82] I (zaw (zay (zaC I (zau I)) ?_))))
        first|rw [hno]|rw [hyes,hno]
       ·rw [zOp] at hc102
        have hstep:=n2.trans (zOr n0 (by rw [hml];exact hc83) (by rw [hwa];simpa using hc102))
        rw [hwa] at hstep
        refine zaq (gS (gM I (gQ (zaV (Tryz.underlying78) I) (gM I (gN [3,4,7,9,14,15,19,80,81,82,103,104,105] I (zas ?_))))))
        refine zbf (X:=Int×List Int) (λ⟨j,v⟩=>[(3,O frm),(4,O to),(7,Z b7),(9,Z b9),(14,.bool false),(15,Z lb),(19,.map (some b79)),(80,C ka WK.length kc),(81,O (WK.length:Int)),(82,O i),(103,.slice (WK.getD i.toNat default).2.1 (WK.getD i.toNat default).1.length (WK.getD i.toNat default).2.2),(104,O ((WK.getD i.toNat default).1.length:Int)),(105,O j)]) (λ⟨j,v⟩=>[MapZ b79 (mkK v),Box lb [C ca cs.length ccap,C ba bs.length bcp,C wa (zyj S V bs x).length wc,C fa (F.map (·.1)).length fc] 128,Row wa 10 wc 148 zyw (zyj S V bs x),Row fa 1 fc 124 zy6 (F.map (·.1)),Go.K.Rows rowM F,Box b12 [C cba cb.length cbc] 45,Box b9 (zzz2 x) 41,Box b8 (zzz6 ca cs ccap ba bs bcp) 40,Box b7 (zzz5 a S cap b V bcap) 37]) (λ⟨j,v⟩=>(0≤j∧j≤(WK.getD i.toNat default).1.length∧v=u++((WK.getD i.toNat default).1.take j.toNat).map (·.1)∧frsB u (WK.getD i.toNat default).1=frsB v ((WK.getD i.toNat default).1.drop j.toNat))) (λ⟨j,v⟩=>((WK.getD i.toNat default).1.length - j).toNat) (0,u) (sB I) I ?_ ?_
        ·exact⟨by omega,by omega,by simp,rfl⟩
        ·rintro ⟨j,v⟩ hI
         obtain⟨k0,k1,k2,k3⟩:=hI
         refine gS (gQ (zbw I I) (gN [3,4,7,9,14,15,19,80,81,82,103,104,105,106] I (zac (zap I (λ hc106=>?_) (λ hc106=>?_)))))
         ·have hc106:=oT hc106
          refine zaq (zac (zas (gS (gQ (zaE se78 I I (λ _ hw=>(Rd.has (Has.rd (hws _ (za0 (by omega)))) hw)) (by omega) (by omega)) (gQ (zbv (vs:=[_,_]) zM9 I (λ _ hw=>(Rd.has (Has.rd (hws _ (za0 (by omega)))) hw)) (by omega) (by omega) I) (zaG I I (zaL zM9 (zs:=[_,_]) I) λ b26=>(zaA 0 zM9 I I (vs:=[_,_]) I I I I I (gN [3,4,7,9,14,15,19,26,80,81,82,103,104,105] I (zac (gS (gM I (gQ (zab zMA I) (gQ (zah 0 tf3 I I I) (gQ (zyY (v:=.bool (hasI v ((WK.getD i.toNat default).1.getD j.toNat default).1)) (zAV zOP I I (λ _ hw=>hw.has (p:=1) I)) (zON _ _)) (gN [3,4,7,9,14,15,19,26,80,81,82,103,104,105,112] I (zap I (λ hc112=>?_) (λ hc112=>?_)))))))))))))))))
          ·have hno:clsT (wOk S V bs x frm to) (WK.map (·.1)) []=false:=hstep.trans (by rw [k3,zOK k0 hc106 hc112,Bool.false_and])
           refine gS (gA I (gN [3,4,7,9,14,15,19,26,80,81,82,103,104,105] I (zaw (zay (zaC I (zau I)) ?_))))
           first|rw [hno]|rw [hyes,hno]
          ·have hnb:hasI v ((WK.getD i.toNat default).1.getD j.toNat default).1=false:=by simpa using hc112
           refine zaq (zaa (gM I (gQ (zab zMA I) (gQ (zah 0 tf3 I I I) (zA8 1 zOP I I I I (gN [3,4,7,9,14,15,19,80,81,82,103,104,105] I (za2 (R':=MapZ b79 (mkK (v++[((WK.getD i.toNat default).1.getD j.toNat default).1]))) 1 I (λ B w hA=>by rw [zOO hnb] at hA;exact hA) (zaa (gQ (zaY I I) (gM I (gN [3,4,7,9,14,15,19,80,81,82,103,104,105] I (zaK 0 I ?_))))))))))))
           exact za1 (j+1,v++[((WK.getD i.toNat default).1.getD j.toNat default).1]) (sB I) I ⟨by omega,by omega,by rw [k2];exact zOv k0 hc106,k3.trans (zOu k0 hc106 hnb)⟩ (by simp only [];omega)
         ·have hc106:=oD hc106
          have hfr:frsB u (WK.getD i.toNat default).1=true:=k3.trans (zOt hc106)
          have hv:v=u++(WK.getD i.toNat default).1.map (·.1):=by rw [k2,zml hc106]
          refine za8 I (zaa (gQ (zaY I I) (gM I (gN [3,4,7,9,14,15,19,80,81,82] I ?_))))
          exact za1 (i+1,v) (sB I) I ⟨by omega,by omega,by rw [hstep,hfr,hv];rfl⟩ (by simp only [];omega)
      ·have hc83:=oD hc83
       have hend:=n2.trans (zOq (by rw [hml];exact hc83))
       refine za8 I (gS (gA I (gN [14] I (zaw (zay (zaC I (zau I)) ?_)))))
       rw [hyes,hend]
theorem zN9 (a:yO) (cap:Nat) (S:List ShC) (b:yO) (bcap:Nat) (V:List WlC) (ca:yO) (ccap:Nat) (cs:List ByteArray) (ba:yO) (bcp:Nat) (bs:List Bdr) (x:Anm) (frm to:Int) (cba:yO) (cbc:Nat) (cb:List Int) (ka:yO) (kc:Nat) (WK:List WkR) (w:World) (hl:yag w a S) (hs:zaP S.length) (hcS:S.length≤cap) (hlw:yah w b V) (hsw:zaP V.length) (hsh:yab S w) (hss:yac S) (hwo:yaa V w) (hsv:yae V) (hcp:yad V) (hkn:yaf V) (hc:yai w ca cs) (hcs:zaP cs.length) (hcap:cs.length≤ccap) (hbd:yaj w ba bs) (hbs:zaP bs.length) (_hcb:Has w (Ints cba cb)) (_hcbs:cb.length≤300000) (_hwk:Has w (zaW ka 1 zBI WK)) (_hws:yar WK w) (_hwl:∀ z∈WK,z.1.length≤300000) (hpr:¬ prtE S V cs bs x frm to=0) :
  Calls Tryz.prog 28 #[zzz3 a S cap b V bcap,zzz4 ca cs ccap ba bs bcp,zzz1 x,O frm,O to,C cba cb.length cbc,C ka WK.length kc] w (Pure (.bool (clsX S V cs bs x frm to cb (WK.map (·.1)))) w):=by
 refine zan (vs:=[_,_,_,_,_,_,_]) Tryz.func28 I I (bL I) (gS (zaG I I (za3 (vs:=[_,_]) I I) λ b7=>(zaG I I (za3 (vs:=[_,_]) I I) λ b8=>(zaG I I (za3 (vs:=[_,_,_,_,_]) I I) λ b9=>(zaG I I (za3 (vs:=[_]) I I) λ b12=>(gA I (gN [3,4,6,7,8,9,12,14] I (gS (gQ (zat 3 tf37 I I (vs:=[_,_]) I I) (gQ (zat 2 tf40 I I (vs:=[_,_]) I I) (gQ (zat 1 tf41 I I (vs:=[_,_,_,_,_]) I I) (gM I (gM I (gQ (zaJ en54 I (λ w hw=>zD7 _ _ S _ _ V _ _ cs _ _ bs x frm to w (rH hl hw) hs hcS (rH hlw hw) hsw (λ z hz=>(rH (hsh z hz) hw)) hss (λ z hz=>(rH (hwo z hz) hw)) hsv hcp hkn (rH hc hw) hcs hcap (rH hbd hw) hbs hpr)) (gM I (gQ (zaB I I) (gQ (zaB I I) (gA I (gA I (gN [3,4,6,7,8,9,12,14,15,16] I (zac (gS (gM I (gQ (zbQ (zcr I I) (by simpa using hpr)) (gM I (gF I I I (gF I I I (gF I I I (gF I I I (gF I I I (gQ (za5 I I I) (gN [3,4,6,7,8,9,12,14,15,44] I (zdg I (gS (gA I (gN [3,4,6,7,8,9,12,14,15] I ?_))))))))))))))))))))))))))))))))))))
 refine zaw (zay (zaC I (zau I)) ?_)
 rw [zOi hpr]
theorem zN6 (a:yO) (cap:Nat) (S:List ShC) (b:yO) (bcap:Nat) (V:List WlC) (ca:yO) (ccap:Nat) (cs:List ByteArray) (ba:yO) (bcp:Nat) (bs:List Bdr) (x:Anm) (frm to:Int) (cba:yO) (cbc:Nat) (cb:List Int) (ka:yO) (kc:Nat) (WK:List WkR) (w:World) (hl:yag w a S) (hs:zaP S.length) (hcS:S.length≤cap) (hlw:yah w b V) (hsw:zaP V.length) (hsh:yab S w) (hss:yac S) (hwo:yaa V w) (hsv:yae V) (hcp:yad V) (hkn:yaf V) (hc:yai w ca cs) (hcs:zaP cs.length) (hcap:cs.length≤ccap) (hbd:yaj w ba bs) (hbs:zaP bs.length) (hcb:Has w (Ints cba cb)) (hcbs:cb.length≤300000) (hwk:Has w (zaW ka 1 zBI WK)) (hws:yar WK w) (hwl:∀ z∈WK,z.1.length≤300000):Calls Tryz.prog 28 #[zzz3 a S cap b V bcap,zzz4 ca cs ccap ba bs bcp,zzz1 x,O frm,O to,C cba cb.length cbc,C ka WK.length kc] w (Pure (.bool (clsX S V cs bs x frm to cb (WK.map (·.1)))) w):=by
 by_cases hpr:prtE S V cs bs x frm to=0
 ·exact zOa a cap S b bcap V ca ccap cs ba bcp bs x frm to cba cbc cb ka kc WK w hl hs hcS hlw hsw hsh hss hwo hsv hcp hkn hc hcs hcap hbd hbs hcb hcbs hwk hws hwl hpr
 ·exact zN9 a cap S b bcap V ca ccap cs ba bcp bs x frm to cba cbc cb ka kc WK w hl hs hcS hlw hsw hsh hss hwo hsv hcp hkn hc hcs hcap hbd hbs hcb hcbs hwk hws hwl hpr
end Go.Proofs.YteepmmghanbllaaGreatDoor