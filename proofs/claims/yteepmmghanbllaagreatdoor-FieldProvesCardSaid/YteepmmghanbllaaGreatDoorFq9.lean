/- What the proof of the root text leans on, part 9: the layer, plain facts and walks. No statement of the seat is proved in this text. -/
import Derived.Test.YteepmmghanbllaaGreatDoorFq8
set_option maxRecDepth 100000
set_option maxHeartbeats 32000000
namespace Go.Proofs.YteepmmghanbllaaGreatDoor
open Go.K Go.Stn Go.Pln Go.Fld Go.RowKit
theorem zM9:TF Tryz.prog 159 true 2 (.agg #[O 0,O 0]):=tK
theorem zL3:FO Tryz.prog 128 0 0:=fK
theorem zMA:FO Tryz.prog 159 0 0:=fK
theorem zMw:FO Tryz.prog 159 1 1:=fK
theorem se78:SE Tryz.prog 78 159 2:=⟨Tryz.underlying78,by kernel_rfl⟩
theorem zMQ (a:yO) (cap:Nat) (S:List ShC) (b:yO) (bcap:Nat) (V:List WlC) (ca:yO) (ccap:Nat) (cs:List ByteArray) (ba:yO) (bcp:Nat) (bs:List Bdr) (x:Anm) (lb:Nat) (wa fa:yO) (wc fc:Nat) (W:List (Crg×Crg)) (F:List (Nat×List (Bool×Bool))) (frm:Int) (la:yO) (lcap:Nat) (l:List (Int×Int)) (w:World) (hl:yag w a S) (hs:zaP S.length) (hcS:S.length≤cap) (hlw:yah w b V) (hsw:zaP V.length) (hsh:yab S w) (hss:yac S) (hwo:yaa V w) (hsv:yae V) (hcp:yad V) (hkn:yaf V) (_hc:yai w ca cs) (_hcs:zaP cs.length) (_hcap:cs.length≤ccap) (hbd:yaj w ba bs) (hbs:zaP bs.length) (hlb:Has w (Box lb [C ca cs.length ccap,C ba bs.length bcp,C wa W.length wc,C fa (F.map (·.1)).length fc] 128)) (hok:(zym S V cs bs x)=true) (hll:Has w (zaW la 2 zyQ l)) (hls:l.length≤300000) :
  Calls Tryz.prog 62 #[U lb,zzz3 a S cap b V bcap,zzz1 x,O frm,C la l.length lcap] w (Pure (.tuple #[O (wkT (wkdA S V bs x frm l)).1,O (wkT (wkdA S V bs x frm l)).2.1,.bool (wkT (wkdA S V bs x frm l)).2.2]) w):=by
 obtain⟨_,_,hbn,_,_,hbo⟩:=zzD hok
 refine zan (vs:=[_,_,_,_,_]) Tryz.func62 I I (bL I) (gS (zaG I I (za3 (vs:=[_,_]) I I) λ b6=>(zaG I I (za3 (vs:=[_,_,_,_,_]) I I) λ b7=>(gA I (gA I (gA I (gN [0,3,4,6,7,10,11,12] I (zac (gS (gM I (gQ (zaV (Tryz.underlying78) I) (gM I (gN [0,3,6,7,10,11,12,23,24,25] I (zas (zbf (X:=Int×Int×Int) (λ⟨i,cur,eff⟩=>[(0,U lb),(3,O cur),(6,U b6),(7,U b7),(10,O 0),(11,O eff),(12,.bool false),(23,C la l.length lcap),(24,O (l.length:Int)),(25,O i)]) (λ⟨i,cur,eff⟩=>[Box b7 (zzz2 x) 41,Box b6 (zzz5 a S cap b V bcap) 37]) (λ⟨i,cur,eff⟩=>(0≤i∧i≤l.length∧wkdN S V bs x frm l i.toNat=some (cur,eff))) (λ⟨i,cur,eff⟩=>(l.length - i).toNat) (0,frm,0) (sB I) I ?_ ?_)))))))))))))))
 ·exact⟨by omega,by omega,rfl⟩
 ·rintro ⟨i,cur,eff⟩ hI
  obtain⟨g0,g1,g2⟩:=hI
  refine gS (gQ (zbw I I) (gN [0,3,6,7,10,11,12,23,24,25,26] I (zac (zap I (λ hc26=>?_) (λ hc26=>?_)))))
  ·have hc26:=oT hc26
   have hwin:=zMW hok g2
   refine zaq (zac (zas (gS (gQ (zaE se78 I I (λ _=>rH hll)) (gQ (zbv (vs:=[_,_]) zM9 I (λ _=>rH hll) (by omega) (by omega) I) (zaG I I (zaL zM9 (zs:=[_,_]) I) λ b14=>(zaA 0 zM9 I I (vs:=[_,_]) I I I I I (gN [0,3,6,7,10,11,12,14,23,24,25] I (zac (zac (gZ 11 (ph_y (zab zMA I) (ph_y (zah 0 tf3 I I I) (ph_y (zaf I) (ph_y (zbx I) (ph_y (zab zL3 I) (ph_y (zab zz1 I) (ph_y (zbW tf38 I (λ _ hw=>zaQ (rH hlb hw) I)) (ph_y (zaV (Tryz.underlying38) I) (ph_y (zfV I I) (ph_y (zaJ en58 I (λ w hw=>zyR _ _ _ w)) (ph_y (zbR I) (gN [0,3,6,7,10,11,12,14,23,24,25,39] I (zap I (λ hc39=>?_) (λ hc39=>?_)))))))))))))))))))))))))
   ·have hno:=zMu g2 (by omega) (zM7 (by rw [zCF] at hc39;simpa using hc39))
    refine gS (gA I (gA I (gA I (gN [0,3,6,7,10,11,12,14,23,24,25] I (zaw (zay (zdh I (zau I) (zau I) (zau I)) ?_))))))
    rw [hno];rfl
   ·have hz:zBG bs.length (l.getD i.toNat default).1=true:=by rw [zCF] at hc39;simpa using hc39
    have hzz:0≤(l.getD i.toNat default).1∧(l.getD i.toNat default).1<bs.length:=by have h:=hz;unfold zBG at h;simpa only [aT,dT] using h
    obtain⟨z0,z1⟩:=hzz
    have hbrd:=hbo (l.getD i.toNat default).1.toNat (by omega)
    obtain⟨hG1,hG2⟩:=zBh hbrd
    obtain⟨hsvw,hsss⟩:=zxT (n:=(bs.getD (l.getD i.toNat default).1.toNat default).wall) hsv hss
    have hon:=hG1.wf.num
    refine zaq (zac (gZ 10 (ph_y (zaf I) (ph_y (zbx I) (ph_y (zab zL3 I) (ph_y (zab zz1 I) (ph_y (zbW tf38 I (λ _ hw=>zaQ (rH hlb hw) I)) (ph_y (zab zMA I) (ph_y (zah 0 tf3 I I I) (ph_y (zaE se38 I I (λ _=>rH hbd)) (ph_y (zbv (vs:=[_,_,_,_,_,_]) tf64 I (λ _=>rH hbd) (by omega) (by omega) I) (zmr (zaL tf64 (zs:=[_,_,_,_,_,_]) I) ?_))))))))))))
    intro b15
    refine gK [0,3,6,7,10,11,12,14,15,23,24,25,48] I (zaA 0 tf64 I I (vs:=[_,_,_,_,_,_]) I I I I I (gN [0,3,6,7,10,11,12,14,15,23,24,25] I (gS (gQ (zat 3 tf37 I I (vs:=[_,_]) I I) (gQ (zab zFs I) (gQ (zah 0 tf9 I I I) (zaG I I (zbm en50 I (λ w hw=>zyh _ _ S _ _ V (bs.getD (l.getD i.toNat default).1.toNat default).wall w (rH hl hw) hs hcS (rH hlw hw) hsw (λ z hz=>(rH (hsh z hz) hw)) hss (λ z hz=>(rH (hwo z hz) hw)) hsv hcp hkn)) λ p53=>zbP (gM I (gQ (zaB I I) (gQ (zaB I I) (gQ (zaB I I) (zaG I I (zaL zyz (zs:=[_,_,_,_]) I) λ b16=>(zaG I I (zaL zyq (zs:=[_,_,_,_,_,_,_,_,_,_,_,_,_,_,_,_,_,_,_,_]) I) λ b17=>(zaA 1 zyz I I (vs:=[_,_,_,_]) I I I I I (zbz 0 zyq I I (vs:=[_,_,_,_,_,_,_,_,_,_,_,_,_,_,_,_,_,_,_,_]) I I I I I (gA I (gN [0,3,6,7,10,11,12,14,15,16,17,23,24,25] I (gS (gQ (zat 1 zyz I I (vs:=[_,_,_,_]) I I) (gQ (zat 0 zyq I I (vs:=[_,_,_,_,_,_,_,_,_,_,_,_,_,_,_,_,_,_,_,_]) I I) (gQ (zab zFt I) (gQ (zah 4 tf4 I I I) ?_))))))))))))))))))))))
    refine gQ (zab zDU I) (gQ (zah 4 tf3 I I I) (gQ (zab zDV I) (gQ (zah 4 tf3 I I I) (gQ (zaI I (zyt _ _ _ _ _ _ _ _ _ _ _ _ _ _ _ _ _ _ _ _ _ _ _ _ _ _ _ _ _ _ _)) (zaG I I (zaL zAl (zs:=[_,_,_,_,_,_,_,_,_,_,_,_,_,_,_,_,_,_,_,_,_,_,_,_,_,_,_]) I) λ b19=>(zbz 0 zAl I I (vs:=[_,_,_,_,_,_,_,_,_,_,_,_,_,_,_,_,_,_,_,_,_,_,_,_,_,_,_]) I I I I I (gN [0,3,6,7,10,11,12,14,15,16,19,23,24,25] I (gS (gQ (zab zCS I) (gQ (zah 5 tf3 I I I) (gA I (gN [0,3,6,7,10,11,12,14,15,16,19,20,23,24,25] I ?_))))))))))))
    refine zih (X:=Bool) (λ bk=>[(0,U lb),(3,O cur),(6,U b6),(7,U b7),(10,O 0),(11,O eff),(12,.bool false),(14,U b14),(16,U b16),(19,U b19),(20,O (endW (bs.getD (l.getD i.toNat default).1.toNat default) bk)),(23,C la l.length lcap),(24,O (l.length:Int)),(25,O i)]) (λ bk=>[Box b19 (lV ((zaN S V (bs.getD (l.getD i.toNat default).1.toNat default).wall).s) p53.1.1 p53.1.2 ((zar S V (bs.getD (l.getD i.toNat default).1.toNat default).wall).s) p53.2.1 p53.2.2 ((bs.getD ((l.getD i.toNat default).1).toNat default).shut) (gOf (bs.getD (l.getD i.toNat default).1.toNat default) bk) (hOf (bs.getD (l.getD i.toNat default).1.toNat default) bk)) 179,Box b17 (sV ((zar S V (bs.getD (l.getD i.toNat default).1.toNat default).wall).s) p53.2.1 p53.2.2) 118,Box b16 (wV ((zaN S V (bs.getD (l.getD i.toNat default).1.toNat default).wall).s) p53.1.1 p53.1.2) 116,Row p53.1.1 5 p53.1.2 122 zba (zaN S V (bs.getD (l.getD i.toNat default).1.toNat default).wall).s.opens,Row p53.2.1 1 p53.2.2 3 Z (zar S V (bs.getD (l.getD i.toNat default).1.toNat default).wall).s.heights,Box b15 [O (bs.getD ((l.getD i.toNat default).1).toNat default).a,O (bs.getD ((l.getD i.toNat default).1).toNat default).b,.string (bs.getD ((l.getD i.toNat default).1).toNat default).wall,O (bs.getD ((l.getD i.toNat default).1).toNat default).gA,O (bs.getD ((l.getD i.toNat default).1).toNat default).gB,.bool (bs.getD ((l.getD i.toNat default).1).toNat default).shut] 64,Box b14 [O (l.getD i.toNat default).1,O (l.getD i.toNat default).2] 159,Box b7 (zzz2 x) 41,Box b6 (zzz5 a S cap b V bcap) 37]) (λ bk=>((bk=false∧(bs.getD (l.getD i.toNat default).1.toNat default).a=cur)∨(bk=true∧¬ (bs.getD (l.getD i.toNat default).1.toNat default).a=cur∧(bs.getD (l.getD i.toNat default).1.toNat default).b=cur))) ?_ ?_
    ·refine gS (gM I (gN [0,3,6,7,10,11,12,14,15,16,19,20,23,24,25,68] I (zas (gS (gQ (zab zBK I) (gQ (zah 5 tf3 I I I) (gQ (zbL I I) (gA I (gN [0,3,6,7,10,11,12,14,15,16,19,20,23,24,25,68,69] I (zap I (λ hc69=>?_) (λ hc69=>?_)))))))))))
     ·have hc69:=oT hc69
      refine zaq ?_
      exact zb9 false (sB I) I (by first|exact .inl ⟨rfl,hc69.symm⟩|exact .inr ⟨rfl,hn69,hc73.symm⟩)
     ·have hc69:=oD hc69
      have hn69:¬ (bs.getD (l.getD i.toNat default).1.toNat default).a=cur:=λ h=>hc69 h.symm
      refine gS (gQ (zab zCS I) (gQ (zah 5 tf3 I I I) (gQ (zbL I I) (gA I (gN [0,3,6,7,10,11,12,14,15,16,19,20,23,24,25,73] I (zap I (λ hc73=>?_) (λ hc73=>?_)))))))
      ·have hc73:=oT hc73
       refine zCs [_] (ch []) 1000 11 [0,1,0,4,0,16,3,67,207,463,1023] [] I (λ _=>mixed) (by kernel_rfl) (zjK _ trivial) (pY (λ ρ=>zab zDV I) (pY (λ ρ=>zah 4 tf3 I I I) (pY (λ ρ=>zab zDU I) (pY (λ ρ=>zah 4 tf3 I I I) (pY (λ ρ=>zab zBK I) (pY (λ ρ=>zah 4 tf3 I I I) (pY (λ ρ=>zab zCp I) (zBT (R:=λ ρ=>Box b19 (lV ((zaN S V (bs.getD (l.getD i.toNat default).1.toNat default).wall).s) p53.1.1 p53.1.2 ((zar S V (bs.getD (l.getD i.toNat default).1.toNat default).wall).s) p53.2.1 p53.2.2 ((bs.getD ((l.getD i.toNat default).1).toNat default).shut) ((bs.getD ((l.getD i.toNat default).1).toNat default).gA) ((bs.getD ((l.getD i.toNat default).1).toNat default).gB)) 179) (A:=λ ρ=>Box b19 (lV ((zaN S V (bs.getD (l.getD i.toNat default).1.toNat default).wall).s) p53.1.1 p53.1.2 ((zar S V (bs.getD (l.getD i.toNat default).1.toNat default).wall).s) p53.2.1 p53.2.2 ((bs.getD ((l.getD i.toNat default).1).toNat default).shut) ((bs.getD ((l.getD i.toNat default).1).toNat default).gB) ((bs.getD ((l.getD i.toNat default).1).toNat default).gB)) 179) 1000 I (by kernel_rfl) (by kernel_rfl) (λ _=>by kernel_rfl) (λ ρ=>zex tf3 I I (vs:=[_]) I I I I I) (λ ρ ρ' h=>by rfl) (pY (λ ρ=>zab zF7 I) ?_)))))))))
       refine zBT (R:=λ ρ=>Box b19 (lV ((zaN S V (bs.getD (l.getD i.toNat default).1.toNat default).wall).s) p53.1.1 p53.1.2 ((zar S V (bs.getD (l.getD i.toNat default).1.toNat default).wall).s) p53.2.1 p53.2.2 ((bs.getD ((l.getD i.toNat default).1).toNat default).shut) ((bs.getD ((l.getD i.toNat default).1).toNat default).gB) ((bs.getD ((l.getD i.toNat default).1).toNat default).gB)) 179) (A:=λ ρ=>Box b19 (lV ((zaN S V (bs.getD (l.getD i.toNat default).1.toNat default).wall).s) p53.1.1 p53.1.2 ((zar S V (bs.getD (l.getD i.toNat default).1.toNat default).wall).s) p53.2.1 p53.2.2 ((bs.getD ((l.getD i.toNat default).1).toNat default).shut) ((bs.getD ((l.getD i.toNat default).1).toNat default).gB) ((bs.getD ((l.getD i.toNat default).1).toNat default).gA)) 179) 1000 I (by kernel_rfl) (by kernel_rfl) (λ _=>by kernel_rfl) (λ ρ=>zex tf3 I I (vs:=[_]) I I I I I) (λ ρ ρ' h=>by rfl) (pY (λ ρ=>zad I) ?_)
       refine λ ρ=>zag (zpT (T':=[(0,U lb),(3,O cur),(6,U b6),(7,U b7),(10,O 0),(11,O eff),(12,.bool false),(14,U b14),(16,U b16),(19,U b19),(20,O (bs.getD ((l.getD i.toNat default).1).toNat default).a),(23,C la l.length lcap),(24,O (l.length:Int)),(25,O i)]) (H':=[Box b19 (lV ((zaN S V (bs.getD (l.getD i.toNat default).1.toNat default).wall).s) p53.1.1 p53.1.2 ((zar S V (bs.getD (l.getD i.toNat default).1.toNat default).wall).s) p53.2.1 p53.2.2 ((bs.getD ((l.getD i.toNat default).1).toNat default).shut) ((bs.getD ((l.getD i.toNat default).1).toNat default).gB) ((bs.getD ((l.getD i.toNat default).1).toNat default).gA)) 179,Box b17 (sV ((zar S V (bs.getD (l.getD i.toNat default).1.toNat default).wall).s) p53.2.1 p53.2.2) 118,Box b16 (wV ((zaN S V (bs.getD (l.getD i.toNat default).1.toNat default).wall).s) p53.1.1 p53.1.2) 116,Row p53.1.1 5 p53.1.2 122 zba (zaN S V (bs.getD (l.getD i.toNat default).1.toNat default).wall).s.opens,Row p53.2.1 1 p53.2.2 3 Z (zar S V (bs.getD (l.getD i.toNat default).1.toNat default).wall).s.heights,Box b15 [O (bs.getD ((l.getD i.toNat default).1).toNat default).a,O (bs.getD ((l.getD i.toNat default).1).toNat default).b,.string (bs.getD ((l.getD i.toNat default).1).toNat default).wall,O (bs.getD ((l.getD i.toNat default).1).toNat default).gA,O (bs.getD ((l.getD i.toNat default).1).toNat default).gB,.bool (bs.getD ((l.getD i.toNat default).1).toNat default).shut] 64,Box b14 [O (l.getD i.toNat default).1,O (l.getD i.toNat default).2] 159,Box b7 (zzz2 x) 41,Box b6 (zzz5 a S cap b V bcap) 37]) (sB I) I ?_)
       exact zb9 true (sB I) I (by first|exact .inl ⟨rfl,hc69.symm⟩|exact .inr ⟨rfl,hn69,hc73.symm⟩)
      ·have hc73:=oD hc73
       have hno:=zMu g2 (by omega) (zMP hn69 (λ h=>hc73 h.symm))
       refine gS (gA I (gA I (gA I (gN [0,3,6,7,10,11,12,14,16,19,20,23,24,25] I (zaw (zay (zdh I (zau I) (zau I) (zau I)) ?_))))))
       rw [hno];rfl
    ·rintro bk hJ
     have hG:Gnd (zar S V (bs.getD (l.getD i.toNat default).1.toNat default).wall).s (zaN S V (bs.getD (l.getD i.toNat default).1.toNat default).wall).s (gOf (bs.getD (l.getD i.toNat default).1.toNat default) bk) (hOf (bs.getD (l.getD i.toNat default).1.toNat default) bk):=by cases bk <;> first|exact hG1|exact hG2
     obtain⟨gs1,gs2,gs3,gs4⟩:=hG.nums
     have hov:=zGy hG
     have hJ5:=hJ
     refine zac (gZ 21 (ph_y (zat 0 zAl I I (vs:=[_,_,_,_,_,_,_,_,_,_,_,_,_,_,_,_,_,_,_,_,_,_,_,_,_,_,_]) I I) (ph_y (zaJ en91 I (λ w hw=>zFw _ _ (zaN S V (bs.getD (l.getD i.toNat default).1.toNat default).wall).s _ _ (zar S V (bs.getD (l.getD i.toNat default).1.toNat default).wall).s (bs.getD (l.getD i.toNat default).1.toNat default).shut (gOf (bs.getD (l.getD i.toNat default).1.toNat default) bk) (hOf (bs.getD (l.getD i.toNat default).1.toNat default) bk) w (zam Go.Stn.encI_ok (hw.has (p:=4) I)) hsss (zam zyn (hw.has (p:=3) I)) hG)) (ph_y (zws I I) (ph_y (zaY I I) (ph_y (zat 0 zAl I I (vs:=[_,_,_,_,_,_,_,_,_,_,_,_,_,_,_,_,_,_,_,_,_,_,_,_,_,_,_]) I I) (ph_y (zaJ en91 I (λ w hw=>zFw _ _ (zaN S V (bs.getD (l.getD i.toNat default).1.toNat default).wall).s _ _ (zar S V (bs.getD (l.getD i.toNat default).1.toNat default).wall).s (bs.getD (l.getD i.toNat default).1.toNat default).shut (gOf (bs.getD (l.getD i.toNat default).1.toNat default) bk) (hOf (bs.getD (l.getD i.toNat default).1.toNat default) bk) w (zam Go.Stn.encI_ok (hw.has (p:=4) I)) hsss (zam zyn (hw.has (p:=3) I)) hG)) (ph_y (zab zep I) (ph_y (zah 7 tf3 I I I) (ph_y (zeT I I) (ph_y (zaf I) ?_)))))))))))
     refine zaH I I (λ jj=>by(try rw [jj]);exact zat 0 zAl I I (vs:=[_,_,_,_,_,_,_,_,_,_,_,_,_,_,_,_,_,_,_,_,_,_,_,_,_,_,_]) I I) (zaH I I (λ jj=>by(try rw [jj]);exact zab zBw I) (zaH I I (λ jj=>by(try rw [jj]);exact zab zyM I) (zaH I I (λ jj=>by(try rw [jj]);exact zah 0 tf3 I I I) (zaH I I (λ jj=>by(try rw [jj]);exact zaJ (v:=O (zy8 (zar S V (bs.getD (l.getD i.toNat default).1.toNat default).wall).s ((zar S V (bs.getD (l.getD i.toNat default).1.toNat default).wall).s.height))) en92 I (λ w hw=>zEp _ _ (zaN S V (bs.getD (l.getD i.toNat default).1.toNat default).wall).s _ _ (zar S V (bs.getD (l.getD i.toNat default).1.toNat default).wall).s (bs.getD (l.getD i.toNat default).1.toNat default).shut (gOf (bs.getD (l.getD i.toNat default).1.toNat default) bk) (hOf (bs.getD (l.getD i.toNat default).1.toNat default) bk) ((zar S V (bs.getD (l.getD i.toNat default).1.toNat default).wall).s.height) w (zam Go.Stn.encI_ok (hw.has (p:=4) I)) hsss (zam zyn (hw.has (p:=3) I)) hG)) (zaH I I (λ jj=>by(try rw [jj]);exact zab znd I) (zaH I I (λ jj=>by(try rw [jj]);exact zah 7 tf3 I I I) (zaH I I (λ jj=>by(try rw [jj]);exact zeT I I) (ph_y (zaX I I I) (ph_y (zad I) ?_)))))))))
     refine ph_y (zad I) (gN [0,3,6,7,10,11,12,14,16,19,20,21,22,23,24,25] I ?_)
     refine zih (X:=Unit) (λ _=>[(0,U lb),(3,O cur),(6,U b6),(7,U b7),(10,O 0),(11,O eff),(12,.bool false),(20,O (endW (bs.getD (l.getD i.toNat default).1.toNat default) bk)),(21,O (mayB S V x (bs.getD (l.getD i.toNat default).1.toNat default) bk (l.getD i.toNat default).2).1),(22,.bool (mayB S V x (bs.getD (l.getD i.toNat default).1.toNat default) bk (l.getD i.toNat default).2).2),(23,C la l.length lcap),(24,O (l.length:Int)),(25,O i)]) (λ _=>[Box b19 (lV ((zaN S V (bs.getD (l.getD i.toNat default).1.toNat default).wall).s) p53.1.1 p53.1.2 ((zar S V (bs.getD (l.getD i.toNat default).1.toNat default).wall).s) p53.2.1 p53.2.2 ((bs.getD ((l.getD i.toNat default).1).toNat default).shut) (gOf (bs.getD (l.getD i.toNat default).1.toNat default) bk) (hOf (bs.getD (l.getD i.toNat default).1.toNat default) bk)) 179,Box b17 (sV ((zar S V (bs.getD (l.getD i.toNat default).1.toNat default).wall).s) p53.2.1 p53.2.2) 118,Box b16 (wV ((zaN S V (bs.getD (l.getD i.toNat default).1.toNat default).wall).s) p53.1.1 p53.1.2) 116,Row p53.1.1 5 p53.1.2 122 zba (zaN S V (bs.getD (l.getD i.toNat default).1.toNat default).wall).s.opens,Row p53.2.1 1 p53.2.2 3 Z (zar S V (bs.getD (l.getD i.toNat default).1.toNat default).wall).s.heights,Box b15 [O (bs.getD ((l.getD i.toNat default).1).toNat default).a,O (bs.getD ((l.getD i.toNat default).1).toNat default).b,.string (bs.getD ((l.getD i.toNat default).1).toNat default).wall,O (bs.getD ((l.getD i.toNat default).1).toNat default).gA,O (bs.getD ((l.getD i.toNat default).1).toNat default).gB,.bool (bs.getD ((l.getD i.toNat default).1).toNat default).shut] 64,Box b14 [O (l.getD i.toNat default).1,O (l.getD i.toNat default).2] 159,Box b7 (zzz2 x) 41,Box b6 (zzz5 a S cap b V bcap) 37]) (λ _=>True) ?_ ?_
     ·refine gS (gQ (zab zMw I) (gQ (zah 6 tf3 I I I) (gQ (zcr I I) (gN [0,3,6,7,10,11,12,14,16,19,20,21,22,23,24,25,106] I (zap I (λ hc106=>?_) (λ hc106=>?_))))))
      ·have hw1:¬ (l.getD i.toNat default).2 = -1:=by simpa using hc106
       refine zac (gS (gQ (zab zMw I) (gQ (zah 6 tf3 I I I) (gQ (zab zyL I) (gQ (zah 2 zAi I I I) (gQ (zaV (Tryz.underlying114) I) (gQ (zfV I I) (gQ (zaJ en58 I (λ w hw=>zyR _ _ _ w)) (gQ (zbR I) (gN [0,3,6,7,10,11,12,14,16,19,20,21,22,23,24,25,114] I (zap I (λ hc114=>?_) (λ hc114=>?_))))))))))))
       ·have hno:=zMu g2 (by omega) (zMV hz hJ5 (zNb hw1 hc114))
        refine gS (gA I (gA I (gA I (gN [0,3,6,7,10,11,12,14,16,19,20,21,22,23,24,25] I (zaw (zay (zdh I (zau I) (zau I) (zau I)) ?_))))))
        rw [hno];rfl
       ·have hwr:0≤(l.getD i.toNat default).2∧(l.getD i.toNat default).2<(zaN S V (bs.getD (l.getD i.toNat default).1.toNat default).wall).s.opens.length:=by have h:=hc114;unfold inZ at h;simp only [nF,aT,dT] at h;omega
        obtain⟨w0_,w1_⟩:=hwr
        have hmo:=zM0 (S:=S) (V:=V) (x:=x) (b:=(bs.getD (l.getD i.toNat default).1.toNat default)) (bk:=bk) w0_ w1_
        have hm1:=congrArg Prod.fst hmo
        have hm2:=congrArg Prod.snd hmo
        refine zaq (gZ 14 (ph_y (zat 0 zAl I I (vs:=[_,_,_,_,_,_,_,_,_,_,_,_,_,_,_,_,_,_,_,_,_,_,_,_,_,_,_]) I I) (ph_y (zab zyL I) (ph_y (zah 2 zAi I I I) (ph_y (zab zMw I) (ph_y (zah 6 tf3 I I I) (ph_y (zaE zCz I I (λ _ hw=>(zam zyn (hw.has (p:=3) I)))) (ph_y (zbv (vs:=[_,_,_,_,_]) zy2 I (λ _ hw=>(zam zyn (hw.has (p:=3) I))) (by omega) (by omega) I) (ph_y (zat 7 tf41 I I (vs:=[_,_,_,_,_]) I I) (ph_y (zaJ en79 I (λ w hw=>by_c _ _ (zaN S V (bs.getD (l.getD i.toNat default).1.toNat default).wall).s _ _ (zar S V (bs.getD (l.getD i.toNat default).1.toNat default).wall).s (bs.getD (l.getD i.toNat default).1.toNat default).shut (gOf (bs.getD (l.getD i.toNat default).1.toNat default) bk) (hOf (bs.getD (l.getD i.toNat default).1.toNat default) bk) ((zaN S V (bs.getD (l.getD i.toNat default).1.toNat default).wall).s.opens.getD (l.getD i.toNat default).2.toNat default) x w (zam Go.Stn.encI_ok (hw.has (p:=4) I)) hsss (zam zyn (hw.has (p:=3) I)) hG (hG.wf.fit _ (za0 (by omega))))) (ph_y (zaf I) (ph_y (zaB I I) (ph_y (zaB I I) (ph_y (zad I) (ph_y (zad I) (gN [0,3,6,7,10,11,12,20,21,22,23,24,25] I ?_))))))))))))))))
        exact zb9 () ⟨I,I,I,I,I,I,I,I,(by exact congrArg (λ z=>some (Value.int .i64 z)) hm1),(by exact congrArg (λ z=>some (Value.bool z)) hm2),I,I,I,trivial⟩ rfl trivial
      ·have hw1:(l.getD i.toNat default).2 = -1:=by simpa using hc106
       obtain⟨hm1,hm2⟩:=zMZ (S:=S) (V:=V) (x:=x) (b:=(bs.getD (l.getD i.toNat default).1.toNat default)) (bk:=bk) hw1
       refine zaq ?_
       exact zb9 () ⟨I,I,I,I,I,I,I,I,(by exact congrArg (λ z=>some (Value.int .i64 z)) hm1),(by exact congrArg (λ z=>some (Value.bool z)) hm2),I,I,I,trivial⟩ rfl trivial
     ·rintro _ hJ
      refine zac (gS (gM I (gQ (zbR I) (gN [0,3,6,7,10,11,12,20,21,23,24,25,128] I (zap I (λ hc128=>?_) (λ hc128=>?_))))))
      ·have hm0:(mayB S V x (bs.getD (l.getD i.toNat default).1.toNat default) bk (l.getD i.toNat default).2).2=false:=by simpa using hc128
       have hno:=zMu g2 (by omega) (zMV hz hJ5 hm0)
       refine gS (gA I (gA I (gA I (gN [0,3,6,7,10,11,12,20,21,23,24,25] I (zaw (zay (zdh I (zau I) (zau I) (zau I)) ?_))))))
       rw [hno];rfl
      ·have hm0:(mayB S V x (bs.getD (l.getD i.toNat default).1.toNat default) bk (l.getD i.toNat default).2).2=true:=by simpa using hc128
       have hnx:=zMR g2 (zM8 hz hJ5 hm0)
       have hmi:=zJS hok z0 z1 bk (l.getD i.toNat default).2
       refine zaq (zaa (gM I (gM I (gM I (gQ (zaY I I) (gA I (gA I (gN [0,3,6,7,10,11,12,23,24,25] I (zaa (gQ (zaY I I) (gM I (gN [0,3,6,7,10,11,12,23,24,25] I (zaK 0 I (zaK 0 I (zaK 0 I (zaK 0 I (zaK 0 I (zaK 0 I (zaK 0 I ?_)))))))))))))))))))
       exact za1 (i+1,_,_) (sB I) I ⟨by omega,by omega,by rw [show(i+1).toNat=i.toNat+1 from by omega];exact hnx⟩ (by simp only [];omega)
  ·have hc26:=oD hc26
   have hfin:wkdA S V bs x frm l=some (cur,eff):=by rw [←g2,show i.toNat=l.length from by omega];rfl
   refine za8 I (gS (gM I (gM I (gA I (gA I (gA I (gN [10,11,12] I (zaw (zay (zdh I (zau I) (zau I) (zau I)) ?_)))))))))
   rw [hfin];rfl
theorem en89:En Tryz.prog 89:=eK Tryz.func89
theorem zK3 (a:yO) (cap:Nat) (l:List Int) (n:Int) (w:World) (hl:Has w (Ints a l)) (hs:zaP l.length) :
  Calls Tryz.prog 89 #[C a l.length cap,O n] w (Pure (O (zbJ (λ z:Int=>decide (n=z)) l)) w):=by
 refine zan (vs:=[_,_]) Tryz.func89 I I (bL I) (gS (gA I (gN [0,1,4] I (zac (gS (gM I (gQ (zaV (Tryz.underlying45) I) (gM I (gN [0,1,4,7,8] I (zas (zbf (X:=Int) (λ(i:Int)=>[(0,C a l.length cap),(1,O n),(4,O 0),(7,O (l.length:Int)),(8,O i)]) (λ(i:Int)=>[]) (λ(i:Int)=>(0≤i∧i≤l.length∧∀ j:Nat,(j:Int)<i→decide (n=l.getD j default)=false)) (λ(i:Int)=>(l.length - i).toNat) 0 (sB I) I ?_ ?_)))))))))))
 ·exact⟨by omega,by omega,λ j hj=>by omega⟩
 ·rintro i hI
  obtain⟨g0,g1,g2⟩:=hI
  refine gS (gQ (zbw I I) (gN [0,1,4,7,8,9] I (zac (zap I (λ hc9=>?_) (λ hc9=>?_)))))
  ·simp only [dT] at hc9
   refine zaq (zac (zas (gS (gM I (gA I (gN [0,1,4,5,7,8] I (gS (gM I (gM I (gM I (gQ (zaE se45 I I (λ _=>rH hl)) (gQ (zcE tf3 I (λ _=>rH hl) (by omega) (by omega) I) (gQ (zbL I I) (gN [0,1,4,5,7,8,16] I (zap I (λ hc16=>?_) (λ hc16=>?_))))))))))))))))
   ·refine gS (gM I (gA I (gN [0,1,4,7,8] I (zaw (zay (zaC I (zau I)) ?_)))))
    exact congrArg (λ n=>Value.int .i64 n) (zcs (p:=(λ z:Int=>decide (n=z))) g0 (by omega) g2 hc16).symm
   ·refine zaq (zaa (gQ (zaY I I) (gM I (gN [0,1,4,7,8] I ?_))))
    exact za1 _ (sB I) I ⟨by omega,by omega,λ j hj=>if h:(j:Int)<i then g2 j h else(by rw [show j=i.toNat from by omega];exact hc16)⟩ (by omega)
  ·simp only [dF] at hc9
   refine za8 I (gS (gA I (gN [4] I (zaw (zay (zaC I (zau I)) ?_)))))
   exact congrArg (λ n=>Value.int .i64 n) (zck (p:=(λ z:Int=>decide (n=z))) (λ j hj=>g2 j (by omega))).symm
theorem zKI (a:yO) (cap:Nat) (l:List Int) (n:Int) (w:World) (hl:Has w (Ints a l)) (hs:zaP l.length) :
  Calls Tryz.prog 59 #[C a l.length cap,O n] w (Pure (.bool (hasI l n)) w):=by
 refine zan (vs:=[_,_]) Tryz.func59 I I (bL I) (gS (gA I (gN [0,1,4] I (gS (gM I (gM I (gQ (zaJ en89 I (λ w hw=>zK3 _ _ l n w (rH hl hw) (by assumption))) (gQ (zfx I I) (gA I (gN [4] I (zaw (zay (zaC I (zau I)) ?_))))))))))))
 rw [ze9];rfl
theorem zKb (a:yO) (cap:Nat) (l:List Int) (n:Int) (w:World) (hl:Has w (Ints a l)) (hs:zaP l.length) :
  Calls Tryz.prog 64 #[C a l.length cap,O n] w (Pure (.bool (hasI l n)) w):=by
 refine zan (vs:=[_,_]) Tryz.func64 I I (bL I) (gS (gA I (gN [0,1,4] I (zac (gS (gA I (gN [0,1,4,5] I (zas (zbf (X:=Int) (λ(i:Int)=>[(0,C a l.length cap),(1,O n),(4,.bool false),(5,O i)]) (λ(i:Int)=>[]) (λ(i:Int)=>(0≤i∧i≤l.length∧∀ j:Nat,(j:Int)<i→¬ l.getD j default=n)) (λ(i:Int)=>(l.length - i).toNat) 0 ⟨I,I,I,I,trivial⟩ rfl ?_ ?_)))))))))
 ·exact⟨by omega,by omega,λ j hj=>by omega⟩
 ·rintro i hI
  obtain⟨g0,g1,g2⟩:=hI
  refine zac (gS (gM I (gM I (gQ (zaV (Tryz.underlying45) I) (gQ (zbw I I) (gN [0,1,4,5,9] I (zap I (λ hc9=>?_) (λ hc9=>?_))))))))
  ·simp only [dT] at hc9
   refine zaq (zac (zas (gS (gM I (gM I (gQ (zaE se45 I I (λ _=>rH hl)) (gQ (zcE tf3 I (λ _=>rH hl) (by omega) (by omega) I) (gM I (gQ (zbL I I) (gN [0,1,4,5,17] I (zap I (λ hc17=>?_) (λ hc17=>?_))))))))))))
   ·have hc17:=oT hc17
    refine gS (gA I (gN [0,1,4,5] I (zaw (zay (zaC I (zau I)) ?_))))
    rw [zJu g0 (by omega) hc17]
   ·have hc17:=oD hc17
    refine zaq (zaa (gM I (gQ (zaY I I) (gA I (gN [0,1,4,5] I ?_)))))
    exact za1 _ ⟨I,I,I,I,trivial⟩ rfl ⟨by omega,by omega,λ j hj=>if h:(j:Int)<i then g2 j h else(by rw [show j=i.toNat from by omega];exact hc17)⟩ (by omega)
  ·simp only [dF] at hc9
   refine za8 I (gS (gA I (gN [4] I (zaw (zay (zaC I (zau I)) ?_)))))
   rw [zJP (λ j hj=>g2 j (by omega))]
theorem zNp (a:yO) (cap:Nat) (l:List Int) (w:World) (hl:Has w (Ints a l)) (hs:zaP l.length) :
  Calls Tryz.prog 63 #[C a l.length cap] w (Pure (.bool (risB l)) w):=by
 refine zan (vs:=[_]) Tryz.func63 I I (bL I) (gS (gA I (gN [0,2] I (zac (gS (gA I (gN [0,2,3] I (zas (zbf (X:=Int) (λ(i:Int)=>[(0,C a l.length cap),(2,.bool false),(3,O i)]) (λ(i:Int)=>[]) (λ(i:Int)=>(1≤i∧∀ j:Nat,1≤j→(j:Int)<i→l.getD (j - 1) default<l.getD j default)) (λ(i:Int)=>(l.length - i).toNat) 1 ⟨I,I,I,trivial⟩ rfl ?_ ?_)))))))))
 ·exact⟨by omega,λ j h1 hj=>by omega⟩
 ·rintro i hI
  obtain⟨g0,g2⟩:=hI
  refine zac (gS (gM I (gM I (gQ (zaV (Tryz.underlying45) I) (gQ (zbw I I) (gN [0,2,3,7] I (zap I (λ hc7=>?_) (λ hc7=>?_))))))))
  ·simp only [dT] at hc7
   refine zaq (zac (zas (zac (gZ 10 (ph_y (zaf I) (ph_y (zaf I) (ph_y (zfV I I) (ph_y (zaE se45 I I (λ _=>rH hl)) (ph_y (zcE tf3 I (λ _=>rH hl) (by omega) (by omega) I) (ph_y (zaf I) (ph_y (zaf I) (ph_y (zaE se45 I I (λ _=>rH hl)) (ph_y (zcE tf3 I (λ _=>rH hl) (by omega) (by omega) I) (ph_y (zfx I I) (gN [0,2,3,19] I (zap I (λ hc19=>?_) (λ hc19=>?_)))))))))))))))))
   ·have hc19:=oT hc19
    refine gS (gA I (gN [0,2,3] I (zaw (zay (zaC I (zau I)) ?_))))
    rw [zNG g0 (by omega) hc19]
   ·have hc19:=oD hc19
    refine zaq (zaa (gM I (gQ (zaY I I) (gA I (gN [0,2,3] I ?_)))))
    exact za1 _ ⟨I,I,I,trivial⟩ rfl ⟨by omega,λ j h1 hj=>if h:(j:Int)<i then g2 j h1 h else(by rw [show j=i.toNat from by omega,show i.toNat - 1=(i - 1).toNat from by omega];omega)⟩ (by omega)
  ·simp only [dF] at hc7
   refine za8 I (gS (gA I (gN [2] I (zaw (zay (zaC I (zau I)) ?_)))))
   rw [zNh.2 (λ j h1 hj=>g2 j h1 (by omega))]
end Go.Proofs.YteepmmghanbllaaGreatDoor
namespace Go.K
open Go Go.RowKit
section
variable {α:Type} {enc:α→List Value} {k:Nat} {c:Cx} {ds:List Deferred} {T:List (Nat×Value)} {H:List Res} {d:Option Nat} {x y:Operand} {ty:TypeId} {ps:String} {af:Array Edge} {g:Option (Nat×Bool)}
def AppR (e:TypeId) (k:Nat) (enc:α→List Value) (a:Option Addr) (cap:Nat) (l m:List α) (z:Option Addr×Nat):Res:=
 if m.length=0 then zDo (z=(a,cap)) Emp else Row z.1 k z.2 e enc (l++m)
theorem zKR {e:TypeId} {a:Option Addr} {cap:Nat} {l m:List α} {z:Option Addr×Nat} {w:World} (he:Enc k enc) (h1:Has w (Row a k cap e enc l)) (h2:Has w (AppR e k enc a cap l m z)):Has w (zaW z.1 k enc (l++m)):=by
 unfold AppR at h2
 split at h2
 ·rename_i h0
  obtain⟨_,_,hz,_⟩:=h2
  rw [hz,List.length_eq_zero_iff.1 h0,List.append_nil]
  exact zam he h1
 ·exact zam he h2
theorem zKN {t e:TypeId} {by_:Nat} {zs:List Value} {a a2:Option Addr} {cap c2:Nat} {l m:List α} (hf:AF c.P t e k by_ zs) (he:Enc k enc)
  (hx:evo T x=some (.slice a l.length cap)) (hy:evo T y=some (.slice a2 m.length c2)) (hl:∀ w,Hp c.U c.w0 H w→Has w (Row a k cap e enc l)) (hm:∀ w,Hp c.U c.w0 H w→Has w (zaW a2 k enc m))
  (hb:(l.length+m.length)*by_≤140737488355328) (hlm:l.length+m.length≤maxLen) (hg:cap=l.length) :
  YX c ds H T ⟨d,.call ⟨.builtin .append,#[x,y],#[t,t]⟩,ty,ps,af,g⟩ (λ z:Option Addr×Nat=>.slice z.1 (l++m).length z.2) (AppR e k enc a cap l m):=by
 by_cases h0:m.length=0
 ·have e0:=List.eq_nil_of_length_eq_zero h0
  have h:=(zKO (c:=c) (ds:=ds) (H:=H) (T:=T) (d:=d) (ty:=ty) (ps:=ps) (af:=af) (g:=g) hf hx hy h0 (Nat.le_of_eq hg.symm)).run
  refine⟨λ A w hs hw=>?_⟩
  refine(h A w hs hw).mono λ v w' hv=>(⟨(a,cap),by rw [hv.1,e0,List.append_nil],hv.2,λ _=>False,λ _ h=>h.elim,?_⟩)
  unfold AppR
  rw [if_pos h0]
  exact⟨rfl,trivial⟩
 ·have h:=zlO (c:=c) (ds:=ds) (H:=H) (T:=T) (d:=d) (ty:=ty) (ps:=ps) (af:=af) (g:=g) hf he hx hy hl hm hb hlm (by omega)
  have e1:(λ z:Option Addr×Nat=>Row z.1 k z.2 e enc (l++m))=AppR e k enc a cap l m:=funext λ z=>by unfold AppR;rw [if_neg h0]
  rw [←e1];exact h
end
def Dfrs:List Nat→Res
 | []=>Emp
 | D :: M=>SepR [Dfr D,Dfrs M]
abbrev mrk (M:List Nat) (ds:List Deferred):List Deferred:=M.map mark++ds
def NxtM (c:Cx) (ds:List Deferred) {X:Type} (Tf:X→List (Nat×Value)) (Hf:X→List Res) (Mf:X→List Nat) (I:X→Prop) (μ:X→Nat) (m:Nat):Act→World→Prop:=
 λ a w=>∃ x',Sat c.n (Tf x') (mrk (Mf x') ds) a∧Hp c.U c.w0 (Hf x') w∧I x'∧μ x' < m
section
variable {c:Cx} {ds ds':List Deferred} {p:Post} {T:List (Nat×Value)} {H:List Res}
theorem zKT {K:Act→World→Prop} (h:GK c (mrk [] ds) K T (Dfrs [] :: H)):GK c ds K T H:=zyS h
theorem zK2 {X:Type} {Tf:X→List (Nat×Value)} {Hf:X→List Res} {Mf:X→List Nat} {I:X→Prop} {μ:X→Nat} {m:Nat} (x':X) (hd:ds' = mrk (Mf x') ds) (hT:sub (Tf x') T) (hH:Hf x' = H) (hI:I x') (hm:μ x' < m) :
  GK c ds' (NxtM c ds Tf Hf Mf I μ m) T H:=λ _ _ ha hw=>⟨x',hd ▸ ha.mono hT,hH ▸ hw,hI,hm⟩
theorem zK1 {body:Code} {X:Type} (Tf:X→List (Nat×Value)) (Hf:X→List Res) (Mf:X→List Nat) (I:X→Prop) (μ:X→Nat) (x0:X) (hM:Mf x0=[]) (hT:sub (Tf x0) T) (hH:Hf x0=H) (hI:I x0)
  (round:∀ x,I x→GK c (mrk (Mf x) ds) (KC c body { nrm:=NxtM c ds Tf Hf Mf I μ (μ x),ret:=p.ret,ex:=p.ex,pn:=p.pn }) (Tf x) (Hf x)):GK c (mrk [] ds) (KC c (.loop body) p) T H:=by
 subst hH
 intro a w ha hw
 have key:∀ (m:Nat) (x:X),μ x=m→I x→∀ a w,Sat c.n (Tf x) (mrk (Mf x) ds) a→Hp c.U c.w0 (Hf x) w →
   ∀ (b:Frame) (k:List Item) (cs:List Frame),b.roundOf=(FW c.r).round→(FW c.r).fn b.fn→(FW c.r).room (cs.length+1+0) →
   ∃ e a' w',p.Q e a' w'∧ArrivesIn (Machine.fenced c.P (FW c.r)) c.P (lone (b.atR a (.code body :: .inLoop body :: k)) cs w) b k cs e a' w':=by
  intro m
  induction m using Nat.strongRecOn with
  | _ m ih=>
   intro x hm hI a w ha hw b k cs hro hb hr
   obtain⟨e,a₁,w₁,hq,harr⟩:=round x hI a w ha hw b (.inLoop body :: k) cs hro hb hr
   cases e with
   | normal=>
    obtain⟨x',ha',hw',hI',hlt⟩:=hq
    obtain⟨e₂,a₂,w₂,hq₂,harr₂⟩:=ih (μ x') (hm ▸ hlt) x' rfl hI' a₁ w₁ ha' hw' b k cs hro hb hr
    exact⟨e₂,a₂,w₂,hq₂,.of_steps (StepsIn.trans harr (.one (fenced_calm hb hr rfl) stepR_inLoop)) harr₂⟩
   | exit id=>exact⟨.exit id,a₁,w₁,hq,.pass (x:=.inLoop body) rfl (λ _ _=>.inl (by simp)) harr⟩
   | ret=>exact⟨.ret,a₁,w₁,hq,.pass (x:=.inLoop body) rfl (λ _ _=>.inl (by simp)) harr⟩
   | goto l=>exact hq.elim
   | panic ch=>exact⟨.panic ch,a₁,w₁,hq,.pass (x:=.inLoop body) rfl (λ _ _=>.inl (by simp)) harr⟩
   | outgrown=>exact hq.elim
 intro b k cs hro hb hr
 obtain⟨e,a',w',hq,harr⟩:=key _ x0 rfl hI a w (by rw [hM];exact ha.mono hT) hw b k cs hro hb hr
 exact⟨e,a',w',hq,.of_steps (.one (fenced_calm hb hr rfl) stepR_loop) harr⟩
theorem zKK {fn:Func} {R:Ending→World→Prop}:∀ {M:List Nat} {H:List Res},GK c ds (RetP c.P fn R) T H→GK c (mrk M ds) (RetP c.P fn R) T (Dfrs M :: H)
 | [],_,h=>ztW h
 | _ :: _,_,h=>zbP (zil 0 I (zKK h))
theorem zKJ {fn:Func} {R:Ending→World→Prop} {M:List Nat} (i:Nat) (hi:H[i]?=some (Dfrs M)) (h:GK c ds (RetP c.P fn R) T (H.eraseIdx i)):GK c (mrk M ds) (RetP c.P fn R) T H:=zao i hi (zKK h)
end
end Go.K
namespace Go.Proofs.YteepmmghanbllaaGreatDoor
open Go.K Go.Stn Go.Pln Go.Fld Go.RowKit
theorem en59:En Tryz.prog 59:=eK Tryz.func59
theorem zKQ (a:yO) (cap:Nat) (S:List ShC) (b:yO) (bcap:Nat) (V:List WlC) (ca:yO) (ccap:Nat) (cs:List ByteArray) (ba:yO) (bcp:Nat) (bs:List Bdr) (x:Anm) (cell:Int) (pa:yO) (pcap:Nat) (pen:List Int) (w:World) (hl:yag w a S) (hs:zaP S.length) (hcS:S.length≤cap) (hlw:yah w b V) (hsw:zaP V.length) (hsh:yab S w) (hss:yac S) (hwo:yaa V w) (hsv:yae V) (hcp:yad V) (hkn:yaf V) (hc:yai w ca cs) (hcs:zaP cs.length) (hcap:cs.length≤ccap) (hbd:yaj w ba bs) (hbs:zaP bs.length) (hpn:Has w (Ints pa pen)) (hps:pen.length≤45) (hat:atE S V cs bs x (cell :: pen)=0) :
  Calls Tryz.prog 27 #[zzz3 a S cap b V bcap,zzz4 ca cs ccap ba bs bcp,zzz1 x,O cell,C pa pen.length pcap] w (Pure (.bool (penA S V cs bs x cell pen)) w):=by
 obtain⟨hok,hin,hcs40,hbs80⟩:=zDr hat
 have hca:=zCw hin
 obtain⟨c0,c1⟩:=hca cell (by simp)
 have hlw_:(zyj S V bs x).length=bs.length:=zz5
 have hWs:zaP (zyj S V bs x).length:=by unfold zaP;omega
 have hA:=zKV (pen:=pen) hat
 refine zan (vs:=[_,_,_,_,_]) Tryz.func27 I I (bL I) (gS (zaG I I (za3 (vs:=[_,_]) I I) λ b5=>(zaG I I (za3 (vs:=[_,_]) I I) λ b6=>(zaG I I (za3 (vs:=[_,_,_,_,_]) I I) λ b7=>(zaG I I (za3 (vs:=[_]) I I) λ b9=>(zaG I I (zaL tf4 (zs:=[_]) I) λ b10=>(gN [3,5,6,7,9,10] I (zac (zCs [] (ch [(4,Nat),(6,(Option Addr×Nat)),(7,(Nat×(Option Addr×Nat)×(Option Addr×Nat)×List (Nat×List (Bool×Bool))))]) 1000 13 [0,0,0,0,8,0,56,127,255,511,511,1023,4095] [] I (λ _=>mixed) (by kernel_rfl) (zjK _ ⟨inferInstance,inferInstance,inferInstance,trivial⟩) (pY (λ ρ=>zat (b:=b5) (cs:=[C a S.length cap,C b V.length bcap]) (e:=37) 4 tf37 I (by kernel_rfl) (vs:=[_,_]) I I) (pY (λ ρ=>zat (b:=b6) (cs:=[C ca cs.length ccap,C ba bs.length bcp]) (e:=40) 3 tf40 I (by kernel_rfl) (vs:=[_,_]) I I) (pY (λ ρ=>zat (b:=b7) (cs:=(zzz2 x)) (e:=41) 2 tf41 I (by kernel_rfl) (vs:=[_,_,_,_,_]) I I) (pY (λ ρ=>zaf I) (zFy (λ ρ=>zaD I (zA3 _) Go.Stn.encI_ok I) (λ ρ ρ' h=>⟨by rfl,by rfl⟩) ?_))))))))))))))
 refine pY (λ ρ=>zah (b:=b9) (cs:=[C pa pen.length pcap]) (e:=45) 1 tf45 I (by kernel_rfl) I) (zFy (λ ρ=>zKN (l:=([cell])) (m:=pen) af45 Go.Stn.encI_ok I I (λ _ hw=>hw.has (p:=0) (R:=Row (some ⟨(ρ 4),0,none⟩) 1 1 3 Z [cell]) (by simp only [zeS,tIs,okSt,rcf,zbe];rfl)) (λ _=>rH hpn) (by show(1+pen.length)*_≤_;omega) (by show 1+pen.length≤maxLen;unfold maxLen;omega) I) (λ ρ ρ' h=>⟨by(first|rfl|(simp only [h 4 I];done)|(simp only [h 4 I];rfl)),by(first|rfl|(simp only [h 4 I];done)|(simp only [h 4 I];rfl))⟩) (zFy (λ ρ=>zbm en46 I (λ w hw=>zFH _ _ S _ _ V _ _ cs _ _ bs x _ _ (cell :: pen) w (rH hl hw) hs hcS (rH hlw hw) hsw (λ z hz=>(rH (hsh z hz) hw)) hss (λ z hz=>(rH (hwo z hz) hw)) hsv hcp hkn (rH hc hw) hcs hcap (rH hbd hw) hbs (zKR Go.Stn.encI_ok (hw.has (p:=1) (R:=Row (some ⟨(ρ 4),0,none⟩) 1 1 3 Z [cell]) (by simp only [zeS,tIs,okSt,rcf,zbe];rfl)) (hw.has (p:=0) (R:=AppR 3 1 Z (some ⟨(ρ 4),0,none⟩) 1 ([cell]) pen (ρ 6)) (by simp only [zeS,tIs,okSt,rcf,zbe];rfl))) (by show zaP (pen.length+1);unfold zaP;omega) hok hin)) (λ ρ ρ' h=>⟨by rfl,by rfl⟩) (zAr (λ ρ=>zaf I) (λ ρ ρ' h=>by(first|rfl|(simp only [h 7 I];done)|(simp only [h 7 I];rfl))) ?_)))
 refine zAr (λ ρ=>zaB I I) (λ ρ ρ' h=>by(first|rfl|(simp only [h 7 I];done)|(simp only [h 7 I];rfl))) (pY (λ ρ=>zaB I I) (zAr (λ ρ=>zad I) (λ ρ ρ' h=>by(first|rfl|(simp only [h 7 I];done)|(simp only [h 7 I];rfl))) (pY (λ ρ=>zad I) (λ ρ=>zag (zf4 (X:=Nat×(Option Addr×Nat)×(Nat×(Option Addr×Nat)×(Option Addr×Nat)×List (Nat×List (Bool×Bool)))) (ρ 4,ρ 6,ρ 7) (λ⟨b21,z23,p24⟩=>[(3,O cell),(9,U b9),(10,U b10),(11,U p24.1),(12,O 0)]) (λ⟨b21,z23,p24⟩=>[zEw p24 ca ccap cs ba bcp bs (zyj S V bs x) (zzS S V bs x),AppR 3 1 Z (some ⟨b21,0,none⟩) 1 ([cell]) pen z23,Row (some ⟨b21,0,none⟩) 1 1 3 Z [cell],Box b10 [.bool false] 4,Box b9 [C pa pen.length pcap] 45,Box b7 (zzz2 x) 41,Box b6 (zzz6 ca cs ccap ba bs bcp) 40,Box b5 (zzz5 a S cap b V bcap) 37]) (sB I) I ?_)))))
 rintro ⟨b21,z23,p24⟩
 obtain⟨lb,⟨wa,wc⟩,⟨fa,fc⟩,F⟩:=p24
 refine zz4 λ hF=>zbP ?_
 have hF:F.map (·.2)=(zzS S V bs x):=hF
 refine zac (zac (gZ 8 (ph_y (zaf I) (ph_y (zcr I I) (ph_y (zaf I) (ziw I I (zah 7 tf45 I I I) (ziw I I (zaf I) (ziw I I (zaJ en59 I (λ w hw=>zKI _ _ pen cell w (rH hpn hw) (by first|assumption|(unfold zaP;omega)))) (ziw I I (zbR I) (ph_y (zaR I I I) (gN [9,10,11,34] I (zap I (λ hc34=>?_) (λ hc34=>?_)))))))))))))
 ·have hno:=zK9 (W:=(zyj S V bs x)) (cell:=cell) (pen:=pen) (by simpa using hc34)
  refine gS (zaA 6 tf4 I I (vs:=[_]) I I I I I (gN [9,10,11] I (zaw (zay (zaC I (zcy (i:=6) tf4 I I I)) ?_))))
  rw [hA,hno]
 ·have hhas:hasI pen cell=true:=by simpa using hc34
  refine zaq (zac (gS (gQ (zah 7 tf45 I I I) (gQ (zaV (Tryz.underlying45) I) (gM I (gN [9,10,11,35,36,37] I (zas (zKT (zK1 (X:=Int×List Nat) (λ⟨i,Ms⟩=>[(9,U b9),(10,U b10),(11,U lb),(35,C pa pen.length pcap),(36,O (pen.length:Int)),(37,O i)]) (λ⟨i,Ms⟩=>[Dfrs Ms,Box lb [C ca cs.length ccap,C ba bs.length bcp,C wa (zyj S V bs x).length wc,C fa (F.map (·.1)).length fc] 128,Row wa 10 wc 148 zyw (zyj S V bs x),Row fa 1 fc 124 zy6 (F.map (·.1)),Go.K.Rows rowM F,AppR 3 1 Z (some ⟨b21,0,none⟩) 1 ([cell]) pen z23,Row (some ⟨b21,0,none⟩) 1 1 3 Z [cell],Box b10 [.bool false] 4,Box b9 [C pa pen.length pcap] 45,Box b7 (zzz2 x) 41,Box b6 (zzz6 ca cs ccap ba bs bcp) 40,Box b5 (zzz5 a S cap b V bcap) 37]) (λ⟨i,Ms⟩=>Ms) (λ⟨i,Ms⟩=>(0≤i∧i≤pen.length∧∀ j:Nat,(j:Int)<i→penT (zyj S V bs x) pen j=true)) (λ⟨i,Ms⟩=>(pen.length - i).toNat) (0,[]) I (sB I) I ?_ ?_)))))))))
  ·exact⟨by omega,by omega,λ j hj=>by omega⟩
  ·rintro ⟨i,Ms⟩ hI
   obtain⟨g0,g1,g2⟩:=hI
   refine gS (gQ (zbw I I) (gN [9,10,11,35,36,37,38] I (zac (zap I (λ hc38=>?_) (λ hc38=>?_)))))
   ·have hc38:=oT hc38
    refine zaq (zac (zas (gS (gM I (gQ (zaE se45 I I (λ _=>rH hpn)) (gQ (zcE tf3 I (λ _=>rH hpn) (by omega) (by omega) I) (gA I (gA I (gN [9,10,11,13,14,35,36,37] I (zih (X:=Unit) (λ _=>[(9,U b9),(10,U b10),(11,U lb),(14,O (pen.getD i.toNat default)),(35,C pa pen.length pcap),(36,O (pen.length:Int)),(37,O i)]) (λ _=>[Dfrs Ms,Box lb [C ca cs.length ccap,C ba bs.length bcp,C wa (zyj S V bs x).length wc,C fa (F.map (·.1)).length fc] 128,Row wa 10 wc 148 zyw (zyj S V bs x),Row fa 1 fc 124 zy6 (F.map (·.1)),Go.K.Rows rowM F,AppR 3 1 Z (some ⟨b21,0,none⟩) 1 ([cell]) pen z23,Row (some ⟨b21,0,none⟩) 1 1 3 Z [cell],Box b10 [.bool false] 4,Box b9 [C pa pen.length pcap] 45,Box b7 (zzz2 x) 41,Box b6 (zzz6 ca cs ccap ba bs bcp) 40,Box b5 (zzz5 a S cap b V bcap) 37]) (λ _=>(i=0∨pen.getD (i.toNat - 1) default<pen.getD i.toNat default)) ?_ ?_))))))))))
    ·refine gS (gM I (gQ (zc6 I I) (gM I (zai I I I I (λ hg44=>?_) (λ hg44=>?_)))))
     ·replace hg44:_=true:=hg44
      try rw [hg44]
      refine gM I ?_
      have hg44:=oT hg44
      refine gT I I I (gQ (zah 8 tf45 I I I) (gT I I I (gM I (gT I I I (gQ (zfV I I) (gT I I I (gQ (zaE se45 I I (λ _=>rH hpn)) (gT I I I (gQ (zcE tf3 I (λ _=>rH hpn) (by omega) (by omega) I) (gT I I I (gQ (zeT I I) (gQ (za5 I I I) (gN [9,10,11,14,35,36,37,52] I (zap I (λ hc52=>?_) (λ hc52=>?_)))))))))))))))
      ·have hc52:=oT hc52
       have hno:=zKX (W:=(zyj S V bs x)) (cell:=cell) (pen:=pen) (i:=i.toNat) (by omega) (zK5 (by omega) (by rw [show i.toNat - 1=(i - 1).toNat from by omega];exact hc52))
       refine gS (zaA 7 tf4 I I (vs:=[_]) I I I I I (gN [9,10,11,14,35,36,37] I (zaw (zKJ 0 I (zay (zaC I (zcy (i:=6) tf4 I I I)) ?_)))))
       rw [hA,hno]
      ·have hc52:=oD hc52
       refine zaq ?_
       exact zb9 () (sB I) I (by first|exact .inl (by have:=oD hg44;omega)|exact .inr (by rw [show i.toNat - 1=(i - 1).toNat from by omega];omega))
     ·replace hg44:_=false:=hg44
      try rw [hg44]
      refine gF I I I (gF I I I (gF I I I (gF I I I (gF I I I (gF I I I (gQ (za5 I I I) (gN [9,10,11,14,35,36,37,52] I (zd8 I (zaq ?_)))))))))
      exact zb9 () (sB I) I (by first|exact .inl (by have:=oD hg44;omega)|exact .inr (by rw [show i.toNat - 1=(i - 1).toNat from by omega];omega))
    ·rintro _ hJ
     refine gS (gM I (gM I (zaG I I (zbm en60 I (λ w hw=>zHf lb (pen.getD i.toNat default) w)) λ p55=>zbP (gN [9,10,11,35,36,37,55] I (zas (gK [9,10,11,35,36,37,55] I ?_))))))
     refine zk1 (X:=Unit) (λ _u=>[Box p55.1 [U lb] 106,Box p55.2 [O (pen.getD i.toNat default)] 3,Dfrs Ms,Box lb [C ca cs.length ccap,C ba bs.length bcp,C wa (zyj S V bs x).length wc,C fa (F.map (·.1)).length fc] 128,Row wa 10 wc 148 zyw (zyj S V bs x),Row fa 1 fc 124 zy6 (F.map (·.1)),Go.K.Rows rowM F,AppR 3 1 Z (some ⟨b21,0,none⟩) 1 ([cell]) pen z23,Row (some ⟨b21,0,none⟩) 1 1 3 Z [cell],Box b10 [.bool false] 4,Box b9 [C pa pen.length pcap] 45,Box b7 (zzz2 x) 41,Box b6 (zzz6 ca cs ccap ba bs bcp) 40,Box b5 (zzz5 a S cap b V bcap) 37]) (λ n _u=>∀ j:Nat,j<n→hasI pen ((outL (zyj S V bs x) (pen.getD i.toNat default)).getD j default).to=true) (λ _u=>penT (zyj S V bs x) pen i.toNat=false) [] () I en90 I I (λ j hj=>by omega) (zGj p55.1 p55.2 (pen.getD i.toNat default) lb wa fa wc fc (zyj S V bs x) F ca ccap cs ba bcp bs hWs) (λ _u w hw=>⟨hw.has (p:=0) I,hw.has (p:=1) I,hw.has (p:=3) I,zam zyl (hw.has (p:=4) I)⟩) (by intro a ha;obtain⟨c,_,rfl⟩:=List.mem_map.1 ha;rfl) I ?_ ?_ ?_ ?_
     ·rintro R1 R2 rl U' w' n _u args hget hR hrd hins hbeg
      obtain⟨hnl,rfl⟩:=zE4 hget
      refine gK [9,10,56] I (zaa (zaG I I (zaL zyD (zs:=[_,_,_,_,_]) I) λ b15=>(zaA 0 zyD I I (vs:=[_,_,_,_,_]) I I I I I (gN [9,10,15] I (zao 1 I (hbeg _ _ _ (zas (gS (gQ (zah 12 tf45 I I I) (gQ (zab zzb I) (gQ (zah 1 tf3 I I I) (gQ (zaJ en59 I (λ w hw=>zKI _ _ pen (((outL (zyj S V bs x) (pen.getD i.toNat default)).getD n default).to) w (Rd.has (hrd _ (Has.rd hpn)) hw) (by first|assumption|(unfold zaP;omega)))) (gQ (zbR I) (gN [10,61] I (zap I (λ hc61=>?_) (λ hc61=>?_))))))))))))))))
      ·have hc61:hasI pen ((outL (zyj S V bs x) (pen.getD i.toNat default)).getD n default).to=false:=by simpa using hc61
       refine gS (zaA 11 tf4 I I (vs:=[_]) I I I I I (gN [10] I (zaw (zaK 1 I ?_))))
       exact zb9 () trivial I (by exact zK4 hnl hc61)
      ·have hc61:hasI pen ((outL (zyj S V bs x) (pen.getD i.toNat default)).getD n default).to=true:=by simpa using hc61
       refine zaq (zaK 1 I ?_)
       exact zb9 () trivial I (λ j hj=>if h:j<n then hR j h else(by rw [show j=n from by omega];exact hc61))
     ·intro Dm _u hR
      have hpt:penT (zyj S V bs x) pen i.toNat=true:=zKS (hJ.imp (λ h=>by omega) id) (λ j hj=>hR j (by rwa [lM]))
      refine zaa (gQ (zaY I I) (gM I (gN [9,10,11,35,36,37] I (zao 3 I (zao 1 I (zbT 2 (zaK 1 I (zaK 1 I ?_))))))))
      exact zK2 (i+1,(Dm :: Ms)) I (sB I) I ⟨by omega,by omega,λ j hj=>if h:(j:Int)<i then g2 j h else(by rw [show j=i.toNat from by omega];exact hpt)⟩ (by simp only [];omega)
     ·rintro Dm _u hD
      have hno:=zKX (cell:=cell) (by omega) hD
      refine zil 0 I (zKJ 2 I (zay (zaC I (zcy (i:=8) tf4 I I I)) ?_))
      rw [hA,hno]
     ·exact λ _ _ _ _ h=>absurd h (by simp)
   ·have hc38:=oD hc38
    have hyes:=zKY (W:=(zyj S V bs x)) hhas (λ j hj=>g2 j (by omega))
    refine za8 I (gS (zaA 7 tf4 I I (vs:=[_]) I I I I I (gN [10] I (zaw (zKJ 0 I (zay (zaC I (zcy (i:=6) tf4 I I I)) ?_))))))
    rw [hA,hyes]
theorem zKP (a:yO) (cap:Nat) (S:List ShC) (b:yO) (bcap:Nat) (V:List WlC) (ca:yO) (ccap:Nat) (cs:List ByteArray) (ba:yO) (bcp:Nat) (bs:List Bdr) (x:Anm) (cell:Int) (pa:yO) (pcap:Nat) (pen:List Int) (w:World) (hl:yag w a S) (hs:zaP S.length) (hcS:S.length≤cap) (hlw:yah w b V) (hsw:zaP V.length) (hsh:yab S w) (hss:yac S) (hwo:yaa V w) (hsv:yae V) (hcp:yad V) (hkn:yaf V) (hc:yai w ca cs) (hcs:zaP cs.length) (hcap:cs.length≤ccap) (hbd:yaj w ba bs) (hbs:zaP bs.length) (hpn:Has w (Ints pa pen)) (hps:pen.length≤45) (hne:¬ atE S V cs bs x (cell :: pen)=0) :
  Calls Tryz.prog 27 #[zzz3 a S cap b V bcap,zzz4 ca cs ccap ba bs bcp,zzz1 x,O cell,C pa pen.length pcap] w (Pure (.bool (penA S V cs bs x cell pen)) w):=by
 refine zan (vs:=[_,_,_,_,_]) Tryz.func27 I I (bL I) (gS (zaG I I (za3 (vs:=[_,_]) I I) λ b5=>(zaG I I (za3 (vs:=[_,_]) I I) λ b6=>(zaG I I (za3 (vs:=[_,_,_,_,_]) I I) λ b7=>(zaG I I (za3 (vs:=[_]) I I) λ b9=>(zaG I I (zaL tf4 (zs:=[_]) I) λ b10=>(gN [3,5,6,7,9,10] I (zac (zCs [] (ch [(4,Nat),(6,(Option Addr×Nat)),(7,(Nat×(Option Addr×Nat)×(Option Addr×Nat)×List (Nat×List (Bool×Bool))))]) 1000 13 [0,0,0,0,8,0,56,127,255,511,511,1023,4095] [] I (λ _=>mixed) (by kernel_rfl) (zjK _ ⟨inferInstance,inferInstance,inferInstance,trivial⟩) (pY (λ ρ=>zat (b:=b5) (cs:=[C a S.length cap,C b V.length bcap]) (e:=37) 4 tf37 I (by kernel_rfl) (vs:=[_,_]) I I) (pY (λ ρ=>zat (b:=b6) (cs:=[C ca cs.length ccap,C ba bs.length bcp]) (e:=40) 3 tf40 I (by kernel_rfl) (vs:=[_,_]) I I) (pY (λ ρ=>zat (b:=b7) (cs:=(zzz2 x)) (e:=41) 2 tf41 I (by kernel_rfl) (vs:=[_,_,_,_,_]) I I) (pY (λ ρ=>zaf I) (zFy (λ ρ=>zaD I (zA3 _) Go.Stn.encI_ok I) (λ ρ ρ' h=>⟨by rfl,by rfl⟩) ?_))))))))))))))
 refine pY (λ ρ=>zah (b:=b9) (cs:=[C pa pen.length pcap]) (e:=45) 1 tf45 I (by kernel_rfl) I) (zFy (λ ρ=>zKN (l:=([cell])) (m:=pen) af45 Go.Stn.encI_ok I I (λ _ hw=>hw.has (p:=0) (R:=Row (some ⟨(ρ 4),0,none⟩) 1 1 3 Z [cell]) (by simp only [zeS,tIs,okSt,rcf,zbe];rfl)) (λ _=>rH hpn) (by show(1+pen.length)*_≤_;omega) (by show 1+pen.length≤maxLen;unfold maxLen;omega) I) (λ ρ ρ' h=>⟨by(first|rfl|(simp only [h 4 I];done)|(simp only [h 4 I];rfl)),by(first|rfl|(simp only [h 4 I];done)|(simp only [h 4 I];rfl))⟩) (zFy (λ ρ=>zbm en46 I (λ w hw=>zDs _ _ S _ _ V _ _ cs _ _ bs x _ _ (cell :: pen) w (rH hl hw) hs hcS (rH hlw hw) hsw (λ z hz=>(rH (hsh z hz) hw)) hss (λ z hz=>(rH (hwo z hz) hw)) hsv hcp hkn (rH hc hw) hcs hcap (rH hbd hw) hbs (zKR Go.Stn.encI_ok (hw.has (p:=1) (R:=Row (some ⟨(ρ 4),0,none⟩) 1 1 3 Z [cell]) (by simp only [zeS,tIs,okSt,rcf,zbe];rfl)) (hw.has (p:=0) (R:=AppR 3 1 Z (some ⟨(ρ 4),0,none⟩) 1 ([cell]) pen (ρ 6)) (by simp only [zeS,tIs,okSt,rcf,zbe];rfl))) (by show zaP (pen.length+1);unfold zaP;omega) hne)) (λ ρ ρ' h=>⟨by rfl,by rfl⟩) (pY (λ ρ=>zaf I) (pY (λ ρ=>zaB I I) (pY (λ ρ=>zaB I I) (pY (λ ρ=>zad I) (pY (λ ρ=>zad I) ?_)))))))
 refine λ ρ=>zag (zf4 (X:=Nat×(Option Addr×Nat)×(Nat×(Option Addr×Nat)×(Option Addr×Nat)×List (Nat×List (Bool×Bool)))) (ρ 4,ρ 6,ρ 7) (λ⟨b21,z23,p24⟩=>[(3,O cell),(9,U b9),(10,U b10),(11,.pointer none),(12,O (atE S V cs bs x (cell :: pen)))]) (λ⟨b21,z23,p24⟩=>[Emp,AppR 3 1 Z (some ⟨b21,0,none⟩) 1 ([cell]) pen z23,Row (some ⟨b21,0,none⟩) 1 1 3 Z [cell],Box b10 [.bool false] 4,Box b9 [C pa pen.length pcap] 45,Box b7 (zzz2 x) 41,Box b6 (zzz6 ca cs ccap ba bs bcp) 40,Box b5 (zzz5 a S cap b V bcap) 37]) (sB I) I ?_)
 rintro ⟨b21,z23,p24⟩
 refine zac (zac (gZ 8 (ph_y (zaf I) (ph_y (zbQ (zcr I I) (by simpa using hne)) (ph_y (zaf I) (zaz I I (λ jj=>by(try rw [jj]);exact zah 4 tf45 I I I) (zaz I I (λ jj=>by(try rw [jj]);exact zaf I) (zaz I I (λ jj=>by(try rw [jj]);exact zaJ (v:=.bool (hasI pen cell)) en59 I (λ w hw=>zKI _ _ pen cell w (rH hpn hw) (by first|assumption|(unfold zaP;omega)))) (zaz I I (λ jj=>by(try rw [jj]);exact zbR I) (ph_y (za5 I I I) (gN [9,10,11,34] I (zdg I (gS (zaA 3 tf4 I I (vs:=[_]) I I I I I (gN [9,10,11] I (zaw (zay (zaC I (zcy (i:=3) tf4 I I I)) ?_)))))))))))))))))
 rw [zK7 hne]
theorem zKM (a:yO) (cap:Nat) (S:List ShC) (b:yO) (bcap:Nat) (V:List WlC) (ca:yO) (ccap:Nat) (cs:List ByteArray) (ba:yO) (bcp:Nat) (bs:List Bdr) (x:Anm) (cell:Int) (pa:yO) (pcap:Nat) (pen:List Int) (w:World) (hl:yag w a S) (hs:zaP S.length) (hcS:S.length≤cap) (hlw:yah w b V) (hsw:zaP V.length) (hsh:yab S w) (hss:yac S) (hwo:yaa V w) (hsv:yae V) (hcp:yad V) (hkn:yaf V) (hc:yai w ca cs) (hcs:zaP cs.length) (hcap:cs.length≤ccap) (hbd:yaj w ba bs) (hbs:zaP bs.length) (hpn:Has w (Ints pa pen)) (hps:pen.length≤45):Calls Tryz.prog 27 #[zzz3 a S cap b V bcap,zzz4 ca cs ccap ba bs bcp,zzz1 x,O cell,C pa pen.length pcap] w (Pure (.bool (penA S V cs bs x cell pen)) w):=by
 by_cases hat:atE S V cs bs x (cell :: pen)=0
 ·exact zKQ a cap S b bcap V ca ccap cs ba bcp bs x cell pa pcap pen w hl hs hcS hlw hsw hsh hss hwo hsv hcp hkn hc hcs hcap hbd hbs hpn hps hat
 ·exact zKP a cap S b bcap V ca ccap cs ba bcp bs x cell pa pcap pen w hl hs hcS hlw hsw hsh hss hwo hsv hcp hkn hc hcs hcap hbd hbs hpn hps hat
end Go.Proofs.YteepmmghanbllaaGreatDoor
namespace Go.Fld
open Go Go.K Go.Stn Go.Pln
section
variable {W:List (Crg×Crg)} {n k:Nat} {frm nx:Int} {L:List TrkR} {D:List Bool} {bs:List Bdr}
theorem zMm (he:zJJ W) (hw:zIB W n) {k:Nat} (hk:k<(outL W nx).length):(0≤((outL W nx).getD k default).to∧((outL W nx).getD k default).to<n)∧1≤((outL W nx).getD k default).eff∧((outL W nx).getD k default).eff≤7001:=by
 obtain⟨⟨h1,h2,_⟩,_⟩:=zK0 (za0 hk)
 exact⟨(hw _ h1).2,he _ h1 h2⟩
end
end Go.Fld
namespace Go.Proofs.YteepmmghanbllaaGreatDoor
open Go.K Go.Stn Go.Pln Go.Fld Go.RowKit
theorem en62:En Tryz.prog 62:=eK Tryz.func62
abbrev yar (pf:List Int):=∀ z∈pf,-1000000000000≤z∧z≤1000000000000
theorem zMz (a:yO) (cap:Nat) (S:List ShC) (b:yO) (bcap:Nat) (V:List WlC) (ca:yO) (ccap:Nat) (cs:List ByteArray) (ba:yO) (bcp:Nat) (bs:List Bdr) (x:Anm) (frm to:Int) (la:yO) (lcap:Nat) (l:List (Int×Int)) (pa:yO) (pcap:Nat) (pf:List Int) (w:World) (hl:yag w a S) (hs:zaP S.length) (hcS:S.length≤cap) (hlw:yah w b V) (hsw:zaP V.length) (hsh:yab S w) (hss:yac S) (hwo:yaa V w) (hsv:yae V) (hcp:yad V) (hkn:yaf V) (hc:yai w ca cs) (hcs:zaP cs.length) (hcap:cs.length≤ccap) (hbd:yaj w ba bs) (hbs:zaP bs.length) (hll:Has w (zaW la 2 zyQ l)) (hls:l.length≤300000) (hpf:Has w (Ints pa pf)) (hpb:yar pf) (hat:atE S V cs bs x [frm,to]=0) :
  Calls Tryz.prog 35 #[zzz3 a S cap b V bcap,zzz4 ca cs ccap ba bs bcp,zzz1 x,O frm,O to,C la l.length lcap,C pa pf.length pcap] w (Pure (.bool (prvA S V cs bs x frm to l pf)) w):=by
 obtain⟨hok,hin,hcs40,hbs80⟩:=zDr hat
 obtain⟨f0,f1⟩:=zCw hin frm (by simp)
 obtain⟨t0,t1⟩:=zCw hin to (by simp)
 have hlw_:(zyj S V bs x).length=bs.length:=zz5
 have hWs:zaP (zyj S V bs x).length:=by unfold zaP;omega
 have hA:=zM2 (l:=l) (proof:=pf) hat
 have heff:=zI5 hok
 have hcell:=zIr hok
 refine zan (vs:=[_,_,_,_,_,_,_]) Tryz.func35 I I (bL I) (gS (zaG I I (za3 (vs:=[_,_]) I I) λ b7=>(zaG I I (za3 (vs:=[_,_]) I I) λ b8=>(zaG I I (za3 (vs:=[_,_,_,_,_]) I I) λ b9=>(zaG I I (za3 (vs:=[_]) I I) λ b13=>(zaG I I (zaL tf4 (zs:=[_]) I) λ b14=>(gN [3,4,5,7,8,9,13,14] I (gS (gQ (zat 4 tf37 I I (vs:=[_,_]) I I) (gQ (zat 3 tf40 I I (vs:=[_,_]) I I) (gQ (zat 2 tf41 I I (vs:=[_,_,_,_,_]) I I) (gM I (gM I (zaG I I (zaD I (zDC _ _) Go.Stn.encI_ok I) λ b30=>(zaG I I (zbm en46 I (λ w hw=>zFH _ _ S _ _ V _ _ cs _ _ bs x _ _ [frm,to] w (rH hl hw) hs hcS (rH hlw hw) hsw (λ z hz=>(rH (hsh z hz) hw)) hss (λ z hz=>(rH (hwo z hz) hw)) hsv hcp hkn (rH hc hw) hcs hcap (rH hbd hw) hbs (zam Go.Stn.encI_ok (hw.has (p:=0) I)) (by simp [zaP]) hok hin)) λ p31=>(gM I (gQ (zaB I I) (gQ (zaB I I) (gA I (gA I (gN [3,4,5,7,8,9,13,14,15,16] I ?_)))))))))))))))))))))
 obtain⟨lb,⟨wa,wc⟩,⟨fa,fc⟩,F⟩:=p31
 refine zz4 λ hF=>zbP ?_
 have hF:F.map (·.2)=(zzS S V bs x):=hF
 refine zac (gS (gM I (gQ (zcr I I) (gM I (gT I I I (gQ (zah 6 tf45 I I I) (gT I I I (gQ (zaV (Tryz.underlying45) I) (gT I I I (gQ (zab zBJ I) (gT I I I (gQ (zah 8 tf26 I I I) (gT I I I (gQ (zaV (Tryz.underlying26) I) (gT I I I (gQ (zcr I I) (gQ (za5 I I I) (gM I (zai I I I I (λ hg44=>?_) (λ hg44=>?_))))))))))))))))))))
 ·replace hg44:_=false:=hg44
  try rw [hg44]
  refine gQ (zah 6 tf45 I I I) ?_
  have hpl0:((pf.length:Int)=cs.length):=by simpa using hg44
  have hpl:pf.length=cs.length:=by omega
  refine gT I I I (gM I (gT I I I (gQ (zaE se45 I I (λ _=>rH hpf)) (gT I I I (gQ (zcE tf3 I (λ _=>rH hpf) (by omega) (by omega) I) (gT I I I (gQ (zcr I I) (gQ (za5 I I I) (gN [3,4,5,7,8,9,13,14,15,50] I (zap I (λ hc50=>?_) (λ hc50=>?_)))))))))))
  ·have hno:=zMx (W:=(zyj S V bs x)) (n:=cs.length) (to:=to) (r:=wkdA S V bs x frm l) (.inr hc50)
   refine gS (zaA 5 tf4 I I (vs:=[_]) I I I I I (gN [3,4,5,7,8,9,13,14,15] I (zaw (zay (zaC I (zcy (i:=5) tf4 I I I)) ?_))))
   first|rw [hA,hno]|rw [hA,zMx (.inl (by rw [nT,dF] at hg44 ⊢;omega))]
  ·have hp0:pf.getD frm.toNat default=0:=by simpa using hc50
   refine zaq (zac (gS (gQ (zab zBJ I) (gQ (zah 8 tf26 I I I) (gQ (zaV (Tryz.underlying26) I) (gM I (gN [3,4,5,7,9,13,14,15,53,54] I (zas (zKT (zK1 (X:=Int×List Nat) (λ⟨i,Ms⟩=>[(3,O frm),(4,O to),(5,C la l.length lcap),(7,U b7),(9,U b9),(13,U b13),(14,U b14),(15,U lb),(53,O (cs.length:Int)),(54,O i)]) (λ⟨i,Ms⟩=>[Dfrs Ms,Box lb [C ca cs.length ccap,C ba bs.length bcp,C wa (zyj S V bs x).length wc,C fa (F.map (·.1)).length fc] 128,Row wa 10 wc 148 zyw (zyj S V bs x),Row fa 1 fc 124 zy6 (F.map (·.1)),Go.K.Rows rowM F,Row (some ⟨b30,0,none⟩) 1 2 3 Z [frm,to],Box b14 [.bool false] 4,Box b13 [C pa pf.length pcap] 45,Box b9 (zzz2 x) 41,Box b8 (zzz6 ca cs ccap ba bs bcp) 40,Box b7 (zzz5 a S cap b V bcap) 37]) (λ⟨i,Ms⟩=>Ms) (λ⟨i,Ms⟩=>(0≤i∧i≤cs.length∧∀ j:Nat,(j:Int)<i→prvT (zyj S V bs x) pf j=true)) (λ⟨i,Ms⟩=>(cs.length - i).toNat) (0,[]) I (sB I) I ?_ ?_))))))))))
   ·exact⟨by omega,by omega,λ j hj=>by omega⟩
   ·rintro ⟨i,Ms⟩ hI
    obtain⟨g0,g1,g2⟩:=hI
    refine gS (gQ (zbw I I) (gN [3,4,5,7,9,13,14,15,53,54,55] I (zac (zap I (λ hc55=>?_) (λ hc55=>?_)))))
    ·have hc55:=oT hc55
     have hio:((i.toNat:Nat):Int)=i:=tN g0
     have hb1:=hpb _ (za0 (l:=pf) (i:=i.toNat) (by omega))
     refine zaq (zac (zas (gS (gM I (zaG I I (zaL tf3 (zs:=[_]) I) λ b17=>(zaA 0 tf3 I I (vs:=[_]) I I I I I (gN [3,4,5,7,9,13,14,15,17,53,54] I (gS (gM I (gQ (zah 0 tf3 I I I) (zaG I I (zbm en60 I (λ w hw=>zHf lb i w)) λ p59=>zbP (gN [3,4,5,7,9,13,14,15,17,53,54,59] I (zas (gK [3,4,5,7,9,13,14,15,17,53,54,59] I ?_))))))))))))))
     refine zk1 (X:=Unit) (λ _u=>[Box p59.1 [U lb] 106,Box p59.2 [O i] 3,Box b17 [O i] 3,Dfrs Ms,Box lb [C ca cs.length ccap,C ba bs.length bcp,C wa (zyj S V bs x).length wc,C fa (F.map (·.1)).length fc] 128,Row wa 10 wc 148 zyw (zyj S V bs x),Row fa 1 fc 124 zy6 (F.map (·.1)),Go.K.Rows rowM F,Row (some ⟨b30,0,none⟩) 1 2 3 Z [frm,to],Box b14 [.bool false] 4,Box b13 [C pa pf.length pcap] 45,Box b9 (zzz2 x) 41,Box b8 (zzz6 ca cs ccap ba bs bcp) 40,Box b7 (zzz5 a S cap b V bcap) 37]) (λ n _u=>∀ j:Nat,j<n→pf.getD ((outL (zyj S V bs x) i).getD j default).to.toNat default≤(pf.getD i.toNat default)+((outL (zyj S V bs x) i).getD j default).eff) (λ _u=>prvT (zyj S V bs x) pf i.toNat=false) [] () I en90 I I (λ j hj=>by omega) (zGj p59.1 p59.2 i lb wa fa wc fc (zyj S V bs x) F ca ccap cs ba bcp bs hWs) (λ _u w hw=>⟨hw.has (p:=0) I,hw.has (p:=1) I,hw.has (p:=4) I,zam zyl (hw.has (p:=5) I)⟩) (by intro a ha;obtain⟨c,_,rfl⟩:=List.mem_map.1 ha;rfl) I ?_ ?_ ?_ ?_
     ·rintro R1 R2 rl U' w' n _u args hget hR hrd hins hbeg
      obtain⟨hnl,rfl⟩:=zE4 hget
      obtain⟨⟨c0,c1⟩,e0,e1⟩:=zMm heff hcell hnl
      have hb2:=hpb _ (za0 (l:=pf) (i:=((outL (zyj S V bs x) i).getD n default).to.toNat) (by omega))
      refine gK [13,14,17,60] I (zaa (zaG I I (zaL zyD (zs:=[_,_,_,_,_]) I) λ b18=>(zaA 0 zyD I I (vs:=[_,_,_,_,_]) I I I I I (gN [13,14,17,18] I (zao 1 I (hbeg _ _ _ (zas (zac (gZ 11 (ph_y (zah 12 tf45 I I I) (ph_y (zah 4 tf3 I I I) (ph_y (zaE se45 I I (λ _ hw=>(Rd.has (hrd _ (Has.rd hpf)) hw))) (ph_y (zcE tf3 I (λ _ hw=>(Rd.has (hrd _ (Has.rd hpf)) hw)) (by omega) (by omega) I) (ph_y (zah 12 tf45 I I I) (ph_y (zab zzb I) (ph_y (zah 1 tf3 I I I) (ph_y (zaE se45 I I (λ _ hw=>(Rd.has (hrd _ (Has.rd hpf)) hw))) (ph_y (zcE tf3 I (λ _ hw=>(Rd.has (hrd _ (Has.rd hpf)) hw)) (by omega) (by omega) I) (ph_y (zad I) (ph_y (zad I) (gN [14,18,19,20] I (zac (gZ 35 (ph_y (zaf I) (ph_y (zaf I) (ph_y (zc6 I I) (ph_y (zaf I) (zaH I I (λ jj=>by(try rw [jj]);exact zaf I) (zaH I I (λ jj=>by(try rw [jj]);exact zbw I I) (zaH I I (λ jj=>by(try rw [jj]);exact zaf I) (zdr I I (λ jj=>by(try rw [jj]);exact zaf I) (zdr I I (λ jj=>by(try rw [jj]);exact zfx I I) (zaH I I (λ jj=>by(try rw [jj]);exact zaX I I I) (zaH I I (λ jj=>by(try rw [jj]);exact zaf I) ?_))))))))))))))))))))))))))))))))))
      refine zdr I I (λ jj=>by(try rw [jj]);exact zaf I) (zdr I I (λ jj=>by(try rw [jj]);exact zaf I) (zdr I I (λ jj=>by(try rw [jj]);exact zab zDS I) (zdr I I (λ jj=>by(try rw [jj]);exact zah 1 tf3 I I I) (zdr I I (λ jj=>by(try rw [jj]);exact zaY I I) (zdr I I (λ jj=>by(try rw [jj]);exact zc6 I I) (zaH I I (λ jj=>by(try rw [jj]);exact zaX I I I) (zaH I I (λ jj=>by(try rw [jj]);exact zaf I) (zc0 I I (λ jj=>by(try rw [jj]);exact zaf I) (zc0 I I (λ jj=>by(try rw [jj]);exact zfx I I) (zc0 I I (λ jj=>by(try rw [jj]);exact zaf I) (zc0 I I (λ jj=>by(try rw [jj]);exact zaf I) (zc0 I I (λ jj=>by(try rw [jj]);exact zbw I I) (zc0 I I (λ jj=>by(try rw [jj]);exact zaR I I I) (zc0 I I (λ jj=>by(try rw [jj]);exact zaf I) (zdr I I (λ jj=>by(try rw [jj]);exact zaf I) (zdr I I (λ jj=>by(try rw [jj]);exact zaf I) (zdr I I (λ jj=>by(try rw [jj]);exact zfV I I) (zdr I I (λ jj=>by(try rw [jj]);exact zab zDS I) (zdr I I (λ jj=>by(try rw [jj]);exact zah 1 tf3 I I I) (zdr I I (λ jj=>by(try rw [jj]);exact zc6 I I) ?_))))))))))))))))))))
      refine zc0 I I (λ jj=>by(try rw [jj]);exact zaX I I I) (zaH I I (λ jj=>by(try rw [jj]);exact zaR I I I) (ph_y (zaX I I I) (gN [14,104] I (zap I (λ hc104=>?_) (λ hc104=>?_)))))
      ·rw [zMD (by omega)] at hc104
       have hexc:=oT hc104
       refine gS (zaA 11 tf4 I I (vs:=[_]) I I I I I (gN [14] I (zaw (zaK 1 I ?_))))
       exact zb9 () trivial I (zM3 (i:=i.toNat) (k:=n) (by rw [hio];exact hnl) (by rw [hio];exact hexc))
      ·rw [zMD (by omega)] at hc104
       have hle:(pf.getD ((outL (zyj S V bs x) i).getD n default).to.toNat default)≤(pf.getD i.toNat default)+((outL (zyj S V bs x) i).getD n default).eff:=by have:=oD hc104;omega
       refine zaq (zaK 1 I ?_)
       exact zb9 () trivial I (λ j hj=>if h:j<n then hR j h else(by rw [show j=n from by omega];exact hle))
     ·intro Dm _u hR
      have hpt:prvT (zyj S V bs x) pf i.toNat=true:=zMN (by rw [hio];exact λ j hj=>hR j (by rwa [lM]))
      refine zaa (gQ (zaY I I) (gM I (gN [3,4,5,7,9,13,14,15,53,54] I (zao 4 I (zao 1 I (zbT 2 (zaK 1 I (zaK 1 I (zaK 1 I ?_)))))))))
      exact zK2 (i+1,(Dm :: Ms)) I (sB I) I ⟨by omega,by omega,λ j hj=>if h:(j:Int)<i then g2 j h else(by rw [show j=i.toNat from by omega];exact hpt)⟩ (by simp only [];omega)
     ·rintro Dm _u hD
      have hno:=zM4 (frm:=frm) (to:=to) (r:=wkdA S V bs x frm l) (n:=cs.length) (by omega) hD
      refine zil 0 I (zKJ 3 I (zay (zaC I (zcy (i:=8) tf4 I I I)) ?_))
      first|rw [hA,hno]|rw [hA,zMx (.inl (by rw [nT,dF] at hg44 ⊢;omega))]
     ·exact λ _ _ _ _ h=>absurd h (by simp)
    ·have hc55:=oD hc55
     have hyes:=zM5 (W:=(zyj S V bs x)) (to:=to) (r:=wkdA S V bs x frm l) hpl hp0 (λ j hj=>g2 j (by omega))
     refine za8 I (gS (gM I (gQ (zat 10 tf37 I I (vs:=[_,_]) I I) (gQ (zat 8 tf41 I I (vs:=[_,_,_,_,_]) I I) (gM I (gM I (gQ (zaJ en62 I (λ w hw=>zMQ _ _ S _ _ V _ _ cs _ _ bs x lb wa fa wc fc (zyj S V bs x) F frm _ _ l w (rH hl hw) hs hcS (rH hlw hw) hsw (λ z hz=>(rH (hsh z hz) hw)) hss (λ z hz=>(rH (hwo z hz) hw)) hsv hcp hkn (rH hc hw) hcs hcap (rH hbd hw) hbs (hw.has (p:=1) I) hok (rH hll hw) hls)) (gM I (gQ (zaB I I) (gQ (zaB I I) (gQ (zaB I I) (gA I (gA I (gA I (gN [4,13,14,21,22,23] I (zac (gZ 14 (ph_y (zaf I) (ph_y (zaf I) (zaH I I (λ jj=>by(try rw [jj]);exact zaf I) (zaH I I (λ jj=>by(try rw [jj]);exact zaf I) (zaH I I (λ jj=>by(try rw [jj]);exact zbL I I) (ph_y (zaX I I I) (ph_y (zaf I) (zaH I I (λ jj=>by(try rw [jj]);exact zaf I) (zaH I I (λ jj=>by(try rw [jj]);exact zah 7 tf45 I I I) (zaH I I (λ jj=>by(try rw [jj]);exact zaf I) (zaH I I (λ jj=>by(try rw [jj]);exact zaE se45 I I (λ _=>rH hpf)) (zaH I I (λ jj=>by(try rw [jj]);exact zcE tf3 I (λ _=>rH hpf) (by omega) (by omega) I) ?_)))))))))))))))))))))))))))))
     refine zaH I I (λ jj=>by(try rw [jj]);exact zbL I I) (ph_y (zaX I I I) (gK [14,129] I (zaA 6 tf4 I I (vs:=[_]) I I I I I (gN [14] I (zaw (zKJ 0 I (zay (zaC I (zcy (i:=5) tf4 I I I)) ?_)))))))
     rw [hA,hyes] <;> rfl
 ·replace hg44:_=true:=hg44
  try rw [hg44]
  refine gF I I I (gF I I I (gF I I I (gF I I I (gQ (za5 I I I) (gN [3,4,5,7,8,9,13,14,15,50] I (zdg I (gS (zaA 5 tf4 I I (vs:=[_]) I I I I I (gN [3,4,5,7,8,9,13,14,15] I (zaw (zay (zaC I (zcy (i:=5) tf4 I I I)) ?_)))))))))))
  first|rw [hA,hno]|rw [hA,zMx (.inl (by rw [nT,dF] at hg44 ⊢;omega))]
theorem zMy (a:yO) (cap:Nat) (S:List ShC) (b:yO) (bcap:Nat) (V:List WlC) (ca:yO) (ccap:Nat) (cs:List ByteArray) (ba:yO) (bcp:Nat) (bs:List Bdr) (x:Anm) (frm to:Int) (la:yO) (lcap:Nat) (l:List (Int×Int)) (pa:yO) (pcap:Nat) (pf:List Int) (w:World) (hl:yag w a S) (hs:zaP S.length) (hcS:S.length≤cap) (hlw:yah w b V) (hsw:zaP V.length) (hsh:yab S w) (hss:yac S) (hwo:yaa V w) (hsv:yae V) (hcp:yad V) (hkn:yaf V) (hc:yai w ca cs) (hcs:zaP cs.length) (hcap:cs.length≤ccap) (hbd:yaj w ba bs) (hbs:zaP bs.length) (_hll:Has w (zaW la 2 zyQ l)) (_hls:l.length≤300000) (_hpf:Has w (Ints pa pf)) (_hpb:yar pf) (hne:¬ atE S V cs bs x [frm,to]=0) :
  Calls Tryz.prog 35 #[zzz3 a S cap b V bcap,zzz4 ca cs ccap ba bs bcp,zzz1 x,O frm,O to,C la l.length lcap,C pa pf.length pcap] w (Pure (.bool (prvA S V cs bs x frm to l pf)) w):=by
 refine zan (vs:=[_,_,_,_,_,_,_]) Tryz.func35 I I (bL I) (gS (zaG I I (za3 (vs:=[_,_]) I I) λ b7=>(zaG I I (za3 (vs:=[_,_]) I I) λ b8=>(zaG I I (za3 (vs:=[_,_,_,_,_]) I I) λ b9=>(zaG I I (za3 (vs:=[_]) I I) λ b13=>(zaG I I (zaL tf4 (zs:=[_]) I) λ b14=>(gN [3,4,5,7,8,9,13,14] I (gS (gQ (zat 4 tf37 I I (vs:=[_,_]) I I) (gQ (zat 3 tf40 I I (vs:=[_,_]) I I) (gQ (zat 2 tf41 I I (vs:=[_,_,_,_,_]) I I) (gM I (gM I (zaG I I (zaD I (zDC _ _) Go.Stn.encI_ok I) λ b30=>(zaG I I (zbm en46 I (λ w hw=>zDs _ _ S _ _ V _ _ cs _ _ bs x _ _ [frm,to] w (rH hl hw) hs hcS (rH hlw hw) hsw (λ z hz=>(rH (hsh z hz) hw)) hss (λ z hz=>(rH (hwo z hz) hw)) hsv hcp hkn (rH hc hw) hcs hcap (rH hbd hw) hbs (zam Go.Stn.encI_ok (hw.has (p:=0) I)) (by simp [zaP]) hne)) λ p31=>(gM I (gQ (zaB I I) (gQ (zaB I I) (gA I (gA I (gN [3,4,5,7,8,9,13,14,15,16] I (zac (gS (gM I (gQ (zbQ (zcr I I) (by simpa using hne)) (gM I (gF I I I (gF I I I (gF I I I (gF I I I (gF I I I (gF I I I (gQ (za5 I I I) (gM I ?_))))))))))))))))))))))))))))))))))
 refine gF I I I (gF I I I (gF I I I (gF I I I (gF I I I (gQ (za5 I I I) (gN [3,4,5,7,8,9,13,14,15,50] I (zdg I (gS (zaA 2 tf4 I I (vs:=[_]) I I I I I (gN [3,4,5,7,8,9,13,14,15] I (zaw (zay (zaC I (zcy (i:=2) tf4 I I I)) ?_))))))))))))
 rw [zMI hne]
theorem zMv (a:yO) (cap:Nat) (S:List ShC) (b:yO) (bcap:Nat) (V:List WlC) (ca:yO) (ccap:Nat) (cs:List ByteArray) (ba:yO) (bcp:Nat) (bs:List Bdr) (x:Anm) (frm to:Int) (la:yO) (lcap:Nat) (l:List (Int×Int)) (pa:yO) (pcap:Nat) (pf:List Int) (w:World) (hl:yag w a S) (hs:zaP S.length) (hcS:S.length≤cap) (hlw:yah w b V) (hsw:zaP V.length) (hsh:yab S w) (hss:yac S) (hwo:yaa V w) (hsv:yae V) (hcp:yad V) (hkn:yaf V) (hc:yai w ca cs) (hcs:zaP cs.length) (hcap:cs.length≤ccap) (hbd:yaj w ba bs) (hbs:zaP bs.length) (hll:Has w (zaW la 2 zyQ l)) (hls:l.length≤300000) (hpf:Has w (Ints pa pf)) (hpb:yar pf):Calls Tryz.prog 35 #[zzz3 a S cap b V bcap,zzz4 ca cs ccap ba bs bcp,zzz1 x,O frm,O to,C la l.length lcap,C pa pf.length pcap] w (Pure (.bool (prvA S V cs bs x frm to l pf)) w):=by
 by_cases hat:atE S V cs bs x [frm,to]=0
 ·exact zMz a cap S b bcap V ca ccap cs ba bcp bs x frm to la lcap l pa pcap pf w hl hs hcS hlw hsw hsh hss hwo hsv hcp hkn hc hcs hcap hbd hbs hll hls hpf hpb hat
 ·exact zMy a cap S b bcap V ca ccap cs ba bcp bs x frm to la lcap l pa pcap pf w hl hs hcS hlw hsw hsh hss hwo hsv hcp hkn hc hcs hcap hbd hbs hll hls hpf hpb hat
theorem zIy:FO Tryz.prog 160 0 0:=fK
theorem se76:SE Tryz.prog 76 160 2:=⟨Tryz.underlying76,by kernel_rfl⟩
theorem en64:En Tryz.prog 64:=eK Tryz.func64
end Go.Proofs.YteepmmghanbllaaGreatDoor
namespace Go.Fld
open Go Go.K Go.Stn Go.Pln
section
variable {s:Sht} {shut:Bool} {g h:Int} {l:List Opn} {x:Anm}
theorem zNi:∀ n,(acrN s shut g h l x n).some=false→acrN s shut g h l x n=⟨0,0,false⟩
 | 0,_=>rfl
 | n+1,hs=>by
  unfold acrN at hs ⊢
  simp only at hs ⊢
  split at hs
  ·cases hs
  ·rename_i hc
   rw [if_neg hc];exact zNi n hs
end
section
variable {S:List ShC} {V:List WlC} {cs:List ByteArray} {bs:List Bdr} {x:Anm} {frm to cell i cur:Int} {l:List (Int×Int)} {pf pen:List Int} {b:Bdr}
theorem zNn (hok:zym S V cs bs x=true) (h0:0≤i) (h1:i<bs.length) (back:Bool):0≤(acrE S V bs x i back).eff∧(acrE S V bs x i back).eff≤7001:=by
 cases hs:(acrE S V bs x i back).some with
 | false=>
  have e:acrE S V bs x i back=⟨0,0,false⟩:=zNi _ hs
  rw [e];exact⟨by decide,by decide⟩
 | true=>
  have e:mayB S V x (bs.getD i.toNat default) back (acrE S V bs x i back).way=((acrE S V bs x i back).eff,true):=zDp _ hs
  have:=zJS hok h0 h1 back (acrE S V bs x i back).way
  rw [e] at this
  exact⟨this.1,this.2.1⟩
theorem zNJ (h:b.a=cur∨(¬ b.a=cur∧b.b=cur)):((!decide (b.a=cur))=false∧b.a=cur)∨((!decide (b.a=cur))=true∧¬ b.a=cur∧b.b=cur):=by
 rcases h with h | ⟨h,h2⟩
 ·exact .inl ⟨by rw [decide_eq_true h];rfl,h⟩
 ·exact .inr ⟨by rw [decide_eq_false h];rfl,h,h2⟩
theorem pn_1 (h:((!risB pen)||(!hasI pen cell))=true):isPn S V cs bs x cell pen=false:=by
 unfold isPn
 cases h1:risB pen <;> cases h2:hasI pen cell <;> rw [h1,h2] at h <;> first|rfl|cases h
theorem pn_2 (h0:0≤i) (hi:i<pen.length) (h:zBG cs.length (pen.getD i.toNat default)=false):isPn S V cs bs x cell pen=false:=by
 unfold isPn
 rw [zc9 (p:=λ i=>zBG cs.length (pen.getD i default)) (i:=i.toNat) (by omega) h];simp
theorem zNy (h0:0≤i):isP S V bs x pen i.toNat=(!(((acrE S V bs x i false).some&&hasI pen (bs.getD i.toNat default).a)&&!hasI pen (bs.getD i.toNat default).b)&&!(((acrE S V bs x i true).some&&hasI pen (bs.getD i.toNat default).b)&&!hasI pen (bs.getD i.toNat default).a)):=by
 unfold isP;rw [tN h0]
theorem pn_3 (h0:0≤i) (hi:i<bs.length) (h:(((acrE S V bs x i false).some&&hasI pen (bs.getD i.toNat default).a)&&!hasI pen (bs.getD i.toNat default).b)=true∨(((acrE S V bs x i true).some&&hasI pen (bs.getD i.toNat default).b)&&!hasI pen (bs.getD i.toNat default).a)=true):isPn S V cs bs x cell pen=false:=by
 unfold isPn
 rw [zc9 (p:=isP S V bs x pen) (i:=i.toNat) (by omega) (by rw [zNy h0];rcases h with h|h <;> rw [h] <;> simp),Bool.and_false]
theorem zNB (h0:0≤i) (h:(((acrE S V bs x i false).some&&hasI pen (bs.getD i.toNat default).a)&&!hasI pen (bs.getD i.toNat default).b)=false) (h2:(((acrE S V bs x i true).some&&hasI pen (bs.getD i.toNat default).b)&&!hasI pen (bs.getD i.toNat default).a)=false):isP S V bs x pen i.toNat=true:=by rw [zNy h0,h,h2];rfl
theorem zNH (h:((!risB pen)||(!hasI pen cell))=false) (h2:∀ j:Nat,j<pen.length→zBG cs.length (pen.getD j default)=true) (h3:∀ j:Nat,j<bs.length→isP S V bs x pen j=true):isPn S V cs bs x cell pen=true:=by
 rw [oF,nF,nF] at h
 unfold isPn
 rw [h.1,h.2,zdf.2 h2,zdf.2 h3];rfl
theorem wn_1 (h:¬ pf.length=cs.length∨¬ pf.getD frm.toNat default=0):isWk S V cs bs x frm to l pf=false:=by
 unfold isWk
 rcases h with h|h <;> rw [decide_eq_false h] <;> simp
theorem zNz (h0:0≤i):isT S V bs x pf i.toNat=(!((acrE S V bs x i false).some&&decide (pf.getD (bs.getD i.toNat default).a.toNat default+(acrE S V bs x i false).eff<pf.getD (bs.getD i.toNat default).b.toNat default))&&!((acrE S V bs x i true).some&&decide (pf.getD (bs.getD i.toNat default).b.toNat default+(acrE S V bs x i true).eff<pf.getD (bs.getD i.toNat default).a.toNat default))):=by
 unfold isT;rw [tN h0]
theorem wn_2 (h0:0≤i) (hi:i<bs.length) (h:((acrE S V bs x i false).some&&decide (pf.getD (bs.getD i.toNat default).a.toNat default+(acrE S V bs x i false).eff<pf.getD (bs.getD i.toNat default).b.toNat default))=true∨((acrE S V bs x i true).some&&decide (pf.getD (bs.getD i.toNat default).b.toNat default+(acrE S V bs x i true).eff<pf.getD (bs.getD i.toNat default).a.toNat default))=true):isWk S V cs bs x frm to l pf=false:=by
 unfold isWk
 rw [zc9 (p:=isT S V bs x pf) (i:=i.toNat) (by omega) (by rw [zNz h0];rcases h with h|h <;> rw [h] <;> simp)];simp
theorem zND (h0:0≤i) (h:((acrE S V bs x i false).some&&decide (pf.getD (bs.getD i.toNat default).a.toNat default+(acrE S V bs x i false).eff<pf.getD (bs.getD i.toNat default).b.toNat default))=false) (h2:((acrE S V bs x i true).some&&decide (pf.getD (bs.getD i.toNat default).b.toNat default+(acrE S V bs x i true).eff<pf.getD (bs.getD i.toNat default).a.toNat default))=false):isT S V bs x pf i.toNat=true:=by rw [zNz h0,h,h2];rfl
theorem zNI (h:pf.length=cs.length) (h2:pf.getD frm.toNat default=0) (h3:∀ j:Nat,j<bs.length→isT S V bs x pf j=true):isWk S V cs bs x frm to l pf=endB (wkdA S V bs x frm l) to (pf.getD to.toNat default):=by
 unfold isWk
 rw [decide_eq_true h,decide_eq_true h2,zdf.2 h3];rfl
end
end Go.Fld
namespace Go.Proofs.YteepmmghanbllaaGreatDoor
open Go.K Go.Stn Go.Pln Go.Fld Go.RowKit
theorem zMX:FO Tryz.prog 160 1 1:=fK
theorem en26:En Tryz.prog 26:=eK Tryz.func26
theorem en41:En Tryz.prog 41:=eK Tryz.func41
theorem en63:En Tryz.prog 63:=eK Tryz.func63
theorem zNq (a:yO) (cap:Nat) (S:List ShC) (b:yO) (bcap:Nat) (V:List WlC) (ca:yO) (ccap:Nat) (cs:List ByteArray) (ba:yO) (bcp:Nat) (bs:List Bdr) (x:Anm) (frm:Int) (la:yO) (lcap:Nat) (l:List (Int×Int)) (w:World) (hl:yag w a S) (hs:zaP S.length) (hcS:S.length≤cap) (hlw:yah w b V) (hsw:zaP V.length) (hsh:yab S w) (hss:yac S) (hwo:yaa V w) (hsv:yae V) (hcp:yad V) (hkn:yaf V) (hc:yai w ca cs) (hcs:zaP cs.length) (hcap:cs.length≤ccap) (hbd:yaj w ba bs) (hbs:zaP bs.length) (hok:(zym S V cs bs x)=true) (hll:Has w (zaW la 2 zyQ l)) (hls:l.length≤300000) :
  Calls Tryz.prog 41 #[zzz3 a S cap b V bcap,zzz4 ca cs ccap ba bs bcp,zzz1 x,O frm,C la l.length lcap] w (Pure (.tuple #[O (wkT (wkdA S V bs x frm l)).1,O (wkT (wkdA S V bs x frm l)).2.1,.bool (wkT (wkdA S V bs x frm l)).2.2]) w):=by
 refine zan (vs:=[_,_,_,_,_]) Tryz.func41 I I (bL I) (gS (zaG I I (za3 (vs:=[_,_]) I I) λ b5=>(zaG I I (za3 (vs:=[_,_]) I I) λ b6=>(zaG I I (za3 (vs:=[_,_,_,_,_]) I I) λ b7=>(gA I (gA I (gA I (gN [3,4,5,6,7,10,11,12] I (gS (gA I (gN [3,4,5,6,7,10,11,12,13] I (zac (gS (gA I (gN [3,4,5,6,7,10,11,12,13,14] I (zas (zbf (X:=Int×Int×Int) (λ⟨i,cur,eff⟩=>[(3,O cur),(4,C la l.length lcap),(5,U b5),(6,U b6),(7,U b7),(10,O 0),(11,O 0),(12,.bool false),(13,O eff),(14,O i)]) (λ⟨i,cur,eff⟩=>[Box b7 (zzz2 x) 31,Box b6 (zzz6 ca cs ccap ba bs bcp) 29,Box b5 (zzz5 a S cap b V bcap) 25]) (λ⟨i,cur,eff⟩=>(0≤i∧i≤l.length∧wkdN S V bs x frm l i.toNat=some (cur,eff))) (λ⟨i,cur,eff⟩=>(l.length - i).toNat) (0,frm,0) (sB I) I ?_ ?_)))))))))))))))))
 ·exact⟨by omega,by omega,rfl⟩
 ·rintro ⟨i,cur,eff⟩ hI
  obtain⟨g0,g1,g2⟩:=hI
  refine zac (gS (gM I (gM I (gQ (zaV (Tryz.underlying76) I) (gQ (zbw I I) (gN [3,4,5,6,7,10,11,12,13,14,22] I (zap I (λ hc22=>?_) (λ hc22=>?_))))))))
  ·have hc22:=oT hc22
   have hwin:=zMW hok g2
   refine zaq (zac (zas (gS (gM I (gM I (gQ (zaE se76 I I (λ _=>rH hll)) (gQ (zbh zIy I (λ w hw=>zaO (i:=i) (rH hll hw))) (gQ (zbn tf3 I (λ _=>rH hll) (by omega) (by omega) I) (gA I (gN [3,4,5,6,7,10,11,12,13,14,15] I (zih (X:=Unit) (λ _=>[(3,O cur),(4,C la l.length lcap),(5,U b5),(6,U b6),(7,U b7),(10,O 0),(11,O 0),(12,.bool false),(13,O eff),(14,O i),(15,O (l.getD i.toNat default).1)]) (λ _=>[Box b7 (zzz2 x) 31,Box b6 (zzz6 ca cs ccap ba bs bcp) 29,Box b5 (zzz5 a S cap b V bcap) 25]) (λ _=>((0≤(l.getD i.toNat default).1∧(l.getD i.toNat default).1<bs.length)∧((bs.getD (l.getD i.toNat default).1.toNat default).a=cur∨(¬ (bs.getD (l.getD i.toNat default).1.toNat default).a=cur∧(bs.getD (l.getD i.toNat default).1.toNat default).b=cur)))) ?_ ?_)))))))))))
   ·refine gS (gM I (gQ (zbw I I) (gM I (zai I I I I (λ hg32=>?_) (λ hg32=>?_)))))
    ·replace hg32:_=false:=hg32
     try rw [hg32]
     refine gM I ?_
     have hg32:=oD hg32
     refine gT I I I (gQ (zab zzL I) (gT I I I (gQ (zah 1 tf27 I I I) (gT I I I (gQ (zaV (Tryz.underlying27) I) (gT I I I (gQ (zfx I I) (gQ (za5 I I I) (gM I (zai I I I I (λ hg39=>?_) (λ hg39=>?_)))))))))))
     ·replace hg39:_=false:=hg39
      try rw [hg39]
      refine gQ (zab zzL I) ?_
      have hg39:=oD hg39
      have z0:0≤(l.getD i.toNat default).1:=by omega
      have z1:(l.getD i.toNat default).1<bs.length:=by omega
      refine gT I I I (gQ (zah 1 tf27 I I I) (gT I I I (gM I (gT I I I (gQ (zaE se27 I I (λ _=>rH hbd)) (gT I I I (gQ (zbh zCa I (λ w hw=>zaO (i:=(l.getD i.toNat default).1) (rH hbd hw))) (gT I I I (gQ (zbn tf3 I (λ _=>rH hbd) (by omega) (by omega) I) (gT I I I (gM I (gT I I I (gQ (zcr I I) (gT I I I (gM I (zai I I I I (λ hg48=>?_) (λ hg48=>?_)))))))))))))))))
      ·replace hg48:_=true:=hg48
       try rw [hg48]
       refine gQ (zab zzL I) (gT I I I (gQ (zah 1 tf27 I I I) (gT I I I (gM I (gT I I I (gQ (zaE se27 I I (λ _=>rH hbd)) (gT I I I (gQ (zbh zCb I (λ w hw=>zaO (i:=(l.getD i.toNat default).1) (rH hbd hw))) (gT I I I (gQ (zbn tf3 I (λ _=>rH hbd) (by omega) (by omega) I) (gT I I I (gM I (gT I I I (gQ (zcr I I) (gT I I I (gQ (za5 I I I) (gQ (za5 I I I) (gN [3,4,5,6,7,10,11,12,13,14,15,58] I (zap I (λ hc58=>?_) (λ hc58=>?_))))))))))))))))))))
       ·have hno:=zMu g2 (by omega) (zMP (by simpa using hg48) (by simpa using hc58))
        refine gS (gA I (gA I (gA I (gN [3,4,5,6,7,10,11,12,13,14,15] I (zaw (zay (zdh I (zau I) (zau I) (zau I)) ?_))))))
        first|(rw [hno];rfl)|(rw [zMu g2 (by omega) (zM7 (by unfold zBG;(first|rw [decide_eq_false (by have:=oT hg32;omega:¬ 0≤(l.getD i.toNat default).1)]|rw [decide_eq_false (by have:=oT hg39;omega:¬ (l.getD i.toNat default).1<(bs.length:Int))]);simp))];rfl)
       ·refine zaq ?_
        exact zb9 () (sB I) I ⟨⟨z0,z1⟩,by first|exact .inl (by simpa using hg48)|exact .inr ⟨by simpa using hg48,by simpa using hc58⟩⟩
      ·replace hg48:_=false:=hg48
       try rw [hg48]
       refine gF I I I (gF I I I (gF I I I (gF I I I (gF I I I (gF I I I (gF I I I (gT I I I (gQ (za5 I I I) (gQ (za5 I I I) (gN [3,4,5,6,7,10,11,12,13,14,15,58] I (zd8 I (zaq ?_))))))))))))
       exact zb9 () (sB I) I ⟨⟨z0,z1⟩,by first|exact .inl (by simpa using hg48)|exact .inr ⟨by simpa using hg48,by simpa using hc58⟩⟩
     ·replace hg39:_=true:=hg39
      try rw [hg39]
      refine gF I I I (gF I I I (gF I I I (gF I I I (gF I I I (gF I I I (gF I I I (gF I I I (zNe I I I I (zNe I I I I (zNe I I I I (zNe I I I I (zNe I I I I (zNe I I I I (zNe I I I I (zNe I I I I (gF I I I (gQ (za5 I I I) (gN [3,4,5,6,7,10,11,12,13,14,15,58] I (zdg I (gS (gA I (gA I (gA I (gN [3,4,5,6,7,10,11,12,13,14,15] I (zaw (zay (zdh I (zau I) (zau I) (zau I)) ?_))))))))))))))))))))))))))
      first|(rw [hno];rfl)|(rw [zMu g2 (by omega) (zM7 (by unfold zBG;(first|rw [decide_eq_false (by have:=oT hg32;omega:¬ 0≤(l.getD i.toNat default).1)]|rw [decide_eq_false (by have:=oT hg39;omega:¬ (l.getD i.toNat default).1<(bs.length:Int))]);simp))];rfl)
    ·replace hg32:_=true:=hg32
     try rw [hg32]
     refine gF I I I (gF I I I (gF I I I (gF I I I (gQ (za5 I I I) (gM I (gF I I I (gF I I I (gF I I I (gF I I I (gF I I I (gF I I I (gF I I I (gF I I I (gF I I I (zNe I I I I (zNe I I I I (zNe I I I I (zNe I I I I (zNe I I I I (zNe I I I I (zNe I I I I (zNe I I I I (gF I I I (gQ (za5 I I I) (gN [3,4,5,6,7,10,11,12,13,14,15,58] I (zdg I (gS (gA I (gA I (gA I (gN [3,4,5,6,7,10,11,12,13,14,15] I (zaw (zay (zdh I (zau I) (zau I) (zau I)) ?_)))))))))))))))))))))))))))))))))
     first|(rw [hno];rfl)|(rw [zMu g2 (by omega) (zM7 (by unfold zBG;(first|rw [decide_eq_false (by have:=oT hg32;omega:¬ 0≤(l.getD i.toNat default).1)]|rw [decide_eq_false (by have:=oT hg39;omega:¬ (l.getD i.toNat default).1<(bs.length:Int))]);simp))];rfl)
   ·rintro _ hJ
    obtain⟨⟨z0,z1⟩,hJ⟩:=hJ
    have hJ5:=zNJ hJ
    have hz:zBG bs.length (l.getD i.toNat default).1=true:=by unfold zBG;rw [decide_eq_true z0,decide_eq_true z1];rfl
    refine gS (gQ (zab zzL I) (gQ (zah 1 tf27 I I I) (gM I (gQ (zaE se27 I I (λ _=>rH hbd)) (gQ (zbh zCa I (λ w hw=>zaO (i:=(l.getD i.toNat default).1) (rH hbd hw))) (gQ (zbn tf3 I (λ _=>rH hbd) (by omega) (by omega) I) (gM I (gQ (zcr I I) (gA I (gN [3,4,5,6,7,10,11,12,13,14,15,16] I (zac (gZ 16 (ph_y (zat 2 tf25 I I (vs:=[_,_]) I I) (ph_y (zat 1 tf29 I I (vs:=[_,_]) I I) (ph_y (zat 0 tf31 I I (vs:=[_,_,_,_,_]) I I) (ph_y (zaf I) (ph_y (zaf I) (ph_y (zaf I) (ph_y (zaf I) (ph_y (zaE se76 I I (λ _=>rH hll)) (ph_y (zbh zMX I (λ w hw=>zaO (i:=i) (rH hll hw))) (ph_y (zbn tf3 I (λ _=>rH hll) (by omega) (by omega) I) (ph_y (zaJ en53 I (λ w hw=>zFz _ _ S _ _ V _ _ cs _ _ bs x (l.getD i.toNat default).1 (!decide ((bs.getD (l.getD i.toNat default).1.toNat default).a=cur)) (l.getD i.toNat default).2 w (rH hl hw) hs hcS (rH hlw hw) hsw (λ z hz=>(rH (hsh z hz) hw)) hss (λ z hz=>(rH (hwo z hz) hw)) hsv hcp hkn (rH hc hw) hcs hcap (rH hbd hw) hbs hok z0 z1)) (ph_y (zaf I) (ph_y (zaB I I) (ph_y (zaB I I) (ph_y (zad I) (ph_y (zad I) (gN [3,4,5,6,7,10,11,12,13,14,15,16,17,18] I (zac (zac ?_)))))))))))))))))))))))))))))))
    refine zaa (gM I (gQ (zbR I) (gN [3,4,5,6,7,10,11,12,13,14,15,16,17,82] I (zap I (λ hc82=>?_) (λ hc82=>?_)))))
    ·have hm0:(mayB S V x (bs.getD (l.getD i.toNat default).1.toNat default) (!decide ((bs.getD (l.getD i.toNat default).1.toNat default).a=cur)) (l.getD i.toNat default).2).2=false:=by simpa using hc82
     have hno:=zMu g2 (by omega) (zMV hz hJ5 hm0)
     refine gS (gA I (gA I (gA I (gN [3,4,5,6,7,10,11,12,13,14,15,16,17] I (zaw (zay (zdh I (zau I) (zau I) (zau I)) ?_))))))
     first|(rw [hno];rfl)|(rw [zMu g2 (by omega) (zM7 (by unfold zBG;(first|rw [decide_eq_false (by have:=oT hg32;omega:¬ 0≤(l.getD i.toNat default).1)]|rw [decide_eq_false (by have:=oT hg39;omega:¬ (l.getD i.toNat default).1<(bs.length:Int))]);simp))];rfl)
    ·have hm0:(mayB S V x (bs.getD (l.getD i.toNat default).1.toNat default) (!decide ((bs.getD (l.getD i.toNat default).1.toNat default).a=cur)) (l.getD i.toNat default).2).2=true:=by simpa using hc82
     have hnx:=zMR g2 (zM8 hz hJ5 hm0)
     have hmi:=zJS hok z0 z1 (!decide ((bs.getD (l.getD i.toNat default).1.toNat default).a=cur)) (l.getD i.toNat default).2
     refine zaq (gS (gM I (gM I (gQ (zaY I I) (gA I (gN [3,4,5,6,7,10,11,12,13,14,15,16] I (gS (gQ (zab zzL I) (gQ (zah 1 tf27 I I I) (gM I (gQ (zaE se27 I I (λ _=>rH hbd)) (gQ (zbh zCb I (λ w hw=>zaO (i:=(l.getD i.toNat default).1) (rH hbd hw))) (gQ (zbn tf3 I (λ _=>rH hbd) (by omega) (by omega) I) (gA I (gN [3,4,5,6,7,10,11,12,13,14,15,16] I (gS (gM I (gN [3,4,5,6,7,10,11,12,13,14,15,92] I (zap I (λ hc92=>?_) (λ hc92=>?_))))))))))))))))))))
     ·refine zaa (gQ (zab zzL I) (gQ (zah 1 tf27 I I I) (gM I (gQ (zaE se27 I I (λ _=>rH hbd)) (gQ (zbh zCa I (λ w hw=>zaO (i:=(l.getD i.toNat default).1) (rH hbd hw))) (gQ (zbn tf3 I (λ _=>rH hbd) (by omega) (by omega) I) (gA I (gN [3,4,5,6,7,10,11,12,13,14] I (zaa (gM I (gQ (zaY I I) (gA I (gN [3,4,5,6,7,10,11,12,13,14] I ?_)))))))))))))
      exact za1 (i+1,_,_) (sB I) I ⟨by omega,by omega,by rw [show(i+1).toNat=i.toNat+1 from by omega,hnx,endW];first|rw [if_pos hc92]|rw [if_neg (by rw [hc92];exact fT)]⟩ (by simp only [];omega)
     ·refine zaq (zaa (gM I (gQ (zaY I I) (gA I (gN [3,4,5,6,7,10,11,12,13,14] I ?_)))))
      exact za1 (i+1,_,_) (sB I) I ⟨by omega,by omega,by rw [show(i+1).toNat=i.toNat+1 from by omega,hnx,endW];first|rw [if_pos hc92]|rw [if_neg (by rw [hc92];exact fT)]⟩ (by simp only [];omega)
  ·have hc22:=oD hc22
   have hfin:wkdA S V bs x frm l=some (cur,eff):=by rw [←g2,show i.toNat=l.length from by omega];rfl
   refine za8 I (gS (gM I (gM I (gA I (gA I (gA I (gN [10,11,12] I (zaw (zay (zdh I (zau I) (zau I) (zau I)) ?_)))))))))
   rw [hfin];rfl
theorem zNx (a:yO) (cap:Nat) (S:List ShC) (b:yO) (bcap:Nat) (V:List WlC) (ca:yO) (ccap:Nat) (cs:List ByteArray) (ba:yO) (bcp:Nat) (bs:List Bdr) (x:Anm) (cell:Int) (pa:yO) (pcap:Nat) (pen:List Int) (w:World) (hl:yag w a S) (hs:zaP S.length) (hcS:S.length≤cap) (hlw:yah w b V) (hsw:zaP V.length) (hsh:yab S w) (hss:yac S) (hwo:yaa V w) (hsv:yae V) (hcp:yad V) (hkn:yaf V) (hc:yai w ca cs) (hcs:zaP cs.length) (hcap:cs.length≤ccap) (hbd:yaj w ba bs) (hbs:zaP bs.length) (hok:(zym S V cs bs x)=true) (hpn:Has w (Ints pa pen)) (hps:pen.length≤45) :
  Calls Tryz.prog 34 #[zzz3 a S cap b V bcap,zzz4 ca cs ccap ba bs bcp,zzz1 x,O cell,C pa pen.length pcap] w (Pure (.bool (isPn S V cs bs x cell pen)) w):=by
 obtain⟨_,hcs40,hbs80,_,_,hbo⟩:=zzD hok
 refine zan (vs:=[_,_,_,_,_]) Tryz.func34 I I (bL I) (gS (zaG I I (za3 (vs:=[_,_]) I I) λ b5=>(zaG I I (za3 (vs:=[_,_]) I I) λ b6=>(zaG I I (za3 (vs:=[_,_,_,_,_]) I I) λ b7=>(gA I (gN [3,4,5,6,7,10] I (zac (zac (gZ 9 (ph_y (zaf I) (ph_y (zaJ en63 I (λ w hw=>zNp _ _ pen w (rH hpn hw) (by first|assumption|(unfold zaP;omega)))) (ph_y (zbR I) (ph_y (zaf I) (zaz I I (λ jj=>by(try rw [jj]);exact zaf I) (zaz I I (λ jj=>by(try rw [jj]);exact zaf I) (zaz I I (λ jj=>by(try rw [jj]);exact zaJ (v:=.bool (hasI pen cell)) en64 I (λ w hw=>zKb _ _ pen cell w (rH hpn hw) (by first|assumption|(unfold zaP;omega)))) (zaz I I (λ jj=>by(try rw [jj]);exact zbR I) (ph_y (zaR I I I) (gN [4,5,6,7,10,25] I (zap I (λ hc25=>?_) (λ hc25=>?_)))))))))))))))))))))
 ·have hno:=pn_1 (S:=S) (V:=V) (cs:=cs) (bs:=bs) (x:=x) hc25
  refine gS (gA I (gN [4,5,6,7,10] I (zaw (zay (zaC I (zau I)) ?_))))
  rw [hno]
 ·refine zaq (zac (gS (gA I (gN [4,5,6,7,10,11] I (zas (zbf (X:=Int) (λ(k:Int)=>[(4,C pa pen.length pcap),(5,U b5),(6,U b6),(7,U b7),(10,.bool false),(11,O k)]) (λ(k:Int)=>[Box b7 (zzz2 x) 31,Box b6 (zzz6 ca cs ccap ba bs bcp) 29,Box b5 (zzz5 a S cap b V bcap) 25]) (λ(k:Int)=>(0≤k∧k≤pen.length∧∀ j:Nat,(j:Int)<k→zBG cs.length (pen.getD j default)=true)) (λ(k:Int)=>(pen.length - k).toNat) 0 (sB I) I ?_ ?_))))))
  ·exact⟨by omega,by omega,λ j hj=>by omega⟩
  ·rintro k hI
   obtain⟨k0,k1,k2⟩:=hI
   refine zac (gS (gM I (gM I (gQ (zaV (Tryz.underlying45) I) (gQ (zbw I I) (gN [4,5,6,7,10,11,29] I (zap I (λ hc29=>?_) (λ hc29=>?_))))))))
   ·have hc29:=oT hc29
    refine zaq (zac (zas (zac (gZ 7 (ph_y (zat 1 tf29 I I (vs:=[_,_]) I I) (ph_y (zaf I) (ph_y (zaf I) (ph_y (zaE se45 I I (λ _=>rH hpn)) (ph_y (zcE tf3 I (λ _=>rH hpn) (by omega) (by omega) I) (ph_y (zaJ en20 I (λ w hw=>zEc _ _ cs _ _ bs (pen.getD k.toNat default) w)) (ph_y (zbR I) (gN [4,5,6,7,10,11,38] I (zap I (λ hc38=>?_) (λ hc38=>?_))))))))))))))
    ·have hno:=pn_2 (S:=S) (V:=V) (bs:=bs) (x:=x) (cell:=cell) k0 hc29 (by simpa using hc38)
     refine gS (gA I (gN [4,5,6,7,10,11] I (zaw (zay (zaC I (zau I)) ?_))))
     rw [hno]
    ·have hcz:zBG cs.length (pen.getD k.toNat default)=true:=by simpa using hc38
     refine zaq (zaa (gM I (gQ (zaY I I) (gA I (gN [4,5,6,7,10,11] I ?_)))))
     exact za1 (k+1) (sB I) I ⟨by omega,by omega,λ j hj=>if h:(j:Int)<k then k2 j h else(by rw [show j=k.toNat from by omega];exact hcz)⟩ (by omega)
   ·have hc29:=oD hc29
    have hcl:∀ j:Nat,j<pen.length→zBG cs.length (pen.getD j default)=true:=λ j hj=>k2 j (by omega)
    refine za8 I (zac (gS (gA I (gN [4,5,6,7,10,12] I (zas (zbf (X:=Int) (λ(i:Int)=>[(4,C pa pen.length pcap),(5,U b5),(6,U b6),(7,U b7),(10,.bool false),(12,O i)]) (λ(i:Int)=>[Box b7 (zzz2 x) 31,Box b6 (zzz6 ca cs ccap ba bs bcp) 29,Box b5 (zzz5 a S cap b V bcap) 25]) (λ(i:Int)=>(0≤i∧i≤bs.length∧∀ j:Nat,(j:Int)<i→isP S V bs x pen j=true)) (λ(i:Int)=>(bs.length - i).toNat) 0 (sB I) I ?_ ?_))))))
    ·exact⟨by omega,by omega,λ j hj=>by omega⟩
    ·rintro i hI
     obtain⟨g0,g1,g2⟩:=hI
     refine zac (gS (gM I (gQ (zab zzL I) (gQ (zah 1 tf27 I I I) (gQ (zaV (Tryz.underlying27) I) (gQ (zbw I I) (gN [4,5,6,7,10,12,43] I (zap I (λ hc43=>?_) (λ hc43=>?_)))))))))
     ·have hci:=oT hc43
      refine zaq (zac (zas (gS (gQ (zab zzL I) (gQ (zah 1 tf27 I I I) (gM I (gQ (zaE se27 I I (λ _=>rH hbd)) (gQ (zbv (vs:=[_,_,_,_,_,_]) zAU I (λ _=>rH hbd) (by omega) (by omega) I) (zaG I I (zaL zAU (zs:=[_,_,_,_,_,_]) I) λ b13=>(zaA 0 zAU I I (vs:=[_,_,_,_,_,_]) I I I I I (gN [4,5,6,7,10,12,13] I (gS (gQ (zat 3 tf25 I I (vs:=[_,_]) I I) (gQ (zat 2 tf29 I I (vs:=[_,_]) I I) (gQ (zat 1 tf31 I I (vs:=[_,_,_,_,_]) I I) (gM I (gQ (zaJ en26 I (λ w hw=>zEb _ _ S _ _ V _ _ cs _ _ bs x i false w (rH hl hw) hs hcS (rH hlw hw) hsw (λ z hz=>(rH (hsh z hz) hw)) hss (λ z hz=>(rH (hwo z hz) hw)) hsv hcp hkn (rH hc hw) hcs hcap (rH hbd hw) hbs hok g0 hci)) (gM I (gQ (zaB I I) (gQ (zaB I I) (gQ (zaB I I) (gA I (gA I (gA I (gN [4,5,6,7,10,12,13,16] I (zac (zac (gZ 14 (ph_y (zaf I) (ph_y (zaf I) (zaH I I (λ jj=>by(try rw [jj]);exact zaf I) (zaH I I (λ jj=>by(try rw [jj]);exact zab zCa I) (zaH I I (λ jj=>by(try rw [jj]);exact zah 0 tf3 I I I) ?_)))))))))))))))))))))))))))))))))
      refine zaH I I (λ jj=>by(try rw [jj]);exact zaJ (v:=.bool (hasI pen ((bs.getD i.toNat default).a))) en64 I (λ w hw=>zKb _ _ pen ((bs.getD i.toNat default).a) w (rH hpn hw) (by first|assumption|(unfold zaP;omega)))) (ph_y (zaX I I I) (ph_y (zaf I) (zaH I I (λ jj=>by(try rw [jj]);exact zaf I) (zaH I I (λ jj=>by(try rw [jj]);exact zab zCb I) (zaH I I (λ jj=>by(try rw [jj]);exact zah 0 tf3 I I I) (zaH I I (λ jj=>by(try rw [jj]);exact zaJ (v:=.bool (hasI pen ((bs.getD i.toNat default).b))) en64 I (λ w hw=>zKb _ _ pen ((bs.getD i.toNat default).b) w (rH hpn hw) (by first|assumption|(unfold zaP;omega)))) (zaH I I (λ jj=>by(try rw [jj]);exact zbR I) (ph_y (zaX I I I) (gN [4,5,6,7,10,12,13,16,73] I (zap I (λ hc73=>?_) (λ hc73=>?_)))))))))))
      ·have hno:=pn_3 (cs:=cs) (cell:=cell) g0 hci (.inl hc73)
       refine gS (gA I (gN [4,5,6,7,10,12,13,16] I (zaw (zay (zaC I (zau I)) ?_))))
       rw [hno]
      ·refine zaq (gS (gQ (zat 3 tf25 I I (vs:=[_,_]) I I) (gQ (zat 2 tf29 I I (vs:=[_,_]) I I) (gQ (zat 1 tf31 I I (vs:=[_,_,_,_,_]) I I) (gM I (gQ (zaJ en26 I (λ w hw=>zEb _ _ S _ _ V _ _ cs _ _ bs x i true w (rH hl hw) hs hcS (rH hlw hw) hsw (λ z hz=>(rH (hsh z hz) hw)) hss (λ z hz=>(rH (hwo z hz) hw)) hsv hcp hkn (rH hc hw) hcs hcap (rH hbd hw) hbs hok g0 hci)) (gM I (gQ (zaB I I) (gQ (zaB I I) (gQ (zaB I I) (gA I (gN [4,5,6,7,10,12,13,16] I (zac (gZ 14 (ph_y (zaf I) (ph_y (zaf I) (zaH I I (λ jj=>by(try rw [jj]);exact zaf I) (zaH I I (λ jj=>by(try rw [jj]);exact zab zCb I) (zaH I I (λ jj=>by(try rw [jj]);exact zah 0 tf3 I I I) (zaH I I (λ jj=>by(try rw [jj]);exact zaJ (v:=.bool (hasI pen ((bs.getD i.toNat default).b))) en64 I (λ w hw=>zKb _ _ pen ((bs.getD i.toNat default).b) w (rH hpn hw) (by first|assumption|(unfold zaP;omega)))) (ph_y (zaX I I I) (ph_y (zaf I) (zaH I I (λ jj=>by(try rw [jj]);exact zaf I) (zaH I I (λ jj=>by(try rw [jj]);exact zab zCa I) (zaH I I (λ jj=>by(try rw [jj]);exact zah 0 tf3 I I I) ?_)))))))))))))))))))))))))
       refine zaH I I (λ jj=>by(try rw [jj]);exact zaJ (v:=.bool (hasI pen ((bs.getD i.toNat default).a))) en64 I (λ w hw=>zKb _ _ pen ((bs.getD i.toNat default).a) w (rH hpn hw) (by first|assumption|(unfold zaP;omega)))) (zaH I I (λ jj=>by(try rw [jj]);exact zbR I) (ph_y (zaX I I I) (gN [4,5,6,7,10,12,96] I (zap I (λ hc96=>?_) (λ hc96=>?_)))))
       ·have hno:=pn_3 (cs:=cs) (cell:=cell) g0 hci (.inr hc96)
        refine gS (gA I (gN [4,5,6,7,10,12] I (zaw (zay (zaC I (zau I)) ?_))))
        rw [hno]
       ·have hpi:=zNB g0 hc73 hc96
        refine zaq (zaa (gM I (gQ (zaY I I) (gA I (gN [4,5,6,7,10,12] I (zaK 0 I ?_))))))
        exact za1 (i+1) (sB I) I ⟨by omega,by omega,λ j hj=>if h:(j:Int)<i then g2 j h else(by rw [show j=i.toNat from by omega];exact hpi)⟩ (by omega)
     ·have hc43:=oD hc43
      have hyes:=zNH (S:=S) (V:=V) (bs:=bs) (x:=x) hc25 hcl (λ j hj=>g2 j (by omega))
      refine za8 I (gS (gA I (gN [10] I (zaw (zay (zaC I (zau I)) ?_)))))
      rw [hyes]
theorem zNo (a:yO) (cap:Nat) (S:List ShC) (b:yO) (bcap:Nat) (V:List WlC) (ca:yO) (ccap:Nat) (cs:List ByteArray) (ba:yO) (bcp:Nat) (bs:List Bdr) (x:Anm) (frm to:Int) (la:yO) (lcap:Nat) (l:List (Int×Int)) (pa:yO) (pcap:Nat) (pf:List Int) (w:World) (hl:yag w a S) (hs:zaP S.length) (hcS:S.length≤cap) (hlw:yah w b V) (hsw:zaP V.length) (hsh:yab S w) (hss:yac S) (hwo:yaa V w) (hsv:yae V) (hcp:yad V) (hkn:yaf V) (hc:yai w ca cs) (hcs:zaP cs.length) (hcap:cs.length≤ccap) (hbd:yaj w ba bs) (hbs:zaP bs.length) (hok:(zym S V cs bs x)=true) (f0:0≤frm) (f1:frm<cs.length) (t0:0≤to) (t1:to<cs.length) (hll:Has w (zaW la 2 zyQ l)) (hls:l.length≤300000) (hpf:Has w (Ints pa pf)) (hpb:yar pf) :
  Calls Tryz.prog 33 #[zzz3 a S cap b V bcap,zzz4 ca cs ccap ba bs bcp,zzz1 x,O frm,O to,C la l.length lcap,C pa pf.length pcap] w (Pure (.bool (isWk S V cs bs x frm to l pf)) w):=by
 obtain⟨_,hcs40,hbs80,_,_,hbo⟩:=zzD hok
 refine zan (vs:=[_,_,_,_,_,_,_]) Tryz.func33 I I (bL I) (gS (zaG I I (za3 (vs:=[_,_]) I I) λ b7=>(zaG I I (za3 (vs:=[_,_]) I I) λ b8=>(zaG I I (za3 (vs:=[_,_,_,_,_]) I I) λ b9=>(gA I (gN [3,4,5,6,7,8,9,14] I (zac (gS (gM I (gQ (zaV (Tryz.underlying45) I) (gQ (zab zAp I) (gQ (zah 1 tf26 I I I) (gQ (zaV (Tryz.underlying26) I) (gQ (zcr I I) (gM I (zai I I I I (λ hg29=>?_) (λ hg29=>?_)))))))))))))))))
 ·replace hg29:_=false:=hg29
  try rw [hg29]
  refine gM I ?_
  have hpl0:((pf.length:Int)=cs.length):=by simpa using hg29
  have hpl:pf.length=cs.length:=by omega
  refine gT I I I (gM I (gT I I I (gQ (zaE se45 I I (λ _=>rH hpf)) (gT I I I (gQ (zcE tf3 I (λ _=>rH hpf) (by omega) (by omega) I) (gT I I I (gQ (zcr I I) (gQ (za5 I I I) (gN [3,4,5,6,7,8,9,14,35] I (zap I (λ hc35=>?_) (λ hc35=>?_)))))))))))
  ·have hno:=wn_1 (S:=S) (V:=V) (cs:=cs) (bs:=bs) (x:=x) (to:=to) (l:=l) (.inr (by simpa using hc35))
   refine gS (gA I (gN [3,4,5,6,7,8,9,14] I (zaw (zay (zaC I (zau I)) ?_))))
   first|rw [hno]|rw [wn_1 (.inl (by rw [nT,dF] at hg29;omega))]
  ·have hp0:pf.getD frm.toNat default=0:=by simpa using hc35
   refine zaq (zac (gS (gA I (gN [3,4,5,6,7,8,9,14,15] I (zas (zbf (X:=Int) (λ(i:Int)=>[(3,O frm),(4,O to),(5,C la l.length lcap),(6,C pa pf.length pcap),(7,U b7),(8,U b8),(9,U b9),(14,.bool false),(15,O i)]) (λ(i:Int)=>[Box b9 (zzz2 x) 31,Box b8 (zzz6 ca cs ccap ba bs bcp) 29,Box b7 (zzz5 a S cap b V bcap) 25]) (λ(i:Int)=>(0≤i∧i≤bs.length∧∀ j:Nat,(j:Int)<i→isT S V bs x pf j=true)) (λ(i:Int)=>(bs.length - i).toNat) 0 (sB I) I ?_ ?_))))))
   ·exact⟨by omega,by omega,λ j hj=>by omega⟩
   ·rintro i hI
    obtain⟨g0,g1,g2⟩:=hI
    refine zac (gS (gM I (gQ (zab zzL I) (gQ (zah 1 tf27 I I I) (gQ (zaV (Tryz.underlying27) I) (gQ (zbw I I) (gN [3,4,5,6,7,8,9,14,15,40] I (zap I (λ hc40=>?_) (λ hc40=>?_)))))))))
    ·have hci:=oT hc40
     obtain⟨_,hba,hbb,_⟩:=zzq (hbo i.toNat (by omega))
     have ha1:0≤(acrB S V x (bs.getD i.toNat default) false ((zaN S V (bs.getD i.toNat default).wall).s.opens.length+1)).eff∧(acrB S V x (bs.getD i.toNat default) false ((zaN S V (bs.getD i.toNat default).wall).s.opens.length+1)).eff≤7001:=zNn hok g0 hci false
     have ha2:0≤(acrB S V x (bs.getD i.toNat default) true ((zaN S V (bs.getD i.toNat default).wall).s.opens.length+1)).eff∧(acrB S V x (bs.getD i.toNat default) true ((zaN S V (bs.getD i.toNat default).wall).s.opens.length+1)).eff≤7001:=zNn hok g0 hci true
     have hb1:=hpb _ (za0 (l:=pf) (i:=(bs.getD i.toNat default).a.toNat) (by omega))
     have hb2:=hpb _ (za0 (l:=pf) (i:=(bs.getD i.toNat default).b.toNat) (by omega))
     refine zaq (zac (zas (gS (gQ (zab zzL I) (gQ (zah 1 tf27 I I I) (gM I (gQ (zaE se27 I I (λ _=>rH hbd)) (gQ (zbv (vs:=[_,_,_,_,_,_]) zAU I (λ _=>rH hbd) (by omega) (by omega) I) (zaG I I (zaL zAU (zs:=[_,_,_,_,_,_]) I) λ b16=>(zaA 0 zAU I I (vs:=[_,_,_,_,_,_]) I I I I I (gN [3,4,5,6,7,8,9,14,15,16] I (gS (gQ (zat 3 tf25 I I (vs:=[_,_]) I I) (gQ (zat 2 tf29 I I (vs:=[_,_]) I I) (gQ (zat 1 tf31 I I (vs:=[_,_,_,_,_]) I I) (gM I (gQ (zaJ en26 I (λ w hw=>zEb _ _ S _ _ V _ _ cs _ _ bs x i false w (rH hl hw) hs hcS (rH hlw hw) hsw (λ z hz=>(rH (hsh z hz) hw)) hss (λ z hz=>(rH (hwo z hz) hw)) hsv hcp hkn (rH hc hw) hcs hcap (rH hbd hw) hbs hok g0 hci)) (gM I (gQ (zaB I I) (gQ (zaB I I) (gQ (zaB I I) (gA I (gA I (gA I (gN [3,4,5,6,7,8,9,14,15,16,18,19] I (zac (zac (gZ 16 (ph_y (zaf I) (ph_y (zaf I) (zaH I I (λ jj=>by(try rw [jj]);exact zaf I) (zaH I I (λ jj=>by(try rw [jj]);exact zab zCb I) (zaH I I (λ jj=>by(try rw [jj]);exact zah 0 tf3 I I I) ?_)))))))))))))))))))))))))))))))))
     refine zaH I I (λ jj=>by(try rw [jj]);exact zaE se45 I I (λ _=>rH hpf)) (zaH I I (λ jj=>by(try rw [jj]);exact zcE tf3 I (λ _=>rH hpf) (by omega) (by omega) I) (zaH I I (λ jj=>by(try rw [jj]);exact zaf I) (zaH I I (λ jj=>by(try rw [jj]);exact zab zCa I) (zaH I I (λ jj=>by(try rw [jj]);exact zah 0 tf3 I I I) (zaH I I (λ jj=>by(try rw [jj]);exact zaE se45 I I (λ _=>rH hpf)) (zaH I I (λ jj=>by(try rw [jj]);exact zcE tf3 I (λ _=>rH hpf) (by omega) (by omega) I) (zaH I I (λ jj=>by(try rw [jj]);exact zaf I) (zaH I I (λ jj=>by(try rw [jj]);exact zaY I I) (zaH I I (λ jj=>by(try rw [jj]);exact zc6 I I) (ph_y (zaX I I I) (gN [3,4,5,6,7,8,9,14,15,16,18,19,72] I (zap I (λ hc72=>?_) (λ hc72=>?_)))))))))))))
     ·have hno:=wn_2 (cs:=cs) (frm:=frm) (to:=to) (l:=l) g0 hci (.inl hc72)
      refine gS (gA I (gN [3,4,5,6,7,8,9,14,15,16,18,19] I (zaw (zay (zaC I (zau I)) ?_))))
      first|rw [hno]|rw [wn_1 (.inl (by rw [nT,dF] at hg29;omega))]
     ·refine zaq (gS (gQ (zat 3 tf25 I I (vs:=[_,_]) I I) (gQ (zat 2 tf29 I I (vs:=[_,_]) I I) (gQ (zat 1 tf31 I I (vs:=[_,_,_,_,_]) I I) (gM I (gQ (zaJ en26 I (λ w hw=>zEb _ _ S _ _ V _ _ cs _ _ bs x i true w (rH hl hw) hs hcS (rH hlw hw) hsw (λ z hz=>(rH (hsh z hz) hw)) hss (λ z hz=>(rH (hwo z hz) hw)) hsv hcp hkn (rH hc hw) hcs hcap (rH hbd hw) hbs hok g0 hci)) (gM I (gQ (zaB I I) (gQ (zaB I I) (gQ (zaB I I) (gA I (gA I (gN [3,4,5,6,7,8,9,14,15,16,18,19] I (zac (gZ 16 (ph_y (zaf I) (ph_y (zaf I) (zaH I I (λ jj=>by(try rw [jj]);exact zaf I) (zaH I I (λ jj=>by(try rw [jj]);exact zab zCa I) (zaH I I (λ jj=>by(try rw [jj]);exact zah 0 tf3 I I I) (zaH I I (λ jj=>by(try rw [jj]);exact zaE se45 I I (λ _=>rH hpf)) (zaH I I (λ jj=>by(try rw [jj]);exact zcE tf3 I (λ _=>rH hpf) (by omega) (by omega) I) (zaH I I (λ jj=>by(try rw [jj]);exact zaf I) (zaH I I (λ jj=>by(try rw [jj]);exact zab zCb I) (zaH I I (λ jj=>by(try rw [jj]);exact zah 0 tf3 I I I) (zaH I I (λ jj=>by(try rw [jj]);exact zaE se45 I I (λ _=>rH hpf)) ?_))))))))))))))))))))))))))
      refine zaH I I (λ jj=>by(try rw [jj]);exact zcE tf3 I (λ _=>rH hpf) (by omega) (by omega) I) (zaH I I (λ jj=>by(try rw [jj]);exact zaf I) (zaH I I (λ jj=>by(try rw [jj]);exact zaY I I) (zaH I I (λ jj=>by(try rw [jj]);exact zc6 I I) (ph_y (zaX I I I) (gN [3,4,5,6,7,8,9,14,15,97] I (zap I (λ hc97=>?_) (λ hc97=>?_)))))))
      ·have hno:=wn_2 (cs:=cs) (frm:=frm) (to:=to) (l:=l) g0 hci (.inr hc97)
       refine gS (gA I (gN [3,4,5,6,7,8,9,14,15] I (zaw (zay (zaC I (zau I)) ?_))))
       first|rw [hno]|rw [wn_1 (.inl (by rw [nT,dF] at hg29;omega))]
      ·have hti:=zND g0 hc72 hc97
       refine zaq (zaa (gM I (gQ (zaY I I) (gA I (gN [3,4,5,6,7,8,9,14,15] I (zaK 0 I ?_))))))
       exact za1 (i+1) (sB I) I ⟨by omega,by omega,λ j hj=>if h:(j:Int)<i then g2 j h else(by rw [show j=i.toNat from by omega];exact hti)⟩ (by omega)
    ·have hc40:=oD hc40
     have hyes:=zNI (S:=S) (V:=V) (x:=x) (to:=to) (l:=l) hpl hp0 (λ j hj=>g2 j (by omega))
     refine za8 I (gS (gQ (zat 2 tf25 I I (vs:=[_,_]) I I) (gQ (zat 1 tf29 I I (vs:=[_,_]) I I) (gQ (zat 0 tf31 I I (vs:=[_,_,_,_,_]) I I) (gM I (gM I (gQ (zaJ en41 I (λ w hw=>zNq _ _ S _ _ V _ _ cs _ _ bs x frm _ _ l w (rH hl hw) hs hcS (rH hlw hw) hsw (λ z hz=>(rH (hsh z hz) hw)) hss (λ z hz=>(rH (hwo z hz) hw)) hsv hcp hkn (rH hc hw) hcs hcap (rH hbd hw) hbs hok (rH hll hw) hls)) (gM I (gQ (zaB I I) (gQ (zaB I I) (gQ (zaB I I) (gA I (gA I (gA I (gN [4,6,14,20,21,22] I (zac (gZ 15 (ph_y (zaf I) (ph_y (zaf I) (zaH I I (λ jj=>by(try rw [jj]);exact zaf I) (zaH I I (λ jj=>by(try rw [jj]);exact zaf I) (zaH I I (λ jj=>by(try rw [jj]);exact zbL I I) (ph_y (zaX I I I) (ph_y (zaf I) (zaH I I (λ jj=>by(try rw [jj]);exact zaf I) (zaH I I (λ jj=>by(try rw [jj]);exact zaf I) (zaH I I (λ jj=>by(try rw [jj]);exact zaf I) (zaH I I (λ jj=>by(try rw [jj]);exact zaE se45 I I (λ _=>rH hpf)) (zaH I I (λ jj=>by(try rw [jj]);exact zcE tf3 I (λ _=>rH hpf) (by omega) (by omega) I) (zaH I I (λ jj=>by(try rw [jj]);exact zbL I I) ?_))))))))))))))))))))))))))))))
     refine ph_y (zaX I I I) (ph_y (zad I) (gN [14] I (zaw (zay (zaC I (zau I)) ?_))))
     rw [hyes] <;> rfl
 ·replace hg29:_=true:=hg29
  try rw [hg29]
  refine gF I I I (gF I I I (gF I I I (gF I I I (gQ (za5 I I I) (gN [3,4,5,6,7,8,9,14,35] I (zdg I (gS (gA I (gN [3,4,5,6,7,8,9,14] I (zaw (zay (zaC I (zau I)) ?_)))))))))))
  first|rw [hno]|rw [wn_1 (.inl (by rw [nT,dF] at hg29;omega))]
end Go.Proofs.YteepmmghanbllaaGreatDoor
namespace Go.Fld
open Go Go.K Go.Stn Go.Pln
section
variable {S S2:List ShC} {V V2:List WlC} {cs:List ByteArray} {bs:List Bdr} {x:Anm} (h:S2.map (·.s)=S.map (·.s)) (h2:V2.map (·.s)=V.map (·.s))
include h h2
theorem zKL (cell:Int) (pen:List Int):penA S2 V2 cs bs x cell pen=penA S V cs bs x cell pen:=by unfold penA;rw [zIk h h2,zCu h h2]
end
section
variable {S S2:List ShC} {V V2:List WlC} {cs:List ByteArray} {bs:List Bdr} {x:Anm} {frm to:Int} {l:List (Int×Int)} {pf pen:List Int} (h:S2.map (·.s)=S.map (·.s)) (h2:V2.map (·.s)=V.map (·.s))
include h h2
theorem zNk:prvA S2 V2 cs bs x frm to l pf=prvA S V cs bs x frm to l pf:=by unfold prvA;rw [zIk h h2,zCu h h2,zNm h h2]
theorem zNF:prvA S2 V2 cs bs x frm to l pf=(((zym S V cs bs x&&zBG cs.length frm)&&zBG cs.length to)&&isWk S V cs bs x frm to l pf):=by
 rw [zNk h h2]
 cases hok:zym S V cs bs x with
 | false=>rw [zMI (by rw [zFG (by rw [hok];exact fT)];decide)];rfl
 | true=>
  have hin:[frm,to].any (outC cs.length) = !(zBG cs.length frm&&zBG cs.length to):=by
   simp only [List.any_cons,List.any_nil,Bool.or_false,zIN]
   cases zBG cs.length frm <;> cases zBG cs.length to <;> rfl
  cases hc:(zBG cs.length frm&&zBG cs.length to) with
  | false=>
   rw [hc] at hin
   rw [zMI (by rw [zDt hok hin];decide),Bool.true_and,hc];rfl
  | true=>
   rw [hc] at hin
   rw [zM2 (zFF hok hin),zNt hok,Bool.true_and,hc];rfl
theorem zNE:penA S2 V2 cs bs x frm pen=((zym S V cs bs x&&zBG cs.length frm)&&isPn S V cs bs x frm pen):=by
 rw [zKL h h2]
 cases hok:zym S V cs bs x with
 | false=>rw [zK7 (by rw [zFG (by rw [hok];exact fT)];decide)];rfl
 | true=>
  cases hc:zBG cs.length frm with
  | false=>rw [zK7 (by rw [zDt hok (by simp only [List.any_cons,zIN,hc];rfl)];decide)];rfl
  | true=>rw [zNs hok hc];rfl
end
end Go.Fld