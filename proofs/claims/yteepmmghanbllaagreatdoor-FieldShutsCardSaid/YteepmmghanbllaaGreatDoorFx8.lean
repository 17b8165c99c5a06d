/- What the proof of the root text leans on, part 8: the layer, plain facts and walks. No statement of the seat is proved in this text. -/
import Derived.Test.YteepmmghanbllaaGreatDoorFx7
set_option maxRecDepth 100000
set_option maxHeartbeats 32000000
namespace Go.Proofs.YteepmmghanbllaaGreatDoor
open Go.K Go.Stn Go.Pln Go.Fld Go.RowKit
theorem tf27:TF Tryz.prog 27 false 1 (C none 0 0):=tK
theorem zAU:TF Tryz.prog 100 true 6 (.agg #[O 0,O 0,.string ⟨#[]⟩,O 0,O 0,.bool false]):=tK
theorem zAp:FO Tryz.prog 29 0 0:=fK
theorem zzL:FO Tryz.prog 29 1 1:=fK
theorem zeo:FO Tryz.prog 31 0 0:=fK
theorem zd7:FO Tryz.prog 31 1 1:=fK
theorem zCQ:FO Tryz.prog 31 2 2:=fK
theorem zA6:FO Tryz.prog 31 3 3:=fK
theorem zA7:FO Tryz.prog 31 4 4:=fK
theorem zCc:FO Tryz.prog 100 2 2:=fK
theorem zCd:FO Tryz.prog 100 3 3:=fK
theorem zCe:FO Tryz.prog 100 4 4:=fK
theorem zCf:FO Tryz.prog 100 5 5:=fK
theorem se27:SE Tryz.prog 27 100 6:=⟨Tryz.underlying27,by kernel_rfl⟩
theorem en52:En Tryz.prog 52:=eK Tryz.func52
theorem zAw (a:yO) (cap:Nat) (s:Sht) (z:Int) (w:World) (hsp:za4 s=true) (h0:0≤z) (h1:z≤s.height):Calls Tryz.prog 88 #[.agg #[.string s.name,O s.base,O s.batter,O s.height,O s.skin,C a s.heights.length cap,O s.least,O s.lap,O s.run,O s.every,O s.at_,O s.footing,O s.spread,.int .u8 s.cope,O s.tall,O s.short,O s.thick,O s.low,O s.high,O s.rood],O z] w (Pure (O (zy8 s z)) w):=by
 have h:=zkn a cap s z w
 rw [zn1 hsp h0 h1] at h
 unfold zy8
 rwa [if_pos ⟨hsp,h0,h1⟩]
theorem zBU (n lo hi:Int) (w:World)  :
  Calls Tryz.prog 84 #[O n,O lo,O hi] w (Pure (.bool (inZ n lo hi)) w):=by
 refine zan (vs:=[_,_,_]) Tryz.func84 I I (bL I) (gS (gA I (gN [0,1,2,6] I (zac (gZ 9 (ph_y (zaf I) (ph_y (zaf I) (ph_y (zfx I I) (ph_y (zaf I) (zaH I I (λ jj=>by(try rw [jj]);exact zaf I) (zaH I I (λ jj=>by(try rw [jj]);exact zaf I) (zaH I I (λ jj=>by(try rw [jj]);exact zeT I I) (ph_y (zaX I I I) (ph_y (zad I) (gN [6] I (zaw (zay (zaC I (zau I)) ?_)))))))))))))))))
 rfl
theorem zEc (ca:yO) (ccap:Nat) (cs:List ByteArray) (ba:yO) (bcp:Nat) (bs:List Bdr) (i:Int) (w:World)  :
  Calls Tryz.prog 20 #[zzz4 ca cs ccap ba bs bcp,O i] w (Pure (.bool (zBG cs.length i)) w):=by
 refine zan (vs:=[_,_]) Tryz.func20 I I (bL I) (gS (zaG I I (za3 (vs:=[_,_]) I I) λ b2=>(gA I (gN [1,2,4] I (zac (gZ 10 (ph_y (zaf I) (ph_y (zfx I I) (ph_y (zaf I) (zaH I I (λ jj=>by(try rw [jj]);exact zaf I) (zaH I I (λ jj=>by(try rw [jj]);exact zab zAp I) (zaH I I (λ jj=>by(try rw [jj]);exact zah 0 tf26 I I I) (zaH I I (λ jj=>by(try rw [jj]);exact zaV (Tryz.underlying26) I) (zaH I I (λ jj=>by(try rw [jj]);exact zbw I I) (ph_y (zaX I I I) (ph_y (zad I) (gN [4] I (zaw (zay (zaC I (zau I)) ?_)))))))))))))))))))
 rfl
theorem zEe (a:yO) (cap:Nat) (S:List ShC) (b:yO) (bcap:Nat) (V:List WlC) (e:Bdr) (w:World) (hl:yag w a S) (hs:zaP S.length) (_hcS:S.length≤cap) (hlw:yah w b V) (hsw:zaP V.length) (_hsh:yab S w) (_hss:yac S) (_hwo:yaa V w) (_hsv:yae V) (_hcp:yad V) (_hkn:yaf V) (hf:zb6 S V e.wall=0) :
  Calls Tryz.prog 52 #[zzz3 a S cap b V bcap,.agg #[O e.a,O e.b,.string e.wall,O e.gA,O e.gB,.bool e.shut]] w (Pure (.tuple #[.agg (zbS (zaN S V e.wall)).toArray,.agg (zbH (zar S V e.wall)).toArray]) w):=by
 obtain⟨hP,hw0⟩:=zjR hf
 obtain⟨hs0,_⟩:=zf8 hP _ (zid hw0)
 have hwl:=zky hw0
 have hsl:=ziE hs0
 have e0:zhq V e.wall=(V.getD (zaM V e.wall).toNat default):=if_pos hw0
 have e1:(zaN S V e.wall)=(V.getD (zaM V e.wall).toNat default):=(zhF hf).trans e0
 have e2:(zar S V e.wall)=(S.getD (zaS S (V.getD (zaM V e.wall).toNat default).s.sheet).toNat default):=by rw [zhE hf,e0];rw [e0] at hs0;exact if_pos hs0
 rw [e0] at hs0 hsl
 refine zan (vs:=[_,_]) Tryz.func52 I I (bL I) (gS (zaG I I (za3 (vs:=[_,_]) I I) λ b2=>(zaG I I (za3 (vs:=[_,_,_,_,_,_]) I I) λ b3=>(zaG I I (zaL zAk (zs:=[_,_,_,_]) I) λ b4=>(zaG I I (zaL zzu (zs:=[_,_,_,_,_,_,_,_,_,_,_,_,_,_,_,_,_,_,_,_]) I) λ b5=>(gN [2,3,4,5] I (zac (gZ 9 (ph_y (zab zdT I) (ph_y (zah 3 tf23 I I I) (ph_y (zat 3 tf25 I I (vs:=[_,_]) I I) (ph_y (zab zCc I) (ph_y (zah 2 tf9 I I I) (ph_y (zaJ en86 I (λ w hw=>zf9 _ _ _ _ _ V _ w (rH hlw hw) hsw)) (ph_y (zaE se23 I I (λ _=>rH hlw)) (ph_y (zbv (vs:=[_,_,_,_]) zAk I (λ _=>rH hlw) (by omega) (by omega) I) (zmr (zaL zAk (zs:=[_,_,_,_]) I) ?_)))))))))))))))))
 intro b6
 refine gK [2,4,5,6,14] I (zaA 0 zAk I I (vs:=[_,_,_,_]) I I I I I (gN [2,4,5,6] I (zac (zao 1 I (zao 2 I (zCs [_,_] (ch []) 1000 11 [0,0,2,0,0,16,56,126,254,121,1023] [] I (λ _=>mixed) (by kernel_rfl) (zjK _ trivial) (pY (λ ρ=>zat 0 zAk I I (vs:=[_,_,_,_]) I I) (pY (λ ρ=>zab zd6 I) (pY (λ ρ=>zah 2 tf22 I I I) (pY (λ ρ=>zat 2 tf25 I I (vs:=[_,_]) I I) (pY (λ ρ=>zab zCk I) (pY (λ ρ=>zah 0 tf9 I I I) (pY (λ ρ=>zaJ en87 I (λ w hw=>zfq _ _ S _ _ _ _ w (rH hl hw) hs)) (pY (λ ρ=>zaE se22 I I (λ _=>rH hl)) (pY (λ ρ=>zbv (vs:=[_,_,_,_,_,_,_,_,_,_,_,_,_,_,_,_,_,_,_,_]) zzu I (λ _=>rH hl) (by omega) (by omega) I) (zBT (R:=λ ρ=>Box b4 [.string ⟨#[]⟩,.string ⟨#[]⟩,O 0,C none 0 0] 134) (A:=λ ρ=>Box b4 (wV ((V.getD ((zaM V e.wall)).toNat default).s) ((V.getD ((zaM V e.wall)).toNat default).a) ((V.getD ((zaM V e.wall)).toNat default).cap)) 134) 1000 I (by kernel_rfl) (by kernel_rfl) (λ _=>by kernel_rfl) (λ ρ=>zex zAk I I (vs:=[_,_,_,_]) I I I I I) (λ ρ ρ' h=>by rfl) ?_))))))))))))))))
 refine zBT (R:=λ ρ=>Box b5 [.string ⟨#[]⟩,O 0,O 0,O 0,O 0,C none 0 0,O 0,O 0,O 0,O 0,O 0,O 0,O 0,.int .u8 0,O 0,O 0,O 0,O 0,O 0,O 0] 135) (A:=λ ρ=>Box b5 [.string (S.getD ((zaS S ((V.getD ((zaM V e.wall)).toNat default).s.sheet))).toNat default).s.name,O ((S.getD ((zaS S ((V.getD ((zaM V e.wall)).toNat default).s.sheet))).toNat default).s.base),O ((S.getD ((zaS S ((V.getD ((zaM V e.wall)).toNat default).s.sheet))).toNat default).s.batter),O ((S.getD ((zaS S ((V.getD ((zaM V e.wall)).toNat default).s.sheet))).toNat default).s.height),O ((S.getD ((zaS S ((V.getD ((zaM V e.wall)).toNat default).s.sheet))).toNat default).s.skin),.slice (S.getD ((zaS S ((V.getD ((zaM V e.wall)).toNat default).s.sheet))).toNat default).a (S.getD ((zaS S ((V.getD ((zaM V e.wall)).toNat default).s.sheet))).toNat default).s.heights.length (S.getD ((zaS S ((V.getD ((zaM V e.wall)).toNat default).s.sheet))).toNat default).cap,O ((S.getD ((zaS S ((V.getD ((zaM V e.wall)).toNat default).s.sheet))).toNat default).s.least),O ((S.getD ((zaS S ((V.getD ((zaM V e.wall)).toNat default).s.sheet))).toNat default).s.lap),O ((S.getD ((zaS S ((V.getD ((zaM V e.wall)).toNat default).s.sheet))).toNat default).s.run),O ((S.getD ((zaS S ((V.getD ((zaM V e.wall)).toNat default).s.sheet))).toNat default).s.every),O ((S.getD ((zaS S ((V.getD ((zaM V e.wall)).toNat default).s.sheet))).toNat default).s.at_),O ((S.getD ((zaS S ((V.getD ((zaM V e.wall)).toNat default).s.sheet))).toNat default).s.footing),O ((S.getD ((zaS S ((V.getD ((zaM V e.wall)).toNat default).s.sheet))).toNat default).s.spread),.int .u8 (S.getD ((zaS S ((V.getD ((zaM V e.wall)).toNat default).s.sheet))).toNat default).s.cope,O ((S.getD ((zaS S ((V.getD ((zaM V e.wall)).toNat default).s.sheet))).toNat default).s.tall),O ((S.getD ((zaS S ((V.getD ((zaM V e.wall)).toNat default).s.sheet))).toNat default).s.short),O ((S.getD ((zaS S ((V.getD ((zaM V e.wall)).toNat default).s.sheet))).toNat default).s.thick),O ((S.getD ((zaS S ((V.getD ((zaM V e.wall)).toNat default).s.sheet))).toNat default).s.low),O ((S.getD ((zaS S ((V.getD ((zaM V e.wall)).toNat default).s.sheet))).toNat default).s.high),O ((S.getD ((zaS S ((V.getD ((zaM V e.wall)).toNat default).s.sheet))).toNat default).s.rood)] 135) 1001 I (by kernel_rfl) (by kernel_rfl) (λ _=>by kernel_rfl) (λ ρ=>zex zzu I I (vs:=[_,_,_,_,_,_,_,_,_,_,_,_,_,_,_,_,_,_,_,_]) I I I I I) (λ ρ ρ' h=>by rfl) ?_
 refine λ ρ=>zag (zpT (T':=[(4,Z b4),(5,Z b5)]) (H':=[Box b4 (wV ((V.getD ((zaM V e.wall)).toNat default).s) ((V.getD ((zaM V e.wall)).toNat default).a) ((V.getD ((zaM V e.wall)).toNat default).cap)) 134,Box b5 [.string (S.getD ((zaS S ((V.getD ((zaM V e.wall)).toNat default).s.sheet))).toNat default).s.name,O ((S.getD ((zaS S ((V.getD ((zaM V e.wall)).toNat default).s.sheet))).toNat default).s.base),O ((S.getD ((zaS S ((V.getD ((zaM V e.wall)).toNat default).s.sheet))).toNat default).s.batter),O ((S.getD ((zaS S ((V.getD ((zaM V e.wall)).toNat default).s.sheet))).toNat default).s.height),O ((S.getD ((zaS S ((V.getD ((zaM V e.wall)).toNat default).s.sheet))).toNat default).s.skin),.slice (S.getD ((zaS S ((V.getD ((zaM V e.wall)).toNat default).s.sheet))).toNat default).a (S.getD ((zaS S ((V.getD ((zaM V e.wall)).toNat default).s.sheet))).toNat default).s.heights.length (S.getD ((zaS S ((V.getD ((zaM V e.wall)).toNat default).s.sheet))).toNat default).cap,O ((S.getD ((zaS S ((V.getD ((zaM V e.wall)).toNat default).s.sheet))).toNat default).s.least),O ((S.getD ((zaS S ((V.getD ((zaM V e.wall)).toNat default).s.sheet))).toNat default).s.lap),O ((S.getD ((zaS S ((V.getD ((zaM V e.wall)).toNat default).s.sheet))).toNat default).s.run),O ((S.getD ((zaS S ((V.getD ((zaM V e.wall)).toNat default).s.sheet))).toNat default).s.every),O ((S.getD ((zaS S ((V.getD ((zaM V e.wall)).toNat default).s.sheet))).toNat default).s.at_),O ((S.getD ((zaS S ((V.getD ((zaM V e.wall)).toNat default).s.sheet))).toNat default).s.footing),O ((S.getD ((zaS S ((V.getD ((zaM V e.wall)).toNat default).s.sheet))).toNat default).s.spread),.int .u8 (S.getD ((zaS S ((V.getD ((zaM V e.wall)).toNat default).s.sheet))).toNat default).s.cope,O ((S.getD ((zaS S ((V.getD ((zaM V e.wall)).toNat default).s.sheet))).toNat default).s.tall),O ((S.getD ((zaS S ((V.getD ((zaM V e.wall)).toNat default).s.sheet))).toNat default).s.short),O ((S.getD ((zaS S ((V.getD ((zaM V e.wall)).toNat default).s.sheet))).toNat default).s.thick),O ((S.getD ((zaS S ((V.getD ((zaM V e.wall)).toNat default).s.sheet))).toNat default).s.low),O ((S.getD ((zaS S ((V.getD ((zaM V e.wall)).toNat default).s.sheet))).toNat default).s.high),O ((S.getD ((zaS S ((V.getD ((zaM V e.wall)).toNat default).s.sheet))).toNat default).s.rood)] 135,Box b6 (wV ((V.getD ((zaM V e.wall)).toNat default).s) ((V.getD ((zaM V e.wall)).toNat default).a) ((V.getD ((zaM V e.wall)).toNat default).cap)) 134,Box b3 [O e.a,O e.b,.string e.wall,O e.gA,O e.gB,.bool e.shut] 100,Box b2 (zzz5 a S cap b V bcap) 25]) ⟨I,I,trivial⟩ rfl ?_)
 refine zaw ?_
 refine zay (zc2 I (zbU (i:=0) (vs:=[_,_,_,_]) zAk I I I I) (zbU (i:=1) (vs:=[.string (S.getD ((zaS S ((V.getD ((zaM V e.wall)).toNat default).s.sheet))).toNat default).s.name,O ((S.getD ((zaS S ((V.getD ((zaM V e.wall)).toNat default).s.sheet))).toNat default).s.base),O ((S.getD ((zaS S ((V.getD ((zaM V e.wall)).toNat default).s.sheet))).toNat default).s.batter),O ((S.getD ((zaS S ((V.getD ((zaM V e.wall)).toNat default).s.sheet))).toNat default).s.height),O ((S.getD ((zaS S ((V.getD ((zaM V e.wall)).toNat default).s.sheet))).toNat default).s.skin),.slice (S.getD ((zaS S ((V.getD ((zaM V e.wall)).toNat default).s.sheet))).toNat default).a (S.getD ((zaS S ((V.getD ((zaM V e.wall)).toNat default).s.sheet))).toNat default).s.heights.length (S.getD ((zaS S ((V.getD ((zaM V e.wall)).toNat default).s.sheet))).toNat default).cap,O ((S.getD ((zaS S ((V.getD ((zaM V e.wall)).toNat default).s.sheet))).toNat default).s.least),O ((S.getD ((zaS S ((V.getD ((zaM V e.wall)).toNat default).s.sheet))).toNat default).s.lap),O ((S.getD ((zaS S ((V.getD ((zaM V e.wall)).toNat default).s.sheet))).toNat default).s.run),O ((S.getD ((zaS S ((V.getD ((zaM V e.wall)).toNat default).s.sheet))).toNat default).s.every),O ((S.getD ((zaS S ((V.getD ((zaM V e.wall)).toNat default).s.sheet))).toNat default).s.at_),O ((S.getD ((zaS S ((V.getD ((zaM V e.wall)).toNat default).s.sheet))).toNat default).s.footing),O ((S.getD ((zaS S ((V.getD ((zaM V e.wall)).toNat default).s.sheet))).toNat default).s.spread),.int .u8 (S.getD ((zaS S ((V.getD ((zaM V e.wall)).toNat default).s.sheet))).toNat default).s.cope,O ((S.getD ((zaS S ((V.getD ((zaM V e.wall)).toNat default).s.sheet))).toNat default).s.tall),O ((S.getD ((zaS S ((V.getD ((zaM V e.wall)).toNat default).s.sheet))).toNat default).s.short),O ((S.getD ((zaS S ((V.getD ((zaM V e.wall)).toNat default).s.sheet))).toNat default).s.thick),O ((S.getD ((zaS S ((V.getD ((zaM V e.wall)).toNat default).s.sheet))).toNat default).s.low),O ((S.getD ((zaS S ((V.getD ((zaM V e.wall)).toNat default).s.sheet))).toNat default).s.high),O ((S.getD ((zaS S ((V.getD ((zaM V e.wall)).toNat default).s.sheet))).toNat default).s.rood)]) zzu I I I I)) ?_
 rw [e1,e2]
theorem zFz (a:yO) (cap:Nat) (S:List ShC) (b:yO) (bcap:Nat) (V:List WlC) (ca:yO) (ccap:Nat) (cs:List ByteArray) (ba:yO) (bcp:Nat) (bs:List Bdr) (x:Anm) (i:Int) (back:Bool) (way:Int) (w:World) (hl:yag w a S) (hs:zaP S.length) (hcS:S.length≤cap) (hlw:yah w b V) (hsw:zaP V.length) (hsh:yab S w) (hss:yac S) (hwo:yaa V w) (hsv:yae V) (hcp:yad V) (hkn:yaf V) (_hc:yai w ca cs) (_hcs:zaP cs.length) (_hcap:cs.length≤ccap) (hbd:yaj w ba bs) (_hbs:zaP bs.length) (hok:(zym S V cs bs x)=true) (i0:0≤i) (i1:i<bs.length) :
  Calls Tryz.prog 53 #[zzz3 a S cap b V bcap,zzz4 ca cs ccap ba bs bcp,zzz1 x,O i,.bool back,O way] w (Pure (.tuple #[O (mayB S V x (bs.getD i.toNat default) back way).1,.bool (mayB S V x (bs.getD i.toNat default) back way).2]) w):=by
 obtain⟨_,_,hbn,_,_,hbo⟩:=zzD hok
 have hbrd:=hbo i.toNat (by omega)
 have hf:=(zzq hbrd).1
 obtain⟨hG1,hG2⟩:=zBh hbrd
 have hnums:=hG1.nums
 have hgg1:=hG1.g
 have hgg2:=hG2.g
 have hwo1:=zfL (S:=S) (V:=V) (n:=(bs.getD i.toNat default).wall) hwo
 have hss1:=zhG (S:=S) (V:=V) (n:=(bs.getD i.toNat default).wall) hsh
 obtain⟨hsvw,hsss⟩:=zxT (n:=(bs.getD i.toNat default).wall) hsv hss
 have hon:=hG1.wf.num
 refine zan (vs:=[_,_,_,_,_,_]) Tryz.func53 I I (bL I) (gS (zaG I I (za3 (vs:=[_,_]) I I) λ b6=>(zaG I I (za3 (vs:=[_,_]) I I) λ b7=>(zaG I I (za3 (vs:=[_,_,_,_,_]) I I) λ b8=>(gA I (gA I (gN [3,4,5,6,7,8,12,13] I (gS (gQ (zab zzL I) (gQ (zah 1 tf27 I I I) (gM I (gQ (zaE se27 I I (λ _=>rH hbd)) (gQ (zbv (vs:=[_,_,_,_,_,_]) zAU I (λ _=>rH hbd) (by omega) (by omega) I) (zaG I I (zaL zAU (zs:=[_,_,_,_,_,_]) I) λ b14=>(zaA 0 zAU I I (vs:=[_,_,_,_,_,_]) I I I I I (gN [4,5,6,8,12,13,14] I (gS (gQ (zat 3 tf25 I I (vs:=[_,_]) I I) (gQ (zat 0 zAU I I (vs:=[_,_,_,_,_,_]) I I) (gQ (zaJ en52 I (λ w hw=>zEe _ _ S _ _ V (bs.getD i.toNat default) w (rH hl hw) hs hcS (rH hlw hw) hsw (λ z hz=>(rH (hsh z hz) hw)) hss (λ z hz=>(rH (hwo z hz) hw)) hsv hcp hkn hf)) (gM I (gQ (zaB I I) (gQ (zaB I I) (zaG I I (zaL zAk (zs:=[_,_,_,_]) I) λ b15=>(zaG I I (zaL zzu (zs:=[_,_,_,_,_,_,_,_,_,_,_,_,_,_,_,_,_,_,_,_]) I) λ b16=>?_)))))))))))))))))))))))))
 refine zaA 1 zAk I I (vs:=[_,_,_,_]) I I I I I (zbz 0 zzu I I (vs:=[_,_,_,_,_,_,_,_,_,_,_,_,_,_,_,_,_,_,_,_]) I I I I I (gN [4,5,8,12,13,14,15,16] I (zac (gZ 6 (ph_y (zab zCd I) (ph_y (zah 2 tf3 I I I) (ph_y (zab zCe I) (ph_y (zah 2 tf3 I I I) (ph_y (zad I) (ph_y (zad I) (gN [4,5,8,12,13,14,15,16,17,18] I (zac (gS (gM I (gN [5,8,12,13,14,15,16,17,18,38] I (zap I (λ hc38=>?_) (λ hc38=>?_)))))))))))))))))
 ·have hg:gOf (bs.getD i.toNat default) back=(bs.getD i.toNat default).gB:=by unfold gOf;rw [if_pos hc38]
  have hh:hOf (bs.getD i.toNat default) back=(bs.getD i.toNat default).gA:=by unfold hOf;rw [if_pos hc38]
  refine zaa (gM I (gM I (gA I (gA I (gN [5,8,12,13,14,15,16,17,18] I (zac (gS (gM I (gQ (zbL I I) (gN [5,8,12,13,14,15,16,17,18,42] I (zap I (λ hc42=>?_) (λ hc42=>?_))))))))))))
  ·have k1:way = -1:=oT hc42
   have hm:(mayB S V x (bs.getD i.toNat default) back way)=_:=zFv k1
   refine gS (gQ (zab zyH I) (gQ (zah 0 tf3 I I I) (gQ (zab zzZ I) (gQ (zah 0 tf3 I I I) (gQ (zaY I I) (gM I (gQ (zfV I I) (gA I (gN [5,8,12,13,14,15,16,17,18,19] I (zac (gZ 18 (ph_y (zaf I) (ph_y (zws I I) (ph_y (zaY I I) (ph_y (zaf I) (ph_y (zab zA6 I) (ph_y (zah 3 tf3 I I I) (ph_y (zeT I I) (ph_y (zaf I) (zaH I I (λ jj=>by(try rw [jj]);exact zat 0 zzu I I (vs:=[_,_,_,_,_,_,_,_,_,_,_,_,_,_,_,_,_,_,_,_]) I I) (zaH I I (λ jj=>by(try rw [jj]);exact zab zyH I) (zaH I I (λ jj=>by(try rw [jj]);exact zah 0 tf3 I I I) (zaH I I (λ jj=>by(try rw [jj]);exact zaJ (v:=O (zy8 (zar S V (bs.getD i.toNat default).wall).s ((zar S V (bs.getD i.toNat default).wall).s.height))) en88 I (λ w hw=>zAw _ _ (zar S V (bs.getD i.toNat default).wall).s ((zar S V (bs.getD i.toNat default).wall).s.height) w hG1.sp (by omega) (by omega))) (zaH I I (λ jj=>by(try rw [jj]);exact zab zA7 I) (zaH I I (λ jj=>by(try rw [jj]);exact zah 3 tf3 I I I) (zaH I I (λ jj=>by(try rw [jj]);exact zeT I I) (ph_y (zaX I I I) (ph_y (zad I) ?_))))))))))))))))))))))))))))
   refine ph_y (zad I) (gN [5,8,12,13,14,15,16,17,18] I (zaw (zay (zc2 I (zau I) (zau I)) ?_)))
   rw [hm,hg] <;> rfl
  ·have k1:¬ way = -1:=oD hc42
   refine zaq (zac (zac (gZ 9 (ph_y (zaf I) (ph_y (zbw I I) (ph_y (zaf I) (zaz I I (λ jj=>by(try rw [jj]);exact zaf I) (zaz I I (λ jj=>by(try rw [jj]);exact zab zyN I) (zaz I I (λ jj=>by(try rw [jj]);exact zah 1 zAj I I I) (zaz I I (λ jj=>by(try rw [jj]);exact zaV (Tryz.underlying132) I) (zaz I I (λ jj=>by(try rw [jj]);exact zfx I I) (ph_y (zaR I I I) (gN [5,8,12,13,14,15,16,17,18,74] I (zap I (λ hc74=>?_) (λ hc74=>?_)))))))))))))))
   ·have k2:way<0∨((zaN S V (bs.getD i.toNat default).wall).s.opens.length:Int)≤way:=by simpa using hc74
    have hm:(mayB S V x (bs.getD i.toNat default) back way)=_:=zCv k1 k2
    refine gS (gA I (gA I (gN [5,8,12,13,14,15,16,17,18] I (zaw (zay (zc2 I (zau I) (zau I)) ?_)))))
    rw [hm]
   ·have k2:¬ (way<0∨((zaN S V (bs.getD i.toNat default).wall).s.opens.length:Int)≤way):=by simpa using hc74
    have hfit:=hG1.wf.fit ((zaN S V (bs.getD i.toNat default).wall).s.opens.getD way.toNat default) (za0 (by omega))
    have q1:=hfit.f;have q2:=hfit.h;have q3:=hfit.w
    refine zaq (gS (gQ (zab zyN I) (gQ (zah 1 zAj I I I) (gM I (gQ (zaE zEf I I (λ _=>rH hwo1)) (gQ (zbv (vs:=[_,_,_,_,_]) zzW I (λ _=>rH hwo1) (by omega) (by omega) I) (zaG I I (zaL zzW (zs:=[_,_,_,_,_]) I) λ b20=>(zaA 0 zzW I I (vs:=[_,_,_,_,_]) I I I I I (gN [8,12,13,14,16,17,18,20] I (gS (gQ (zab zyC I) (gQ (zah 0 tf3 I I I) (gM I (gQ (zfV I I) (gA I (gN [8,12,13,14,16,17,18,20,21] I (zac (gS (gQ (zab zeo I) (gQ (zah 4 tf3 I I I) (gQ (zab zzQ I) (gQ (zah 0 tf3 I I I) (gQ (zc6 I I) (gN [8,12,13,14,16,17,18,20,21,88] I (zap I (λ hc88=>?_) (λ hc88=>?_))))))))))))))))))))))))))
    ·have k3:((zaN S V (bs.getD i.toNat default).wall).s.opens.getD way.toNat default).width<x.wide:=oT hc88
     have hm:(mayB S V x (bs.getD i.toNat default) back way)=_:=zCX k1 k2 k3
     refine gS (gA I (gA I (gN [8,12,13,14,16,17,18,20,21] I (zaw (zay (zc2 I (zau I) (zau I)) ?_)))))
     rw [hm]
    ·have k3:¬ ((zaN S V (bs.getD i.toNat default).wall).s.opens.getD way.toNat default).width<x.wide:=oD hc88
     refine zaq (zac (gS (gQ (zab zzr I) (gQ (zah 0 tf5 I I I) (gQ (zbL I I) (gN [8,12,13,14,16,17,18,20,21,91] I (zap I (λ hc91=>?_) (λ hc91=>?_))))))))
     ·have k4:((zaN S V (bs.getD i.toNat default).wall).s.opens.getD way.toNat default).kind=4:=oT hc91
      have hm:(mayB S V x (bs.getD i.toNat default) back way)=_:=zCW k1 k2 k3 k4
      refine zac (gZ 5 (ph_y (zab zCf I) (ph_y (zah 3 tf4 I I I) (ph_y (zbR I) (ph_y (zad I) (ph_y (zad I) (gN [8,12,13,16,17,18,20,21] I (zaw (zay (zc2 I (zau I) (zau I)) ?_)))))))))
      rw [hm]
     ·have k4:¬ ((zaN S V (bs.getD i.toNat default).wall).s.opens.getD way.toNat default).kind=4:=oD hc91
      refine zaq (zac (gS (gQ (zab zzr I) (gQ (zah 0 tf5 I I I) (gQ (zbL I I) (gN [8,12,13,16,17,18,20,21,97] I (zap I (λ hc97=>?_) (λ hc97=>?_))))))))
      ·have k5:((zaN S V (bs.getD i.toNat default).wall).s.opens.getD way.toNat default).kind=3:=oT hc97
       have hm:(mayB S V x (bs.getD i.toNat default) back way)=_:=zBR k1 k2 k3 k4 k5
       refine zac (gZ 18 (ph_y (zaf I) (ph_y (zws I I) (ph_y (zaY I I) (ph_y (zaf I) (ph_y (zab zA6 I) (ph_y (zah 4 tf3 I I I) (ph_y (zeT I I) (ph_y (zaf I) (zaH I I (λ jj=>by(try rw [jj]);exact zat 1 zzu I I (vs:=[_,_,_,_,_,_,_,_,_,_,_,_,_,_,_,_,_,_,_,_]) I I) (zaH I I (λ jj=>by(try rw [jj]);exact zab zyC I) (zaH I I (λ jj=>by(try rw [jj]);exact zah 0 tf3 I I I) (zaH I I (λ jj=>by(try rw [jj]);exact zaJ (v:=O (zy8 (zar S V (bs.getD i.toNat default).wall).s (((zaN S V (bs.getD i.toNat default).wall).s.opens.getD way.toNat default).frm))) en88 I (λ w hw=>zAw _ _ (zar S V (bs.getD i.toNat default).wall).s (((zaN S V (bs.getD i.toNat default).wall).s.opens.getD way.toNat default).frm) w hG1.sp (by omega) (by omega))) (zaH I I (λ jj=>by(try rw [jj]);exact zab zA7 I) (zaH I I (λ jj=>by(try rw [jj]);exact zah 4 tf3 I I I) (zaH I I (λ jj=>by(try rw [jj]);exact zeT I I) (ph_y (zaX I I I) (ph_y (zad I) (ph_y (zad I) (gN [8,12,13,17,18,20,21] I (zaw (zay (zc2 I (zau I) (zau I)) ?_))))))))))))))))))))))
       rw [hm,hg]
      ·have k5:¬ ((zaN S V (bs.getD i.toNat default).wall).s.opens.getD way.toNat default).kind=3:=oD hc97
       have hm:(mayB S V x (bs.getD i.toNat default) back way)=_:=zCV k1 k2 k3 k4 k5
       refine zaq (gS (gQ (zab zyC I) (gQ (zah 0 tf3 I I I) (gM I (gM I (gQ (zws I I) (gQ (zws I I) (gA I (gN [8,12,13,20,21,22] I (zac (gZ 21 (ph_y (zaf I) (ph_y (zws I I) (ph_y (zaY I I) (ph_y (zaf I) (ph_y (zab zCQ I) (ph_y (zah 4 tf3 I I I) (ph_y (zeT I I) (ph_y (zaf I) (zaH I I (λ jj=>by(try rw [jj]);exact zab zyC I) (zaH I I (λ jj=>by(try rw [jj]);exact zah 0 tf3 I I I) (zaH I I (λ jj=>by(try rw [jj]);exact zab zzs I) (zaH I I (λ jj=>by(try rw [jj]);exact zah 0 tf3 I I I) (zaH I I (λ jj=>by(try rw [jj]);exact zaY I I) (zaH I I (λ jj=>by(try rw [jj]);exact zaf I) (zaH I I (λ jj=>by(try rw [jj]);exact zfV I I) (zaH I I (λ jj=>by(try rw [jj]);exact zab zd7 I) (zaH I I (λ jj=>by(try rw [jj]);exact zah 4 tf3 I I I) (zaH I I (λ jj=>by(try rw [jj]);exact zfx I I) (ph_y (zaX I I I) (ph_y (zad I) (ph_y (zad I) (gN [12,13] I (zaw (zay (zc2 I (zau I) (zau I)) ?_)))))))))))))))))))))))))))))))))))
       rw [hm,hg,hh]
 ·have hg:gOf (bs.getD i.toNat default) back=(bs.getD i.toNat default).gA:=by unfold gOf;rw [if_neg (by rw [hc38];exact fT)]
  have hh:hOf (bs.getD i.toNat default) back=(bs.getD i.toNat default).gB:=by unfold hOf;rw [if_neg (by rw [hc38];exact fT)]
  refine zaq (zac (gS (gM I (gQ (zbL I I) (gN [5,8,12,13,14,15,16,17,18,42] I (zap I (λ hc42=>?_) (λ hc42=>?_)))))))
  ·have k1:way = -1:=oT hc42
   have hm:(mayB S V x (bs.getD i.toNat default) back way)=_:=zFv k1
   refine gS (gQ (zab zyH I) (gQ (zah 0 tf3 I I I) (gQ (zab zzZ I) (gQ (zah 0 tf3 I I I) (gQ (zaY I I) (gM I (gQ (zfV I I) (gA I (gN [5,8,12,13,14,15,16,17,18,19] I (zac (gZ 18 (ph_y (zaf I) (ph_y (zws I I) (ph_y (zaY I I) (ph_y (zaf I) (ph_y (zab zA6 I) (ph_y (zah 3 tf3 I I I) (ph_y (zeT I I) (ph_y (zaf I) (zaH I I (λ jj=>by(try rw [jj]);exact zat 0 zzu I I (vs:=[_,_,_,_,_,_,_,_,_,_,_,_,_,_,_,_,_,_,_,_]) I I) (zaH I I (λ jj=>by(try rw [jj]);exact zab zyH I) (zaH I I (λ jj=>by(try rw [jj]);exact zah 0 tf3 I I I) (zaH I I (λ jj=>by(try rw [jj]);exact zaJ (v:=O (zy8 (zar S V (bs.getD i.toNat default).wall).s ((zar S V (bs.getD i.toNat default).wall).s.height))) en88 I (λ w hw=>zAw _ _ (zar S V (bs.getD i.toNat default).wall).s ((zar S V (bs.getD i.toNat default).wall).s.height) w hG1.sp (by omega) (by omega))) (zaH I I (λ jj=>by(try rw [jj]);exact zab zA7 I) (zaH I I (λ jj=>by(try rw [jj]);exact zah 3 tf3 I I I) (zaH I I (λ jj=>by(try rw [jj]);exact zeT I I) (ph_y (zaX I I I) (ph_y (zad I) ?_))))))))))))))))))))))))))))
   refine ph_y (zad I) (gN [5,8,12,13,14,15,16,17,18] I (zaw (zay (zc2 I (zau I) (zau I)) ?_)))
   rw [hm,hg] <;> rfl
  ·have k1:¬ way = -1:=oD hc42
   refine zaq (zac (zac (gZ 9 (ph_y (zaf I) (ph_y (zbw I I) (ph_y (zaf I) (zaz I I (λ jj=>by(try rw [jj]);exact zaf I) (zaz I I (λ jj=>by(try rw [jj]);exact zab zyN I) (zaz I I (λ jj=>by(try rw [jj]);exact zah 1 zAj I I I) (zaz I I (λ jj=>by(try rw [jj]);exact zaV (Tryz.underlying132) I) (zaz I I (λ jj=>by(try rw [jj]);exact zfx I I) (ph_y (zaR I I I) (gN [5,8,12,13,14,15,16,17,18,74] I (zap I (λ hc74=>?_) (λ hc74=>?_)))))))))))))))
   ·have k2:way<0∨((zaN S V (bs.getD i.toNat default).wall).s.opens.length:Int)≤way:=by simpa using hc74
    have hm:(mayB S V x (bs.getD i.toNat default) back way)=_:=zCv k1 k2
    refine gS (gA I (gA I (gN [5,8,12,13,14,15,16,17,18] I (zaw (zay (zc2 I (zau I) (zau I)) ?_)))))
    rw [hm]
   ·have k2:¬ (way<0∨((zaN S V (bs.getD i.toNat default).wall).s.opens.length:Int)≤way):=by simpa using hc74
    have hfit:=hG1.wf.fit ((zaN S V (bs.getD i.toNat default).wall).s.opens.getD way.toNat default) (za0 (by omega))
    have q1:=hfit.f;have q2:=hfit.h;have q3:=hfit.w
    refine zaq (gS (gQ (zab zyN I) (gQ (zah 1 zAj I I I) (gM I (gQ (zaE zEf I I (λ _=>rH hwo1)) (gQ (zbv (vs:=[_,_,_,_,_]) zzW I (λ _=>rH hwo1) (by omega) (by omega) I) (zaG I I (zaL zzW (zs:=[_,_,_,_,_]) I) λ b20=>(zaA 0 zzW I I (vs:=[_,_,_,_,_]) I I I I I (gN [8,12,13,14,16,17,18,20] I (gS (gQ (zab zyC I) (gQ (zah 0 tf3 I I I) (gM I (gQ (zfV I I) (gA I (gN [8,12,13,14,16,17,18,20,21] I (zac (gS (gQ (zab zeo I) (gQ (zah 4 tf3 I I I) (gQ (zab zzQ I) (gQ (zah 0 tf3 I I I) (gQ (zc6 I I) (gN [8,12,13,14,16,17,18,20,21,88] I (zap I (λ hc88=>?_) (λ hc88=>?_))))))))))))))))))))))))))
    ·have k3:((zaN S V (bs.getD i.toNat default).wall).s.opens.getD way.toNat default).width<x.wide:=oT hc88
     have hm:(mayB S V x (bs.getD i.toNat default) back way)=_:=zCX k1 k2 k3
     refine gS (gA I (gA I (gN [8,12,13,14,16,17,18,20,21] I (zaw (zay (zc2 I (zau I) (zau I)) ?_)))))
     rw [hm]
    ·have k3:¬ ((zaN S V (bs.getD i.toNat default).wall).s.opens.getD way.toNat default).width<x.wide:=oD hc88
     refine zaq (zac (gS (gQ (zab zzr I) (gQ (zah 0 tf5 I I I) (gQ (zbL I I) (gN [8,12,13,14,16,17,18,20,21,91] I (zap I (λ hc91=>?_) (λ hc91=>?_))))))))
     ·have k4:((zaN S V (bs.getD i.toNat default).wall).s.opens.getD way.toNat default).kind=4:=oT hc91
      have hm:(mayB S V x (bs.getD i.toNat default) back way)=_:=zCW k1 k2 k3 k4
      refine zac (gZ 5 (ph_y (zab zCf I) (ph_y (zah 3 tf4 I I I) (ph_y (zbR I) (ph_y (zad I) (ph_y (zad I) (gN [8,12,13,16,17,18,20,21] I (zaw (zay (zc2 I (zau I) (zau I)) ?_)))))))))
      rw [hm]
     ·have k4:¬ ((zaN S V (bs.getD i.toNat default).wall).s.opens.getD way.toNat default).kind=4:=oD hc91
      refine zaq (zac (gS (gQ (zab zzr I) (gQ (zah 0 tf5 I I I) (gQ (zbL I I) (gN [8,12,13,16,17,18,20,21,97] I (zap I (λ hc97=>?_) (λ hc97=>?_))))))))
      ·have k5:((zaN S V (bs.getD i.toNat default).wall).s.opens.getD way.toNat default).kind=3:=oT hc97
       have hm:(mayB S V x (bs.getD i.toNat default) back way)=_:=zBR k1 k2 k3 k4 k5
       refine zac (gZ 18 (ph_y (zaf I) (ph_y (zws I I) (ph_y (zaY I I) (ph_y (zaf I) (ph_y (zab zA6 I) (ph_y (zah 4 tf3 I I I) (ph_y (zeT I I) (ph_y (zaf I) (zaH I I (λ jj=>by(try rw [jj]);exact zat 1 zzu I I (vs:=[_,_,_,_,_,_,_,_,_,_,_,_,_,_,_,_,_,_,_,_]) I I) (zaH I I (λ jj=>by(try rw [jj]);exact zab zyC I) (zaH I I (λ jj=>by(try rw [jj]);exact zah 0 tf3 I I I) (zaH I I (λ jj=>by(try rw [jj]);exact zaJ (v:=O (zy8 (zar S V (bs.getD i.toNat default).wall).s (((zaN S V (bs.getD i.toNat default).wall).s.opens.getD way.toNat default).frm))) en88 I (λ w hw=>zAw _ _ (zar S V (bs.getD i.toNat default).wall).s (((zaN S V (bs.getD i.toNat default).wall).s.opens.getD way.toNat default).frm) w hG1.sp (by omega) (by omega))) (zaH I I (λ jj=>by(try rw [jj]);exact zab zA7 I) (zaH I I (λ jj=>by(try rw [jj]);exact zah 4 tf3 I I I) (zaH I I (λ jj=>by(try rw [jj]);exact zeT I I) (ph_y (zaX I I I) (ph_y (zad I) (ph_y (zad I) (gN [8,12,13,17,18,20,21] I (zaw (zay (zc2 I (zau I) (zau I)) ?_))))))))))))))))))))))
       rw [hm,hg]
      ·have k5:¬ ((zaN S V (bs.getD i.toNat default).wall).s.opens.getD way.toNat default).kind=3:=oD hc97
       have hm:(mayB S V x (bs.getD i.toNat default) back way)=_:=zCV k1 k2 k3 k4 k5
       refine zaq (gS (gQ (zab zyC I) (gQ (zah 0 tf3 I I I) (gM I (gM I (gQ (zws I I) (gQ (zws I I) (gA I (gN [8,12,13,20,21,22] I (zac (gZ 21 (ph_y (zaf I) (ph_y (zws I I) (ph_y (zaY I I) (ph_y (zaf I) (ph_y (zab zCQ I) (ph_y (zah 4 tf3 I I I) (ph_y (zeT I I) (ph_y (zaf I) (zaH I I (λ jj=>by(try rw [jj]);exact zab zyC I) (zaH I I (λ jj=>by(try rw [jj]);exact zah 0 tf3 I I I) (zaH I I (λ jj=>by(try rw [jj]);exact zab zzs I) (zaH I I (λ jj=>by(try rw [jj]);exact zah 0 tf3 I I I) (zaH I I (λ jj=>by(try rw [jj]);exact zaY I I) (zaH I I (λ jj=>by(try rw [jj]);exact zaf I) (zaH I I (λ jj=>by(try rw [jj]);exact zfV I I) (zaH I I (λ jj=>by(try rw [jj]);exact zab zd7 I) (zaH I I (λ jj=>by(try rw [jj]);exact zah 4 tf3 I I I) (zaH I I (λ jj=>by(try rw [jj]);exact zfx I I) (ph_y (zaX I I I) (ph_y (zad I) (ph_y (zad I) (gN [12,13] I (zaw (zay (zc2 I (zau I) (zau I)) ?_)))))))))))))))))))))))))))))))))))
       rw [hm,hg,hh]
end Go.Proofs.YteepmmghanbllaaGreatDoor
namespace Go.Fld
open Go Go.K Go.Stn Go.Pln
section
variable {S:List ShC} {V:List WlC} {cs:List ByteArray} {bs:List Bdr} {x:Anm} {b:Bdr} {i j n:Nat} {s:ByteArray}
theorem zGk (hi:i≤cs.length) (h:∀ j:Nat,j<i→(s.toList == (cs.getD j default).toList)=false):hasS (cs.take i) s=false:=by
 refine Bool.eq_false_iff.2 λ h2=>?_
 obtain⟨z,hz,e⟩:=List.any_eq_true.1 h2
 obtain⟨j,hj,rfl⟩:=List.getElem_of_mem hz
 rw [List.length_take] at hj
 have h3:=h j (by omega)
 rw [gE,eG (by omega)] at h3
 rw [List.getElem_take] at e
 rw [show((some cs[j]).getD default)=cs[j] from rfl,e] at h3
 cases h3
theorem zER (hi:i≤cs.length) (hj:j<i) (e:(s.toList == (cs.getD j default).toList)=true):hasS (cs.take i) s=true:=by
 refine List.any_eq_true.2 ⟨cs.getD j default,?_,e⟩
 rw [gE,eG (by omega)]
 exact List.mem_iff_getElem.2 ⟨j,by rw [List.length_take];omega,by rw [List.getElem_take];rfl⟩
theorem zDD (h:(!zdY (cs.getD i default))=true):zy0 cs i=false:=by
 unfold zy0
 rw [znv,show zdY (cs.getD i default)=false from by simpa using h];rfl
theorem zDE (hi:i≤cs.length) (hj:j<i) (e:((cs.getD i default).toList == (cs.getD j default).toList)=true):zy0 cs i=false:=by
 unfold zy0
 rw [zER hi hj e,Bool.not_true,Bool.and_false]
theorem zDF (hi:i≤cs.length) (h:(!zdY (cs.getD i default))=false) (h2:∀ j:Nat,j<i→((cs.getD i default).toList == (cs.getD j default).toList)=false):zy0 cs i=true:=by
 unfold zy0
 rw [znv,show zdY (cs.getD i default)=true from by simpa using h,zGk hi h2];rfl
theorem zCF {i:Int}:inZ i 0 ((n:Int) - 1)=zBG n i:=by
 unfold zBG inZ
 congr 1
 exact decide_eq_decide.2 (by omega)
theorem zDx (hP:zc4 S V=true):((((((!zBG n b.a)||!zBG n b.b)||decide (b.a=b.b))||decide (zaM V b.wall<0))||!inZ b.gA (-3000) 3000)||!inZ b.gB (-3000) 3000) = !zzp S V n b:=by
 have hf:decide (zb6 S V b.wall=0) = !decide (zaM V b.wall<0):=by
  unfold zb6
  rw [if_pos hP]
  by_cases h:0≤zaM V b.wall
  ·rw [if_pos h,decide_eq_true I,decide_eq_false (by omega)];rfl
  ·rw [if_neg h,decide_eq_false (by decide),decide_eq_true (by omega)];rfl
 unfold zzp
 rw [hf,zCF,zCF]
 cases zBG n b.a <;> cases zBG n b.b <;> cases decide (b.a=b.b) <;> cases decide (zaM V b.wall<0) <;> cases inZ b.gA (-3000) 3000 <;> cases inZ b.gB (-3000) 3000 <;> rfl
theorem zDq:(((((!inZ x.wide 0 10000)||!inZ x.high 0 10000)||!inZ x.step 0 10000)||!inZ x.leap 0 10000)||!inZ x.reach 0 10000) = !zBE x:=by
 unfold zBE zC8
 simp only [List.any_cons,List.any_nil,Bool.or_false,Bool.not_not,Bool.or_assoc]
theorem zGA (h:(((!zc4 S V)||!inZ (cs.length:Int) 1 40)||decide (80<(bs.length:Int)))=true):zym S V cs bs x=false:=by
 refine zzd ?_
 unfold zy1
 revert h
 cases zc4 S V <;> cases inZ (cs.length:Int) 1 40 <;> cases decide (80<(bs.length:Int)) <;> simp
theorem zGB (h:(((((!inZ x.wide 0 10000)||!inZ x.high 0 10000)||!inZ x.step 0 10000)||!inZ x.leap 0 10000)||!inZ x.reach 0 10000)=true):zym S V cs bs x=false:=by
 refine zzd ?_
 rw [zDq] at h
 unfold zy1
 rw [show zBE x=false from by simpa using h,Bool.and_false]
theorem zE6 (h:(((!zc4 S V)||!inZ (cs.length:Int) 1 40)||decide (80<(bs.length:Int)))=false) (h2:(((((!inZ x.wide 0 10000)||!inZ x.high 0 10000)||!inZ x.step 0 10000)||!inZ x.leap 0 10000)||!inZ x.reach 0 10000)=false):zy1 S V cs bs x=true∧zc4 S V=true:=by
 rw [zDq] at h2
 unfold zy1
 rw [show zBE x=true from by simpa using h2]
 revert h
 cases zc4 S V <;> cases inZ (cs.length:Int) 1 40 <;> cases decide (80<(bs.length:Int)) <;> simp
end
end Go.Fld
namespace Go.Proofs.YteepmmghanbllaaGreatDoor
open Go.K Go.Stn Go.Pln Go.Fld Go.RowKit
theorem tf29:TF Tryz.prog 29 true 2 (.agg #[C none 0 0,C none 0 0]):=tK
theorem tf31:TF Tryz.prog 31 true 5 (.agg #[O 0,O 0,O 0,O 0,O 0]):=tK
theorem zCa:FO Tryz.prog 100 0 0:=fK
theorem zCb:FO Tryz.prog 100 1 1:=fK
theorem en20:En Tryz.prog 20:=eK Tryz.func20
theorem en53:En Tryz.prog 53:=eK Tryz.func53
theorem en83:En Tryz.prog 83:=eK Tryz.func83
theorem en84:En Tryz.prog 84:=eK Tryz.func84
theorem zFg {l:List Opn} {n:Int} (h0:0≤n) (h:n=(l.length:Int)):wayN l n.toNat = -1:=if_pos (by omega)
theorem zGK {l:List Opn} {n:Int} (h0:0≤n) (h:¬ n=(l.length:Int)):wayN l n.toNat=n:=(if_neg (by omega)).trans (by omega)
theorem zEb (a:yO) (cap:Nat) (S:List ShC) (b:yO) (bcap:Nat) (V:List WlC) (ca:yO) (ccap:Nat) (cs:List ByteArray) (ba:yO) (bcp:Nat) (bs:List Bdr) (x:Anm) (i:Int) (back:Bool) (w:World) (hl:yag w a S) (hs:zaP S.length) (hcS:S.length≤cap) (hlw:yah w b V) (hsw:zaP V.length) (hsh:yab S w) (hss:yac S) (hwo:yaa V w) (hsv:yae V) (hcp:yad V) (hkn:yaf V) (hc:yai w ca cs) (hcs:zaP cs.length) (hcap:cs.length≤ccap) (hbd:yaj w ba bs) (hbs:zaP bs.length) (hok:(zym S V cs bs x)=true) (i0:0≤i) (i1:i<bs.length) :
  Calls Tryz.prog 26 #[zzz3 a S cap b V bcap,zzz4 ca cs ccap ba bs bcp,zzz1 x,O i,.bool back] w (Pure (.tuple #[O (acrB S V x (bs.getD i.toNat default) back ((zaN S V (bs.getD i.toNat default).wall).s.opens.length+1)).way,O (acrB S V x (bs.getD i.toNat default) back ((zaN S V (bs.getD i.toNat default).wall).s.opens.length+1)).eff,.bool (acrB S V x (bs.getD i.toNat default) back ((zaN S V (bs.getD i.toNat default).wall).s.opens.length+1)).some]) w):=by
 obtain⟨_,_,hbn,_,_,hbo⟩:=zzD hok
 have hbrd:=hbo i.toNat (by omega)
 have hf:=(zzq hbrd).1
 obtain⟨hG1,hG2⟩:=zBh hbrd
 have hnums:=hG1.nums
 have hgg1:=hG1.g
 have hgg2:=hG2.g
 have hwo1:=zfL (S:=S) (V:=V) (n:=(bs.getD i.toNat default).wall) hwo
 have hss1:=zhG (S:=S) (V:=V) (n:=(bs.getD i.toNat default).wall) hsh
 obtain⟨hsvw,hsss⟩:=zxT (n:=(bs.getD i.toNat default).wall) hsv hss
 have hon:=hG1.wf.num
 refine zan (vs:=[_,_,_,_,_]) Tryz.func26 I I (bL I) (gS (zaG I I (za3 (vs:=[_,_]) I I) λ b5=>(zaG I I (za3 (vs:=[_,_]) I I) λ b6=>(zaG I I (za3 (vs:=[_,_,_,_,_]) I I) λ b7=>(gA I (gA I (gA I (gN [3,4,5,6,7,10,11,12] I (zac (zCs [] (ch [(10,Nat),(11,Nat)]) 1000 14 [0,0,2,0,14,30,63,127,255,255,0,0,3583,8191] [] I (λ _=>mixed) (by kernel_rfl) (zjK _ ⟨inferInstance,inferInstance,trivial⟩) (pY (λ ρ=>zat 2 tf25 I I (vs:=[_,_]) I I) (pY (λ ρ=>zab zzL I) (pY (λ ρ=>zah 1 tf27 I I I) (pY (λ ρ=>zaf I) (pY (λ ρ=>zaE se27 I I (λ _=>rH hbd)) (pY (λ ρ=>zbv (vs:=[_,_,_,_,_,_]) zAU I (λ _=>rH hbd) (by omega) (by omega) I) (pY (λ ρ=>zaJ en52 I (λ w hw=>zEe _ _ S _ _ V (bs.getD i.toNat default) w (rH hl hw) hs hcS (rH hlw hw) hsw (λ z hz=>(rH (hsh z hz) hw)) hss (λ z hz=>(rH (hwo z hz) hw)) hsv hcp hkn hf)) (pY (λ ρ=>zaf I) (pY (λ ρ=>zaB I I) (pY (λ ρ=>zaB I I) (zFy (λ ρ=>zaL zAk (zs:=[_,_,_,_]) I) (λ ρ ρ' h=>⟨by rfl,by rfl⟩) (zFy (λ ρ=>zaL zzu (zs:=[_,_,_,_,_,_,_,_,_,_,_,_,_,_,_,_,_,_,_,_]) I) (λ ρ ρ' h=>⟨by rfl,by rfl⟩) ?_))))))))))))))))))))))
 refine zIb (R:=λ ρ=>Box (ρ 10) [.string ⟨#[]⟩,.string ⟨#[]⟩,O 0,C none 0 0] 134) (A:=λ ρ=>Box (ρ 10) (wV ((zaN S V (bs.getD i.toNat default).wall).s) ((zaN S V (bs.getD i.toNat default).wall).a) ((zaN S V (bs.getD i.toNat default).wall).cap)) 134) 10 I I (λ _=>rfl) (λ ρ=>zex zAk I I (vs:=[_,_,_,_]) I I I I I) (λ ρ ρ' h=>by(first|rfl|(simp only [h 10 I];done)|(simp only [h 10 I];rfl))) (zIb (R:=λ ρ=>Box (ρ 11) [.string ⟨#[]⟩,O 0,O 0,O 0,O 0,C none 0 0,O 0,O 0,O 0,O 0,O 0,O 0,O 0,.int .u8 0,O 0,O 0,O 0,O 0,O 0,O 0] 135) (A:=λ ρ=>Box (ρ 11) (sV ((zar S V (bs.getD i.toNat default).wall).s) ((zar S V (bs.getD i.toNat default).wall).a) ((zar S V (bs.getD i.toNat default).wall).cap)) 135) 11 I I (λ _=>rfl) (λ ρ=>zex zzu I I (vs:=[_,_,_,_,_,_,_,_,_,_,_,_,_,_,_,_,_,_,_,_]) I I I I I) (λ ρ ρ' h=>by(first|rfl|(simp only [h 11 I];done)|(simp only [h 11 I];rfl))) ?_)
 refine λ ρ=>zag (zf4 (X:=Nat×Nat) (ρ 10,ρ 11) (λ⟨b13,b14⟩=>[(3,O i),(4,.bool back),(5,Z b5),(6,Z b6),(7,Z b7),(10,O 0),(11,O 0),(12,.bool false),(13,Z b13)]) (λ⟨b13,b14⟩=>[Box b14 (sV ((zar S V (bs.getD i.toNat default).wall).s) ((zar S V (bs.getD i.toNat default).wall).a) ((zar S V (bs.getD i.toNat default).wall).cap)) 135,Box b13 (wV ((zaN S V (bs.getD i.toNat default).wall).s) ((zaN S V (bs.getD i.toNat default).wall).a) ((zaN S V (bs.getD i.toNat default).wall).cap)) 134,Box b7 (zzz2 x) 31,Box b6 (zzz6 ca cs ccap ba bs bcp) 29,Box b5 (zzz5 a S cap b V bcap) 25]) (sB I) I ?_)
 rintro ⟨b13,b14⟩
 refine gS (gA I (gA I (gA I (gN [3,4,5,6,7,10,11,12,13,15,16,17] I (zac (gS (gA I (gN [3,4,5,6,7,10,11,12,13,15,16,17,18] I (zas ?_)))))))))
 refine zbf (X:=Int) (λ(n:Int)=>[(3,O i),(4,.bool back),(5,Z b5),(6,Z b6),(7,Z b7),(10,O 0),(11,O 0),(12,.bool false),(13,Z b13),(15,O (acrB S V x (bs.getD i.toNat default) back n.toNat).way),(16,O (acrB S V x (bs.getD i.toNat default) back n.toNat).eff),(17,.bool (acrB S V x (bs.getD i.toNat default) back n.toNat).some),(18,O n)]) (λ(n:Int)=>[Box b14 (sV ((zar S V (bs.getD i.toNat default).wall).s) ((zar S V (bs.getD i.toNat default).wall).a) ((zar S V (bs.getD i.toNat default).wall).cap)) 135,Box b13 (wV ((zaN S V (bs.getD i.toNat default).wall).s) ((zaN S V (bs.getD i.toNat default).wall).a) ((zaN S V (bs.getD i.toNat default).wall).cap)) 134,Box b7 (zzz2 x) 31,Box b6 (zzz6 ca cs ccap ba bs bcp) 29,Box b5 (zzz5 a S cap b V bcap) 25]) (λ(n:Int)=>(0≤n∧n≤((zaN S V (bs.getD i.toNat default).wall).s.opens.length:Int)+1)) (λ(n:Int)=>(((zaN S V (bs.getD i.toNat default).wall).s.opens.length:Int)+1 - n).toNat) 0 (sB I) I ?_ ?_
 ·exact⟨by omega,by omega⟩
 ·rintro n hI
  obtain⟨n0,n1⟩:=hI
  refine zac (gS (gM I (gQ (zab zyN I) (gQ (zah 1 zAj I I I) (gQ (zaV (Tryz.underlying132) I) (gQ (zeT I I) (gN [3,4,5,6,7,10,11,12,13,15,16,17,18,36] I (zap I (λ hc36=>?_) (λ hc36=>?_)))))))))
  ·have hc36:=oT hc36
   have hup:=zGR (S:=S) (V:=V) (x:=x) (b:=(bs.getD i.toNat default)) (back:=back) (n:=n.toNat)
   rw [show n.toNat+1=(n+1).toNat from by omega] at hup
   refine zaq (zac (zas (gS (gM I (gA I (gN [3,4,5,6,7,10,11,12,13,15,16,17,18,19] I (zac (gS (gM I (gQ (zab zyN I) (gQ (zah 1 zAj I I I) (gQ (zaV (Tryz.underlying132) I) (gQ (zbL I I) (gN [3,4,5,6,7,10,11,12,13,15,16,17,18,19,44] I (zap I (λ hc44=>?_) (λ hc44=>?_))))))))))))))))
   ·have hwn:=zFg n0 (oT hc44)
    rw [hwn] at hup
    refine zaa (gA I (gN [3,4,5,6,7,10,11,12,13,15,16,17,18,19] I (gS (gQ (zat 4 tf25 I I (vs:=[_,_]) I I) (gQ (zat 3 tf29 I I (vs:=[_,_]) I I) (gQ (zat 2 tf31 I I (vs:=[_,_,_,_,_]) I I) (gM I (gM I (gM I (gQ (zaJ en53 I (λ w hw=>zFz _ _ S _ _ V _ _ cs _ _ bs x i back (-1) w (rH hl hw) hs hcS (rH hlw hw) hsw (λ z hz=>(rH (hsh z hz) hw)) hss (λ z hz=>(rH (hwo z hz) hw)) hsv hcp hkn (rH hc hw) hcs hcap (rH hbd hw) hbs hok i0 i1)) (gM I (gQ (zaB I I) (gQ (zaB I I) (gA I (gA I (gN [3,4,5,6,7,10,11,12,13,15,16,17,18,19,20,21] I (zac (gZ 10 (ph_y (zaf I) (ph_y (zaf I) (zaH I I (λ jj=>by(try rw [jj]);exact zaf I) (zaH I I (λ jj=>by(try rw [jj]);exact zbR I) (zaH I I (λ jj=>by(try rw [jj]);exact zaf I) (zc0 I I (λ jj=>by(try rw [jj]);exact zaf I) (zc0 I I (λ jj=>by(try rw [jj]);exact zaf I) (zc0 I I (λ jj=>by(try rw [jj]);exact zbw I I) (zaH I I (λ jj=>by(try rw [jj]);exact zaR I I I) (ph_y (zaX I I I) (gN [3,4,5,6,7,10,11,12,13,15,16,17,18,19,20,64] I (zap I (λ hc64=>?_) (λ hc64=>?_)))))))))))))))))))))))))))))))
    ·rw [if_pos hc64] at hup
     refine zaa (gM I (gM I (gA I (gA I (gA I (gN [3,4,5,6,7,10,11,12,13,15,16,17,18] I (zae (T':=[(3,_),(4,_),(5,_),(6,_),(7,_),(10,_),(11,_),(12,_),(13,_),(15,O (acrB S V x (bs.getD i.toNat default) back (n+1).toNat).way),(16,O (acrB S V x (bs.getD i.toNat default) back (n+1).toNat).eff),(17,.bool (acrB S V x (bs.getD i.toNat default) back (n+1).toNat).some),(18,_)]) ⟨I,I,I,I,I,I,I,I,I,(by show some (Value.int .i64 (-1))=_;rw [hup]),(by show some (Value.int .i64 ((mayB S V x (bs.getD i.toNat default) back (-1)).1))=_;rw [hup]),(by show some (Value.bool true)=_;rw [hup]),I,trivial⟩ (zaa (gM I (gQ (zaY I I) (gA I (gN [3,4,5,6,7,10,11,12,13,15,16,17,18] I ?_))))))))))))
     exact za1 (n+1) (sB I) I ⟨by omega,by omega⟩ (by omega)
    ·rw [if_neg (by rw [hc64];exact fT)] at hup
     refine zae (T':=[(3,_),(4,_),(5,_),(6,_),(7,_),(10,_),(11,_),(12,_),(13,_),(15,O (acrB S V x (bs.getD i.toNat default) back (n+1).toNat).way),(16,O (acrB S V x (bs.getD i.toNat default) back (n+1).toNat).eff),(17,.bool (acrB S V x (bs.getD i.toNat default) back (n+1).toNat).some),(18,_),(19,_),(20,_),(64,_)]) ⟨I,I,I,I,I,I,I,I,I,(by show some (Value.int .i64 (acrB S V x (bs.getD i.toNat default) back n.toNat).way)=_;rw [hup]),(by show some (Value.int .i64 (acrB S V x (bs.getD i.toNat default) back n.toNat).eff)=_;rw [hup]),(by show some (Value.bool (acrB S V x (bs.getD i.toNat default) back n.toNat).some)=_;rw [hup]),I,I,I,I,trivial⟩ (zaq (zaa (gM I (gQ (zaY I I) (gA I (gN [3,4,5,6,7,10,11,12,13,15,16,17,18] I ?_))))))
     exact za1 (n+1) (sB I) I ⟨by omega,by omega⟩ (by omega)
   ·have hwn:=zGK n0 (oD hc44)
    rw [hwn] at hup
    refine zaq (gS (gQ (zat 4 tf25 I I (vs:=[_,_]) I I) (gQ (zat 3 tf29 I I (vs:=[_,_]) I I) (gQ (zat 2 tf31 I I (vs:=[_,_,_,_,_]) I I) (gM I (gM I (gM I (gQ (zaJ en53 I (λ w hw=>zFz _ _ S _ _ V _ _ cs _ _ bs x i back n w (rH hl hw) hs hcS (rH hlw hw) hsw (λ z hz=>(rH (hsh z hz) hw)) hss (λ z hz=>(rH (hwo z hz) hw)) hsv hcp hkn (rH hc hw) hcs hcap (rH hbd hw) hbs hok i0 i1)) (gM I (gQ (zaB I I) (gQ (zaB I I) (gA I (gA I (gN [3,4,5,6,7,10,11,12,13,15,16,17,18,19,20,21] I (zac (gZ 10 (ph_y (zaf I) (ph_y (zaf I) (zaH I I (λ jj=>by(try rw [jj]);exact zaf I) (zaH I I (λ jj=>by(try rw [jj]);exact zbR I) (zaH I I (λ jj=>by(try rw [jj]);exact zaf I) (zc0 I I (λ jj=>by(try rw [jj]);exact zaf I) (zc0 I I (λ jj=>by(try rw [jj]);exact zaf I) (zc0 I I (λ jj=>by(try rw [jj]);exact zbw I I) (zaH I I (λ jj=>by(try rw [jj]);exact zaR I I I) (ph_y (zaX I I I) (gN [3,4,5,6,7,10,11,12,13,15,16,17,18,19,20,64] I (zap I (λ hc64=>?_) (λ hc64=>?_)))))))))))))))))))))))))))))
    ·rw [if_pos hc64] at hup
     refine zaa (gM I (gM I (gA I (gA I (gA I (gN [3,4,5,6,7,10,11,12,13,15,16,17,18] I (zae (T':=[(3,_),(4,_),(5,_),(6,_),(7,_),(10,_),(11,_),(12,_),(13,_),(15,O (acrB S V x (bs.getD i.toNat default) back (n+1).toNat).way),(16,O (acrB S V x (bs.getD i.toNat default) back (n+1).toNat).eff),(17,.bool (acrB S V x (bs.getD i.toNat default) back (n+1).toNat).some),(18,_)]) ⟨I,I,I,I,I,I,I,I,I,(by show some (Value.int .i64 n)=_;rw [hup]),(by show some (Value.int .i64 ((mayB S V x (bs.getD i.toNat default) back n).1))=_;rw [hup]),(by show some (Value.bool true)=_;rw [hup]),I,trivial⟩ (zaa (gM I (gQ (zaY I I) (gA I (gN [3,4,5,6,7,10,11,12,13,15,16,17,18] I ?_))))))))))))
     exact za1 (n+1) (sB I) I ⟨by omega,by omega⟩ (by omega)
    ·rw [if_neg (by rw [hc64];exact fT)] at hup
     refine zae (T':=[(3,_),(4,_),(5,_),(6,_),(7,_),(10,_),(11,_),(12,_),(13,_),(15,O (acrB S V x (bs.getD i.toNat default) back (n+1).toNat).way),(16,O (acrB S V x (bs.getD i.toNat default) back (n+1).toNat).eff),(17,.bool (acrB S V x (bs.getD i.toNat default) back (n+1).toNat).some),(18,_),(19,_),(20,_),(64,_)]) ⟨I,I,I,I,I,I,I,I,I,(by show some (Value.int .i64 (acrB S V x (bs.getD i.toNat default) back n.toNat).way)=_;rw [hup]),(by show some (Value.int .i64 (acrB S V x (bs.getD i.toNat default) back n.toNat).eff)=_;rw [hup]),(by show some (Value.bool (acrB S V x (bs.getD i.toNat default) back n.toNat).some)=_;rw [hup]),I,I,I,I,trivial⟩ (zaq (zaa (gM I (gQ (zaY I I) (gA I (gN [3,4,5,6,7,10,11,12,13,15,16,17,18] I ?_))))))
     exact za1 (n+1) (sB I) I ⟨by omega,by omega⟩ (by omega)
  ·have hc36:=oD hc36
   have hend:n.toNat=(zaN S V (bs.getD i.toNat default).wall).s.opens.length+1:=by omega
   refine za8 I (gS (gM I (gM I (gM I (gA I (gA I (gA I (gN [10,11,12] I (zaw (zay (zdh I (zau I) (zau I) (zau I)) ?_))))))))))
   rw [hend]
theorem zEd (a:yO) (cap:Nat) (S:List ShC) (b:yO) (bcap:Nat) (V:List WlC) (ca:yO) (ccap:Nat) (cs:List ByteArray) (ba:yO) (bcp:Nat) (bs:List Bdr) (x:Anm) (w:World) (hl:yag w a S) (hs:zaP S.length) (_hcS:S.length≤cap) (hlw:yah w b V) (hsw:zaP V.length) (hsh:yab S w) (hss:yac S) (hwo:yaa V w) (hsv:yae V) (hcp:yad V) (hkn:yaf V) (hc:yai w ca cs) (hcs:zaP cs.length) (_hcap:cs.length≤ccap) (hbd:yaj w ba bs) (hbs:zaP bs.length) (hfS:yas S) (hfV:∀ z∈V,Fits z.s.name.size) (hco:∀ z∈S,0≤z.s.cope) (hcf:∀ z∈cs,Fits z.size) :
  Calls Tryz.prog 51 #[zzz3 a S cap b V bcap,zzz4 ca cs ccap ba bs bcp,zzz1 x] w (Pure (.bool (zym S V cs bs x)) w):=by
 refine zan (vs:=[_,_,_]) Tryz.func51 I I (bL I) (gS (zaG I I (za3 (vs:=[_,_]) I I) λ b3=>(zaG I I (za3 (vs:=[_,_]) I I) λ b4=>(zaG I I (za3 (vs:=[_,_,_,_,_]) I I) λ b5=>(gA I (gN [3,4,5,6] I (zac (zac (gZ 16 (ph_y (zat 2 tf25 I I (vs:=[_,_]) I I) (ph_y (zaJ en83 I (λ w hw=>zsf _ _ S _ _ V w (rH hl hw) hs (rH hlw hw) hsw (λ z hz=>(rH (hsh z hz) hw)) hss (λ z hz=>(rH (hwo z hz) hw)) hsv hcp hkn hfS hfV hco)) (ph_y (zbR I) (ph_y (zaf I) (zaz I I (λ jj=>by(try rw [jj]);exact zab zAp I) (zaz I I (λ jj=>by(try rw [jj]);exact zah 1 tf26 I I I) (zaz I I (λ jj=>by(try rw [jj]);exact zaV (Tryz.underlying26) I) (zaz I I (λ jj=>by(try rw [jj]);exact zaJ (v:=.bool (inZ (cs.length:Int) 1 40)) en84 I (λ w hw=>zBU _ _ _ w)) (zaz I I (λ jj=>by(try rw [jj]);exact zbR I) (ph_y (zaR I I I) (ph_y (zaf I) (zaz I I (λ jj=>by(try rw [jj]);exact zab zzL I) (zaz I I (λ jj=>by(try rw [jj]);exact zah 1 tf27 I I I) (zaz I I (λ jj=>by(try rw [jj]);exact zaV (Tryz.underlying27) I) (zaz I I (λ jj=>by(try rw [jj]);exact zc6 I I) (ph_y (zaR I I I) (gN [3,4,5,6,26] I ?_))))))))))))))))))))))))))
 refine zap I (λ hc26=>?_) (λ hc26=>?_)
 ·have hno:zym S V cs bs x=false:=zGA hc26
  refine gS (gA I (gN [3,4,5,6] I (zaw (zay (zaC I (zau I)) ?_))))
  rw [hno]
 ·refine zaq (zac (zac (gZ 28 (ph_y (zab zeo I) (ph_y (zah 0 tf3 I I I) (ph_y (zaJ en84 I (λ w hw=>zBU _ _ _ w)) (ph_y (zbR I) (ph_y (zaf I) (zaz I I (λ jj=>by(try rw [jj]);exact zab zd7 I) (zaz I I (λ jj=>by(try rw [jj]);exact zah 0 tf3 I I I) (zaz I I (λ jj=>by(try rw [jj]);exact zaJ (v:=.bool (inZ x.high 0 10000)) en84 I (λ w hw=>zBU _ _ _ w)) (zaz I I (λ jj=>by(try rw [jj]);exact zbR I) (ph_y (zaR I I I) (ph_y (zaf I) (zaz I I (λ jj=>by(try rw [jj]);exact zab zCQ I) (zaz I I (λ jj=>by(try rw [jj]);exact zah 0 tf3 I I I) (zaz I I (λ jj=>by(try rw [jj]);exact zaJ (v:=.bool (inZ x.step 0 10000)) en84 I (λ w hw=>zBU _ _ _ w)) (zaz I I (λ jj=>by(try rw [jj]);exact zbR I) (ph_y (zaR I I I) (ph_y (zaf I) (zaz I I (λ jj=>by(try rw [jj]);exact zab zA6 I) (zaz I I (λ jj=>by(try rw [jj]);exact zah 0 tf3 I I I) (zaz I I (λ jj=>by(try rw [jj]);exact zaJ (v:=.bool (inZ x.leap 0 10000)) en84 I (λ w hw=>zBU _ _ _ w)) (zaz I I (λ jj=>by(try rw [jj]);exact zbR I) (ph_y (zaR I I I) (ph_y (zaf I) (zaz I I (λ jj=>by(try rw [jj]);exact zab zA7 I) ?_)))))))))))))))))))))))))))
  refine zaz I I (λ jj=>by(try rw [jj]);exact zah 0 tf3 I I I) (zaz I I (λ jj=>by(try rw [jj]);exact zaJ (v:=.bool (inZ x.reach 0 10000)) en84 I (λ w hw=>zBU _ _ _ w)) (zaz I I (λ jj=>by(try rw [jj]);exact zbR I) (ph_y (zaR I I I) (gN [3,4,6,54] I (zap I (λ hc54=>?_) (λ hc54=>?_))))))
  ·have hno:zym S V cs bs x=false:=zGB hc54
   refine gS (gA I (gN [3,4,6] I (zaw (zay (zaC I (zau I)) ?_))))
   rw [hno]
  ·obtain⟨hhead,hP⟩:=zE6 hc26 hc54
   refine zaq (zac (gS (gA I (gN [3,4,6,7] I (zas (zbf (X:=Int) (λ(i:Int)=>[(3,Z b3),(4,Z b4),(6,.bool false),(7,O i)]) (λ(i:Int)=>[Box b5 (zzz2 x) 31,Box b4 (zzz6 ca cs ccap ba bs bcp) 29,Box b3 (zzz5 a S cap b V bcap) 25]) (λ(i:Int)=>(0≤i∧i≤cs.length∧∀ j:Nat,(j:Int)<i→zy0 cs j=true)) (λ(i:Int)=>(cs.length - i).toNat) 0 ⟨I,I,I,I,trivial⟩ rfl ?_ ?_))))))
   ·exact⟨by omega,by omega,λ j hj=>by omega⟩
   ·rintro i hI
    obtain⟨g0,g1,g2⟩:=hI
    refine zac (gS (gM I (gQ (zab zAp I) (gQ (zah 1 tf26 I I I) (gQ (zaV (Tryz.underlying26) I) (gQ (zbw I I) (gN [3,4,6,7,59] I (zap I (λ hc59=>?_) (λ hc59=>?_)))))))))
    ·have hc59:=oT hc59
     refine zaq (zac (zas (zac (gS (gQ (zab zAp I) (gQ (zah 1 tf26 I I I) (gM I (gQ (zaE se26 I I (λ _=>rH hc)) (gQ (zcE tf9 I (λ _=>rH hc) (by omega) (by omega) I) (gQ (zaJ en85 I (λ w hw=>znM (cs.getD i.toNat default) w (hcf _ (za0 (by omega))))) (gQ (zbR I) (gN [3,4,6,7,68] I (zap I (λ hc68=>?_) (λ hc68=>?_))))))))))))))
     ·have hno:zym S V cs bs x=false:=zAf (i:=i.toNat) (by omega) (zDD hc68)
      refine gS (gA I (gN [3,4,6,7] I (zaw (zay (zaC I (zau I)) ?_))))
      rw [hno]
     ·refine zaq (gS (gA I (gN [3,4,6,7,8] I (zas (zbf (X:=Int) (λ(k:Int)=>[(3,Z b3),(4,Z b4),(6,.bool false),(7,O i),(8,O k)]) (λ(k:Int)=>[Box b5 (zzz2 x) 31,Box b4 (zzz6 ca cs ccap ba bs bcp) 29,Box b3 (zzz5 a S cap b V bcap) 25]) (λ(k:Int)=>(0≤k∧k≤i∧∀ j:Nat,(j:Int)<k→((cs.getD i.toNat default).toList == (cs.getD j default).toList)=false)) (λ(k:Int)=>(i - k).toNat) 0 (sB I) I ?_ ?_)))))
      ·exact⟨by omega,by omega,λ j hj=>by omega⟩
      ·rintro k hI
       obtain⟨h0,h1,h2⟩:=hI
       refine zac (gS (gM I (gM I (gQ (zbw I I) (gN [3,4,6,7,8,71] I (zap I (λ hc71=>?_) (λ hc71=>?_)))))))
       ·have hc71:=oT hc71
        refine zaq (zac (zas (zac (gZ 11 (ph_y (zab zAp I) (ph_y (zah 1 tf26 I I I) (ph_y (zaf I) (ph_y (zaE se26 I I (λ _=>rH hc)) (ph_y (zcE tf9 I (λ _=>rH hc) (by omega) (by omega) I) (ph_y (zab zAp I) (ph_y (zah 1 tf26 I I I) (ph_y (zaf I) (ph_y (zaE se26 I I (λ _=>rH hc)) (ph_y (zcE tf9 I (λ _=>rH hc) (by omega) (by omega) I) (ph_y (zge I I) (gN [3,4,6,7,8,84] I (zap I (λ hc84=>?_) (λ hc84=>?_))))))))))))))))))
        ·have hno:zym S V cs bs x=false:=zAf (i:=i.toNat) (by omega) (zDE (j:=k.toNat) (by omega) (by omega) hc84)
         refine gS (gA I (gN [3,4,6,7,8] I (zaw (zay (zaC I (zau I)) ?_))))
         rw [hno]
        ·refine zaq (zaa (gM I (gQ (zaY I I) (gA I (gN [3,4,6,7,8] I ?_)))))
         exact za1 (k+1) (sB I) I ⟨by omega,by omega,λ j hj=>if h:(j:Int)<k then h2 j h else(by rw [show j=k.toNat from by omega];exact hc84)⟩ (by omega)
       ·have hc71:=oD hc71
        have hcell:zy0 cs i.toNat=true:=zDF (by omega) hc68 (λ j hj=>h2 j (by omega))
        refine za8 I (zaa (gM I (gQ (zaY I I) (gA I (gN [3,4,6,7] I ?_)))))
        exact za1 (i+1) ⟨I,I,I,I,trivial⟩ rfl ⟨by omega,by omega,λ j hj=>if h:(j:Int)<i then g2 j h else(by rw [show j=i.toNat from by omega];exact hcell)⟩ (by omega)
    ·have hc59:=oD hc59
     have hcl:∀ j:Nat,j<cs.length→zy0 cs j=true:=λ j hj=>g2 j (by omega)
     refine za8 I (zac (gS (gA I (gN [3,4,6,9] I (zas (zbf (X:=Int) (λ(i:Int)=>[(3,Z b3),(4,Z b4),(6,.bool false),(9,O i)]) (λ(i:Int)=>[Box b5 (zzz2 x) 31,Box b4 (zzz6 ca cs ccap ba bs bcp) 29,Box b3 (zzz5 a S cap b V bcap) 25]) (λ(i:Int)=>(0≤i∧i≤bs.length∧∀ j:Nat,(j:Int)<i→zzp S V cs.length (bs.getD j default)=true)) (λ(i:Int)=>(bs.length - i).toNat) 0 ⟨I,I,I,I,trivial⟩ rfl ?_ ?_))))))
     ·exact⟨by omega,by omega,λ j hj=>by omega⟩
     ·rintro i hI
      obtain⟨g0,g1,g2⟩:=hI
      refine zac (gS (gM I (gQ (zab zzL I) (gQ (zah 1 tf27 I I I) (gQ (zaV (Tryz.underlying27) I) (gQ (zbw I I) (gN [3,4,6,9,89] I (zap I (λ hc89=>?_) (λ hc89=>?_)))))))))
      ·have hc89:=oT hc89
       refine zaq (zac (zas (gS (gQ (zab zzL I) (gQ (zah 1 tf27 I I I) (gM I (gQ (zaE se27 I I (λ _=>rH hbd)) (gQ (zbv (vs:=[_,_,_,_,_,_]) zAU I (λ _=>rH hbd) (by omega) (by omega) I) (zaG I I (zaL zAU (zs:=[_,_,_,_,_,_]) I) λ b10=>(zaA 0 zAU I I (vs:=[_,_,_,_,_,_]) I I I I I (gN [3,4,6,9,10] I (zac (gZ 38 (ph_y (zat 2 tf29 I I (vs:=[_,_]) I I) (ph_y (zab zCa I) (ph_y (zah 0 tf3 I I I) (ph_y (zaJ en20 I (λ w hw=>zEc _ _ cs _ _ bs ((bs.getD i.toNat default).a) w)) (ph_y (zbR I) (ph_y (zaf I) (zaz I I (λ jj=>by(try rw [jj]);exact zat 2 tf29 I I (vs:=[_,_]) I I) (zaz I I (λ jj=>by(try rw [jj]);exact zab zCb I) (zaz I I (λ jj=>by(try rw [jj]);exact zah 0 tf3 I I I) (zaz I I (λ jj=>by(try rw [jj]);exact zaJ (v:=.bool (zBG cs.length ((bs.getD i.toNat default).b))) en20 I (λ w hw=>zEc _ _ cs _ _ bs ((bs.getD i.toNat default).b) w)) (zaz I I (λ jj=>by(try rw [jj]);exact zbR I) (ph_y (zaR I I I) (ph_y (zaf I) (zaz I I (λ jj=>by(try rw [jj]);exact zab zCa I) ?_)))))))))))))))))))))))))))
       refine zaz I I (λ jj=>by(try rw [jj]);exact zah 0 tf3 I I I) (zaz I I (λ jj=>by(try rw [jj]);exact zab zCb I) (zaz I I (λ jj=>by(try rw [jj]);exact zah 0 tf3 I I I) (zaz I I (λ jj=>by(try rw [jj]);exact zbL I I) (ph_y (zaR I I I) (ph_y (zaf I) (zaz I I (λ jj=>by(try rw [jj]);exact zat 3 tf25 I I (vs:=[_,_]) I I) (zaz I I (λ jj=>by(try rw [jj]);exact zab zCc I) (zaz I I (λ jj=>by(try rw [jj]);exact zah 0 tf9 I I I) (zaz I I (λ jj=>by(try rw [jj]);exact zaJ (v:=O (zaM V ((bs.getD i.toNat default).wall))) en86 I (λ w hw=>zf9 _ _ _ _ _ V ((bs.getD i.toNat default).wall) w (rH hlw hw) hsw)) (zaz I I (λ jj=>by(try rw [jj]);exact zbw I I) (ph_y (zaR I I I) (ph_y (zaf I) (zaz I I (λ jj=>by(try rw [jj]);exact zab zCd I) (zaz I I (λ jj=>by(try rw [jj]);exact zah 0 tf3 I I I) (zaz I I (λ jj=>by(try rw [jj]);exact zaJ (v:=.bool (inZ ((bs.getD i.toNat default).gA) (-3000) 3000)) en84 I (λ w hw=>zBU _ _ _ w)) (zaz I I (λ jj=>by(try rw [jj]);exact zbR I) (ph_y (zaR I I I) (ph_y (zaf I) (zaz I I (λ jj=>by(try rw [jj]);exact zab zCe I) ?_)))))))))))))))))))
       refine zaz I I (λ jj=>by(try rw [jj]);exact zah 0 tf3 I I I) (zaz I I (λ jj=>by(try rw [jj]);exact zaJ (v:=.bool (inZ ((bs.getD i.toNat default).gB) (-3000) 3000)) en84 I (λ w hw=>zBU _ _ _ w)) (zaz I I (λ jj=>by(try rw [jj]);exact zbR I) (ph_y (zaR I I I) (gN [3,4,6,9,134] I (zap I (λ hc134=>?_) (λ hc134=>?_))))))
       ·rw [zDx hP] at hc134
        have hno:zym S V cs bs x=false:=zCT (i:=i.toNat) (by omega) (by simpa using hc134)
        refine gS (gA I (gN [3,4,6,9] I (zaw (zay (zaC I (zau I)) ?_))))
        rw [hno]
       ·rw [zDx hP] at hc134
        have hbrd:zzp S V cs.length (bs.getD i.toNat default)=true:=by simpa using hc134
        refine zaq (zaa (gM I (gQ (zaY I I) (gA I (gN [3,4,6,9] I (zaK 0 I ?_))))))
        exact za1 (i+1) ⟨I,I,I,I,trivial⟩ rfl ⟨by omega,by omega,λ j hj=>if h:(j:Int)<i then g2 j h else(by rw [show j=i.toNat from by omega];exact hbrd)⟩ (by omega)
      ·have hc89:=oD hc89
       have hyes:zym S V cs bs x=true:=zCU hhead hcl (λ j hj=>g2 j (by omega))
       refine za8 I (gS (gA I (gN [6] I (zaw (zay (zaC I (zau I)) ?_)))))
       rw [hyes]
end Go.Proofs.YteepmmghanbllaaGreatDoor
namespace Go.Fld
open Go Go.K Go.Stn Go.Pln
def rchA (S:List ShC) (V:List WlC) (cs:List ByteArray) (bs:List Bdr) (x:Anm) (frm:Int):List Int:=if atE S V cs bs x [frm]=0 then zAs (zze (zyj S V bs x) (λ _=>true) frm) 40 else []
def smA (S:List ShC) (V:List WlC) (cs:List ByteArray) (bs:List Bdr) (x:Anm) (want:Bool):List (Int×Int):=if zym S V cs bs x=true then smN S V bs x want bs.length else []
def clA (S:List ShC) (V:List WlC) (cs:List ByteArray) (bs:List Bdr) (x:Anm) (frm to:Int):List Int:=if prtE S V cs bs x frm to=0 then clsB (zyj S V bs x) (clsA (zyj S V bs x) bs frm to).1 (clsA (zyj S V bs x) bs frm to).2 else []
def wkA (S:List ShC) (V:List WlC) (cs:List ByteArray) (bs:List Bdr) (x:Anm) (frm to:Int):List (List (Int×Int)):=if prtE S V cs bs x frm to=0 then(wksF (zyj S V bs x) frm to (clsB (zyj S V bs x) (clsA (zyj S V bs x) bs frm to).1 (clsA (zyj S V bs x) bs frm to).2).length (clsA (zyj S V bs x) bs frm to).1).map stpL else []
def smlF (S:List ShC) (V:List WlC) (cs:List ByteArray) (bs:List Bdr):Bool:=((zgI S V&&decide ((cs.length:Int)≤45))&&decide ((bs.length:Int)≤90))&&(decide ((bs.length:Int)≤20)||decide (80<(bs.length:Int)))
theorem zEj {S:List ShC} {V:List WlC} {cs:List ByteArray} {bs:List Bdr} (h:smlF S V cs bs=true):zgI S V=true∧cs.length≤45∧bs.length≤90:=by
 unfold smlF at h
 simp only [aT,dT] at h
 exact⟨h.1.1.1,by omega,by omega⟩
theorem zDi {α:Type} [Inhabited α] {l:List α} {i:Int} (h0:0≤i) (h:i<(l.length:Int)):l.take i.toNat++[l.getD i.toNat default]=l.take (i+1).toNat:=by
 rw [show(i+1).toNat=i.toNat+1 from by omega,List.take_add_one,eG (by omega),gE,eG (by omega)];rfl
end Go.Fld
namespace Go.K
open Go
section
variable {XS:Nat→Type} {c:Cx} {ds:List Deferred} {pre:List Oper} {N:Nat} {rd:List (Nat×Nat)} {ms:List Nat} {T0:List (Nat×Value)} {H:List Res} {K:List (E3 XS)→Prop} {i d:Nat} {r:List Oper} {S:List (E3 XS)} {op:Op} {ty:TypeId} {ps:String} {af:Array Edge}
theorem zIa {V V0:((i:Nat)→XS i)→Value} {j:Nat} {q b:Bool} (hb:lk3 S j=some V0) (hb2:∀ ρ,V0 ρ=if q=true then .bool b else undef) (hj:zaT ⟨some d,op,ty,ps,af,some (j,false)⟩ j=true)
  (h:(q&&!b)=true→∀ ρ:(i:Nat)→XS i,Y c ds (zeS ρ (rcf ms i) S S++H) (zdA ρ (zaT ⟨some d,op,ty,ps,af,some (j,false)⟩) S++zcl pre i T0) ⟨some d,op,ty,ps,af,some (j,false)⟩ (V ρ))
  (hl:∀ ρ ρ':(i:Nat)→XS i,zkB XS ms i ρ ρ'→V ρ=V ρ') (k:PH5 N rd c ds pre ms T0 H K (i+1) r (⟨i,some d,none,λ ρ=>if (q&&!b)=true then V ρ else undef,λ _=>Emp⟩ :: S)) :
  PH5 N rd c ds pre ms T0 H K i (⟨some d,op,ty,ps,af,some (j,false)⟩ :: r) S:=
 ⟨_,rfl,rfl,λ ρ ρ' hs=>⟨by show(if (q&&!b)=true then V ρ else undef)=(if (q&&!b)=true then V ρ' else undef);rw [hl ρ ρ' (λ j hj=>hs j (.inl hj))],rfl⟩,.inr ⟨V0,_,q&&!b,V,hb,hb2,hj,by cases q <;> cases b <;> simp [undef],rfl,rfl,λ _=>rfl,h⟩,k⟩
end
theorem zAe {X:Type} {V:X→Value} {A:X→Res} {w w':World} {e:Ending} {v:Value} (x:X) (h:Pure v w e w') (hv:v=V x) (hA:∀ w,(A x).A (λ _=>False) w):zcU V A w e w':=
 ⟨x,by rw [h.1,hv],h.2,λ _=>False,λ _ h=>h.elim,hA w'⟩
theorem zEg {R1 R2:Res} {w:World} (h1:R1.A (λ _=>False) w) (h2:R2.A (λ _=>False) w):(SepR [R1,R2]).A (λ _=>False) w:=
 ⟨λ _=>False,λ _=>False,λ _ h=>h,λ _ h=>h.elim,h1,λ _=>False,λ _=>False,λ _ h=>h,λ _ h=>h.elim,h2,trivial⟩
theorem zEh {R1 R2 R3:Res} {w:World} (h1:R1.A (λ _=>False) w) (h2:R2.A (λ _=>False) w) (h3:R3.A (λ _=>False) w):(SepR [R1,R2,R3]).A (λ _=>False) w:=
 ⟨λ _=>False,λ _=>False,λ _ h=>h,λ _ h=>h.elim,h1,λ _=>False,λ _=>False,λ _ h=>h,λ _ h=>h.elim,h2,λ _=>False,λ _=>False,λ _ h=>h,λ _ h=>h.elim,h3,trivial⟩
end Go.K
namespace Go.Proofs.YteepmmghanbllaaGreatDoor
open Go.K Go.Stn Go.Pln Go.Fld Go.RowKit
theorem zEk (a:yO) (cap:Nat) (S:List ShC) (b:yO) (bcap:Nat) (V:List WlC) (ca:yO) (ccap:Nat) (cs:List ByteArray) (ba:yO) (bcp:Nat) (bs:List Bdr) (x:Anm) (w:World) (hl:yag w a S) (hs:zaP S.length) (hcS:S.length≤cap) (hlw:yah w b V) (hsw:zaP V.length) (hsh:yab S w) (hss:yac S) (hwo:yaa V w) (hsv:yae V) (hcp:yad V) (hkn:yaf V) (hc:yai w ca cs) (hcs:zaP cs.length) (hcap:cs.length≤ccap) (hbd:yaj w ba bs) (hbs:zaP bs.length) (hno:¬ (zym S V cs bs x)=true) :
  Calls Tryz.prog 16 #[zzz3 a S cap b V bcap,zzz4 ca cs ccap ba bs bcp,zzz1 x] w (Pure (.tuple #[C none 0 0,C none 0 0,O 2]) w):=by
 refine zan (vs:=[_,_,_]) Tryz.func16 I I (bL I) (gS (zaG I I (za3 (vs:=[_,_]) I I) λ b3=>(zaG I I (za3 (vs:=[_,_]) I I) λ b4=>(zaG I I (za3 (vs:=[_,_,_,_,_]) I I) λ b5=>(gA I (gA I (gA I (gN [3,4,5,6,7,8] I (gS (gQ (zat 2 tf37 I I (vs:=[_,_]) I I) (gQ (zat 1 tf40 I I (vs:=[_,_]) I I) (gQ (zat 0 tf41 I I (vs:=[_,_,_,_,_]) I I) (zaG I I (zbm en49 I (λ w hw=>zz8 _ _ S _ _ V _ _ cs _ _ bs x w (rH hl hw) hs hcS (rH hlw hw) hsw (λ z hz=>(rH (hsh z hz) hw)) hss (λ z hz=>(rH (hwo z hz) hw)) hsv hcp hkn (rH hc hw) hcs hcap (rH hbd hw) hbs hno)) λ p21=>(gM I (gQ (zaB I I) (gQ (zaB I I) (gA I (gA I (gN [3,4,6,7,8,9] I (zac (gS (gM I (gQ (zcr I I) (gN [3,4,6,7,8,9,25] I (zdg I (gS (gM I (gA I (gA I (gA I (gN [3,4,6,7,8,9] I (zaw (zay (zdh I (zau I) (zau I) (zau I)) ?_)))))))))))))))))))))))))))))))))
 rfl
theorem zEG (a:yO) (cap:Nat) (S:List ShC) (b:yO) (bcap:Nat) (V:List WlC) (ca:yO) (ccap:Nat) (cs:List ByteArray) (ba:yO) (bcp:Nat) (bs:List Bdr) (x:Anm) (frm to:Int) (w:World) (hl:yag w a S) (hs:zaP S.length) (hcS:S.length≤cap) (hlw:yah w b V) (hsw:zaP V.length) (hsh:yab S w) (hss:yac S) (hwo:yaa V w) (hsv:yae V) (hcp:yad V) (hkn:yaf V) (hc:yai w ca cs) (hcs:zaP cs.length) (hcap:cs.length≤ccap) (hbd:yaj w ba bs) (hbs:zaP bs.length) (hpr:¬ prtE S V cs bs x frm to=0) :
  Calls Tryz.prog 23 #[zzz3 a S cap b V bcap,zzz4 ca cs ccap ba bs bcp,zzz1 x,O frm,O to] w (Pure (.tuple #[C none 0 0,C none 0 0,O (prtE S V cs bs x frm to)]) w):=by
 refine zan (vs:=[_,_,_,_,_]) Tryz.func23 I I (bL I) (gS (zaG I I (za3 (vs:=[_,_]) I I) λ b5=>(zaG I I (za3 (vs:=[_,_]) I I) λ b6=>(zaG I I (za3 (vs:=[_,_,_,_,_]) I I) λ b7=>(zaG I I (za3 (vs:=[_]) I I) λ b9=>(gA I (gA I (gA I (gN [3,5,6,7,9,10,11,12] I (gS (gQ (zat 3 tf37 I I (vs:=[_,_]) I I) (gQ (zat 2 tf40 I I (vs:=[_,_]) I I) (gQ (zat 1 tf41 I I (vs:=[_,_,_,_,_]) I I) (gM I (gQ (zah 0 tf3 I I I) (gQ (zaJ en54 I (λ w hw=>zD7 _ _ S _ _ V _ _ cs _ _ bs x frm to w (rH hl hw) hs hcS (rH hlw hw) hsw (λ z hz=>(rH (hsh z hz) hw)) hss (λ z hz=>(rH (hwo z hz) hw)) hsv hcp hkn (rH hc hw) hcs hcap (rH hbd hw) hbs hpr)) (gM I (gQ (zaB I I) (gQ (zaB I I) (zaG I I (zaL zzI (zs:=[_]) I) λ b13=>(zaA 0 zzI I I (vs:=[_]) I I I I I (gA I (gN [3,6,9,10,11,12,13] I (zac (gS (gM I (gQ (zcr I I) (gN [3,6,9,10,11,12,13,36] I (zap I (λ hc36=>?_) (λ hc36=>?_))))))))))))))))))))))))))))))
 ·simp only [nT,dF] at hc36
  refine gS (gM I (gA I (gA I (gA I (gN [3,6,9,10,11,12,13] I (zaw (zay (zdh I (zau I) (zau I) (zau I)) ?_)))))))
  rfl
 ·exfalso;exact hpr (by simpa using hc36)
theorem zE5 (a:yO) (cap:Nat) (S:List ShC) (b:yO) (bcap:Nat) (V:List WlC) (ca:yO) (ccap:Nat) (cs:List ByteArray) (ba:yO) (bcp:Nat) (bs:List Bdr) (x:Anm) (frm:Int) (w:World) (hl:yag w a S) (hs:zaP S.length) (hcS:S.length≤cap) (hlw:yah w b V) (hsw:zaP V.length) (hsh:yab S w) (hss:yac S) (hwo:yaa V w) (hsv:yae V) (hcp:yad V) (hkn:yaf V) (hc:yai w ca cs) (hcs:zaP cs.length) (hcap:cs.length≤ccap) (hbd:yaj w ba bs) (hbs:zaP bs.length) :
  Calls Tryz.prog 15 #[zzz3 a S cap b V bcap,zzz4 ca cs ccap ba bs bcp,zzz1 x,O frm] w (zcU (λ z:Option Addr×Nat=>.tuple #[C z.1 (rchA S V cs bs x frm).length z.2,O (atE S V cs bs x [frm])]) (λ z=>Row z.1 1 z.2 3 D (rchA S V cs bs x frm)) w):=by
 by_cases hat:atE S V cs bs x [frm]=0
 ·have h:=zDf a cap S b bcap V ca ccap cs ba bcp bs x frm w hl hs hcS hlw hsw hsh hss hwo hsv hcp hkn hc hcs hcap hbd hbs hat
  rw [show(rchA S V cs bs x frm)=_ from if_pos hat,hat];exact h
 ·have h:=zDe a cap S b bcap V ca ccap cs ba bcp bs x frm w hl hs hcS hlw hsw hsh hss hwo hsv hcp hkn hc hcs hcap hbd hbs hat
  have e:(rchA S V cs bs x frm)=[]:=if_neg hat
  exact h.mono λ e' w' h=>zAe (none,0) h (by rw [e];rfl) (λ _=>by rw [e];exact zAR)
theorem zAz (a:yO) (cap:Nat) (S:List ShC) (b:yO) (bcap:Nat) (V:List WlC) (ca:yO) (ccap:Nat) (cs:List ByteArray) (ba:yO) (bcp:Nat) (bs:List Bdr) (x:Anm) (i:Int) (back:Bool) (w:World) (hl:yag w a S) (hs:zaP S.length) (hcS:S.length≤cap) (hlw:yah w b V) (hsw:zaP V.length) (hsh:yab S w) (hss:yac S) (hwo:yaa V w) (hsv:yae V) (hcp:yad V) (hkn:yaf V) (hc:yai w ca cs) (hcs:zaP cs.length) (hcap:cs.length≤ccap) (hbd:yaj w ba bs) (hbs:zaP bs.length) :
  Calls Tryz.prog 24 #[zzz3 a S cap b V bcap,zzz4 ca cs ccap ba bs bcp,zzz1 x,O i,.bool back] w (Pure (.tuple #[O (zyv S V cs bs x i back).way,O (zyv S V cs bs x i back).eff,O (zyv S V cs bs x i back).err]) w):=by
 by_cases hok:(zym S V cs bs x)=true
 ·exact zC6 a cap S b bcap V ca ccap cs ba bcp bs x i back w hl hs hcS hlw hsw hsh hss hwo hsv hcp hkn hc hcs hcap hbd hbs hok
 ·exact zC5 a cap S b bcap V ca ccap cs ba bcp bs x i back w hl hs hcS hlw hsw hsh hss hwo hsv hcp hkn hc hcs hcap hbd hbs hok
theorem zE7 (a:yO) (cap:Nat) (S:List ShC) (b:yO) (bcap:Nat) (V:List WlC) (ca:yO) (ccap:Nat) (cs:List ByteArray) (ba:yO) (bcp:Nat) (bs:List Bdr) (x:Anm) (w:World) (hl:yag w a S) (hs:zaP S.length) (hcS:S.length≤cap) (hlw:yah w b V) (hsw:zaP V.length) (hsh:yab S w) (hss:yac S) (hwo:yaa V w) (hsv:yae V) (hcp:yad V) (hkn:yaf V) (hc:yai w ca cs) (hcs:zaP cs.length) (hcap:cs.length≤ccap) (hbd:yaj w ba bs) (hbs:zaP bs.length) :
  Calls Tryz.prog 16 #[zzz3 a S cap b V bcap,zzz4 ca cs ccap ba bs bcp,zzz1 x] w (zcU (λ z:(Option Addr×Nat)×(Option Addr×Nat)=>.tuple #[C z.1.1 (smA S V cs bs x true).length z.1.2,C z.2.1 (smA S V cs bs x false).length z.2.2,O (zBP S V cs bs x)]) (λ z=>SepR [Row z.1.1 2 z.1.2 130 zyQ (smA S V cs bs x true),Row z.2.1 2 z.2.2 130 zyQ (smA S V cs bs x false)]) w):=by
 by_cases hok:(zym S V cs bs x)=true
 ·have h:=zEl a cap S b bcap V ca ccap cs ba bcp bs x w hl hs hcS hlw hsw hsh hss hwo hsv hcp hkn hc hcs hcap hbd hbs hok
  rw [show(smA S V cs bs x true)=_ from if_pos hok,show(smA S V cs bs x false)=_ from if_pos hok,zBA hok];exact h
 ·have h:=zEk a cap S b bcap V ca ccap cs ba bcp bs x w hl hs hcS hlw hsw hsh hss hwo hsv hcp hkn hc hcs hcap hbd hbs hok
  have e1:(smA S V cs bs x true)=[]:=if_neg hok
  have e2:(smA S V cs bs x false)=[]:=if_neg hok
  rw [zBz hok,e1,e2]
  exact h.mono λ e' w' h=>zAe ((none,0),(none,0)) h I (λ _=>zEg zAR zAR)
theorem zEF (a:yO) (cap:Nat) (S:List ShC) (b:yO) (bcap:Nat) (V:List WlC) (ca:yO) (ccap:Nat) (cs:List ByteArray) (ba:yO) (bcp:Nat) (bs:List Bdr) (x:Anm) (frm to:Int) (w:World) (hl:yag w a S) (hs:zaP S.length) (hcS:S.length≤cap) (hlw:yah w b V) (hsw:zaP V.length) (hsh:yab S w) (hss:yac S) (hwo:yaa V w) (hsv:yae V) (hcp:yad V) (hkn:yaf V) (hc:yai w ca cs) (hcs:zaP cs.length) (hcap:cs.length≤ccap) (hbd:yaj w ba bs) (hbs:zaP bs.length) :
  Calls Tryz.prog 23 #[zzz3 a S cap b V bcap,zzz4 ca cs ccap ba bs bcp,zzz1 x,O frm,O to] w (zcU (λ z:(Option Addr×Nat)×(Option Addr×Nat)×List WkR=>.tuple #[C z.1.1 (clA S V cs bs x frm to).length z.1.2,C z.2.1.1 z.2.2.length z.2.1.2,O (prtE S V cs bs x frm to)]) (λ z=>zDo (z.2.2.map (·.1)=(wkA S V cs bs x frm to)) (SepR [Row z.1.1 1 z.1.2 3 D (clA S V cs bs x frm to),Row z.2.1.1 1 z.2.1.2 78 zBI z.2.2,Go.K.Rows rowK z.2.2])) w):=by
 by_cases hpr:prtE S V cs bs x frm to=0
 ·have h:=zEH a cap S b bcap V ca ccap cs ba bcp bs x frm to w hl hs hcS hlw hsw hsh hss hwo hsv hcp hkn hc hcs hcap hbd hbs hpr
  rw [show(clA S V cs bs x frm to)=_ from if_pos hpr,show(wkA S V cs bs x frm to)=_ from if_pos hpr,hpr];exact h
 ·have h:=zEG a cap S b bcap V ca ccap cs ba bcp bs x frm to w hl hs hcS hlw hsw hsh hss hwo hsv hcp hkn hc hcs hcap hbd hbs hpr
  have e1:(clA S V cs bs x frm to)=[]:=if_neg hpr
  have e2:(wkA S V cs bs x frm to)=[]:=if_neg hpr
  rw [e1,e2]
  exact h.mono λ e' w' h=>zAe ((none,0),(none,0),[]) h I (λ _=>⟨rfl,zEh zAR zAR zsb⟩)
theorem zCR:FO Tryz.prog 33 0 0:=fK
theorem zz0:FO Tryz.prog 33 1 2:=fK
theorem zAL:FO Tryz.prog 33 2 4:=fK
theorem af26:AF Tryz.prog 26 9 1 16 [.string ⟨#[]⟩]:=⟨Tryz.underlying26,by kernel_rfl,rfl⟩
theorem af38:AF Tryz.prog 38 64 6 56 [O 0,O 0,.string ⟨#[]⟩,O 0,O 0,.bool false]:=⟨Tryz.underlying38,by kernel_rfl,rfl⟩
theorem en42:En Tryz.prog 42:=eK Tryz.func42
theorem en43:En Tryz.prog 43:=eK Tryz.func43
theorem en51:En Tryz.prog 51:=eK Tryz.func51
theorem zFL (x0a:yO) (x0n x0c:Nat) (w:World):(Instr.build 40 #[(0,C x0a x0n x0c)]).run Tryz.prog w=.ok (.agg #[C x0a x0n x0c,C none 0 0]) w:=by kernel_rfl
theorem zyE (x0 x1 x2 x3 x4:Int) (w:World):(Instr.build 41 #[(0,O x0),(1,O x1),(2,O x2),(3,O x3),(4,O x4)]).run Tryz.prog w=.ok (.agg #[O x0,O x1,O x2,O x3,O x4]) w:=by kernel_rfl
theorem zzo (x0 x1:Int) (x2:ByteArray) (x3 x4:Int) (x5:Bool) (w:World):(Instr.build 64 #[(0,O x0),(1,O x1),(2,.string x2),(3,O x3),(4,O x4),(5,.bool x5)]).run Tryz.prog w=.ok (.agg #[O x0,O x1,.string x2,O x3,O x4,.bool x5]) w:=by kernel_rfl
theorem zsE (x0_0 x0_1:Int) (x0_2:ByteArray) (x0_3 x0_4:Int) (x0_5:Bool) (w:World):(Instr.buildSlice 38 1 #[(0,.agg #[O x0_0,O x0_1,.string x0_2,O x0_3,O x0_4,.bool x0_5])]).run Tryz.prog w=.ok (C (some ⟨w.heap.size,0,none⟩) 1 1) (w.alloc (.cells (([⟨x0_0,x0_1,x0_2,x0_3,x0_4,x0_5⟩]:List (Bdr)).flatMap zyr).toArray 64)):=by kernel_rfl
theorem zG1 (a:yO) (cap:Nat) (S:List ShC) (b:yO) (bcap:Nat) (V:List WlC) (ca:yO) (ccap:Nat) (cs:List ByteArray) (ba:yO) (bcp:Nat) (bs:List Bdr) (x:Anm) (w:World) (hl:yag w a S) (hs:S.length≤764877654104) (hlw:yah w b V) (hsw:V.length≤2199023255552) (hsh:yab S w) (hss:∀ z∈S,z.s.heights.length≤17592186044416) (hwo:yaa V w) (hsv:∀ z∈V,z.s.opens.length≤3518437208883) (hfS:yas S) (hc:yai w ca cs) (hcn:cs.length≤8796093022208) (hbd:yaj w ba bs) (hbn:bs.length≤2513169434915) :
  Calls Tryz.prog 13 #[.agg #[C a S.length cap,C b V.length bcap,C ca cs.length ccap,C ba bs.length bcp,O x.wide,O x.high,O x.step,O x.leap,O x.reach]] w (zcU (λ z:((Option Addr×Nat×List ShC)×(Option Addr×Nat×List WlC))×(Option Addr×Nat)×(Option Addr×Nat)=>.tuple #[.agg #[C z.1.1.1 z.1.1.2.2.length z.1.1.2.1,C z.1.2.1 z.1.2.2.2.length z.1.2.2.1],.agg #[C z.2.1.1 cs.length z.2.1.2,C z.2.2.1 bs.length z.2.2.2],zzz1 x,.bool (smlF S V cs bs)]) (λ z=>SepR [PlR yP z.1 ⟨S.map (·.s),V.map (·.s)⟩,Row z.2.1.1 1 z.2.1.2 9 encS cs,Row z.2.2.1 6 z.2.2.2 64 zyr bs]) w):=by
 refine zan (vs:=[_]) Tryz.func13 I I (bL I) (gS (zaG I I (za3 (vs:=[_,_,_,_,_,_,_,_,_]) I I) λ b1=>(zaG I I (zaL tf37 (zs:=[_,_]) I) λ b2=>(zaG I I (zaL tf40 (zs:=[_,_]) I) λ b3=>(zaG I I (zaL tf41 (zs:=[_,_,_,_,_]) I) λ b4=>(gA I (gN [1,2,3,4,5] I (gS (gQ (zab zz0 I) (gQ (zab zAp I) (gQ (zah 3 tf26 I I I) (zaG I I (zoJ (m:=cs) af26 ztJ I I (λ _=>rH hc) (by omega) (by unfold maxLen;omega)) λ z13=>(gQ (zaI I (zFL _ _ _)) (zaG I I (zaL tf40 (zs:=[_,_]) I) λ b6=>(zaA 0 tf40 I I (vs:=[_,_]) I I I I I (gN [1,2,3,4,5,6] I (zac (gS (gA I (gN [1,2,3,4,5,6,7] I (zas (zbB 64 zyr 6 ?_))))))))))))))))))))))
 refine zbf (X:=Int×Option Addr×Nat×List Bdr) (λ⟨i,ra,rc,N⟩=>[(1,Z b1),(2,Z b2),(3,Z b3),(4,Z b4),(5,.bool false),(6,Z b6),(7,O i)]) (λ⟨i,ra,rc,N⟩=>[Row ra 6 rc 64 zyr N,Box b6 [C z13.1 cs.length z13.2,C ra N.length rc] 40,Row z13.1 1 z13.2 9 encS cs,Box b4 [O 0,O 0,O 0,O 0,O 0] 41,Box b3 [C none 0 0,C none 0 0] 40,Box b2 [C none 0 0,C none 0 0] 37,Box b1 [C a S.length cap,C b V.length bcap,C ca cs.length ccap,C ba bs.length bcp,O x.wide,O x.high,O x.step,O x.leap,O x.reach] 33]) (λ⟨i,ra,rc,N⟩=>(0≤i∧i≤bs.length∧N=bs.take i.toNat)) (λ⟨i,ra,rc,N⟩=>(bs.length - i).toNat) (0,none,0,[]) (sB I) I ?_ ?_
 ·exact⟨by omega,by omega,rfl⟩
 ·rintro ⟨i,ra,rc,N⟩ hI
  obtain⟨g0,g1,g2⟩:=hI
  have hnl:N.length≤i.toNat:=by rw [g2,List.length_take];omega
  refine zac (gS (gM I (gQ (zab zz0 I) (gQ (zab zzL I) (gQ (zah 6 tf27 I I I) (gQ (zaV (Tryz.underlying27) I) (gQ (zbw I I) (gN [1,2,3,4,5,6,7,20] I (zap I (λ hc20=>?_) (λ hc20=>?_))))))))))
  ·have hc20:=oT hc20
   refine zaq (zac (zas (gS (gQ (zab zz0 I) (gQ (zab zzL I) (gQ (zah 6 tf27 I I I) (gM I (gQ (zaE se27 I I (λ _=>rH hbd)) (gQ (zbv (vs:=[_,_,_,_,_,_]) zAU I (λ _=>rH hbd) (by omega) (by omega) I) (zaG I I (zaL zAU (zs:=[_,_,_,_,_,_]) I) λ b8=>(zaA 0 zAU I I (vs:=[_,_,_,_,_,_]) I I I I I (gN [1,2,3,4,5,6,7,8] I (zaa (gQ (zab zz1 I) (gQ (zah 2 tf38 I I I) (gQ (zab zCa I) (gQ (zah 0 tf3 I I I) (gQ (zab zCb I) (gQ (zah 0 tf3 I I I) (gQ (zab zCc I) (gQ (zah 0 tf9 I I I) (gQ (zab zCd I) (gQ (zah 0 tf3 I I I) (gQ (zab zCe I) (gQ (zah 0 tf3 I I I) (gQ (zab zCf I) (gQ (zah 0 tf4 I I I) (gQ (zaI I (zzo _ _ _ _ _ _)) (zaG I I (zaD I (zsE _ _ _ _ _ _) zyx I) λ b44=>?_)))))))))))))))))))))))))))))
   refine zb4 (m:=[(bs.getD i.toNat default)]) 2 af38 zyx I I I I (λ _ hw=>(zam zyx (hw.has (p:=0) I))) (by first|omega|(simp only [lC,lN];omega)) (by first|(unfold maxLen;omega)|(simp only [lC,lN,maxLen];omega)) λ a45 c45=>(gQ (zab zz1 I) (zaA 3 tf38 I I (vs:=[_]) I I I I I (gN [1,2,3,4,5,6,7] I (zaa (gM I (gQ (zaY I I) (gA I (gN [1,2,3,4,5,6,7] I (zaK 0 I (zaK 0 I ?_))))))))))
   exact za1 (i+1,_,_,_) (sB I) I ⟨by omega,by omega,by rw [g2,zDi g0 hc20]⟩ (by simp only [];omega)
  ·have hc20:=oD hc20
   have hN:N=bs:=by rw [g2,List.take_of_length_le (by omega)]
   refine za8 I (gS (gQ (zab zAL I) (gQ (zab zeo I) (gQ (zah 6 tf3 I I I) (gQ (zab zAL I) (gQ (zab zd7 I) (gQ (zah 6 tf3 I I I) (gQ (zab zAL I) (gQ (zab zCQ I) (gQ (zah 6 tf3 I I I) (gQ (zab zAL I) (gQ (zab zA6 I) (gQ (zah 6 tf3 I I I) (gQ (zab zAL I) (gQ (zab zA7 I) (gQ (zah 6 tf3 I I I) (gQ (zaI I (zyE _ _ _ _ _)) (zaG I I (zaL tf41 (zs:=[_,_,_,_,_]) I) λ b9=>(zaA 0 tf41 I I (vs:=[_,_,_,_,_]) I I I I I (gN [1,2,3,4,5,6,9] I (zac (zao 4 I (zao 5 I (zao 6 I (zCs [_,_,_] (ch [(2,((Option Addr×Nat×List ShC)×(Option Addr×Nat×List WlC)))]) 1000 40 [0,1,3,0,0,0,32,103,231,487,999,2023,4071,8167,16359,32743,65511,131047,262119,524263,1048551,2097127,4194279,8388583,16777191,33554407,67108839,134217703,268435431,536870887,1073741799,2147483623,4294967271,8589934567,17179869159,34359738343,536870887,69256347631,206695301119,549755813887] [] I (λ _=>mixed) (by kernel_rfl) (zjK _ ⟨inferInstance,trivial⟩) ?_)))))))))))))))))))))))))
   refine pY (λ ρ=>zab zCR I) (pY (λ ρ=>zat (b:=b1) (cs:=[C a S.length cap,C b V.length bcap,C ca cs.length ccap,C ba bs.length bcp,O x.wide,O x.high,O x.step,O x.leap,O x.reach]) (e:=33) 4 tf25 I (by kernel_rfl) (vs:=[_,_]) I I) (zFy (λ ρ=>zbm en42 I (λ w hw=>zue _ _ S _ _ V w (rH hl hw) (rH hlw hw) (λ z hz=>(rH (hsh z hz) hw)) hss (λ z hz=>(rH (hwo z hz) hw)) hsv hs hsw)) (λ ρ ρ' h=>⟨by rfl,by rfl⟩) (pY (λ ρ=>zat (b:=b6) (cs:=[C z13.1 cs.length z13.2,C ra N.length rc]) (e:=40) 2 tf40 I (by kernel_rfl) (vs:=[_,_]) I I) (pY (λ ρ=>zat (b:=b9) (cs:=(zzz2 x)) (e:=41) 0 tf41 I (by kernel_rfl) (vs:=[_,_,_,_,_]) I I) (pY (λ ρ=>zab zCR I) (pY (λ ρ=>zat (b:=b1) (cs:=[C a S.length cap,C b V.length bcap,C ca cs.length ccap,C ba bs.length bcp,O x.wide,O x.high,O x.step,O x.leap,O x.reach]) (e:=33) 4 tf25 I (by kernel_rfl) (vs:=[_,_]) I I) (pY (λ ρ=>zaJ en43 I (λ w hw=>zuI _ _ S _ _ V w (rH hl hw) (by unfold zaP;omega) (rH hlw hw) (by omega) hfS)) (pY (λ ρ=>zaf I) ?_))))))))
   refine zH9 I (λ _=>rfl) I (λ hgd ρ=>by(try rw [hgd]);exact(zab zz0 I)) (λ ρ ρ' h=>by rfl) (zH9 I (λ _=>rfl) I (λ hgd ρ=>by(try rw [hgd]);exact(zab zAp I)) (λ ρ ρ' h=>by rfl) (zH9 I (λ _=>rfl) I (λ hgd ρ=>by(try rw [hgd]);exact(zah (b:=b1) (cs:=[C a S.length cap,C b V.length bcap,C ca cs.length ccap,C ba bs.length bcp,O x.wide,O x.high,O x.step,O x.leap,O x.reach]) (e:=33) 5 tf26 I (by kernel_rfl) I)) (λ ρ ρ' h=>by rfl) (zH9 I (λ _=>rfl) I (λ hgd ρ=>by(try rw [hgd]);exact(zaV (Tryz.underlying26) I)) (λ ρ ρ' h=>by rfl) (zH9 I (λ _=>rfl) I (λ hgd ρ=>by(try rw [hgd]);exact(zeT I I)) (λ ρ ρ' h=>by rfl) (pY (λ ρ=>zaX I I I) (pY (λ ρ=>zaf I) (zH9 I (λ _=>rfl) I (λ hgd ρ=>by(try rw [hgd]);exact(zab zz0 I)) (λ ρ ρ' h=>by rfl) (zH9 I (λ _=>rfl) I (λ hgd ρ=>by(try rw [hgd]);exact(zab zzL I)) (λ ρ ρ' h=>by rfl) ?_))))))))
   refine zH9 I (λ _=>rfl) I (λ hgd ρ=>by(try rw [hgd]);exact(zah (b:=b1) (cs:=[C a S.length cap,C b V.length bcap,C ca cs.length ccap,C ba bs.length bcp,O x.wide,O x.high,O x.step,O x.leap,O x.reach]) (e:=33) 5 tf27 I (by kernel_rfl) I)) (λ ρ ρ' h=>by rfl) (zH9 I (λ _=>rfl) I (λ hgd ρ=>by(try rw [hgd]);exact(zaV (Tryz.underlying27) I)) (λ ρ ρ' h=>by rfl) (zH9 I (λ _=>rfl) I (λ hgd ρ=>by(try rw [hgd]);exact(zeT I I)) (λ ρ ρ' h=>by rfl) (pY (λ ρ=>zaX I I I) (pY (λ ρ=>zaf I) (zH9 I (λ _=>rfl) I (λ hgd ρ=>by(try rw [hgd]);exact(zab zz0 I)) (λ ρ ρ' h=>by rfl) (zH9 I (λ _=>rfl) I (λ hgd ρ=>by(try rw [hgd]);exact(zab zzL I)) (λ ρ ρ' h=>by rfl) (zH9 I (λ _=>rfl) I (λ hgd ρ=>by(try rw [hgd]);exact(zah (b:=b1) (cs:=[C a S.length cap,C b V.length bcap,C ca cs.length ccap,C ba bs.length bcp,O x.wide,O x.high,O x.step,O x.leap,O x.reach]) (e:=33) 5 tf27 I (by kernel_rfl) I)) (λ ρ ρ' h=>by rfl) (zH9 I (λ _=>rfl) I (λ hgd ρ=>by(try rw [hgd]);exact(zaV (Tryz.underlying27) I)) (λ ρ ρ' h=>by rfl) ?_))))))))
   refine zH9 I (λ _=>rfl) I (λ hgd ρ=>by(try rw [hgd]);exact(zeT I I)) (λ ρ ρ' h=>by rfl) (zH9 I (λ _=>rfl) I (λ hgd ρ=>by(try rw [hgd]);exact(zaf I)) (λ ρ ρ' h=>by rfl) (zIa I (λ _=>rfl) I (λ hgd ρ=>by(try rw [hgd]);exact(zab zz0 I)) (λ ρ ρ' h=>by rfl) (zIa I (λ _=>rfl) I (λ hgd ρ=>by(try rw [hgd]);exact(zab zzL I)) (λ ρ ρ' h=>by rfl) (zIa I (λ _=>rfl) I (λ hgd ρ=>by(try rw [hgd]);exact(zah (b:=b1) (cs:=[C a S.length cap,C b V.length bcap,C ca cs.length ccap,C ba bs.length bcp,O x.wide,O x.high,O x.step,O x.leap,O x.reach]) (e:=33) 5 tf27 I (by kernel_rfl) I)) (λ ρ ρ' h=>by rfl) (zIa I (λ _=>rfl) I (λ hgd ρ=>by(try rw [hgd]);exact(zaV (Tryz.underlying27) I)) (λ ρ ρ' h=>by rfl) (zIa I (λ _=>rfl) I (λ hgd ρ=>by(try rw [hgd]);exact(zc6 I I)) (λ ρ ρ' h=>by rfl) (zH9 I (λ _=>rfl) I (λ hgd ρ=>by(try rw [hgd]);exact(zaR I I I)) (λ ρ ρ' h=>by rfl) (pY (λ ρ=>zaX I I I) ?_))))))))
   refine zBT (R:=λ ρ=>Box b2 [C none 0 0,C none 0 0] 37) (A:=λ ρ=>Box b2 [.slice (ρ 2).1.1 (ρ 2).1.2.2.length (ρ 2).1.2.1,.slice (ρ 2).2.1 (ρ 2).2.2.2.length (ρ 2).2.2.1] 37) 1000 I (by kernel_rfl) (by kernel_rfl) (λ _=>by kernel_rfl) (λ ρ=>zex tf37 I I (vs:=[_,_]) I I I I I) (λ ρ ρ' h=>by(first|rfl|(simp only [h 2 I];done)|(simp only [h 2 I];rfl))) (zBT (R:=λ ρ=>Box b3 [C none 0 0,C none 0 0] 40) (A:=λ ρ=>Box b3 [C z13.1 cs.length z13.2,C ra N.length rc] 40) 1001 I (by kernel_rfl) (by kernel_rfl) (λ _=>by kernel_rfl) (λ ρ=>zex tf40 I I (vs:=[_,_]) I I I I I) (λ ρ ρ' h=>by rfl) (zBT (R:=λ ρ=>Box b4 [O 0,O 0,O 0,O 0,O 0] 41) (A:=λ ρ=>Box b4 (zzz2 x) 41) 1002 I (by kernel_rfl) (by kernel_rfl) (λ _=>by kernel_rfl) (λ ρ=>zex tf41 I I (vs:=[_,_,_,_,_]) I I I I I) (λ ρ ρ' h=>by rfl) (pY (λ ρ=>zad I) ?_)))
   refine λ ρ=>zag (zf4 (X:=((Option Addr×Nat×List ShC)×(Option Addr×Nat×List WlC))) (ρ 2) (λ p65=>[(2,Z b2),(3,Z b3),(4,Z b4),(5,.bool ((((zgI S V)&&(decide ((cs.length:Int)≤45)))&&(decide ((bs.length:Int)≤90)))&&((decide ((bs.length:Int)≤20))||(decide (80<(bs.length:Int))))))]) (λ p65=>[PlR yP p65 ⟨S.map (·.s),V.map (·.s)⟩,Box b2 [C p65.1.1 p65.1.2.2.length p65.1.2.1,C p65.2.1 p65.2.2.2.length p65.2.2.1] 37,Box b3 [C z13.1 cs.length z13.2,C ra N.length rc] 40,Box b4 (zzz2 x) 41,Box b9 (zzz2 x) 41,Row ra 6 rc 64 zyr N,Box b6 [C z13.1 cs.length z13.2,C ra N.length rc] 40,Row z13.1 1 z13.2 9 encS cs,Box b1 [C a S.length cap,C b V.length bcap,C ca cs.length ccap,C ba bs.length bcp,O x.wide,O x.high,O x.step,O x.leap,O x.reach] 33]) ⟨I,I,I,I,trivial⟩ rfl ?_)
   rintro p65
   refine zaw (zao 5 I (zao 7 I (zao 2 I (zbT 3 (zbd (p65,(z13.1,z13.2),(ra,rc)) 0 (zGD I (zbU (i:=1) (vs:=[_,_]) tf37 I I I I) (zbU (i:=2) (vs:=[_,_]) tf40 I I I I) (zbU (i:=3) (vs:=[_,_,_,_,_]) tf41 I I I I) (zau I)) ?_ (by rw [hN];rfl))))))
   rw [hN];rfl
theorem zEO (a:yO) (cap:Nat) (S:List ShC) (b:yO) (bcap:Nat) (V:List WlC) (ca:yO) (ccap:Nat) (cs:List ByteArray) (ba:yO) (bcp:Nat) (bs:List Bdr) (x:Anm) (w:World) (hl:yag w a S) (hs:zaP S.length) (hcS:S.length≤cap) (hlw:yah w b V) (hsw:zaP V.length) (hsh:yab S w) (hss:yac S) (hwo:yaa V w) (hsv:yae V) (hcp:yad V) (hkn:yaf V) (hc:yai w ca cs) (hcs:zaP cs.length) (hcap:cs.length≤ccap) (hbd:yaj w ba bs) (hbs:zaP bs.length) (hfS:yas S) (hfV:∀ z∈V,Fits z.s.name.size) (hco:∀ z∈S,0≤z.s.cope) (hcf:∀ z∈cs,Fits z.size) :
  Calls Tryz.prog 17 #[.agg #[C a S.length cap,C b V.length bcap,C ca cs.length ccap,C ba bs.length bcp,O x.wide,O x.high,O x.step,O x.leap,O x.reach]] w (Pure (.bool (zym S V cs bs x)) w):=by
 refine zan (vs:=[_]) Tryz.func17 I I (bL I) (gS (zaG I I (za3 (vs:=[_,_,_,_,_,_,_,_,_]) I I) λ b1=>(gA I (gN [1,2] I (gS (gQ (zab zCR I) (gQ (zat 0 tf25 I I (vs:=[_,_]) I I) (gQ (zab zz0 I) (gQ (zat 0 tf29 I I (vs:=[_,_]) I I) (gQ (zab zAL I) (gQ (zat 0 tf31 I I (vs:=[_,_,_,_,_]) I I) (gQ (zaJ en51 I (λ w hw=>zEd _ _ S _ _ V _ _ cs _ _ bs x w (rH hl hw) hs hcS (rH hlw hw) hsw (λ z hz=>(rH (hsh z hz) hw)) hss (λ z hz=>(rH (hwo z hz) hw)) hsv hcp hkn (rH hc hw) hcs hcap (rH hbd hw) hbs hfS hfV hco hcf)) (gA I (gN [2] I (zaw (zay (zaC I (zau I)) ?_))))))))))))))))
 rfl
end Go.Proofs.YteepmmghanbllaaGreatDoor
namespace Go.Proofs.YteepmmghanbllaaGreatDoor
open Go Go.K Go.Stn Go.Pln Go.RowKit Go.Txt
theorem zkC {c:UInt8} {l:List UInt8} (h:l.all (λ x=>!(x == c))=true):∀ x∈l,x≠c:=λ x hx=>by
 have:=List.all_eq_true.1 h x hx
 simpa using this
theorem zbk {c:UInt8} {L:List UInt8} (k n:Nat) (h0:((L.drop k).take n).all (λ x=>!(x == c))=true) (h1:(L.drop k)[n]?=some c):cutL c (L.drop k)=(L.drop k).take n :: cutL c (L.drop (k+n+1)):=by
 obtain⟨h,h2⟩:=List.getElem?_eq_some_iff.1 h1
 have e:L.drop k=(L.drop k).take n++c :: L.drop (k+n+1):=by
  rw [←h2,show k+n+1=k+(n+1) from rfl,←List.drop_drop,←List.drop_eq_getElem_cons h,List.take_append_drop]
 conv=>lhs;rw [e]
 exact zhx (zkC h0)
theorem zui {W:List ByteArray} (h:0<W.length):zdp W=.ok (W.getD 0 default,W.drop 1):=by
 cases W with
 | nil=>simp at h
 | cons x r=>rfl
theorem znw {W:List ByteArray} {k:Nat} (h:k<W.length):zdp (W.drop k)=.ok (W.getD k default,W.drop (k+1)):=by
 rw [List.drop_eq_getElem_cons h,gE,eG h];rfl
theorem zuh {W:List ByteArray} {k:Nat} (h:k<W.length) (h1:zgx (W.getD k default)=true):zes (W.drop k)=.ok (W.getD k default,W.drop (k+1)):=by
 rw [zes,znw h,zak];exact if_pos h1
theorem sayD {W:List ByteArray} {u:ByteArray} {k:Nat} (h:k<W.length) (h1:((W.getD k default).toList == u.toList)=true):sayE u (W.drop k)=.ok ((),W.drop (k+1)):=by
 rw [sayE,znw h,zak];exact if_pos h1
theorem numD {W:List ByteArray} {k:Nat} {n:Int} (h:k<W.length) (h1:numW (W.getD k default)=true) (h2:zdO (W.getD k default)=n):numE (W.drop k)=.ok (n,W.drop (k+1)):=by
 rw [numE,znw h,zak,←h2];exact if_pos h1
theorem zqd {W:List ByteArray} {k:Nat} {n:Int} (h:k<W.length) (h1:numW (W.getD k default)=true) (h2:zdO (W.getD k default)=n):zco 1 (W.drop k)=.ok ([n],W.drop (k+1)):=by
 rw [zco,numD h h1 h2];rfl
theorem zqe {W:List ByteArray} {k m:Nat} {n:Int} {l:List Int} {r:List ByteArray} (h:k<W.length) (h1:numW (W.getD k default)=true) (h2:zdO (W.getD k default)=n) (h3:zco m (W.drop (k+1))=.ok (l,r)):zco (m+1) (W.drop k)=.ok (n :: l,r):=by
 rw [zco,numD h h1 h2,zak]
 show(zco m (W.drop (k+1)) >>= _)=_
 rw [h3];rfl
theorem zs3 {W:List ByteArray} {k:Nat} {n n2:Int} (h:k+1<W.length) (h1:numW (W.getD k default)=true) (h2:zdO (W.getD k default)=n) (h3:numW (W.getD (k+1) default)=true) (h4:zdO (W.getD (k+1) default)=n2):zco 2 (W.drop k)=.ok ([n,n2],W.drop (k+2)):=
 zqe (by omega) h1 h2 (zqd h h3 h4)
theorem zs4 {W:List ByteArray} {k:Nat} {n n2 n3:Int} (h:k+2<W.length) (h1:numW (W.getD k default)=true) (h2:zdO (W.getD k default)=n) (h3:numW (W.getD (k+1) default)=true) (h4:zdO (W.getD (k+1) default)=n2) (h5:numW (W.getD (k+1+1) default)=true) (h6:zdO (W.getD (k+1+1) default)=n3):zco 3 (W.drop k)=.ok ([n,n2,n3],W.drop (k+3)):=
 zqe (by omega) h1 h2 (zs3 h h3 h4 h5 h6)
theorem zv9 {W:List ByteArray} {k:Nat} {n n2 n3 n4:Int} (h:k+3<W.length) (h1:numW (W.getD k default)=true) (h2:zdO (W.getD k default)=n) (h3:numW (W.getD (k+1) default)=true) (h4:zdO (W.getD (k+1) default)=n2) (h5:numW (W.getD (k+1+1) default)=true) (h6:zdO (W.getD (k+1+1) default)=n3) (h7:numW (W.getD (k+1+1+1) default)=true) (h8:zdO (W.getD (k+1+1+1) default)=n4):zco 4 (W.drop k)=.ok ([n,n2,n3,n4],W.drop (k+4)):=
 zqe (by omega) h1 h2 (zs4 (by omega) h3 h4 h5 h6 h7 h8)
theorem zlm {W:List ByteArray} {u:ByteArray} {k:Nat} {n:Int} (h:k+1<W.length) (h0:((W.getD k default).toList == u.toList)=true) (h1:numW (W.getD (k+1) default)=true) (h2:zdO (W.getD (k+1) default)=n):oneE u 1 (W.drop k)=.ok ([n],W.drop (k+2)):=by
 rw [oneE,sayD (by omega) h0,zak];exact zqd h h1 h2
theorem zur {W:List ByteArray} {u:ByteArray} {k:Nat} {n n2:Int} (h:k+2<W.length) (h0:((W.getD k default).toList == u.toList)=true) (h1:numW (W.getD (k+1) default)=true) (h2:zdO (W.getD (k+1) default)=n) (h3:numW (W.getD (k+1+1) default)=true) (h4:zdO (W.getD (k+1+1) default)=n2):oneE u 2 (W.drop k)=.ok ([n,n2],W.drop (k+3)):=by
 rw [oneE,sayD (by omega) h0,zak];exact zs3 h h1 h2 h3 h4
theorem zpU {W:List ByteArray} {acc acc2:List Int} {k:Nat} (h:k<W.length) (h1:((W.getD k default).toList == wLeast.toList)=false) (h2:numW (W.getD k default)=true) (h3:acc++[zdO (W.getD k default)]=acc2):zbF acc (W.drop k)=zbF acc2 (W.drop (k+1)):=by
 rw [gE,eG h,Option.getD_some] at h1 h2 h3
 rw [List.drop_eq_getElem_cons h,zbF,if_neg (by rw [show(W[k].toList == wLeast.toList)=false from h1];exact fT),if_pos h2,←h3]
theorem zt1 {W:List ByteArray} {acc:List Int} {k:Nat} (h:k<W.length) (h1:((W.getD k default).toList == wLeast.toList)=true):zbF acc (W.drop k)=.ok (acc,W.drop k):=by
 rw [gE,eG h,Option.getD_some] at h1
 rw [List.drop_eq_getElem_cons h,zbF,if_pos h1]
theorem zv4 {W l:List ByteArray} {f k:Nat} {n:Int} (h:k<W.length) (h1:¬ zbJ (λ y=>(W.getD k default).toList == y.toList) (l.drop f)<0∧zbJ (λ y=>(W.getD k default).toList == y.toList) (l.drop f)+f=n):zfk l f (W.drop k)=.ok (n,W.drop (k+1)):=by
 rw [zfk,znw h,zak,←h1.2];exact if_neg h1.1
noncomputable def dB:List UInt8:=daleT.data.toList
noncomputable def dQ0:List UInt8:=(dB.drop 0).take 170
theorem dct0:cutL 10 (dB.drop 0)=dQ0 :: cutL 10 (dB.drop 171):=zbk 0 170 (by decide +kernel) (by decide +kernel)
noncomputable def dQ1:List UInt8:=(dB.drop 171).take 20
theorem dct1:cutL 10 (dB.drop 171)=dQ1 :: cutL 10 (dB.drop 192):=zbk 171 20 (by decide +kernel) (by decide +kernel)
noncomputable def dQ2:List UInt8:=(dB.drop 192).take 25
theorem dct2:cutL 10 (dB.drop 192)=dQ2 :: cutL 10 (dB.drop 218):=zbk 192 25 (by decide +kernel) (by decide +kernel)
theorem dct3:cutL 10 (dB.drop 218)=[dB.drop 218]:=zeD (zkC (by decide +kernel))
theorem zob:zcb daleT=[mkB dQ0,mkB dQ1,mkB dQ2]:=by
 unfold zcb
 rw [zcT]
 show zfN ((cutL 10 (dB.drop 0)).map mkB)=_
 rw [dct0,dct1,dct2,dct3]
 show zfN [mkB dQ0,mkB dQ1,mkB dQ2,mkB (dB.drop 218)]=_
 rw [zfN,zfN,zfN,zfN,if_pos (by decide +kernel)]
theorem zwD:cutL 32 (dQ0.drop 0)=(dQ0.drop 0).take 5 :: cutL 32 (dQ0.drop 6):=zbk 0 5 (by decide +kernel) (by decide +kernel)
theorem zwE:cutL 32 (dQ0.drop 6)=(dQ0.drop 6).take 4 :: cutL 32 (dQ0.drop 11):=zbk 6 4 (by decide +kernel) (by decide +kernel)
theorem zwF:cutL 32 (dQ0.drop 11)=(dQ0.drop 11).take 4 :: cutL 32 (dQ0.drop 16):=zbk 11 4 (by decide +kernel) (by decide +kernel)
theorem zwG:cutL 32 (dQ0.drop 16)=(dQ0.drop 16).take 3 :: cutL 32 (dQ0.drop 20):=zbk 16 3 (by decide +kernel) (by decide +kernel)
theorem zwH:cutL 32 (dQ0.drop 20)=(dQ0.drop 20).take 6 :: cutL 32 (dQ0.drop 27):=zbk 20 6 (by decide +kernel) (by decide +kernel)
theorem zwI:cutL 32 (dQ0.drop 27)=(dQ0.drop 27).take 3 :: cutL 32 (dQ0.drop 31):=zbk 27 3 (by decide +kernel) (by decide +kernel)
theorem zwJ:cutL 32 (dQ0.drop 31)=(dQ0.drop 31).take 6 :: cutL 32 (dQ0.drop 38):=zbk 31 6 (by decide +kernel) (by decide +kernel)
theorem zwK:cutL 32 (dQ0.drop 38)=(dQ0.drop 38).take 4 :: cutL 32 (dQ0.drop 43):=zbk 38 4 (by decide +kernel) (by decide +kernel)
theorem zwL:cutL 32 (dQ0.drop 43)=(dQ0.drop 43).take 4 :: cutL 32 (dQ0.drop 48):=zbk 43 4 (by decide +kernel) (by decide +kernel)
theorem zwM:cutL 32 (dQ0.drop 48)=(dQ0.drop 48).take 3 :: cutL 32 (dQ0.drop 52):=zbk 48 3 (by decide +kernel) (by decide +kernel)
theorem zvr:cutL 32 (dQ0.drop 52)=(dQ0.drop 52).take 7 :: cutL 32 (dQ0.drop 60):=zbk 52 7 (by decide +kernel) (by decide +kernel)
theorem zvs:cutL 32 (dQ0.drop 60)=(dQ0.drop 60).take 3 :: cutL 32 (dQ0.drop 64):=zbk 60 3 (by decide +kernel) (by decide +kernel)
theorem zvt:cutL 32 (dQ0.drop 64)=(dQ0.drop 64).take 3 :: cutL 32 (dQ0.drop 68):=zbk 64 3 (by decide +kernel) (by decide +kernel)
theorem zvu:cutL 32 (dQ0.drop 68)=(dQ0.drop 68).take 5 :: cutL 32 (dQ0.drop 74):=zbk 68 5 (by decide +kernel) (by decide +kernel)
theorem zvv:cutL 32 (dQ0.drop 74)=(dQ0.drop 74).take 2 :: cutL 32 (dQ0.drop 77):=zbk 74 2 (by decide +kernel) (by decide +kernel)
theorem zvw:cutL 32 (dQ0.drop 77)=(dQ0.drop 77).take 3 :: cutL 32 (dQ0.drop 81):=zbk 77 3 (by decide +kernel) (by decide +kernel)
theorem zvx:cutL 32 (dQ0.drop 81)=(dQ0.drop 81).take 2 :: cutL 32 (dQ0.drop 84):=zbk 81 2 (by decide +kernel) (by decide +kernel)
theorem zvy:cutL 32 (dQ0.drop 84)=(dQ0.drop 84).take 3 :: cutL 32 (dQ0.drop 88):=zbk 84 3 (by decide +kernel) (by decide +kernel)
theorem zvz:cutL 32 (dQ0.drop 88)=(dQ0.drop 88).take 1 :: cutL 32 (dQ0.drop 90):=zbk 88 1 (by decide +kernel) (by decide +kernel)
theorem zvA:cutL 32 (dQ0.drop 90)=(dQ0.drop 90).take 7 :: cutL 32 (dQ0.drop 98):=zbk 90 7 (by decide +kernel) (by decide +kernel)
theorem zvB:cutL 32 (dQ0.drop 98)=(dQ0.drop 98).take 3 :: cutL 32 (dQ0.drop 102):=zbk 98 3 (by decide +kernel) (by decide +kernel)
theorem zvC:cutL 32 (dQ0.drop 102)=(dQ0.drop 102).take 3 :: cutL 32 (dQ0.drop 106):=zbk 102 3 (by decide +kernel) (by decide +kernel)
theorem zvD:cutL 32 (dQ0.drop 106)=(dQ0.drop 106).take 7 :: cutL 32 (dQ0.drop 114):=zbk 106 7 (by decide +kernel) (by decide +kernel)
theorem zvE:cutL 32 (dQ0.drop 114)=(dQ0.drop 114).take 3 :: cutL 32 (dQ0.drop 118):=zbk 114 3 (by decide +kernel) (by decide +kernel)
theorem zvF:cutL 32 (dQ0.drop 118)=(dQ0.drop 118).take 3 :: cutL 32 (dQ0.drop 122):=zbk 118 3 (by decide +kernel) (by decide +kernel)
theorem zvG:cutL 32 (dQ0.drop 122)=(dQ0.drop 122).take 4 :: cutL 32 (dQ0.drop 127):=zbk 122 4 (by decide +kernel) (by decide +kernel)
theorem zvH:cutL 32 (dQ0.drop 127)=(dQ0.drop 127).take 4 :: cutL 32 (dQ0.drop 132):=zbk 127 4 (by decide +kernel) (by decide +kernel)
theorem zvI:cutL 32 (dQ0.drop 132)=(dQ0.drop 132).take 3 :: cutL 32 (dQ0.drop 136):=zbk 132 3 (by decide +kernel) (by decide +kernel)
theorem zvJ:cutL 32 (dQ0.drop 136)=(dQ0.drop 136).take 3 :: cutL 32 (dQ0.drop 140):=zbk 136 3 (by decide +kernel) (by decide +kernel)
theorem zvK:cutL 32 (dQ0.drop 140)=(dQ0.drop 140).take 3 :: cutL 32 (dQ0.drop 144):=zbk 140 3 (by decide +kernel) (by decide +kernel)
theorem zvL:cutL 32 (dQ0.drop 144)=(dQ0.drop 144).take 8 :: cutL 32 (dQ0.drop 153):=zbk 144 8 (by decide +kernel) (by decide +kernel)
theorem zvM:cutL 32 (dQ0.drop 153)=(dQ0.drop 153).take 3 :: cutL 32 (dQ0.drop 157):=zbk 153 3 (by decide +kernel) (by decide +kernel)
theorem zvN:cutL 32 (dQ0.drop 157)=(dQ0.drop 157).take 3 :: cutL 32 (dQ0.drop 161):=zbk 157 3 (by decide +kernel) (by decide +kernel)
theorem zvO:cutL 32 (dQ0.drop 161)=(dQ0.drop 161).take 4 :: cutL 32 (dQ0.drop 166):=zbk 161 4 (by decide +kernel) (by decide +kernel)
theorem zvP:cutL 32 (dQ0.drop 166)=[dQ0.drop 166]:=zeD (zkC (by decide +kernel))
noncomputable def dW0:List ByteArray:=[mkB ((dQ0.drop 0).take 5),mkB ((dQ0.drop 6).take 4),mkB ((dQ0.drop 11).take 4),mkB ((dQ0.drop 16).take 3),mkB ((dQ0.drop 20).take 6),mkB ((dQ0.drop 27).take 3),mkB ((dQ0.drop 31).take 6),mkB ((dQ0.drop 38).take 4),mkB ((dQ0.drop 43).take 4),mkB ((dQ0.drop 48).take 3),mkB ((dQ0.drop 52).take 7),mkB ((dQ0.drop 60).take 3),mkB ((dQ0.drop 64).take 3),mkB ((dQ0.drop 68).take 5),mkB ((dQ0.drop 74).take 2),mkB ((dQ0.drop 77).take 3),mkB ((dQ0.drop 81).take 2),mkB ((dQ0.drop 84).take 3),mkB ((dQ0.drop 88).take 1),mkB ((dQ0.drop 90).take 7),mkB ((dQ0.drop 98).take 3),mkB ((dQ0.drop 102).take 3),mkB ((dQ0.drop 106).take 7),mkB ((dQ0.drop 114).take 3),mkB ((dQ0.drop 118).take 3),mkB ((dQ0.drop 122).take 4),mkB ((dQ0.drop 127).take 4),mkB ((dQ0.drop 132).take 3),mkB ((dQ0.drop 136).take 3),mkB ((dQ0.drop 140).take 3),mkB ((dQ0.drop 144).take 8),mkB ((dQ0.drop 153).take 3),mkB ((dQ0.drop 157).take 3),mkB ((dQ0.drop 161).take 4),mkB (dQ0.drop 166)]
theorem zvh:zcn (mkB dQ0) 32=dW0:=by
 rw [zcT]
 show(cutL 32 (dQ0.drop 0)).map mkB=_
 rw [zwD,zwE,zwF,zwG,zwH,zwI,zwJ,zwK,zwL,zwM,zvr,zvs,zvt,zvu,zvv,zvw,zvx,zvy,zvz,zvA,zvB,zvC,zvD,zvE,zvF,zvG,zvH,zvI,zvJ,zvK,zvL,zvM,zvN,zvO,zvP]
 rfl
theorem zxn:idle (mkB dQ0)=false:=by decide +kernel
theorem zwN:cutL 32 (dQ1.drop 0)=(dQ1.drop 0).take 4 :: cutL 32 (dQ1.drop 5):=zbk 0 4 (by decide +kernel) (by decide +kernel)
theorem zwO:cutL 32 (dQ1.drop 5)=(dQ1.drop 5).take 5 :: cutL 32 (dQ1.drop 11):=zbk 5 5 (by decide +kernel) (by decide +kernel)
theorem zwP:cutL 32 (dQ1.drop 11)=(dQ1.drop 11).take 4 :: cutL 32 (dQ1.drop 16):=zbk 11 4 (by decide +kernel) (by decide +kernel)
theorem zwQ:cutL 32 (dQ1.drop 16)=[dQ1.drop 16]:=zeD (zkC (by decide +kernel))
noncomputable def dW1:List ByteArray:=[mkB ((dQ1.drop 0).take 4),mkB ((dQ1.drop 5).take 5),mkB ((dQ1.drop 11).take 4),mkB (dQ1.drop 16)]
theorem zvi:zcn (mkB dQ1) 32=dW1:=by
 rw [zcT]
 show(cutL 32 (dQ1.drop 0)).map mkB=_
 rw [zwN,zwO,zwP,zwQ]
 rfl
theorem zxo:idle (mkB dQ1)=false:=by decide +kernel
theorem zwR:cutL 32 (dQ2.drop 0)=(dQ2.drop 0).take 4 :: cutL 32 (dQ2.drop 5):=zbk 0 4 (by decide +kernel) (by decide +kernel)
theorem zwS:cutL 32 (dQ2.drop 5)=(dQ2.drop 5).take 5 :: cutL 32 (dQ2.drop 11):=zbk 5 5 (by decide +kernel) (by decide +kernel)
theorem zwT:cutL 32 (dQ2.drop 11)=(dQ2.drop 11).take 4 :: cutL 32 (dQ2.drop 16):=zbk 11 4 (by decide +kernel) (by decide +kernel)
theorem zwU:cutL 32 (dQ2.drop 16)=(dQ2.drop 16).take 3 :: cutL 32 (dQ2.drop 20):=zbk 16 3 (by decide +kernel) (by decide +kernel)
theorem zwV:cutL 32 (dQ2.drop 20)=(dQ2.drop 20).take 1 :: cutL 32 (dQ2.drop 22):=zbk 20 1 (by decide +kernel) (by decide +kernel)
theorem zwW:cutL 32 (dQ2.drop 22)=[dQ2.drop 22]:=zeD (zkC (by decide +kernel))
noncomputable def dW2:List ByteArray:=[mkB ((dQ2.drop 0).take 4),mkB ((dQ2.drop 5).take 5),mkB ((dQ2.drop 11).take 4),mkB ((dQ2.drop 16).take 3),mkB ((dQ2.drop 20).take 1),mkB (dQ2.drop 22)]
theorem zvj:zcn (mkB dQ2) 32=dW2:=by
 rw [zcT]
 show(cutL 32 (dQ2.drop 0)).map mkB=_
 rw [zwR,zwS,zwT,zwU,zwV,zwW]
 rfl
theorem zxp:idle (mkB dQ2)=false:=by decide +kernel
theorem dn0:zes (dW0.drop 1)=.ok ((mkB ((dQ0.drop 6).take 4)),dW0.drop 2):=zuh (by decide) (by decide +kernel)
theorem zwz:oneE ⟨#[98,97,115,101]⟩ 1 (dW0.drop 2)=.ok ([700],dW0.drop 4):=zlm (by decide) (by decide +kernel) (by decide +kernel) (by decide +kernel)
theorem ztC:oneE ⟨#[98,97,116,116,101,114]⟩ 1 (dW0.drop 4)=.ok ([100],dW0.drop 6):=zlm (by decide) (by decide +kernel) (by decide +kernel) (by decide +kernel)
theorem ztD:oneE ⟨#[104,101,105,103,104,116]⟩ 1 (dW0.drop 6)=.ok ([1200],dW0.drop 8):=zlm (by decide) (by decide +kernel) (by decide +kernel) (by decide +kernel)
theorem zwX:oneE ⟨#[115,107,105,110]⟩ 1 (dW0.drop 8)=.ok ([250],dW0.drop 10):=zlm (by decide) (by decide +kernel) (by decide +kernel) (by decide +kernel)
theorem zrm:sayE ⟨#[104,101,105,103,104,116,115]⟩ (dW0.drop 10)=.ok ((),dW0.drop 11):=sayD (by decide) (by decide +kernel)
theorem dh0:zbF [] (dW0.drop 11)=zbF [200] (dW0.drop 12):=zpU (by decide) (by decide +kernel) (by decide +kernel) (by decide +kernel)
theorem dh1:zbF [200] (dW0.drop 12)=zbF [200,180] (dW0.drop 13):=zpU (by decide) (by decide +kernel) (by decide +kernel) (by decide +kernel)
theorem dhe:zbF [200,180] (dW0.drop 13)=.ok ([200,180],dW0.drop 13):=zt1 (by decide) (by decide +kernel)
theorem dhs:zbF [] (dW0.drop 11)=.ok ([200,180],dW0.drop 13):=by rw [dh0,dh1,dhe]
theorem zvm:oneE ⟨#[108,101,97,115,116]⟩ 1 (dW0.drop 13)=.ok ([60],dW0.drop 15):=zlm (by decide) (by decide +kernel) (by decide +kernel) (by decide +kernel)
theorem dlap:oneE ⟨#[108,97,112]⟩ 1 (dW0.drop 15)=.ok ([60],dW0.drop 17):=zlm (by decide) (by decide +kernel) (by decide +kernel) (by decide +kernel)
theorem drun:oneE ⟨#[114,117,110]⟩ 1 (dW0.drop 17)=.ok ([2],dW0.drop 19):=zlm (by decide) (by decide +kernel) (by decide +kernel) (by decide +kernel)
theorem zrn:oneE ⟨#[116,104,114,111,117,103,104]⟩ 2 (dW0.drop 19)=.ok ([900,500],dW0.drop 22):=zur (by decide) (by decide +kernel) (by decide +kernel) (by decide +kernel) (by decide +kernel) (by decide +kernel)
theorem zrl:oneE ⟨#[102,111,111,116,105,110,103]⟩ 2 (dW0.drop 22)=.ok ([200,100],dW0.drop 25):=zur (by decide) (by decide +kernel) (by decide +kernel) (by decide +kernel) (by decide +kernel) (by decide +kernel)
theorem zwA:sayE ⟨#[99,111,112,101]⟩ (dW0.drop 25)=.ok ((),dW0.drop 26):=sayD (by decide) (by decide +kernel)
theorem zwB:zfk zeZ 0 (dW0.drop 26)=.ok (3,dW0.drop 27):=zv4 (by decide) (by decide +kernel)
theorem dc3:zco 3 (dW0.drop 27)=.ok ([300,200,150],dW0.drop 30):=zs4 (by decide) (by decide +kernel) (by decide +kernel) (by decide +kernel) (by decide +kernel) (by decide +kernel) (by decide +kernel)
theorem zpg:oneE ⟨#[102,114,105,99,116,105,111,110]⟩ 2 (dW0.drop 30)=.ok ([500,700],dW0.drop 33):=zur (by decide) (by decide +kernel) (by decide +kernel) (by decide +kernel) (by decide +kernel) (by decide +kernel)
theorem zwC:oneE ⟨#[114,111,111,100]⟩ 1 (dW0.drop 33)=.ok ([6000],dW0.drop 35):=zlm (by decide) (by decide +kernel) (by decide +kernel) (by decide +kernel)
noncomputable def dSh:Sht:=⟨(mkB ((dQ0.drop 6).take 4)),700,100,1200,250,[200,180],60,60,2,900,500,200,100,3,300,200,150,500,700,6000⟩
theorem zvQ:zci (dW0.drop 1)=.ok (dSh,dW0.drop 35):=by
 unfold zci
 simp only [dn0,zwz,ztC,ztD,zwX,zrm,dhs,zvm,dlap,drun,zrn,zrl,zwA,zwB,dc3,zpg,zwC,zak]
 rfl
theorem zpj:za4 dSh=true:=by decide +kernel
theorem zvn:zcu ⟨[],[]⟩ ((mkB dQ0))=.ok ⟨[dSh],[]⟩:=by
 have h1:zff ⟨[],[]⟩ (mkB ((dQ0.drop 0).take 5)) (dW0.drop 1)=zb3 ⟨[],[]⟩ (dW0.drop 1):=if_pos (by decide +kernel)
 have h2:endE (dW0.drop 35)=.ok ((),dW0.drop 35):=if_pos (by decide)
 unfold zcu
 rw [zvh,zui (W:=dW0) (by decide),zak]
 show zff ⟨[],[]⟩ (mkB ((dQ0.drop 0).take 5)) (dW0.drop 1)=_
 rw [h1]
 unfold zb3
 simp only [zvQ,zak,h2]
 rw [if_neg (by decide),if_pos zpj]
 rfl
noncomputable def dWl0:Wll:=⟨(mkB ((dQ1.drop 5).take 5)),(mkB ((dQ1.drop 11).take 4)),3000,[]⟩
theorem zvo:zcu ⟨[dSh],[]⟩ ((mkB dQ1))=.ok ⟨[dSh],[dWl0]⟩:=by
 have h1:zff ⟨[dSh],[]⟩ (mkB ((dQ1.drop 0).take 4)) (dW1.drop 1)=zb1 ⟨[dSh],[]⟩ (dW1.drop 1):=(if_neg (by decide +kernel)).trans (if_pos (by decide +kernel))
 have h2:zes (dW1.drop 1)=.ok ((mkB ((dQ1.drop 5).take 5)),dW1.drop 2):=zuh (by decide) (by decide +kernel)
 have h3:zes (dW1.drop 2)=.ok ((mkB ((dQ1.drop 11).take 4)),dW1.drop 3):=zuh (by decide) (by decide +kernel)
 have h4:zco 1 (dW1.drop 3)=.ok ([3000],dW1.drop 4):=zqd (by decide) (by decide +kernel) (by decide +kernel)
 have h5:endE (dW1.drop 4)=.ok ((),dW1.drop 4):=if_pos (by decide)
 unfold zcu
 rw [zvi,zui (W:=dW1) (by decide),zak]
 show zff ⟨[dSh],[]⟩ (mkB ((dQ1.drop 0).take 4)) (dW1.drop 1)=_
 rw [h1]
 unfold zb1
 simp only [h2,h3,h4,h5,zak]
 rw [if_neg (by decide),if_pos (by decide +kernel),if_pos (by decide +kernel)]
 rfl
def dOp:Opn:=⟨1,1000,250,0,220⟩
noncomputable def dWl:Wll:=more dWl0 dOp
theorem zvp:zcu ⟨[dSh],[dWl0]⟩ ((mkB dQ2))=.ok ⟨[dSh],[dWl]⟩:=by
 have h1:zff ⟨[dSh],[dWl0]⟩ (mkB ((dQ2.drop 0).take 4)) (dW2.drop 1)=zch ⟨[dSh],[dWl0]⟩ (dW2.drop 1):=(if_neg (by decide +kernel)).trans ((if_neg (by decide +kernel)).trans (if_pos (by decide +kernel)))
 have h2:zfk opensW 1 (dW2.drop 1)=.ok (1,dW2.drop 2):=zv4 (by decide) (by decide +kernel)
 have h3:zco 4 (dW2.drop 2)=.ok ([1000,250,0,220],dW2.drop 6):=zv9 (by decide) (by decide +kernel) (by decide +kernel) (by decide +kernel) (by decide +kernel) (by decide +kernel) (by decide +kernel) (by decide +kernel) (by decide +kernel)
 have h5:endE (dW2.drop 6)=.ok ((),dW2.drop 6):=if_pos (by decide)
 have h6:zd1 (getS [dSh] dWl0.sheet).height (more dWl0 dOp)=true:=by decide +kernel
 unfold zcu
 rw [zvj,zui (W:=dW2) (by decide),zak]
 show zff ⟨[dSh],[dWl0]⟩ (mkB ((dQ2.drop 0).take 4)) (dW2.drop 1)=_
 rw [h1]
 unfold zch
 simp only [h2,h3,h5,zak]
 exact(if_neg (by decide)).trans (if_pos h6)
theorem zgT:zgA daleT=(⟨[dSh],[dWl]⟩,0,0):=by
 refine zkf (by have:=zpe;omega) ?_
 rw [zob,zhB zxn zvn,zhB zxo zvo,zhB zxp zvp]
 rfl
end Go.Proofs.YteepmmghanbllaaGreatDoor
namespace Go.Proofs.YteepmmghanbllaaGreatDoor
open Go.K Go.Stn Go.Pln Go.Fld Go.RowKit
theorem zjk {c:Cx} {ds:List Deferred} {T:List (Nat×Value)} {H:List Res} {K:Act→World→Prop} {y:PTy} {ra:Option Addr} {rc:Nat} {S:List ShC} {rb:Option Addr} {rd:Nat} {V:List WlC} {q:Plan}
  (h:S.map (·.s)=q.S→V.map (·.s)=q.V→GK c ds K T (Row ra 20 rc y.s zbH S :: Go.K.Rows (rowH y.i) S :: Row rb 4 rd y.w zbS V :: Go.K.Rows (rowO y.o) V :: H)):GK c ds K T (PlR y ((ra,rc,S),(rb,rd,V)) q :: H):=by
 intro a w ha hw
 obtain⟨hb,B,hB,⟨h1,h2,h3⟩,hr⟩:=hw
 exact h h1 h2 a w ha (Hp.split (L:=[_,_,_,_]) ⟨hb,B,hB,h3,hr⟩)
theorem zp7 {α β:Type} {f:α→β} {l:List α} {x:β} (h:l.map f=[x]):∃ y,l=[y]∧f y=x:=by
 cases l with
 | nil=>cases h
 | cons y r=>
  cases r with
  | nil=>rw [List.map_cons,List.map_nil,List.cons.injEq] at h;exact⟨y,rfl,h.1⟩
  | cons z t=>rw [List.map_cons,List.map_cons] at h;cases h
abbrev wkC:List ByteArray:=[⟨#[109,111,111,114]⟩,⟨#[99,114,111,102,116]⟩]
abbrev wkB:List Bdr:=[⟨0,1,⟨#[110,111,114,116,104]⟩,0,0,false⟩]
abbrev wkH:Anm:=⟨150,200,100,600,300⟩
abbrev wkE:Anm:=⟨400,700,250,1100,600⟩
section
variable {z0:ShC} {v0:WlC} (hz:z0.s=dSh) (hv:v0.s=dWl)
include hz hv
theorem zBC:zym [z0] [v0] wkC wkB wkH=true∧zym [z0] [v0] wkC wkB wkE=true:=by
 obtain⟨s,a,c⟩:=z0;obtain⟨v,b,d⟩:=v0
 simp only at hz hv;subst hz hv
 exact⟨by kernel_rfl,by kernel_rfl⟩
theorem zGL:zyj [z0] [v0] wkB wkH=[(⟨0,1,0,0,1⟩,⟨1,0,0,0,1⟩)]:=by
 obtain⟨s,a,c⟩:=z0;obtain⟨v,b,d⟩:=v0
 simp only at hz hv;subst hz hv
 kernel_rfl
theorem zHq:zyj [z0] [v0] wkB wkE=[(⟨0,1,0,-2,0⟩,⟨1,0,0,-2,0⟩)]:=by
 obtain⟨s,a,c⟩:=z0;obtain⟨v,b,d⟩:=v0
 simp only at hz hv;subst hz hv
 kernel_rfl
theorem zH7:smN [z0] [v0] wkB wkH true 1=[(0,0)]∧smN [z0] [v0] wkB wkH false 1=[]:=by
 obtain⟨s,a,c⟩:=z0;obtain⟨v,b,d⟩:=v0
 simp only at hz hv;subst hz hv
 exact⟨by kernel_rfl,by kernel_rfl⟩
theorem zEt:zyv [z0] [v0] wkC wkB wkH 0 false=⟨0,1,0⟩∧zyv [z0] [v0] wkC wkB wkE 0 false=⟨0,0,8⟩:=by
 obtain⟨l1,l2⟩:=zBC hz hv
 unfold zyv wayI
 rw [if_pos l1,if_pos l2,zGL hz hv,zHq hz hv]
 exact⟨by kernel_rfl,by kernel_rfl⟩
theorem zFj:atE [z0] [v0] wkC wkB wkE [1]=0∧rchA [z0] [v0] wkC wkB wkE 1=[1]:=by
 obtain⟨l1,l2⟩:=zBC hz hv
 have h:atE [z0] [v0] wkC wkB wkE [1]=0:=zFF l2 (by kernel_rfl)
 refine⟨h,?_⟩
 unfold rchA
 rw [if_pos h,zHq hz hv]
 kernel_rfl
theorem zFi:prtE [z0] [v0] wkC wkB wkH 0 1=0∧(clA [z0] [v0] wkC wkB wkH 0 1).length=1∧(wkA [z0] [v0] wkC wkB wkH 0 1).length=1:=by
 obtain⟨l1,l2⟩:=zBC hz hv
 have h0:atE [z0] [v0] wkC wkB wkH [0,1]=0:=zFF l1 (by kernel_rfl)
 have h:prtE [z0] [v0] wkC wkB wkH 0 1=0:=by unfold prtE;rw [if_pos h0,if_neg (by decide)]
 refine⟨h,?_,?_⟩
 ·unfold clA
  rw [if_pos h,zGL hz hv]
  kernel_rfl
 ·unfold wkA
  rw [if_pos h,zGL hz hv]
  kernel_rfl
theorem zFk:zBP [z0] [v0] wkC wkB wkH=0∧(smA [z0] [v0] wkC wkB wkH true).length=1∧(smA [z0] [v0] wkC wkB wkH false).length=0:=by
 obtain⟨l1,l2⟩:=zBC hz hv
 obtain⟨s1,s2⟩:=zH7 hz hv
 refine⟨if_pos l1,?_,?_⟩
 ·unfold smA;rw [if_pos l1];show(smN [z0] [v0] wkB wkH true 1).length=1;rw [s1];rfl
 ·unfold smA;rw [if_pos l1];show(smN [z0] [v0] wkB wkH false 1).length=0;rw [s2];rfl
end
section
variable {z0:ShC} (hz:z0.s=dSh)
include hz
theorem zjy:∀ z∈[z0],zaP z.s.heights.length:=λ z h=>by rw [List.mem_singleton.1 h,hz];decide +kernel
end
theorem zn2 {v0:WlC} (hv:v0.s=dWl):∀ z∈[v0],zaP z.s.opens.length:=λ z h=>by rw [List.mem_singleton.1 h,hv];decide +kernel
theorem zsv {v0:WlC} (hv:v0.s=dWl):∀ z∈[v0],∀ o∈z.s.opens,Knd o:=λ z h o ho=>by
 rw [List.mem_singleton.1 h,hv] at ho
 have:o=dOp:=List.mem_singleton.1 (show o∈[dOp] from ho)
 rw [this];decide
theorem en15:En Tryz.prog 15:=eK Tryz.func15
theorem en16:En Tryz.prog 16:=eK Tryz.func16
theorem en23:En Tryz.prog 23:=eK Tryz.func23
theorem en24:En Tryz.prog 24:=eK Tryz.func24
theorem en44:En Tryz.prog 44:=eK Tryz.func44
theorem en45:En Tryz.prog 45:=eK Tryz.func45
theorem zC9 (x0a:yO) (x0n x0c:Nat) (x1a:yO) (x1n x1c:Nat) (w:World):(Instr.build 40 #[(0,C x0a x0n x0c),(1,C x1a x1n x1c)]).run Tryz.prog w=.ok (.agg #[C x0a x0n x0c,C x1a x1n x1c]) w:=by kernel_rfl
theorem zDa (x0:Int) (x1:ByteArray) (w:World):(Instr.build 64 #[(1,O x0),(2,.string x1)]).run Tryz.prog w=.ok (.agg #[O 0,O x0,.string x1,O 0,O 0,.bool false]) w:=by kernel_rfl
theorem zG3 (x0_0 x1_0:ByteArray) (w:World):(Instr.buildSlice 26 2 #[(0,.string x0_0),(1,.string x1_0)]).run Tryz.prog w=.ok (C (some ⟨w.heap.size,0,none⟩) 2 2) (w.alloc (.cells (([x0_0,x1_0]:List (ByteArray)).flatMap encS).toArray 9)):=by kernel_rfl
theorem zz3  (w:World) (hmx:Has w (IntV 2)) (hcp:yau w) (hop:yat w) :
  Calls Tryz.prog 14 #[] w (Pure (.bool true) w):=by
 refine zan (vs:=[]) Tryz.func14 I I (bL I) (gS (gA I (gN [0] I (gS (gQ (zaJ en45 I (λ w hw=>zvl w)) (zaG I I (zbm en44 I (λ w hw=>zus daleT w (rH hmx hw) (rH hcp hw) (rH hop hw))) λ p23=>(gM I (gQ (zaB I I) (gQ (zaB I I) (gQ (zaB I I) (zaG I I (zaL tf37 (zs:=[_,_]) I) λ b1=>(zaA 0 tf37 I I (vs:=[_,_]) I I I I I (gA I (gA I (gN [0,1,3] I (zao 1 I ?_))))))))))))))))
 obtain⟨⟨ra,rc,S⟩,⟨rb,rd,V⟩⟩:=p23
 refine za2 (R':=PlR yP ((ra,rc,S),(rb,rd,V)) ⟨[dSh],[dWl]⟩) 0 I (λ B w hA=>by rw [zgT] at hA;exact hA) (zjk λ hS hV=>?_)
 obtain⟨z0,rfl,hz⟩:=zp7 hS
 obtain⟨v0,rfl,hv⟩:=zp7 hV
 have hl1:([z0]:List ShC).length=1:=rfl
 have hl2:([v0]:List WlC).length=1:=rfl
 obtain⟨hA1,hA2⟩:=zEt hz hv
 obtain⟨hR1,hR2⟩:=zFj hz hv
 obtain⟨hC1,hC2,hC3⟩:=zFi hz hv
 obtain⟨hS1,hS2,hS3⟩:=zFk hz hv
 have hRl:(rchA [z0] [v0] wkC wkB wkE 1).length=1:=by rw [hR2];rfl
 refine za2 (R':=Box b1 [C ra 1 rc,C rb 1 rd] 37) 4 I (λ B w hA=>hA) (zae (T':=[(0,_),(1,_),(3,O 0)]) ⟨I,I,(by rw [zgT];rfl),trivial⟩ (gS (zaG I I (zaD I (zG3 _ _) ztJ I) λ b27=>(gQ (zaI I (zDa _ _)) (zaG I I (zaD I (zsE _ _ _ _ _ _) zyx I) λ b29=>(gQ (zaI I (zC9 _ _ _ _ _ _)) (zaG I I (zaL tf40 (zs:=[_,_]) I) λ b4=>(zaA 0 tf40 I I (vs:=[_,_]) I I I I I (gN [0,1,3,4] I (gS (gQ (zaI I (zyE _ _ _ _ _)) (zaG I I (zaL tf41 (zs:=[_,_,_,_,_]) I) λ b5=>(zaA 0 tf41 I I (vs:=[_,_,_,_,_]) I I I I I (gN [0,1,3,4,5] I (gS (gQ (zaI I (zyE _ _ _ _ _)) (zaG I I (zaL tf41 (zs:=[_,_,_,_,_]) I) λ b6=>(zaA 0 tf41 I I (vs:=[_,_,_,_,_]) I I I I I (gN [0,1,3,4,5,6] I (gS (gQ (zat 9 tf37 I I (vs:=[_,_]) I I) (gQ (zat 2 tf40 I I (vs:=[_,_]) I I) (gQ (zat 1 tf41 I I (vs:=[_,_,_,_,_]) I I) ?_)))))))))))))))))))))))
 refine gQ (zaJ en24 I (λ w hw=>zAz _ _ [z0] _ _ [v0] _ _ wkC _ _ wkB wkH 0 false w (zam zbI (hw.has (p:=5) I)) (show zaP 1 by decide) (zcM (hw.has (p:=5) I)) (zam zbo (hw.has (p:=7) I)) (show zaP 1 by decide) (λ z hz2=>zam Go.Stn.encI_ok (zbV (f:=rowH 3) (hw.has (p:=6) I) hz2)) (zjy hz) (λ z hz2=>zam zyn (zbV (f:=rowO 122) (hw.has (p:=8) I) hz2)) (zn2 hv) (λ z hz2=>zcM (zbV (f:=rowO 122) (hw.has (p:=8) I) hz2)) (zsv hv) (zam ztJ (hw.has (p:=4) I)) (show zaP 2 by decide) (show 2≤2 by decide) (zam zyx (hw.has (p:=3) I)) (show zaP 1 by decide))) (gM I (gQ (zaB I I) (gQ (zaB I I) (gQ (zaB I I) (gA I (gA I (gA I (gN [0,1,3,4,5,6,7,8,9] I (gS (gQ (zat 9 tf37 I I (vs:=[_,_]) I I) (gQ (zat 2 tf40 I I (vs:=[_,_]) I I) (gQ (zat 0 tf41 I I (vs:=[_,_,_,_,_]) I I) ?_))))))))))))
 refine gQ (zaJ en24 I (λ w hw=>zAz _ _ [z0] _ _ [v0] _ _ wkC _ _ wkB wkE 0 false w (zam zbI (hw.has (p:=5) I)) (show zaP 1 by decide) (zcM (hw.has (p:=5) I)) (zam zbo (hw.has (p:=7) I)) (show zaP 1 by decide) (λ z hz2=>zam Go.Stn.encI_ok (zbV (f:=rowH 3) (hw.has (p:=6) I) hz2)) (zjy hz) (λ z hz2=>zam zyn (zbV (f:=rowO 122) (hw.has (p:=8) I) hz2)) (zn2 hv) (λ z hz2=>zcM (zbV (f:=rowO 122) (hw.has (p:=8) I) hz2)) (zsv hv) (zam ztJ (hw.has (p:=4) I)) (show zaP 2 by decide) (show 2≤2 by decide) (zam zyx (hw.has (p:=3) I)) (show zaP 1 by decide))) (gM I (gQ (zaB I I) (gQ (zaB I I) (gQ (zaB I I) (gA I (gA I (gA I (gN [0,1,3,4,5,6,7,8,9,12] I (gS (gQ (zat 9 tf37 I I (vs:=[_,_]) I I) (gQ (zat 2 tf40 I I (vs:=[_,_]) I I) (gQ (zat 0 tf41 I I (vs:=[_,_,_,_,_]) I I) ?_))))))))))))
 refine zaG I I (zbm en15 I (λ w hw=>zE5 _ _ [z0] _ _ [v0] _ _ wkC _ _ wkB wkE 1 w (zam zbI (hw.has (p:=5) I)) (show zaP 1 by decide) (zcM (hw.has (p:=5) I)) (zam zbo (hw.has (p:=7) I)) (show zaP 1 by decide) (λ z hz2=>zam Go.Stn.encI_ok (zbV (f:=rowH 3) (hw.has (p:=6) I) hz2)) (zjy hz) (λ z hz2=>zam zyn (zbV (f:=rowO 122) (hw.has (p:=8) I) hz2)) (zn2 hv) (λ z hz2=>zcM (zbV (f:=rowO 122) (hw.has (p:=8) I) hz2)) (zsv hv) (zam ztJ (hw.has (p:=4) I)) (show zaP 2 by decide) (show 2≤2 by decide) (zam zyx (hw.has (p:=3) I)) (show zaP 1 by decide))) λ p53=>(gM I (gQ (zaB I I) (gQ (zaB I I) (gA I (gA I (gN [0,1,3,4,5,7,8,9,12,13,14] I (gS (gQ (zat 10 tf37 I I (vs:=[_,_]) I I) (gQ (zat 3 tf40 I I (vs:=[_,_]) I I) (gQ (zat 2 tf41 I I (vs:=[_,_,_,_,_]) I I) ?_))))))))))
 refine zaG I I (zbm en23 I (λ w hw=>zEF _ _ [z0] _ _ [v0] _ _ wkC _ _ wkB wkH 0 1 w (zam zbI (hw.has (p:=6) I)) (show zaP 1 by decide) (zcM (hw.has (p:=6) I)) (zam zbo (hw.has (p:=8) I)) (show zaP 1 by decide) (λ z hz2=>zam Go.Stn.encI_ok (zbV (f:=rowH 3) (hw.has (p:=7) I) hz2)) (zjy hz) (λ z hz2=>zam zyn (zbV (f:=rowO 122) (hw.has (p:=9) I) hz2)) (zn2 hv) (λ z hz2=>zcM (zbV (f:=rowO 122) (hw.has (p:=9) I) hz2)) (zsv hv) (zam ztJ (hw.has (p:=5) I)) (show zaP 2 by decide) (show 2≤2 by decide) (zam zyx (hw.has (p:=4) I)) (show zaP 1 by decide))) λ p60=>(gM I (gQ (zaB I I) (gQ (zaB I I) (gQ (zaB I I) (gA I (gA I (gA I (gN [0,1,3,4,5,7,8,9,12,13,14,15,16,17] I (zz4 λ hWK=>?_)))))))))
 have hKl:p60.2.2.length=1:=by have h:=congrArg List.length hWK;rw [lM] at h;rw [h];exact hC3
 refine gS (gQ (zat 11 tf37 I I (vs:=[_,_]) I I) (gQ (zat 4 tf40 I I (vs:=[_,_]) I I) (gQ (zat 3 tf41 I I (vs:=[_,_,_,_,_]) I I) (zaG I I (zbm en16 I (λ w hw=>zE7 _ _ [z0] _ _ [v0] _ _ wkC _ _ wkB wkH w (zam zbI (hw.has (p:=7) I)) (show zaP 1 by decide) (zcM (hw.has (p:=7) I)) (zam zbo (hw.has (p:=9) I)) (show zaP 1 by decide) (λ z hz2=>zam Go.Stn.encI_ok (zbV (f:=rowH 3) (hw.has (p:=8) I) hz2)) (zjy hz) (λ z hz2=>zam zyn (zbV (f:=rowO 122) (hw.has (p:=10) I) hz2)) (zn2 hv) (λ z hz2=>zcM (zbV (f:=rowO 122) (hw.has (p:=10) I) hz2)) (zsv hv) (zam ztJ (hw.has (p:=6) I)) (show zaP 2 by decide) (show 2≤2 by decide) (zam zyx (hw.has (p:=5) I)) (show zaP 1 by decide))) λ p68=>(gM I (gQ (zaB I I) (gQ (zaB I I) (gQ (zaB I I) (gA I (gA I (gA I (gN [0,3,7,8,9,12,13,14,15,16,17,18,19,20] I (gS (gM I (gQ (zbL I I) (gM I (gT I I I (gM I (gT I I I (gQ (zbQ (zbL I I) (by rw [hA1];rfl)) (gQ (za5 I I I) (gM I (gT I I I (gM I (gT I I I (gQ (zbQ (zbL I I) (by rw [hA1];rfl)) ?_))))))))))))))))))))))))))
 refine gQ (za5 I I I) (gM I (gT I I I (gM I (gT I I I (gQ (zbQ (zbL I I) (by rw [hA1];rfl)) (gQ (za5 I I I) (gM I (gT I I I (gM I (gT I I I (gQ (zbQ (zbL I I) (by rw [hA2];rfl)) (gQ (za5 I I I) (gM I (gT I I I (gM I (gT I I I (gQ (zbQ (zbL I I) (by exact decide_eq_true hR1)) (gQ (za5 I I I) (gM I (gT I I I (gM I (gT I I I (gQ (zaV (Tryz.underlying45) I) (gT I I I (gQ (zbQ (zbL I I) (by rw [hRl];rfl)) (gQ (za5 I I I) (gM I (gT I I I (gM I (gT I I I (gQ (zaE se45 I I (λ _ hw=>(zam Go.Stn.encI_ok (hw.has (p:=2) I)))) (gT I I I (gQ (zcE tf3 I (λ _ hw=>(zam Go.Stn.encI_ok (hw.has (p:=2) I))) (by omega) (by omega) I) (gT I I I (gQ (zbQ (zbL I I) (by rw [show(0:Int).toNat=0 from rfl,hR2];rfl)) (gQ (za5 I I I) (gM I (gT I I I (gM I (gT I I I ?_))))))))))))))))))))))))))))))))))))))))
 refine gQ (zbQ (zbL I I) (by exact decide_eq_true hC1)) (gQ (za5 I I I) (gM I (gT I I I (gM I (gT I I I (gQ (zaV (Tryz.underlying45) I) (gT I I I (gQ (zbQ (zbL I I) (by rw [hC2];rfl)) (gQ (za5 I I I) (gM I (gT I I I (gM I (gT I I I (gQ (zaV (Tryz.underlying60) I) (gT I I I (gQ (zbQ (zbL I I) (by rw [hKl];rfl)) (gQ (za5 I I I) (gM I (gT I I I (gM I (gT I I I (gQ (zbQ (zbL I I) (by exact decide_eq_true hS1)) (gQ (za5 I I I) (gM I (gT I I I (gM I (gT I I I (gQ (zaV (Tryz.underlying49) I) (gT I I I (gQ (zbQ (zbL I I) (by rw [hS2];rfl)) (gQ (za5 I I I) (gM I (gT I I I (gM I (gT I I I (gQ (zaV (Tryz.underlying49) I) (gT I I I (gQ (zbQ (zbL I I) (by rw [hS3];rfl)) (gQ (za5 I I I) (gA I ?_))))))))))))))))))))))))))))))))))))))))
 refine gN [0] I (zaw (zay (zaC I (zau I)) ?_))
 rfl
end Go.Proofs.YteepmmghanbllaaGreatDoor
namespace Go.Fld
open Go Go.K Go.Stn Go.Pln
structure Trk where
 eff:Int
 l:List Crg
 there:Bool
instance:Inhabited Trk:=⟨⟨0,[],false⟩⟩
abbrev zIh (l:List Crg):List Int:=l.map (·.brd)
def lexB:List Int→List Int→Bool
 | a :: l,b :: m=>if a=b then lexB l m else decide (a<b)
 | _,_=>false
def kLt (a b:Trk):Bool:=if a.eff=b.eff then(if a.l.length=b.l.length then lexB (zIh a.l) (zIh b.l) else decide (a.l.length<b.l.length)) else decide (a.eff<b.eff)
def zIg (a b:Trk):Bool:=!b.there||kLt a b
def extT (t:Trk) (c:Crg):Trk:=⟨t.eff+c.eff,t.l++[c],true⟩
theorem zIM:∀ a:List Int,lexB a a=false
 | []=>rfl
 | x :: l=>by rw [lexB,if_pos I];exact zIM l
theorem zJG:∀ {a b c:List Int},a.length=b.length→b.length=c.length→lexB a b=false→lexB b c=false→lexB a c=false
 | [],_,_,_,_,_,_=>by unfold lexB;rfl
 | x :: a,[],_,h,_,_,_=>by cases h
 | x :: a,y :: b,[],_,h,_,_=>by cases h
 | x :: a,y :: b,z :: c,h1,h2,h3,h4=>by
  rw [lexB] at h3 h4 ⊢
  simp only [lC,Nat.add_right_cancel_iff] at h1 h2
  by_cases e1:x=y
  ·by_cases e2:y=z
   ·rw [if_pos e1] at h3;rw [if_pos e2] at h4;rw [if_pos (e1.trans e2)]
    exact zJG h1 h2 h3 h4
   ·rw [if_neg e2] at h4;subst e1;rw [if_neg e2];exact h4
  ·rw [if_neg e1] at h3
   have h3:=oD h3
   by_cases e2:y=z
   ·subst e2;rw [if_neg e1];exact decide_eq_false h3
   ·rw [if_neg e2] at h4
    have h4:=oD h4
    rw [if_neg (by omega)];exact decide_eq_false (by omega)
theorem zIT:∀ {a b:List Int} {x:Int},a.length=b.length→lexB (a++[x]) (b++[x])=lexB a b
 | [],[],x,_=>by simp [lexB]
 | [],_ :: _,_,h=>by cases h
 | _ :: _,[],_,h=>by cases h
 | u :: a,v :: b,x,h=>by
  simp only [lC,Nat.add_right_cancel_iff] at h
  show lexB (u :: (a++[x])) (v :: (b++[x]))=_
  rw [lexB,lexB,zIT h]
theorem zIS:∀ {a b:List Int},lexB a b=true→lexB b a=false
 | [],_,h=>by unfold lexB at h;cases h
 | _ :: _,[],h=>by unfold lexB at h;cases h
 | x :: a,y :: b,h=>by
  rw [lexB] at h ⊢
  by_cases e:x=y
  ·rw [if_pos e] at h;rw [if_pos e.symm];exact zIS h
  ·rw [if_neg e] at h;rw [if_neg (λ k=>e k.symm)]
   have:=oT h;exact decide_eq_false (by omega)
theorem zId {l:List Crg}:(zIh l).length=l.length:=lM ..
theorem zKf (a:Trk):kLt a a=false:=by unfold kLt;rw [if_pos I,if_pos I];exact zIM _
theorem k_nt {a b c:Trk} (h1:kLt a b=false) (h2:kLt b c=false):kLt a c=false:=by
 unfold kLt at *
 by_cases e1:a.eff=b.eff
 ·by_cases e2:b.eff=c.eff
  ·rw [if_pos e1] at h1;rw [if_pos e2] at h2;rw [if_pos (e1.trans e2)]
   by_cases l1:a.l.length=b.l.length
   ·by_cases l2:b.l.length=c.l.length
    ·rw [if_pos l1] at h1;rw [if_pos l2] at h2;rw [if_pos (l1.trans l2)]
     exact zJG (by simpa [zId] using l1) (by simpa [zId] using l2) h1 h2
    ·rw [if_neg l2] at h2;rw [if_neg (by omega)];have:=oD h2;exact decide_eq_false (by omega)
   ·rw [if_neg l1] at h1
    have h1:=oD h1
    by_cases l2:b.l.length=c.l.length
    ·rw [if_neg (by omega)];exact decide_eq_false (by omega)
    ·rw [if_neg l2] at h2;have:=oD h2;rw [if_neg (by omega)];exact decide_eq_false (by omega)
  ·rw [if_neg e2] at h2;have:=oD h2;rw [if_neg (by omega)];exact decide_eq_false (by omega)
 ·rw [if_neg e1] at h1
  have h1:=oD h1
  by_cases e2:b.eff=c.eff
  ·rw [if_neg (by omega)];exact decide_eq_false (by omega)
  ·rw [if_neg e2] at h2;have:=oD h2;rw [if_neg (by omega)];exact decide_eq_false (by omega)
theorem zJ1 {a b:Trk} (h:kLt a b=true):kLt b a=false:=by
 unfold kLt at *
 by_cases e1:a.eff=b.eff
 ·rw [if_pos e1] at h;rw [if_pos e1.symm]
  by_cases l1:a.l.length=b.l.length
  ·rw [if_pos l1] at h;rw [if_pos l1.symm];exact zIS h
  ·rw [if_neg l1] at h;rw [if_neg (λ k=>l1 k.symm)];have:=oT h;exact decide_eq_false (by omega)
 ·rw [if_neg e1] at h;rw [if_neg (λ k=>e1 k.symm)];have:=oT h;exact decide_eq_false (by omega)
theorem zKe {a b:Trk} {c:Crg} (h:kLt a b=false):kLt (extT a c) (extT b c)=false:=by
 unfold kLt extT at *
 simp only [lA,lC,lN]
 by_cases e1:a.eff=b.eff
 ·rw [if_pos e1] at h;rw [if_pos (by omega)]
  by_cases l1:a.l.length=b.l.length
  ·rw [if_pos l1] at h;rw [if_pos (by omega)]
   simp only [zIh,List.map_append,List.map_cons,List.map_nil]
   rw [zIT (by simpa using l1)];exact h
  ·rw [if_neg l1] at h;rw [if_neg (by omega)];have:=oD h;exact decide_eq_false (by omega)
 ·rw [if_neg e1] at h;rw [if_neg (by omega)];have:=oD h;exact decide_eq_false (by omega)
theorem zKd {a b:Trk} (h:kLt a b=false):b.eff≤a.eff:=by
 unfold kLt at h
 by_cases e:a.eff=b.eff
 ·omega
 ·rw [if_neg e] at h;have:=oD h;omega
theorem zJ2 {a b:Trk} (h:b.eff<a.eff):kLt a b=false:=by
 unfold kLt;rw [if_neg (by omega)];exact decide_eq_false (by omega)
theorem zJ7 {a b:Trk} (h:zIg a b=false):b.there=true∧kLt a b=false:=by
 unfold zIg at h
 cases hb:b.there <;> rw [hb] at h
 ·cases h
 ·exact⟨rfl,h⟩
def effL (l:List Crg):Int:=l.foldr (λ c n=>c.eff+n) 0
theorem zIJ:∀ {l m:List Crg},effL (l++m)=effL l+effL m
 | [],m=>by show effL m=0+effL m;omega
 | c :: l,m=>by show c.eff+effL (l++m)=(c.eff+effL l)+effL m;rw [zIJ];omega
theorem zI3:∀ {l m:List Crg} {x y z:Int},Chn x l y→Chn y m z→Chn x (l++m) z
 | [],m,x,y,z,h,k=>by have h:x=y:=h;subst h;exact k
 | c :: l,m,x,y,z,h,k=>⟨h.1,zI3 h.2 k⟩
theorem zIC:∀ {l m:List Crg} {x z:Int},Chn x (l++m) z→∃ y,Chn x l y∧Chn y m z
 | [],m,x,z,h=>⟨x,rfl,h⟩
 | c :: l,m,x,z,h=>by obtain⟨y,h1,h2⟩:=zIC (l:=l) h.2;exact⟨y,⟨h.1,h1⟩,h2⟩
def zIm (W:List (Crg×Crg)) (may:Crg→Bool) (c:Crg):Prop:=c∈allC W∧-1≤c.way∧may c=true
structure Wk (W:List (Crg×Crg)) (may:Crg→Bool) (x:Int) (l:List Crg) (y:Int):Prop where
 chn:Chn x l y
 use:∀ c∈l,zIm W may c
theorem Wk.nil {W:List (Crg×Crg)} {may:Crg→Bool} {x:Int}:Wk W may x [] x:=⟨rfl,λ _ h=>by cases h⟩
theorem Wk.snoc {W:List (Crg×Crg)} {may:Crg→Bool} {x:Int} {l:List Crg} {c:Crg} (h:Wk W may x l c.frm) (hc:zIm W may c):Wk W may x (l++[c]) c.to:=
 ⟨zI3 h.chn ⟨rfl,rfl⟩,λ d hd=>by
  rcases List.mem_append.1 hd with h1|h1
  ·exact h.use d h1
  ·rw [List.mem_singleton.1 h1];exact hc⟩
structure Best (W:List (Crg×Crg)) (may:Crg→Bool) (n:Nat) (frm:Int) (T:List Trk):Prop where
 len:T.length=n
 st:T.getD frm.toNat default=⟨0,[],true⟩
 wk:∀ i:Nat,i<n→(T.getD i default).there=true→Wk W may frm (T.getD i default).l i∧(T.getD i default).eff=effL (T.getD i default).l
 no:∀ i:Nat,i<n→(T.getD i default).there=false→T.getD i default=default
 fix:∀ c,zIm W may c→(T.getD c.frm.toNat default).there=true→zIg (extT (T.getD c.frm.toNat default) c) (T.getD c.to.toNat default)=false
section
variable {W:List (Crg×Crg)} {may:Crg→Bool} {n:Nat} {frm:Int} {T U:List Trk} {bs:List Bdr}
theorem zJq (hb:Best W may n frm T):∀ (l:List Crg) {y:Int},Wk W may frm l y→(T.getD y.toNat default).there=true∧kLt ⟨effL l,l,true⟩ (T.getD y.toNat default)=false:=by
 intro l
 have key:∀ (m:Nat) (l:List Crg),l.length=m→∀ {y:Int},Wk W may frm l y→(T.getD y.toNat default).there=true∧kLt ⟨effL l,l,true⟩ (T.getD y.toNat default)=false:=by
  intro m
  induction m with
  | zero=>
   intro l hl y h
   obtain rfl:=List.eq_nil_of_length_eq_zero hl
   have h1:frm=y:=h.chn
   subst h1
   rw [hb.st]
   exact⟨rfl,zKf _⟩
  | succ m ih=>
   intro l hl y h
   have hne:l≠[]:=by intro h0;rw [h0] at hl;cases hl
   obtain⟨p,c,rfl⟩:∃ p c,l=p++[c]:=⟨l.dropLast,l.getLast hne,(List.dropLast_concat_getLast hne).symm⟩
   obtain⟨z,h1,h2⟩:=zIC h.chn
   have hz:c.frm=z:=h2.1
   have hy:c.to=y:=h2.2
   subst hz;subst hy
   have hp:Wk W may frm p c.frm:=⟨h1,λ d hd=>h.use d (List.mem_append_left _ hd)⟩
   obtain⟨i1,i2⟩:=ih p (by rw [lA] at hl;simpa using hl) hp
   obtain⟨f1,f2⟩:=zJ7 (hb.fix c (h.use c (List.mem_append_right _ (List.mem_singleton.2 I))) i1)
   refine⟨f1,?_⟩
   have h3:=k_nt (zKe (c:=c) i2) f2
   have e:extT ⟨effL p,p,true⟩ c=⟨effL (p++[c]),p++[c],true⟩:=by
    unfold extT;rw [zIJ];simp only [effL,List.foldr];rw [Int.add_zero]
   rwa [e] at h3
 intro y h
 exact key l.length l I h
theorem zJs {α:Type} [Inhabited α] {a b:List α} (h:a.length=b.length) (k:∀ i:Nat,i<a.length→a.getD i default=b.getD i default):a=b:=by
 refine List.ext_getElem h λ i h1 h2=>?_
 have:=k i h1
 rwa [gE,gE,eG h1,eG h2] at this
theorem zKa {x y:Int} (h:Rch W may x y):∃ l,Wk W may x l y:=by
 induction h with
 | here=>exact⟨[],.nil⟩
 | far _ h2 h3 ih=>
  obtain⟨l,hl⟩:=ih
  obtain⟨o1,_,o3⟩:=zJd h2
  exact⟨_,hl.snoc ⟨o1,o3,h3⟩⟩
theorem zJI:∀ {l:List Crg} {x y:Int},Wk W may x l y→Rch W may x y
 | [],x,y,h=>by have h:x=y:=h.chn;subst h;exact .here
 | c :: l,x,y,h=>by
  obtain⟨h1,h2,h3⟩:=h.use c (mS ..)
  have hx:c.frm=x:=h.chn.1
  subst hx
  exact Rch.trans (.far .here (zJK h1 h2) h3) (zJI ⟨h.chn.2,λ d hd=>h.use d (mM _ hd)⟩)
theorem zJr (h:Best W may n frm T) {i:Nat} (hi:i<n):(T.getD i default).there=true↔Rch W may frm i:=by
 constructor
 ·intro e;exact zJI (h.wk i hi e).1
 ·intro e
  obtain⟨l,hl⟩:=zKa e
  have:=(zJq h l hl).1
  rwa [Int.toNat_natCast] at this
end
def cntT (T:List Trk):Nat:=T.countP (·.there)
theorem zI4:∀ {T:List Trk} {i:Nat} {v:Trk},i<T.length→v.there=true→cntT (T.set i v)=cntT T+if (T.getD i default).there=true then 0 else 1
 | [],_,_,h,_=>by cases h
 | t :: T,0,v,_,hv=>by
  show List.countP _ (v :: T)=List.countP _ (t :: T)+if t.there=true then 0 else 1
  rw [List.countP_cons,List.countP_cons,if_pos hv]
  by_cases h:t.there=true
  ·rw [if_pos h,if_pos h]
  ·rw [if_neg h,if_neg h]
 | t :: T,i+1,v,h,hv=>by
  have ih:=zI4 (T:=T) (i:=i) (v:=v) (by simpa using h) hv
  show List.countP _ (t :: T.set i v)=List.countP _ (t :: T)+if (T.getD i default).there=true then 0 else 1
  unfold cntT at ih
  rw [List.countP_cons,List.countP_cons,ih]
  omega
theorem zJY {T:List Trk}:cntT T≤T.length:=List.countP_le_length
theorem zIq {T:List Trk} {i j:Nat} {v:Trk} (h:i<T.length):(T.set i v).getD j default=if j=i then v else T.getD j default:=by
 rw [gE,List.getElem?_set,gE]
 by_cases hj:i=j
 ·subst hj;rw [if_pos I,if_pos h,if_pos I];simp
 ·rw [if_neg hj,if_neg (λ h=>hj h.symm)]
def bigN:Nat:=300000
def bigP:Nat:=81 ^ bigN
def valB:List Int→Nat
 | []=>0
 | a :: l=>a.toNat*81 ^ l.length+valB l
theorem zJo:∀ {l:List Int},(∀ a∈l,0≤a∧a<81)→valB l<81 ^ l.length
 | [],_=>by show 0<81 ^ 0;decide
 | a :: l,h=>by
  have ih:=zJo (l:=l) λ b hb=>h b (mM _ hb)
  have ha:=h a (mS ..)
  show a.toNat*81 ^ l.length+valB l<81 ^ (l.length+1)
  rw [Nat.pow_succ]
  have:a.toNat*81 ^ l.length≤80*81 ^ l.length:=Nat.mul_le_mul_right _ (by omega)
  generalize 81 ^ l.length=p at *
  omega
theorem zIO {a a' v v' P:Nat} (h:a<a') (hv:v<P):a*P+v<a' * P+v':=by
 have:(a+1)*P≤a' * P:=Nat.mul_le_mul_right _ h
 rw [Nat.add_mul,Nat.one_mul] at this
 omega
theorem zJn:∀ {a b:List Int},a.length=b.length→(∀ x∈a,0≤x∧x<81)→(∀ x∈b,0≤x∧x<81)→lexB a b=true→valB a<valB b
 | [],_,_,_,_,h=>by unfold lexB at h;cases h
 | _ :: _,[],_,_,_,h=>by unfold lexB at h;cases h
 | x :: a,y :: b,hl,h1,h2,h=>by
  simp only [lC,Nat.add_right_cancel_iff] at hl
  have hx:=h1 x (mS ..)
  have hy:=h2 y (mS ..)
  rw [lexB] at h
  show x.toNat*81 ^ a.length+valB a<y.toNat*81 ^ b.length+valB b
  rw [←hl]
  by_cases e:x=y
  ·rw [if_pos e] at h;subst e
   have:=zJn hl (λ z hz=>h1 z (mM _ hz)) (λ z hz=>h2 z (mM _ hz)) h
   omega
  ·rw [if_neg e] at h
   have:=oT h
   exact zIO (by omega) (zJo λ z hz=>h1 z (mM _ hz))
def zIn (t:Trk):Nat:=if t.there=true then(t.eff.toNat*300000+t.l.length)*bigP+valB (zIh t.l) else 300000*300000*bigP
def zIj:List Trk→Nat
 | []=>0
 | t :: T=>zIn t+zIj T
theorem zIU:∀ {T:List Trk} {i:Nat} {v:Trk},i<T.length→zIn v<zIn (T.getD i default)→zIj (T.set i v)<zIj T
 | [],_,_,h,_=>by cases h
 | t :: T,0,v,_,hv=>by
  have hv:zIn v<zIn t:=hv
  show zIn v+zIj T<zIn t+zIj T
  omega
 | t :: T,i+1,v,h,hv=>by
  have ih:=zIU (T:=T) (i:=i) (v:=v) (by simpa using h) hv
  show zIn t+zIj (T.set i v)<zIn t+zIj T
  omega
structure Fine (t:Trk):Prop where
 e0:0≤t.eff
 e1:t.eff≤280040
 len:(t.l.length:Int)≤t.eff
 brd:∀ c∈t.l,0≤c.brd∧c.brd<81
theorem Fine.val {t:Trk} (h:Fine t):valB (zIh t.l)<bigP:=by
 have h1:valB (zIh t.l)<81 ^ (zIh t.l).length:=zJo λ a ha=>by
  obtain⟨c,hc,rfl⟩:=List.mem_map.1 ha
  exact h.brd c hc
 refine lL h1 ?_
 unfold bigP
 refine Nat.pow_le_pow_right (by decide) ?_
 have:=h.e1;have:=h.len;rw [zId];show t.l.length≤300000;omega
theorem zJT {a b:Trk} (ha:Fine a) (hta:a.there=true) (hb:b.there=true→Fine b) (h:zIg a b=true):zIn a<zIn b:=by
 have a0:=ha.e0;have a1:=ha.e1;have a2:=ha.len;have av:=ha.val
 unfold zIn
 rw [if_pos hta]
 cases e:b.there with
 | false=>
  rw [if_neg (by decide)]
  have:=zIO (a:=a.eff.toNat*300000+a.l.length) (a':=300000*300000) (v:=valB (zIh a.l)) (v':=0) (P:=bigP) (by omega) av
  omega
 | true=>
  rw [if_pos I]
  have hbf:=hb e
  have b0:=hbf.e0;have b2:=hbf.len;have b1:=hbf.e1
  have hk:kLt a b=true:=by unfold zIg at h;rw [e] at h;exact h
  unfold kLt at hk
  by_cases e1:a.eff=b.eff
  ·rw [if_pos e1] at hk
   by_cases l1:a.l.length=b.l.length
   ·rw [if_pos l1] at hk
    have:=zJn (by simpa using l1) (λ x hx=>by obtain⟨c,hc,rfl⟩:=List.mem_map.1 hx;exact ha.brd c hc) (λ x hx=>by obtain⟨c,hc,rfl⟩:=List.mem_map.1 hx;exact hbf.brd c hc) hk
    rw [e1,l1];omega
   ·rw [if_neg l1] at hk
    have:=oT hk
    exact zIO (by rw [e1];omega) av
  ·rw [if_neg e1] at hk
   have:=oT hk
   exact zIO (by omega) av
def zJJ (W:List (Crg×Crg)):Prop:=∀ c∈allC W,-1≤c.way→1≤c.eff∧c.eff≤7001
def zIB (W:List (Crg×Crg)) (n:Nat):Prop:=∀ c∈allC W,(0≤c.frm∧c.frm<n)∧0≤c.to∧c.to<n
structure Imp (W:List (Crg×Crg)) (may:Crg→Bool) (n:Nat) (frm:Int) (T:List Trk):Prop where
 len:T.length=n
 st:T.getD frm.toNat default=⟨0,[],true⟩
 wk:∀ i:Nat,i<n→(T.getD i default).there=true→Wk W may frm (T.getD i default).l i∧(T.getD i default).eff=effL (T.getD i default).l
 no:∀ i:Nat,i<n→(T.getD i default).there=false→T.getD i default=default
 bnd:∀ i:Nat,i<n→(T.getD i default).there=true→(T.getD i default).eff≤7001*cntT T∧((T.getD i default).l.length:Int)≤(T.getD i default).eff
section
variable {W:List (Crg×Crg)} {may:Crg→Bool} {n:Nat} {frm:Int} {T:List Trk} {bs:List Bdr}
theorem zIo (hp:zyI W bs) (hbs:bs.length≤80) (h:Imp W may n frm T) (hn:n≤40) {i:Nat} (hi:i<n) (ht:(T.getD i default).there=true):Fine (T.getD i default):=by
 obtain⟨b1,b2⟩:=h.bnd i hi ht
 have hc:cntT T≤n:=by rw [←h.len];exact zJY
 refine⟨by omega,by omega,b2,λ c hc=>?_⟩
 obtain⟨j,hj,e⟩:=zFE ((h.wk i hi ht).1.use c hc).1
 have:=hp.len;have:=hp.fst j hj;have:=hp.snd j hj
 rcases e with e|e <;> rw [e] <;> omega
theorem zJc (h0:0≤frm) (h1:frm<n):Imp W may n frm ((List.replicate n default).set frm.toNat ⟨0,[],true⟩):=by
 have hf:frm.toNat<(List.replicate n (default:Trk)).length:=by rw [List.length_replicate];omega
 have hd:∀ i,(List.replicate n (default:Trk)).getD i default=default:=λ i=>by
  rw [gE]
  cases h:(List.replicate n (default:Trk))[i]? with
  | none=>rfl
  | some v=>exact(List.mem_replicate.1 (List.mem_of_getElem? h)).2
 refine⟨by rw [List.length_set,List.length_replicate],by rw [zIq hf,if_pos I],λ i hi ht=>?_,λ i hi ht=>?_,λ i hi ht=>?_⟩
 ·rw [zIq hf] at ht ⊢
  by_cases e:i=frm.toNat
  ·rw [if_pos e];exact⟨⟨show frm=i by omega,λ _ h=>by cases h⟩,rfl⟩
  ·rw [if_neg e,hd] at ht;cases ht
 ·rw [zIq hf] at ht ⊢
  by_cases e:i=frm.toNat
  ·rw [if_pos e] at ht;cases ht
  ·rw [if_neg e,hd]
 ·rw [zIq hf] at ht ⊢
  by_cases e:i=frm.toNat
  ·rw [if_pos e];exact⟨by show(0:Int)≤_;omega,by show((0:Nat):Int)≤0;decide⟩
  ·rw [if_neg e,hd] at ht;cases ht
theorem zJw (hp:zyI W bs) (hbs:bs.length≤80) (he:zJJ W) (hw:zIB W n) (hn:n≤40) (h0:0≤frm) (h:Imp W may n frm T) {c:Crg} (hc:zIm W may c) (ht:(T.getD c.frm.toNat default).there=true)
  (hl:zIg (extT (T.getD c.frm.toNat default) c) (T.getD c.to.toNat default)=true):Imp W may n frm (T.set c.to.toNat (extT (T.getD c.frm.toNat default) c))∧zIj (T.set c.to.toNat (extT (T.getD c.frm.toNat default) c))<zIj T:=by
 obtain⟨⟨c0,c1⟩,c2,c3⟩:=hw c hc.1
 obtain⟨e0,e1⟩:=he c hc.1 hc.2.1
 have hfi:c.frm.toNat<n:=by omega
 have hti:c.to.toNat<T.length:=by rw [h.len];omega
 have hff:=zIo hp hbs h hn hfi ht
 have f0:=hff.e0
 obtain⟨hb1,hb2⟩:=h.bnd _ hfi ht
 obtain⟨hw1,hw2⟩:=h.wk _ hfi ht
 rw [tN c0] at hw1
 have hne:c.to≠frm:=by
  intro e
  rw [e,h.st] at hl
  have:kLt (extT (T.getD c.frm.toNat default) c) ⟨0,[],true⟩=false:=zJ2 (by show(0:Int)<_+_;omega)
  rw [show zIg (extT (T.getD c.frm.toNat default) c) ⟨0,[],true⟩=kLt (extT (T.getD c.frm.toNat default) c) ⟨0,[],true⟩ from rfl,this] at hl
  cases hl
 have hlow:(T.getD c.to.toNat default).there=true→(T.getD c.frm.toNat default).eff+c.eff≤(T.getD c.to.toNat default).eff:=λ e=>by
  unfold zIg at hl
  rw [e] at hl
  have:=zKd (zJ1 (a:=extT (T.getD c.frm.toNat default) c) (b:=T.getD c.to.toNat default) hl)
  exact this
 have hcs:=zI4 (T:=T) (v:=extT (T.getD c.frm.toNat default) c) hti I
 generalize hu:extT (T.getD c.frm.toNat default) c=u at *
 have ue:u.eff=(T.getD c.frm.toNat default).eff+c.eff:=by rw [←hu];rfl
 have ul:u.l=(T.getD c.frm.toNat default).l++[c]:=by rw [←hu];rfl
 have ut:u.there=true:=by rw [←hu];rfl
 have hi:Imp W may n frm (T.set c.to.toNat u):=by
  refine⟨by rw [List.length_set];exact h.len,by rw [zIq hti,if_neg (by omega)];exact h.st,λ i hi hx=>?_,λ i hi hx=>?_,λ i hi hx=>?_⟩
  ·rw [zIq hti] at hx ⊢
   by_cases e:i=c.to.toNat
   ·rw [if_pos e,ul,ue]
    rw [show(i:Int)=c.to from by omega]
    exact⟨hw1.snoc hc,by rw [zIJ,hw2];simp only [effL,List.foldr];omega⟩
   ·rw [if_neg e] at hx ⊢;exact h.wk i hi hx
  ·rw [zIq hti] at hx ⊢
   by_cases e:i=c.to.toNat
   ·rw [if_pos e,ut] at hx;cases hx
   ·rw [if_neg e] at hx ⊢;exact h.no i hi hx
  ·rw [zIq hti] at hx ⊢
   by_cases e:i=c.to.toNat
   ·rw [if_pos e,ul,ue,hcs,lA]
    refine⟨?_,by simp only [lC,lN];omega⟩
    by_cases k:(T.getD c.to.toNat default).there=true
    ·have:=hlow k
     have:=(h.bnd c.to.toNat (by omega) k).1
     rw [if_pos k];omega
    ·rw [if_neg k];omega
   ·rw [if_neg e] at hx ⊢
    obtain⟨x1,x2⟩:=h.bnd i hi hx
    refine⟨?_,x2⟩
    rw [hcs]
    omega
 refine⟨hi,zIU hti ?_⟩
 have hcu:c.to.toNat<n:=by omega
 have hxu:=zIo hp hbs hi hn hcu (by rw [zIq hti,if_pos I];exact ut)
 rw [zIq hti,if_pos I] at hxu
 exact zJT hxu ut (λ e=>zIo hp hbs h hn hcu e) hl
theorem zJv (h:Imp W may n frm T) (hf:∀ c,zIm W may c→(T.getD c.frm.toNat default).there=true→zIg (extT (T.getD c.frm.toNat default) c) (T.getD c.to.toNat default)=false):Best W may n frm T:=
 ⟨h.len,h.st,h.wk,h.no,hf⟩
end
section
variable {s:Sht} {shut:Bool} {g h:Int} {l:List Opn} {x:Anm}
theorem zDp:∀ n,(acrN s shut g h l x n).some=true→mayR s shut g h l x (acrN s shut g h l x n).way=((acrN s shut g h l x n).eff,true)
 | 0,hs=>by cases hs
 | n+1,hs=>by
  have ih:=zDp n
  unfold acrN at hs ⊢
  simp only at hs ⊢
  split
  ·rename_i hc
   simp only [aT] at hc
   exact Prod.ext I hc.1
  ·rename_i hc
   rw [if_neg hc] at hs
   exact ih hs
theorem zHM {way:Int} (hm:(mayR s shut g h l x way).2=true):∃ k,k<l.length+1∧wayN l k=way:=by
 by_cases e:way = -1
 ·exact⟨l.length,by omega,by rw [e];exact if_pos I⟩
 ·by_cases e2:way<0∨(l.length:Int)≤way
  ·rw [zCv e e2] at hm;cases hm
  ·exact⟨way.toNat,by omega,by rw [wayN,if_neg (by omega)];omega⟩
theorem zJ8 {v:Wll} (hg:Gnd s v g h) (hl:v.opens=l) (way:Int):0≤(mayR s shut g h l x way).1∧(mayR s shut g h l x way).1≤7001∧((mayR s shut g h l x way).2=true→1≤(mayR s shut g h l x way).1):=by
 have ho:=zGy hg
 by_cases k1:way = -1
 ·rw [zFv k1];simp only;omega
 ·by_cases k2:way<0∨(l.length:Int)≤way
  ·rw [zCv k1 k2];simp
  ·by_cases k3:(l.getD way.toNat default).width<x.wide
   ·rw [zCX k1 k2 k3];simp
   ·by_cases k4:(l.getD way.toNat default).kind=4
    ·rw [zCW k1 k2 k3 k4];exact⟨(by show(0:Int)≤1;decide),(by show(1:Int)≤7001;decide),λ _=>(by show(1:Int)≤1;decide)⟩
    ·have hfit:=hg.wf.fit (l.getD way.toNat default) (by rw [hl];exact za0 (by omega))
     have q1:=hfit.f;have q2:=hfit.h;have q3:=hg.nums;have q4:=hg.g
     by_cases k5:(l.getD way.toNat default).kind=3
     ·rw [zBR k1 k2 k3 k4 k5];simp only;omega
     ·rw [zCV k1 k2 k3 k4 k5];simp only;omega
end
section
variable {S:List ShC} {V:List WlC} {cs:List ByteArray} {bs:List Bdr} {x:Anm}
theorem zJ3 (h:zym S V cs bs x=true) {i:Int} (h0:0≤i) (h1:i<bs.length) (back:Bool):∃ v:Wll,v=(zaN S V (bs.getD i.toNat default).wall).s∧Gnd (zar S V (bs.getD i.toNat default).wall).s v (gOf (bs.getD i.toNat default) back) (hOf (bs.getD i.toNat default) back):=by
 obtain⟨_,_,_,_,_,hb⟩:=zzD h
 obtain⟨a,b⟩:=zBh (hb i.toNat (by omega))
 cases back
 ·exact⟨_,rfl,a⟩
 ·exact⟨_,rfl,b⟩
theorem zJS (h:zym S V cs bs x=true) {i:Int} (h0:0≤i) (h1:i<bs.length) (back:Bool) (way:Int):0≤(mayB S V x (bs.getD i.toNat default) back way).1∧(mayB S V x (bs.getD i.toNat default) back way).1≤7001∧((mayB S V x (bs.getD i.toNat default) back way).2=true→1≤(mayB S V x (bs.getD i.toNat default) back way).1):=by
 obtain⟨v,e,hg⟩:=zJ3 h h0 h1 back
 exact zJ8 hg (by rw [e]) way
theorem zJX (h:zym S V cs bs x=true) {i:Int} (h0:0≤i) (h1:i<bs.length) (back:Bool) (hw:-1≤(wayI S V bs x i back).way):mayB S V x (bs.getD i.toNat default) back (wayI S V bs x i back).way=((wayI S V bs x i back).eff,true):=by
 have ha:=zFB h h0 h1 back
 unfold zAN at ha
 by_cases hs:(acrB S V x (bs.getD i.toNat default) back ((zaN S V (bs.getD i.toNat default).wall).s.opens.length+1)).some=true
 ·rw [if_pos hs] at ha
  have:=zDp _ hs
  simp only [Prod.mk.injEq] at ha
  rw [←ha.1,←ha.2];exact this
 ·rw [if_neg hs] at ha
  simp only [Prod.mk.injEq] at ha
  omega
theorem zIY {i:Nat}:fstC (zyj S V bs x) i=wayI S V bs x i false∧sndC (zyj S V bs x) i=wayI S V bs x i true:=⟨by unfold wayI;rw [Int.toNat_natCast];rfl,by unfold wayI;rw [Int.toNat_natCast];rfl⟩
theorem zI5 (h:zym S V cs bs x=true):zJJ (zyj S V bs x):=by
 intro c hc hw
 obtain⟨i,hi,e⟩:=zFE hc
 rw [zz5] at hi
 have key:∀ back,-1≤(wayI S V bs x i back).way→1≤(wayI S V bs x i back).eff∧(wayI S V bs x i back).eff≤7001:=λ back hb=>by
  have h1:=zJX h (i:=i) (by omega) (by omega) back hb
  have h2:=zJS h (i:=i) (by omega) (by omega) back (wayI S V bs x i back).way
  rw [h1] at h2
  exact⟨h2.2.2 I,h2.2.1⟩
 rcases e with e|e
 ·rw [zIY.1] at e;rw [e] at hw ⊢;exact key _ hw
 ·rw [zIY.2] at e;rw [e] at hw ⊢;exact key _ hw
theorem zIr (h:zym S V cs bs x=true):zIB (zyj S V bs x) cs.length:=by
 have hp:=zBa h
 obtain⟨_,_,_,_,_,hb⟩:=zzD h
 intro c hc
 obtain⟨i,hi,e⟩:=zFE hc
 have f1:=hp.fst i hi;have f2:=hp.snd i hi
 have hf:=zzq (hb i (by rw [zz5] at hi;exact hi))
 rcases e with e|e <;> rw [e] <;> omega
def stpW (S:List ShC) (V:List WlC) (bs:List Bdr) (x:Anm) (frm:Int) (s:Int×Int):Option (Int×Int):=
 if zBG bs.length s.1=true then
  if (bs.getD s.1.toNat default).a=frm then(if (mayB S V x (bs.getD s.1.toNat default) false s.2).2=true then some ((bs.getD s.1.toNat default).b,(mayB S V x (bs.getD s.1.toNat default) false s.2).1) else none)
  else if (bs.getD s.1.toNat default).b=frm then(if (mayB S V x (bs.getD s.1.toNat default) true s.2).2=true then some ((bs.getD s.1.toNat default).a,(mayB S V x (bs.getD s.1.toNat default) true s.2).1) else none)
  else none
 else none
def wkdN (S:List ShC) (V:List WlC) (bs:List Bdr) (x:Anm) (frm:Int) (l:List (Int×Int)):Nat→Option (Int×Int)
 | 0=>some (frm,0)
 | n+1=>match wkdN S V bs x frm l n with
  | none=>none
  | some (c,e)=>match stpW S V bs x c (l.getD n default) with
   | none=>none
   | some (d,k)=>some (d,e+k)
def wkdA (S:List ShC) (V:List WlC) (bs:List Bdr) (x:Anm) (frm:Int) (l:List (Int×Int)):Option (Int×Int):=wkdN S V bs x frm l l.length
theorem zM7 {frm:Int} {s:Int×Int} (h:zBG bs.length s.1=false):stpW S V bs x frm s=none:=if_neg (by rw [h];exact fT)
theorem zMP {frm:Int} {s:Int×Int} (h1:¬ (bs.getD s.1.toNat default).a=frm) (h2:¬ (bs.getD s.1.toNat default).b=frm):stpW S V bs x frm s=none:=by by_cases hz:zBG bs.length s.1=true <;> unfold stpW <;> first|rw [if_pos hz,if_neg h1,if_neg h2]|rw [if_neg hz]
theorem zNd (h:zym S V cs bs x=true) {frm:Int} {s r:Int×Int} (hs:stpW S V bs x frm s=some r):0≤r.2∧r.2≤7001:=by
 unfold stpW at hs
 split at hs
 ·rename_i hc
  unfold zBG at hc
  simp only [aT,dT] at hc
  split at hs
  ·split at hs
   ·rw [←Option.some.inj hs];have:=zJS h hc.1 hc.2 false s.2;exact⟨this.1,this.2.1⟩
   ·cases hs
  ·split at hs
   ·split at hs
    ·rw [←Option.some.inj hs];have:=zJS h hc.1 hc.2 true s.2;exact⟨this.1,this.2.1⟩
    ·cases hs
   ·cases hs
 ·cases hs
variable {frm:Int} {l:List (Int×Int)}
theorem zMJ {n:Nat} {c e:Int} (h:wkdN S V bs x frm l n=some (c,e)):wkdN S V bs x frm l (n+1)=(match stpW S V bs x c (l.getD n default) with|none=>none|some (d,k)=>some (d,e+k)):=by rw [wkdN,h]
theorem zMR {n:Nat} {c e d k:Int} (h:wkdN S V bs x frm l n=some (c,e)) (hs:stpW S V bs x c (l.getD n default)=some (d,k)):wkdN S V bs x frm l (n+1)=some (d,e+k):=by rw [zMJ h,hs]
theorem zMC {n:Nat} (h:wkdN S V bs x frm l n=none):∀ m,n≤m→wkdN S V bs x frm l m=none
 | 0,hm=>by rw [show 0=n from by omega];exact h
 | m+1,hm=>by
  by_cases e:n=m+1
  ·rw [←e];exact h
  ·rw [wkdN,zMC h m (by omega)]
theorem zMu {n:Nat} {c e:Int} (h:wkdN S V bs x frm l n=some (c,e)) (hn:n<l.length) (hs:stpW S V bs x c (l.getD n default)=none):wkdA S V bs x frm l=none:=
 zMC (n:=n+1) (by rw [zMJ h,hs]) _ (by omega)
theorem zMW (hk:zym S V cs bs x=true):∀ {n:Nat} {c e:Int},wkdN S V bs x frm l n=some (c,e)→0≤e∧e≤7001*n
 | 0,c,e,h=>by
  have h:=Option.some.inj (show some (frm,(0:Int))=some (c,e) from h)
  simp only [Prod.mk.injEq] at h;omega
 | n+1,c,e,h=>by
  cases h1:wkdN S V bs x frm l n with
  | none=>rw [wkdN,h1] at h;cases h
  | some r=>
   obtain⟨d,k⟩:=r
   have ih:=zMW hk h1
   rw [zMJ h1] at h
   cases h2:stpW S V bs x d (l.getD n default) with
   | none=>rw [h2] at h;cases h
   | some q=>
    have hq:=zNd hk h2
    rw [h2] at h
    have h:=Option.some.inj h
    simp only [Prod.mk.injEq] at h
    omega
end
section
variable {S S2:List ShC} {V V2:List WlC} {cs:List ByteArray} {bs:List Bdr} {x:Anm} (h:S2.map (·.s)=S.map (·.s)) (h2:V2.map (·.s)=V.map (·.s))
include h h2
theorem zAq:zym S2 V2 cs bs x=zym S V cs bs x:=by
 have hb:∀ n b,zzp S2 V2 n b=zzp S V n b:=λ n b=>by unfold zzp;rw [zcK h h2]
 unfold zym zy1
 rw [zmw h h2]
 simp only [hb]
theorem zCu:zyj S2 V2 bs x=zyj S V bs x:=by
 unfold zyj wayB
 simp only [zgc h h2,zeN h h2]
theorem zIk (l:List Int):atE S2 V2 cs bs x l=atE S V cs bs x l:=by unfold atE;rw [zAq h h2]
theorem zN8 (frm to:Int):prtE S2 V2 cs bs x frm to=prtE S V cs bs x frm to:=by unfold prtE;rw [zIk h h2]
theorem zNj (b:Bdr) (back:Bool) (way:Int):mayB S2 V2 x b back way=mayB S V x b back way:=by unfold mayB;rw [zgc h h2,zeN h h2]
theorem zNl (frm:Int) (s:Int×Int):stpW S2 V2 bs x frm s=stpW S V bs x frm s:=by unfold stpW;simp only [zNj h h2]
theorem zNg (frm:Int) (l:List (Int×Int)):∀ n,wkdN S2 V2 bs x frm l n=wkdN S V bs x frm l n
 | 0=>rfl
 | n+1=>by rw [wkdN,wkdN,zNg frm l n];simp only [zNl h h2]
theorem zNm (frm:Int) (l:List (Int×Int)):wkdA S2 V2 bs x frm l=wkdA S V bs x frm l:=zNg h h2 frm l _
end
section
variable {S:List ShC} {V:List WlC} {cs:List ByteArray} {bs:List Bdr} {x:Anm}
abbrev acrE (S:List ShC) (V:List WlC) (bs:List Bdr) (x:Anm) (i:Int) (back:Bool):Acr:=acrB S V x (bs.getD i.toNat default) back ((zaN S V (bs.getD i.toNat default).wall).s.opens.length+1)
theorem zGQ {i:Int} {back:Bool} (hs:(acrE S V bs x i back).some=true):-1≤(acrE S V bs x i back).way:=by
 have l3:=zDp _ hs
 obtain⟨q,_,hq⟩:=zHM (s:=(zar S V (bs.getD i.toNat default).wall).s) (shut:=(bs.getD i.toNat default).shut) (g:=gOf (bs.getD i.toNat default) back) (h:=hOf (bs.getD i.toNat default) back) (l:=(zaN S V (bs.getD i.toNat default).wall).s.opens) (x:=x) (way:=(acrE S V bs x i back).way) (congrArg Prod.snd l3)
 rw [←hq]
 unfold wayN
 split <;> omega
theorem zFu {i:Int} {n:Nat} (h0:0≤i) (h1:i<(n:Int)):(!inZ i 0 ((n:Int) - 1))=false:=by
 unfold inZ
 rw [decide_eq_true h0,decide_eq_true (by omega:i≤(n:Int) - 1)];rfl
theorem zC7 (h:zym S V cs bs x=true) {i:Int} (h0:0≤i) (h1:i<bs.length) (back:Bool) :
  ((acrE S V bs x i back).some=false→zyv S V cs bs x i back=⟨0,0,8⟩∧(wayI S V bs x i back).way = -2)∧((acrE S V bs x i back).some=true→zyv S V cs bs x i back=⟨(acrE S V bs x i back).way,(acrE S V bs x i back).eff,0⟩∧(wayI S V bs x i back).way=(acrE S V bs x i back).way∧(wayI S V bs x i back).eff=(acrE S V bs x i back).eff):=by
 have ha:=zFB h h0 h1 back
 unfold zAN at ha
 constructor
 ·intro hs
  rw [if_neg (by rw [hs];exact fT)] at ha
  simp only [Prod.mk.injEq] at ha
  exact⟨zzM h (zFu h0 h1) (by omega),ha.1.symm⟩
 ·intro hs
  rw [if_pos hs] at ha
  simp only [Prod.mk.injEq] at ha
  have:=zGQ hs
  refine⟨?_,ha.1.symm,ha.2.symm⟩
  rw [zzN h (zFu h0 h1) (by rw [←ha.1];exact Int.not_lt.2 this),←ha.1,←ha.2]
end
end Go.Fld
namespace Go.Proofs.YteepmmghanbllaaGreatDoor
open Go.K Go.Stn Go.Pln Go.Fld Go.RowKit
theorem tf33:TF Tryz.prog 33 true 9 (.agg #[C none 0 0,C none 0 0,C none 0 0,C none 0 0,O 0,O 0,O 0,O 0,O 0]):=tK
theorem en13:En Tryz.prog 13:=eK Tryz.func13
theorem en14:En Tryz.prog 14:=eK Tryz.func14
theorem en17:En Tryz.prog 17:=eK Tryz.func17
end Go.Proofs.YteepmmghanbllaaGreatDoor
namespace Go.Fld
open Go Go.K Go.Stn Go.Pln
section
variable {S:List ShC} {V:List WlC} {cs:List ByteArray} {bs:List Bdr} {x:Anm}
theorem zJV (h:zym S V cs bs x=true) {i:Nat} (hi:i<bs.length) (back:Bool):wayI S V bs x i back∈allC (zyj S V bs x)∧(wayI S V bs x i back).brd=i∧(wayI S V bs x i back).frm=(if back=true then(bs.getD i default).b else(bs.getD i default).a)∧(wayI S V bs x i back).to=(if back=true then(bs.getD i default).a else(bs.getD i default).b):=by
 have hp:=zBa h
 have hl:i<(zyj S V bs x).length:=by rw [zz5];exact hi
 have f1:=hp.fst i hl;have f2:=hp.snd i hl
 cases back
 ·rw [←zIY.1];exact⟨zBd hl,f1.1,f1.2.1,f1.2.2⟩
 ·rw [←zIY.2];exact⟨zBe hl,f2.1,f2.2.1,f2.2.2⟩
end
def hasI (l:List Int) (n:Int):Bool:=l.any λ z=>decide (n=z)
theorem zIR {l:List Int} {n:Int}:hasI l n=true↔n∈l:=by
 unfold hasI
 rw [List.any_eq_true]
 constructor
 ·rintro ⟨z,h1,h2⟩;rw [oT h2];exact h1
 ·intro h;exact⟨n,h,decide_eq_true I⟩
theorem zJu {l:List Int} {n i:Int} (h0:0≤i) (h1:i<(l.length:Int)) (h:l.getD i.toNat default=n):hasI l n=true:=by
 rw [zIR,←h];exact za0 (by omega)
theorem zJP {l:List Int} {n:Int} (h:∀ j:Nat,j<l.length→¬ l.getD j default=n):hasI l n=false:=by
 cases e:hasI l n with
 | false=>rfl
 | true=>
  obtain⟨i,hi,e2⟩:=List.getElem_of_mem (zIR.1 e)
  exact absurd (by rw [gE,eG hi];exact e2) (h i hi)
def risB (l:List Int):Bool:=(List.range l.length).all λ i=>decide (i=0)||decide (l.getD (i - 1) default<l.getD i default)
theorem zNh {l:List Int}:risB l=true↔∀ i:Nat,1≤i→i<l.length→l.getD (i - 1) default<l.getD i default:=by
 unfold risB
 rw [List.all_eq_true]
 constructor
 ·intro h i h1 h2
  have:=h i (List.mem_range.2 h2)
  simp only [Bool.or_eq_true,dT] at this
  omega
 ·intro h i hi
  have:=List.mem_range.1 hi
  simp only [Bool.or_eq_true,dT]
  by_cases e:i=0
  ·exact .inl e
  ·exact .inr (h i (by omega) this)
theorem zNG {l:List Int} {i:Int} (h1:1≤i) (h2:i<(l.length:Int)) (h:l.getD i.toNat default≤l.getD (i - 1).toNat default):risB l=false:=by
 cases e:risB l with
 | false=>rfl
 | true=>
  have:=zNh.1 e i.toNat (by omega) (by omega)
  rw [show i.toNat - 1=(i - 1).toNat from by omega] at this
  omega
abbrev TrkR:=Trk×Option Addr×Nat
abbrev zIf (z:TrkR):List Value:=[O z.1.eff,.slice z.2.1 (stpL z.1.l).length z.2.2,.bool z.1.there]
theorem zIc:Enc 3 zIf:=⟨λ _=>rfl,λ _=>rfl,by decide⟩
abbrev trkL (L:List TrkR):List Trk:=L.map (·.1)
theorem zIe {L:List TrkR} (i:Nat):(trkL L).getD i default=(L.getD i default).1:=by
 rw [gE,List.getElem?_map,gE]
 cases L[i]? <;> rfl
theorem zJm {L:List TrkR} {i:Nat} {z:TrkR}:trkL (L.set i z)=(trkL L).set i z.1:=List.map_set ..
abbrev trk0 (n:Nat) (frm:Int):List TrkR:=(List.replicate n (default:TrkR)).set frm.toNat ⟨⟨0,[],true⟩,none,0⟩
theorem zJU {n i:Nat}:(List.replicate n (default:TrkR)).getD i default=default:=by
 rw [gE]
 cases h:(List.replicate n (default:TrkR))[i]? with
 | none=>rfl
 | some v=>exact(List.mem_replicate.1 (List.mem_of_getElem? h)).2
theorem zJB {n:Nat} {frm:Int}:(List.replicate n (default:TrkR)).set frm.toNat ({ ((List.replicate n (default:TrkR)).getD frm.toNat default).1 with there:=true },((List.replicate n (default:TrkR)).getD frm.toNat default).2)=trk0 n frm:=by rw [zJU];rfl
theorem zIW {n:Nat} {frm:Int}:(trk0 n frm).length=n:=by rw [List.length_set,List.length_replicate]
theorem zJz {W:List (Crg×Crg)} {may:Crg→Bool} {n:Nat} {frm:Int} (h0:0≤frm) (h1:frm<n):Imp W may n frm (trkL (trk0 n frm)):=by
 rw [zJm,show trkL (List.replicate n (default:TrkR))=List.replicate n (default:Trk) from List.map_replicate ..]
 exact zJc h0 h1
theorem zJA {n:Nat} {frm:Int} {z:TrkR} (h:z∈trk0 n frm):z.1.l=[]∧z.2=(none,0):=by
 rcases List.mem_or_eq_of_mem_set h with h|h
 ·rw [(List.mem_replicate.1 h).2];exact⟨rfl,rfl⟩
 ·rw [h];exact⟨rfl,rfl⟩
def fixC (W:List (Crg×Crg)) (may:Crg→Bool) (T:List Trk) (c:Crg):Prop:=zIm W may c→(T.getD c.frm.toNat default).there=true→zIg (extT (T.getD c.frm.toNat default) c) (T.getD c.to.toNat default)=false
def FixN (W:List (Crg×Crg)) (may:Crg→Bool) (T:List Trk) (i:Nat):Prop:=∀ j:Nat,j<i→fixC W may T (fstC W j)∧fixC W may T (sndC W j)
section
variable {W:List (Crg×Crg)} {may:Crg→Bool} {n:Nat} {frm:Int} {T:List Trk}
theorem zJZ:FixN W may T 0:=λ j h=>by omega
theorem zJL {i:Nat} (h:FixN W may T i) (h1:fixC W may T (fstC W i)) (h2:fixC W may T (sndC W i)):FixN W may T (i+1):=λ j hj=>by
 by_cases e:j<i
 ·exact h j e
 ·rw [show j=i from by omega];exact⟨h1,h2⟩
theorem zI9 (hi:Imp W may n frm T) (h:FixN W may T W.length):Best W may n frm T:=zJv hi λ c hc ht=>by
 obtain⟨i,hl,e⟩:=zFE hc.1
 rcases e with e|e
 ·rw [e] at hc ht ⊢;exact(h i hl).1 hc ht
 ·rw [e] at hc ht ⊢;exact(h i hl).2 hc ht
theorem zJa {c:Crg} (h:may c=false):fixC W may T c:=λ hc=>by rw [hc.2.2] at h;cases h
theorem zJM {c:Crg} (h:c.way = -2):fixC W may T c:=λ hc=>by have:=hc.2.1;omega
theorem zJb {c:Crg} (h:(T.getD c.frm.toNat default).there=false):fixC W may T c:=λ _ ht=>by rw [ht] at h;cases h
theorem zIQ {c:Crg} (h:zIg (extT (T.getD c.frm.toNat default) c) (T.getD c.to.toNat default)=false):fixC W may T c:=λ _ _=>h
end
theorem zJ4 {a b:Trk} (h:(!b.there||!decide (a.eff=b.eff))=true):zIg a b=(!b.there||decide (a.eff<b.eff)):=by
 unfold zIg kLt
 cases e:b.there with
 | false=>rfl
 | true=>
  rw [e] at h
  have:¬ a.eff=b.eff:=by simpa using h
  rw [if_neg this]
theorem zJ5 {a b:Trk} (h:(!b.there||!decide (a.eff=b.eff))=false):b.there=true∧a.eff=b.eff:=by
 cases e:b.there with
 | false=>rw [e] at h;cases h
 | true=>rw [e] at h;exact⟨rfl,by simpa using h⟩
theorem zJ6 {a b:Trk} (h:b.there=true∧a.eff=b.eff) (h2:¬ a.l.length=b.l.length):zIg a b=decide (a.l.length<b.l.length):=by
 unfold zIg kLt
 rw [h.1,if_pos h.2,if_neg h2];rfl
theorem zJE {a b:Trk} (h:b.there=true∧a.eff=b.eff) (h2:a.l.length=b.l.length):zIg a b=lexB (zIh a.l) (zIh b.l):=by
 unfold zIg kLt
 rw [h.1,if_pos h.2,if_pos h2];rfl
theorem zIA {l:List Crg}:(stpL l).length=l.length:=lM ..
theorem zIu {l:List Crg} (i:Nat):((stpL l).getD i default).1=(zIh l).getD i default:=by
 rw [gE,List.getElem?_map,gE,List.getElem?_map]
 cases l[i]? <;> rfl
theorem zJF:∀ {i:Nat} {a b:List Int},a.length=b.length→i<a.length→(∀ j:Nat,j<i→a.getD j default=b.getD j default)→¬ a.getD i default=b.getD i default→lexB a b=decide (a.getD i default<b.getD i default)
 | _,[],_,_,h,_,_=>by cases h
 | _,_ :: _,[],h,_,_,_=>by cases h
 | 0,x :: a,y :: b,_,_,_,hn=>by
  have hn:¬ x=y:=hn
  rw [lexB,if_neg hn];rfl
 | i+1,x :: a,y :: b,hl,hi,h,hn=>by
  have e:x=y:=h 0 (by omega)
  rw [lexB,if_pos e]
  exact zJF (i:=i) (by simpa using hl) (by simpa using hi) (λ j hj=>h (j+1) (by omega)) hn
theorem zJx {a b:List Int} (h:a.length=b.length) (h2:∀ j:Nat,j<a.length→a.getD j default=b.getD j default):lexB a b=false:=by
 have:a=b:=zJs h h2
 rw [this];exact zIM b
abbrev mayC (cl:List Int) (c:Crg):Bool:=!hasI cl c.brd
section
variable {W:List (Crg×Crg)} {may:Crg→Bool} {n:Nat} {frm:Int} {T:List Trk} {bs:List Bdr}
theorem zIz (hp:zyI W bs) (hbs:bs.length≤80) (h:Imp W may n frm T) (hn:n≤40) {i:Nat} (hi:i<n):(T.getD i default).l.length≤280040∧0≤(T.getD i default).eff∧(T.getD i default).eff≤280040:=by
 cases e:(T.getD i default).there with
 | true=>
  have hf:=zIo hp hbs h hn hi e
  have:=hf.e0;have:=hf.e1;have:=hf.len
  omega
 | false=>rw [h.no i hi e];exact⟨by decide,by decide,by decide⟩
theorem zIX {L:List TrkR} (hp:zyI W bs) (hbs:bs.length≤80) (he:zJJ W) (hw:zIB W n) (hn:n≤40) (h0:0≤frm) (h:Imp W may n frm (trkL L)) {c:Crg} (hc:zIm W may c) (ht:(L.getD c.frm.toNat default).1.there=true)
  (hl:zIg (extT (L.getD c.frm.toNat default).1 c) (L.getD c.to.toNat default).1=true) (p:Option Addr×Nat):Imp W may n frm (trkL (L.set c.to.toNat (extT (L.getD c.frm.toNat default).1 c,p)))∧zIj (trkL (L.set c.to.toNat (extT (L.getD c.frm.toNat default).1 c,p)))<zIj (trkL L):=by
 rw [zJm]
 have:=zJw hp hbs he hw hn h0 h hc (by rw [zIe];exact ht) (by rw [zIe,zIe];exact hl)
 rw [zIe] at this
 exact this
theorem zKc {ch:Bool} {r r2:Nat} (h:r2+(if ch=true then 1 else 0)≤r):(if ch=true then r2+1 else 0)<r+1:=by
 cases ch <;> simp at h ⊢ <;> omega
end
section
variable {S:List ShC} {V:List WlC} {cs:List ByteArray} {bs:List Bdr} {x:Anm} {may:Crg→Bool} {L:List TrkR}
theorem zIP (h:zym S V cs bs x=true) {i:Int} (h0:0≤i) (h1:i<bs.length) (back:Bool) (he:(!(acrE S V bs x i back).some||!(L.getD (wayI S V bs x i back).frm.toNat default).1.there)=true):fixC (zyj S V bs x) may (trkL L) (wayI S V bs x i back):=by
 cases hs:(acrE S V bs x i back).some with
 | false=>exact zJM ((zC7 h h0 h1 back).1 hs).2
 | true=>
  rw [hs] at he
  exact zJb (by rw [zIe];simpa using he)
theorem zJW (h:zym S V cs bs x=true) {i:Int} (h0:0≤i) (h1:i<bs.length):(wayI S V bs x i false).frm=(bs.getD i.toNat default).a∧(wayI S V bs x i false).to=(bs.getD i.toNat default).b∧(wayI S V bs x i true).frm=(bs.getD i.toNat default).b∧(wayI S V bs x i true).to=(bs.getD i.toNat default).a∧(wayI S V bs x i false).brd=i∧(wayI S V bs x i true).brd=i:=by
 have hp:=zBa h
 have hl:i.toNat<(zyj S V bs x).length:=by rw [zz5];omega
 have f1:=hp.fst _ hl;have f2:=hp.snd _ hl
 have e1:wayI S V bs x i false=fstC (zyj S V bs x) i.toNat:=rfl
 have e2:wayI S V bs x i true=sndC (zyj S V bs x) i.toNat:=rfl
 rw [e1,e2]
 exact⟨f1.2.1,f1.2.2,f2.2.1,f2.2.2,by omega,by omega⟩
theorem zJp (h:zym S V cs bs x=true) {i:Int} (h0:0≤i) (h1:i<bs.length) {back:Bool} (hs:(acrE S V bs x i back).some=true) (hm:may (wayI S V bs x i back)=true):zIm (zyj S V bs x) may (wayI S V bs x i back):=by
 have hw:=((zC7 h h0 h1 back).2 hs).2.1
 have:=zGQ hs
 have hc:=(zJV h (i:=i.toNat) (by omega) back).1
 rw [tN h0] at hc
 exact⟨hc,by omega,hm⟩
theorem zID (_h:zym S V cs bs x=true) {T:List Trk} {i:Int} (h0:0≤i) (hf:FixN (zyj S V bs x) may T i.toNat) (h1:fixC (zyj S V bs x) may T (wayI S V bs x i false)) (h2:fixC (zyj S V bs x) may T (wayI S V bs x i true)):FixN (zyj S V bs x) may T (i+1).toNat:=by
 rw [show(i+1).toNat=i.toNat+1 from by omega]
 exact zJL hf h1 h2
theorem zI8 {t:Trk} {c:Crg} {b w:Int} (h1:c.brd=b) (h2:c.way=w):stpL (extT t c).l=stpL t.l++[(b,w)]:=by
 subst h1;subst h2;show stpL (t.l++[c])=_;rw [stpL,List.map_append];rfl
theorem zI6 {t:Trk} {c:Crg} {e:Int} (h:c.eff=e):(extT t c).eff=t.eff+e:=by subst h;rfl
theorem zI7 {t:Trk} {c:Crg}:(extT t c).l.length=t.l.length+1:=by show(t.l++[c]).length=_;simp
end
def wkT:Option (Int×Int)→Int×Int×Bool
 | some (c,e)=>(c,e,true)
 | none=>(0,0,false)
section
variable {S:List ShC} {V:List WlC} {cs:List ByteArray} {bs:List Bdr} {x:Anm} {b:Bdr} {bk:Bool} {way cur frm:Int} {s:Int×Int}
theorem zMZ (h:way = -1):max (zzc (zar S V b.wall).s (gOf b bk)) 0+1=(mayB S V x b bk way).1∧(decide (zzc (zar S V b.wall).s (gOf b bk)≤x.leap)&&decide (zy8 (zar S V b.wall).s (zar S V b.wall).s.height≤x.reach))=(mayB S V x b bk way).2:=by
 unfold mayB
 rw [zFv h]
 exact⟨Int.add_comm _ _,rfl⟩
theorem zM0 (h0:0≤way) (h1:way<((zaN S V b.wall).s.opens.length:Int)):byG (zar S V b.wall).s b.shut (gOf b bk) (hOf b bk) ((zaN S V b.wall).s.opens.getD way.toNat default) x=mayB S V x b bk way:=by
 have:=zHi (s:=(zar S V b.wall).s) (shut:=b.shut) (g:=gOf b bk) (h:=hOf b bk) (l:=(zaN S V b.wall).s.opens) (x:=x) (n:=way.toNat) (by omega)
 rw [←this,tN h0];rfl
theorem zNb (h:¬ way = -1) (h2:(!inZ way 0 (((zaN S V b.wall).s.opens.length:Int) - 1))=true):(mayB S V x b bk way).2=false:=by
 unfold mayB
 rw [zCv h]
 unfold inZ at h2
 rw [nT,Bool.and_eq_false_iff,dF,dF] at h2
 omega
abbrev endW (b:Bdr) (bk:Bool):Int:=if bk=true then b.a else b.b
theorem zMU (hz:zBG bs.length s.1=true) (h:(bk=false∧(bs.getD s.1.toNat default).a=cur)∨(bk=true∧¬ (bs.getD s.1.toNat default).a=cur∧(bs.getD s.1.toNat default).b=cur)) :
  stpW S V bs x cur s=if (mayB S V x (bs.getD s.1.toNat default) bk s.2).2=true then some (endW (bs.getD s.1.toNat default) bk,(mayB S V x (bs.getD s.1.toNat default) bk s.2).1) else none:=by
 rcases h with ⟨rfl,h⟩ | ⟨rfl,h,h2⟩
 ·unfold stpW;rw [if_pos hz,if_pos h];rfl
 ·unfold stpW;rw [if_pos hz,if_neg h,if_pos h2];rfl
theorem zM8 (hz:zBG bs.length s.1=true) (h:(bk=false∧(bs.getD s.1.toNat default).a=cur)∨(bk=true∧¬ (bs.getD s.1.toNat default).a=cur∧(bs.getD s.1.toNat default).b=cur)) (hm:(mayB S V x (bs.getD s.1.toNat default) bk s.2).2=true) :
  stpW S V bs x cur s=some (endW (bs.getD s.1.toNat default) bk,(mayB S V x (bs.getD s.1.toNat default) bk s.2).1):=by rw [zMU hz h,if_pos hm]
theorem zMV (hz:zBG bs.length s.1=true) (h:(bk=false∧(bs.getD s.1.toNat default).a=cur)∨(bk=true∧¬ (bs.getD s.1.toNat default).a=cur∧(bs.getD s.1.toNat default).b=cur)) (hm:(mayB S V x (bs.getD s.1.toNat default) bk s.2).2=false) :
  stpW S V bs x cur s=none:=by rw [zMU hz h,if_neg (by rw [hm];exact fT)]
end
end Go.Fld