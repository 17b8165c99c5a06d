/- What the proof of the root text leans on, part 8: the layer, plain facts and walks. No statement of the seat is proved in this text. -/
import Derived.Test.YteepmmghanbllaaGreatDoorFr7
set_option maxRecDepth 100000
set_option maxHeartbeats 32000000
namespace Go.Proofs.YteepmmghanbllaaGreatDoor
open Go.K Go.Stn Go.Pln Go.Fld Go.RowKit
theorem tf27:TF Tryz.prog 27 false 1 (.slice none 0 0):=tK
theorem zAU:TF Tryz.prog 100 true 6 (.agg #[.int .i64 0,.int .i64 0,.string ⟨#[]⟩,.int .i64 0,.int .i64 0,.bool false]):=tK
theorem zAp:FO Tryz.prog 29 0 0:=fK
theorem zzL:FO Tryz.prog 29 1 1:=fK
theorem zeo:FO Tryz.prog 31 0 0:=fK
theorem zd7:FO Tryz.prog 31 1 1:=fK
theorem zCQ:FO Tryz.prog 31 2 2:=fK
theorem zA6:FO Tryz.prog 31 3 3:=fK
theorem zA7:FO Tryz.prog 31 4 4:=fK
theorem zCc:FO Tryz.prog 100 2 2:=fK
theorem zCd:FO Tryz.prog 100 3 3:=fK
theorem zCe:FO Tryz.prog 100 4 4:=fK
theorem zCf:FO Tryz.prog 100 5 5:=fK
theorem se27:SE Tryz.prog 27 100 6:=⟨Tryz.underlying27,by kernel_rfl⟩
theorem en52:En Tryz.prog 52:=eK Tryz.func52
theorem zAw (a:Option Addr) (cap:Nat) (s:Sht) (z:Int) (w:World) (hsp:za4 s=true) (h0:0≤z) (h1:z≤s.height):Calls Tryz.prog 88 #[.agg #[.string s.name,.int .i64 s.base,.int .i64 s.batter,.int .i64 s.height,.int .i64 s.skin,.slice a s.heights.length cap,.int .i64 s.least,.int .i64 s.lap,.int .i64 s.run,.int .i64 s.every,.int .i64 s.at_,.int .i64 s.footing,.int .i64 s.spread,.int .u8 s.cope,.int .i64 s.tall,.int .i64 s.short,.int .i64 s.thick,.int .i64 s.low,.int .i64 s.high,.int .i64 s.rood],.int .i64 z] w (Pure (.int .i64 (zy8 s z)) w):=by
 have h:=zkn a cap s z w
 rw [zn1 hsp h0 h1] at h
 unfold zy8
 rwa [if_pos ⟨hsp,h0,h1⟩]
theorem zBU (n lo hi:Int) (w:World)  :
  Calls Tryz.prog 84 #[.int .i64 n,.int .i64 lo,.int .i64 hi] w (Pure (.bool (inZ n lo hi)) w):=by
 refine zan (vs:=[_,_,_]) Tryz.func84 rfl rfl (bL rfl) (gS (gA rfl (gN [0,1,2,6] rfl (zac (gZ 9 (ph_y (zaf rfl) (ph_y (zaf rfl) (ph_y (zfx rfl rfl) (ph_y (zaf rfl) (zaH rfl rfl (fun jj=>by(try rw [jj]); exact zaf rfl) (zaH rfl rfl (fun jj=>by(try rw [jj]); exact zaf rfl) (zaH rfl rfl (fun jj=>by(try rw [jj]); exact zeT rfl rfl) (ph_y (zaX rfl rfl rfl) (ph_y (zad rfl) (gN [6] rfl (zaw (zay (zaC rfl (zau rfl)) ?_)))))))))))))))))
 rfl
theorem zEc (ca:Option Addr) (ccap:Nat) (cs:List ByteArray) (ba:Option Addr) (bcp:Nat) (bs:List Bdr) (i:Int) (w:World)  :
  Calls Tryz.prog 20 #[.agg #[.slice ca cs.length ccap,.slice ba bs.length bcp],.int .i64 i] w (Pure (.bool (zBG cs.length i)) w):=by
 refine zan (vs:=[_,_]) Tryz.func20 rfl rfl (bL rfl) (gS (zaG rfl rfl (za3 (vs:=[_,_]) rfl rfl) fun b2=>(gA rfl (gN [1,2,4] rfl (zac (gZ 10 (ph_y (zaf rfl) (ph_y (zfx rfl rfl) (ph_y (zaf rfl) (zaH rfl rfl (fun jj=>by(try rw [jj]); exact zaf rfl) (zaH rfl rfl (fun jj=>by(try rw [jj]); exact zab zAp rfl) (zaH rfl rfl (fun jj=>by(try rw [jj]); exact zah 0 tf26 rfl rfl rfl) (zaH rfl rfl (fun jj=>by(try rw [jj]); exact zaV (Tryz.underlying26) rfl) (zaH rfl rfl (fun jj=>by(try rw [jj]); exact zbw rfl rfl) (ph_y (zaX rfl rfl rfl) (ph_y (zad rfl) (gN [4] rfl (zaw (zay (zaC rfl (zau rfl)) ?_)))))))))))))))))))
 rfl
theorem zEe (a:Option Addr) (cap:Nat) (S:List ShC) (b:Option Addr) (bcap:Nat) (V:List WlC) (e:Bdr) (w:World) (hl:Has w (zaW a 20 zbH S)) (hs:zaP S.length) (_hcS:S.length≤cap) (hlw:Has w (zaW b 4 zbS V)) (hsw:zaP V.length) (_hsh:∀ z∈S,Has w (Ints z.a z.s.heights)) (_hss:∀ z∈S,zaP z.s.heights.length) (_hwo:∀ z∈V,Has w (zaW z.a 5 zba z.s.opens)) (_hsv:∀ z∈V,zaP z.s.opens.length) (_hcp:∀ z∈V,z.s.opens.length≤z.cap) (_hkn:∀ z∈V,∀ o∈z.s.opens,Knd o) (hf:zb6 S V e.wall=0) :
  Calls Tryz.prog 52 #[.agg #[.slice a S.length cap,.slice b V.length bcap],.agg #[.int .i64 e.a,.int .i64 e.b,.string e.wall,.int .i64 e.gA,.int .i64 e.gB,.bool e.shut]] w (Pure (.tuple #[.agg (zbS (zaN S V e.wall)).toArray,.agg (zbH (zar S V e.wall)).toArray]) w):=by
 obtain⟨hP,hw0⟩:=zjR hf
 obtain⟨hs0,_⟩:=zf8 hP _ (zid hw0)
 have hwl:=zky hw0
 have hsl:=ziE hs0
 have e0:zhq V e.wall=(V.getD (zaM V e.wall).toNat default):=if_pos hw0
 have e1:(zaN S V e.wall)=(V.getD (zaM V e.wall).toNat default):=(zhF hf).trans e0
 have e2:(zar S V e.wall)=(S.getD (zaS S (V.getD (zaM V e.wall).toNat default).s.sheet).toNat default):=by rw [zhE hf,e0]; rw [e0] at hs0; exact if_pos hs0
 rw [e0] at hs0 hsl
 refine zan (vs:=[_,_]) Tryz.func52 rfl rfl (bL rfl) (gS (zaG rfl rfl (za3 (vs:=[_,_]) rfl rfl) fun b2=>(zaG rfl rfl (za3 (vs:=[_,_,_,_,_,_]) rfl rfl) fun b3=>(zaG rfl rfl (zaL zAk (zs:=[_,_,_,_]) rfl) fun b4=>(zaG rfl rfl (zaL zzu (zs:=[_,_,_,_,_,_,_,_,_,_,_,_,_,_,_,_,_,_,_,_]) rfl) fun b5=>(gN [2,3,4,5] rfl (zac (gZ 9 (ph_y (zab zdT rfl) (ph_y (zah 3 tf23 rfl rfl rfl) (ph_y (zat 3 tf25 rfl rfl (vs:=[_,_]) rfl rfl) (ph_y (zab zCc rfl) (ph_y (zah 2 tf9 rfl rfl rfl) (ph_y (zaJ en86 rfl (fun w hw=>zf9 _ _ _ _ _ V _ w (rH hlw hw) hsw)) (ph_y (zaE se23 rfl rfl (fun _=>rH hlw)) (ph_y (zbv (vs:=[_,_,_,_]) zAk rfl (fun _=>rH hlw) (by omega) (by omega) rfl) (zmr (zaL zAk (zs:=[_,_,_,_]) rfl) ?_)))))))))))))))))
 intro b6
 refine gK [2,4,5,6,14] rfl (zaA 0 zAk rfl rfl (vs:=[_,_,_,_]) rfl rfl rfl rfl rfl (gN [2,4,5,6] rfl (zac (zao 1 rfl (zao 2 rfl (zCs [_,_] (ch []) 1000 11 [0,0,2,0,0,16,56,126,254,121,1023] [] rfl (fun _=>mixed) (by kernel_rfl) (zjK _ trivial) (pY (fun ρ=>zat 0 zAk rfl rfl (vs:=[_,_,_,_]) rfl rfl) (pY (fun ρ=>zab zd6 rfl) (pY (fun ρ=>zah 2 tf22 rfl rfl rfl) (pY (fun ρ=>zat 2 tf25 rfl rfl (vs:=[_,_]) rfl rfl) (pY (fun ρ=>zab zCk rfl) (pY (fun ρ=>zah 0 tf9 rfl rfl rfl) (pY (fun ρ=>zaJ en87 rfl (fun w hw=>zfq _ _ S _ _ _ _ w (rH hl hw) hs)) (pY (fun ρ=>zaE se22 rfl rfl (fun _=>rH hl)) (pY (fun ρ=>zbv (vs:=[_,_,_,_,_,_,_,_,_,_,_,_,_,_,_,_,_,_,_,_]) zzu rfl (fun _=>rH hl) (by omega) (by omega) rfl) (zBT (R:=fun ρ=>Box b4 [.string ⟨#[]⟩,.string ⟨#[]⟩,.int .i64 0,.slice none 0 0] 134) (A:=fun ρ=>Box b4 (wV ((V.getD ((zaM V e.wall)).toNat default).s) ((V.getD ((zaM V e.wall)).toNat default).a) ((V.getD ((zaM V e.wall)).toNat default).cap)) 134) 1000 rfl (by kernel_rfl) (by kernel_rfl) (fun _=>by kernel_rfl) (fun ρ=>zex zAk rfl rfl (vs:=[_,_,_,_]) rfl rfl rfl rfl rfl) (fun ρ ρ' h=>by rfl) ?_))))))))))))))))
 refine zBT (R:=fun ρ=>Box b5 [.string ⟨#[]⟩,.int .i64 0,.int .i64 0,.int .i64 0,.int .i64 0,.slice none 0 0,.int .i64 0,.int .i64 0,.int .i64 0,.int .i64 0,.int .i64 0,.int .i64 0,.int .i64 0,.int .u8 0,.int .i64 0,.int .i64 0,.int .i64 0,.int .i64 0,.int .i64 0,.int .i64 0] 135) (A:=fun ρ=>Box b5 [.string (S.getD ((zaS S ((V.getD ((zaM V e.wall)).toNat default).s.sheet))).toNat default).s.name,.int .i64 ((S.getD ((zaS S ((V.getD ((zaM V e.wall)).toNat default).s.sheet))).toNat default).s.base),.int .i64 ((S.getD ((zaS S ((V.getD ((zaM V e.wall)).toNat default).s.sheet))).toNat default).s.batter),.int .i64 ((S.getD ((zaS S ((V.getD ((zaM V e.wall)).toNat default).s.sheet))).toNat default).s.height),.int .i64 ((S.getD ((zaS S ((V.getD ((zaM V e.wall)).toNat default).s.sheet))).toNat default).s.skin),.slice (S.getD ((zaS S ((V.getD ((zaM V e.wall)).toNat default).s.sheet))).toNat default).a (S.getD ((zaS S ((V.getD ((zaM V e.wall)).toNat default).s.sheet))).toNat default).s.heights.length (S.getD ((zaS S ((V.getD ((zaM V e.wall)).toNat default).s.sheet))).toNat default).cap,.int .i64 ((S.getD ((zaS S ((V.getD ((zaM V e.wall)).toNat default).s.sheet))).toNat default).s.least),.int .i64 ((S.getD ((zaS S ((V.getD ((zaM V e.wall)).toNat default).s.sheet))).toNat default).s.lap),.int .i64 ((S.getD ((zaS S ((V.getD ((zaM V e.wall)).toNat default).s.sheet))).toNat default).s.run),.int .i64 ((S.getD ((zaS S ((V.getD ((zaM V e.wall)).toNat default).s.sheet))).toNat default).s.every),.int .i64 ((S.getD ((zaS S ((V.getD ((zaM V e.wall)).toNat default).s.sheet))).toNat default).s.at_),.int .i64 ((S.getD ((zaS S ((V.getD ((zaM V e.wall)).toNat default).s.sheet))).toNat default).s.footing),.int .i64 ((S.getD ((zaS S ((V.getD ((zaM V e.wall)).toNat default).s.sheet))).toNat default).s.spread),.int .u8 (S.getD ((zaS S ((V.getD ((zaM V e.wall)).toNat default).s.sheet))).toNat default).s.cope,.int .i64 ((S.getD ((zaS S ((V.getD ((zaM V e.wall)).toNat default).s.sheet))).toNat default).s.tall),.int .i64 ((S.getD ((zaS S ((V.getD ((zaM V e.wall)).toNat default).s.sheet))).toNat default).s.short),.int .i64 ((S.getD ((zaS S ((V.getD ((zaM V e.wall)).toNat default).s.sheet))).toNat default).s.thick),.int .i64 ((S.getD ((zaS S ((V.getD ((zaM V e.wall)).toNat default).s.sheet))).toNat default).s.low),.int .i64 ((S.getD ((zaS S ((V.getD ((zaM V e.wall)).toNat default).s.sheet))).toNat default).s.high),.int .i64 ((S.getD ((zaS S ((V.getD ((zaM V e.wall)).toNat default).s.sheet))).toNat default).s.rood)] 135) 1001 rfl (by kernel_rfl) (by kernel_rfl) (fun _=>by kernel_rfl) (fun ρ=>zex zzu rfl rfl (vs:=[_,_,_,_,_,_,_,_,_,_,_,_,_,_,_,_,_,_,_,_]) rfl rfl rfl rfl rfl) (fun ρ ρ' h=>by rfl) ?_
 refine fun ρ=>zag (zpT (T':=[(4,.pointer (some ⟨b4,0,none⟩)),(5,.pointer (some ⟨b5,0,none⟩))]) (H':=[Box b4 (wV ((V.getD ((zaM V e.wall)).toNat default).s) ((V.getD ((zaM V e.wall)).toNat default).a) ((V.getD ((zaM V e.wall)).toNat default).cap)) 134,Box b5 [.string (S.getD ((zaS S ((V.getD ((zaM V e.wall)).toNat default).s.sheet))).toNat default).s.name,.int .i64 ((S.getD ((zaS S ((V.getD ((zaM V e.wall)).toNat default).s.sheet))).toNat default).s.base),.int .i64 ((S.getD ((zaS S ((V.getD ((zaM V e.wall)).toNat default).s.sheet))).toNat default).s.batter),.int .i64 ((S.getD ((zaS S ((V.getD ((zaM V e.wall)).toNat default).s.sheet))).toNat default).s.height),.int .i64 ((S.getD ((zaS S ((V.getD ((zaM V e.wall)).toNat default).s.sheet))).toNat default).s.skin),.slice (S.getD ((zaS S ((V.getD ((zaM V e.wall)).toNat default).s.sheet))).toNat default).a (S.getD ((zaS S ((V.getD ((zaM V e.wall)).toNat default).s.sheet))).toNat default).s.heights.length (S.getD ((zaS S ((V.getD ((zaM V e.wall)).toNat default).s.sheet))).toNat default).cap,.int .i64 ((S.getD ((zaS S ((V.getD ((zaM V e.wall)).toNat default).s.sheet))).toNat default).s.least),.int .i64 ((S.getD ((zaS S ((V.getD ((zaM V e.wall)).toNat default).s.sheet))).toNat default).s.lap),.int .i64 ((S.getD ((zaS S ((V.getD ((zaM V e.wall)).toNat default).s.sheet))).toNat default).s.run),.int .i64 ((S.getD ((zaS S ((V.getD ((zaM V e.wall)).toNat default).s.sheet))).toNat default).s.every),.int .i64 ((S.getD ((zaS S ((V.getD ((zaM V e.wall)).toNat default).s.sheet))).toNat default).s.at_),.int .i64 ((S.getD ((zaS S ((V.getD ((zaM V e.wall)).toNat default).s.sheet))).toNat default).s.footing),.int .i64 ((S.getD ((zaS S ((V.getD ((zaM V e.wall)).toNat default).s.sheet))).toNat default).s.spread),.int .u8 (S.getD ((zaS S ((V.getD ((zaM V e.wall)).toNat default).s.sheet))).toNat default).s.cope,.int .i64 ((S.getD ((zaS S ((V.getD ((zaM V e.wall)).toNat default).s.sheet))).toNat default).s.tall),.int .i64 ((S.getD ((zaS S ((V.getD ((zaM V e.wall)).toNat default).s.sheet))).toNat default).s.short),.int .i64 ((S.getD ((zaS S ((V.getD ((zaM V e.wall)).toNat default).s.sheet))).toNat default).s.thick),.int .i64 ((S.getD ((zaS S ((V.getD ((zaM V e.wall)).toNat default).s.sheet))).toNat default).s.low),.int .i64 ((S.getD ((zaS S ((V.getD ((zaM V e.wall)).toNat default).s.sheet))).toNat default).s.high),.int .i64 ((S.getD ((zaS S ((V.getD ((zaM V e.wall)).toNat default).s.sheet))).toNat default).s.rood)] 135,Box b6 (wV ((V.getD ((zaM V e.wall)).toNat default).s) ((V.getD ((zaM V e.wall)).toNat default).a) ((V.getD ((zaM V e.wall)).toNat default).cap)) 134,Box b3 [.int .i64 e.a,.int .i64 e.b,.string e.wall,.int .i64 e.gA,.int .i64 e.gB,.bool e.shut] 100,Box b2 [.slice a S.length cap,.slice b V.length bcap] 25]) ⟨rfl,rfl,trivial⟩ rfl ?_)
 refine zaw ?_
 refine zay (zc2 rfl (zbU (i:=0) (vs:=[_,_,_,_]) zAk rfl rfl rfl rfl) (zbU (i:=1) (vs:=[.string (S.getD ((zaS S ((V.getD ((zaM V e.wall)).toNat default).s.sheet))).toNat default).s.name,.int .i64 ((S.getD ((zaS S ((V.getD ((zaM V e.wall)).toNat default).s.sheet))).toNat default).s.base),.int .i64 ((S.getD ((zaS S ((V.getD ((zaM V e.wall)).toNat default).s.sheet))).toNat default).s.batter),.int .i64 ((S.getD ((zaS S ((V.getD ((zaM V e.wall)).toNat default).s.sheet))).toNat default).s.height),.int .i64 ((S.getD ((zaS S ((V.getD ((zaM V e.wall)).toNat default).s.sheet))).toNat default).s.skin),.slice (S.getD ((zaS S ((V.getD ((zaM V e.wall)).toNat default).s.sheet))).toNat default).a (S.getD ((zaS S ((V.getD ((zaM V e.wall)).toNat default).s.sheet))).toNat default).s.heights.length (S.getD ((zaS S ((V.getD ((zaM V e.wall)).toNat default).s.sheet))).toNat default).cap,.int .i64 ((S.getD ((zaS S ((V.getD ((zaM V e.wall)).toNat default).s.sheet))).toNat default).s.least),.int .i64 ((S.getD ((zaS S ((V.getD ((zaM V e.wall)).toNat default).s.sheet))).toNat default).s.lap),.int .i64 ((S.getD ((zaS S ((V.getD ((zaM V e.wall)).toNat default).s.sheet))).toNat default).s.run),.int .i64 ((S.getD ((zaS S ((V.getD ((zaM V e.wall)).toNat default).s.sheet))).toNat default).s.every),.int .i64 ((S.getD ((zaS S ((V.getD ((zaM V e.wall)).toNat default).s.sheet))).toNat default).s.at_),.int .i64 ((S.getD ((zaS S ((V.getD ((zaM V e.wall)).toNat default).s.sheet))).toNat default).s.footing),.int .i64 ((S.getD ((zaS S ((V.getD ((zaM V e.wall)).toNat default).s.sheet))).toNat default).s.spread),.int .u8 (S.getD ((zaS S ((V.getD ((zaM V e.wall)).toNat default).s.sheet))).toNat default).s.cope,.int .i64 ((S.getD ((zaS S ((V.getD ((zaM V e.wall)).toNat default).s.sheet))).toNat default).s.tall),.int .i64 ((S.getD ((zaS S ((V.getD ((zaM V e.wall)).toNat default).s.sheet))).toNat default).s.short),.int .i64 ((S.getD ((zaS S ((V.getD ((zaM V e.wall)).toNat default).s.sheet))).toNat default).s.thick),.int .i64 ((S.getD ((zaS S ((V.getD ((zaM V e.wall)).toNat default).s.sheet))).toNat default).s.low),.int .i64 ((S.getD ((zaS S ((V.getD ((zaM V e.wall)).toNat default).s.sheet))).toNat default).s.high),.int .i64 ((S.getD ((zaS S ((V.getD ((zaM V e.wall)).toNat default).s.sheet))).toNat default).s.rood)]) zzu rfl rfl rfl rfl)) ?_
 rw [e1,e2]
theorem zFz (a:Option Addr) (cap:Nat) (S:List ShC) (b:Option Addr) (bcap:Nat) (V:List WlC) (ca:Option Addr) (ccap:Nat) (cs:List ByteArray) (ba:Option Addr) (bcp:Nat) (bs:List Bdr) (x:Anm) (i:Int) (back:Bool) (way:Int) (w:World) (hl:Has w (zaW a 20 zbH S)) (hs:zaP S.length) (hcS:S.length≤cap) (hlw:Has w (zaW b 4 zbS V)) (hsw:zaP V.length) (hsh:∀ z∈S,Has w (Ints z.a z.s.heights)) (hss:∀ z∈S,zaP z.s.heights.length) (hwo:∀ z∈V,Has w (zaW z.a 5 zba z.s.opens)) (hsv:∀ z∈V,zaP z.s.opens.length) (hcp:∀ z∈V,z.s.opens.length≤z.cap) (hkn:∀ z∈V,∀ o∈z.s.opens,Knd o) (_hc:Has w (zaW ca 1 encS cs)) (_hcs:zaP cs.length) (_hcap:cs.length≤ccap) (hbd:Has w (zaW ba 6 zyr bs)) (_hbs:zaP bs.length) (hok:(zym S V cs bs x)=true) (i0:0≤i) (i1:i < bs.length) :
  Calls Tryz.prog 53 #[.agg #[.slice a S.length cap,.slice b V.length bcap],.agg #[.slice ca cs.length ccap,.slice ba bs.length bcp],.agg #[.int .i64 x.wide,.int .i64 x.high,.int .i64 x.step,.int .i64 x.leap,.int .i64 x.reach],.int .i64 i,.bool back,.int .i64 way] w (Pure (.tuple #[.int .i64 (mayB S V x (bs.getD i.toNat default) back way).1,.bool (mayB S V x (bs.getD i.toNat default) back way).2]) w):=by
 obtain⟨_,_,hbn,_,_,hbo⟩:=zzD hok
 have hbrd:=hbo i.toNat (by omega)
 have hf:=(zzq hbrd).1
 obtain⟨hG1,hG2⟩:=zBh hbrd
 have hnums:=hG1.nums
 have hgg1:=hG1.g
 have hgg2:=hG2.g
 have hwo1:=zfL (S:=S) (V:=V) (n:=(bs.getD i.toNat default).wall) hwo
 have hss1:=zhG (S:=S) (V:=V) (n:=(bs.getD i.toNat default).wall) hsh
 obtain⟨hsvw,hsss⟩:=zxT (n:=(bs.getD i.toNat default).wall) hsv hss
 have hon:=hG1.wf.num
 refine zan (vs:=[_,_,_,_,_,_]) Tryz.func53 rfl rfl (bL rfl) (gS (zaG rfl rfl (za3 (vs:=[_,_]) rfl rfl) fun b6=>(zaG rfl rfl (za3 (vs:=[_,_]) rfl rfl) fun b7=>(zaG rfl rfl (za3 (vs:=[_,_,_,_,_]) rfl rfl) fun b8=>(gA rfl (gA rfl (gN [3,4,5,6,7,8,12,13] rfl (gS (gQ (zab zzL rfl) (gQ (zah 1 tf27 rfl rfl rfl) (gM rfl (gQ (zaE se27 rfl rfl (fun _=>rH hbd)) (gQ (zbv (vs:=[_,_,_,_,_,_]) zAU rfl (fun _=>rH hbd) (by omega) (by omega) rfl) (zaG rfl rfl (zaL zAU (zs:=[_,_,_,_,_,_]) rfl) fun b14=>(zaA 0 zAU rfl rfl (vs:=[_,_,_,_,_,_]) rfl rfl rfl rfl rfl (gN [4,5,6,8,12,13,14] rfl (gS (gQ (zat 3 tf25 rfl rfl (vs:=[_,_]) rfl rfl) (gQ (zat 0 zAU rfl rfl (vs:=[_,_,_,_,_,_]) rfl rfl) (gQ (zaJ en52 rfl (fun w hw=>zEe _ _ S _ _ V (bs.getD i.toNat default) w (rH hl hw) hs hcS (rH hlw hw) hsw (fun z hz=>(rH (hsh z hz) hw)) hss (fun z hz=>(rH (hwo z hz) hw)) hsv hcp hkn hf)) (gM rfl (gQ (zaB rfl rfl) (gQ (zaB rfl rfl) (zaG rfl rfl (zaL zAk (zs:=[_,_,_,_]) rfl) fun b15=>(zaG rfl rfl (zaL zzu (zs:=[_,_,_,_,_,_,_,_,_,_,_,_,_,_,_,_,_,_,_,_]) rfl) fun b16=>?_)))))))))))))))))))))))))
 refine zaA 1 zAk rfl rfl (vs:=[_,_,_,_]) rfl rfl rfl rfl rfl (zbz 0 zzu rfl rfl (vs:=[_,_,_,_,_,_,_,_,_,_,_,_,_,_,_,_,_,_,_,_]) rfl rfl rfl rfl rfl (gN [4,5,8,12,13,14,15,16] rfl (zac (gZ 6 (ph_y (zab zCd rfl) (ph_y (zah 2 tf3 rfl rfl rfl) (ph_y (zab zCe rfl) (ph_y (zah 2 tf3 rfl rfl rfl) (ph_y (zad rfl) (ph_y (zad rfl) (gN [4,5,8,12,13,14,15,16,17,18] rfl (zac (gS (gM rfl (gN [5,8,12,13,14,15,16,17,18,38] rfl (zap rfl (fun hc38=>?_) (fun hc38=>?_)))))))))))))))))
 ·have hg:gOf (bs.getD i.toNat default) back=(bs.getD i.toNat default).gB:=by unfold gOf; rw [if_pos hc38]
  have hh:hOf (bs.getD i.toNat default) back=(bs.getD i.toNat default).gA:=by unfold hOf; rw [if_pos hc38]
  refine zaa (gM rfl (gM rfl (gA rfl (gA rfl (gN [5,8,12,13,14,15,16,17,18] rfl (zac (gS (gM rfl (gQ (zbL rfl rfl) (gN [5,8,12,13,14,15,16,17,18,42] rfl (zap rfl (fun hc42=>?_) (fun hc42=>?_))))))))))))
  ·have k1:way = -1:=oT hc42
   have hm:(mayB S V x (bs.getD i.toNat default) back way)=_:=zFv k1
   refine gS (gQ (zab zyH rfl) (gQ (zah 0 tf3 rfl rfl rfl) (gQ (zab zzZ rfl) (gQ (zah 0 tf3 rfl rfl rfl) (gQ (zaY rfl rfl) (gM rfl (gQ (zfV rfl rfl) (gA rfl (gN [5,8,12,13,14,15,16,17,18,19] rfl (zac (gZ 18 (ph_y (zaf rfl) (ph_y (zws rfl rfl) (ph_y (zaY rfl rfl) (ph_y (zaf rfl) (ph_y (zab zA6 rfl) (ph_y (zah 3 tf3 rfl rfl rfl) (ph_y (zeT rfl rfl) (ph_y (zaf rfl) (zaH rfl rfl (fun jj=>by(try rw [jj]); exact zat 0 zzu rfl rfl (vs:=[_,_,_,_,_,_,_,_,_,_,_,_,_,_,_,_,_,_,_,_]) rfl rfl) (zaH rfl rfl (fun jj=>by(try rw [jj]); exact zab zyH rfl) (zaH rfl rfl (fun jj=>by(try rw [jj]); exact zah 0 tf3 rfl rfl rfl) (zaH rfl rfl (fun jj=>by(try rw [jj]); exact zaJ (v:=.int .i64 (zy8 (zar S V (bs.getD i.toNat default).wall).s ((zar S V (bs.getD i.toNat default).wall).s.height))) en88 rfl (fun w hw=>zAw _ _ (zar S V (bs.getD i.toNat default).wall).s ((zar S V (bs.getD i.toNat default).wall).s.height) w hG1.sp (by omega) (by omega))) (zaH rfl rfl (fun jj=>by(try rw [jj]); exact zab zA7 rfl) (zaH rfl rfl (fun jj=>by(try rw [jj]); exact zah 3 tf3 rfl rfl rfl) (zaH rfl rfl (fun jj=>by(try rw [jj]); exact zeT rfl rfl) (ph_y (zaX rfl rfl rfl) (ph_y (zad rfl) ?_))))))))))))))))))))))))))))
   refine ph_y (zad rfl) (gN [5,8,12,13,14,15,16,17,18] rfl (zaw (zay (zc2 rfl (zau rfl) (zau rfl)) ?_)))
   rw [hm,hg] <;> rfl
  ·have k1:¬ way = -1:=oD hc42
   refine zaq (zac (zac (gZ 9 (ph_y (zaf rfl) (ph_y (zbw rfl rfl) (ph_y (zaf rfl) (zaz rfl rfl (fun jj=>by(try rw [jj]); exact zaf rfl) (zaz rfl rfl (fun jj=>by(try rw [jj]); exact zab zyN rfl) (zaz rfl rfl (fun jj=>by(try rw [jj]); exact zah 1 zAj rfl rfl rfl) (zaz rfl rfl (fun jj=>by(try rw [jj]); exact zaV (Tryz.underlying132) rfl) (zaz rfl rfl (fun jj=>by(try rw [jj]); exact zfx rfl rfl) (ph_y (zaR rfl rfl rfl) (gN [5,8,12,13,14,15,16,17,18,74] rfl (zap rfl (fun hc74=>?_) (fun hc74=>?_)))))))))))))))
   ·have k2:way < 0∨((zaN S V (bs.getD i.toNat default).wall).s.opens.length:Int)≤way:=by simpa using hc74
    have hm:(mayB S V x (bs.getD i.toNat default) back way)=_:=zCv k1 k2
    refine gS (gA rfl (gA rfl (gN [5,8,12,13,14,15,16,17,18] rfl (zaw (zay (zc2 rfl (zau rfl) (zau rfl)) ?_)))))
    rw [hm]
   ·have k2:¬ (way < 0∨((zaN S V (bs.getD i.toNat default).wall).s.opens.length:Int)≤way):=by simpa using hc74
    have hfit:=hG1.wf.fit ((zaN S V (bs.getD i.toNat default).wall).s.opens.getD way.toNat default) (za0 (by omega))
    have q1:=hfit.f; have q2:=hfit.h; have q3:=hfit.w
    refine zaq (gS (gQ (zab zyN rfl) (gQ (zah 1 zAj rfl rfl rfl) (gM rfl (gQ (zaE zEf rfl rfl (fun _=>rH hwo1)) (gQ (zbv (vs:=[_,_,_,_,_]) zzW rfl (fun _=>rH hwo1) (by omega) (by omega) rfl) (zaG rfl rfl (zaL zzW (zs:=[_,_,_,_,_]) rfl) fun b20=>(zaA 0 zzW rfl rfl (vs:=[_,_,_,_,_]) rfl rfl rfl rfl rfl (gN [8,12,13,14,16,17,18,20] rfl (gS (gQ (zab zyC rfl) (gQ (zah 0 tf3 rfl rfl rfl) (gM rfl (gQ (zfV rfl rfl) (gA rfl (gN [8,12,13,14,16,17,18,20,21] rfl (zac (gS (gQ (zab zeo rfl) (gQ (zah 4 tf3 rfl rfl rfl) (gQ (zab zzQ rfl) (gQ (zah 0 tf3 rfl rfl rfl) (gQ (zc6 rfl rfl) (gN [8,12,13,14,16,17,18,20,21,88] rfl (zap rfl (fun hc88=>?_) (fun hc88=>?_))))))))))))))))))))))))))
    ·have k3:((zaN S V (bs.getD i.toNat default).wall).s.opens.getD way.toNat default).width < x.wide:=oT hc88
     have hm:(mayB S V x (bs.getD i.toNat default) back way)=_:=zCX k1 k2 k3
     refine gS (gA rfl (gA rfl (gN [8,12,13,14,16,17,18,20,21] rfl (zaw (zay (zc2 rfl (zau rfl) (zau rfl)) ?_)))))
     rw [hm]
    ·have k3:¬ ((zaN S V (bs.getD i.toNat default).wall).s.opens.getD way.toNat default).width < x.wide:=oD hc88
     refine zaq (zac (gS (gQ (zab zzr rfl) (gQ (zah 0 tf5 rfl rfl rfl) (gQ (zbL rfl rfl) (gN [8,12,13,14,16,17,18,20,21,91] rfl (zap rfl (fun hc91=>?_) (fun hc91=>?_))))))))
     ·have k4:((zaN S V (bs.getD i.toNat default).wall).s.opens.getD way.toNat default).kind=4:=oT hc91
      have hm:(mayB S V x (bs.getD i.toNat default) back way)=_:=zCW k1 k2 k3 k4
      refine zac (gZ 5 (ph_y (zab zCf rfl) (ph_y (zah 3 tf4 rfl rfl rfl) (ph_y (zbR rfl) (ph_y (zad rfl) (ph_y (zad rfl) (gN [8,12,13,16,17,18,20,21] rfl (zaw (zay (zc2 rfl (zau rfl) (zau rfl)) ?_)))))))))
      rw [hm]
     ·have k4:¬ ((zaN S V (bs.getD i.toNat default).wall).s.opens.getD way.toNat default).kind=4:=oD hc91
      refine zaq (zac (gS (gQ (zab zzr rfl) (gQ (zah 0 tf5 rfl rfl rfl) (gQ (zbL rfl rfl) (gN [8,12,13,16,17,18,20,21,97] rfl (zap rfl (fun hc97=>?_) (fun hc97=>?_))))))))
      ·have k5:((zaN S V (bs.getD i.toNat default).wall).s.opens.getD way.toNat default).kind=3:=oT hc97
       have hm:(mayB S V x (bs.getD i.toNat default) back way)=_:=zBR k1 k2 k3 k4 k5
       refine zac (gZ 18 (ph_y (zaf rfl) (ph_y (zws rfl rfl) (ph_y (zaY rfl rfl) (ph_y (zaf rfl) (ph_y (zab zA6 rfl) (ph_y (zah 4 tf3 rfl rfl rfl) (ph_y (zeT rfl rfl) (ph_y (zaf rfl) (zaH rfl rfl (fun jj=>by(try rw [jj]); exact zat 1 zzu rfl rfl (vs:=[_,_,_,_,_,_,_,_,_,_,_,_,_,_,_,_,_,_,_,_]) rfl rfl) (zaH rfl rfl (fun jj=>by(try rw [jj]); exact zab zyC rfl) (zaH rfl rfl (fun jj=>by(try rw [jj]); exact zah 0 tf3 rfl rfl rfl) (zaH rfl rfl (fun jj=>by(try rw [jj]); exact zaJ (v:=.int .i64 (zy8 (zar S V (bs.getD i.toNat default).wall).s (((zaN S V (bs.getD i.toNat default).wall).s.opens.getD (way).toNat default).frm))) en88 rfl (fun w hw=>zAw _ _ (zar S V (bs.getD i.toNat default).wall).s (((zaN S V (bs.getD i.toNat default).wall).s.opens.getD (way).toNat default).frm) w hG1.sp (by omega) (by omega))) (zaH rfl rfl (fun jj=>by(try rw [jj]); exact zab zA7 rfl) (zaH rfl rfl (fun jj=>by(try rw [jj]); exact zah 4 tf3 rfl rfl rfl) (zaH rfl rfl (fun jj=>by(try rw [jj]); exact zeT rfl rfl) (ph_y (zaX rfl rfl rfl) (ph_y (zad rfl) (ph_y (zad rfl) (gN [8,12,13,17,18,20,21] rfl (zaw (zay (zc2 rfl (zau rfl) (zau rfl)) ?_))))))))))))))))))))))
       rw [hm,hg]
      ·have k5:¬ ((zaN S V (bs.getD i.toNat default).wall).s.opens.getD way.toNat default).kind=3:=oD hc97
       have hm:(mayB S V x (bs.getD i.toNat default) back way)=_:=zCV k1 k2 k3 k4 k5
       refine zaq (gS (gQ (zab zyC rfl) (gQ (zah 0 tf3 rfl rfl rfl) (gM rfl (gM rfl (gQ (zws rfl rfl) (gQ (zws rfl rfl) (gA rfl (gN [8,12,13,20,21,22] rfl (zac (gZ 21 (ph_y (zaf rfl) (ph_y (zws rfl rfl) (ph_y (zaY rfl rfl) (ph_y (zaf rfl) (ph_y (zab zCQ rfl) (ph_y (zah 4 tf3 rfl rfl rfl) (ph_y (zeT rfl rfl) (ph_y (zaf rfl) (zaH rfl rfl (fun jj=>by(try rw [jj]); exact zab zyC rfl) (zaH rfl rfl (fun jj=>by(try rw [jj]); exact zah 0 tf3 rfl rfl rfl) (zaH rfl rfl (fun jj=>by(try rw [jj]); exact zab zzs rfl) (zaH rfl rfl (fun jj=>by(try rw [jj]); exact zah 0 tf3 rfl rfl rfl) (zaH rfl rfl (fun jj=>by(try rw [jj]); exact zaY rfl rfl) (zaH rfl rfl (fun jj=>by(try rw [jj]); exact zaf rfl) (zaH rfl rfl (fun jj=>by(try rw [jj]); exact zfV rfl rfl) (zaH rfl rfl (fun jj=>by(try rw [jj]); exact zab zd7 rfl) (zaH rfl rfl (fun jj=>by(try rw [jj]); exact zah 4 tf3 rfl rfl rfl) (zaH rfl rfl (fun jj=>by(try rw [jj]); exact zfx rfl rfl) (ph_y (zaX rfl rfl rfl) (ph_y (zad rfl) (ph_y (zad rfl) (gN [12,13] rfl (zaw (zay (zc2 rfl (zau rfl) (zau rfl)) ?_)))))))))))))))))))))))))))))))))))
       rw [hm,hg,hh]
 ·have hg:gOf (bs.getD i.toNat default) back=(bs.getD i.toNat default).gA:=by unfold gOf; rw [if_neg (by rw [hc38]; exact fT)]
  have hh:hOf (bs.getD i.toNat default) back=(bs.getD i.toNat default).gB:=by unfold hOf; rw [if_neg (by rw [hc38]; exact fT)]
  refine zaq (zac (gS (gM rfl (gQ (zbL rfl rfl) (gN [5,8,12,13,14,15,16,17,18,42] rfl (zap rfl (fun hc42=>?_) (fun hc42=>?_)))))))
  ·have k1:way = -1:=oT hc42
   have hm:(mayB S V x (bs.getD i.toNat default) back way)=_:=zFv k1
   refine gS (gQ (zab zyH rfl) (gQ (zah 0 tf3 rfl rfl rfl) (gQ (zab zzZ rfl) (gQ (zah 0 tf3 rfl rfl rfl) (gQ (zaY rfl rfl) (gM rfl (gQ (zfV rfl rfl) (gA rfl (gN [5,8,12,13,14,15,16,17,18,19] rfl (zac (gZ 18 (ph_y (zaf rfl) (ph_y (zws rfl rfl) (ph_y (zaY rfl rfl) (ph_y (zaf rfl) (ph_y (zab zA6 rfl) (ph_y (zah 3 tf3 rfl rfl rfl) (ph_y (zeT rfl rfl) (ph_y (zaf rfl) (zaH rfl rfl (fun jj=>by(try rw [jj]); exact zat 0 zzu rfl rfl (vs:=[_,_,_,_,_,_,_,_,_,_,_,_,_,_,_,_,_,_,_,_]) rfl rfl) (zaH rfl rfl (fun jj=>by(try rw [jj]); exact zab zyH rfl) (zaH rfl rfl (fun jj=>by(try rw [jj]); exact zah 0 tf3 rfl rfl rfl) (zaH rfl rfl (fun jj=>by(try rw [jj]); exact zaJ (v:=.int .i64 (zy8 (zar S V (bs.getD i.toNat default).wall).s ((zar S V (bs.getD i.toNat default).wall).s.height))) en88 rfl (fun w hw=>zAw _ _ (zar S V (bs.getD i.toNat default).wall).s ((zar S V (bs.getD i.toNat default).wall).s.height) w hG1.sp (by omega) (by omega))) (zaH rfl rfl (fun jj=>by(try rw [jj]); exact zab zA7 rfl) (zaH rfl rfl (fun jj=>by(try rw [jj]); exact zah 3 tf3 rfl rfl rfl) (zaH rfl rfl (fun jj=>by(try rw [jj]); exact zeT rfl rfl) (ph_y (zaX rfl rfl rfl) (ph_y (zad rfl) ?_))))))))))))))))))))))))))))
   refine ph_y (zad rfl) (gN [5,8,12,13,14,15,16,17,18] rfl (zaw (zay (zc2 rfl (zau rfl) (zau rfl)) ?_)))
   rw [hm,hg] <;> rfl
  ·have k1:¬ way = -1:=oD hc42
   refine zaq (zac (zac (gZ 9 (ph_y (zaf rfl) (ph_y (zbw rfl rfl) (ph_y (zaf rfl) (zaz rfl rfl (fun jj=>by(try rw [jj]); exact zaf rfl) (zaz rfl rfl (fun jj=>by(try rw [jj]); exact zab zyN rfl) (zaz rfl rfl (fun jj=>by(try rw [jj]); exact zah 1 zAj rfl rfl rfl) (zaz rfl rfl (fun jj=>by(try rw [jj]); exact zaV (Tryz.underlying132) rfl) (zaz rfl rfl (fun jj=>by(try rw [jj]); exact zfx rfl rfl) (ph_y (zaR rfl rfl rfl) (gN [5,8,12,13,14,15,16,17,18,74] rfl (zap rfl (fun hc74=>?_) (fun hc74=>?_)))))))))))))))
   ·have k2:way < 0∨((zaN S V (bs.getD i.toNat default).wall).s.opens.length:Int)≤way:=by simpa using hc74
    have hm:(mayB S V x (bs.getD i.toNat default) back way)=_:=zCv k1 k2
    refine gS (gA rfl (gA rfl (gN [5,8,12,13,14,15,16,17,18] rfl (zaw (zay (zc2 rfl (zau rfl) (zau rfl)) ?_)))))
    rw [hm]
   ·have k2:¬ (way < 0∨((zaN S V (bs.getD i.toNat default).wall).s.opens.length:Int)≤way):=by simpa using hc74
    have hfit:=hG1.wf.fit ((zaN S V (bs.getD i.toNat default).wall).s.opens.getD way.toNat default) (za0 (by omega))
    have q1:=hfit.f; have q2:=hfit.h; have q3:=hfit.w
    refine zaq (gS (gQ (zab zyN rfl) (gQ (zah 1 zAj rfl rfl rfl) (gM rfl (gQ (zaE zEf rfl rfl (fun _=>rH hwo1)) (gQ (zbv (vs:=[_,_,_,_,_]) zzW rfl (fun _=>rH hwo1) (by omega) (by omega) rfl) (zaG rfl rfl (zaL zzW (zs:=[_,_,_,_,_]) rfl) fun b20=>(zaA 0 zzW rfl rfl (vs:=[_,_,_,_,_]) rfl rfl rfl rfl rfl (gN [8,12,13,14,16,17,18,20] rfl (gS (gQ (zab zyC rfl) (gQ (zah 0 tf3 rfl rfl rfl) (gM rfl (gQ (zfV rfl rfl) (gA rfl (gN [8,12,13,14,16,17,18,20,21] rfl (zac (gS (gQ (zab zeo rfl) (gQ (zah 4 tf3 rfl rfl rfl) (gQ (zab zzQ rfl) (gQ (zah 0 tf3 rfl rfl rfl) (gQ (zc6 rfl rfl) (gN [8,12,13,14,16,17,18,20,21,88] rfl (zap rfl (fun hc88=>?_) (fun hc88=>?_))))))))))))))))))))))))))
    ·have k3:((zaN S V (bs.getD i.toNat default).wall).s.opens.getD way.toNat default).width < x.wide:=oT hc88
     have hm:(mayB S V x (bs.getD i.toNat default) back way)=_:=zCX k1 k2 k3
     refine gS (gA rfl (gA rfl (gN [8,12,13,14,16,17,18,20,21] rfl (zaw (zay (zc2 rfl (zau rfl) (zau rfl)) ?_)))))
     rw [hm]
    ·have k3:¬ ((zaN S V (bs.getD i.toNat default).wall).s.opens.getD way.toNat default).width < x.wide:=oD hc88
     refine zaq (zac (gS (gQ (zab zzr rfl) (gQ (zah 0 tf5 rfl rfl rfl) (gQ (zbL rfl rfl) (gN [8,12,13,14,16,17,18,20,21,91] rfl (zap rfl (fun hc91=>?_) (fun hc91=>?_))))))))
     ·have k4:((zaN S V (bs.getD i.toNat default).wall).s.opens.getD way.toNat default).kind=4:=oT hc91
      have hm:(mayB S V x (bs.getD i.toNat default) back way)=_:=zCW k1 k2 k3 k4
      refine zac (gZ 5 (ph_y (zab zCf rfl) (ph_y (zah 3 tf4 rfl rfl rfl) (ph_y (zbR rfl) (ph_y (zad rfl) (ph_y (zad rfl) (gN [8,12,13,16,17,18,20,21] rfl (zaw (zay (zc2 rfl (zau rfl) (zau rfl)) ?_)))))))))
      rw [hm]
     ·have k4:¬ ((zaN S V (bs.getD i.toNat default).wall).s.opens.getD way.toNat default).kind=4:=oD hc91
      refine zaq (zac (gS (gQ (zab zzr rfl) (gQ (zah 0 tf5 rfl rfl rfl) (gQ (zbL rfl rfl) (gN [8,12,13,16,17,18,20,21,97] rfl (zap rfl (fun hc97=>?_) (fun hc97=>?_))))))))
      ·have k5:((zaN S V (bs.getD i.toNat default).wall).s.opens.getD way.toNat default).kind=3:=oT hc97
       have hm:(mayB S V x (bs.getD i.toNat default) back way)=_:=zBR k1 k2 k3 k4 k5
       refine zac (gZ 18 (ph_y (zaf rfl) (ph_y (zws rfl rfl) (ph_y (zaY rfl rfl) (ph_y (zaf rfl) (ph_y (zab zA6 rfl) (ph_y (zah 4 tf3 rfl rfl rfl) (ph_y (zeT rfl rfl) (ph_y (zaf rfl) (zaH rfl rfl (fun jj=>by(try rw [jj]); exact zat 1 zzu rfl rfl (vs:=[_,_,_,_,_,_,_,_,_,_,_,_,_,_,_,_,_,_,_,_]) rfl rfl) (zaH rfl rfl (fun jj=>by(try rw [jj]); exact zab zyC rfl) (zaH rfl rfl (fun jj=>by(try rw [jj]); exact zah 0 tf3 rfl rfl rfl) (zaH rfl rfl (fun jj=>by(try rw [jj]); exact zaJ (v:=.int .i64 (zy8 (zar S V (bs.getD i.toNat default).wall).s (((zaN S V (bs.getD i.toNat default).wall).s.opens.getD (way).toNat default).frm))) en88 rfl (fun w hw=>zAw _ _ (zar S V (bs.getD i.toNat default).wall).s (((zaN S V (bs.getD i.toNat default).wall).s.opens.getD (way).toNat default).frm) w hG1.sp (by omega) (by omega))) (zaH rfl rfl (fun jj=>by(try rw [jj]); exact zab zA7 rfl) (zaH rfl rfl (fun jj=>by(try rw [jj]); exact zah 4 tf3 rfl rfl rfl) (zaH rfl rfl (fun jj=>by(try rw [jj]); exact zeT rfl rfl) (ph_y (zaX rfl rfl rfl) (ph_y (zad rfl) (ph_y (zad rfl) (gN [8,12,13,17,18,20,21] rfl (zaw (zay (zc2 rfl (zau rfl) (zau rfl)) ?_))))))))))))))))))))))
       rw [hm,hg]
      ·have k5:¬ ((zaN S V (bs.getD i.toNat default).wall).s.opens.getD way.toNat default).kind=3:=oD hc97
       have hm:(mayB S V x (bs.getD i.toNat default) back way)=_:=zCV k1 k2 k3 k4 k5
       refine zaq (gS (gQ (zab zyC rfl) (gQ (zah 0 tf3 rfl rfl rfl) (gM rfl (gM rfl (gQ (zws rfl rfl) (gQ (zws rfl rfl) (gA rfl (gN [8,12,13,20,21,22] rfl (zac (gZ 21 (ph_y (zaf rfl) (ph_y (zws rfl rfl) (ph_y (zaY rfl rfl) (ph_y (zaf rfl) (ph_y (zab zCQ rfl) (ph_y (zah 4 tf3 rfl rfl rfl) (ph_y (zeT rfl rfl) (ph_y (zaf rfl) (zaH rfl rfl (fun jj=>by(try rw [jj]); exact zab zyC rfl) (zaH rfl rfl (fun jj=>by(try rw [jj]); exact zah 0 tf3 rfl rfl rfl) (zaH rfl rfl (fun jj=>by(try rw [jj]); exact zab zzs rfl) (zaH rfl rfl (fun jj=>by(try rw [jj]); exact zah 0 tf3 rfl rfl rfl) (zaH rfl rfl (fun jj=>by(try rw [jj]); exact zaY rfl rfl) (zaH rfl rfl (fun jj=>by(try rw [jj]); exact zaf rfl) (zaH rfl rfl (fun jj=>by(try rw [jj]); exact zfV rfl rfl) (zaH rfl rfl (fun jj=>by(try rw [jj]); exact zab zd7 rfl) (zaH rfl rfl (fun jj=>by(try rw [jj]); exact zah 4 tf3 rfl rfl rfl) (zaH rfl rfl (fun jj=>by(try rw [jj]); exact zfx rfl rfl) (ph_y (zaX rfl rfl rfl) (ph_y (zad rfl) (ph_y (zad rfl) (gN [12,13] rfl (zaw (zay (zc2 rfl (zau rfl) (zau rfl)) ?_)))))))))))))))))))))))))))))))))))
       rw [hm,hg,hh]
end Go.Proofs.YteepmmghanbllaaGreatDoor
namespace Go.Fld
open Go Go.K Go.Stn Go.Pln
section
variable {S:List ShC} {V:List WlC} {cs:List ByteArray} {bs:List Bdr} {x:Anm} {b:Bdr} {i j n:Nat} {s:ByteArray}
theorem zGk (hi:i≤cs.length) (h:∀ j:Nat,j < i→(s.toList == (cs.getD j default).toList)=false):hasS (cs.take i) s=false:=by
 refine Bool.eq_false_iff.2 fun h2=>?_
 obtain⟨z,hz,e⟩:=List.any_eq_true.1 h2
 obtain⟨j,hj,rfl⟩:=List.getElem_of_mem hz
 rw [List.length_take] at hj
 have h3:=h j (by omega)
 rw [gE,eG (by omega)] at h3
 rw [List.getElem_take] at e
 rw [show((some cs[j]).getD default)=cs[j] from rfl,e] at h3
 cases h3
theorem zER (hi:i≤cs.length) (hj:j < i) (e:(s.toList == (cs.getD j default).toList)=true):hasS (cs.take i) s=true:=by
 refine List.any_eq_true.2 ⟨cs.getD j default,?_,e⟩
 rw [gE,eG (by omega)]
 exact List.mem_iff_getElem.2 ⟨j,by rw [List.length_take]; omega,by rw [List.getElem_take]; rfl⟩
theorem zDD (h:(!zdY (cs.getD i default))=true):zy0 cs i=false:=by
 unfold zy0
 rw [znv,show zdY (cs.getD i default)=false from by simpa using h]; rfl
theorem zDE (hi:i≤cs.length) (hj:j < i) (e:((cs.getD i default).toList == (cs.getD j default).toList)=true):zy0 cs i=false:=by
 unfold zy0
 rw [zER hi hj e,Bool.not_true,Bool.and_false]
theorem zDF (hi:i≤cs.length) (h:(!zdY (cs.getD i default))=false) (h2:∀ j:Nat,j < i→((cs.getD i default).toList == (cs.getD j default).toList)=false):zy0 cs i=true:=by
 unfold zy0
 rw [znv,show zdY (cs.getD i default)=true from by simpa using h,zGk hi h2]; rfl
theorem zCF {i:Int}:inZ i 0 ((n:Int) - 1)=zBG n i:=by
 unfold zBG inZ
 congr 1
 exact decide_eq_decide.2 (by omega)
theorem zDx (hP:zc4 S V=true):((((((!zBG n b.a)||!zBG n b.b)||decide (b.a=b.b))||decide (zaM V b.wall < 0))||!inZ b.gA (-3000) 3000)||!inZ b.gB (-3000) 3000) = !zzp S V n b:=by
 have hf:decide (zb6 S V b.wall=0) = !decide (zaM V b.wall < 0):=by
  unfold zb6
  rw [if_pos hP]
  by_cases h:0≤zaM V b.wall
  ·rw [if_pos h,decide_eq_true rfl,decide_eq_false (by omega)]; rfl
  ·rw [if_neg h,decide_eq_false (by decide),decide_eq_true (by omega)]; rfl
 unfold zzp
 rw [hf,zCF,zCF]
 cases zBG n b.a <;> cases zBG n b.b <;> cases decide (b.a=b.b) <;> cases decide (zaM V b.wall < 0) <;> cases inZ b.gA (-3000) 3000 <;> cases inZ b.gB (-3000) 3000 <;> rfl
theorem zDq:(((((!inZ x.wide 0 10000)||!inZ x.high 0 10000)||!inZ x.step 0 10000)||!inZ x.leap 0 10000)||!inZ x.reach 0 10000) = !zBE x:=by
 unfold zBE zC8
 simp only [List.any_cons,List.any_nil,Bool.or_false,Bool.not_not,Bool.or_assoc]
theorem zGA (h:(((!zc4 S V)||!inZ (cs.length:Int) 1 40)||decide (80 < (bs.length:Int)))=true):zym S V cs bs x=false:=by
 refine zzd ?_
 unfold zy1
 revert h
 cases zc4 S V <;> cases inZ (cs.length:Int) 1 40 <;> cases decide (80 < (bs.length:Int)) <;> simp
theorem zGB (h:(((((!inZ x.wide 0 10000)||!inZ x.high 0 10000)||!inZ x.step 0 10000)||!inZ x.leap 0 10000)||!inZ x.reach 0 10000)=true):zym S V cs bs x=false:=by
 refine zzd ?_
 rw [zDq] at h
 unfold zy1
 rw [show zBE x=false from by simpa using h,Bool.and_false]
theorem zE6 (h:(((!zc4 S V)||!inZ (cs.length:Int) 1 40)||decide (80 < (bs.length:Int)))=false) (h2:(((((!inZ x.wide 0 10000)||!inZ x.high 0 10000)||!inZ x.step 0 10000)||!inZ x.leap 0 10000)||!inZ x.reach 0 10000)=false):zy1 S V cs bs x=true∧zc4 S V=true:=by
 rw [zDq] at h2
 unfold zy1
 rw [show zBE x=true from by simpa using h2]
 revert h
 cases zc4 S V <;> cases inZ (cs.length:Int) 1 40 <;> cases decide (80 < (bs.length:Int)) <;> simp
end
end Go.Fld
namespace Go.Proofs.YteepmmghanbllaaGreatDoor
open Go.K Go.Stn Go.Pln Go.Fld Go.RowKit
theorem tf29:TF Tryz.prog 29 true 2 (.agg #[.slice none 0 0,.slice none 0 0]):=tK
theorem tf31:TF Tryz.prog 31 true 5 (.agg #[.int .i64 0,.int .i64 0,.int .i64 0,.int .i64 0,.int .i64 0]):=tK
theorem zCa:FO Tryz.prog 100 0 0:=fK
theorem zCb:FO Tryz.prog 100 1 1:=fK
theorem en20:En Tryz.prog 20:=eK Tryz.func20
theorem en53:En Tryz.prog 53:=eK Tryz.func53
theorem en83:En Tryz.prog 83:=eK Tryz.func83
theorem en84:En Tryz.prog 84:=eK Tryz.func84
theorem zFg {l:List Opn} {n:Int} (h0:0≤n) (h:n=(l.length:Int)):wayN l n.toNat = -1:=if_pos (by omega)
theorem zGK {l:List Opn} {n:Int} (h0:0≤n) (h:¬ n=(l.length:Int)):wayN l n.toNat=n:=(if_neg (by omega)).trans (by omega)
theorem zEb (a:Option Addr) (cap:Nat) (S:List ShC) (b:Option Addr) (bcap:Nat) (V:List WlC) (ca:Option Addr) (ccap:Nat) (cs:List ByteArray) (ba:Option Addr) (bcp:Nat) (bs:List Bdr) (x:Anm) (i:Int) (back:Bool) (w:World) (hl:Has w (zaW a 20 zbH S)) (hs:zaP S.length) (hcS:S.length≤cap) (hlw:Has w (zaW b 4 zbS V)) (hsw:zaP V.length) (hsh:∀ z∈S,Has w (Ints z.a z.s.heights)) (hss:∀ z∈S,zaP z.s.heights.length) (hwo:∀ z∈V,Has w (zaW z.a 5 zba z.s.opens)) (hsv:∀ z∈V,zaP z.s.opens.length) (hcp:∀ z∈V,z.s.opens.length≤z.cap) (hkn:∀ z∈V,∀ o∈z.s.opens,Knd o) (hc:Has w (zaW ca 1 encS cs)) (hcs:zaP cs.length) (hcap:cs.length≤ccap) (hbd:Has w (zaW ba 6 zyr bs)) (hbs:zaP bs.length) (hok:(zym S V cs bs x)=true) (i0:0≤i) (i1:i < bs.length) :
  Calls Tryz.prog 26 #[.agg #[.slice a S.length cap,.slice b V.length bcap],.agg #[.slice ca cs.length ccap,.slice ba bs.length bcp],.agg #[.int .i64 x.wide,.int .i64 x.high,.int .i64 x.step,.int .i64 x.leap,.int .i64 x.reach],.int .i64 i,.bool back] w (Pure (.tuple #[.int .i64 (acrB S V x (bs.getD i.toNat default) back ((zaN S V (bs.getD i.toNat default).wall).s.opens.length+1)).way,.int .i64 (acrB S V x (bs.getD i.toNat default) back ((zaN S V (bs.getD i.toNat default).wall).s.opens.length+1)).eff,.bool (acrB S V x (bs.getD i.toNat default) back ((zaN S V (bs.getD i.toNat default).wall).s.opens.length+1)).some]) w):=by
 obtain⟨_,_,hbn,_,_,hbo⟩:=zzD hok
 have hbrd:=hbo i.toNat (by omega)
 have hf:=(zzq hbrd).1
 obtain⟨hG1,hG2⟩:=zBh hbrd
 have hnums:=hG1.nums
 have hgg1:=hG1.g
 have hgg2:=hG2.g
 have hwo1:=zfL (S:=S) (V:=V) (n:=(bs.getD i.toNat default).wall) hwo
 have hss1:=zhG (S:=S) (V:=V) (n:=(bs.getD i.toNat default).wall) hsh
 obtain⟨hsvw,hsss⟩:=zxT (n:=(bs.getD i.toNat default).wall) hsv hss
 have hon:=hG1.wf.num
 refine zan (vs:=[_,_,_,_,_]) Tryz.func26 rfl rfl (bL rfl) (gS (zaG rfl rfl (za3 (vs:=[_,_]) rfl rfl) fun b5=>(zaG rfl rfl (za3 (vs:=[_,_]) rfl rfl) fun b6=>(zaG rfl rfl (za3 (vs:=[_,_,_,_,_]) rfl rfl) fun b7=>(gA rfl (gA rfl (gA rfl (gN [3,4,5,6,7,10,11,12] rfl (zac (zCs [] (ch [(10,Nat),(11,Nat)]) 1000 14 [0,0,2,0,14,30,63,127,255,255,0,0,3583,8191] [] rfl (fun _=>mixed) (by kernel_rfl) (zjK _ ⟨inferInstance,inferInstance,trivial⟩) (pY (fun ρ=>zat 2 tf25 rfl rfl (vs:=[_,_]) rfl rfl) (pY (fun ρ=>zab zzL rfl) (pY (fun ρ=>zah 1 tf27 rfl rfl rfl) (pY (fun ρ=>zaf rfl) (pY (fun ρ=>zaE se27 rfl rfl (fun _=>rH hbd)) (pY (fun ρ=>zbv (vs:=[_,_,_,_,_,_]) zAU rfl (fun _=>rH hbd) (by omega) (by omega) rfl) (pY (fun ρ=>zaJ en52 rfl (fun w hw=>zEe _ _ S _ _ V (bs.getD i.toNat default) w (rH hl hw) hs hcS (rH hlw hw) hsw (fun z hz=>(rH (hsh z hz) hw)) hss (fun z hz=>(rH (hwo z hz) hw)) hsv hcp hkn hf)) (pY (fun ρ=>zaf rfl) (pY (fun ρ=>zaB rfl rfl) (pY (fun ρ=>zaB rfl rfl) (zFy (fun ρ=>zaL zAk (zs:=[_,_,_,_]) rfl) (fun ρ ρ' h=>⟨by rfl,by rfl⟩) (zFy (fun ρ=>zaL zzu (zs:=[_,_,_,_,_,_,_,_,_,_,_,_,_,_,_,_,_,_,_,_]) rfl) (fun ρ ρ' h=>⟨by rfl,by rfl⟩) ?_))))))))))))))))))))))
 refine zIb (R:=fun ρ=>Box (ρ 10) [.string ⟨#[]⟩,.string ⟨#[]⟩,.int .i64 0,.slice none 0 0] 134) (A:=fun ρ=>Box (ρ 10) (wV ((zaN S V (bs.getD i.toNat default).wall).s) ((zaN S V (bs.getD i.toNat default).wall).a) ((zaN S V (bs.getD i.toNat default).wall).cap)) 134) 10 rfl rfl (fun _=>rfl) (fun ρ=>zex zAk rfl rfl (vs:=[_,_,_,_]) rfl rfl rfl rfl rfl) (fun ρ ρ' h=>by(first | rfl | (simp only [h 10 rfl]; done) | (simp only [h 10 rfl]; rfl))) (zIb (R:=fun ρ=>Box (ρ 11) [.string ⟨#[]⟩,.int .i64 0,.int .i64 0,.int .i64 0,.int .i64 0,.slice none 0 0,.int .i64 0,.int .i64 0,.int .i64 0,.int .i64 0,.int .i64 0,.int .i64 0,.int .i64 0,.int .u8 0,.int .i64 0,.int .i64 0,.int .i64 0,.int .i64 0,.int .i64 0,.int .i64 0] 135) (A:=fun ρ=>Box (ρ 11) (sV ((zar S V (bs.getD i.toNat default).wall).s) ((zar S V (bs.getD i.toNat default).wall).a) ((zar S V (bs.getD i.toNat default).wall).cap)) 135) 11 rfl rfl (fun _=>rfl) (fun ρ=>zex zzu rfl rfl (vs:=[_,_,_,_,_,_,_,_,_,_,_,_,_,_,_,_,_,_,_,_]) rfl rfl rfl rfl rfl) (fun ρ ρ' h=>by(first | rfl | (simp only [h 11 rfl]; done) | (simp only [h 11 rfl]; rfl))) ?_)
 refine fun ρ=>zag (zf4 (X:=Nat×Nat) (ρ 10,ρ 11) (fun⟨b13,b14⟩=>[(3,.int .i64 i),(4,.bool back),(5,.pointer (some ⟨b5,0,none⟩)),(6,.pointer (some ⟨b6,0,none⟩)),(7,.pointer (some ⟨b7,0,none⟩)),(10,.int .i64 0),(11,.int .i64 0),(12,.bool false),(13,.pointer (some ⟨b13,0,none⟩))]) (fun⟨b13,b14⟩=>[Box b14 (sV ((zar S V (bs.getD i.toNat default).wall).s) ((zar S V (bs.getD i.toNat default).wall).a) ((zar S V (bs.getD i.toNat default).wall).cap)) 135,Box b13 (wV ((zaN S V (bs.getD i.toNat default).wall).s) ((zaN S V (bs.getD i.toNat default).wall).a) ((zaN S V (bs.getD i.toNat default).wall).cap)) 134,Box b7 [.int .i64 x.wide,.int .i64 x.high,.int .i64 x.step,.int .i64 x.leap,.int .i64 x.reach] 31,Box b6 [.slice ca cs.length ccap,.slice ba bs.length bcp] 29,Box b5 [.slice a S.length cap,.slice b V.length bcap] 25]) (sB rfl) rfl ?_)
 rintro ⟨b13,b14⟩
 refine gS (gA rfl (gA rfl (gA rfl (gN [3,4,5,6,7,10,11,12,13,15,16,17] rfl (zac (gS (gA rfl (gN [3,4,5,6,7,10,11,12,13,15,16,17,18] rfl (zas ?_)))))))))
 refine zbf (X:=Int) (fun(n:Int)=>[(3,.int .i64 i),(4,.bool back),(5,.pointer (some ⟨b5,0,none⟩)),(6,.pointer (some ⟨b6,0,none⟩)),(7,.pointer (some ⟨b7,0,none⟩)),(10,.int .i64 0),(11,.int .i64 0),(12,.bool false),(13,.pointer (some ⟨b13,0,none⟩)),(15,.int .i64 (acrB S V x (bs.getD i.toNat default) back n.toNat).way),(16,.int .i64 (acrB S V x (bs.getD i.toNat default) back n.toNat).eff),(17,.bool (acrB S V x (bs.getD i.toNat default) back n.toNat).some),(18,.int .i64 n)]) (fun(n:Int)=>[Box b14 (sV ((zar S V (bs.getD i.toNat default).wall).s) ((zar S V (bs.getD i.toNat default).wall).a) ((zar S V (bs.getD i.toNat default).wall).cap)) 135,Box b13 (wV ((zaN S V (bs.getD i.toNat default).wall).s) ((zaN S V (bs.getD i.toNat default).wall).a) ((zaN S V (bs.getD i.toNat default).wall).cap)) 134,Box b7 [.int .i64 x.wide,.int .i64 x.high,.int .i64 x.step,.int .i64 x.leap,.int .i64 x.reach] 31,Box b6 [.slice ca cs.length ccap,.slice ba bs.length bcp] 29,Box b5 [.slice a S.length cap,.slice b V.length bcap] 25]) (fun(n:Int)=>(0≤n∧n≤((zaN S V (bs.getD i.toNat default).wall).s.opens.length:Int)+1)) (fun(n:Int)=>(((zaN S V (bs.getD i.toNat default).wall).s.opens.length:Int)+1 - n).toNat) 0 (sB rfl) rfl ?_ ?_
 ·exact⟨by omega,by omega⟩
 ·rintro n hI
  obtain⟨n0,n1⟩:=hI
  refine zac (gS (gM rfl (gQ (zab zyN rfl) (gQ (zah 1 zAj rfl rfl rfl) (gQ (zaV (Tryz.underlying132) rfl) (gQ (zeT rfl rfl) (gN [3,4,5,6,7,10,11,12,13,15,16,17,18,36] rfl (zap rfl (fun hc36=>?_) (fun hc36=>?_)))))))))
  ·have hc36:=oT hc36
   have hup:=zGR (S:=S) (V:=V) (x:=x) (b:=(bs.getD i.toNat default)) (back:=back) (n:=n.toNat)
   rw [show n.toNat+1=(n+1).toNat from by omega] at hup
   refine zaq (zac (zas (gS (gM rfl (gA rfl (gN [3,4,5,6,7,10,11,12,13,15,16,17,18,19] rfl (zac (gS (gM rfl (gQ (zab zyN rfl) (gQ (zah 1 zAj rfl rfl rfl) (gQ (zaV (Tryz.underlying132) rfl) (gQ (zbL rfl rfl) (gN [3,4,5,6,7,10,11,12,13,15,16,17,18,19,44] rfl (zap rfl (fun hc44=>?_) (fun hc44=>?_))))))))))))))))
   ·have hwn:=zFg n0 (oT hc44)
    rw [hwn] at hup
    refine zaa (gA rfl (gN [3,4,5,6,7,10,11,12,13,15,16,17,18,19] rfl (gS (gQ (zat 4 tf25 rfl rfl (vs:=[_,_]) rfl rfl) (gQ (zat 3 tf29 rfl rfl (vs:=[_,_]) rfl rfl) (gQ (zat 2 tf31 rfl rfl (vs:=[_,_,_,_,_]) rfl rfl) (gM rfl (gM rfl (gM rfl (gQ (zaJ en53 rfl (fun w hw=>zFz _ _ S _ _ V _ _ cs _ _ bs x i back (-1) w (rH hl hw) hs hcS (rH hlw hw) hsw (fun z hz=>(rH (hsh z hz) hw)) hss (fun z hz=>(rH (hwo z hz) hw)) hsv hcp hkn (rH hc hw) hcs hcap (rH hbd hw) hbs hok i0 i1)) (gM rfl (gQ (zaB rfl rfl) (gQ (zaB rfl rfl) (gA rfl (gA rfl (gN [3,4,5,6,7,10,11,12,13,15,16,17,18,19,20,21] rfl (zac (gZ 10 (ph_y (zaf rfl) (ph_y (zaf rfl) (zaH rfl rfl (fun jj=>by(try rw [jj]); exact zaf rfl) (zaH rfl rfl (fun jj=>by(try rw [jj]); exact zbR rfl) (zaH rfl rfl (fun jj=>by(try rw [jj]); exact zaf rfl) (zc0 rfl rfl (fun jj=>by(try rw [jj]); exact zaf rfl) (zc0 rfl rfl (fun jj=>by(try rw [jj]); exact zaf rfl) (zc0 rfl rfl (fun jj=>by(try rw [jj]); exact zbw rfl rfl) (zaH rfl rfl (fun jj=>by(try rw [jj]); exact zaR rfl rfl rfl) (ph_y (zaX rfl rfl rfl) (gN [3,4,5,6,7,10,11,12,13,15,16,17,18,19,20,64] rfl (zap rfl (fun hc64=>?_) (fun hc64=>?_)))))))))))))))))))))))))))))))
    ·rw [if_pos hc64] at hup
     refine zaa (gM rfl (gM rfl (gA rfl (gA rfl (gA rfl (gN [3,4,5,6,7,10,11,12,13,15,16,17,18] rfl (zae (T':=[(3,_),(4,_),(5,_),(6,_),(7,_),(10,_),(11,_),(12,_),(13,_),(15,.int .i64 (acrB S V x (bs.getD i.toNat default) back (n+1).toNat).way),(16,.int .i64 (acrB S V x (bs.getD i.toNat default) back (n+1).toNat).eff),(17,.bool (acrB S V x (bs.getD i.toNat default) back (n+1).toNat).some),(18,_)]) ⟨rfl,rfl,rfl,rfl,rfl,rfl,rfl,rfl,rfl,(by show some (Value.int .i64 (-1))=_; rw [hup]),(by show some (Value.int .i64 ((mayB S V x (bs.getD i.toNat default) back (-1)).1))=_; rw [hup]),(by show some (Value.bool true)=_; rw [hup]),rfl,trivial⟩ (zaa (gM rfl (gQ (zaY rfl rfl) (gA rfl (gN [3,4,5,6,7,10,11,12,13,15,16,17,18] rfl ?_))))))))))))
     exact za1 (n+1) (sB rfl) rfl ⟨by omega,by omega⟩ (by omega)
    ·rw [if_neg (by rw [hc64]; exact fT)] at hup
     refine zae (T':=[(3,_),(4,_),(5,_),(6,_),(7,_),(10,_),(11,_),(12,_),(13,_),(15,.int .i64 (acrB S V x (bs.getD i.toNat default) back (n+1).toNat).way),(16,.int .i64 (acrB S V x (bs.getD i.toNat default) back (n+1).toNat).eff),(17,.bool (acrB S V x (bs.getD i.toNat default) back (n+1).toNat).some),(18,_),(19,_),(20,_),(64,_)]) ⟨rfl,rfl,rfl,rfl,rfl,rfl,rfl,rfl,rfl,(by show some (Value.int .i64 (acrB S V x (bs.getD i.toNat default) back n.toNat).way)=_; rw [hup]),(by show some (Value.int .i64 (acrB S V x (bs.getD i.toNat default) back n.toNat).eff)=_; rw [hup]),(by show some (Value.bool (acrB S V x (bs.getD i.toNat default) back n.toNat).some)=_; rw [hup]),rfl,rfl,rfl,rfl,trivial⟩ (zaq (zaa (gM rfl (gQ (zaY rfl rfl) (gA rfl (gN [3,4,5,6,7,10,11,12,13,15,16,17,18] rfl ?_))))))
     exact za1 (n+1) (sB rfl) rfl ⟨by omega,by omega⟩ (by omega)
   ·have hwn:=zGK n0 (oD hc44)
    rw [hwn] at hup
    refine zaq (gS (gQ (zat 4 tf25 rfl rfl (vs:=[_,_]) rfl rfl) (gQ (zat 3 tf29 rfl rfl (vs:=[_,_]) rfl rfl) (gQ (zat 2 tf31 rfl rfl (vs:=[_,_,_,_,_]) rfl rfl) (gM rfl (gM rfl (gM rfl (gQ (zaJ en53 rfl (fun w hw=>zFz _ _ S _ _ V _ _ cs _ _ bs x i back n w (rH hl hw) hs hcS (rH hlw hw) hsw (fun z hz=>(rH (hsh z hz) hw)) hss (fun z hz=>(rH (hwo z hz) hw)) hsv hcp hkn (rH hc hw) hcs hcap (rH hbd hw) hbs hok i0 i1)) (gM rfl (gQ (zaB rfl rfl) (gQ (zaB rfl rfl) (gA rfl (gA rfl (gN [3,4,5,6,7,10,11,12,13,15,16,17,18,19,20,21] rfl (zac (gZ 10 (ph_y (zaf rfl) (ph_y (zaf rfl) (zaH rfl rfl (fun jj=>by(try rw [jj]); exact zaf rfl) (zaH rfl rfl (fun jj=>by(try rw [jj]); exact zbR rfl) (zaH rfl rfl (fun jj=>by(try rw [jj]); exact zaf rfl) (zc0 rfl rfl (fun jj=>by(try rw [jj]); exact zaf rfl) (zc0 rfl rfl (fun jj=>by(try rw [jj]); exact zaf rfl) (zc0 rfl rfl (fun jj=>by(try rw [jj]); exact zbw rfl rfl) (zaH rfl rfl (fun jj=>by(try rw [jj]); exact zaR rfl rfl rfl) (ph_y (zaX rfl rfl rfl) (gN [3,4,5,6,7,10,11,12,13,15,16,17,18,19,20,64] rfl (zap rfl (fun hc64=>?_) (fun hc64=>?_)))))))))))))))))))))))))))))
    ·rw [if_pos hc64] at hup
     refine zaa (gM rfl (gM rfl (gA rfl (gA rfl (gA rfl (gN [3,4,5,6,7,10,11,12,13,15,16,17,18] rfl (zae (T':=[(3,_),(4,_),(5,_),(6,_),(7,_),(10,_),(11,_),(12,_),(13,_),(15,.int .i64 (acrB S V x (bs.getD i.toNat default) back (n+1).toNat).way),(16,.int .i64 (acrB S V x (bs.getD i.toNat default) back (n+1).toNat).eff),(17,.bool (acrB S V x (bs.getD i.toNat default) back (n+1).toNat).some),(18,_)]) ⟨rfl,rfl,rfl,rfl,rfl,rfl,rfl,rfl,rfl,(by show some (Value.int .i64 n)=_; rw [hup]),(by show some (Value.int .i64 ((mayB S V x (bs.getD i.toNat default) back n).1))=_; rw [hup]),(by show some (Value.bool true)=_; rw [hup]),rfl,trivial⟩ (zaa (gM rfl (gQ (zaY rfl rfl) (gA rfl (gN [3,4,5,6,7,10,11,12,13,15,16,17,18] rfl ?_))))))))))))
     exact za1 (n+1) (sB rfl) rfl ⟨by omega,by omega⟩ (by omega)
    ·rw [if_neg (by rw [hc64]; exact fT)] at hup
     refine zae (T':=[(3,_),(4,_),(5,_),(6,_),(7,_),(10,_),(11,_),(12,_),(13,_),(15,.int .i64 (acrB S V x (bs.getD i.toNat default) back (n+1).toNat).way),(16,.int .i64 (acrB S V x (bs.getD i.toNat default) back (n+1).toNat).eff),(17,.bool (acrB S V x (bs.getD i.toNat default) back (n+1).toNat).some),(18,_),(19,_),(20,_),(64,_)]) ⟨rfl,rfl,rfl,rfl,rfl,rfl,rfl,rfl,rfl,(by show some (Value.int .i64 (acrB S V x (bs.getD i.toNat default) back n.toNat).way)=_; rw [hup]),(by show some (Value.int .i64 (acrB S V x (bs.getD i.toNat default) back n.toNat).eff)=_; rw [hup]),(by show some (Value.bool (acrB S V x (bs.getD i.toNat default) back n.toNat).some)=_; rw [hup]),rfl,rfl,rfl,rfl,trivial⟩ (zaq (zaa (gM rfl (gQ (zaY rfl rfl) (gA rfl (gN [3,4,5,6,7,10,11,12,13,15,16,17,18] rfl ?_))))))
     exact za1 (n+1) (sB rfl) rfl ⟨by omega,by omega⟩ (by omega)
  ·have hc36:=oD hc36
   have hend:n.toNat=(zaN S V (bs.getD i.toNat default).wall).s.opens.length+1:=by omega
   refine za8 rfl (gS (gM rfl (gM rfl (gM rfl (gA rfl (gA rfl (gA rfl (gN [10,11,12] rfl (zaw (zay (zdh rfl (zau rfl) (zau rfl) (zau rfl)) ?_))))))))))
   rw [hend]
theorem zEd (a:Option Addr) (cap:Nat) (S:List ShC) (b:Option Addr) (bcap:Nat) (V:List WlC) (ca:Option Addr) (ccap:Nat) (cs:List ByteArray) (ba:Option Addr) (bcp:Nat) (bs:List Bdr) (x:Anm) (w:World) (hl:Has w (zaW a 20 zbH S)) (hs:zaP S.length) (_hcS:S.length≤cap) (hlw:Has w (zaW b 4 zbS V)) (hsw:zaP V.length) (hsh:∀ z∈S,Has w (Ints z.a z.s.heights)) (hss:∀ z∈S,zaP z.s.heights.length) (hwo:∀ z∈V,Has w (zaW z.a 5 zba z.s.opens)) (hsv:∀ z∈V,zaP z.s.opens.length) (hcp:∀ z∈V,z.s.opens.length≤z.cap) (hkn:∀ z∈V,∀ o∈z.s.opens,Knd o) (hc:Has w (zaW ca 1 encS cs)) (hcs:zaP cs.length) (_hcap:cs.length≤ccap) (hbd:Has w (zaW ba 6 zyr bs)) (hbs:zaP bs.length) (hfS:∀ z∈S,Fits z.s.name.size) (hfV:∀ z∈V,Fits z.s.name.size) (hco:∀ z∈S,0≤z.s.cope) (hcf:∀ z∈cs,Fits z.size) :
  Calls Tryz.prog 51 #[.agg #[.slice a S.length cap,.slice b V.length bcap],.agg #[.slice ca cs.length ccap,.slice ba bs.length bcp],.agg #[.int .i64 x.wide,.int .i64 x.high,.int .i64 x.step,.int .i64 x.leap,.int .i64 x.reach]] w (Pure (.bool (zym S V cs bs x)) w):=by
 refine zan (vs:=[_,_,_]) Tryz.func51 rfl rfl (bL rfl) (gS (zaG rfl rfl (za3 (vs:=[_,_]) rfl rfl) fun b3=>(zaG rfl rfl (za3 (vs:=[_,_]) rfl rfl) fun b4=>(zaG rfl rfl (za3 (vs:=[_,_,_,_,_]) rfl rfl) fun b5=>(gA rfl (gN [3,4,5,6] rfl (zac (zac (gZ 16 (ph_y (zat 2 tf25 rfl rfl (vs:=[_,_]) rfl rfl) (ph_y (zaJ en83 rfl (fun w hw=>zsf _ _ S _ _ V w (rH hl hw) hs (rH hlw hw) hsw (fun z hz=>(rH (hsh z hz) hw)) hss (fun z hz=>(rH (hwo z hz) hw)) hsv hcp hkn hfS hfV hco)) (ph_y (zbR rfl) (ph_y (zaf rfl) (zaz rfl rfl (fun jj=>by(try rw [jj]); exact zab zAp rfl) (zaz rfl rfl (fun jj=>by(try rw [jj]); exact zah 1 tf26 rfl rfl rfl) (zaz rfl rfl (fun jj=>by(try rw [jj]); exact zaV (Tryz.underlying26) rfl) (zaz rfl rfl (fun jj=>by(try rw [jj]); exact zaJ (v:=.bool (inZ (cs.length:Int) 1 40)) en84 rfl (fun w hw=>zBU _ _ _ w)) (zaz rfl rfl (fun jj=>by(try rw [jj]); exact zbR rfl) (ph_y (zaR rfl rfl rfl) (ph_y (zaf rfl) (zaz rfl rfl (fun jj=>by(try rw [jj]); exact zab zzL rfl) (zaz rfl rfl (fun jj=>by(try rw [jj]); exact zah 1 tf27 rfl rfl rfl) (zaz rfl rfl (fun jj=>by(try rw [jj]); exact zaV (Tryz.underlying27) rfl) (zaz rfl rfl (fun jj=>by(try rw [jj]); exact zc6 rfl rfl) (ph_y (zaR rfl rfl rfl) (gN [3,4,5,6,26] rfl ?_))))))))))))))))))))))))))
 refine zap rfl (fun hc26=>?_) (fun hc26=>?_)
 ·have hno:zym S V cs bs x=false:=zGA hc26
  refine gS (gA rfl (gN [3,4,5,6] rfl (zaw (zay (zaC rfl (zau rfl)) ?_))))
  rw [hno]
 ·
  refine zaq (zac (zac (gZ 28 (ph_y (zab zeo rfl) (ph_y (zah 0 tf3 rfl rfl rfl) (ph_y (zaJ en84 rfl (fun w hw=>zBU _ _ _ w)) (ph_y (zbR rfl) (ph_y (zaf rfl) (zaz rfl rfl (fun jj=>by(try rw [jj]); exact zab zd7 rfl) (zaz rfl rfl (fun jj=>by(try rw [jj]); exact zah 0 tf3 rfl rfl rfl) (zaz rfl rfl (fun jj=>by(try rw [jj]); exact zaJ (v:=.bool (inZ x.high 0 10000)) en84 rfl (fun w hw=>zBU _ _ _ w)) (zaz rfl rfl (fun jj=>by(try rw [jj]); exact zbR rfl) (ph_y (zaR rfl rfl rfl) (ph_y (zaf rfl) (zaz rfl rfl (fun jj=>by(try rw [jj]); exact zab zCQ rfl) (zaz rfl rfl (fun jj=>by(try rw [jj]); exact zah 0 tf3 rfl rfl rfl) (zaz rfl rfl (fun jj=>by(try rw [jj]); exact zaJ (v:=.bool (inZ x.step 0 10000)) en84 rfl (fun w hw=>zBU _ _ _ w)) (zaz rfl rfl (fun jj=>by(try rw [jj]); exact zbR rfl) (ph_y (zaR rfl rfl rfl) (ph_y (zaf rfl) (zaz rfl rfl (fun jj=>by(try rw [jj]); exact zab zA6 rfl) (zaz rfl rfl (fun jj=>by(try rw [jj]); exact zah 0 tf3 rfl rfl rfl) (zaz rfl rfl (fun jj=>by(try rw [jj]); exact zaJ (v:=.bool (inZ x.leap 0 10000)) en84 rfl (fun w hw=>zBU _ _ _ w)) (zaz rfl rfl (fun jj=>by(try rw [jj]); exact zbR rfl) (ph_y (zaR rfl rfl rfl) (ph_y (zaf rfl) (zaz rfl rfl (fun jj=>by(try rw [jj]); exact zab zA7 rfl) ?_)))))))))))))))))))))))))))
  refine zaz rfl rfl (fun jj=>by(try rw [jj]); exact zah 0 tf3 rfl rfl rfl) (zaz rfl rfl (fun jj=>by(try rw [jj]); exact zaJ (v:=.bool (inZ x.reach 0 10000)) en84 rfl (fun w hw=>zBU _ _ _ w)) (zaz rfl rfl (fun jj=>by(try rw [jj]); exact zbR rfl) (ph_y (zaR rfl rfl rfl) (gN [3,4,6,54] rfl (zap rfl (fun hc54=>?_) (fun hc54=>?_))))))
  ·have hno:zym S V cs bs x=false:=zGB hc54
   refine gS (gA rfl (gN [3,4,6] rfl (zaw (zay (zaC rfl (zau rfl)) ?_))))
   rw [hno]
  ·obtain⟨hhead,hP⟩:=zE6 hc26 hc54
   refine zaq (zac (gS (gA rfl (gN [3,4,6,7] rfl (zas (zbf (X:=Int) (fun(i:Int)=>[(3,.pointer (some ⟨b3,0,none⟩)),(4,.pointer (some ⟨b4,0,none⟩)),(6,.bool false),(7,.int .i64 i)]) (fun(i:Int)=>[Box b5 [.int .i64 x.wide,.int .i64 x.high,.int .i64 x.step,.int .i64 x.leap,.int .i64 x.reach] 31,Box b4 [.slice ca cs.length ccap,.slice ba bs.length bcp] 29,Box b3 [.slice a S.length cap,.slice b V.length bcap] 25]) (fun(i:Int)=>(0≤i∧i≤cs.length∧∀ j:Nat,(j:Int) < i→zy0 cs j=true)) (fun(i:Int)=>(cs.length - i).toNat) 0 ⟨rfl,rfl,rfl,rfl,trivial⟩ rfl ?_ ?_))))))
   ·exact⟨by omega,by omega,fun j hj=>by omega⟩
   ·rintro i hI
    obtain⟨g0,g1,g2⟩:=hI
    refine zac (gS (gM rfl (gQ (zab zAp rfl) (gQ (zah 1 tf26 rfl rfl rfl) (gQ (zaV (Tryz.underlying26) rfl) (gQ (zbw rfl rfl) (gN [3,4,6,7,59] rfl (zap rfl (fun hc59=>?_) (fun hc59=>?_)))))))))
    ·have hc59:=oT hc59
     refine zaq (zac (zas (zac (gS (gQ (zab zAp rfl) (gQ (zah 1 tf26 rfl rfl rfl) (gM rfl (gQ (zaE se26 rfl rfl (fun _=>rH hc)) (gQ (zcE tf9 rfl (fun _=>rH hc) (by omega) (by omega) rfl) (gQ (zaJ en85 rfl (fun w hw=>znM (cs.getD i.toNat default) w (hcf _ (za0 (by omega))))) (gQ (zbR rfl) (gN [3,4,6,7,68] rfl (zap rfl (fun hc68=>?_) (fun hc68=>?_))))))))))))))
     ·have hno:zym S V cs bs x=false:=zAf (i:=i.toNat) (by omega) (zDD hc68)
      refine gS (gA rfl (gN [3,4,6,7] rfl (zaw (zay (zaC rfl (zau rfl)) ?_))))
      rw [hno]
     ·
      refine zaq (gS (gA rfl (gN [3,4,6,7,8] rfl (zas (zbf (X:=Int) (fun(k:Int)=>[(3,.pointer (some ⟨b3,0,none⟩)),(4,.pointer (some ⟨b4,0,none⟩)),(6,.bool false),(7,.int .i64 i),(8,.int .i64 k)]) (fun(k:Int)=>[Box b5 [.int .i64 x.wide,.int .i64 x.high,.int .i64 x.step,.int .i64 x.leap,.int .i64 x.reach] 31,Box b4 [.slice ca cs.length ccap,.slice ba bs.length bcp] 29,Box b3 [.slice a S.length cap,.slice b V.length bcap] 25]) (fun(k:Int)=>(0≤k∧k≤i∧∀ j:Nat,(j:Int) < k→((cs.getD i.toNat default).toList == (cs.getD j default).toList)=false)) (fun(k:Int)=>(i - k).toNat) 0 (sB rfl) rfl ?_ ?_)))))
      ·exact⟨by omega,by omega,fun j hj=>by omega⟩
      ·rintro k hI
       obtain⟨h0,h1,h2⟩:=hI
       refine zac (gS (gM rfl (gM rfl (gQ (zbw rfl rfl) (gN [3,4,6,7,8,71] rfl (zap rfl (fun hc71=>?_) (fun hc71=>?_)))))))
       ·have hc71:=oT hc71
        refine zaq (zac (zas (zac (gZ 11 (ph_y (zab zAp rfl) (ph_y (zah 1 tf26 rfl rfl rfl) (ph_y (zaf rfl) (ph_y (zaE se26 rfl rfl (fun _=>rH hc)) (ph_y (zcE tf9 rfl (fun _=>rH hc) (by omega) (by omega) rfl) (ph_y (zab zAp rfl) (ph_y (zah 1 tf26 rfl rfl rfl) (ph_y (zaf rfl) (ph_y (zaE se26 rfl rfl (fun _=>rH hc)) (ph_y (zcE tf9 rfl (fun _=>rH hc) (by omega) (by omega) rfl) (ph_y (zge rfl rfl) (gN [3,4,6,7,8,84] rfl (zap rfl (fun hc84=>?_) (fun hc84=>?_))))))))))))))))))
        ·have hno:zym S V cs bs x=false:=zAf (i:=i.toNat) (by omega) (zDE (j:=k.toNat) (by omega) (by omega) hc84)
         refine gS (gA rfl (gN [3,4,6,7,8] rfl (zaw (zay (zaC rfl (zau rfl)) ?_))))
         rw [hno]
        ·
         refine zaq (zaa (gM rfl (gQ (zaY rfl rfl) (gA rfl (gN [3,4,6,7,8] rfl ?_)))))
         exact za1 (k+1) (sB rfl) rfl ⟨by omega,by omega,fun j hj=>if h:(j:Int) < k then h2 j h else(by rw [show j=k.toNat from by omega]; exact hc84)⟩ (by omega)
       ·have hc71:=oD hc71
        have hcell:zy0 cs i.toNat=true:=zDF (by omega) hc68 (fun j hj=>h2 j (by omega))
        refine za8 rfl (zaa (gM rfl (gQ (zaY rfl rfl) (gA rfl (gN [3,4,6,7] rfl ?_)))))
        exact za1 (i+1) ⟨rfl,rfl,rfl,rfl,trivial⟩ rfl ⟨by omega,by omega,fun j hj=>if h:(j:Int) < i then g2 j h else(by rw [show j=i.toNat from by omega]; exact hcell)⟩ (by omega)
    ·have hc59:=oD hc59
     have hcl:∀ j:Nat,j < cs.length→zy0 cs j=true:=fun j hj=>g2 j (by omega)
     refine za8 rfl (zac (gS (gA rfl (gN [3,4,6,9] rfl (zas (zbf (X:=Int) (fun(i:Int)=>[(3,.pointer (some ⟨b3,0,none⟩)),(4,.pointer (some ⟨b4,0,none⟩)),(6,.bool false),(9,.int .i64 i)]) (fun(i:Int)=>[Box b5 [.int .i64 x.wide,.int .i64 x.high,.int .i64 x.step,.int .i64 x.leap,.int .i64 x.reach] 31,Box b4 [.slice ca cs.length ccap,.slice ba bs.length bcp] 29,Box b3 [.slice a S.length cap,.slice b V.length bcap] 25]) (fun(i:Int)=>(0≤i∧i≤bs.length∧∀ j:Nat,(j:Int) < i→zzp S V cs.length (bs.getD j default)=true)) (fun(i:Int)=>(bs.length - i).toNat) 0 ⟨rfl,rfl,rfl,rfl,trivial⟩ rfl ?_ ?_))))))
     ·exact⟨by omega,by omega,fun j hj=>by omega⟩
     ·rintro i hI
      obtain⟨g0,g1,g2⟩:=hI
      refine zac (gS (gM rfl (gQ (zab zzL rfl) (gQ (zah 1 tf27 rfl rfl rfl) (gQ (zaV (Tryz.underlying27) rfl) (gQ (zbw rfl rfl) (gN [3,4,6,9,89] rfl (zap rfl (fun hc89=>?_) (fun hc89=>?_)))))))))
      ·have hc89:=oT hc89
       refine zaq (zac (zas (gS (gQ (zab zzL rfl) (gQ (zah 1 tf27 rfl rfl rfl) (gM rfl (gQ (zaE se27 rfl rfl (fun _=>rH hbd)) (gQ (zbv (vs:=[_,_,_,_,_,_]) zAU rfl (fun _=>rH hbd) (by omega) (by omega) rfl) (zaG rfl rfl (zaL zAU (zs:=[_,_,_,_,_,_]) rfl) fun b10=>(zaA 0 zAU rfl rfl (vs:=[_,_,_,_,_,_]) rfl rfl rfl rfl rfl (gN [3,4,6,9,10] rfl (zac (gZ 38 (ph_y (zat 2 tf29 rfl rfl (vs:=[_,_]) rfl rfl) (ph_y (zab zCa rfl) (ph_y (zah 0 tf3 rfl rfl rfl) (ph_y (zaJ en20 rfl (fun w hw=>zEc _ _ cs _ _ bs ((bs.getD (i).toNat default).a) w)) (ph_y (zbR rfl) (ph_y (zaf rfl) (zaz rfl rfl (fun jj=>by(try rw [jj]); exact zat 2 tf29 rfl rfl (vs:=[_,_]) rfl rfl) (zaz rfl rfl (fun jj=>by(try rw [jj]); exact zab zCb rfl) (zaz rfl rfl (fun jj=>by(try rw [jj]); exact zah 0 tf3 rfl rfl rfl) (zaz rfl rfl (fun jj=>by(try rw [jj]); exact zaJ (v:=.bool (zBG cs.length ((bs.getD (i).toNat default).b))) en20 rfl (fun w hw=>zEc _ _ cs _ _ bs ((bs.getD (i).toNat default).b) w)) (zaz rfl rfl (fun jj=>by(try rw [jj]); exact zbR rfl) (ph_y (zaR rfl rfl rfl) (ph_y (zaf rfl) (zaz rfl rfl (fun jj=>by(try rw [jj]); exact zab zCa rfl) ?_)))))))))))))))))))))))))))
       refine zaz rfl rfl (fun jj=>by(try rw [jj]); exact zah 0 tf3 rfl rfl rfl) (zaz rfl rfl (fun jj=>by(try rw [jj]); exact zab zCb rfl) (zaz rfl rfl (fun jj=>by(try rw [jj]); exact zah 0 tf3 rfl rfl rfl) (zaz rfl rfl (fun jj=>by(try rw [jj]); exact zbL rfl rfl) (ph_y (zaR rfl rfl rfl) (ph_y (zaf rfl) (zaz rfl rfl (fun jj=>by(try rw [jj]); exact zat 3 tf25 rfl rfl (vs:=[_,_]) rfl rfl) (zaz rfl rfl (fun jj=>by(try rw [jj]); exact zab zCc rfl) (zaz rfl rfl (fun jj=>by(try rw [jj]); exact zah 0 tf9 rfl rfl rfl) (zaz rfl rfl (fun jj=>by(try rw [jj]); exact zaJ (v:=.int .i64 (zaM V ((bs.getD (i).toNat default).wall))) en86 rfl (fun w hw=>zf9 _ _ _ _ _ V ((bs.getD (i).toNat default).wall) w (rH hlw hw) hsw)) (zaz rfl rfl (fun jj=>by(try rw [jj]); exact zbw rfl rfl) (ph_y (zaR rfl rfl rfl) (ph_y (zaf rfl) (zaz rfl rfl (fun jj=>by(try rw [jj]); exact zab zCd rfl) (zaz rfl rfl (fun jj=>by(try rw [jj]); exact zah 0 tf3 rfl rfl rfl) (zaz rfl rfl (fun jj=>by(try rw [jj]); exact zaJ (v:=.bool (inZ ((bs.getD (i).toNat default).gA) (-3000) 3000)) en84 rfl (fun w hw=>zBU _ _ _ w)) (zaz rfl rfl (fun jj=>by(try rw [jj]); exact zbR rfl) (ph_y (zaR rfl rfl rfl) (ph_y (zaf rfl) (zaz rfl rfl (fun jj=>by(try rw [jj]); exact zab zCe rfl) ?_)))))))))))))))))))
       refine zaz rfl rfl (fun jj=>by(try rw [jj]); exact zah 0 tf3 rfl rfl rfl) (zaz rfl rfl (fun jj=>by(try rw [jj]); exact zaJ (v:=.bool (inZ ((bs.getD (i).toNat default).gB) (-3000) 3000)) en84 rfl (fun w hw=>zBU _ _ _ w)) (zaz rfl rfl (fun jj=>by(try rw [jj]); exact zbR rfl) (ph_y (zaR rfl rfl rfl) (gN [3,4,6,9,134] rfl (zap rfl (fun hc134=>?_) (fun hc134=>?_))))))
       ·rw [zDx hP] at hc134
        have hno:zym S V cs bs x=false:=zCT (i:=i.toNat) (by omega) (by simpa using hc134)
        refine gS (gA rfl (gN [3,4,6,9] rfl (zaw (zay (zaC rfl (zau rfl)) ?_))))
        rw [hno]
       ·rw [zDx hP] at hc134
        have hbrd:zzp S V cs.length (bs.getD i.toNat default)=true:=by simpa using hc134
        refine zaq (zaa (gM rfl (gQ (zaY rfl rfl) (gA rfl (gN [3,4,6,9] rfl (zaK 0 rfl ?_))))))
        exact za1 (i+1) ⟨rfl,rfl,rfl,rfl,trivial⟩ rfl ⟨by omega,by omega,fun j hj=>if h:(j:Int) < i then g2 j h else(by rw [show j=i.toNat from by omega]; exact hbrd)⟩ (by omega)
      ·have hc89:=oD hc89
       have hyes:zym S V cs bs x=true:=zCU hhead hcl (fun j hj=>g2 j (by omega))
       refine za8 rfl (gS (gA rfl (gN [6] rfl (zaw (zay (zaC rfl (zau rfl)) ?_)))))
       rw [hyes]
end Go.Proofs.YteepmmghanbllaaGreatDoor
namespace Go.Fld
open Go Go.K Go.Stn Go.Pln
def rchA (S:List ShC) (V:List WlC) (cs:List ByteArray) (bs:List Bdr) (x:Anm) (frm:Int):List Int:=if atE S V cs bs x [frm]=0 then zAs (zze (zyj S V bs x) (fun _=>true) frm) 40 else []
def smA (S:List ShC) (V:List WlC) (cs:List ByteArray) (bs:List Bdr) (x:Anm) (want:Bool):List (Int×Int):=if zym S V cs bs x=true then smN S V bs x want bs.length else []
def clA (S:List ShC) (V:List WlC) (cs:List ByteArray) (bs:List Bdr) (x:Anm) (frm to:Int):List Int:=if prtE S V cs bs x frm to=0 then clsB (zyj S V bs x) (clsA (zyj S V bs x) bs frm to).1 (clsA (zyj S V bs x) bs frm to).2 else []
def wkA (S:List ShC) (V:List WlC) (cs:List ByteArray) (bs:List Bdr) (x:Anm) (frm to:Int):List (List (Int×Int)):=if prtE S V cs bs x frm to=0 then(wksF (zyj S V bs x) frm to (clsB (zyj S V bs x) (clsA (zyj S V bs x) bs frm to).1 (clsA (zyj S V bs x) bs frm to).2).length (clsA (zyj S V bs x) bs frm to).1).map stpL else []
def smlF (S:List ShC) (V:List WlC) (cs:List ByteArray) (bs:List Bdr):Bool:=((zgI S V&&decide ((cs.length:Int)≤45))&&decide ((bs.length:Int)≤90))&&(decide ((bs.length:Int)≤20)||decide (80 < (bs.length:Int)))
theorem zEj {S:List ShC} {V:List WlC} {cs:List ByteArray} {bs:List Bdr} (h:smlF S V cs bs=true):zgI S V=true∧cs.length≤45∧bs.length≤90:=by
 unfold smlF at h
 simp only [aT,dT] at h
 exact⟨h.1.1.1,by omega,by omega⟩
theorem zDi {α:Type} [Inhabited α] {l:List α} {i:Int} (h0:0≤i) (h:i < (l.length:Int)):l.take i.toNat++[l.getD i.toNat default]=l.take (i+1).toNat:=by
 rw [show(i+1).toNat=i.toNat+1 from by omega,List.take_add_one,eG (by omega),gE,eG (by omega)]; rfl
end Go.Fld
namespace Go.K
open Go
section
variable {XS:Nat→Type} {c:Cx} {ds:List Deferred} {pre:List Oper} {N:Nat} {rd:List (Nat×Nat)} {ms:List Nat} {T0:List (Nat×Value)} {H:List Res} {K:List (E3 XS)→Prop} {i d:Nat} {r:List Oper} {S:List (E3 XS)} {op:Op} {ty:TypeId} {ps:String} {af:Array Edge}
theorem zIa {V V0:((i:Nat)→XS i)→Value} {j:Nat} {q b:Bool} (hb:lk3 S j=some V0) (hb2:∀ ρ,V0 ρ=if q=true then .bool b else undef) (hj:zaT ⟨some d,op,ty,ps,af,some (j,false)⟩ j=true)
  (h:(q&&!b)=true→∀ ρ:(i:Nat)→XS i,Y c ds (zeS ρ (rcf ms i) S S++H) (zdA ρ (zaT ⟨some d,op,ty,ps,af,some (j,false)⟩) S++zcl pre i T0) ⟨some d,op,ty,ps,af,some (j,false)⟩ (V ρ))
  (hl:∀ ρ ρ':(i:Nat)→XS i,zkB XS ms i ρ ρ'→V ρ=V ρ') (k:PH5 N rd c ds pre ms T0 H K (i+1) r (⟨i,some d,none,fun ρ=>if (q&&!b)=true then V ρ else undef,fun _=>Emp⟩ :: S)) :
  PH5 N rd c ds pre ms T0 H K i (⟨some d,op,ty,ps,af,some (j,false)⟩ :: r) S:=
 ⟨_,rfl,rfl,fun ρ ρ' hs=>⟨by show(if (q&&!b)=true then V ρ else undef)=(if (q&&!b)=true then V ρ' else undef); rw [hl ρ ρ' (fun j hj=>hs j (.inl hj))],rfl⟩,.inr ⟨V0,_,q&&!b,V,hb,hb2,hj,by cases q <;> cases b <;> simp [undef],rfl,rfl,fun _=>rfl,h⟩,k⟩
end
theorem zAe {X:Type} {V:X→Value} {A:X→Res} {w w':World} {e:Ending} {v:Value} (x:X) (h:Pure v w e w') (hv:v=V x) (hA:∀ w,(A x).A (fun _=>False) w):zcU V A w e w':=
 ⟨x,by rw [h.1,hv],h.2,fun _=>False,fun _ h=>h.elim,hA w'⟩
theorem zEg {R1 R2:Res} {w:World} (h1:R1.A (fun _=>False) w) (h2:R2.A (fun _=>False) w):(SepR [R1,R2]).A (fun _=>False) w:=
 ⟨fun _=>False,fun _=>False,fun _ h=>h,fun _ h=>h.elim,h1,fun _=>False,fun _=>False,fun _ h=>h,fun _ h=>h.elim,h2,trivial⟩
theorem zEh {R1 R2 R3:Res} {w:World} (h1:R1.A (fun _=>False) w) (h2:R2.A (fun _=>False) w) (h3:R3.A (fun _=>False) w):(SepR [R1,R2,R3]).A (fun _=>False) w:=
 ⟨fun _=>False,fun _=>False,fun _ h=>h,fun _ h=>h.elim,h1,fun _=>False,fun _=>False,fun _ h=>h,fun _ h=>h.elim,h2,fun _=>False,fun _=>False,fun _ h=>h,fun _ h=>h.elim,h3,trivial⟩
end Go.K
namespace Go.Proofs.YteepmmghanbllaaGreatDoor
open Go.K Go.Stn Go.Pln Go.Fld Go.RowKit
theorem zEk (a:Option Addr) (cap:Nat) (S:List ShC) (b:Option Addr) (bcap:Nat) (V:List WlC) (ca:Option Addr) (ccap:Nat) (cs:List ByteArray) (ba:Option Addr) (bcp:Nat) (bs:List Bdr) (x:Anm) (w:World) (hl:Has w (zaW a 20 zbH S)) (hs:zaP S.length) (hcS:S.length≤cap) (hlw:Has w (zaW b 4 zbS V)) (hsw:zaP V.length) (hsh:∀ z∈S,Has w (Ints z.a z.s.heights)) (hss:∀ z∈S,zaP z.s.heights.length) (hwo:∀ z∈V,Has w (zaW z.a 5 zba z.s.opens)) (hsv:∀ z∈V,zaP z.s.opens.length) (hcp:∀ z∈V,z.s.opens.length≤z.cap) (hkn:∀ z∈V,∀ o∈z.s.opens,Knd o) (hc:Has w (zaW ca 1 encS cs)) (hcs:zaP cs.length) (hcap:cs.length≤ccap) (hbd:Has w (zaW ba 6 zyr bs)) (hbs:zaP bs.length) (hno:¬ (zym S V cs bs x)=true) :
  Calls Tryz.prog 16 #[.agg #[.slice a S.length cap,.slice b V.length bcap],.agg #[.slice ca cs.length ccap,.slice ba bs.length bcp],.agg #[.int .i64 x.wide,.int .i64 x.high,.int .i64 x.step,.int .i64 x.leap,.int .i64 x.reach]] w (Pure (.tuple #[.slice none 0 0,.slice none 0 0,.int .i64 2]) w):=by
 refine zan (vs:=[_,_,_]) Tryz.func16 rfl rfl (bL rfl) (gS (zaG rfl rfl (za3 (vs:=[_,_]) rfl rfl) fun b3=>(zaG rfl rfl (za3 (vs:=[_,_]) rfl rfl) fun b4=>(zaG rfl rfl (za3 (vs:=[_,_,_,_,_]) rfl rfl) fun b5=>(gA rfl (gA rfl (gA rfl (gN [3,4,5,6,7,8] rfl (gS (gQ (zat 2 tf37 rfl rfl (vs:=[_,_]) rfl rfl) (gQ (zat 1 tf40 rfl rfl (vs:=[_,_]) rfl rfl) (gQ (zat 0 tf41 rfl rfl (vs:=[_,_,_,_,_]) rfl rfl) (zaG rfl rfl (zbm en49 rfl (fun w hw=>zz8 _ _ S _ _ V _ _ cs _ _ bs x w (rH hl hw) hs hcS (rH hlw hw) hsw (fun z hz=>(rH (hsh z hz) hw)) hss (fun z hz=>(rH (hwo z hz) hw)) hsv hcp hkn (rH hc hw) hcs hcap (rH hbd hw) hbs hno)) fun p21=>(gM rfl (gQ (zaB rfl rfl) (gQ (zaB rfl rfl) (gA rfl (gA rfl (gN [3,4,6,7,8,9] rfl (zac (gS (gM rfl (gQ (zcr rfl rfl) (gN [3,4,6,7,8,9,25] rfl (zdg rfl (gS (gM rfl (gA rfl (gA rfl (gA rfl (gN [3,4,6,7,8,9] rfl (zaw (zay (zdh rfl (zau rfl) (zau rfl) (zau rfl)) ?_)))))))))))))))))))))))))))))))))
 rfl
theorem zEG (a:Option Addr) (cap:Nat) (S:List ShC) (b:Option Addr) (bcap:Nat) (V:List WlC) (ca:Option Addr) (ccap:Nat) (cs:List ByteArray) (ba:Option Addr) (bcp:Nat) (bs:List Bdr) (x:Anm) (frm to:Int) (w:World) (hl:Has w (zaW a 20 zbH S)) (hs:zaP S.length) (hcS:S.length≤cap) (hlw:Has w (zaW b 4 zbS V)) (hsw:zaP V.length) (hsh:∀ z∈S,Has w (Ints z.a z.s.heights)) (hss:∀ z∈S,zaP z.s.heights.length) (hwo:∀ z∈V,Has w (zaW z.a 5 zba z.s.opens)) (hsv:∀ z∈V,zaP z.s.opens.length) (hcp:∀ z∈V,z.s.opens.length≤z.cap) (hkn:∀ z∈V,∀ o∈z.s.opens,Knd o) (hc:Has w (zaW ca 1 encS cs)) (hcs:zaP cs.length) (hcap:cs.length≤ccap) (hbd:Has w (zaW ba 6 zyr bs)) (hbs:zaP bs.length) (hpr:¬ prtE S V cs bs x frm to=0) :
  Calls Tryz.prog 23 #[.agg #[.slice a S.length cap,.slice b V.length bcap],.agg #[.slice ca cs.length ccap,.slice ba bs.length bcp],.agg #[.int .i64 x.wide,.int .i64 x.high,.int .i64 x.step,.int .i64 x.leap,.int .i64 x.reach],.int .i64 frm,.int .i64 to] w (Pure (.tuple #[.slice none 0 0,.slice none 0 0,.int .i64 (prtE S V cs bs x frm to)]) w):=by
 refine zan (vs:=[_,_,_,_,_]) Tryz.func23 rfl rfl (bL rfl) (gS (zaG rfl rfl (za3 (vs:=[_,_]) rfl rfl) fun b5=>(zaG rfl rfl (za3 (vs:=[_,_]) rfl rfl) fun b6=>(zaG rfl rfl (za3 (vs:=[_,_,_,_,_]) rfl rfl) fun b7=>(zaG rfl rfl (za3 (vs:=[_]) rfl rfl) fun b9=>(gA rfl (gA rfl (gA rfl (gN [3,5,6,7,9,10,11,12] rfl (gS (gQ (zat 3 tf37 rfl rfl (vs:=[_,_]) rfl rfl) (gQ (zat 2 tf40 rfl rfl (vs:=[_,_]) rfl rfl) (gQ (zat 1 tf41 rfl rfl (vs:=[_,_,_,_,_]) rfl rfl) (gM rfl (gQ (zah 0 tf3 rfl rfl rfl) (gQ (zaJ en54 rfl (fun w hw=>zD7 _ _ S _ _ V _ _ cs _ _ bs x frm to w (rH hl hw) hs hcS (rH hlw hw) hsw (fun z hz=>(rH (hsh z hz) hw)) hss (fun z hz=>(rH (hwo z hz) hw)) hsv hcp hkn (rH hc hw) hcs hcap (rH hbd hw) hbs hpr)) (gM rfl (gQ (zaB rfl rfl) (gQ (zaB rfl rfl) (zaG rfl rfl (zaL zzI (zs:=[_]) rfl) fun b13=>(zaA 0 zzI rfl rfl (vs:=[_]) rfl rfl rfl rfl rfl (gA rfl (gN [3,6,9,10,11,12,13] rfl (zac (gS (gM rfl (gQ (zcr rfl rfl) (gN [3,6,9,10,11,12,13,36] rfl (zap rfl (fun hc36=>?_) (fun hc36=>?_))))))))))))))))))))))))))))))
 ·simp only [nT,dF] at hc36
  refine gS (gM rfl (gA rfl (gA rfl (gA rfl (gN [3,6,9,10,11,12,13] rfl (zaw (zay (zdh rfl (zau rfl) (zau rfl) (zau rfl)) ?_)))))))
  rfl
 ·exfalso; exact hpr (by simpa using hc36)
theorem zE5 (a:Option Addr) (cap:Nat) (S:List ShC) (b:Option Addr) (bcap:Nat) (V:List WlC) (ca:Option Addr) (ccap:Nat) (cs:List ByteArray) (ba:Option Addr) (bcp:Nat) (bs:List Bdr) (x:Anm) (frm:Int) (w:World) (hl:Has w (zaW a 20 zbH S)) (hs:zaP S.length) (hcS:S.length≤cap) (hlw:Has w (zaW b 4 zbS V)) (hsw:zaP V.length) (hsh:∀ z∈S,Has w (Ints z.a z.s.heights)) (hss:∀ z∈S,zaP z.s.heights.length) (hwo:∀ z∈V,Has w (zaW z.a 5 zba z.s.opens)) (hsv:∀ z∈V,zaP z.s.opens.length) (hcp:∀ z∈V,z.s.opens.length≤z.cap) (hkn:∀ z∈V,∀ o∈z.s.opens,Knd o) (hc:Has w (zaW ca 1 encS cs)) (hcs:zaP cs.length) (hcap:cs.length≤ccap) (hbd:Has w (zaW ba 6 zyr bs)) (hbs:zaP bs.length) :
  Calls Tryz.prog 15 #[.agg #[.slice a S.length cap,.slice b V.length bcap],.agg #[.slice ca cs.length ccap,.slice ba bs.length bcp],.agg #[.int .i64 x.wide,.int .i64 x.high,.int .i64 x.step,.int .i64 x.leap,.int .i64 x.reach],.int .i64 frm] w (zcU (fun z:Option Addr×Nat=>.tuple #[.slice z.1 (rchA S V cs bs x frm).length z.2,.int .i64 (atE S V cs bs x [frm])]) (fun z=>Row z.1 1 z.2 3 Go.Stn.encI (rchA S V cs bs x frm)) w):=by
 by_cases hat:atE S V cs bs x [frm]=0
 ·have h:=zDf a cap S b bcap V ca ccap cs ba bcp bs x frm w hl hs hcS hlw hsw hsh hss hwo hsv hcp hkn hc hcs hcap hbd hbs hat
  rw [show(rchA S V cs bs x frm)=_ from if_pos hat,hat]; exact h
 ·have h:=zDe a cap S b bcap V ca ccap cs ba bcp bs x frm w hl hs hcS hlw hsw hsh hss hwo hsv hcp hkn hc hcs hcap hbd hbs hat
  have e:(rchA S V cs bs x frm)=[]:=if_neg hat
  exact h.mono fun e' w' h=>zAe (none,0) h (by rw [e]; rfl) (fun _=>by rw [e]; exact zAR)
theorem zAz (a:Option Addr) (cap:Nat) (S:List ShC) (b:Option Addr) (bcap:Nat) (V:List WlC) (ca:Option Addr) (ccap:Nat) (cs:List ByteArray) (ba:Option Addr) (bcp:Nat) (bs:List Bdr) (x:Anm) (i:Int) (back:Bool) (w:World) (hl:Has w (zaW a 20 zbH S)) (hs:zaP S.length) (hcS:S.length≤cap) (hlw:Has w (zaW b 4 zbS V)) (hsw:zaP V.length) (hsh:∀ z∈S,Has w (Ints z.a z.s.heights)) (hss:∀ z∈S,zaP z.s.heights.length) (hwo:∀ z∈V,Has w (zaW z.a 5 zba z.s.opens)) (hsv:∀ z∈V,zaP z.s.opens.length) (hcp:∀ z∈V,z.s.opens.length≤z.cap) (hkn:∀ z∈V,∀ o∈z.s.opens,Knd o) (hc:Has w (zaW ca 1 encS cs)) (hcs:zaP cs.length) (hcap:cs.length≤ccap) (hbd:Has w (zaW ba 6 zyr bs)) (hbs:zaP bs.length) :
  Calls Tryz.prog 24 #[.agg #[.slice a S.length cap,.slice b V.length bcap],.agg #[.slice ca cs.length ccap,.slice ba bs.length bcp],.agg #[.int .i64 x.wide,.int .i64 x.high,.int .i64 x.step,.int .i64 x.leap,.int .i64 x.reach],.int .i64 i,.bool back] w (Pure (.tuple #[.int .i64 (zyv S V cs bs x i back).way,.int .i64 (zyv S V cs bs x i back).eff,.int .i64 (zyv S V cs bs x i back).err]) w):=by
 by_cases hok:(zym S V cs bs x)=true
 ·exact zC6 a cap S b bcap V ca ccap cs ba bcp bs x i back w hl hs hcS hlw hsw hsh hss hwo hsv hcp hkn hc hcs hcap hbd hbs hok
 ·exact zC5 a cap S b bcap V ca ccap cs ba bcp bs x i back w hl hs hcS hlw hsw hsh hss hwo hsv hcp hkn hc hcs hcap hbd hbs hok
theorem zE7 (a:Option Addr) (cap:Nat) (S:List ShC) (b:Option Addr) (bcap:Nat) (V:List WlC) (ca:Option Addr) (ccap:Nat) (cs:List ByteArray) (ba:Option Addr) (bcp:Nat) (bs:List Bdr) (x:Anm) (w:World) (hl:Has w (zaW a 20 zbH S)) (hs:zaP S.length) (hcS:S.length≤cap) (hlw:Has w (zaW b 4 zbS V)) (hsw:zaP V.length) (hsh:∀ z∈S,Has w (Ints z.a z.s.heights)) (hss:∀ z∈S,zaP z.s.heights.length) (hwo:∀ z∈V,Has w (zaW z.a 5 zba z.s.opens)) (hsv:∀ z∈V,zaP z.s.opens.length) (hcp:∀ z∈V,z.s.opens.length≤z.cap) (hkn:∀ z∈V,∀ o∈z.s.opens,Knd o) (hc:Has w (zaW ca 1 encS cs)) (hcs:zaP cs.length) (hcap:cs.length≤ccap) (hbd:Has w (zaW ba 6 zyr bs)) (hbs:zaP bs.length) :
  Calls Tryz.prog 16 #[.agg #[.slice a S.length cap,.slice b V.length bcap],.agg #[.slice ca cs.length ccap,.slice ba bs.length bcp],.agg #[.int .i64 x.wide,.int .i64 x.high,.int .i64 x.step,.int .i64 x.leap,.int .i64 x.reach]] w (zcU (fun z:(Option Addr×Nat)×(Option Addr×Nat)=>.tuple #[.slice z.1.1 (smA S V cs bs x true).length z.1.2,.slice z.2.1 (smA S V cs bs x false).length z.2.2,.int .i64 (zBP S V cs bs x)]) (fun z=>SepR [Row z.1.1 2 z.1.2 130 zyQ (smA S V cs bs x true),Row z.2.1 2 z.2.2 130 zyQ (smA S V cs bs x false)]) w):=by
 by_cases hok:(zym S V cs bs x)=true
 ·have h:=zEl a cap S b bcap V ca ccap cs ba bcp bs x w hl hs hcS hlw hsw hsh hss hwo hsv hcp hkn hc hcs hcap hbd hbs hok
  rw [show(smA S V cs bs x true)=_ from if_pos hok,show(smA S V cs bs x false)=_ from if_pos hok,zBA hok]; exact h
 ·have h:=zEk a cap S b bcap V ca ccap cs ba bcp bs x w hl hs hcS hlw hsw hsh hss hwo hsv hcp hkn hc hcs hcap hbd hbs hok
  have e1:(smA S V cs bs x true)=[]:=if_neg hok
  have e2:(smA S V cs bs x false)=[]:=if_neg hok
  rw [zBz hok,e1,e2]
  exact h.mono fun e' w' h=>zAe ((none,0),(none,0)) h rfl (fun _=>zEg zAR zAR)
theorem zEF (a:Option Addr) (cap:Nat) (S:List ShC) (b:Option Addr) (bcap:Nat) (V:List WlC) (ca:Option Addr) (ccap:Nat) (cs:List ByteArray) (ba:Option Addr) (bcp:Nat) (bs:List Bdr) (x:Anm) (frm to:Int) (w:World) (hl:Has w (zaW a 20 zbH S)) (hs:zaP S.length) (hcS:S.length≤cap) (hlw:Has w (zaW b 4 zbS V)) (hsw:zaP V.length) (hsh:∀ z∈S,Has w (Ints z.a z.s.heights)) (hss:∀ z∈S,zaP z.s.heights.length) (hwo:∀ z∈V,Has w (zaW z.a 5 zba z.s.opens)) (hsv:∀ z∈V,zaP z.s.opens.length) (hcp:∀ z∈V,z.s.opens.length≤z.cap) (hkn:∀ z∈V,∀ o∈z.s.opens,Knd o) (hc:Has w (zaW ca 1 encS cs)) (hcs:zaP cs.length) (hcap:cs.length≤ccap) (hbd:Has w (zaW ba 6 zyr bs)) (hbs:zaP bs.length) :
  Calls Tryz.prog 23 #[.agg #[.slice a S.length cap,.slice b V.length bcap],.agg #[.slice ca cs.length ccap,.slice ba bs.length bcp],.agg #[.int .i64 x.wide,.int .i64 x.high,.int .i64 x.step,.int .i64 x.leap,.int .i64 x.reach],.int .i64 frm,.int .i64 to] w (zcU (fun z:(Option Addr×Nat)×(Option Addr×Nat)×List WkR=>.tuple #[.slice z.1.1 (clA S V cs bs x frm to).length z.1.2,.slice z.2.1.1 z.2.2.length z.2.1.2,.int .i64 (prtE S V cs bs x frm to)]) (fun z=>zDo (z.2.2.map (·.1)=(wkA S V cs bs x frm to)) (SepR [Row z.1.1 1 z.1.2 3 Go.Stn.encI (clA S V cs bs x frm to),Row z.2.1.1 1 z.2.1.2 78 zBI z.2.2,Go.K.Rows rowK z.2.2])) w):=by
 by_cases hpr:prtE S V cs bs x frm to=0
 ·have h:=zEH a cap S b bcap V ca ccap cs ba bcp bs x frm to w hl hs hcS hlw hsw hsh hss hwo hsv hcp hkn hc hcs hcap hbd hbs hpr
  rw [show(clA S V cs bs x frm to)=_ from if_pos hpr,show(wkA S V cs bs x frm to)=_ from if_pos hpr,hpr]; exact h
 ·have h:=zEG a cap S b bcap V ca ccap cs ba bcp bs x frm to w hl hs hcS hlw hsw hsh hss hwo hsv hcp hkn hc hcs hcap hbd hbs hpr
  have e1:(clA S V cs bs x frm to)=[]:=if_neg hpr
  have e2:(wkA S V cs bs x frm to)=[]:=if_neg hpr
  rw [e1,e2]
  exact h.mono fun e' w' h=>zAe ((none,0),(none,0),[]) h rfl (fun _=>⟨rfl,zEh zAR zAR zsb⟩)
theorem zCR:FO Tryz.prog 33 0 0:=fK
theorem zz0:FO Tryz.prog 33 1 2:=fK
theorem zAL:FO Tryz.prog 33 2 4:=fK
theorem af26:AF Tryz.prog 26 9 1 16 [.string ⟨#[]⟩]:=⟨Tryz.underlying26,by kernel_rfl,rfl⟩
theorem af38:AF Tryz.prog 38 64 6 56 [.int .i64 0,.int .i64 0,.string ⟨#[]⟩,.int .i64 0,.int .i64 0,.bool false]:=⟨Tryz.underlying38,by kernel_rfl,rfl⟩
theorem en42:En Tryz.prog 42:=eK Tryz.func42
theorem en43:En Tryz.prog 43:=eK Tryz.func43
theorem en51:En Tryz.prog 51:=eK Tryz.func51
theorem zFL (x0a:Option Addr) (x0n x0c:Nat) (w:World):(Instr.build 40 #[(0,.slice x0a x0n x0c)]).run Tryz.prog w=.ok (.agg #[.slice x0a x0n x0c,.slice none 0 0]) w:=by kernel_rfl
theorem zyE (x0 x1 x2 x3 x4:Int) (w:World):(Instr.build 41 #[(0,.int .i64 x0),(1,.int .i64 x1),(2,.int .i64 x2),(3,.int .i64 x3),(4,.int .i64 x4)]).run Tryz.prog w=.ok (.agg #[.int .i64 x0,.int .i64 x1,.int .i64 x2,.int .i64 x3,.int .i64 x4]) w:=by kernel_rfl
theorem zzo (x0 x1:Int) (x2:ByteArray) (x3 x4:Int) (x5:Bool) (w:World):(Instr.build 64 #[(0,.int .i64 x0),(1,.int .i64 x1),(2,.string x2),(3,.int .i64 x3),(4,.int .i64 x4),(5,.bool x5)]).run Tryz.prog w=.ok (.agg #[.int .i64 x0,.int .i64 x1,.string x2,.int .i64 x3,.int .i64 x4,.bool x5]) w:=by kernel_rfl
theorem zsE (x0_0 x0_1:Int) (x0_2:ByteArray) (x0_3 x0_4:Int) (x0_5:Bool) (w:World):(Instr.buildSlice 38 1 #[(0,.agg #[.int .i64 x0_0,.int .i64 x0_1,.string x0_2,.int .i64 x0_3,.int .i64 x0_4,.bool x0_5])]).run Tryz.prog w=.ok (.slice (some ⟨w.heap.size,0,none⟩) 1 1) (w.alloc (.cells (([⟨x0_0,x0_1,x0_2,x0_3,x0_4,x0_5⟩]:List (Bdr)).flatMap zyr).toArray 64)):=by kernel_rfl
theorem zG1 (a:Option Addr) (cap:Nat) (S:List ShC) (b:Option Addr) (bcap:Nat) (V:List WlC) (ca:Option Addr) (ccap:Nat) (cs:List ByteArray) (ba:Option Addr) (bcp:Nat) (bs:List Bdr) (x:Anm) (w:World) (hl:Has w (zaW a 20 zbH S)) (hs:S.length≤764877654104) (hlw:Has w (zaW b 4 zbS V)) (hsw:V.length≤2199023255552) (hsh:∀ z∈S,Has w (Ints z.a z.s.heights)) (hss:∀ z∈S,z.s.heights.length≤17592186044416) (hwo:∀ z∈V,Has w (zaW z.a 5 zba z.s.opens)) (hsv:∀ z∈V,z.s.opens.length≤3518437208883) (hfS:∀ z∈S,Fits z.s.name.size) (hc:Has w (zaW ca 1 encS cs)) (hcn:cs.length≤8796093022208) (hbd:Has w (zaW ba 6 zyr bs)) (hbn:bs.length≤2513169434915) :
  Calls Tryz.prog 13 #[.agg #[.slice a S.length cap,.slice b V.length bcap,.slice ca cs.length ccap,.slice ba bs.length bcp,.int .i64 x.wide,.int .i64 x.high,.int .i64 x.step,.int .i64 x.leap,.int .i64 x.reach]] w (zcU (fun z:((Option Addr×Nat×List ShC)×(Option Addr×Nat×List WlC))×(Option Addr×Nat)×(Option Addr×Nat)=>.tuple #[.agg #[.slice z.1.1.1 z.1.1.2.2.length z.1.1.2.1,.slice z.1.2.1 z.1.2.2.2.length z.1.2.2.1],.agg #[.slice z.2.1.1 cs.length z.2.1.2,.slice z.2.2.1 bs.length z.2.2.2],.agg #[.int .i64 x.wide,.int .i64 x.high,.int .i64 x.step,.int .i64 x.leap,.int .i64 x.reach],.bool (smlF S V cs bs)]) (fun z=>SepR [PlR yP z.1 ⟨S.map (·.s),V.map (·.s)⟩,Row z.2.1.1 1 z.2.1.2 9 encS cs,Row z.2.2.1 6 z.2.2.2 64 zyr bs]) w):=by
 refine zan (vs:=[_]) Tryz.func13 rfl rfl (bL rfl) (gS (zaG rfl rfl (za3 (vs:=[_,_,_,_,_,_,_,_,_]) rfl rfl) fun b1=>(zaG rfl rfl (zaL tf37 (zs:=[_,_]) rfl) fun b2=>(zaG rfl rfl (zaL tf40 (zs:=[_,_]) rfl) fun b3=>(zaG rfl rfl (zaL tf41 (zs:=[_,_,_,_,_]) rfl) fun b4=>(gA rfl (gN [1,2,3,4,5] rfl (gS (gQ (zab zz0 rfl) (gQ (zab zAp rfl) (gQ (zah 3 tf26 rfl rfl rfl) (zaG rfl rfl (zoJ (m:=cs) af26 ztJ rfl rfl (fun _=>rH hc) (by omega) (by unfold maxLen; omega)) fun z13=>(gQ (zaI rfl (zFL _ _ _)) (zaG rfl rfl (zaL tf40 (zs:=[_,_]) rfl) fun b6=>(zaA 0 tf40 rfl rfl (vs:=[_,_]) rfl rfl rfl rfl rfl (gN [1,2,3,4,5,6] rfl (zac (gS (gA rfl (gN [1,2,3,4,5,6,7] rfl (zas (zbB 64 zyr 6 ?_))))))))))))))))))))))
 refine zbf (X:=Int×Option Addr×Nat×List Bdr) (fun⟨i,ra,rc,N⟩=>[(1,.pointer (some ⟨b1,0,none⟩)),(2,.pointer (some ⟨b2,0,none⟩)),(3,.pointer (some ⟨b3,0,none⟩)),(4,.pointer (some ⟨b4,0,none⟩)),(5,.bool false),(6,.pointer (some ⟨b6,0,none⟩)),(7,.int .i64 i)]) (fun⟨i,ra,rc,N⟩=>[Row ra 6 rc 64 zyr N,Box b6 [.slice z13.1 cs.length z13.2,.slice ra N.length rc] 40,Row z13.1 1 z13.2 9 encS cs,Box b4 [.int .i64 0,.int .i64 0,.int .i64 0,.int .i64 0,.int .i64 0] 41,Box b3 [.slice none 0 0,.slice none 0 0] 40,Box b2 [.slice none 0 0,.slice none 0 0] 37,Box b1 [.slice a S.length cap,.slice b V.length bcap,.slice ca cs.length ccap,.slice ba bs.length bcp,.int .i64 x.wide,.int .i64 x.high,.int .i64 x.step,.int .i64 x.leap,.int .i64 x.reach] 33]) (fun⟨i,ra,rc,N⟩=>(0≤i∧i≤bs.length∧N=bs.take i.toNat)) (fun⟨i,ra,rc,N⟩=>(bs.length - i).toNat) (0,none,0,[]) (sB rfl) rfl ?_ ?_
 ·exact⟨by omega,by omega,rfl⟩
 ·rintro ⟨i,ra,rc,N⟩ hI
  obtain⟨g0,g1,g2⟩:=hI
  have hnl:N.length≤i.toNat:=by rw [g2,List.length_take]; omega
  refine zac (gS (gM rfl (gQ (zab zz0 rfl) (gQ (zab zzL rfl) (gQ (zah 6 tf27 rfl rfl rfl) (gQ (zaV (Tryz.underlying27) rfl) (gQ (zbw rfl rfl) (gN [1,2,3,4,5,6,7,20] rfl (zap rfl (fun hc20=>?_) (fun hc20=>?_))))))))))
  ·have hc20:=oT hc20
   refine zaq (zac (zas (gS (gQ (zab zz0 rfl) (gQ (zab zzL rfl) (gQ (zah 6 tf27 rfl rfl rfl) (gM rfl (gQ (zaE se27 rfl rfl (fun _=>rH hbd)) (gQ (zbv (vs:=[_,_,_,_,_,_]) zAU rfl (fun _=>rH hbd) (by omega) (by omega) rfl) (zaG rfl rfl (zaL zAU (zs:=[_,_,_,_,_,_]) rfl) fun b8=>(zaA 0 zAU rfl rfl (vs:=[_,_,_,_,_,_]) rfl rfl rfl rfl rfl (gN [1,2,3,4,5,6,7,8] rfl (zaa (gQ (zab zz1 rfl) (gQ (zah 2 tf38 rfl rfl rfl) (gQ (zab zCa rfl) (gQ (zah 0 tf3 rfl rfl rfl) (gQ (zab zCb rfl) (gQ (zah 0 tf3 rfl rfl rfl) (gQ (zab zCc rfl) (gQ (zah 0 tf9 rfl rfl rfl) (gQ (zab zCd rfl) (gQ (zah 0 tf3 rfl rfl rfl) (gQ (zab zCe rfl) (gQ (zah 0 tf3 rfl rfl rfl) (gQ (zab zCf rfl) (gQ (zah 0 tf4 rfl rfl rfl) (gQ (zaI rfl (zzo _ _ _ _ _ _)) (zaG rfl rfl (zaD rfl (zsE _ _ _ _ _ _) zyx rfl) fun b44=>?_)))))))))))))))))))))))))))))
   refine zb4 (m:=[(bs.getD (i).toNat default)]) 2 af38 zyx rfl rfl rfl rfl (fun _ hw=>(zam zyx (hw.has (p:=0) rfl))) (by first | omega | (simp only [lC,lN]; omega)) (by first | (unfold maxLen; omega) | (simp only [lC,lN,maxLen]; omega)) fun a45 c45=>(gQ (zab zz1 rfl) (zaA 3 tf38 rfl rfl (vs:=[_]) rfl rfl rfl rfl rfl (gN [1,2,3,4,5,6,7] rfl (zaa (gM rfl (gQ (zaY rfl rfl) (gA rfl (gN [1,2,3,4,5,6,7] rfl (zaK 0 rfl (zaK 0 rfl ?_))))))))))
   exact za1 (i+1,_,_,_) (sB rfl) rfl ⟨by omega,by omega,by rw [g2,zDi g0 hc20]⟩ (by simp only []; omega)
  ·have hc20:=oD hc20
   have hN:N=bs:=by rw [g2,List.take_of_length_le (by omega)]
   refine za8 rfl (gS (gQ (zab zAL rfl) (gQ (zab zeo rfl) (gQ (zah 6 tf3 rfl rfl rfl) (gQ (zab zAL rfl) (gQ (zab zd7 rfl) (gQ (zah 6 tf3 rfl rfl rfl) (gQ (zab zAL rfl) (gQ (zab zCQ rfl) (gQ (zah 6 tf3 rfl rfl rfl) (gQ (zab zAL rfl) (gQ (zab zA6 rfl) (gQ (zah 6 tf3 rfl rfl rfl) (gQ (zab zAL rfl) (gQ (zab zA7 rfl) (gQ (zah 6 tf3 rfl rfl rfl) (gQ (zaI rfl (zyE _ _ _ _ _)) (zaG rfl rfl (zaL tf41 (zs:=[_,_,_,_,_]) rfl) fun b9=>(zaA 0 tf41 rfl rfl (vs:=[_,_,_,_,_]) rfl rfl rfl rfl rfl (gN [1,2,3,4,5,6,9] rfl (zac (zao 4 rfl (zao 5 rfl (zao 6 rfl (zCs [_,_,_] (ch [(2,((Option Addr×Nat×List ShC)×(Option Addr×Nat×List WlC)))]) 1000 40 [0,1,3,0,0,0,32,103,231,487,999,2023,4071,8167,16359,32743,65511,131047,262119,524263,1048551,2097127,4194279,8388583,16777191,33554407,67108839,134217703,268435431,536870887,1073741799,2147483623,4294967271,8589934567,17179869159,34359738343,536870887,69256347631,206695301119,549755813887] [] rfl (fun _=>mixed) (by kernel_rfl) (zjK _ ⟨inferInstance,trivial⟩) ?_)))))))))))))))))))))))))
   refine pY (fun ρ=>zab zCR rfl) (pY (fun ρ=>zat (b:=b1) (cs:=[.slice a S.length cap,.slice b V.length bcap,.slice ca cs.length ccap,.slice ba bs.length bcp,.int .i64 x.wide,.int .i64 x.high,.int .i64 x.step,.int .i64 x.leap,.int .i64 x.reach]) (e:=33) 4 tf25 rfl (by kernel_rfl) (vs:=[_,_]) rfl rfl) (zFy (fun ρ=>zbm en42 rfl (fun w hw=>zue _ _ S _ _ V w (rH hl hw) (rH hlw hw) (fun z hz=>(rH (hsh z hz) hw)) hss (fun z hz=>(rH (hwo z hz) hw)) hsv hs hsw)) (fun ρ ρ' h=>⟨by rfl,by rfl⟩) (pY (fun ρ=>zat (b:=b6) (cs:=[.slice z13.1 cs.length z13.2,.slice ra N.length rc]) (e:=40) 2 tf40 rfl (by kernel_rfl) (vs:=[_,_]) rfl rfl) (pY (fun ρ=>zat (b:=b9) (cs:=[.int .i64 x.wide,.int .i64 x.high,.int .i64 x.step,.int .i64 x.leap,.int .i64 x.reach]) (e:=41) 0 tf41 rfl (by kernel_rfl) (vs:=[_,_,_,_,_]) rfl rfl) (pY (fun ρ=>zab zCR rfl) (pY (fun ρ=>zat (b:=b1) (cs:=[.slice a S.length cap,.slice b V.length bcap,.slice ca cs.length ccap,.slice ba bs.length bcp,.int .i64 x.wide,.int .i64 x.high,.int .i64 x.step,.int .i64 x.leap,.int .i64 x.reach]) (e:=33) 4 tf25 rfl (by kernel_rfl) (vs:=[_,_]) rfl rfl) (pY (fun ρ=>zaJ en43 rfl (fun w hw=>zuI _ _ S _ _ V w (rH hl hw) (by unfold zaP; omega) (rH hlw hw) (by omega) hfS)) (pY (fun ρ=>zaf rfl) ?_))))))))
   refine zH9 rfl (fun _=>rfl) rfl (fun hgd ρ=>by(try rw [hgd]); exact(zab zz0 rfl)) (fun ρ ρ' h=>by rfl) (zH9 rfl (fun _=>rfl) rfl (fun hgd ρ=>by(try rw [hgd]); exact(zab zAp rfl)) (fun ρ ρ' h=>by rfl) (zH9 rfl (fun _=>rfl) rfl (fun hgd ρ=>by(try rw [hgd]); exact(zah (b:=b1) (cs:=[.slice a S.length cap,.slice b V.length bcap,.slice ca cs.length ccap,.slice ba bs.length bcp,.int .i64 x.wide,.int .i64 x.high,.int .i64 x.step,.int .i64 x.leap,.int .i64 x.reach]) (e:=33) 5 tf26 rfl (by kernel_rfl) rfl)) (fun ρ ρ' h=>by rfl) (zH9 rfl (fun _=>rfl) rfl (fun hgd ρ=>by(try rw [hgd]); exact(zaV (Tryz.underlying26) rfl)) (fun ρ ρ' h=>by rfl) (zH9 rfl (fun _=>rfl) rfl (fun hgd ρ=>by(try rw [hgd]); exact(zeT rfl rfl)) (fun ρ ρ' h=>by rfl) (pY (fun ρ=>zaX rfl rfl rfl) (pY (fun ρ=>zaf rfl) (zH9 rfl (fun _=>rfl) rfl (fun hgd ρ=>by(try rw [hgd]); exact(zab zz0 rfl)) (fun ρ ρ' h=>by rfl) (zH9 rfl (fun _=>rfl) rfl (fun hgd ρ=>by(try rw [hgd]); exact(zab zzL rfl)) (fun ρ ρ' h=>by rfl) ?_))))))))
   refine zH9 rfl (fun _=>rfl) rfl (fun hgd ρ=>by(try rw [hgd]); exact(zah (b:=b1) (cs:=[.slice a S.length cap,.slice b V.length bcap,.slice ca cs.length ccap,.slice ba bs.length bcp,.int .i64 x.wide,.int .i64 x.high,.int .i64 x.step,.int .i64 x.leap,.int .i64 x.reach]) (e:=33) 5 tf27 rfl (by kernel_rfl) rfl)) (fun ρ ρ' h=>by rfl) (zH9 rfl (fun _=>rfl) rfl (fun hgd ρ=>by(try rw [hgd]); exact(zaV (Tryz.underlying27) rfl)) (fun ρ ρ' h=>by rfl) (zH9 rfl (fun _=>rfl) rfl (fun hgd ρ=>by(try rw [hgd]); exact(zeT rfl rfl)) (fun ρ ρ' h=>by rfl) (pY (fun ρ=>zaX rfl rfl rfl) (pY (fun ρ=>zaf rfl) (zH9 rfl (fun _=>rfl) rfl (fun hgd ρ=>by(try rw [hgd]); exact(zab zz0 rfl)) (fun ρ ρ' h=>by rfl) (zH9 rfl (fun _=>rfl) rfl (fun hgd ρ=>by(try rw [hgd]); exact(zab zzL rfl)) (fun ρ ρ' h=>by rfl) (zH9 rfl (fun _=>rfl) rfl (fun hgd ρ=>by(try rw [hgd]); exact(zah (b:=b1) (cs:=[.slice a S.length cap,.slice b V.length bcap,.slice ca cs.length ccap,.slice ba bs.length bcp,.int .i64 x.wide,.int .i64 x.high,.int .i64 x.step,.int .i64 x.leap,.int .i64 x.reach]) (e:=33) 5 tf27 rfl (by kernel_rfl) rfl)) (fun ρ ρ' h=>by rfl) (zH9 rfl (fun _=>rfl) rfl (fun hgd ρ=>by(try rw [hgd]); exact(zaV (Tryz.underlying27) rfl)) (fun ρ ρ' h=>by rfl) ?_))))))))
   refine zH9 rfl (fun _=>rfl) rfl (fun hgd ρ=>by(try rw [hgd]); exact(zeT rfl rfl)) (fun ρ ρ' h=>by rfl) (zH9 rfl (fun _=>rfl) rfl (fun hgd ρ=>by(try rw [hgd]); exact(zaf rfl)) (fun ρ ρ' h=>by rfl) (zIa rfl (fun _=>rfl) rfl (fun hgd ρ=>by(try rw [hgd]); exact(zab zz0 rfl)) (fun ρ ρ' h=>by rfl) (zIa rfl (fun _=>rfl) rfl (fun hgd ρ=>by(try rw [hgd]); exact(zab zzL rfl)) (fun ρ ρ' h=>by rfl) (zIa rfl (fun _=>rfl) rfl (fun hgd ρ=>by(try rw [hgd]); exact(zah (b:=b1) (cs:=[.slice a S.length cap,.slice b V.length bcap,.slice ca cs.length ccap,.slice ba bs.length bcp,.int .i64 x.wide,.int .i64 x.high,.int .i64 x.step,.int .i64 x.leap,.int .i64 x.reach]) (e:=33) 5 tf27 rfl (by kernel_rfl) rfl)) (fun ρ ρ' h=>by rfl) (zIa rfl (fun _=>rfl) rfl (fun hgd ρ=>by(try rw [hgd]); exact(zaV (Tryz.underlying27) rfl)) (fun ρ ρ' h=>by rfl) (zIa rfl (fun _=>rfl) rfl (fun hgd ρ=>by(try rw [hgd]); exact(zc6 rfl rfl)) (fun ρ ρ' h=>by rfl) (zH9 rfl (fun _=>rfl) rfl (fun hgd ρ=>by(try rw [hgd]); exact(zaR rfl rfl rfl)) (fun ρ ρ' h=>by rfl) (pY (fun ρ=>zaX rfl rfl rfl) ?_))))))))
   refine zBT (R:=fun ρ=>Box b2 [.slice none 0 0,.slice none 0 0] 37) (A:=fun ρ=>Box b2 [.slice (ρ 2).1.1 (ρ 2).1.2.2.length (ρ 2).1.2.1,.slice (ρ 2).2.1 (ρ 2).2.2.2.length (ρ 2).2.2.1] 37) 1000 rfl (by kernel_rfl) (by kernel_rfl) (fun _=>by kernel_rfl) (fun ρ=>zex tf37 rfl rfl (vs:=[_,_]) rfl rfl rfl rfl rfl) (fun ρ ρ' h=>by(first | rfl | (simp only [h 2 rfl]; done) | (simp only [h 2 rfl]; rfl))) (zBT (R:=fun ρ=>Box b3 [.slice none 0 0,.slice none 0 0] 40) (A:=fun ρ=>Box b3 [.slice z13.1 cs.length z13.2,.slice ra N.length rc] 40) 1001 rfl (by kernel_rfl) (by kernel_rfl) (fun _=>by kernel_rfl) (fun ρ=>zex tf40 rfl rfl (vs:=[_,_]) rfl rfl rfl rfl rfl) (fun ρ ρ' h=>by rfl) (zBT (R:=fun ρ=>Box b4 [.int .i64 0,.int .i64 0,.int .i64 0,.int .i64 0,.int .i64 0] 41) (A:=fun ρ=>Box b4 [.int .i64 x.wide,.int .i64 x.high,.int .i64 x.step,.int .i64 x.leap,.int .i64 x.reach] 41) 1002 rfl (by kernel_rfl) (by kernel_rfl) (fun _=>by kernel_rfl) (fun ρ=>zex tf41 rfl rfl (vs:=[_,_,_,_,_]) rfl rfl rfl rfl rfl) (fun ρ ρ' h=>by rfl) (pY (fun ρ=>zad rfl) ?_)))
   refine fun ρ=>zag (zf4 (X:=((Option Addr×Nat×List ShC)×(Option Addr×Nat×List WlC))) (ρ 2) (fun p65=>[(2,.pointer (some ⟨b2,0,none⟩)),(3,.pointer (some ⟨b3,0,none⟩)),(4,.pointer (some ⟨b4,0,none⟩)),(5,.bool ((((zgI S V)&&(decide ((cs.length:Int)≤45)))&&(decide ((bs.length:Int)≤90)))&&((decide ((bs.length:Int)≤20))||(decide (80 < (bs.length:Int))))))]) (fun p65=>[PlR yP p65 ⟨S.map (·.s),V.map (·.s)⟩,Box b2 [.slice p65.1.1 p65.1.2.2.length p65.1.2.1,.slice p65.2.1 p65.2.2.2.length p65.2.2.1] 37,Box b3 [.slice z13.1 cs.length z13.2,.slice ra N.length rc] 40,Box b4 [.int .i64 x.wide,.int .i64 x.high,.int .i64 x.step,.int .i64 x.leap,.int .i64 x.reach] 41,Box b9 [.int .i64 x.wide,.int .i64 x.high,.int .i64 x.step,.int .i64 x.leap,.int .i64 x.reach] 41,Row ra 6 rc 64 zyr N,Box b6 [.slice z13.1 cs.length z13.2,.slice ra N.length rc] 40,Row z13.1 1 z13.2 9 encS cs,Box b1 [.slice a S.length cap,.slice b V.length bcap,.slice ca cs.length ccap,.slice ba bs.length bcp,.int .i64 x.wide,.int .i64 x.high,.int .i64 x.step,.int .i64 x.leap,.int .i64 x.reach] 33]) ⟨rfl,rfl,rfl,rfl,trivial⟩ rfl ?_)
   rintro p65
   refine zaw (zao 5 rfl (zao 7 rfl (zao 2 rfl (zbT 3 (zbd (p65,(z13.1,z13.2),(ra,rc)) 0 (zGD rfl (zbU (i:=1) (vs:=[_,_]) tf37 rfl rfl rfl rfl) (zbU (i:=2) (vs:=[_,_]) tf40 rfl rfl rfl rfl) (zbU (i:=3) (vs:=[_,_,_,_,_]) tf41 rfl rfl rfl rfl) (zau rfl)) ?_ (by rw [hN]; rfl))))))
   rw [hN]; rfl
theorem zEO (a:Option Addr) (cap:Nat) (S:List ShC) (b:Option Addr) (bcap:Nat) (V:List WlC) (ca:Option Addr) (ccap:Nat) (cs:List ByteArray) (ba:Option Addr) (bcp:Nat) (bs:List Bdr) (x:Anm) (w:World) (hl:Has w (zaW a 20 zbH S)) (hs:zaP S.length) (hcS:S.length≤cap) (hlw:Has w (zaW b 4 zbS V)) (hsw:zaP V.length) (hsh:∀ z∈S,Has w (Ints z.a z.s.heights)) (hss:∀ z∈S,zaP z.s.heights.length) (hwo:∀ z∈V,Has w (zaW z.a 5 zba z.s.opens)) (hsv:∀ z∈V,zaP z.s.opens.length) (hcp:∀ z∈V,z.s.opens.length≤z.cap) (hkn:∀ z∈V,∀ o∈z.s.opens,Knd o) (hc:Has w (zaW ca 1 encS cs)) (hcs:zaP cs.length) (hcap:cs.length≤ccap) (hbd:Has w (zaW ba 6 zyr bs)) (hbs:zaP bs.length) (hfS:∀ z∈S,Fits z.s.name.size) (hfV:∀ z∈V,Fits z.s.name.size) (hco:∀ z∈S,0≤z.s.cope) (hcf:∀ z∈cs,Fits z.size) :
  Calls Tryz.prog 17 #[.agg #[.slice a S.length cap,.slice b V.length bcap,.slice ca cs.length ccap,.slice ba bs.length bcp,.int .i64 x.wide,.int .i64 x.high,.int .i64 x.step,.int .i64 x.leap,.int .i64 x.reach]] w (Pure (.bool (zym S V cs bs x)) w):=by
 refine zan (vs:=[_]) Tryz.func17 rfl rfl (bL rfl) (gS (zaG rfl rfl (za3 (vs:=[_,_,_,_,_,_,_,_,_]) rfl rfl) fun b1=>(gA rfl (gN [1,2] rfl (gS (gQ (zab zCR rfl) (gQ (zat 0 tf25 rfl rfl (vs:=[_,_]) rfl rfl) (gQ (zab zz0 rfl) (gQ (zat 0 tf29 rfl rfl (vs:=[_,_]) rfl rfl) (gQ (zab zAL rfl) (gQ (zat 0 tf31 rfl rfl (vs:=[_,_,_,_,_]) rfl rfl) (gQ (zaJ en51 rfl (fun w hw=>zEd _ _ S _ _ V _ _ cs _ _ bs x w (rH hl hw) hs hcS (rH hlw hw) hsw (fun z hz=>(rH (hsh z hz) hw)) hss (fun z hz=>(rH (hwo z hz) hw)) hsv hcp hkn (rH hc hw) hcs hcap (rH hbd hw) hbs hfS hfV hco hcf)) (gA rfl (gN [2] rfl (zaw (zay (zaC rfl (zau rfl)) ?_))))))))))))))))
 rfl
end Go.Proofs.YteepmmghanbllaaGreatDoor
namespace Go.Proofs.YteepmmghanbllaaGreatDoor
open Go Go.K Go.Stn Go.Pln Go.RowKit Go.Txt
theorem zkC {c:UInt8} {l:List UInt8} (h:l.all (fun x=>!(x == c))=true):∀ x∈l,x≠c:=fun x hx=>by
 have:=List.all_eq_true.1 h x hx
 simpa using this
theorem zbk {c:UInt8} {L:List UInt8} (k n:Nat) (h0:((L.drop k).take n).all (fun x=>!(x == c))=true) (h1:(L.drop k)[n]?=some c):cutL c (L.drop k)=(L.drop k).take n :: cutL c (L.drop (k+n+1)):=by
 obtain⟨h,h2⟩:=List.getElem?_eq_some_iff.1 h1
 have e:L.drop k=(L.drop k).take n++c :: L.drop (k+n+1):=by
  rw [←h2,show k+n+1=k+(n+1) from rfl,←List.drop_drop,←List.drop_eq_getElem_cons h,List.take_append_drop]
 conv=>lhs; rw [e]
 exact zhx (zkC h0)
theorem zui {W:List ByteArray} (h:0 < W.length):zdp W=.ok (W.getD 0 default,W.drop 1):=by
 cases W with
 | nil=>simp at h
 | cons x r=>rfl
theorem znw {W:List ByteArray} {k:Nat} (h:k < W.length):zdp (W.drop k)=.ok (W.getD k default,W.drop (k+1)):=by
 rw [List.drop_eq_getElem_cons h,gE,eG h]; rfl
theorem zuh {W:List ByteArray} {k:Nat} (h:k < W.length) (h1:zgx (W.getD k default)=true):zes (W.drop k)=.ok (W.getD k default,W.drop (k+1)):=by
 rw [zes,znw h,zak]; exact if_pos h1
theorem sayD {W:List ByteArray} {u:ByteArray} {k:Nat} (h:k < W.length) (h1:((W.getD k default).toList == u.toList)=true):sayE u (W.drop k)=.ok ((),W.drop (k+1)):=by
 rw [sayE,znw h,zak]; exact if_pos h1
theorem numD {W:List ByteArray} {k:Nat} {n:Int} (h:k < W.length) (h1:numW (W.getD k default)=true) (h2:zdO (W.getD k default)=n):numE (W.drop k)=.ok (n,W.drop (k+1)):=by
 rw [numE,znw h,zak,←h2]; exact if_pos h1
theorem zqd {W:List ByteArray} {k:Nat} {n:Int} (h:k < W.length) (h1:numW (W.getD k default)=true) (h2:zdO (W.getD k default)=n):zco 1 (W.drop k)=.ok ([n],W.drop (k+1)):=by
 rw [zco,numD h h1 h2]; rfl
theorem zqe {W:List ByteArray} {k m:Nat} {n:Int} {l:List Int} {r:List ByteArray} (h:k < W.length) (h1:numW (W.getD k default)=true) (h2:zdO (W.getD k default)=n) (h3:zco m (W.drop (k+1))=.ok (l,r)):zco (m+1) (W.drop k)=.ok (n :: l,r):=by
 rw [zco,numD h h1 h2,zak]
 show(zco m (W.drop (k+1)) >>= _)=_
 rw [h3]; rfl
theorem zs3 {W:List ByteArray} {k:Nat} {n n2:Int} (h:k+1 < W.length) (h1:numW (W.getD k default)=true) (h2:zdO (W.getD k default)=n) (h3:numW (W.getD (k+1) default)=true) (h4:zdO (W.getD (k+1) default)=n2):zco 2 (W.drop k)=.ok ([n,n2],W.drop (k+2)):=
 zqe (by omega) h1 h2 (zqd h h3 h4)
theorem zs4 {W:List ByteArray} {k:Nat} {n n2 n3:Int} (h:k+2 < W.length) (h1:numW (W.getD k default)=true) (h2:zdO (W.getD k default)=n) (h3:numW (W.getD (k+1) default)=true) (h4:zdO (W.getD (k+1) default)=n2) (h5:numW (W.getD (k+1+1) default)=true) (h6:zdO (W.getD (k+1+1) default)=n3):zco 3 (W.drop k)=.ok ([n,n2,n3],W.drop (k+3)):=
 zqe (by omega) h1 h2 (zs3 h h3 h4 h5 h6)
theorem zv9 {W:List ByteArray} {k:Nat} {n n2 n3 n4:Int} (h:k+3 < W.length) (h1:numW (W.getD k default)=true) (h2:zdO (W.getD k default)=n) (h3:numW (W.getD (k+1) default)=true) (h4:zdO (W.getD (k+1) default)=n2) (h5:numW (W.getD (k+1+1) default)=true) (h6:zdO (W.getD (k+1+1) default)=n3) (h7:numW (W.getD (k+1+1+1) default)=true) (h8:zdO (W.getD (k+1+1+1) default)=n4):zco 4 (W.drop k)=.ok ([n,n2,n3,n4],W.drop (k+4)):=
 zqe (by omega) h1 h2 (zs4 (by omega) h3 h4 h5 h6 h7 h8)
theorem zlm {W:List ByteArray} {u:ByteArray} {k:Nat} {n:Int} (h:k+1 < W.length) (h0:((W.getD k default).toList == u.toList)=true) (h1:numW (W.getD (k+1) default)=true) (h2:zdO (W.getD (k+1) default)=n):oneE u 1 (W.drop k)=.ok ([n],W.drop (k+2)):=by
 rw [oneE,sayD (by omega) h0,zak]; exact zqd h h1 h2
theorem zur {W:List ByteArray} {u:ByteArray} {k:Nat} {n n2:Int} (h:k+2 < W.length) (h0:((W.getD k default).toList == u.toList)=true) (h1:numW (W.getD (k+1) default)=true) (h2:zdO (W.getD (k+1) default)=n) (h3:numW (W.getD (k+1+1) default)=true) (h4:zdO (W.getD (k+1+1) default)=n2):oneE u 2 (W.drop k)=.ok ([n,n2],W.drop (k+3)):=by
 rw [oneE,sayD (by omega) h0,zak]; exact zs3 h h1 h2 h3 h4
theorem zpU {W:List ByteArray} {acc acc2:List Int} {k:Nat} (h:k < W.length) (h1:((W.getD k default).toList == wLeast.toList)=false) (h2:numW (W.getD k default)=true) (h3:acc++[zdO (W.getD k default)]=acc2):zbF acc (W.drop k)=zbF acc2 (W.drop (k+1)):=by
 rw [gE,eG h,Option.getD_some] at h1 h2 h3
 rw [List.drop_eq_getElem_cons h,zbF,if_neg (by rw [show(W[k].toList == wLeast.toList)=false from h1]; exact fT),if_pos h2,←h3]
theorem zt1 {W:List ByteArray} {acc:List Int} {k:Nat} (h:k < W.length) (h1:((W.getD k default).toList == wLeast.toList)=true):zbF acc (W.drop k)=.ok (acc,W.drop k):=by
 rw [gE,eG h,Option.getD_some] at h1
 rw [List.drop_eq_getElem_cons h,zbF,if_pos h1]
theorem zv4 {W l:List ByteArray} {f k:Nat} {n:Int} (h:k < W.length) (h1:¬ zbJ (fun y=>(W.getD k default).toList == y.toList) (l.drop f) < 0∧zbJ (fun y=>(W.getD k default).toList == y.toList) (l.drop f)+f=n):zfk l f (W.drop k)=.ok (n,W.drop (k+1)):=by
 rw [zfk,znw h,zak,←h1.2]; exact if_neg h1.1
noncomputable def dB:List UInt8:=daleT.data.toList
noncomputable def dQ0:List UInt8:=(dB.drop 0).take 170
theorem dct0:cutL 10 (dB.drop 0)=dQ0 :: cutL 10 (dB.drop 171):=zbk 0 170 (by decide +kernel) (by decide +kernel)
noncomputable def dQ1:List UInt8:=(dB.drop 171).take 20
theorem dct1:cutL 10 (dB.drop 171)=dQ1 :: cutL 10 (dB.drop 192):=zbk 171 20 (by decide +kernel) (by decide +kernel)
noncomputable def dQ2:List UInt8:=(dB.drop 192).take 25
theorem dct2:cutL 10 (dB.drop 192)=dQ2 :: cutL 10 (dB.drop 218):=zbk 192 25 (by decide +kernel) (by decide +kernel)
theorem dct3:cutL 10 (dB.drop 218)=[dB.drop 218]:=zeD (zkC (by decide +kernel))
theorem zob:zcb daleT=[mkB dQ0,mkB dQ1,mkB dQ2]:=by
 unfold zcb
 rw [zcT]
 show zfN ((cutL 10 (dB.drop 0)).map mkB)=_
 rw [dct0,dct1,dct2,dct3]
 show zfN [mkB dQ0,mkB dQ1,mkB dQ2,mkB (dB.drop 218)]=_
 rw [zfN,zfN,zfN,zfN,if_pos (by decide +kernel)]
theorem zwD:cutL 32 (dQ0.drop 0)=(dQ0.drop 0).take 5 :: cutL 32 (dQ0.drop 6):=zbk 0 5 (by decide +kernel) (by decide +kernel)
theorem zwE:cutL 32 (dQ0.drop 6)=(dQ0.drop 6).take 4 :: cutL 32 (dQ0.drop 11):=zbk 6 4 (by decide +kernel) (by decide +kernel)
theorem zwF:cutL 32 (dQ0.drop 11)=(dQ0.drop 11).take 4 :: cutL 32 (dQ0.drop 16):=zbk 11 4 (by decide +kernel) (by decide +kernel)
theorem zwG:cutL 32 (dQ0.drop 16)=(dQ0.drop 16).take 3 :: cutL 32 (dQ0.drop 20):=zbk 16 3 (by decide +kernel) (by decide +kernel)
theorem zwH:cutL 32 (dQ0.drop 20)=(dQ0.drop 20).take 6 :: cutL 32 (dQ0.drop 27):=zbk 20 6 (by decide +kernel) (by decide +kernel)
theorem zwI:cutL 32 (dQ0.drop 27)=(dQ0.drop 27).take 3 :: cutL 32 (dQ0.drop 31):=zbk 27 3 (by decide +kernel) (by decide +kernel)
theorem zwJ:cutL 32 (dQ0.drop 31)=(dQ0.drop 31).take 6 :: cutL 32 (dQ0.drop 38):=zbk 31 6 (by decide +kernel) (by decide +kernel)
theorem zwK:cutL 32 (dQ0.drop 38)=(dQ0.drop 38).take 4 :: cutL 32 (dQ0.drop 43):=zbk 38 4 (by decide +kernel) (by decide +kernel)
theorem zwL:cutL 32 (dQ0.drop 43)=(dQ0.drop 43).take 4 :: cutL 32 (dQ0.drop 48):=zbk 43 4 (by decide +kernel) (by decide +kernel)
theorem zwM:cutL 32 (dQ0.drop 48)=(dQ0.drop 48).take 3 :: cutL 32 (dQ0.drop 52):=zbk 48 3 (by decide +kernel) (by decide +kernel)
theorem zvr:cutL 32 (dQ0.drop 52)=(dQ0.drop 52).take 7 :: cutL 32 (dQ0.drop 60):=zbk 52 7 (by decide +kernel) (by decide +kernel)
theorem zvs:cutL 32 (dQ0.drop 60)=(dQ0.drop 60).take 3 :: cutL 32 (dQ0.drop 64):=zbk 60 3 (by decide +kernel) (by decide +kernel)
theorem zvt:cutL 32 (dQ0.drop 64)=(dQ0.drop 64).take 3 :: cutL 32 (dQ0.drop 68):=zbk 64 3 (by decide +kernel) (by decide +kernel)
theorem zvu:cutL 32 (dQ0.drop 68)=(dQ0.drop 68).take 5 :: cutL 32 (dQ0.drop 74):=zbk 68 5 (by decide +kernel) (by decide +kernel)
theorem zvv:cutL 32 (dQ0.drop 74)=(dQ0.drop 74).take 2 :: cutL 32 (dQ0.drop 77):=zbk 74 2 (by decide +kernel) (by decide +kernel)
theorem zvw:cutL 32 (dQ0.drop 77)=(dQ0.drop 77).take 3 :: cutL 32 (dQ0.drop 81):=zbk 77 3 (by decide +kernel) (by decide +kernel)
theorem zvx:cutL 32 (dQ0.drop 81)=(dQ0.drop 81).take 2 :: cutL 32 (dQ0.drop 84):=zbk 81 2 (by decide +kernel) (by decide +kernel)
theorem zvy:cutL 32 (dQ0.drop 84)=(dQ0.drop 84).take 3 :: cutL 32 (dQ0.drop 88):=zbk 84 3 (by decide +kernel) (by decide +kernel)
theorem zvz:cutL 32 (dQ0.drop 88)=(dQ0.drop 88).take 1 :: cutL 32 (dQ0.drop 90):=zbk 88 1 (by decide +kernel) (by decide +kernel)
theorem zvA:cutL 32 (dQ0.drop 90)=(dQ0.drop 90).take 7 :: cutL 32 (dQ0.drop 98):=zbk 90 7 (by decide +kernel) (by decide +kernel)
theorem zvB:cutL 32 (dQ0.drop 98)=(dQ0.drop 98).take 3 :: cutL 32 (dQ0.drop 102):=zbk 98 3 (by decide +kernel) (by decide +kernel)
theorem zvC:cutL 32 (dQ0.drop 102)=(dQ0.drop 102).take 3 :: cutL 32 (dQ0.drop 106):=zbk 102 3 (by decide +kernel) (by decide +kernel)
theorem zvD:cutL 32 (dQ0.drop 106)=(dQ0.drop 106).take 7 :: cutL 32 (dQ0.drop 114):=zbk 106 7 (by decide +kernel) (by decide +kernel)
theorem zvE:cutL 32 (dQ0.drop 114)=(dQ0.drop 114).take 3 :: cutL 32 (dQ0.drop 118):=zbk 114 3 (by decide +kernel) (by decide +kernel)
theorem zvF:cutL 32 (dQ0.drop 118)=(dQ0.drop 118).take 3 :: cutL 32 (dQ0.drop 122):=zbk 118 3 (by decide +kernel) (by decide +kernel)
theorem zvG:cutL 32 (dQ0.drop 122)=(dQ0.drop 122).take 4 :: cutL 32 (dQ0.drop 127):=zbk 122 4 (by decide +kernel) (by decide +kernel)
theorem zvH:cutL 32 (dQ0.drop 127)=(dQ0.drop 127).take 4 :: cutL 32 (dQ0.drop 132):=zbk 127 4 (by decide +kernel) (by decide +kernel)
theorem zvI:cutL 32 (dQ0.drop 132)=(dQ0.drop 132).take 3 :: cutL 32 (dQ0.drop 136):=zbk 132 3 (by decide +kernel) (by decide +kernel)
theorem zvJ:cutL 32 (dQ0.drop 136)=(dQ0.drop 136).take 3 :: cutL 32 (dQ0.drop 140):=zbk 136 3 (by decide +kernel) (by decide +kernel)
theorem zvK:cutL 32 (dQ0.drop 140)=(dQ0.drop 140).take 3 :: cutL 32 (dQ0.drop 144):=zbk 140 3 (by decide +kernel) (by decide +kernel)
theorem zvL:cutL 32 (dQ0.drop 144)=(dQ0.drop 144).take 8 :: cutL 32 (dQ0.drop 153):=zbk 144 8 (by decide +kernel) (by decide +kernel)
theorem zvM:cutL 32 (dQ0.drop 153)=(dQ0.drop 153).take 3 :: cutL 32 (dQ0.drop 157):=zbk 153 3 (by decide +kernel) (by decide +kernel)
theorem zvN:cutL 32 (dQ0.drop 157)=(dQ0.drop 157).take 3 :: cutL 32 (dQ0.drop 161):=zbk 157 3 (by decide +kernel) (by decide +kernel)
theorem zvO:cutL 32 (dQ0.drop 161)=(dQ0.drop 161).take 4 :: cutL 32 (dQ0.drop 166):=zbk 161 4 (by decide +kernel) (by decide +kernel)
theorem zvP:cutL 32 (dQ0.drop 166)=[dQ0.drop 166]:=zeD (zkC (by decide +kernel))
noncomputable def dW0:List ByteArray:=[mkB ((dQ0.drop 0).take 5),mkB ((dQ0.drop 6).take 4),mkB ((dQ0.drop 11).take 4),mkB ((dQ0.drop 16).take 3),mkB ((dQ0.drop 20).take 6),mkB ((dQ0.drop 27).take 3),mkB ((dQ0.drop 31).take 6),mkB ((dQ0.drop 38).take 4),mkB ((dQ0.drop 43).take 4),mkB ((dQ0.drop 48).take 3),mkB ((dQ0.drop 52).take 7),mkB ((dQ0.drop 60).take 3),mkB ((dQ0.drop 64).take 3),mkB ((dQ0.drop 68).take 5),mkB ((dQ0.drop 74).take 2),mkB ((dQ0.drop 77).take 3),mkB ((dQ0.drop 81).take 2),mkB ((dQ0.drop 84).take 3),mkB ((dQ0.drop 88).take 1),mkB ((dQ0.drop 90).take 7),mkB ((dQ0.drop 98).take 3),mkB ((dQ0.drop 102).take 3),mkB ((dQ0.drop 106).take 7),mkB ((dQ0.drop 114).take 3),mkB ((dQ0.drop 118).take 3),mkB ((dQ0.drop 122).take 4),mkB ((dQ0.drop 127).take 4),mkB ((dQ0.drop 132).take 3),mkB ((dQ0.drop 136).take 3),mkB ((dQ0.drop 140).take 3),mkB ((dQ0.drop 144).take 8),mkB ((dQ0.drop 153).take 3),mkB ((dQ0.drop 157).take 3),mkB ((dQ0.drop 161).take 4),mkB (dQ0.drop 166)]
theorem zvh:zcn (mkB dQ0) 32=dW0:=by
 rw [zcT]
 show(cutL 32 (dQ0.drop 0)).map mkB=_
 rw [zwD,zwE,zwF,zwG,zwH,zwI,zwJ,zwK,zwL,zwM,zvr,zvs,zvt,zvu,zvv,zvw,zvx,zvy,zvz,zvA,zvB,zvC,zvD,zvE,zvF,zvG,zvH,zvI,zvJ,zvK,zvL,zvM,zvN,zvO,zvP]
 rfl
theorem zxn:idle (mkB dQ0)=false:=by decide +kernel
theorem zwN:cutL 32 (dQ1.drop 0)=(dQ1.drop 0).take 4 :: cutL 32 (dQ1.drop 5):=zbk 0 4 (by decide +kernel) (by decide +kernel)
theorem zwO:cutL 32 (dQ1.drop 5)=(dQ1.drop 5).take 5 :: cutL 32 (dQ1.drop 11):=zbk 5 5 (by decide +kernel) (by decide +kernel)
theorem zwP:cutL 32 (dQ1.drop 11)=(dQ1.drop 11).take 4 :: cutL 32 (dQ1.drop 16):=zbk 11 4 (by decide +kernel) (by decide +kernel)
theorem zwQ:cutL 32 (dQ1.drop 16)=[dQ1.drop 16]:=zeD (zkC (by decide +kernel))
noncomputable def dW1:List ByteArray:=[mkB ((dQ1.drop 0).take 4),mkB ((dQ1.drop 5).take 5),mkB ((dQ1.drop 11).take 4),mkB (dQ1.drop 16)]
theorem zvi:zcn (mkB dQ1) 32=dW1:=by
 rw [zcT]
 show(cutL 32 (dQ1.drop 0)).map mkB=_
 rw [zwN,zwO,zwP,zwQ]
 rfl
theorem zxo:idle (mkB dQ1)=false:=by decide +kernel
theorem zwR:cutL 32 (dQ2.drop 0)=(dQ2.drop 0).take 4 :: cutL 32 (dQ2.drop 5):=zbk 0 4 (by decide +kernel) (by decide +kernel)
theorem zwS:cutL 32 (dQ2.drop 5)=(dQ2.drop 5).take 5 :: cutL 32 (dQ2.drop 11):=zbk 5 5 (by decide +kernel) (by decide +kernel)
theorem zwT:cutL 32 (dQ2.drop 11)=(dQ2.drop 11).take 4 :: cutL 32 (dQ2.drop 16):=zbk 11 4 (by decide +kernel) (by decide +kernel)
theorem zwU:cutL 32 (dQ2.drop 16)=(dQ2.drop 16).take 3 :: cutL 32 (dQ2.drop 20):=zbk 16 3 (by decide +kernel) (by decide +kernel)
theorem zwV:cutL 32 (dQ2.drop 20)=(dQ2.drop 20).take 1 :: cutL 32 (dQ2.drop 22):=zbk 20 1 (by decide +kernel) (by decide +kernel)
theorem zwW:cutL 32 (dQ2.drop 22)=[dQ2.drop 22]:=zeD (zkC (by decide +kernel))
noncomputable def dW2:List ByteArray:=[mkB ((dQ2.drop 0).take 4),mkB ((dQ2.drop 5).take 5),mkB ((dQ2.drop 11).take 4),mkB ((dQ2.drop 16).take 3),mkB ((dQ2.drop 20).take 1),mkB (dQ2.drop 22)]
theorem zvj:zcn (mkB dQ2) 32=dW2:=by
 rw [zcT]
 show(cutL 32 (dQ2.drop 0)).map mkB=_
 rw [zwR,zwS,zwT,zwU,zwV,zwW]
 rfl
theorem zxp:idle (mkB dQ2)=false:=by decide +kernel
theorem dn0:zes (dW0.drop 1)=.ok ((mkB ((dQ0.drop 6).take 4)),dW0.drop 2):=zuh (by decide) (by decide +kernel)
theorem zwz:oneE ⟨#[98,97,115,101]⟩ 1 (dW0.drop 2)=.ok ([700],dW0.drop 4):=zlm (by decide) (by decide +kernel) (by decide +kernel) (by decide +kernel)
theorem ztC:oneE ⟨#[98,97,116,116,101,114]⟩ 1 (dW0.drop 4)=.ok ([100],dW0.drop 6):=zlm (by decide) (by decide +kernel) (by decide +kernel) (by decide +kernel)
theorem ztD:oneE ⟨#[104,101,105,103,104,116]⟩ 1 (dW0.drop 6)=.ok ([1200],dW0.drop 8):=zlm (by decide) (by decide +kernel) (by decide +kernel) (by decide +kernel)
theorem zwX:oneE ⟨#[115,107,105,110]⟩ 1 (dW0.drop 8)=.ok ([250],dW0.drop 10):=zlm (by decide) (by decide +kernel) (by decide +kernel) (by decide +kernel)
theorem zrm:sayE ⟨#[104,101,105,103,104,116,115]⟩ (dW0.drop 10)=.ok ((),dW0.drop 11):=sayD (by decide) (by decide +kernel)
theorem dh0:zbF [] (dW0.drop 11)=zbF [200] (dW0.drop 12):=zpU (by decide) (by decide +kernel) (by decide +kernel) (by decide +kernel)
theorem dh1:zbF [200] (dW0.drop 12)=zbF [200,180] (dW0.drop 13):=zpU (by decide) (by decide +kernel) (by decide +kernel) (by decide +kernel)
theorem dhe:zbF [200,180] (dW0.drop 13)=.ok ([200,180],dW0.drop 13):=zt1 (by decide) (by decide +kernel)
theorem dhs:zbF [] (dW0.drop 11)=.ok ([200,180],dW0.drop 13):=by rw [dh0,dh1,dhe]
theorem zvm:oneE ⟨#[108,101,97,115,116]⟩ 1 (dW0.drop 13)=.ok ([60],dW0.drop 15):=zlm (by decide) (by decide +kernel) (by decide +kernel) (by decide +kernel)
theorem dlap:oneE ⟨#[108,97,112]⟩ 1 (dW0.drop 15)=.ok ([60],dW0.drop 17):=zlm (by decide) (by decide +kernel) (by decide +kernel) (by decide +kernel)
theorem drun:oneE ⟨#[114,117,110]⟩ 1 (dW0.drop 17)=.ok ([2],dW0.drop 19):=zlm (by decide) (by decide +kernel) (by decide +kernel) (by decide +kernel)
theorem zrn:oneE ⟨#[116,104,114,111,117,103,104]⟩ 2 (dW0.drop 19)=.ok ([900,500],dW0.drop 22):=zur (by decide) (by decide +kernel) (by decide +kernel) (by decide +kernel) (by decide +kernel) (by decide +kernel)
theorem zrl:oneE ⟨#[102,111,111,116,105,110,103]⟩ 2 (dW0.drop 22)=.ok ([200,100],dW0.drop 25):=zur (by decide) (by decide +kernel) (by decide +kernel) (by decide +kernel) (by decide +kernel) (by decide +kernel)
theorem zwA:sayE ⟨#[99,111,112,101]⟩ (dW0.drop 25)=.ok ((),dW0.drop 26):=sayD (by decide) (by decide +kernel)
theorem zwB:zfk zeZ 0 (dW0.drop 26)=.ok (3,dW0.drop 27):=zv4 (by decide) (by decide +kernel)
theorem dc3:zco 3 (dW0.drop 27)=.ok ([300,200,150],dW0.drop 30):=zs4 (by decide) (by decide +kernel) (by decide +kernel) (by decide +kernel) (by decide +kernel) (by decide +kernel) (by decide +kernel)
theorem zpg:oneE ⟨#[102,114,105,99,116,105,111,110]⟩ 2 (dW0.drop 30)=.ok ([500,700],dW0.drop 33):=zur (by decide) (by decide +kernel) (by decide +kernel) (by decide +kernel) (by decide +kernel) (by decide +kernel)
theorem zwC:oneE ⟨#[114,111,111,100]⟩ 1 (dW0.drop 33)=.ok ([6000],dW0.drop 35):=zlm (by decide) (by decide +kernel) (by decide +kernel) (by decide +kernel)
noncomputable def dSh:Sht:=⟨(mkB ((dQ0.drop 6).take 4)),700,100,1200,250,[200,180],60,60,2,900,500,200,100,3,300,200,150,500,700,6000⟩
theorem zvQ:zci (dW0.drop 1)=.ok (dSh,dW0.drop 35):=by
 unfold zci
 simp only [dn0,zwz,ztC,ztD,zwX,zrm,dhs,zvm,dlap,drun,zrn,zrl,zwA,zwB,dc3,zpg,zwC,zak]
 rfl
theorem zpj:za4 dSh=true:=by decide +kernel
theorem zvn:zcu ⟨[],[]⟩ ((mkB dQ0))=.ok ⟨[dSh],[]⟩:=by
 have h1:zff ⟨[],[]⟩ (mkB ((dQ0.drop 0).take 5)) (dW0.drop 1)=zb3 ⟨[],[]⟩ (dW0.drop 1):=if_pos (by decide +kernel)
 have h2:endE (dW0.drop 35)=.ok ((),dW0.drop 35):=if_pos (by decide)
 unfold zcu
 rw [zvh,zui (W:=dW0) (by decide),zak]
 show zff ⟨[],[]⟩ (mkB ((dQ0.drop 0).take 5)) (dW0.drop 1)=_
 rw [h1]
 unfold zb3
 simp only [zvQ,zak,h2]
 rw [if_neg (by decide),if_pos zpj]
 rfl
noncomputable def dWl0:Wll:=⟨(mkB ((dQ1.drop 5).take 5)),(mkB ((dQ1.drop 11).take 4)),3000,[]⟩
theorem zvo:zcu ⟨[dSh],[]⟩ ((mkB dQ1))=.ok ⟨[dSh],[dWl0]⟩:=by
 have h1:zff ⟨[dSh],[]⟩ (mkB ((dQ1.drop 0).take 4)) (dW1.drop 1)=zb1 ⟨[dSh],[]⟩ (dW1.drop 1):=(if_neg (by decide +kernel)).trans (if_pos (by decide +kernel))
 have h2:zes (dW1.drop 1)=.ok ((mkB ((dQ1.drop 5).take 5)),dW1.drop 2):=zuh (by decide) (by decide +kernel)
 have h3:zes (dW1.drop 2)=.ok ((mkB ((dQ1.drop 11).take 4)),dW1.drop 3):=zuh (by decide) (by decide +kernel)
 have h4:zco 1 (dW1.drop 3)=.ok ([3000],dW1.drop 4):=zqd (by decide) (by decide +kernel) (by decide +kernel)
 have h5:endE (dW1.drop 4)=.ok ((),dW1.drop 4):=if_pos (by decide)
 unfold zcu
 rw [zvi,zui (W:=dW1) (by decide),zak]
 show zff ⟨[dSh],[]⟩ (mkB ((dQ1.drop 0).take 4)) (dW1.drop 1)=_
 rw [h1]
 unfold zb1
 simp only [h2,h3,h4,h5,zak]
 rw [if_neg (by decide),if_pos (by decide +kernel),if_pos (by decide +kernel)]
 rfl
def dOp:Opn:=⟨1,1000,250,0,220⟩
noncomputable def dWl:Wll:=more dWl0 dOp
theorem zvp:zcu ⟨[dSh],[dWl0]⟩ ((mkB dQ2))=.ok ⟨[dSh],[dWl]⟩:=by
 have h1:zff ⟨[dSh],[dWl0]⟩ (mkB ((dQ2.drop 0).take 4)) (dW2.drop 1)=zch ⟨[dSh],[dWl0]⟩ (dW2.drop 1):=(if_neg (by decide +kernel)).trans ((if_neg (by decide +kernel)).trans (if_pos (by decide +kernel)))
 have h2:zfk opensW 1 (dW2.drop 1)=.ok (1,dW2.drop 2):=zv4 (by decide) (by decide +kernel)
 have h3:zco 4 (dW2.drop 2)=.ok ([1000,250,0,220],dW2.drop 6):=zv9 (by decide) (by decide +kernel) (by decide +kernel) (by decide +kernel) (by decide +kernel) (by decide +kernel) (by decide +kernel) (by decide +kernel) (by decide +kernel)
 have h5:endE (dW2.drop 6)=.ok ((),dW2.drop 6):=if_pos (by decide)
 have h6:zd1 (getS [dSh] dWl0.sheet).height (more dWl0 dOp)=true:=by decide +kernel
 unfold zcu
 rw [zvj,zui (W:=dW2) (by decide),zak]
 show zff ⟨[dSh],[dWl0]⟩ (mkB ((dQ2.drop 0).take 4)) (dW2.drop 1)=_
 rw [h1]
 unfold zch
 simp only [h2,h3,h5,zak]
 exact(if_neg (by decide)).trans (if_pos h6)
theorem zgT:zgA daleT=(⟨[dSh],[dWl]⟩,0,0):=by
 refine zkf (by have:=zpe; omega) ?_
 rw [zob,zhB zxn zvn,zhB zxo zvo,zhB zxp zvp]
 rfl
end Go.Proofs.YteepmmghanbllaaGreatDoor
namespace Go.Proofs.YteepmmghanbllaaGreatDoor
open Go.K Go.Stn Go.Pln Go.Fld Go.RowKit
theorem zdB {c:Cx} {ds:List Deferred} {H:List Res} {T:List (Nat×Value)} {o:Oper} {b b':Bool} (h:Y c ds H T o (.bool b)) (hb:b=b'):Y c ds H T o (.bool b'):=by subst hb; exact h
theorem zjk {c:Cx} {ds:List Deferred} {T:List (Nat×Value)} {H:List Res} {K:Act→World→Prop} {y:PTy} {ra:Option Addr} {rc:Nat} {S:List ShC} {rb:Option Addr} {rd:Nat} {V:List WlC} {q:Plan}
  (h:S.map (·.s)=q.S→V.map (·.s)=q.V→GK c ds K T (Row ra 20 rc y.s zbH S :: Go.K.Rows (rowH y.i) S :: Row rb 4 rd y.w zbS V :: Go.K.Rows (rowO y.o) V :: H)):GK c ds K T (PlR y ((ra,rc,S),(rb,rd,V)) q :: H):=by
 intro a w ha hw
 obtain⟨hb,B,hB,⟨h1,h2,h3⟩,hr⟩:=hw
 exact h h1 h2 a w ha (Hp.split (L:=[_,_,_,_]) ⟨hb,B,hB,h3,hr⟩)
theorem zp7 {α β:Type} {f:α→β} {l:List α} {x:β} (h:l.map f=[x]):∃ y,l=[y]∧f y=x:=by
 cases l with
 | nil=>cases h
 | cons y r=>
  cases r with
  | nil=>rw [List.map_cons,List.map_nil,List.cons.injEq] at h; exact⟨y,rfl,h.1⟩
  | cons z t=>rw [List.map_cons,List.map_cons] at h; cases h
abbrev wkC:List ByteArray:=[⟨#[109,111,111,114]⟩,⟨#[99,114,111,102,116]⟩]
abbrev wkB:List Bdr:=[⟨0,1,⟨#[110,111,114,116,104]⟩,0,0,false⟩]
abbrev wkH:Anm:=⟨150,200,100,600,300⟩
abbrev wkE:Anm:=⟨400,700,250,1100,600⟩
section
variable {z0:ShC} {v0:WlC} (hz:z0.s=dSh) (hv:v0.s=dWl)
include hz hv
theorem zBC:zym [z0] [v0] wkC wkB wkH=true∧zym [z0] [v0] wkC wkB wkE=true:=by
 obtain⟨s,a,c⟩:=z0; obtain⟨v,b,d⟩:=v0
 simp only at hz hv; subst hz hv
 exact⟨by kernel_rfl,by kernel_rfl⟩
theorem zGL:zyj [z0] [v0] wkB wkH=[(⟨0,1,0,0,1⟩,⟨1,0,0,0,1⟩)]:=by
 obtain⟨s,a,c⟩:=z0; obtain⟨v,b,d⟩:=v0
 simp only at hz hv; subst hz hv
 kernel_rfl
theorem zHq:zyj [z0] [v0] wkB wkE=[(⟨0,1,0,-2,0⟩,⟨1,0,0,-2,0⟩)]:=by
 obtain⟨s,a,c⟩:=z0; obtain⟨v,b,d⟩:=v0
 simp only at hz hv; subst hz hv
 kernel_rfl
theorem zH7:smN [z0] [v0] wkB wkH true 1=[(0,0)]∧smN [z0] [v0] wkB wkH false 1=[]:=by
 obtain⟨s,a,c⟩:=z0; obtain⟨v,b,d⟩:=v0
 simp only at hz hv; subst hz hv
 exact⟨by kernel_rfl,by kernel_rfl⟩
theorem zEt:zyv [z0] [v0] wkC wkB wkH 0 false=⟨0,1,0⟩∧zyv [z0] [v0] wkC wkB wkE 0 false=⟨0,0,8⟩:=by
 obtain⟨l1,l2⟩:=zBC hz hv
 unfold zyv wayI
 rw [if_pos l1,if_pos l2,zGL hz hv,zHq hz hv]
 exact⟨by kernel_rfl,by kernel_rfl⟩
theorem zFj:atE [z0] [v0] wkC wkB wkE [1]=0∧rchA [z0] [v0] wkC wkB wkE 1=[1]:=by
 obtain⟨l1,l2⟩:=zBC hz hv
 have h:atE [z0] [v0] wkC wkB wkE [1]=0:=zFF l2 (by kernel_rfl)
 refine⟨h,?_⟩
 unfold rchA
 rw [if_pos h,zHq hz hv]
 kernel_rfl
theorem zFi:prtE [z0] [v0] wkC wkB wkH 0 1=0∧(clA [z0] [v0] wkC wkB wkH 0 1).length=1∧(wkA [z0] [v0] wkC wkB wkH 0 1).length=1:=by
 obtain⟨l1,l2⟩:=zBC hz hv
 have h0:atE [z0] [v0] wkC wkB wkH [0,1]=0:=zFF l1 (by kernel_rfl)
 have h:prtE [z0] [v0] wkC wkB wkH 0 1=0:=by unfold prtE; rw [if_pos h0,if_neg (by decide)]
 refine⟨h,?_,?_⟩
 ·unfold clA
  rw [if_pos h,zGL hz hv]
  kernel_rfl
 ·unfold wkA
  rw [if_pos h,zGL hz hv]
  kernel_rfl
theorem zFk:zBP [z0] [v0] wkC wkB wkH=0∧(smA [z0] [v0] wkC wkB wkH true).length=1∧(smA [z0] [v0] wkC wkB wkH false).length=0:=by
 obtain⟨l1,l2⟩:=zBC hz hv
 obtain⟨s1,s2⟩:=zH7 hz hv
 refine⟨if_pos l1,?_,?_⟩
 ·unfold smA; rw [if_pos l1]; show(smN [z0] [v0] wkB wkH true 1).length=1; rw [s1]; rfl
 ·unfold smA; rw [if_pos l1]; show(smN [z0] [v0] wkB wkH false 1).length=0; rw [s2]; rfl
end
section
variable {z0:ShC} (hz:z0.s=dSh)
include hz
theorem zjy:∀ z∈[z0],zaP z.s.heights.length:=fun z h=>by rw [List.mem_singleton.1 h,hz]; decide +kernel
end
theorem zn2 {v0:WlC} (hv:v0.s=dWl):∀ z∈[v0],zaP z.s.opens.length:=fun z h=>by rw [List.mem_singleton.1 h,hv]; decide +kernel
theorem zsv {v0:WlC} (hv:v0.s=dWl):∀ z∈[v0],∀ o∈z.s.opens,Knd o:=fun z h o ho=>by
 rw [List.mem_singleton.1 h,hv] at ho
 have:o=dOp:=List.mem_singleton.1 (show o∈[dOp] from ho)
 rw [this]; decide
theorem en15:En Tryz.prog 15:=eK Tryz.func15
theorem en16:En Tryz.prog 16:=eK Tryz.func16
theorem en23:En Tryz.prog 23:=eK Tryz.func23
theorem en24:En Tryz.prog 24:=eK Tryz.func24
theorem en44:En Tryz.prog 44:=eK Tryz.func44
theorem en45:En Tryz.prog 45:=eK Tryz.func45
theorem zC9 (x0a:Option Addr) (x0n x0c:Nat) (x1a:Option Addr) (x1n x1c:Nat) (w:World):(Instr.build 40 #[(0,.slice x0a x0n x0c),(1,.slice x1a x1n x1c)]).run Tryz.prog w=.ok (.agg #[.slice x0a x0n x0c,.slice x1a x1n x1c]) w:=by kernel_rfl
theorem zDa (x0:Int) (x1:ByteArray) (w:World):(Instr.build 64 #[(1,.int .i64 x0),(2,.string x1)]).run Tryz.prog w=.ok (.agg #[.int .i64 0,.int .i64 x0,.string x1,.int .i64 0,.int .i64 0,.bool false]) w:=by kernel_rfl
theorem zG3 (x0_0 x1_0:ByteArray) (w:World):(Instr.buildSlice 26 2 #[(0,.string x0_0),(1,.string x1_0)]).run Tryz.prog w=.ok (.slice (some ⟨w.heap.size,0,none⟩) 2 2) (w.alloc (.cells (([x0_0,x1_0]:List (ByteArray)).flatMap encS).toArray 9)):=by kernel_rfl
theorem zz3  (w:World) (hmx:Has w (IntV 2)) (hcp:Has w (zaW (some ⟨1,0,none⟩) 1 encS zeZ)) (hop:Has w (zaW (some ⟨0,0,none⟩) 1 encS opensW)) :
  Calls Tryz.prog 14 #[] w (Pure (.bool true) w):=by
 refine zan (vs:=[]) Tryz.func14 rfl rfl (bL rfl) (gS (gA rfl (gN [0] rfl (gS (gQ (zaJ en45 rfl (fun w hw=>zvl w)) (zaG rfl rfl (zbm en44 rfl (fun w hw=>zus daleT w (rH hmx hw) (rH hcp hw) (rH hop hw))) fun p23=>(gM rfl (gQ (zaB rfl rfl) (gQ (zaB rfl rfl) (gQ (zaB rfl rfl) (zaG rfl rfl (zaL tf37 (zs:=[_,_]) rfl) fun b1=>(zaA 0 tf37 rfl rfl (vs:=[_,_]) rfl rfl rfl rfl rfl (gA rfl (gA rfl (gN [0,1,3] rfl (zao 1 rfl ?_))))))))))))))))
 obtain⟨⟨ra,rc,S⟩,⟨rb,rd,V⟩⟩:=p23
 refine za2 (R':=PlR yP ((ra,rc,S),(rb,rd,V)) ⟨[dSh],[dWl]⟩) 0 rfl (fun B w hA=>by rw [zgT] at hA; exact hA) (zjk fun hS hV=>?_)
 obtain⟨z0,rfl,hz⟩:=zp7 hS
 obtain⟨v0,rfl,hv⟩:=zp7 hV
 have hl1:([z0]:List ShC).length=1:=rfl
 have hl2:([v0]:List WlC).length=1:=rfl
 obtain⟨hA1,hA2⟩:=zEt hz hv
 obtain⟨hR1,hR2⟩:=zFj hz hv
 obtain⟨hC1,hC2,hC3⟩:=zFi hz hv
 obtain⟨hS1,hS2,hS3⟩:=zFk hz hv
 have hRl:(rchA [z0] [v0] wkC wkB wkE 1).length=1:=by rw [hR2]; rfl
 refine za2 (R':=Box b1 [.slice ra 1 rc,.slice rb 1 rd] 37) 4 rfl (fun B w hA=>hA) (zae (T':=[(0,_),(1,_),(3,.int .i64 0)]) ⟨rfl,rfl,(by rw [zgT]; rfl),trivial⟩ (gS (zaG rfl rfl (zaD rfl (zG3 _ _) ztJ rfl) fun b27=>(gQ (zaI rfl (zDa _ _)) (zaG rfl rfl (zaD rfl (zsE _ _ _ _ _ _) zyx rfl) fun b29=>(gQ (zaI rfl (zC9 _ _ _ _ _ _)) (zaG rfl rfl (zaL tf40 (zs:=[_,_]) rfl) fun b4=>(zaA 0 tf40 rfl rfl (vs:=[_,_]) rfl rfl rfl rfl rfl (gN [0,1,3,4] rfl (gS (gQ (zaI rfl (zyE _ _ _ _ _)) (zaG rfl rfl (zaL tf41 (zs:=[_,_,_,_,_]) rfl) fun b5=>(zaA 0 tf41 rfl rfl (vs:=[_,_,_,_,_]) rfl rfl rfl rfl rfl (gN [0,1,3,4,5] rfl (gS (gQ (zaI rfl (zyE _ _ _ _ _)) (zaG rfl rfl (zaL tf41 (zs:=[_,_,_,_,_]) rfl) fun b6=>(zaA 0 tf41 rfl rfl (vs:=[_,_,_,_,_]) rfl rfl rfl rfl rfl (gN [0,1,3,4,5,6] rfl (gS (gQ (zat 9 tf37 rfl rfl (vs:=[_,_]) rfl rfl) (gQ (zat 2 tf40 rfl rfl (vs:=[_,_]) rfl rfl) (gQ (zat 1 tf41 rfl rfl (vs:=[_,_,_,_,_]) rfl rfl) ?_)))))))))))))))))))))))
 refine gQ (zaJ en24 rfl (fun w hw=>zAz _ _ [z0] _ _ [v0] _ _ wkC _ _ wkB wkH 0 false w (zam zbI (hw.has (p:=5) rfl)) (show zaP 1 by decide) (zcM (hw.has (p:=5) rfl)) (zam zbo (hw.has (p:=7) rfl)) (show zaP 1 by decide) (fun z hz2=>zam Go.Stn.encI_ok (zbV (f:=rowH 3) (hw.has (p:=6) rfl) hz2)) (zjy hz) (fun z hz2=>zam zyn (zbV (f:=rowO 122) (hw.has (p:=8) rfl) hz2)) (zn2 hv) (fun z hz2=>zcM (zbV (f:=rowO 122) (hw.has (p:=8) rfl) hz2)) (zsv hv) (zam ztJ (hw.has (p:=4) rfl)) (show zaP 2 by decide) (show 2≤2 by decide) (zam zyx (hw.has (p:=3) rfl)) (show zaP 1 by decide))) (gM rfl (gQ (zaB rfl rfl) (gQ (zaB rfl rfl) (gQ (zaB rfl rfl) (gA rfl (gA rfl (gA rfl (gN [0,1,3,4,5,6,7,8,9] rfl (gS (gQ (zat 9 tf37 rfl rfl (vs:=[_,_]) rfl rfl) (gQ (zat 2 tf40 rfl rfl (vs:=[_,_]) rfl rfl) (gQ (zat 0 tf41 rfl rfl (vs:=[_,_,_,_,_]) rfl rfl) ?_))))))))))))
 refine gQ (zaJ en24 rfl (fun w hw=>zAz _ _ [z0] _ _ [v0] _ _ wkC _ _ wkB wkE 0 false w (zam zbI (hw.has (p:=5) rfl)) (show zaP 1 by decide) (zcM (hw.has (p:=5) rfl)) (zam zbo (hw.has (p:=7) rfl)) (show zaP 1 by decide) (fun z hz2=>zam Go.Stn.encI_ok (zbV (f:=rowH 3) (hw.has (p:=6) rfl) hz2)) (zjy hz) (fun z hz2=>zam zyn (zbV (f:=rowO 122) (hw.has (p:=8) rfl) hz2)) (zn2 hv) (fun z hz2=>zcM (zbV (f:=rowO 122) (hw.has (p:=8) rfl) hz2)) (zsv hv) (zam ztJ (hw.has (p:=4) rfl)) (show zaP 2 by decide) (show 2≤2 by decide) (zam zyx (hw.has (p:=3) rfl)) (show zaP 1 by decide))) (gM rfl (gQ (zaB rfl rfl) (gQ (zaB rfl rfl) (gQ (zaB rfl rfl) (gA rfl (gA rfl (gA rfl (gN [0,1,3,4,5,6,7,8,9,12] rfl (gS (gQ (zat 9 tf37 rfl rfl (vs:=[_,_]) rfl rfl) (gQ (zat 2 tf40 rfl rfl (vs:=[_,_]) rfl rfl) (gQ (zat 0 tf41 rfl rfl (vs:=[_,_,_,_,_]) rfl rfl) ?_))))))))))))
 refine zaG rfl rfl (zbm en15 rfl (fun w hw=>zE5 _ _ [z0] _ _ [v0] _ _ wkC _ _ wkB wkE 1 w (zam zbI (hw.has (p:=5) rfl)) (show zaP 1 by decide) (zcM (hw.has (p:=5) rfl)) (zam zbo (hw.has (p:=7) rfl)) (show zaP 1 by decide) (fun z hz2=>zam Go.Stn.encI_ok (zbV (f:=rowH 3) (hw.has (p:=6) rfl) hz2)) (zjy hz) (fun z hz2=>zam zyn (zbV (f:=rowO 122) (hw.has (p:=8) rfl) hz2)) (zn2 hv) (fun z hz2=>zcM (zbV (f:=rowO 122) (hw.has (p:=8) rfl) hz2)) (zsv hv) (zam ztJ (hw.has (p:=4) rfl)) (show zaP 2 by decide) (show 2≤2 by decide) (zam zyx (hw.has (p:=3) rfl)) (show zaP 1 by decide))) fun p53=>(gM rfl (gQ (zaB rfl rfl) (gQ (zaB rfl rfl) (gA rfl (gA rfl (gN [0,1,3,4,5,7,8,9,12,13,14] rfl (gS (gQ (zat 10 tf37 rfl rfl (vs:=[_,_]) rfl rfl) (gQ (zat 3 tf40 rfl rfl (vs:=[_,_]) rfl rfl) (gQ (zat 2 tf41 rfl rfl (vs:=[_,_,_,_,_]) rfl rfl) ?_))))))))))
 refine zaG rfl rfl (zbm en23 rfl (fun w hw=>zEF _ _ [z0] _ _ [v0] _ _ wkC _ _ wkB wkH 0 1 w (zam zbI (hw.has (p:=6) rfl)) (show zaP 1 by decide) (zcM (hw.has (p:=6) rfl)) (zam zbo (hw.has (p:=8) rfl)) (show zaP 1 by decide) (fun z hz2=>zam Go.Stn.encI_ok (zbV (f:=rowH 3) (hw.has (p:=7) rfl) hz2)) (zjy hz) (fun z hz2=>zam zyn (zbV (f:=rowO 122) (hw.has (p:=9) rfl) hz2)) (zn2 hv) (fun z hz2=>zcM (zbV (f:=rowO 122) (hw.has (p:=9) rfl) hz2)) (zsv hv) (zam ztJ (hw.has (p:=5) rfl)) (show zaP 2 by decide) (show 2≤2 by decide) (zam zyx (hw.has (p:=4) rfl)) (show zaP 1 by decide))) fun p60=>(gM rfl (gQ (zaB rfl rfl) (gQ (zaB rfl rfl) (gQ (zaB rfl rfl) (gA rfl (gA rfl (gA rfl (gN [0,1,3,4,5,7,8,9,12,13,14,15,16,17] rfl (zz4 fun hWK=>?_)))))))))
 have hKl:p60.2.2.length=1:=by have h:=congrArg List.length hWK; rw [lM] at h; rw [h]; exact hC3
 refine gS (gQ (zat 11 tf37 rfl rfl (vs:=[_,_]) rfl rfl) (gQ (zat 4 tf40 rfl rfl (vs:=[_,_]) rfl rfl) (gQ (zat 3 tf41 rfl rfl (vs:=[_,_,_,_,_]) rfl rfl) (zaG rfl rfl (zbm en16 rfl (fun w hw=>zE7 _ _ [z0] _ _ [v0] _ _ wkC _ _ wkB wkH w (zam zbI (hw.has (p:=7) rfl)) (show zaP 1 by decide) (zcM (hw.has (p:=7) rfl)) (zam zbo (hw.has (p:=9) rfl)) (show zaP 1 by decide) (fun z hz2=>zam Go.Stn.encI_ok (zbV (f:=rowH 3) (hw.has (p:=8) rfl) hz2)) (zjy hz) (fun z hz2=>zam zyn (zbV (f:=rowO 122) (hw.has (p:=10) rfl) hz2)) (zn2 hv) (fun z hz2=>zcM (zbV (f:=rowO 122) (hw.has (p:=10) rfl) hz2)) (zsv hv) (zam ztJ (hw.has (p:=6) rfl)) (show zaP 2 by decide) (show 2≤2 by decide) (zam zyx (hw.has (p:=5) rfl)) (show zaP 1 by decide))) fun p68=>(gM rfl (gQ (zaB rfl rfl) (gQ (zaB rfl rfl) (gQ (zaB rfl rfl) (gA rfl (gA rfl (gA rfl (gN [0,3,7,8,9,12,13,14,15,16,17,18,19,20] rfl (gS (gM rfl (gQ (zbL rfl rfl) (gM rfl (gT rfl rfl rfl (gM rfl (gT rfl rfl rfl (gQ (zbQ (zbL rfl rfl) (by rw [hA1]; rfl)) (gQ (za5 rfl rfl rfl) (gM rfl (gT rfl rfl rfl (gM rfl (gT rfl rfl rfl (gQ (zbQ (zbL rfl rfl) (by rw [hA1]; rfl)) ?_))))))))))))))))))))))))))
 refine gQ (za5 rfl rfl rfl) (gM rfl (gT rfl rfl rfl (gM rfl (gT rfl rfl rfl (gQ (zbQ (zbL rfl rfl) (by rw [hA1]; rfl)) (gQ (za5 rfl rfl rfl) (gM rfl (gT rfl rfl rfl (gM rfl (gT rfl rfl rfl (gQ (zbQ (zbL rfl rfl) (by rw [hA2]; rfl)) (gQ (za5 rfl rfl rfl) (gM rfl (gT rfl rfl rfl (gM rfl (gT rfl rfl rfl (gQ (zbQ (zbL rfl rfl) (by exact decide_eq_true hR1)) (gQ (za5 rfl rfl rfl) (gM rfl (gT rfl rfl rfl (gM rfl (gT rfl rfl rfl (gQ (zaV (Tryz.underlying45) rfl) (gT rfl rfl rfl (gQ (zbQ (zbL rfl rfl) (by rw [hRl]; rfl)) (gQ (za5 rfl rfl rfl) (gM rfl (gT rfl rfl rfl (gM rfl (gT rfl rfl rfl (gQ (zaE se45 rfl rfl (fun _ hw=>(zam Go.Stn.encI_ok (hw.has (p:=2) rfl)))) (gT rfl rfl rfl (gQ (zcE tf3 rfl (fun _ hw=>(zam Go.Stn.encI_ok (hw.has (p:=2) rfl))) (by omega) (by omega) rfl) (gT rfl rfl rfl (gQ (zbQ (zbL rfl rfl) (by rw [show(0:Int).toNat=0 from rfl,hR2]; rfl)) (gQ (za5 rfl rfl rfl) (gM rfl (gT rfl rfl rfl (gM rfl (gT rfl rfl rfl ?_))))))))))))))))))))))))))))))))))))))))
 refine gQ (zbQ (zbL rfl rfl) (by exact decide_eq_true hC1)) (gQ (za5 rfl rfl rfl) (gM rfl (gT rfl rfl rfl (gM rfl (gT rfl rfl rfl (gQ (zaV (Tryz.underlying45) rfl) (gT rfl rfl rfl (gQ (zbQ (zbL rfl rfl) (by rw [hC2]; rfl)) (gQ (za5 rfl rfl rfl) (gM rfl (gT rfl rfl rfl (gM rfl (gT rfl rfl rfl (gQ (zaV (Tryz.underlying60) rfl) (gT rfl rfl rfl (gQ (zbQ (zbL rfl rfl) (by rw [hKl]; rfl)) (gQ (za5 rfl rfl rfl) (gM rfl (gT rfl rfl rfl (gM rfl (gT rfl rfl rfl (gQ (zbQ (zbL rfl rfl) (by exact decide_eq_true hS1)) (gQ (za5 rfl rfl rfl) (gM rfl (gT rfl rfl rfl (gM rfl (gT rfl rfl rfl (gQ (zaV (Tryz.underlying49) rfl) (gT rfl rfl rfl (gQ (zbQ (zbL rfl rfl) (by rw [hS2]; rfl)) (gQ (za5 rfl rfl rfl) (gM rfl (gT rfl rfl rfl (gM rfl (gT rfl rfl rfl (gQ (zaV (Tryz.underlying49) rfl) (gT rfl rfl rfl (gQ (zbQ (zbL rfl rfl) (by rw [hS3]; rfl)) (gQ (za5 rfl rfl rfl) (gA rfl ?_))))))))))))))))))))))))))))))))))))))))
 refine gN [0] rfl (zaw (zay (zaC rfl (zau rfl)) ?_))
 rfl
end Go.Proofs.YteepmmghanbllaaGreatDoor
namespace Go.Fld
open Go Go.K Go.Stn Go.Pln
structure Trk where
 eff:Int
 l:List Crg
 there:Bool
instance:Inhabited Trk:=⟨⟨0,[],false⟩⟩
abbrev zIh (l:List Crg):List Int:=l.map (·.brd)
def lexB:List Int→List Int→Bool
 | a :: l,b :: m=>if a=b then lexB l m else decide (a < b)
 | _,_=>false
def kLt (a b:Trk):Bool:=if a.eff=b.eff then(if a.l.length=b.l.length then lexB (zIh a.l) (zIh b.l) else decide (a.l.length < b.l.length)) else decide (a.eff < b.eff)
def zIg (a b:Trk):Bool:=!b.there||kLt a b
def extT (t:Trk) (c:Crg):Trk:=⟨t.eff+c.eff,t.l++[c],true⟩
theorem zIM:∀ a:List Int,lexB a a=false
 | []=>rfl
 | x :: l=>by rw [lexB,if_pos rfl]; exact zIM l
theorem zJG:∀ {a b c:List Int},a.length=b.length→b.length=c.length→lexB a b=false→lexB b c=false→lexB a c=false
 | [],_,_,_,_,_,_=>by unfold lexB; rfl
 | x :: a,[],_,h,_,_,_=>by cases h
 | x :: a,y :: b,[],_,h,_,_=>by cases h
 | x :: a,y :: b,z :: c,h1,h2,h3,h4=>by
  rw [lexB] at h3 h4 ⊢
  simp only [lC,Nat.add_right_cancel_iff] at h1 h2
  by_cases e1:x=y
  ·by_cases e2:y=z
   ·rw [if_pos e1] at h3; rw [if_pos e2] at h4; rw [if_pos (e1.trans e2)]
    exact zJG h1 h2 h3 h4
   ·rw [if_neg e2] at h4; subst e1; rw [if_neg e2]; exact h4
  ·rw [if_neg e1] at h3
   have h3:=oD h3
   by_cases e2:y=z
   ·subst e2; rw [if_neg e1]; exact decide_eq_false h3
   ·rw [if_neg e2] at h4
    have h4:=oD h4
    rw [if_neg (by omega)]; exact decide_eq_false (by omega)
theorem zIT:∀ {a b:List Int} {x:Int},a.length=b.length→lexB (a++[x]) (b++[x])=lexB a b
 | [],[],x,_=>by simp [lexB]
 | [],_ :: _,_,h=>by cases h
 | _ :: _,[],_,h=>by cases h
 | u :: a,v :: b,x,h=>by
  simp only [lC,Nat.add_right_cancel_iff] at h
  show lexB (u :: (a++[x])) (v :: (b++[x]))=_
  rw [lexB,lexB,zIT h]
theorem zIS:∀ {a b:List Int},lexB a b=true→lexB b a=false
 | [],_,h=>by unfold lexB at h; cases h
 | _ :: _,[],h=>by unfold lexB at h; cases h
 | x :: a,y :: b,h=>by
  rw [lexB] at h ⊢
  by_cases e:x=y
  ·rw [if_pos e] at h; rw [if_pos e.symm]; exact zIS h
  ·rw [if_neg e] at h; rw [if_neg (fun k=>e k.symm)]
   have:=oT h; exact decide_eq_false (by omega)
theorem zId {l:List Crg}:(zIh l).length=l.length:=lM ..
theorem zKf (a:Trk):kLt a a=false:=by unfold kLt; rw [if_pos rfl,if_pos rfl]; exact zIM _
theorem k_nt {a b c:Trk} (h1:kLt a b=false) (h2:kLt b c=false):kLt a c=false:=by
 unfold kLt at *
 by_cases e1:a.eff=b.eff
 ·by_cases e2:b.eff=c.eff
  ·rw [if_pos e1] at h1; rw [if_pos e2] at h2; rw [if_pos (e1.trans e2)]
   by_cases l1:a.l.length=b.l.length
   ·by_cases l2:b.l.length=c.l.length
    ·rw [if_pos l1] at h1; rw [if_pos l2] at h2; rw [if_pos (l1.trans l2)]
     exact zJG (by simpa [zId] using l1) (by simpa [zId] using l2) h1 h2
    ·rw [if_neg l2] at h2; rw [if_neg (by omega)]; have:=oD h2; exact decide_eq_false (by omega)
   ·rw [if_neg l1] at h1
    have h1:=oD h1
    by_cases l2:b.l.length=c.l.length
    ·rw [if_neg (by omega)]; exact decide_eq_false (by omega)
    ·rw [if_neg l2] at h2; have:=oD h2; rw [if_neg (by omega)]; exact decide_eq_false (by omega)
  ·rw [if_neg e2] at h2; have:=oD h2; rw [if_neg (by omega)]; exact decide_eq_false (by omega)
 ·rw [if_neg e1] at h1
  have h1:=oD h1
  by_cases e2:b.eff=c.eff
  ·rw [if_neg (by omega)]; exact decide_eq_false (by omega)
  ·rw [if_neg e2] at h2; have:=oD h2; rw [if_neg (by omega)]; exact decide_eq_false (by omega)
theorem zJ1 {a b:Trk} (h:kLt a b=true):kLt b a=false:=by
 unfold kLt at *
 by_cases e1:a.eff=b.eff
 ·rw [if_pos e1] at h; rw [if_pos e1.symm]
  by_cases l1:a.l.length=b.l.length
  ·rw [if_pos l1] at h; rw [if_pos l1.symm]; exact zIS h
  ·rw [if_neg l1] at h; rw [if_neg (fun k=>l1 k.symm)]; have:=oT h; exact decide_eq_false (by omega)
 ·rw [if_neg e1] at h; rw [if_neg (fun k=>e1 k.symm)]; have:=oT h; exact decide_eq_false (by omega)
theorem zKe {a b:Trk} {c:Crg} (h:kLt a b=false):kLt (extT a c) (extT b c)=false:=by
 unfold kLt extT at *
 simp only [lA,lC,lN]
 by_cases e1:a.eff=b.eff
 ·rw [if_pos e1] at h; rw [if_pos (by omega)]
  by_cases l1:a.l.length=b.l.length
  ·rw [if_pos l1] at h; rw [if_pos (by omega)]
   simp only [zIh,List.map_append,List.map_cons,List.map_nil]
   rw [zIT (by simpa using l1)]; exact h
  ·rw [if_neg l1] at h; rw [if_neg (by omega)]; have:=oD h; exact decide_eq_false (by omega)
 ·rw [if_neg e1] at h; rw [if_neg (by omega)]; have:=oD h; exact decide_eq_false (by omega)
theorem zKd {a b:Trk} (h:kLt a b=false):b.eff≤a.eff:=by
 unfold kLt at h
 by_cases e:a.eff=b.eff
 ·omega
 ·rw [if_neg e] at h; have:=oD h; omega
theorem zJ2 {a b:Trk} (h:b.eff < a.eff):kLt a b=false:=by
 unfold kLt; rw [if_neg (by omega)]; exact decide_eq_false (by omega)
theorem zJ7 {a b:Trk} (h:zIg a b=false):b.there=true∧kLt a b=false:=by
 unfold zIg at h
 cases hb:b.there <;> rw [hb] at h
 ·cases h
 ·exact⟨rfl,h⟩
def effL (l:List Crg):Int:=l.foldr (fun c n=>c.eff+n) 0
theorem zIJ:∀ {l m:List Crg},effL (l++m)=effL l+effL m
 | [],m=>by show effL m=0+effL m; omega
 | c :: l,m=>by show c.eff+effL (l++m)=(c.eff+effL l)+effL m; rw [zIJ]; omega
theorem zI3:∀ {l m:List Crg} {x y z:Int},Chn x l y→Chn y m z→Chn x (l++m) z
 | [],m,x,y,z,h,k=>by have h:x=y:=h; subst h; exact k
 | c :: l,m,x,y,z,h,k=>⟨h.1,zI3 h.2 k⟩
theorem zIC:∀ {l m:List Crg} {x z:Int},Chn x (l++m) z→∃ y,Chn x l y∧Chn y m z
 | [],m,x,z,h=>⟨x,rfl,h⟩
 | c :: l,m,x,z,h=>by obtain⟨y,h1,h2⟩:=zIC (l:=l) h.2; exact⟨y,⟨h.1,h1⟩,h2⟩
def zIm (W:List (Crg×Crg)) (may:Crg→Bool) (c:Crg):Prop:=c∈allC W∧-1≤c.way∧may c=true
structure Wk (W:List (Crg×Crg)) (may:Crg→Bool) (x:Int) (l:List Crg) (y:Int):Prop where
 chn:Chn x l y
 use:∀ c∈l,zIm W may c
theorem Wk.nil {W:List (Crg×Crg)} {may:Crg→Bool} {x:Int}:Wk W may x [] x:=⟨rfl,fun _ h=>by cases h⟩
theorem Wk.snoc {W:List (Crg×Crg)} {may:Crg→Bool} {x:Int} {l:List Crg} {c:Crg} (h:Wk W may x l c.frm) (hc:zIm W may c):Wk W may x (l++[c]) c.to:=
 ⟨zI3 h.chn ⟨rfl,rfl⟩,fun d hd=>by
  rcases List.mem_append.1 hd with h1 | h1
  ·exact h.use d h1
  ·rw [List.mem_singleton.1 h1]; exact hc⟩
structure Best (W:List (Crg×Crg)) (may:Crg→Bool) (n:Nat) (frm:Int) (T:List Trk):Prop where
 len:T.length=n
 st:T.getD frm.toNat default=⟨0,[],true⟩
 wk:∀ i:Nat,i < n→(T.getD i default).there=true→Wk W may frm (T.getD i default).l i∧(T.getD i default).eff=effL (T.getD i default).l
 no:∀ i:Nat,i < n→(T.getD i default).there=false→T.getD i default=default
 fix:∀ c,zIm W may c→(T.getD c.frm.toNat default).there=true→zIg (extT (T.getD c.frm.toNat default) c) (T.getD c.to.toNat default)=false
section
variable {W:List (Crg×Crg)} {may:Crg→Bool} {n:Nat} {frm:Int} {T U:List Trk} {bs:List Bdr}
theorem zJq (hb:Best W may n frm T):∀ (l:List Crg) {y:Int},Wk W may frm l y→(T.getD y.toNat default).there=true∧kLt ⟨effL l,l,true⟩ (T.getD y.toNat default)=false:=by
 intro l
 have key:∀ (m:Nat) (l:List Crg),l.length=m→∀ {y:Int},Wk W may frm l y→(T.getD y.toNat default).there=true∧kLt ⟨effL l,l,true⟩ (T.getD y.toNat default)=false:=by
  intro m
  induction m with
  | zero=>
   intro l hl y h
   obtain rfl:=List.eq_nil_of_length_eq_zero hl
   have h1:frm=y:=h.chn
   subst h1
   rw [hb.st]
   exact⟨rfl,zKf _⟩
  | succ m ih=>
   intro l hl y h
   have hne:l≠[]:=by intro h0; rw [h0] at hl; cases hl
   obtain⟨p,c,rfl⟩:∃ p c,l=p++[c]:=⟨l.dropLast,l.getLast hne,(List.dropLast_concat_getLast hne).symm⟩
   obtain⟨z,h1,h2⟩:=zIC h.chn
   have hz:c.frm=z:=h2.1
   have hy:c.to=y:=h2.2
   subst hz; subst hy
   have hp:Wk W may frm p c.frm:=⟨h1,fun d hd=>h.use d (List.mem_append_left _ hd)⟩
   obtain⟨i1,i2⟩:=ih p (by rw [lA] at hl; simpa using hl) hp
   obtain⟨f1,f2⟩:=zJ7 (hb.fix c (h.use c (List.mem_append_right _ (List.mem_singleton.2 rfl))) i1)
   refine⟨f1,?_⟩
   have h3:=k_nt (zKe (c:=c) i2) f2
   have e:extT ⟨effL p,p,true⟩ c=⟨effL (p++[c]),p++[c],true⟩:=by
    unfold extT; rw [zIJ]; simp only [effL,List.foldr]; rw [Int.add_zero]
   rwa [e] at h3
 intro y h
 exact key l.length l rfl h
theorem zJs {α:Type} [Inhabited α] {a b:List α} (h:a.length=b.length) (k:∀ i:Nat,i < a.length→a.getD i default=b.getD i default):a=b:=by
 refine List.ext_getElem h fun i h1 h2=>?_
 have:=k i h1
 rwa [gE,gE,eG h1,eG h2] at this
theorem zKa {x y:Int} (h:Rch W may x y):∃ l,Wk W may x l y:=by
 induction h with
 | here=>exact⟨[],.nil⟩
 | far _ h2 h3 ih=>
  obtain⟨l,hl⟩:=ih
  obtain⟨o1,_,o3⟩:=zJd h2
  exact⟨_,hl.snoc ⟨o1,o3,h3⟩⟩
theorem zJI:∀ {l:List Crg} {x y:Int},Wk W may x l y→Rch W may x y
 | [],x,y,h=>by have h:x=y:=h.chn; subst h; exact .here
 | c :: l,x,y,h=>by
  obtain⟨h1,h2,h3⟩:=h.use c (mS ..)
  have hx:c.frm=x:=h.chn.1
  subst hx
  exact Rch.trans (.far .here (zJK h1 h2) h3) (zJI ⟨h.chn.2,fun d hd=>h.use d (mM _ hd)⟩)
theorem zJr (h:Best W may n frm T) {i:Nat} (hi:i < n):(T.getD i default).there=true↔Rch W may frm i:=by
 constructor
 ·intro e; exact zJI (h.wk i hi e).1
 ·intro e
  obtain⟨l,hl⟩:=zKa e
  have:=(zJq h l hl).1
  rwa [Int.toNat_natCast] at this
end
def cntT (T:List Trk):Nat:=T.countP (·.there)
theorem zI4:∀ {T:List Trk} {i:Nat} {v:Trk},i < T.length→v.there=true→cntT (T.set i v)=cntT T+if (T.getD i default).there=true then 0 else 1
 | [],_,_,h,_=>by cases h
 | t :: T,0,v,_,hv=>by
  show List.countP _ (v :: T)=List.countP _ (t :: T)+if t.there=true then 0 else 1
  rw [List.countP_cons,List.countP_cons,if_pos hv]
  by_cases h:t.there=true
  ·rw [if_pos h,if_pos h]
  ·rw [if_neg h,if_neg h]
 | t :: T,i+1,v,h,hv=>by
  have ih:=zI4 (T:=T) (i:=i) (v:=v) (by simpa using h) hv
  show List.countP _ (t :: T.set i v)=List.countP _ (t :: T)+if (T.getD i default).there=true then 0 else 1
  unfold cntT at ih
  rw [List.countP_cons,List.countP_cons,ih]
  omega
theorem zJY {T:List Trk}:cntT T≤T.length:=List.countP_le_length
theorem zIq {T:List Trk} {i j:Nat} {v:Trk} (h:i < T.length):(T.set i v).getD j default=if j=i then v else T.getD j default:=by
 rw [gE,List.getElem?_set,gE]
 by_cases hj:i=j
 ·subst hj; rw [if_pos rfl,if_pos h,if_pos rfl]; simp
 ·rw [if_neg hj,if_neg (fun h=>hj h.symm)]
def bigN:Nat:=300000
def bigP:Nat:=81 ^ bigN
def valB:List Int→Nat
 | []=>0
 | a :: l=>a.toNat*81 ^ l.length+valB l
theorem zJo:∀ {l:List Int},(∀ a∈l,0≤a∧a < 81)→valB l < 81 ^ l.length
 | [],_=>by show 0 < 81 ^ 0; decide
 | a :: l,h=>by
  have ih:=zJo (l:=l) fun b hb=>h b (mM _ hb)
  have ha:=h a (mS ..)
  show a.toNat*81 ^ l.length+valB l < 81 ^ (l.length+1)
  rw [Nat.pow_succ]
  have:a.toNat*81 ^ l.length≤80*81 ^ l.length:=Nat.mul_le_mul_right _ (by omega)
  generalize 81 ^ l.length=p at *
  omega
theorem zIO {a a' v v' P:Nat} (h:a < a') (hv:v < P):a*P+v < a' * P+v':=by
 have:(a+1)*P≤a' * P:=Nat.mul_le_mul_right _ h
 rw [Nat.add_mul,Nat.one_mul] at this
 omega
theorem zJn:∀ {a b:List Int},a.length=b.length→(∀ x∈a,0≤x∧x < 81)→(∀ x∈b,0≤x∧x < 81)→lexB a b=true→valB a < valB b
 | [],_,_,_,_,h=>by unfold lexB at h; cases h
 | _ :: _,[],_,_,_,h=>by unfold lexB at h; cases h
 | x :: a,y :: b,hl,h1,h2,h=>by
  simp only [lC,Nat.add_right_cancel_iff] at hl
  have hx:=h1 x (mS ..)
  have hy:=h2 y (mS ..)
  rw [lexB] at h
  show x.toNat*81 ^ a.length+valB a < y.toNat*81 ^ b.length+valB b
  rw [←hl]
  by_cases e:x=y
  ·rw [if_pos e] at h; subst e
   have:=zJn hl (fun z hz=>h1 z (mM _ hz)) (fun z hz=>h2 z (mM _ hz)) h
   omega
  ·rw [if_neg e] at h
   have:=oT h
   exact zIO (by omega) (zJo fun z hz=>h1 z (mM _ hz))
def zIn (t:Trk):Nat:=if t.there=true then(t.eff.toNat*300000+t.l.length)*bigP+valB (zIh t.l) else 300000*300000*bigP
def zIj:List Trk→Nat
 | []=>0
 | t :: T=>zIn t+zIj T
theorem zIU:∀ {T:List Trk} {i:Nat} {v:Trk},i < T.length→zIn v < zIn (T.getD i default)→zIj (T.set i v) < zIj T
 | [],_,_,h,_=>by cases h
 | t :: T,0,v,_,hv=>by
  have hv:zIn v < zIn t:=hv
  show zIn v+zIj T < zIn t+zIj T
  omega
 | t :: T,i+1,v,h,hv=>by
  have ih:=zIU (T:=T) (i:=i) (v:=v) (by simpa using h) hv
  show zIn t+zIj (T.set i v) < zIn t+zIj T
  omega
structure Fine (t:Trk):Prop where
 e0:0≤t.eff
 e1:t.eff≤280040
 len:(t.l.length:Int)≤t.eff
 brd:∀ c∈t.l,0≤c.brd∧c.brd < 81
theorem Fine.val {t:Trk} (h:Fine t):valB (zIh t.l) < bigP:=by
 have h1:valB (zIh t.l) < 81 ^ (zIh t.l).length:=zJo fun a ha=>by
  obtain⟨c,hc,rfl⟩:=List.mem_map.1 ha
  exact h.brd c hc
 refine lL h1 ?_
 unfold bigP
 refine Nat.pow_le_pow_right (by decide) ?_
 have:=h.e1; have:=h.len; rw [zId]; show t.l.length≤300000; omega
theorem zJT {a b:Trk} (ha:Fine a) (hta:a.there=true) (hb:b.there=true→Fine b) (h:zIg a b=true):zIn a < zIn b:=by
 have a0:=ha.e0; have a1:=ha.e1; have a2:=ha.len; have av:=ha.val
 unfold zIn
 rw [if_pos hta]
 cases e:b.there with
 | false=>
  rw [if_neg (by decide)]
  have:=zIO (a:=a.eff.toNat*300000+a.l.length) (a':=300000*300000) (v:=valB (zIh a.l)) (v':=0) (P:=bigP) (by omega) av
  omega
 | true=>
  rw [if_pos rfl]
  have hbf:=hb e
  have b0:=hbf.e0; have b2:=hbf.len; have b1:=hbf.e1
  have hk:kLt a b=true:=by unfold zIg at h; rw [e] at h; exact h
  unfold kLt at hk
  by_cases e1:a.eff=b.eff
  ·rw [if_pos e1] at hk
   by_cases l1:a.l.length=b.l.length
   ·rw [if_pos l1] at hk
    have:=zJn (by simpa using l1) (fun x hx=>by obtain⟨c,hc,rfl⟩:=List.mem_map.1 hx; exact ha.brd c hc) (fun x hx=>by obtain⟨c,hc,rfl⟩:=List.mem_map.1 hx; exact hbf.brd c hc) hk
    rw [e1,l1]; omega
   ·rw [if_neg l1] at hk
    have:=oT hk
    exact zIO (by rw [e1]; omega) av
  ·rw [if_neg e1] at hk
   have:=oT hk
   exact zIO (by omega) av
def zJJ (W:List (Crg×Crg)):Prop:=∀ c∈allC W,-1≤c.way→1≤c.eff∧c.eff≤7001
def zIB (W:List (Crg×Crg)) (n:Nat):Prop:=∀ c∈allC W,(0≤c.frm∧c.frm < n)∧0≤c.to∧c.to < n
structure Imp (W:List (Crg×Crg)) (may:Crg→Bool) (n:Nat) (frm:Int) (T:List Trk):Prop where
 len:T.length=n
 st:T.getD frm.toNat default=⟨0,[],true⟩
 wk:∀ i:Nat,i < n→(T.getD i default).there=true→Wk W may frm (T.getD i default).l i∧(T.getD i default).eff=effL (T.getD i default).l
 no:∀ i:Nat,i < n→(T.getD i default).there=false→T.getD i default=default
 bnd:∀ i:Nat,i < n→(T.getD i default).there=true→(T.getD i default).eff≤7001*cntT T∧((T.getD i default).l.length:Int)≤(T.getD i default).eff
section
variable {W:List (Crg×Crg)} {may:Crg→Bool} {n:Nat} {frm:Int} {T:List Trk} {bs:List Bdr}
theorem zIo (hp:zyI W bs) (hbs:bs.length≤80) (h:Imp W may n frm T) (hn:n≤40) {i:Nat} (hi:i < n) (ht:(T.getD i default).there=true):Fine (T.getD i default):=by
 obtain⟨b1,b2⟩:=h.bnd i hi ht
 have hc:cntT T≤n:=by rw [←h.len]; exact zJY
 refine⟨by omega,by omega,b2,fun c hc=>?_⟩
 obtain⟨j,hj,e⟩:=zFE ((h.wk i hi ht).1.use c hc).1
 have:=hp.len; have:=hp.fst j hj; have:=hp.snd j hj
 rcases e with e | e <;> rw [e] <;> omega
theorem zJc (h0:0≤frm) (h1:frm < n):Imp W may n frm ((List.replicate n default).set frm.toNat ⟨0,[],true⟩):=by
 have hf:frm.toNat < (List.replicate n (default:Trk)).length:=by rw [List.length_replicate]; omega
 have hd:∀ i,(List.replicate n (default:Trk)).getD i default=default:=fun i=>by
  rw [gE]
  cases h:(List.replicate n (default:Trk))[i]? with
  | none=>rfl
  | some v=>exact(List.mem_replicate.1 (List.mem_of_getElem? h)).2
 refine⟨by rw [List.length_set,List.length_replicate],by rw [zIq hf,if_pos rfl],fun i hi ht=>?_,fun i hi ht=>?_,fun i hi ht=>?_⟩
 ·rw [zIq hf] at ht ⊢
  by_cases e:i=frm.toNat
  ·rw [if_pos e]; exact⟨⟨show frm=i by omega,fun _ h=>by cases h⟩,rfl⟩
  ·rw [if_neg e,hd] at ht; cases ht
 ·rw [zIq hf] at ht ⊢
  by_cases e:i=frm.toNat
  ·rw [if_pos e] at ht; cases ht
  ·rw [if_neg e,hd]
 ·rw [zIq hf] at ht ⊢
  by_cases e:i=frm.toNat
  ·rw [if_pos e]; exact⟨by show(0:Int)≤_; omega,by show((0:Nat):Int)≤0; decide⟩
  ·rw [if_neg e,hd] at ht; cases ht
theorem zJw (hp:zyI W bs) (hbs:bs.length≤80) (he:zJJ W) (hw:zIB W n) (hn:n≤40) (h0:0≤frm) (h:Imp W may n frm T) {c:Crg} (hc:zIm W may c) (ht:(T.getD c.frm.toNat default).there=true)
  (hl:zIg (extT (T.getD c.frm.toNat default) c) (T.getD c.to.toNat default)=true):Imp W may n frm (T.set c.to.toNat (extT (T.getD c.frm.toNat default) c))∧zIj (T.set c.to.toNat (extT (T.getD c.frm.toNat default) c)) < zIj T:=by
 obtain⟨⟨c0,c1⟩,c2,c3⟩:=hw c hc.1
 obtain⟨e0,e1⟩:=he c hc.1 hc.2.1
 have hfi:c.frm.toNat < n:=by omega
 have hti:c.to.toNat < T.length:=by rw [h.len]; omega
 have hff:=zIo hp hbs h hn hfi ht
 have f0:=hff.e0
 obtain⟨hb1,hb2⟩:=h.bnd _ hfi ht
 obtain⟨hw1,hw2⟩:=h.wk _ hfi ht
 rw [tN c0] at hw1
 have hne:c.to≠frm:=by
  intro e
  rw [e,h.st] at hl
  have:kLt (extT (T.getD c.frm.toNat default) c) ⟨0,[],true⟩=false:=zJ2 (by show(0:Int) < _+_; omega)
  rw [show zIg (extT (T.getD c.frm.toNat default) c) ⟨0,[],true⟩=kLt (extT (T.getD c.frm.toNat default) c) ⟨0,[],true⟩ from rfl,this] at hl
  cases hl
 have hlow:(T.getD c.to.toNat default).there=true→(T.getD c.frm.toNat default).eff+c.eff≤(T.getD c.to.toNat default).eff:=fun e=>by
  unfold zIg at hl
  rw [e] at hl
  have:=zKd (zJ1 (a:=extT (T.getD c.frm.toNat default) c) (b:=T.getD c.to.toNat default) hl)
  exact this
 have hcs:=zI4 (T:=T) (v:=extT (T.getD c.frm.toNat default) c) hti rfl
 generalize hu:extT (T.getD c.frm.toNat default) c=u at *
 have ue:u.eff=(T.getD c.frm.toNat default).eff+c.eff:=by rw [←hu]; rfl
 have ul:u.l=(T.getD c.frm.toNat default).l++[c]:=by rw [←hu]; rfl
 have ut:u.there=true:=by rw [←hu]; rfl
 have hi:Imp W may n frm (T.set c.to.toNat u):=by
  refine⟨by rw [List.length_set]; exact h.len,by rw [zIq hti,if_neg (by omega)]; exact h.st,fun i hi hx=>?_,fun i hi hx=>?_,fun i hi hx=>?_⟩
  ·rw [zIq hti] at hx ⊢
   by_cases e:i=c.to.toNat
   ·rw [if_pos e,ul,ue]
    rw [show(i:Int)=c.to from by omega]
    exact⟨hw1.snoc hc,by rw [zIJ,hw2]; simp only [effL,List.foldr]; omega⟩
   ·rw [if_neg e] at hx ⊢; exact h.wk i hi hx
  ·rw [zIq hti] at hx ⊢
   by_cases e:i=c.to.toNat
   ·rw [if_pos e,ut] at hx; cases hx
   ·rw [if_neg e] at hx ⊢; exact h.no i hi hx
  ·rw [zIq hti] at hx ⊢
   by_cases e:i=c.to.toNat
   ·rw [if_pos e,ul,ue,hcs,lA]
    refine⟨?_,by simp only [lC,lN]; omega⟩
    by_cases k:(T.getD c.to.toNat default).there=true
    ·have:=hlow k
     have:=(h.bnd c.to.toNat (by omega) k).1
     rw [if_pos k]; omega
    ·rw [if_neg k]; omega
   ·rw [if_neg e] at hx ⊢
    obtain⟨x1,x2⟩:=h.bnd i hi hx
    refine⟨?_,x2⟩
    rw [hcs]
    omega
 refine⟨hi,zIU hti ?_⟩
 have hcu:c.to.toNat < n:=by omega
 have hxu:=zIo hp hbs hi hn hcu (by rw [zIq hti,if_pos rfl]; exact ut)
 rw [zIq hti,if_pos rfl] at hxu
 exact zJT hxu ut (fun e=>zIo hp hbs h hn hcu e) hl
theorem zJv (h:Imp W may n frm T) (hf:∀ c,zIm W may c→(T.getD c.frm.toNat default).there=true→zIg (extT (T.getD c.frm.toNat default) c) (T.getD c.to.toNat default)=false):Best W may n frm T:=
 ⟨h.len,h.st,h.wk,h.no,hf⟩
end
section
variable {s:Sht} {shut:Bool} {g h:Int} {l:List Opn} {x:Anm}
theorem zDp:∀ n,(acrN s shut g h l x n).some=true→mayR s shut g h l x (acrN s shut g h l x n).way=((acrN s shut g h l x n).eff,true)
 | 0,hs=>by cases hs
 | n+1,hs=>by
  have ih:=zDp n
  unfold acrN at hs ⊢
  simp only at hs ⊢
  split
  ·rename_i hc
   simp only [aT] at hc
   exact Prod.ext rfl hc.1
  ·rename_i hc
   rw [if_neg hc] at hs
   exact ih hs
theorem zHM {way:Int} (hm:(mayR s shut g h l x way).2=true):∃ k,k < l.length+1∧wayN l k=way:=by
 by_cases e:way = -1
 ·exact⟨l.length,by omega,by rw [e]; exact if_pos rfl⟩
 ·by_cases e2:way < 0∨(l.length:Int)≤way
  ·rw [zCv e e2] at hm; cases hm
  ·exact⟨way.toNat,by omega,by rw [wayN,if_neg (by omega)]; omega⟩
theorem zJ8 {v:Wll} (hg:Gnd s v g h) (hl:v.opens=l) (way:Int):0≤(mayR s shut g h l x way).1∧(mayR s shut g h l x way).1≤7001∧((mayR s shut g h l x way).2=true→1≤(mayR s shut g h l x way).1):=by
 have ho:=zGy hg
 by_cases k1:way = -1
 ·rw [zFv k1]; simp only; omega
 ·by_cases k2:way < 0∨(l.length:Int)≤way
  ·rw [zCv k1 k2]; simp
  ·by_cases k3:(l.getD way.toNat default).width < x.wide
   ·rw [zCX k1 k2 k3]; simp
   ·by_cases k4:(l.getD way.toNat default).kind=4
    ·rw [zCW k1 k2 k3 k4]; exact⟨(by show(0:Int)≤1; decide),(by show(1:Int)≤7001; decide),fun _=>(by show(1:Int)≤1; decide)⟩
    ·have hfit:=hg.wf.fit (l.getD way.toNat default) (by rw [hl]; exact za0 (by omega))
     have q1:=hfit.f; have q2:=hfit.h; have q3:=hg.nums; have q4:=hg.g
     by_cases k5:(l.getD way.toNat default).kind=3
     ·rw [zBR k1 k2 k3 k4 k5]; simp only; omega
     ·rw [zCV k1 k2 k3 k4 k5]; simp only; omega
end
section
variable {S:List ShC} {V:List WlC} {cs:List ByteArray} {bs:List Bdr} {x:Anm}
theorem zJ3 (h:zym S V cs bs x=true) {i:Int} (h0:0≤i) (h1:i < bs.length) (back:Bool):∃ v:Wll,v=(zaN S V (bs.getD i.toNat default).wall).s∧Gnd (zar S V (bs.getD i.toNat default).wall).s v (gOf (bs.getD i.toNat default) back) (hOf (bs.getD i.toNat default) back):=by
 obtain⟨_,_,_,_,_,hb⟩:=zzD h
 obtain⟨a,b⟩:=zBh (hb i.toNat (by omega))
 cases back
 ·exact⟨_,rfl,a⟩
 ·exact⟨_,rfl,b⟩
theorem zJS (h:zym S V cs bs x=true) {i:Int} (h0:0≤i) (h1:i < bs.length) (back:Bool) (way:Int):0≤(mayB S V x (bs.getD i.toNat default) back way).1∧(mayB S V x (bs.getD i.toNat default) back way).1≤7001∧((mayB S V x (bs.getD i.toNat default) back way).2=true→1≤(mayB S V x (bs.getD i.toNat default) back way).1):=by
 obtain⟨v,e,hg⟩:=zJ3 h h0 h1 back
 exact zJ8 hg (by rw [e]) way
theorem zJX (h:zym S V cs bs x=true) {i:Int} (h0:0≤i) (h1:i < bs.length) (back:Bool) (hw:-1≤(wayI S V bs x i back).way):mayB S V x (bs.getD i.toNat default) back (wayI S V bs x i back).way=((wayI S V bs x i back).eff,true):=by
 have ha:=zFB h h0 h1 back
 unfold zAN at ha
 by_cases hs:(acrB S V x (bs.getD i.toNat default) back ((zaN S V (bs.getD i.toNat default).wall).s.opens.length+1)).some=true
 ·rw [if_pos hs] at ha
  have:=zDp _ hs
  simp only [Prod.mk.injEq] at ha
  rw [←ha.1,←ha.2]; exact this
 ·rw [if_neg hs] at ha
  simp only [Prod.mk.injEq] at ha
  omega
theorem zIY {i:Nat}:fstC (zyj S V bs x) i=wayI S V bs x i false∧sndC (zyj S V bs x) i=wayI S V bs x i true:=⟨by unfold wayI; rw [Int.toNat_natCast]; rfl,by unfold wayI; rw [Int.toNat_natCast]; rfl⟩
theorem zI5 (h:zym S V cs bs x=true):zJJ (zyj S V bs x):=by
 intro c hc hw
 obtain⟨i,hi,e⟩:=zFE hc
 rw [zz5] at hi
 have key:∀ back,-1≤(wayI S V bs x i back).way→1≤(wayI S V bs x i back).eff∧(wayI S V bs x i back).eff≤7001:=fun back hb=>by
  have h1:=zJX h (i:=i) (by omega) (by omega) back hb
  have h2:=zJS h (i:=i) (by omega) (by omega) back (wayI S V bs x i back).way
  rw [h1] at h2
  exact⟨h2.2.2 rfl,h2.2.1⟩
 rcases e with e | e
 ·rw [zIY.1] at e; rw [e] at hw ⊢; exact key _ hw
 ·rw [zIY.2] at e; rw [e] at hw ⊢; exact key _ hw
theorem zIr (h:zym S V cs bs x=true):zIB (zyj S V bs x) cs.length:=by
 have hp:=zBa h
 obtain⟨_,_,_,_,_,hb⟩:=zzD h
 intro c hc
 obtain⟨i,hi,e⟩:=zFE hc
 have f1:=hp.fst i hi; have f2:=hp.snd i hi
 have hf:=zzq (hb i (by rw [zz5] at hi; exact hi))
 rcases e with e | e <;> rw [e] <;> omega
variable {frm:Int} {l:List (Int×Int)}
end
section
variable {S S2:List ShC} {V V2:List WlC} {cs:List ByteArray} {bs:List Bdr} {x:Anm} (h:S2.map (·.s)=S.map (·.s)) (h2:V2.map (·.s)=V.map (·.s))
include h h2
theorem zAq:zym S2 V2 cs bs x=zym S V cs bs x:=by
 have hb:∀ n b,zzp S2 V2 n b=zzp S V n b:=fun n b=>by unfold zzp; rw [zcK h h2]
 unfold zym zy1
 rw [zmw h h2]
 simp only [hb]
theorem zCu:zyj S2 V2 bs x=zyj S V bs x:=by
 unfold zyj wayB
 simp only [zgc h h2,zeN h h2]
theorem zIK (b:Bdr) (o:Opn):zBN S2 V2 x b o=zBN S V x b o:=by unfold zBN; simp only [zeN h h2]
theorem zJk (b:Bdr) (n:Nat) (want:Bool):smT S2 V2 x b n want=smT S V x b n want:=by unfold smT opB; simp only [zgc h h2,zIK h h2]
theorem zIH (b:Bdr) (i:Nat) (want:Bool):∀ n,smB S2 V2 x b i want n=smB S V x b i want n
 | 0=>rfl
 | n+1=>by rw [smB,smB,zIH b i want n,zJk h h2]
theorem zII (want:Bool):∀ n,smN S2 V2 bs x want n=smN S V bs x want n
 | 0=>rfl
 | n+1=>by
  rw [smN,smN,zII want n,zIH h h2]
  unfold opB; rw [zgc h h2]
theorem zAM:zBP S2 V2 cs bs x=zBP S V cs bs x:=by unfold zBP; rw [zAq h h2]
theorem zIk (l:List Int):atE S2 V2 cs bs x l=atE S V cs bs x l:=by unfold atE; rw [zAq h h2]
theorem zIZ (frm:Int):rchA S2 V2 cs bs x frm=rchA S V cs bs x frm:=by unfold rchA; rw [zIk h h2,zCu h h2]
theorem zIG (want:Bool):smA S2 V2 cs bs x want=smA S V cs bs x want:=by unfold smA; rw [zAq h h2,zII h h2]
end
section
variable {S:List ShC} {V:List WlC} {cs:List ByteArray} {bs:List Bdr} {x:Anm}
abbrev acrE (S:List ShC) (V:List WlC) (bs:List Bdr) (x:Anm) (i:Int) (back:Bool):Acr:=acrB S V x (bs.getD i.toNat default) back ((zaN S V (bs.getD i.toNat default).wall).s.opens.length+1)
theorem zGQ {i:Int} {back:Bool} (hs:(acrE S V bs x i back).some=true):-1≤(acrE S V bs x i back).way:=by
 have l3:=zDp _ hs
 obtain⟨q,_,hq⟩:=zHM (s:=(zar S V (bs.getD i.toNat default).wall).s) (shut:=(bs.getD i.toNat default).shut) (g:=gOf (bs.getD i.toNat default) back) (h:=hOf (bs.getD i.toNat default) back) (l:=(zaN S V (bs.getD i.toNat default).wall).s.opens) (x:=x) (way:=(acrE S V bs x i back).way) (congrArg Prod.snd l3)
 rw [←hq]
 unfold wayN
 split <;> omega
theorem zFu {i:Int} {n:Nat} (h0:0≤i) (h1:i < (n:Int)):(!inZ i 0 ((n:Int) - 1))=false:=by
 unfold inZ
 rw [decide_eq_true h0,decide_eq_true (by omega:i≤(n:Int) - 1)]; rfl
theorem zC7 (h:zym S V cs bs x=true) {i:Int} (h0:0≤i) (h1:i < bs.length) (back:Bool) :
  ((acrE S V bs x i back).some=false→zyv S V cs bs x i back=⟨0,0,8⟩∧(wayI S V bs x i back).way = -2)∧((acrE S V bs x i back).some=true→zyv S V cs bs x i back=⟨(acrE S V bs x i back).way,(acrE S V bs x i back).eff,0⟩∧(wayI S V bs x i back).way=(acrE S V bs x i back).way∧(wayI S V bs x i back).eff=(acrE S V bs x i back).eff):=by
 have ha:=zFB h h0 h1 back
 unfold zAN at ha
 constructor
 ·intro hs
  rw [if_neg (by rw [hs]; exact fT)] at ha
  simp only [Prod.mk.injEq] at ha
  exact⟨zzM h (zFu h0 h1) (by omega),ha.1.symm⟩
 ·intro hs
  rw [if_pos hs] at ha
  simp only [Prod.mk.injEq] at ha
  have:=zGQ hs
  refine⟨?_,ha.1.symm,ha.2.symm⟩
  rw [zzN h (zFu h0 h1) (by rw [←ha.1]; exact Int.not_lt.2 this),←ha.1,←ha.2]
end
end Go.Fld
namespace Go.Proofs.YteepmmghanbllaaGreatDoor
open Go.K Go.Stn Go.Pln Go.Fld Go.RowKit
theorem tf33:TF Tryz.prog 33 true 9 (.agg #[.slice none 0 0,.slice none 0 0,.slice none 0 0,.slice none 0 0,.int .i64 0,.int .i64 0,.int .i64 0,.int .i64 0,.int .i64 0]):=tK
theorem en13:En Tryz.prog 13:=eK Tryz.func13
theorem en14:En Tryz.prog 14:=eK Tryz.func14
theorem en17:En Tryz.prog 17:=eK Tryz.func17
end Go.Proofs.YteepmmghanbllaaGreatDoor
namespace Go.Fld
open Go Go.K Go.Stn Go.Pln
def hasI (l:List Int) (n:Int):Bool:=l.any fun z=>decide (n=z)
theorem zIR {l:List Int} {n:Int}:hasI l n=true↔n∈l:=by
 unfold hasI
 rw [List.any_eq_true]
 constructor
 ·rintro ⟨z,h1,h2⟩; rw [oT h2]; exact h1
 ·intro h; exact⟨n,h,decide_eq_true rfl⟩
theorem zJu {l:List Int} {n i:Int} (h0:0≤i) (h1:i < (l.length:Int)) (h:l.getD i.toNat default=n):hasI l n=true:=by
 rw [zIR,←h]; exact za0 (by omega)
theorem zJP {l:List Int} {n:Int} (h:∀ j:Nat,j < l.length→¬ l.getD j default=n):hasI l n=false:=by
 cases e:hasI l n with
 | false=>rfl
 | true=>
  obtain⟨i,hi,e2⟩:=List.getElem_of_mem (zIR.1 e)
  exact absurd (by rw [gE,eG hi]; exact e2) (h i hi)
end Go.Fld
namespace Go.Proofs.YteepmmghanbllaaGreatDoor
open Go.K Go.Stn Go.Pln Go.Fld Go.RowKit
theorem zKb (a:Option Addr) (cap:Nat) (l:List Int) (n:Int) (w:World) (hl:Has w (Ints a l)) (hs:zaP l.length) :
  Calls Tryz.prog 64 #[.slice a l.length cap,.int .i64 n] w (Pure (.bool (hasI l n)) w):=by
 refine zan (vs:=[_,_]) Tryz.func64 rfl rfl (bL rfl) (gS (gA rfl (gN [0,1,4] rfl (zac (gS (gA rfl (gN [0,1,4,5] rfl (zas (zbf (X:=Int) (fun(i:Int)=>[(0,.slice a l.length cap),(1,.int .i64 n),(4,.bool false),(5,.int .i64 i)]) (fun(i:Int)=>[]) (fun(i:Int)=>(0≤i∧i≤l.length∧∀ j:Nat,(j:Int) < i→¬ l.getD j default=n)) (fun(i:Int)=>(l.length - i).toNat) 0 ⟨rfl,rfl,rfl,rfl,trivial⟩ rfl ?_ ?_)))))))))
 ·exact⟨by omega,by omega,fun j hj=>by omega⟩
 ·rintro i hI
  obtain⟨g0,g1,g2⟩:=hI
  refine zac (gS (gM rfl (gM rfl (gQ (zaV (Tryz.underlying45) rfl) (gQ (zbw rfl rfl) (gN [0,1,4,5,9] rfl (zap rfl (fun hc9=>?_) (fun hc9=>?_))))))))
  ·simp only [dT] at hc9
   refine zaq (zac (zas (gS (gM rfl (gM rfl (gQ (zaE se45 rfl rfl (fun _=>rH hl)) (gQ (zcE tf3 rfl (fun _=>rH hl) (by omega) (by omega) rfl) (gM rfl (gQ (zbL rfl rfl) (gN [0,1,4,5,17] rfl (zap rfl (fun hc17=>?_) (fun hc17=>?_))))))))))))
   ·have hc17:=oT hc17
    refine gS (gA rfl (gN [0,1,4,5] rfl (zaw (zay (zaC rfl (zau rfl)) ?_))))
    rw [zJu g0 (by omega) hc17]
   ·have hc17:=oD hc17
    refine zaq (zaa (gM rfl (gQ (zaY rfl rfl) (gA rfl (gN [0,1,4,5] rfl ?_)))))
    exact za1 _ ⟨rfl,rfl,rfl,rfl,trivial⟩ rfl ⟨by omega,by omega,fun j hj=>if h:(j:Int) < i then g2 j h else(by rw [show j=i.toNat from by omega]; exact hc17)⟩ (by omega)
  ·simp only [dF] at hc9
   refine za8 rfl (gS (gA rfl (gN [4] rfl (zaw (zay (zaC rfl (zau rfl)) ?_)))))
   rw [zJP (fun j hj=>g2 j (by omega))]
end Go.Proofs.YteepmmghanbllaaGreatDoor
namespace Go.Fld
open Go Go.K Go.Stn Go.Pln
abbrev allM:Crg→Bool:=fun _=>true
abbrev TrkR:=Trk×Option Addr×Nat
abbrev zIf (z:TrkR):List Value:=[.int .i64 z.1.eff,.slice z.2.1 (stpL z.1.l).length z.2.2,.bool z.1.there]
theorem zIc:Enc 3 zIf:=⟨fun _=>rfl,fun _=>rfl,by decide⟩
abbrev trkL (L:List TrkR):List Trk:=L.map (·.1)
theorem zIe {L:List TrkR} (i:Nat):(trkL L).getD i default=(L.getD i default).1:=by
 rw [gE,List.getElem?_map,gE]
 cases L[i]? <;> rfl
theorem zJm {L:List TrkR} {i:Nat} {z:TrkR}:trkL (L.set i z)=(trkL L).set i z.1:=List.map_set ..
abbrev trk0 (n:Nat) (frm:Int):List TrkR:=(List.replicate n (default:TrkR)).set frm.toNat ⟨⟨0,[],true⟩,none,0⟩
theorem zJU {n i:Nat}:(List.replicate n (default:TrkR)).getD i default=default:=by
 rw [gE]
 cases h:(List.replicate n (default:TrkR))[i]? with
 | none=>rfl
 | some v=>exact(List.mem_replicate.1 (List.mem_of_getElem? h)).2
theorem zJB {n:Nat} {frm:Int}:(List.replicate n (default:TrkR)).set frm.toNat ({ ((List.replicate n (default:TrkR)).getD frm.toNat default).1 with there:=true },((List.replicate n (default:TrkR)).getD frm.toNat default).2)=trk0 n frm:=by rw [zJU]; rfl
theorem zIW {n:Nat} {frm:Int}:(trk0 n frm).length=n:=by rw [List.length_set,List.length_replicate]
theorem zJz {W:List (Crg×Crg)} {may:Crg→Bool} {n:Nat} {frm:Int} (h0:0≤frm) (h1:frm < n):Imp W may n frm (trkL (trk0 n frm)):=by
 rw [zJm,show trkL (List.replicate n (default:TrkR))=List.replicate n (default:Trk) from List.map_replicate ..]
 exact zJc h0 h1
theorem zJA {n:Nat} {frm:Int} {z:TrkR} (h:z∈trk0 n frm):z.1.l=[]∧z.2=(none,0):=by
 rcases List.mem_or_eq_of_mem_set h with h | h
 ·rw [(List.mem_replicate.1 h).2]; exact⟨rfl,rfl⟩
 ·rw [h]; exact⟨rfl,rfl⟩
def fixC (W:List (Crg×Crg)) (may:Crg→Bool) (T:List Trk) (c:Crg):Prop:=zIm W may c→(T.getD c.frm.toNat default).there=true→zIg (extT (T.getD c.frm.toNat default) c) (T.getD c.to.toNat default)=false
def FixN (W:List (Crg×Crg)) (may:Crg→Bool) (T:List Trk) (i:Nat):Prop:=∀ j:Nat,j < i→fixC W may T (fstC W j)∧fixC W may T (sndC W j)
section
variable {W:List (Crg×Crg)} {may:Crg→Bool} {n:Nat} {frm:Int} {T:List Trk}
theorem zJZ:FixN W may T 0:=fun j h=>by omega
theorem zJL {i:Nat} (h:FixN W may T i) (h1:fixC W may T (fstC W i)) (h2:fixC W may T (sndC W i)):FixN W may T (i+1):=fun j hj=>by
 by_cases e:j < i
 ·exact h j e
 ·rw [show j=i from by omega]; exact⟨h1,h2⟩
theorem zI9 (hi:Imp W may n frm T) (h:FixN W may T W.length):Best W may n frm T:=zJv hi fun c hc ht=>by
 obtain⟨i,hl,e⟩:=zFE hc.1
 rcases e with e | e
 ·rw [e] at hc ht ⊢; exact(h i hl).1 hc ht
 ·rw [e] at hc ht ⊢; exact(h i hl).2 hc ht
theorem zJa {c:Crg} (h:may c=false):fixC W may T c:=fun hc=>by rw [hc.2.2] at h; cases h
theorem zJM {c:Crg} (h:c.way = -2):fixC W may T c:=fun hc=>by have:=hc.2.1; omega
theorem zJb {c:Crg} (h:(T.getD c.frm.toNat default).there=false):fixC W may T c:=fun _ ht=>by rw [ht] at h; cases h
theorem zIQ {c:Crg} (h:zIg (extT (T.getD c.frm.toNat default) c) (T.getD c.to.toNat default)=false):fixC W may T c:=fun _ _=>h
end
theorem zJ4 {a b:Trk} (h:(!b.there||!decide (a.eff=b.eff))=true):zIg a b=(!b.there||decide (a.eff < b.eff)):=by
 unfold zIg kLt
 cases e:b.there with
 | false=>rfl
 | true=>
  rw [e] at h
  have:¬ a.eff=b.eff:=by simpa using h
  rw [if_neg this]
theorem zJ5 {a b:Trk} (h:(!b.there||!decide (a.eff=b.eff))=false):b.there=true∧a.eff=b.eff:=by
 cases e:b.there with
 | false=>rw [e] at h; cases h
 | true=>rw [e] at h; exact⟨rfl,by simpa using h⟩
theorem zJ6 {a b:Trk} (h:b.there=true∧a.eff=b.eff) (h2:¬ a.l.length=b.l.length):zIg a b=decide (a.l.length < b.l.length):=by
 unfold zIg kLt
 rw [h.1,if_pos h.2,if_neg h2]; rfl
theorem zJE {a b:Trk} (h:b.there=true∧a.eff=b.eff) (h2:a.l.length=b.l.length):zIg a b=lexB (zIh a.l) (zIh b.l):=by
 unfold zIg kLt
 rw [h.1,if_pos h.2,if_pos h2]; rfl
theorem zIA {l:List Crg}:(stpL l).length=l.length:=lM ..
theorem zIu {l:List Crg} (i:Nat):((stpL l).getD i default).1=(zIh l).getD i default:=by
 rw [gE,List.getElem?_map,gE,List.getElem?_map]
 cases l[i]? <;> rfl
theorem zJF:∀ {i:Nat} {a b:List Int},a.length=b.length→i < a.length→(∀ j:Nat,j < i→a.getD j default=b.getD j default)→¬ a.getD i default=b.getD i default→lexB a b=decide (a.getD i default < b.getD i default)
 | _,[],_,_,h,_,_=>by cases h
 | _,_ :: _,[],h,_,_,_=>by cases h
 | 0,x :: a,y :: b,_,_,_,hn=>by
  have hn:¬ x=y:=hn
  rw [lexB,if_neg hn]; rfl
 | i+1,x :: a,y :: b,hl,hi,h,hn=>by
  have e:x=y:=h 0 (by omega)
  rw [lexB,if_pos e]
  exact zJF (i:=i) (by simpa using hl) (by simpa using hi) (fun j hj=>h (j+1) (by omega)) hn
theorem zJx {a b:List Int} (h:a.length=b.length) (h2:∀ j:Nat,j < a.length→a.getD j default=b.getD j default):lexB a b=false:=by
 have:a=b:=zJs h h2
 rw [this]; exact zIM b
section
variable {S:List ShC} {V:List WlC} {cs:List ByteArray} {bs:List Bdr} {x:Anm}
theorem zJV (h:zym S V cs bs x=true) {i:Nat} (hi:i < bs.length) (back:Bool):wayI S V bs x i back∈allC (zyj S V bs x)∧(wayI S V bs x i back).brd=i∧(wayI S V bs x i back).frm=(if back=true then(bs.getD i default).b else(bs.getD i default).a)∧(wayI S V bs x i back).to=(if back=true then(bs.getD i default).a else(bs.getD i default).b):=by
 have hp:=zBa h
 have hl:i < (zyj S V bs x).length:=by rw [zz5]; exact hi
 have f1:=hp.fst i hl; have f2:=hp.snd i hl
 cases back
 ·rw [←zIY.1]; exact⟨zBd hl,f1.1,f1.2.1,f1.2.2⟩
 ·rw [←zIY.2]; exact⟨zBe hl,f2.1,f2.2.1,f2.2.2⟩
end
abbrev mayC (cl:List Int) (c:Crg):Bool:=!hasI cl c.brd
section
variable {W:List (Crg×Crg)} {may:Crg→Bool} {n:Nat} {frm:Int} {T:List Trk} {bs:List Bdr}
theorem zIz (hp:zyI W bs) (hbs:bs.length≤80) (h:Imp W may n frm T) (hn:n≤40) {i:Nat} (hi:i < n):(T.getD i default).l.length≤280040∧0≤(T.getD i default).eff∧(T.getD i default).eff≤280040:=by
 cases e:(T.getD i default).there with
 | true=>
  have hf:=zIo hp hbs h hn hi e
  have:=hf.e0; have:=hf.e1; have:=hf.len
  omega
 | false=>rw [h.no i hi e]; exact⟨by decide,by decide,by decide⟩
theorem zIX {L:List TrkR} (hp:zyI W bs) (hbs:bs.length≤80) (he:zJJ W) (hw:zIB W n) (hn:n≤40) (h0:0≤frm) (h:Imp W may n frm (trkL L)) {c:Crg} (hc:zIm W may c) (ht:(L.getD c.frm.toNat default).1.there=true)
  (hl:zIg (extT (L.getD c.frm.toNat default).1 c) (L.getD c.to.toNat default).1=true) (p:Option Addr×Nat):Imp W may n frm (trkL (L.set c.to.toNat (extT (L.getD c.frm.toNat default).1 c,p)))∧zIj (trkL (L.set c.to.toNat (extT (L.getD c.frm.toNat default).1 c,p))) < zIj (trkL L):=by
 rw [zJm]
 have:=zJw hp hbs he hw hn h0 h hc (by rw [zIe]; exact ht) (by rw [zIe,zIe]; exact hl)
 rw [zIe] at this
 exact this
theorem zKc {ch:Bool} {r r2:Nat} (h:r2+(if ch=true then 1 else 0)≤r):(if ch=true then r2+1 else 0) < r+1:=by
 cases ch <;> simp at h ⊢ <;> omega
end
section
variable {S:List ShC} {V:List WlC} {cs:List ByteArray} {bs:List Bdr} {x:Anm} {may:Crg→Bool} {L:List TrkR}
theorem zIP (h:zym S V cs bs x=true) {i:Int} (h0:0≤i) (h1:i < bs.length) (back:Bool) (he:(!(acrE S V bs x i back).some||!(L.getD (wayI S V bs x i back).frm.toNat default).1.there)=true):fixC (zyj S V bs x) may (trkL L) (wayI S V bs x i back):=by
 cases hs:(acrE S V bs x i back).some with
 | false=>exact zJM ((zC7 h h0 h1 back).1 hs).2
 | true=>
  rw [hs] at he
  exact zJb (by rw [zIe]; simpa using he)
theorem zJW (h:zym S V cs bs x=true) {i:Int} (h0:0≤i) (h1:i < bs.length):(wayI S V bs x i false).frm=(bs.getD i.toNat default).a∧(wayI S V bs x i false).to=(bs.getD i.toNat default).b∧(wayI S V bs x i true).frm=(bs.getD i.toNat default).b∧(wayI S V bs x i true).to=(bs.getD i.toNat default).a∧(wayI S V bs x i false).brd=i∧(wayI S V bs x i true).brd=i:=by
 have hp:=zBa h
 have hl:i.toNat < (zyj S V bs x).length:=by rw [zz5]; omega
 have f1:=hp.fst _ hl; have f2:=hp.snd _ hl
 have e1:wayI S V bs x i false=fstC (zyj S V bs x) i.toNat:=rfl
 have e2:wayI S V bs x i true=sndC (zyj S V bs x) i.toNat:=rfl
 rw [e1,e2]
 exact⟨f1.2.1,f1.2.2,f2.2.1,f2.2.2,by omega,by omega⟩
theorem zJp (h:zym S V cs bs x=true) {i:Int} (h0:0≤i) (h1:i < bs.length) {back:Bool} (hs:(acrE S V bs x i back).some=true) (hm:may (wayI S V bs x i back)=true):zIm (zyj S V bs x) may (wayI S V bs x i back):=by
 have hw:=((zC7 h h0 h1 back).2 hs).2.1
 have:=zGQ hs
 have hc:=(zJV h (i:=i.toNat) (by omega) back).1
 rw [tN h0] at hc
 exact⟨hc,by omega,hm⟩
theorem zID (_h:zym S V cs bs x=true) {T:List Trk} {i:Int} (h0:0≤i) (hf:FixN (zyj S V bs x) may T i.toNat) (h1:fixC (zyj S V bs x) may T (wayI S V bs x i false)) (h2:fixC (zyj S V bs x) may T (wayI S V bs x i true)):FixN (zyj S V bs x) may T (i+1).toNat:=by
 rw [show(i+1).toNat=i.toNat+1 from by omega]
 exact zJL hf h1 h2
theorem zI8 {t:Trk} {c:Crg} {b w:Int} (h1:c.brd=b) (h2:c.way=w):stpL (extT t c).l=stpL t.l++[(b,w)]:=by
 subst h1; subst h2; show stpL (t.l++[c])=_; rw [stpL,List.map_append]; rfl
theorem zI6 {t:Trk} {c:Crg} {e:Int} (h:c.eff=e):(extT t c).eff=t.eff+e:=by subst h; rfl
theorem zI7 {t:Trk} {c:Crg}:(extT t c).l.length=t.l.length+1:=by show(t.l++[c]).length=_; simp
end
end Go.Fld
namespace Go.K
open Go Go.RowKit
theorem zI1 {R:Res} {w:World}:∀ (H:List Res) (i:Nat) (B C E:Nat→Prop),(∀ k,C k→B k)→(∀ k,E k→B k∧¬ C k)→All H C w→R.A E w→All (H.set i R) B w
 | [],_,_,_,_,_,_,_,_=>trivial
 | _ :: r,0,B,C,E,h1,h2,⟨D,F,k1,k2,_,hr⟩,hR=>by
  show All (R :: r) B w
  exact⟨E,F,fun k hk=>(h2 k hk).1,fun k hk=>⟨h1 k (k2 k hk).1,fun he=>(h2 k he).2 (k2 k hk).1⟩,hR,hr⟩
 | R0 :: r,i+1,B,C,E,h1,h2,⟨D,F,k1,k2,hA,hr⟩,hR=>by
  show All (R0 :: r.set i R) B w
  refine⟨D,fun k=>F k∨E k,fun k hk=>h1 k (k1 k hk),fun k hk=>?_,hA,zI1 r i (fun k=>F k∨E k) F E (fun k hk=>.inl hk) (fun k hk=>⟨.inr hk,fun hf=>(h2 k hk).2 (k2 k hf).1⟩) hr hR⟩
  rcases hk with hk | hk
  ·exact⟨h1 k (k2 k hk).1,(k2 k hk).2⟩
  ·exact⟨(h2 k hk).1,fun hd=>(h2 k hk).2 (k1 k hd)⟩
section
variable {α:Type} {f:α→Res} {L:List α} {z:α} {B:Nat→Prop} {w:World}
theorem zIV (i:Nat) (h:(SepR [Rows f L,f z]).A B w):(Rows f (L.set i z)).A B w:=by
 obtain⟨C,E,h1,h2,hA,D,_,h3,_,hR,_⟩:=h
 show All ((L.set i z).map f) B w
 rw [List.map_set]
 exact zI1 _ i B C D h1 (fun k hk=>h2 k (h3 k hk)) hA hR
theorem zJf {L:List α} (h:∀ z∈L,(f z).A (fun _=>False) w):(Rows f L).A (fun _=>False) w:=by
 show All (L.map f) _ w
 induction L with
 | nil=>trivial
 | cons x L ih=>exact⟨fun _=>False,fun _=>False,fun _ h=>h,fun _ h=>h.elim,h x (mS ..),ih fun z hz=>h z (mM _ hz)⟩
end
section
variable {c:Cx} {ds:List Deferred} {T:List (Nat×Value)} {H:List Res} {K:Act→World→Prop}
theorem zIL {α:Type} (f:α→Res) (L:List α) (hn:∀ w,∀ z∈L,(f z).A (fun _=>False) w) (h:GK c ds K T (Rows f L :: H)):GK c ds K T H:=fun a w ha hw=>
 h a w ha ⟨hw.base,fun _=>False,fun _ hk=>hk.elim,zJf (hn w),Holds.anti H (fun _ hk=>hk.elim id False.elim) hw.holds⟩
end
end Go.K