/- What the proof of the root text leans on, part 8: the layer, plain facts and walks. No statement of the seat is proved in this text. -/
import Derived.ChangeSame
import Derived.Deep.Slices
import Derived.Handed
import Derived.HandedShaped
import Derived.LaidHandle
import Derived.LaidLaws
import Derived.LaidMore
import Derived.Lay
import Derived.Lib.LaidU8
import Derived.OpenShut
import Derived.ProofKit
import Derived.Shelf.Vars
import Derived.SizedLaws
import Derived.Stop.Joined
import Derived.Test.YteepmmghanbllaaGreatDoorRows
import Derived.WideKeyArgs
import Derived.Test.YteepmmghanbllaaGreatDoorFc7
set_option maxRecDepth 100000
set_option maxHeartbeats 32000000
namespace Go.Proofs.YteepmmghanbllaaGreatDoor
open Go.K Go.Stn Go.Pln Go.Fld Go.RowKit
theorem tf27:TF Tryz.prog 27 false 1 (.slice none 0 0):=⟨by kernel_rfl,by kernel_rfl⟩
theorem zAU:TF Tryz.prog 100 true 6 (.agg #[.int IntKind.i64 0,.int IntKind.i64 0,.string ⟨#[]⟩,.int IntKind.i64 0,.int IntKind.i64 0,.bool false]):=⟨by kernel_rfl,by kernel_rfl⟩
theorem zAp:FO Tryz.prog 29 0 0:=⟨by kernel_rfl⟩
theorem zzL:FO Tryz.prog 29 1 1:=⟨by kernel_rfl⟩
theorem zeo:FO Tryz.prog 31 0 0:=⟨by kernel_rfl⟩
theorem zd7:FO Tryz.prog 31 1 1:=⟨by kernel_rfl⟩
theorem zCQ:FO Tryz.prog 31 2 2:=⟨by kernel_rfl⟩
theorem zA6:FO Tryz.prog 31 3 3:=⟨by kernel_rfl⟩
theorem zA7:FO Tryz.prog 31 4 4:=⟨by kernel_rfl⟩
theorem zCc:FO Tryz.prog 100 2 2:=⟨by kernel_rfl⟩
theorem zCd:FO Tryz.prog 100 3 3:=⟨by kernel_rfl⟩
theorem zCe:FO Tryz.prog 100 4 4:=⟨by kernel_rfl⟩
theorem zCf:FO Tryz.prog 100 5 5:=⟨by kernel_rfl⟩
theorem se27:SE Tryz.prog 27 100 6:=⟨Tryz.underlying27,by kernel_rfl⟩
theorem en52:En Tryz.prog 52:=za7 Tryz.func52 (by kernel_rfl) (by kernel_rfl)
theorem zAw (a:Option Addr) (cap:Nat) (s:Sht) (z:Int) (w:World) (hsp:za4 s=true) (h0:0≤z) (h1:z≤s.height):Calls Tryz.prog 88 #[.agg #[.string s.name,.int .i64 s.base,.int .i64 s.batter,.int .i64 s.height,.int .i64 s.skin,.slice a s.heights.length cap,.int .i64 s.least,.int .i64 s.lap,.int .i64 s.run,.int .i64 s.every,.int .i64 s.at_,.int .i64 s.footing,.int .i64 s.spread,.int .u8 s.cope,.int .i64 s.tall,.int .i64 s.short,.int .i64 s.thick,.int .i64 s.low,.int .i64 s.high,.int .i64 s.rood],.int .i64 z] w (Pure (.int .i64 (zy8 s z)) w):=by
 have h:=zkn a cap s z w
 rw [zn1 hsp h0 h1] at h
 unfold zy8
 rwa [if_pos ⟨hsp,h0,h1⟩]
theorem zBU (n lo hi:Int) (w:World)  :
  Calls Tryz.prog 84 #[.int .i64 n,.int .i64 lo,.int .i64 hi] w (Pure (.bool (inZ n lo hi)) w):=by
 refine zan (vs:=[_,_,_]) Tryz.func84 rfl rfl (Nat.le_of_ble_eq_true rfl) (zac (zaa (gA rfl (gN [0,1,2,6] rfl (zac (zbb 9 (fun _=>mixed) (by kernel_rfl) (ph_y (zaf rfl) (ph_y (zaf rfl) (ph_y (zfx rfl rfl) (ph_y (zaf rfl) (zaH rfl rfl (fun hgd=>by(try rw [hgd]); exact(zaf rfl)) (zaH rfl rfl (fun hgd=>by(try rw [hgd]); exact(zaf rfl)) (zaH rfl rfl (fun hgd=>by(try rw [hgd]); exact(zeT rfl rfl)) (ph_y (zaX rfl rfl rfl) (ph_y (zad rfl) (gN [6] rfl (zaw (zay (zaC rfl (zau rfl)) ?_))))))))))))))))))
 rfl
theorem zEc (ca:Option Addr) (ccap:Nat) (cs:List ByteArray) (ba:Option Addr) (bcp:Nat) (bs:List Bdr) (i:Int) (w:World)  :
  Calls Tryz.prog 20 #[.agg #[.slice ca cs.length ccap,.slice ba bs.length bcp],.int .i64 i] w (Pure (.bool (zBG cs.length i)) w):=by
 refine zan (vs:=[_,_]) Tryz.func20 rfl rfl (Nat.le_of_ble_eq_true rfl) (zac (zaa (zaG rfl rfl (za3 (vs:=[_,_]) rfl rfl) fun b2=>(gA rfl (gN [1,2,4] rfl (zac (zbb 10 (fun _=>mixed) (by kernel_rfl) (ph_y (zaf rfl) (ph_y (zfx rfl rfl) (ph_y (zaf rfl) (zaH rfl rfl (fun hgd=>by(try rw [hgd]); exact(zaf rfl)) (zaH rfl rfl (fun hgd=>by(try rw [hgd]); exact(zab zAp rfl)) (zaH rfl rfl (fun hgd=>by(try rw [hgd]); exact(zah 0 tf26 rfl rfl rfl)) (zaH rfl rfl (fun hgd=>by(try rw [hgd]); exact(zaV (Tryz.underlying26) rfl)) (zaH rfl rfl (fun hgd=>by(try rw [hgd]); exact(zbw rfl rfl)) (ph_y (zaX rfl rfl rfl) (ph_y (zad rfl) (gN [4] rfl (zaw (zay (zaC rfl (zau rfl)) ?_))))))))))))))))))))
 rfl
theorem zEe (a:Option Addr) (cap:Nat) (S:List ShC) (b:Option Addr) (bcap:Nat) (V:List WlC) (e:Bdr) (w:World) (hl:Has w (zaW a 20 zbH S)) (hs:zaP S.length) (_hcS:S.length≤cap) (hlw:Has w (zaW b 4 zbS V)) (hsw:zaP V.length) (_hsh:∀ z∈S,Has w (Ints z.a z.s.heights)) (_hss:∀ z∈S,zaP z.s.heights.length) (_hwo:∀ z∈V,Has w (zaW z.a 5 zba z.s.opens)) (_hsv:∀ z∈V,zaP z.s.opens.length) (_hcp:∀ z∈V,z.s.opens.length≤z.cap) (_hkn:∀ z∈V,∀ o∈z.s.opens,Knd o) (hf:zb6 S V e.wall=0) :
  Calls Tryz.prog 52 #[.agg #[.slice a S.length cap,.slice b V.length bcap],.agg #[.int .i64 e.a,.int .i64 e.b,.string e.wall,.int .i64 e.gA,.int .i64 e.gB,.bool e.shut]] w (Pure (.tuple #[.agg (zbS (zaN S V e.wall)).toArray,.agg (zbH (zar S V e.wall)).toArray]) w):=by
 obtain⟨hP,hw0⟩:=zjR hf
 obtain⟨hs0,_⟩:=zf8 hP _ (zid hw0)
 have hwl:=zky hw0
 have hsl:=ziE hs0
 have e0:zhq V e.wall=(V.getD (zaM V e.wall).toNat default):=if_pos hw0
 have e1:(zaN S V e.wall)=(V.getD (zaM V e.wall).toNat default):=(zhF hf).trans e0
 have e2:(zar S V e.wall)=(S.getD (zaS S (V.getD (zaM V e.wall).toNat default).s.sheet).toNat default):=by rw [zhE hf,e0]; rw [e0] at hs0; exact if_pos hs0
 rw [e0] at hs0 hsl
 refine zan (vs:=[_,_]) Tryz.func52 rfl rfl (Nat.le_of_ble_eq_true rfl) (zac (zaa (zaG rfl rfl (za3 (vs:=[_,_]) rfl rfl) fun b2=>(zaG rfl rfl (za3 (vs:=[_,_,_,_,_,_]) rfl rfl) fun b3=>(zaG rfl rfl (zaL zAk (zs:=[_,_,_,_]) rfl) fun b4=>(zaG rfl rfl (zaL zzu (zs:=[_,_,_,_,_,_,_,_,_,_,_,_,_,_,_,_,_,_,_,_]) rfl) fun b5=>(gN [2,3,4,5] rfl (zac (zbb 9 (fun _=>mixed) (by kernel_rfl) (ph_y (zab zdT rfl) (ph_y (zah 3 tf23 rfl rfl rfl) (ph_y (zat 3 tf25 rfl rfl (vs:=[_,_]) rfl rfl) (ph_y (zab zCc rfl) (ph_y (zah 2 tf9 rfl rfl rfl) (ph_y (zaJ en86 rfl (fun w hw=>zf9 _ _ _ _ _ V _ w (Rd.has (Has.rd hlw) hw) hsw)) (ph_y (zaE se23 rfl rfl (fun _ hw=>(Rd.has (Has.rd hlw) hw)) (by omega) (by omega)) (ph_y (zbv (vs:=[_,_,_,_]) zAk rfl (fun _ hw=>(Rd.has (Has.rd hlw) hw)) (by omega) (by omega) rfl) (zmr (zaL zAk (zs:=[_,_,_,_]) rfl) ?_))))))))))))))))))
 intro b6
 refine gK [2,4,5,6,14] rfl (zaA 0 zAk rfl rfl (vs:=[_,_,_,_]) rfl rfl rfl rfl rfl (gN [2,4,5,6] rfl (zac (zao 1 rfl (zao 2 rfl (zCs [_,_] (ch []) 1000 11 [0,0,2,0,0,16,56,126,254,121,1023] [] rfl (fun _=>mixed) (by kernel_rfl) (zjK _ trivial) (zAr (fun ρ=>zat 0 zAk rfl rfl (vs:=[_,_,_,_]) rfl rfl) (fun ρ ρ' h=>by rfl) (zAr (fun ρ=>zab zd6 rfl) (fun ρ ρ' h=>by rfl) (zAr (fun ρ=>zah 2 tf22 rfl rfl rfl) (fun ρ ρ' h=>by rfl) (zAr (fun ρ=>zat 2 tf25 rfl rfl (vs:=[_,_]) rfl rfl) (fun ρ ρ' h=>by rfl) (zAr (fun ρ=>zab zCk rfl) (fun ρ ρ' h=>by rfl) (zAr (fun ρ=>zah 0 tf9 rfl rfl rfl) (fun ρ ρ' h=>by rfl) (zAr (fun ρ=>zaJ en87 rfl (fun w hw=>zfq _ _ S _ _ _ _ w (Rd.has (Has.rd hl) hw) hs)) (fun ρ ρ' h=>by rfl) (zAr (fun ρ=>zaE se22 rfl rfl (fun _ hw=>(Rd.has (Has.rd hl) hw)) (by omega) (by omega)) (fun ρ ρ' h=>by rfl) (zAr (fun ρ=>zbv (vs:=[_,_,_,_,_,_,_,_,_,_,_,_,_,_,_,_,_,_,_,_]) zzu rfl (fun _ hw=>(Rd.has (Has.rd hl) hw)) (by omega) (by omega) rfl) (fun ρ ρ' h=>by rfl) ?_)))))))))))))))
 refine zBT (R:=fun ρ=>Box b4 [.string ⟨#[]⟩,.string ⟨#[]⟩,.int .i64 0,.slice none 0 0] 134) (A:=fun ρ=>Box b4 [.string (V.getD ((zaM V e.wall)).toNat default).s.name,.string (V.getD ((zaM V e.wall)).toNat default).s.sheet,.int .i64 ((V.getD ((zaM V e.wall)).toNat default).s.length),.slice (V.getD ((zaM V e.wall)).toNat default).a (V.getD ((zaM V e.wall)).toNat default).s.opens.length (V.getD ((zaM V e.wall)).toNat default).cap] 134) 1000 rfl (by kernel_rfl) (by kernel_rfl) (fun _=>by kernel_rfl) (fun ρ=>zex zAk rfl rfl (vs:=[_,_,_,_]) rfl rfl rfl rfl rfl) (fun ρ ρ' h=>by rfl) ?_
 refine zBT (R:=fun ρ=>Box b5 [.string ⟨#[]⟩,.int .i64 0,.int .i64 0,.int .i64 0,.int .i64 0,.slice none 0 0,.int .i64 0,.int .i64 0,.int .i64 0,.int .i64 0,.int .i64 0,.int .i64 0,.int .i64 0,.int .u8 0,.int .i64 0,.int .i64 0,.int .i64 0,.int .i64 0,.int .i64 0,.int .i64 0] 135) (A:=fun ρ=>Box b5 [.string (S.getD ((zaS S ((V.getD ((zaM V e.wall)).toNat default).s.sheet))).toNat default).s.name,.int .i64 ((S.getD ((zaS S ((V.getD ((zaM V e.wall)).toNat default).s.sheet))).toNat default).s.base),.int .i64 ((S.getD ((zaS S ((V.getD ((zaM V e.wall)).toNat default).s.sheet))).toNat default).s.batter),.int .i64 ((S.getD ((zaS S ((V.getD ((zaM V e.wall)).toNat default).s.sheet))).toNat default).s.height),.int .i64 ((S.getD ((zaS S ((V.getD ((zaM V e.wall)).toNat default).s.sheet))).toNat default).s.skin),.slice (S.getD ((zaS S ((V.getD ((zaM V e.wall)).toNat default).s.sheet))).toNat default).a (S.getD ((zaS S ((V.getD ((zaM V e.wall)).toNat default).s.sheet))).toNat default).s.heights.length (S.getD ((zaS S ((V.getD ((zaM V e.wall)).toNat default).s.sheet))).toNat default).cap,.int .i64 ((S.getD ((zaS S ((V.getD ((zaM V e.wall)).toNat default).s.sheet))).toNat default).s.least),.int .i64 ((S.getD ((zaS S ((V.getD ((zaM V e.wall)).toNat default).s.sheet))).toNat default).s.lap),.int .i64 ((S.getD ((zaS S ((V.getD ((zaM V e.wall)).toNat default).s.sheet))).toNat default).s.run),.int .i64 ((S.getD ((zaS S ((V.getD ((zaM V e.wall)).toNat default).s.sheet))).toNat default).s.every),.int .i64 ((S.getD ((zaS S ((V.getD ((zaM V e.wall)).toNat default).s.sheet))).toNat default).s.at_),.int .i64 ((S.getD ((zaS S ((V.getD ((zaM V e.wall)).toNat default).s.sheet))).toNat default).s.footing),.int .i64 ((S.getD ((zaS S ((V.getD ((zaM V e.wall)).toNat default).s.sheet))).toNat default).s.spread),.int .u8 (S.getD ((zaS S ((V.getD ((zaM V e.wall)).toNat default).s.sheet))).toNat default).s.cope,.int .i64 ((S.getD ((zaS S ((V.getD ((zaM V e.wall)).toNat default).s.sheet))).toNat default).s.tall),.int .i64 ((S.getD ((zaS S ((V.getD ((zaM V e.wall)).toNat default).s.sheet))).toNat default).s.short),.int .i64 ((S.getD ((zaS S ((V.getD ((zaM V e.wall)).toNat default).s.sheet))).toNat default).s.thick),.int .i64 ((S.getD ((zaS S ((V.getD ((zaM V e.wall)).toNat default).s.sheet))).toNat default).s.low),.int .i64 ((S.getD ((zaS S ((V.getD ((zaM V e.wall)).toNat default).s.sheet))).toNat default).s.high),.int .i64 ((S.getD ((zaS S ((V.getD ((zaM V e.wall)).toNat default).s.sheet))).toNat default).s.rood)] 135) 1001 rfl (by kernel_rfl) (by kernel_rfl) (fun _=>by kernel_rfl) (fun ρ=>zex zzu rfl rfl (vs:=[_,_,_,_,_,_,_,_,_,_,_,_,_,_,_,_,_,_,_,_]) rfl rfl rfl rfl rfl) (fun ρ ρ' h=>by rfl) ?_
 refine fun ρ=>zag (zpT (T':=[(4,.pointer (some ⟨b4,0,none⟩)),(5,.pointer (some ⟨b5,0,none⟩))]) (H':=[Box b4 [.string (V.getD ((zaM V e.wall)).toNat default).s.name,.string (V.getD ((zaM V e.wall)).toNat default).s.sheet,.int .i64 ((V.getD ((zaM V e.wall)).toNat default).s.length),.slice (V.getD ((zaM V e.wall)).toNat default).a (V.getD ((zaM V e.wall)).toNat default).s.opens.length (V.getD ((zaM V e.wall)).toNat default).cap] 134,Box b5 [.string (S.getD ((zaS S ((V.getD ((zaM V e.wall)).toNat default).s.sheet))).toNat default).s.name,.int .i64 ((S.getD ((zaS S ((V.getD ((zaM V e.wall)).toNat default).s.sheet))).toNat default).s.base),.int .i64 ((S.getD ((zaS S ((V.getD ((zaM V e.wall)).toNat default).s.sheet))).toNat default).s.batter),.int .i64 ((S.getD ((zaS S ((V.getD ((zaM V e.wall)).toNat default).s.sheet))).toNat default).s.height),.int .i64 ((S.getD ((zaS S ((V.getD ((zaM V e.wall)).toNat default).s.sheet))).toNat default).s.skin),.slice (S.getD ((zaS S ((V.getD ((zaM V e.wall)).toNat default).s.sheet))).toNat default).a (S.getD ((zaS S ((V.getD ((zaM V e.wall)).toNat default).s.sheet))).toNat default).s.heights.length (S.getD ((zaS S ((V.getD ((zaM V e.wall)).toNat default).s.sheet))).toNat default).cap,.int .i64 ((S.getD ((zaS S ((V.getD ((zaM V e.wall)).toNat default).s.sheet))).toNat default).s.least),.int .i64 ((S.getD ((zaS S ((V.getD ((zaM V e.wall)).toNat default).s.sheet))).toNat default).s.lap),.int .i64 ((S.getD ((zaS S ((V.getD ((zaM V e.wall)).toNat default).s.sheet))).toNat default).s.run),.int .i64 ((S.getD ((zaS S ((V.getD ((zaM V e.wall)).toNat default).s.sheet))).toNat default).s.every),.int .i64 ((S.getD ((zaS S ((V.getD ((zaM V e.wall)).toNat default).s.sheet))).toNat default).s.at_),.int .i64 ((S.getD ((zaS S ((V.getD ((zaM V e.wall)).toNat default).s.sheet))).toNat default).s.footing),.int .i64 ((S.getD ((zaS S ((V.getD ((zaM V e.wall)).toNat default).s.sheet))).toNat default).s.spread),.int .u8 (S.getD ((zaS S ((V.getD ((zaM V e.wall)).toNat default).s.sheet))).toNat default).s.cope,.int .i64 ((S.getD ((zaS S ((V.getD ((zaM V e.wall)).toNat default).s.sheet))).toNat default).s.tall),.int .i64 ((S.getD ((zaS S ((V.getD ((zaM V e.wall)).toNat default).s.sheet))).toNat default).s.short),.int .i64 ((S.getD ((zaS S ((V.getD ((zaM V e.wall)).toNat default).s.sheet))).toNat default).s.thick),.int .i64 ((S.getD ((zaS S ((V.getD ((zaM V e.wall)).toNat default).s.sheet))).toNat default).s.low),.int .i64 ((S.getD ((zaS S ((V.getD ((zaM V e.wall)).toNat default).s.sheet))).toNat default).s.high),.int .i64 ((S.getD ((zaS S ((V.getD ((zaM V e.wall)).toNat default).s.sheet))).toNat default).s.rood)] 135,Box b6 [.string (V.getD ((zaM V e.wall)).toNat default).s.name,.string (V.getD ((zaM V e.wall)).toNat default).s.sheet,.int .i64 ((V.getD ((zaM V e.wall)).toNat default).s.length),.slice (V.getD ((zaM V e.wall)).toNat default).a (V.getD ((zaM V e.wall)).toNat default).s.opens.length (V.getD ((zaM V e.wall)).toNat default).cap] 134,Box b3 [.int .i64 e.a,.int .i64 e.b,.string e.wall,.int .i64 e.gA,.int .i64 e.gB,.bool e.shut] 100,Box b2 [.slice a S.length cap,.slice b V.length bcap] 25]) ⟨rfl,rfl,trivial⟩ rfl ?_)
 refine zaw ?_
 refine zay (zc2 rfl (zbU (i:=0) (vs:=[_,_,_,_]) zAk rfl rfl rfl rfl) (zbU (i:=1) (vs:=[.string (S.getD ((zaS S ((V.getD ((zaM V e.wall)).toNat default).s.sheet))).toNat default).s.name,.int .i64 ((S.getD ((zaS S ((V.getD ((zaM V e.wall)).toNat default).s.sheet))).toNat default).s.base),.int .i64 ((S.getD ((zaS S ((V.getD ((zaM V e.wall)).toNat default).s.sheet))).toNat default).s.batter),.int .i64 ((S.getD ((zaS S ((V.getD ((zaM V e.wall)).toNat default).s.sheet))).toNat default).s.height),.int .i64 ((S.getD ((zaS S ((V.getD ((zaM V e.wall)).toNat default).s.sheet))).toNat default).s.skin),.slice (S.getD ((zaS S ((V.getD ((zaM V e.wall)).toNat default).s.sheet))).toNat default).a (S.getD ((zaS S ((V.getD ((zaM V e.wall)).toNat default).s.sheet))).toNat default).s.heights.length (S.getD ((zaS S ((V.getD ((zaM V e.wall)).toNat default).s.sheet))).toNat default).cap,.int .i64 ((S.getD ((zaS S ((V.getD ((zaM V e.wall)).toNat default).s.sheet))).toNat default).s.least),.int .i64 ((S.getD ((zaS S ((V.getD ((zaM V e.wall)).toNat default).s.sheet))).toNat default).s.lap),.int .i64 ((S.getD ((zaS S ((V.getD ((zaM V e.wall)).toNat default).s.sheet))).toNat default).s.run),.int .i64 ((S.getD ((zaS S ((V.getD ((zaM V e.wall)).toNat default).s.sheet))).toNat default).s.every),.int .i64 ((S.getD ((zaS S ((V.getD ((zaM V e.wall)).toNat default).s.sheet))).toNat default).s.at_),.int .i64 ((S.getD ((zaS S ((V.getD ((zaM V e.wall)).toNat default).s.sheet))).toNat default).s.footing),.int .i64 ((S.getD ((zaS S ((V.getD ((zaM V e.wall)).toNat default).s.sheet))).toNat default).s.spread),.int .u8 (S.getD ((zaS S ((V.getD ((zaM V e.wall)).toNat default).s.sheet))).toNat default).s.cope,.int .i64 ((S.getD ((zaS S ((V.getD ((zaM V e.wall)).toNat default).s.sheet))).toNat default).s.tall),.int .i64 ((S.getD ((zaS S ((V.getD ((zaM V e.wall)).toNat default).s.sheet))).toNat default).s.short),.int .i64 ((S.getD ((zaS S ((V.getD ((zaM V e.wall)).toNat default).s.sheet))).toNat default).s.thick),.int .i64 ((S.getD ((zaS S ((V.getD ((zaM V e.wall)).toNat default).s.sheet))).toNat default).s.low),.int .i64 ((S.getD ((zaS S ((V.getD ((zaM V e.wall)).toNat default).s.sheet))).toNat default).s.high),.int .i64 ((S.getD ((zaS S ((V.getD ((zaM V e.wall)).toNat default).s.sheet))).toNat default).s.rood)]) zzu rfl rfl rfl rfl)) ?_
 rw [e1,e2]
theorem zFz (a:Option Addr) (cap:Nat) (S:List ShC) (b:Option Addr) (bcap:Nat) (V:List WlC) (ca:Option Addr) (ccap:Nat) (cs:List ByteArray) (ba:Option Addr) (bcp:Nat) (bs:List Bdr) (x:Anm) (i:Int) (back:Bool) (way:Int) (w:World) (hl:Has w (zaW a 20 zbH S)) (hs:zaP S.length) (hcS:S.length≤cap) (hlw:Has w (zaW b 4 zbS V)) (hsw:zaP V.length) (hsh:∀ z∈S,Has w (Ints z.a z.s.heights)) (hss:∀ z∈S,zaP z.s.heights.length) (hwo:∀ z∈V,Has w (zaW z.a 5 zba z.s.opens)) (hsv:∀ z∈V,zaP z.s.opens.length) (hcp:∀ z∈V,z.s.opens.length≤z.cap) (hkn:∀ z∈V,∀ o∈z.s.opens,Knd o) (_hc:Has w (zaW ca 1 encS cs)) (_hcs:zaP cs.length) (_hcap:cs.length≤ccap) (hbd:Has w (zaW ba 6 zyr bs)) (_hbs:zaP bs.length) (hok:(zym S V cs bs x)=true) (i0:0≤i) (i1:i < bs.length) :
  Calls Tryz.prog 53 #[.agg #[.slice a S.length cap,.slice b V.length bcap],.agg #[.slice ca cs.length ccap,.slice ba bs.length bcp],.agg #[.int .i64 x.wide,.int .i64 x.high,.int .i64 x.step,.int .i64 x.leap,.int .i64 x.reach],.int .i64 i,.bool back,.int .i64 way] w (Pure (.tuple #[.int .i64 (mayB S V x (bs.getD i.toNat default) back way).1,.bool (mayB S V x (bs.getD i.toNat default) back way).2]) w):=by
 obtain⟨_,_,hbn,_,_,hbo⟩:=zzD hok
 have hbrd:=hbo i.toNat (by omega)
 have hf:=(zzq hbrd).1
 obtain⟨hG1,hG2⟩:=zBh hbrd
 have hnums:=hG1.nums
 have hgg1:=hG1.g
 have hgg2:=hG2.g
 have hwo1:=zfL (S:=S) (V:=V) (n:=(bs.getD i.toNat default).wall) hwo
 have hss1:=zhG (S:=S) (V:=V) (n:=(bs.getD i.toNat default).wall) hsh
 obtain⟨hsvw,hsss⟩:=zxT (n:=(bs.getD i.toNat default).wall) hsv hss
 have hon:=hG1.wf.num
 refine zan (vs:=[_,_,_,_,_,_]) Tryz.func53 rfl rfl (Nat.le_of_ble_eq_true rfl) (zac (zaa (zaG rfl rfl (za3 (vs:=[_,_]) rfl rfl) fun b6=>(zaG rfl rfl (za3 (vs:=[_,_]) rfl rfl) fun b7=>(zaG rfl rfl (za3 (vs:=[_,_,_,_,_]) rfl rfl) fun b8=>(gA rfl (gA rfl (gN [3,4,5,6,7,8,12,13] rfl (zac (zaa (gQ (zab zzL rfl) (gQ (zah 1 tf27 rfl rfl rfl) (gM rfl (gQ (zaE se27 rfl rfl (fun _ hw=>(Rd.has (Has.rd hbd) hw)) (by omega) (by omega)) (gQ (zbv (vs:=[_,_,_,_,_,_]) zAU rfl (fun _ hw=>(Rd.has (Has.rd hbd) hw)) (by omega) (by omega) rfl) (zaG rfl rfl (zaL zAU (zs:=[_,_,_,_,_,_]) rfl) fun b14=>(zaA 0 zAU rfl rfl (vs:=[_,_,_,_,_,_]) rfl rfl rfl rfl rfl (gN [4,5,6,8,12,13,14] rfl (zac (zaa (gQ (zat 3 tf25 rfl rfl (vs:=[_,_]) rfl rfl) (gQ (zat 0 zAU rfl rfl (vs:=[_,_,_,_,_,_]) rfl rfl) (gQ (zaJ en52 rfl (fun w hw=>zEe _ _ S _ _ V (bs.getD i.toNat default) w (Rd.has (Has.rd hl) hw) hs hcS (Rd.has (Has.rd hlw) hw) hsw (fun z hz=>(Rd.has (Has.rd (hsh z hz)) hw)) hss (fun z hz=>(Rd.has (Has.rd (hwo z hz)) hw)) hsv hcp hkn hf)) (gM rfl (gQ (zaB rfl rfl) (gQ (zaB rfl rfl) (zaG rfl rfl (zaL zAk (zs:=[_,_,_,_]) rfl) fun b15=>?_)))))))))))))))))))))))))))
 refine zaG rfl rfl (zaL zzu (zs:=[_,_,_,_,_,_,_,_,_,_,_,_,_,_,_,_,_,_,_,_]) rfl) fun b16=>(zaA 1 zAk rfl rfl (vs:=[_,_,_,_]) rfl rfl rfl rfl rfl (zbz 0 zzu rfl rfl (vs:=[_,_,_,_,_,_,_,_,_,_,_,_,_,_,_,_,_,_,_,_]) rfl rfl rfl rfl rfl (gN [4,5,8,12,13,14,15,16] rfl (zac (zbb 6 (fun _=>mixed) (by kernel_rfl) (ph_y (zab zCd rfl) (ph_y (zah 2 tf3 rfl rfl rfl) (ph_y (zab zCe rfl) (ph_y (zah 2 tf3 rfl rfl rfl) (ph_y (zad rfl) (ph_y (zad rfl) (gN [4,5,8,12,13,14,15,16,17,18] rfl (zac (zac (zaa (gM rfl (gN [5,8,12,13,14,15,16,17,18,38] rfl (zap rfl (fun hc38=>?_) (fun hc38=>?_)))))))))))))))))))
 ·have hg:gOf (bs.getD i.toNat default) back=(bs.getD i.toNat default).gB:=by unfold gOf; rw [if_pos hc38]
  have hh:hOf (bs.getD i.toNat default) back=(bs.getD i.toNat default).gA:=by unfold hOf; rw [if_pos hc38]
  refine zaa (gM rfl (gM rfl (gA rfl (gA rfl (gN [5,8,12,13,14,15,16,17,18] rfl (zac (zac (zaa (gM rfl (gQ (zbL rfl rfl) (gN [5,8,12,13,14,15,16,17,18,42] rfl (zap rfl (fun hc42=>?_) (fun hc42=>?_)))))))))))))
  ·have k1:way = -1:=of_decide_eq_true hc42
   have hm:(mayB S V x (bs.getD i.toNat default) back way)=_:=zFv k1
   refine zac (zaa (gQ (zab zyH rfl) (gQ (zah 0 tf3 rfl rfl rfl) (gQ (zab zzZ rfl) (gQ (zah 0 tf3 rfl rfl rfl) (gQ (zaY rfl rfl (by omega) (by omega)) (gM rfl (gQ (zfV rfl rfl (by omega) (by omega)) (gA rfl (gN [5,8,12,13,14,15,16,17,18,19] rfl (zac (zbb 18 (fun _=>mixed) (by kernel_rfl) (ph_y (zaf rfl) (ph_y (zws rfl rfl) (ph_y (zaY rfl rfl (by omega) (by omega)) (ph_y (zaf rfl) (ph_y (zab zA6 rfl) (ph_y (zah 3 tf3 rfl rfl rfl) (ph_y (zeT rfl rfl) (ph_y (zaf rfl) (zaH rfl rfl (fun hgd=>by(try rw [hgd]); exact(zat 0 zzu rfl rfl (vs:=[_,_,_,_,_,_,_,_,_,_,_,_,_,_,_,_,_,_,_,_]) rfl rfl)) (zaH rfl rfl (fun hgd=>by(try rw [hgd]); exact(zab zyH rfl)) (zaH rfl rfl (fun hgd=>by(try rw [hgd]); exact(zah 0 tf3 rfl rfl rfl)) (zaH rfl rfl (fun hgd=>by(try rw [hgd]); exact(zaJ (v:=.int .i64 (zy8 (zar S V (bs.getD i.toNat default).wall).s ((zar S V (bs.getD i.toNat default).wall).s.height))) en88 rfl (fun w hw=>zAw _ _ (zar S V (bs.getD i.toNat default).wall).s ((zar S V (bs.getD i.toNat default).wall).s.height) w hG1.sp (by omega) (by omega)))) (zaH rfl rfl (fun hgd=>by(try rw [hgd]); exact(zab zA7 rfl)) (zaH rfl rfl (fun hgd=>by(try rw [hgd]); exact(zah 3 tf3 rfl rfl rfl)) ?_))))))))))))))))))))))))))
   refine zaH rfl rfl (fun hgd=>by(try rw [hgd]); exact(zeT rfl rfl)) (ph_y (zaX rfl rfl rfl) (ph_y (zad rfl) (ph_y (zad rfl) (gN [5,8,12,13,14,15,16,17,18] rfl (zaw (zay (zc2 rfl (zau rfl) (zau rfl)) ?_))))))
   rw [hm,hg] <;> rfl
  ·have k1:¬ way = -1:=of_decide_eq_false hc42
   refine zaq (zac (zac (zbb 9 (fun _=>mixed) (by kernel_rfl) (ph_y (zaf rfl) (ph_y (zbw rfl rfl) (ph_y (zaf rfl) (zaz rfl rfl (fun hgd=>by(try rw [hgd]); exact(zaf rfl)) (zaz rfl rfl (fun hgd=>by(try rw [hgd]); exact(zab zyN rfl)) (zaz rfl rfl (fun hgd=>by(try rw [hgd]); exact(zah 1 zAj rfl rfl rfl)) (zaz rfl rfl (fun hgd=>by(try rw [hgd]); exact(zaV (Tryz.underlying132) rfl)) (zaz rfl rfl (fun hgd=>by(try rw [hgd]); exact(zfx rfl rfl)) (ph_y (zaR rfl rfl rfl) (gN [5,8,12,13,14,15,16,17,18,74] rfl (zap rfl (fun hc74=>?_) (fun hc74=>?_)))))))))))))))
   ·have k2:way < 0∨((zaN S V (bs.getD i.toNat default).wall).s.opens.length:Int)≤way:=by simpa using hc74
    have hm:(mayB S V x (bs.getD i.toNat default) back way)=_:=zCv k1 k2
    refine zac (zaa (gA rfl (gA rfl (gN [5,8,12,13,14,15,16,17,18] rfl (zaw (zay (zc2 rfl (zau rfl) (zau rfl)) ?_))))))
    rw [hm]
   ·have k2:¬ (way < 0∨((zaN S V (bs.getD i.toNat default).wall).s.opens.length:Int)≤way):=by simpa using hc74
    have hfit:=hG1.wf.fit ((zaN S V (bs.getD i.toNat default).wall).s.opens.getD way.toNat default) (za0 (by omega))
    have q1:=hfit.f; have q2:=hfit.h; have q3:=hfit.w
    refine zaq (zac (zaa (gQ (zab zyN rfl) (gQ (zah 1 zAj rfl rfl rfl) (gM rfl (gQ (zaE zEf rfl rfl (fun _ hw=>(Rd.has (Has.rd hwo1) hw)) (by omega) (by omega)) (gQ (zbv (vs:=[_,_,_,_,_]) zzW rfl (fun _ hw=>(Rd.has (Has.rd hwo1) hw)) (by omega) (by omega) rfl) (zaG rfl rfl (zaL zzW (zs:=[_,_,_,_,_]) rfl) fun b20=>(zaA 0 zzW rfl rfl (vs:=[_,_,_,_,_]) rfl rfl rfl rfl rfl (gN [8,12,13,14,16,17,18,20] rfl (zac (zaa (gQ (zab zyC rfl) (gQ (zah 0 tf3 rfl rfl rfl) (gM rfl (gQ (zfV rfl rfl (by omega) (by omega)) (gA rfl (gN [8,12,13,14,16,17,18,20,21] rfl (zac (zac (zaa (gQ (zab zeo rfl) (gQ (zah 4 tf3 rfl rfl rfl) (gQ (zab zzQ rfl) (gQ (zah 0 tf3 rfl rfl rfl) (gQ (zc6 rfl rfl) (gN [8,12,13,14,16,17,18,20,21,88] rfl (zap rfl (fun hc88=>?_) (fun hc88=>?_)))))))))))))))))))))))))))))
    ·have k3:((zaN S V (bs.getD i.toNat default).wall).s.opens.getD way.toNat default).width < x.wide:=of_decide_eq_true hc88
     have hm:(mayB S V x (bs.getD i.toNat default) back way)=_:=zCX k1 k2 k3
     refine zac (zaa (gA rfl (gA rfl (gN [8,12,13,14,16,17,18,20,21] rfl (zaw (zay (zc2 rfl (zau rfl) (zau rfl)) ?_))))))
     rw [hm]
    ·have k3:¬ ((zaN S V (bs.getD i.toNat default).wall).s.opens.getD way.toNat default).width < x.wide:=of_decide_eq_false hc88
     refine zaq (zac (zac (zaa (gQ (zab zzr rfl) (gQ (zah 0 tf5 rfl rfl rfl) (gQ (zbL rfl rfl) (gN [8,12,13,14,16,17,18,20,21,91] rfl (zap rfl (fun hc91=>?_) (fun hc91=>?_)))))))))
     ·have k4:((zaN S V (bs.getD i.toNat default).wall).s.opens.getD way.toNat default).kind=4:=of_decide_eq_true hc91
      have hm:(mayB S V x (bs.getD i.toNat default) back way)=_:=zCW k1 k2 k3 k4
      refine zac (zbb 5 (fun _=>mixed) (by kernel_rfl) (ph_y (zab zCf rfl) (ph_y (zah 3 tf4 rfl rfl rfl) (ph_y (zbR rfl) (ph_y (zad rfl) (ph_y (zad rfl) (gN [8,12,13,16,17,18,20,21] rfl (zaw (zay (zc2 rfl (zau rfl) (zau rfl)) ?_)))))))))
      rw [hm]
     ·have k4:¬ ((zaN S V (bs.getD i.toNat default).wall).s.opens.getD way.toNat default).kind=4:=of_decide_eq_false hc91
      refine zaq (zac (zac (zaa (gQ (zab zzr rfl) (gQ (zah 0 tf5 rfl rfl rfl) (gQ (zbL rfl rfl) (gN [8,12,13,16,17,18,20,21,97] rfl (zap rfl (fun hc97=>?_) (fun hc97=>?_)))))))))
      ·have k5:((zaN S V (bs.getD i.toNat default).wall).s.opens.getD way.toNat default).kind=3:=of_decide_eq_true hc97
       have hm:(mayB S V x (bs.getD i.toNat default) back way)=_:=zBR k1 k2 k3 k4 k5
       refine zac (zbb 18 (fun _=>mixed) (by kernel_rfl) (ph_y (zaf rfl) (ph_y (zws rfl rfl) (ph_y (zaY rfl rfl (by omega) (by omega)) (ph_y (zaf rfl) (ph_y (zab zA6 rfl) (ph_y (zah 4 tf3 rfl rfl rfl) (ph_y (zeT rfl rfl) (ph_y (zaf rfl) (zaH rfl rfl (fun hgd=>by(try rw [hgd]); exact(zat 1 zzu rfl rfl (vs:=[_,_,_,_,_,_,_,_,_,_,_,_,_,_,_,_,_,_,_,_]) rfl rfl)) (zaH rfl rfl (fun hgd=>by(try rw [hgd]); exact(zab zyC rfl)) (zaH rfl rfl (fun hgd=>by(try rw [hgd]); exact(zah 0 tf3 rfl rfl rfl)) (zaH rfl rfl (fun hgd=>by(try rw [hgd]); exact(zaJ (v:=.int .i64 (zy8 (zar S V (bs.getD i.toNat default).wall).s (((zaN S V (bs.getD i.toNat default).wall).s.opens.getD (way).toNat default).frm))) en88 rfl (fun w hw=>zAw _ _ (zar S V (bs.getD i.toNat default).wall).s (((zaN S V (bs.getD i.toNat default).wall).s.opens.getD (way).toNat default).frm) w hG1.sp (by omega) (by omega)))) (zaH rfl rfl (fun hgd=>by(try rw [hgd]); exact(zab zA7 rfl)) (zaH rfl rfl (fun hgd=>by(try rw [hgd]); exact(zah 4 tf3 rfl rfl rfl)) (zaH rfl rfl (fun hgd=>by(try rw [hgd]); exact(zeT rfl rfl)) (ph_y (zaX rfl rfl rfl) (ph_y (zad rfl) (ph_y (zad rfl) (gN [8,12,13,17,18,20,21] rfl (zaw (zay (zc2 rfl (zau rfl) (zau rfl)) ?_))))))))))))))))))))))
       rw [hm,hg]
      ·have k5:¬ ((zaN S V (bs.getD i.toNat default).wall).s.opens.getD way.toNat default).kind=3:=of_decide_eq_false hc97
       have hm:(mayB S V x (bs.getD i.toNat default) back way)=_:=zCV k1 k2 k3 k4 k5
       refine zaq (zac (zaa (gQ (zab zyC rfl) (gQ (zah 0 tf3 rfl rfl rfl) (gM rfl (gM rfl (gQ (zws rfl rfl) (gQ (zws rfl rfl) (gA rfl (gN [8,12,13,20,21,22] rfl (zac (zbb 21 (fun _=>mixed) (by kernel_rfl) (ph_y (zaf rfl) (ph_y (zws rfl rfl) (ph_y (zaY rfl rfl (by omega) (by omega)) (ph_y (zaf rfl) (ph_y (zab zCQ rfl) (ph_y (zah 4 tf3 rfl rfl rfl) (ph_y (zeT rfl rfl) (ph_y (zaf rfl) (zaH rfl rfl (fun hgd=>by(try rw [hgd]); exact(zab zyC rfl)) (zaH rfl rfl (fun hgd=>by(try rw [hgd]); exact(zah 0 tf3 rfl rfl rfl)) (zaH rfl rfl (fun hgd=>by(try rw [hgd]); exact(zab zzs rfl)) (zaH rfl rfl (fun hgd=>by(try rw [hgd]); exact(zah 0 tf3 rfl rfl rfl)) (zaH rfl rfl (fun hgd=>by(try rw [hgd]); exact(zaY rfl rfl (by omega) (by omega))) (zaH rfl rfl (fun hgd=>by(try rw [hgd]); exact(zaf rfl)) (zaH rfl rfl (fun hgd=>by(try rw [hgd]); exact(zfV rfl rfl (by omega) (by omega))) (zaH rfl rfl (fun hgd=>by(try rw [hgd]); exact(zab zd7 rfl)) (zaH rfl rfl (fun hgd=>by(try rw [hgd]); exact(zah 4 tf3 rfl rfl rfl)) (zaH rfl rfl (fun hgd=>by(try rw [hgd]); exact(zfx rfl rfl)) (ph_y (zaX rfl rfl rfl) (ph_y (zad rfl) (ph_y (zad rfl) (gN [12,13] rfl (zaw ?_)))))))))))))))))))))))))))))))))))
       refine zay (zc2 rfl (zau rfl) (zau rfl)) ?_
       rw [hm,hg,hh]
 ·have hg:gOf (bs.getD i.toNat default) back=(bs.getD i.toNat default).gA:=by unfold gOf; rw [if_neg (by rw [hc38]; exact Bool.false_ne_true)]
  have hh:hOf (bs.getD i.toNat default) back=(bs.getD i.toNat default).gB:=by unfold hOf; rw [if_neg (by rw [hc38]; exact Bool.false_ne_true)]
  refine zaq (zac (zac (zaa (gM rfl (gQ (zbL rfl rfl) (gN [5,8,12,13,14,15,16,17,18,42] rfl (zap rfl (fun hc42=>?_) (fun hc42=>?_))))))))
  ·have k1:way = -1:=of_decide_eq_true hc42
   have hm:(mayB S V x (bs.getD i.toNat default) back way)=_:=zFv k1
   refine zac (zaa (gQ (zab zyH rfl) (gQ (zah 0 tf3 rfl rfl rfl) (gQ (zab zzZ rfl) (gQ (zah 0 tf3 rfl rfl rfl) (gQ (zaY rfl rfl (by omega) (by omega)) (gM rfl (gQ (zfV rfl rfl (by omega) (by omega)) (gA rfl (gN [5,8,12,13,14,15,16,17,18,19] rfl (zac (zbb 18 (fun _=>mixed) (by kernel_rfl) (ph_y (zaf rfl) (ph_y (zws rfl rfl) (ph_y (zaY rfl rfl (by omega) (by omega)) (ph_y (zaf rfl) (ph_y (zab zA6 rfl) (ph_y (zah 3 tf3 rfl rfl rfl) (ph_y (zeT rfl rfl) (ph_y (zaf rfl) (zaH rfl rfl (fun hgd=>by(try rw [hgd]); exact(zat 0 zzu rfl rfl (vs:=[_,_,_,_,_,_,_,_,_,_,_,_,_,_,_,_,_,_,_,_]) rfl rfl)) (zaH rfl rfl (fun hgd=>by(try rw [hgd]); exact(zab zyH rfl)) (zaH rfl rfl (fun hgd=>by(try rw [hgd]); exact(zah 0 tf3 rfl rfl rfl)) (zaH rfl rfl (fun hgd=>by(try rw [hgd]); exact(zaJ (v:=.int .i64 (zy8 (zar S V (bs.getD i.toNat default).wall).s ((zar S V (bs.getD i.toNat default).wall).s.height))) en88 rfl (fun w hw=>zAw _ _ (zar S V (bs.getD i.toNat default).wall).s ((zar S V (bs.getD i.toNat default).wall).s.height) w hG1.sp (by omega) (by omega)))) (zaH rfl rfl (fun hgd=>by(try rw [hgd]); exact(zab zA7 rfl)) (zaH rfl rfl (fun hgd=>by(try rw [hgd]); exact(zah 3 tf3 rfl rfl rfl)) ?_))))))))))))))))))))))))))
   refine zaH rfl rfl (fun hgd=>by(try rw [hgd]); exact(zeT rfl rfl)) (ph_y (zaX rfl rfl rfl) (ph_y (zad rfl) (ph_y (zad rfl) (gN [5,8,12,13,14,15,16,17,18] rfl (zaw (zay (zc2 rfl (zau rfl) (zau rfl)) ?_))))))
   rw [hm,hg] <;> rfl
  ·have k1:¬ way = -1:=of_decide_eq_false hc42
   refine zaq (zac (zac (zbb 9 (fun _=>mixed) (by kernel_rfl) (ph_y (zaf rfl) (ph_y (zbw rfl rfl) (ph_y (zaf rfl) (zaz rfl rfl (fun hgd=>by(try rw [hgd]); exact(zaf rfl)) (zaz rfl rfl (fun hgd=>by(try rw [hgd]); exact(zab zyN rfl)) (zaz rfl rfl (fun hgd=>by(try rw [hgd]); exact(zah 1 zAj rfl rfl rfl)) (zaz rfl rfl (fun hgd=>by(try rw [hgd]); exact(zaV (Tryz.underlying132) rfl)) (zaz rfl rfl (fun hgd=>by(try rw [hgd]); exact(zfx rfl rfl)) (ph_y (zaR rfl rfl rfl) (gN [5,8,12,13,14,15,16,17,18,74] rfl (zap rfl (fun hc74=>?_) (fun hc74=>?_)))))))))))))))
   ·have k2:way < 0∨((zaN S V (bs.getD i.toNat default).wall).s.opens.length:Int)≤way:=by simpa using hc74
    have hm:(mayB S V x (bs.getD i.toNat default) back way)=_:=zCv k1 k2
    refine zac (zaa (gA rfl (gA rfl (gN [5,8,12,13,14,15,16,17,18] rfl (zaw (zay (zc2 rfl (zau rfl) (zau rfl)) ?_))))))
    rw [hm]
   ·have k2:¬ (way < 0∨((zaN S V (bs.getD i.toNat default).wall).s.opens.length:Int)≤way):=by simpa using hc74
    have hfit:=hG1.wf.fit ((zaN S V (bs.getD i.toNat default).wall).s.opens.getD way.toNat default) (za0 (by omega))
    have q1:=hfit.f; have q2:=hfit.h; have q3:=hfit.w
    refine zaq (zac (zaa (gQ (zab zyN rfl) (gQ (zah 1 zAj rfl rfl rfl) (gM rfl (gQ (zaE zEf rfl rfl (fun _ hw=>(Rd.has (Has.rd hwo1) hw)) (by omega) (by omega)) (gQ (zbv (vs:=[_,_,_,_,_]) zzW rfl (fun _ hw=>(Rd.has (Has.rd hwo1) hw)) (by omega) (by omega) rfl) (zaG rfl rfl (zaL zzW (zs:=[_,_,_,_,_]) rfl) fun b20=>(zaA 0 zzW rfl rfl (vs:=[_,_,_,_,_]) rfl rfl rfl rfl rfl (gN [8,12,13,14,16,17,18,20] rfl (zac (zaa (gQ (zab zyC rfl) (gQ (zah 0 tf3 rfl rfl rfl) (gM rfl (gQ (zfV rfl rfl (by omega) (by omega)) (gA rfl (gN [8,12,13,14,16,17,18,20,21] rfl (zac (zac (zaa (gQ (zab zeo rfl) (gQ (zah 4 tf3 rfl rfl rfl) (gQ (zab zzQ rfl) (gQ (zah 0 tf3 rfl rfl rfl) (gQ (zc6 rfl rfl) (gN [8,12,13,14,16,17,18,20,21,88] rfl (zap rfl (fun hc88=>?_) (fun hc88=>?_)))))))))))))))))))))))))))))
    ·have k3:((zaN S V (bs.getD i.toNat default).wall).s.opens.getD way.toNat default).width < x.wide:=of_decide_eq_true hc88
     have hm:(mayB S V x (bs.getD i.toNat default) back way)=_:=zCX k1 k2 k3
     refine zac (zaa (gA rfl (gA rfl (gN [8,12,13,14,16,17,18,20,21] rfl (zaw (zay (zc2 rfl (zau rfl) (zau rfl)) ?_))))))
     rw [hm]
    ·have k3:¬ ((zaN S V (bs.getD i.toNat default).wall).s.opens.getD way.toNat default).width < x.wide:=of_decide_eq_false hc88
     refine zaq (zac (zac (zaa (gQ (zab zzr rfl) (gQ (zah 0 tf5 rfl rfl rfl) (gQ (zbL rfl rfl) (gN [8,12,13,14,16,17,18,20,21,91] rfl (zap rfl (fun hc91=>?_) (fun hc91=>?_)))))))))
     ·have k4:((zaN S V (bs.getD i.toNat default).wall).s.opens.getD way.toNat default).kind=4:=of_decide_eq_true hc91
      have hm:(mayB S V x (bs.getD i.toNat default) back way)=_:=zCW k1 k2 k3 k4
      refine zac (zbb 5 (fun _=>mixed) (by kernel_rfl) (ph_y (zab zCf rfl) (ph_y (zah 3 tf4 rfl rfl rfl) (ph_y (zbR rfl) (ph_y (zad rfl) (ph_y (zad rfl) (gN [8,12,13,16,17,18,20,21] rfl (zaw (zay (zc2 rfl (zau rfl) (zau rfl)) ?_)))))))))
      rw [hm]
     ·have k4:¬ ((zaN S V (bs.getD i.toNat default).wall).s.opens.getD way.toNat default).kind=4:=of_decide_eq_false hc91
      refine zaq (zac (zac (zaa (gQ (zab zzr rfl) (gQ (zah 0 tf5 rfl rfl rfl) (gQ (zbL rfl rfl) (gN [8,12,13,16,17,18,20,21,97] rfl (zap rfl (fun hc97=>?_) (fun hc97=>?_)))))))))
      ·have k5:((zaN S V (bs.getD i.toNat default).wall).s.opens.getD way.toNat default).kind=3:=of_decide_eq_true hc97
       have hm:(mayB S V x (bs.getD i.toNat default) back way)=_:=zBR k1 k2 k3 k4 k5
       refine zac (zbb 18 (fun _=>mixed) (by kernel_rfl) (ph_y (zaf rfl) (ph_y (zws rfl rfl) (ph_y (zaY rfl rfl (by omega) (by omega)) (ph_y (zaf rfl) (ph_y (zab zA6 rfl) (ph_y (zah 4 tf3 rfl rfl rfl) (ph_y (zeT rfl rfl) (ph_y (zaf rfl) (zaH rfl rfl (fun hgd=>by(try rw [hgd]); exact(zat 1 zzu rfl rfl (vs:=[_,_,_,_,_,_,_,_,_,_,_,_,_,_,_,_,_,_,_,_]) rfl rfl)) (zaH rfl rfl (fun hgd=>by(try rw [hgd]); exact(zab zyC rfl)) (zaH rfl rfl (fun hgd=>by(try rw [hgd]); exact(zah 0 tf3 rfl rfl rfl)) (zaH rfl rfl (fun hgd=>by(try rw [hgd]); exact(zaJ (v:=.int .i64 (zy8 (zar S V (bs.getD i.toNat default).wall).s (((zaN S V (bs.getD i.toNat default).wall).s.opens.getD (way).toNat default).frm))) en88 rfl (fun w hw=>zAw _ _ (zar S V (bs.getD i.toNat default).wall).s (((zaN S V (bs.getD i.toNat default).wall).s.opens.getD (way).toNat default).frm) w hG1.sp (by omega) (by omega)))) (zaH rfl rfl (fun hgd=>by(try rw [hgd]); exact(zab zA7 rfl)) (zaH rfl rfl (fun hgd=>by(try rw [hgd]); exact(zah 4 tf3 rfl rfl rfl)) (zaH rfl rfl (fun hgd=>by(try rw [hgd]); exact(zeT rfl rfl)) (ph_y (zaX rfl rfl rfl) (ph_y (zad rfl) (ph_y (zad rfl) (gN [8,12,13,17,18,20,21] rfl (zaw (zay (zc2 rfl (zau rfl) (zau rfl)) ?_))))))))))))))))))))))
       rw [hm,hg]
      ·have k5:¬ ((zaN S V (bs.getD i.toNat default).wall).s.opens.getD way.toNat default).kind=3:=of_decide_eq_false hc97
       have hm:(mayB S V x (bs.getD i.toNat default) back way)=_:=zCV k1 k2 k3 k4 k5
       refine zaq (zac (zaa (gQ (zab zyC rfl) (gQ (zah 0 tf3 rfl rfl rfl) (gM rfl (gM rfl (gQ (zws rfl rfl) (gQ (zws rfl rfl) (gA rfl (gN [8,12,13,20,21,22] rfl (zac (zbb 21 (fun _=>mixed) (by kernel_rfl) (ph_y (zaf rfl) (ph_y (zws rfl rfl) (ph_y (zaY rfl rfl (by omega) (by omega)) (ph_y (zaf rfl) (ph_y (zab zCQ rfl) (ph_y (zah 4 tf3 rfl rfl rfl) (ph_y (zeT rfl rfl) (ph_y (zaf rfl) (zaH rfl rfl (fun hgd=>by(try rw [hgd]); exact(zab zyC rfl)) (zaH rfl rfl (fun hgd=>by(try rw [hgd]); exact(zah 0 tf3 rfl rfl rfl)) (zaH rfl rfl (fun hgd=>by(try rw [hgd]); exact(zab zzs rfl)) (zaH rfl rfl (fun hgd=>by(try rw [hgd]); exact(zah 0 tf3 rfl rfl rfl)) (zaH rfl rfl (fun hgd=>by(try rw [hgd]); exact(zaY rfl rfl (by omega) (by omega))) (zaH rfl rfl (fun hgd=>by(try rw [hgd]); exact(zaf rfl)) (zaH rfl rfl (fun hgd=>by(try rw [hgd]); exact(zfV rfl rfl (by omega) (by omega))) (zaH rfl rfl (fun hgd=>by(try rw [hgd]); exact(zab zd7 rfl)) (zaH rfl rfl (fun hgd=>by(try rw [hgd]); exact(zah 4 tf3 rfl rfl rfl)) (zaH rfl rfl (fun hgd=>by(try rw [hgd]); exact(zfx rfl rfl)) (ph_y (zaX rfl rfl rfl) (ph_y (zad rfl) (ph_y (zad rfl) (gN [12,13] rfl (zaw ?_)))))))))))))))))))))))))))))))))))
       refine zay (zc2 rfl (zau rfl) (zau rfl)) ?_
       rw [hm,hg,hh]
end Go.Proofs.YteepmmghanbllaaGreatDoor
namespace Go.Fld
open Go Go.K Go.Stn Go.Pln
section
variable {S:List ShC} {V:List WlC} {cs:List ByteArray} {bs:List Bdr} {x:Anm} {b:Bdr} {i j n:Nat} {s:ByteArray}
theorem zGk (hi:i≤cs.length) (h:∀ j:Nat,j < i→(s.toList == (cs.getD j default).toList)=false):hasS (cs.take i) s=false:=by
 refine Bool.eq_false_iff.2 fun h2=>?_
 obtain⟨z,hz,e⟩:=List.any_eq_true.1 h2
 obtain⟨j,hj,rfl⟩:=List.getElem_of_mem hz
 rw [List.length_take] at hj
 have h3:=h j (by omega)
 rw [List.getD_eq_getElem?_getD,List.getElem?_eq_getElem (by omega)] at h3
 rw [List.getElem_take] at e
 rw [show((some cs[j]).getD default)=cs[j] from rfl,e] at h3
 cases h3
theorem zER (hi:i≤cs.length) (hj:j < i) (e:(s.toList == (cs.getD j default).toList)=true):hasS (cs.take i) s=true:=by
 refine List.any_eq_true.2 ⟨cs.getD j default,?_,e⟩
 rw [List.getD_eq_getElem?_getD,List.getElem?_eq_getElem (by omega)]
 exact List.mem_iff_getElem.2 ⟨j,by rw [List.length_take]; omega,by rw [List.getElem_take]; rfl⟩
theorem zDD (h:(!zdY (cs.getD i default))=true):zy0 cs i=false:=by
 unfold zy0
 rw [znv,show zdY (cs.getD i default)=false from by simpa using h]; rfl
theorem zDE (hi:i≤cs.length) (hj:j < i) (e:((cs.getD i default).toList == (cs.getD j default).toList)=true):zy0 cs i=false:=by
 unfold zy0
 rw [zER hi hj e,Bool.not_true,Bool.and_false]
theorem zDF (hi:i≤cs.length) (h:(!zdY (cs.getD i default))=false) (h2:∀ j:Nat,j < i→((cs.getD i default).toList == (cs.getD j default).toList)=false):zy0 cs i=true:=by
 unfold zy0
 rw [znv,show zdY (cs.getD i default)=true from by simpa using h,zGk hi h2]; rfl
theorem zCF {i:Int}:inZ i 0 ((n:Int) - 1)=zBG n i:=by
 unfold zBG inZ
 congr 1
 exact decide_eq_decide.2 (by omega)
theorem zDx (hP:zc4 S V=true):((((((!zBG n b.a)||!zBG n b.b)||decide (b.a=b.b))||decide (zaM V b.wall < 0))||!inZ b.gA (-3000) 3000)||!inZ b.gB (-3000) 3000) = !zzp S V n b:=by
 have hf:decide (zb6 S V b.wall=0) = !decide (zaM V b.wall < 0):=by
  unfold zb6
  rw [if_pos hP]
  by_cases h:0≤zaM V b.wall
  ·rw [if_pos h,decide_eq_true rfl,decide_eq_false (by omega)]; rfl
  ·rw [if_neg h,decide_eq_false (by decide),decide_eq_true (by omega)]; rfl
 unfold zzp
 rw [hf,zCF,zCF]
 cases zBG n b.a <;> cases zBG n b.b <;> cases decide (b.a=b.b) <;> cases decide (zaM V b.wall < 0) <;> cases inZ b.gA (-3000) 3000 <;> cases inZ b.gB (-3000) 3000 <;> rfl
theorem zDq:(((((!inZ x.wide 0 10000)||!inZ x.high 0 10000)||!inZ x.step 0 10000)||!inZ x.leap 0 10000)||!inZ x.reach 0 10000) = !zBE x:=by
 unfold zBE zC8
 simp only [List.any_cons,List.any_nil,Bool.or_false,Bool.not_not,Bool.or_assoc]
theorem zGA (h:(((!zc4 S V)||!inZ (cs.length:Int) 1 40)||decide (80 < (bs.length:Int)))=true):zym S V cs bs x=false:=by
 refine zzd ?_
 unfold zy1
 revert h
 cases zc4 S V <;> cases inZ (cs.length:Int) 1 40 <;> cases decide (80 < (bs.length:Int)) <;> simp
theorem zGB (h:(((((!inZ x.wide 0 10000)||!inZ x.high 0 10000)||!inZ x.step 0 10000)||!inZ x.leap 0 10000)||!inZ x.reach 0 10000)=true):zym S V cs bs x=false:=by
 refine zzd ?_
 rw [zDq] at h
 unfold zy1
 rw [show zBE x=false from by simpa using h,Bool.and_false]
theorem zE6 (h:(((!zc4 S V)||!inZ (cs.length:Int) 1 40)||decide (80 < (bs.length:Int)))=false) (h2:(((((!inZ x.wide 0 10000)||!inZ x.high 0 10000)||!inZ x.step 0 10000)||!inZ x.leap 0 10000)||!inZ x.reach 0 10000)=false):zy1 S V cs bs x=true∧zc4 S V=true:=by
 rw [zDq] at h2
 unfold zy1
 rw [show zBE x=true from by simpa using h2]
 revert h
 cases zc4 S V <;> cases inZ (cs.length:Int) 1 40 <;> cases decide (80 < (bs.length:Int)) <;> simp
end
end Go.Fld
namespace Go.Proofs.YteepmmghanbllaaGreatDoor
open Go.K Go.Stn Go.Pln Go.Fld Go.RowKit
theorem tf29:TF Tryz.prog 29 true 2 (.agg #[.slice none 0 0,.slice none 0 0]):=⟨by kernel_rfl,by kernel_rfl⟩
theorem tf31:TF Tryz.prog 31 true 5 (.agg #[.int IntKind.i64 0,.int IntKind.i64 0,.int IntKind.i64 0,.int IntKind.i64 0,.int IntKind.i64 0]):=⟨by kernel_rfl,by kernel_rfl⟩
theorem zCa:FO Tryz.prog 100 0 0:=⟨by kernel_rfl⟩
theorem zCb:FO Tryz.prog 100 1 1:=⟨by kernel_rfl⟩
theorem en20:En Tryz.prog 20:=za7 Tryz.func20 (by kernel_rfl) (by kernel_rfl)
theorem en53:En Tryz.prog 53:=za7 Tryz.func53 (by kernel_rfl) (by kernel_rfl)
theorem en83:En Tryz.prog 83:=za7 Tryz.func83 (by kernel_rfl) (by kernel_rfl)
theorem en84:En Tryz.prog 84:=za7 Tryz.func84 (by kernel_rfl) (by kernel_rfl)
theorem zFg {l:List Opn} {n:Int} (h0:0≤n) (h:n=(l.length:Int)):wayN l n.toNat = -1:=if_pos (by omega)
theorem zGK {l:List Opn} {n:Int} (h0:0≤n) (h:¬ n=(l.length:Int)):wayN l n.toNat=n:=(if_neg (by omega)).trans (by omega)
theorem zEb (a:Option Addr) (cap:Nat) (S:List ShC) (b:Option Addr) (bcap:Nat) (V:List WlC) (ca:Option Addr) (ccap:Nat) (cs:List ByteArray) (ba:Option Addr) (bcp:Nat) (bs:List Bdr) (x:Anm) (i:Int) (back:Bool) (w:World) (hl:Has w (zaW a 20 zbH S)) (hs:zaP S.length) (hcS:S.length≤cap) (hlw:Has w (zaW b 4 zbS V)) (hsw:zaP V.length) (hsh:∀ z∈S,Has w (Ints z.a z.s.heights)) (hss:∀ z∈S,zaP z.s.heights.length) (hwo:∀ z∈V,Has w (zaW z.a 5 zba z.s.opens)) (hsv:∀ z∈V,zaP z.s.opens.length) (hcp:∀ z∈V,z.s.opens.length≤z.cap) (hkn:∀ z∈V,∀ o∈z.s.opens,Knd o) (hc:Has w (zaW ca 1 encS cs)) (hcs:zaP cs.length) (hcap:cs.length≤ccap) (hbd:Has w (zaW ba 6 zyr bs)) (hbs:zaP bs.length) (hok:(zym S V cs bs x)=true) (i0:0≤i) (i1:i < bs.length) :
  Calls Tryz.prog 26 #[.agg #[.slice a S.length cap,.slice b V.length bcap],.agg #[.slice ca cs.length ccap,.slice ba bs.length bcp],.agg #[.int .i64 x.wide,.int .i64 x.high,.int .i64 x.step,.int .i64 x.leap,.int .i64 x.reach],.int .i64 i,.bool back] w (Pure (.tuple #[.int .i64 (acrB S V x (bs.getD i.toNat default) back ((zaN S V (bs.getD i.toNat default).wall).s.opens.length+1)).way,.int .i64 (acrB S V x (bs.getD i.toNat default) back ((zaN S V (bs.getD i.toNat default).wall).s.opens.length+1)).eff,.bool (acrB S V x (bs.getD i.toNat default) back ((zaN S V (bs.getD i.toNat default).wall).s.opens.length+1)).some]) w):=by
 obtain⟨_,_,hbn,_,_,hbo⟩:=zzD hok
 have hbrd:=hbo i.toNat (by omega)
 have hf:=(zzq hbrd).1
 obtain⟨hG1,hG2⟩:=zBh hbrd
 have hnums:=hG1.nums
 have hgg1:=hG1.g
 have hgg2:=hG2.g
 have hwo1:=zfL (S:=S) (V:=V) (n:=(bs.getD i.toNat default).wall) hwo
 have hss1:=zhG (S:=S) (V:=V) (n:=(bs.getD i.toNat default).wall) hsh
 obtain⟨hsvw,hsss⟩:=zxT (n:=(bs.getD i.toNat default).wall) hsv hss
 have hon:=hG1.wf.num
 refine zan (vs:=[_,_,_,_,_]) Tryz.func26 rfl rfl (Nat.le_of_ble_eq_true rfl) (zac (zaa (zaG rfl rfl (za3 (vs:=[_,_]) rfl rfl) fun b5=>(zaG rfl rfl (za3 (vs:=[_,_]) rfl rfl) fun b6=>(zaG rfl rfl (za3 (vs:=[_,_,_,_,_]) rfl rfl) fun b7=>(gA rfl (gA rfl (gA rfl (gN [3,4,5,6,7,10,11,12] rfl (zac (zCs [] (ch [(10,Nat),(11,Nat)]) 1000 14 [0,0,2,0,14,30,63,127,255,255,0,0,3583,8191] [] rfl (fun _=>mixed) (by kernel_rfl) (zjK _ ⟨inferInstance,inferInstance,trivial⟩) (zAr (fun ρ=>zat 2 tf25 rfl rfl (vs:=[_,_]) rfl rfl) (fun ρ ρ' h=>by rfl) (zAr (fun ρ=>zab zzL rfl) (fun ρ ρ' h=>by rfl) (zAr (fun ρ=>zah 1 tf27 rfl rfl rfl) (fun ρ ρ' h=>by rfl) (zAr (fun ρ=>zaf rfl) (fun ρ ρ' h=>by rfl) (zAr (fun ρ=>zaE se27 rfl rfl (fun _ hw=>(Rd.has (Has.rd hbd) hw)) (by omega) (by omega)) (fun ρ ρ' h=>by rfl) (zAr (fun ρ=>zbv (vs:=[_,_,_,_,_,_]) zAU rfl (fun _ hw=>(Rd.has (Has.rd hbd) hw)) (by omega) (by omega) rfl) (fun ρ ρ' h=>by rfl) (zAr (fun ρ=>zaJ en52 rfl (fun w hw=>zEe _ _ S _ _ V (bs.getD i.toNat default) w (Rd.has (Has.rd hl) hw) hs hcS (Rd.has (Has.rd hlw) hw) hsw (fun z hz=>(Rd.has (Has.rd (hsh z hz)) hw)) hss (fun z hz=>(Rd.has (Has.rd (hwo z hz)) hw)) hsv hcp hkn hf)) (fun ρ ρ' h=>by rfl) (zAr (fun ρ=>zaf rfl) (fun ρ ρ' h=>by rfl) ?_)))))))))))))))))))
 refine zAr (fun ρ=>zaB rfl rfl) (fun ρ ρ' h=>by rfl) (zAr (fun ρ=>zaB rfl rfl) (fun ρ ρ' h=>by rfl) (zFy (fun ρ=>zaL zAk (zs:=[_,_,_,_]) rfl) (fun ρ ρ' h=>⟨by rfl,by rfl⟩) (zFy (fun ρ=>zaL zzu (zs:=[_,_,_,_,_,_,_,_,_,_,_,_,_,_,_,_,_,_,_,_]) rfl) (fun ρ ρ' h=>⟨by rfl,by rfl⟩) (zIb (R:=fun ρ=>Box (ρ 10) [.string ⟨#[]⟩,.string ⟨#[]⟩,.int .i64 0,.slice none 0 0] 134) (A:=fun ρ=>Box (ρ 10) [.string (zaN S V (bs.getD i.toNat default).wall).s.name,.string (zaN S V (bs.getD i.toNat default).wall).s.sheet,.int .i64 ((zaN S V (bs.getD i.toNat default).wall).s.length),.slice (zaN S V (bs.getD i.toNat default).wall).a (zaN S V (bs.getD i.toNat default).wall).s.opens.length (zaN S V (bs.getD i.toNat default).wall).cap] 134) 10 rfl rfl (fun _=>rfl) (fun ρ=>zex zAk rfl rfl (vs:=[_,_,_,_]) rfl rfl rfl rfl rfl) (fun ρ ρ' h=>by(first | rfl | (simp only [h 10 rfl]; done) | (simp only [h 10 rfl]; rfl))) ?_))))
 refine zIb (R:=fun ρ=>Box (ρ 11) [.string ⟨#[]⟩,.int .i64 0,.int .i64 0,.int .i64 0,.int .i64 0,.slice none 0 0,.int .i64 0,.int .i64 0,.int .i64 0,.int .i64 0,.int .i64 0,.int .i64 0,.int .i64 0,.int .u8 0,.int .i64 0,.int .i64 0,.int .i64 0,.int .i64 0,.int .i64 0,.int .i64 0] 135) (A:=fun ρ=>Box (ρ 11) [.string (zar S V (bs.getD i.toNat default).wall).s.name,.int .i64 ((zar S V (bs.getD i.toNat default).wall).s.base),.int .i64 ((zar S V (bs.getD i.toNat default).wall).s.batter),.int .i64 ((zar S V (bs.getD i.toNat default).wall).s.height),.int .i64 ((zar S V (bs.getD i.toNat default).wall).s.skin),.slice (zar S V (bs.getD i.toNat default).wall).a (zar S V (bs.getD i.toNat default).wall).s.heights.length (zar S V (bs.getD i.toNat default).wall).cap,.int .i64 ((zar S V (bs.getD i.toNat default).wall).s.least),.int .i64 ((zar S V (bs.getD i.toNat default).wall).s.lap),.int .i64 ((zar S V (bs.getD i.toNat default).wall).s.run),.int .i64 ((zar S V (bs.getD i.toNat default).wall).s.every),.int .i64 ((zar S V (bs.getD i.toNat default).wall).s.at_),.int .i64 ((zar S V (bs.getD i.toNat default).wall).s.footing),.int .i64 ((zar S V (bs.getD i.toNat default).wall).s.spread),.int .u8 (zar S V (bs.getD i.toNat default).wall).s.cope,.int .i64 ((zar S V (bs.getD i.toNat default).wall).s.tall),.int .i64 ((zar S V (bs.getD i.toNat default).wall).s.short),.int .i64 ((zar S V (bs.getD i.toNat default).wall).s.thick),.int .i64 ((zar S V (bs.getD i.toNat default).wall).s.low),.int .i64 ((zar S V (bs.getD i.toNat default).wall).s.high),.int .i64 ((zar S V (bs.getD i.toNat default).wall).s.rood)] 135) 11 rfl rfl (fun _=>rfl) (fun ρ=>zex zzu rfl rfl (vs:=[_,_,_,_,_,_,_,_,_,_,_,_,_,_,_,_,_,_,_,_]) rfl rfl rfl rfl rfl) (fun ρ ρ' h=>by(first | rfl | (simp only [h 11 rfl]; done) | (simp only [h 11 rfl]; rfl))) ?_
 refine fun ρ=>zag (zf4 (X:=Nat×Nat) (ρ 10,ρ 11) (fun⟨b13,b14⟩=>[(3,.int .i64 i),(4,.bool back),(5,.pointer (some ⟨b5,0,none⟩)),(6,.pointer (some ⟨b6,0,none⟩)),(7,.pointer (some ⟨b7,0,none⟩)),(10,.int .i64 0),(11,.int .i64 0),(12,.bool false),(13,.pointer (some ⟨b13,0,none⟩))]) (fun⟨b13,b14⟩=>[Box b14 [.string (zar S V (bs.getD i.toNat default).wall).s.name,.int .i64 ((zar S V (bs.getD i.toNat default).wall).s.base),.int .i64 ((zar S V (bs.getD i.toNat default).wall).s.batter),.int .i64 ((zar S V (bs.getD i.toNat default).wall).s.height),.int .i64 ((zar S V (bs.getD i.toNat default).wall).s.skin),.slice (zar S V (bs.getD i.toNat default).wall).a (zar S V (bs.getD i.toNat default).wall).s.heights.length (zar S V (bs.getD i.toNat default).wall).cap,.int .i64 ((zar S V (bs.getD i.toNat default).wall).s.least),.int .i64 ((zar S V (bs.getD i.toNat default).wall).s.lap),.int .i64 ((zar S V (bs.getD i.toNat default).wall).s.run),.int .i64 ((zar S V (bs.getD i.toNat default).wall).s.every),.int .i64 ((zar S V (bs.getD i.toNat default).wall).s.at_),.int .i64 ((zar S V (bs.getD i.toNat default).wall).s.footing),.int .i64 ((zar S V (bs.getD i.toNat default).wall).s.spread),.int .u8 (zar S V (bs.getD i.toNat default).wall).s.cope,.int .i64 ((zar S V (bs.getD i.toNat default).wall).s.tall),.int .i64 ((zar S V (bs.getD i.toNat default).wall).s.short),.int .i64 ((zar S V (bs.getD i.toNat default).wall).s.thick),.int .i64 ((zar S V (bs.getD i.toNat default).wall).s.low),.int .i64 ((zar S V (bs.getD i.toNat default).wall).s.high),.int .i64 ((zar S V (bs.getD i.toNat default).wall).s.rood)] 135,Box b13 [.string (zaN S V (bs.getD i.toNat default).wall).s.name,.string (zaN S V (bs.getD i.toNat default).wall).s.sheet,.int .i64 ((zaN S V (bs.getD i.toNat default).wall).s.length),.slice (zaN S V (bs.getD i.toNat default).wall).a (zaN S V (bs.getD i.toNat default).wall).s.opens.length (zaN S V (bs.getD i.toNat default).wall).cap] 134,Box b7 [.int .i64 x.wide,.int .i64 x.high,.int .i64 x.step,.int .i64 x.leap,.int .i64 x.reach] 31,Box b6 [.slice ca cs.length ccap,.slice ba bs.length bcp] 29,Box b5 [.slice a S.length cap,.slice b V.length bcap] 25]) ⟨rfl,rfl,rfl,rfl,rfl,rfl,rfl,rfl,rfl,trivial⟩ rfl ?_)
 rintro ⟨b13,b14⟩
 refine zac (zaa (gA rfl (gA rfl (gA rfl (gN [3,4,5,6,7,10,11,12,13,15,16,17] rfl (zac (zac (zaa (gA rfl (gN [3,4,5,6,7,10,11,12,13,15,16,17,18] rfl (zas ?_)))))))))))
 refine zbf (X:=Int) (fun(n:Int)=>[(3,.int .i64 i),(4,.bool back),(5,.pointer (some ⟨b5,0,none⟩)),(6,.pointer (some ⟨b6,0,none⟩)),(7,.pointer (some ⟨b7,0,none⟩)),(10,.int .i64 0),(11,.int .i64 0),(12,.bool false),(13,.pointer (some ⟨b13,0,none⟩)),(15,.int .i64 (acrB S V x (bs.getD i.toNat default) back n.toNat).way),(16,.int .i64 (acrB S V x (bs.getD i.toNat default) back n.toNat).eff),(17,.bool (acrB S V x (bs.getD i.toNat default) back n.toNat).some),(18,.int .i64 n)]) (fun(n:Int)=>[Box b14 [.string (zar S V (bs.getD i.toNat default).wall).s.name,.int .i64 ((zar S V (bs.getD i.toNat default).wall).s.base),.int .i64 ((zar S V (bs.getD i.toNat default).wall).s.batter),.int .i64 ((zar S V (bs.getD i.toNat default).wall).s.height),.int .i64 ((zar S V (bs.getD i.toNat default).wall).s.skin),.slice (zar S V (bs.getD i.toNat default).wall).a (zar S V (bs.getD i.toNat default).wall).s.heights.length (zar S V (bs.getD i.toNat default).wall).cap,.int .i64 ((zar S V (bs.getD i.toNat default).wall).s.least),.int .i64 ((zar S V (bs.getD i.toNat default).wall).s.lap),.int .i64 ((zar S V (bs.getD i.toNat default).wall).s.run),.int .i64 ((zar S V (bs.getD i.toNat default).wall).s.every),.int .i64 ((zar S V (bs.getD i.toNat default).wall).s.at_),.int .i64 ((zar S V (bs.getD i.toNat default).wall).s.footing),.int .i64 ((zar S V (bs.getD i.toNat default).wall).s.spread),.int .u8 (zar S V (bs.getD i.toNat default).wall).s.cope,.int .i64 ((zar S V (bs.getD i.toNat default).wall).s.tall),.int .i64 ((zar S V (bs.getD i.toNat default).wall).s.short),.int .i64 ((zar S V (bs.getD i.toNat default).wall).s.thick),.int .i64 ((zar S V (bs.getD i.toNat default).wall).s.low),.int .i64 ((zar S V (bs.getD i.toNat default).wall).s.high),.int .i64 ((zar S V (bs.getD i.toNat default).wall).s.rood)] 135,Box b13 [.string (zaN S V (bs.getD i.toNat default).wall).s.name,.string (zaN S V (bs.getD i.toNat default).wall).s.sheet,.int .i64 ((zaN S V (bs.getD i.toNat default).wall).s.length),.slice (zaN S V (bs.getD i.toNat default).wall).a (zaN S V (bs.getD i.toNat default).wall).s.opens.length (zaN S V (bs.getD i.toNat default).wall).cap] 134,Box b7 [.int .i64 x.wide,.int .i64 x.high,.int .i64 x.step,.int .i64 x.leap,.int .i64 x.reach] 31,Box b6 [.slice ca cs.length ccap,.slice ba bs.length bcp] 29,Box b5 [.slice a S.length cap,.slice b V.length bcap] 25]) (fun(n:Int)=>(0≤n∧n≤((zaN S V (bs.getD i.toNat default).wall).s.opens.length:Int)+1)) (fun(n:Int)=>(((zaN S V (bs.getD i.toNat default).wall).s.opens.length:Int)+1 - n).toNat) 0 ⟨rfl,rfl,rfl,rfl,rfl,rfl,rfl,rfl,rfl,rfl,rfl,rfl,rfl,trivial⟩ rfl ?_ ?_
 ·exact⟨by omega,by omega⟩
 ·rintro n hI
  obtain⟨n0,n1⟩:=hI
  refine zac (zac (zaa (gM rfl (gQ (zab zyN rfl) (gQ (zah 1 zAj rfl rfl rfl) (gQ (zaV (Tryz.underlying132) rfl) (gQ (zeT rfl rfl) (gN [3,4,5,6,7,10,11,12,13,15,16,17,18,36] rfl (zap rfl (fun hc36=>?_) (fun hc36=>?_))))))))))
  ·have hc36:=of_decide_eq_true hc36
   have hup:=zGR (S:=S) (V:=V) (x:=x) (b:=(bs.getD i.toNat default)) (back:=back) (n:=n.toNat)
   rw [show n.toNat+1=(n+1).toNat from by omega] at hup
   refine zaq (zac (zas (zac (zaa (gM rfl (gA rfl (gN [3,4,5,6,7,10,11,12,13,15,16,17,18,19] rfl (zac (zac (zaa (gM rfl (gQ (zab zyN rfl) (gQ (zah 1 zAj rfl rfl rfl) (gQ (zaV (Tryz.underlying132) rfl) (gQ (zbL rfl rfl) (gN [3,4,5,6,7,10,11,12,13,15,16,17,18,19,44] rfl (zap rfl (fun hc44=>?_) (fun hc44=>?_))))))))))))))))))
   ·have hwn:=zFg n0 (of_decide_eq_true hc44)
    rw [hwn] at hup
    refine zaa (gA rfl (gN [3,4,5,6,7,10,11,12,13,15,16,17,18,19] rfl (zac (zaa (gQ (zat 4 tf25 rfl rfl (vs:=[_,_]) rfl rfl) (gQ (zat 3 tf29 rfl rfl (vs:=[_,_]) rfl rfl) (gQ (zat 2 tf31 rfl rfl (vs:=[_,_,_,_,_]) rfl rfl) (gM rfl (gM rfl (gM rfl (gQ (zaJ en53 rfl (fun w hw=>zFz _ _ S _ _ V _ _ cs _ _ bs x i back (-1) w (Rd.has (Has.rd hl) hw) hs hcS (Rd.has (Has.rd hlw) hw) hsw (fun z hz=>(Rd.has (Has.rd (hsh z hz)) hw)) hss (fun z hz=>(Rd.has (Has.rd (hwo z hz)) hw)) hsv hcp hkn (Rd.has (Has.rd hc) hw) hcs hcap (Rd.has (Has.rd hbd) hw) hbs hok i0 i1)) (gM rfl (gQ (zaB rfl rfl) (gQ (zaB rfl rfl) (gA rfl (gA rfl (gN [3,4,5,6,7,10,11,12,13,15,16,17,18,19,20,21] rfl (zac (zbb 10 (fun _=>mixed) (by kernel_rfl) (ph_y (zaf rfl) (ph_y (zaf rfl) (zaH rfl rfl (fun hgd=>by(try rw [hgd]); exact(zaf rfl)) (zaH rfl rfl (fun hgd=>by(try rw [hgd]); exact(zbR rfl)) (zaH rfl rfl (fun hgd=>by(try rw [hgd]); exact(zaf rfl)) (zc0 rfl rfl (fun hgd=>by(try rw [hgd]); exact(zaf rfl)) (zc0 rfl rfl (fun hgd=>by(try rw [hgd]); exact(zaf rfl)) (zc0 rfl rfl (fun hgd=>by(try rw [hgd]); exact(zbw rfl rfl)) (zaH rfl rfl (fun hgd=>by(try rw [hgd]); exact(zaR rfl rfl rfl)) (ph_y (zaX rfl rfl rfl) (gN [3,4,5,6,7,10,11,12,13,15,16,17,18,19,20,64] rfl ?_))))))))))))))))))))))))))))))
    refine zap rfl (fun hc64=>?_) (fun hc64=>?_)
    ·rw [if_pos hc64] at hup
     refine zaa (gM rfl (gM rfl (gA rfl (gA rfl (gA rfl (gN [3,4,5,6,7,10,11,12,13,15,16,17,18] rfl (zae (T':=[(3,_),(4,_),(5,_),(6,_),(7,_),(10,_),(11,_),(12,_),(13,_),(15,.int .i64 (acrB S V x (bs.getD i.toNat default) back (n+1).toNat).way),(16,.int .i64 (acrB S V x (bs.getD i.toNat default) back (n+1).toNat).eff),(17,.bool (acrB S V x (bs.getD i.toNat default) back (n+1).toNat).some),(18,_)]) ⟨rfl,rfl,rfl,rfl,rfl,rfl,rfl,rfl,rfl,(by show some (Value.int .i64 (-1))=_; rw [hup]),(by show some (Value.int .i64 ((mayB S V x (bs.getD i.toNat default) back (-1)).1))=_; rw [hup]),(by show some (Value.bool true)=_; rw [hup]),rfl,trivial⟩ (zaa (gM rfl (gQ (zaY rfl rfl (by omega) (by omega)) (gA rfl (gN [3,4,5,6,7,10,11,12,13,15,16,17,18] rfl ?_))))))))))))
     exact za1 (n+1) ⟨rfl,rfl,rfl,rfl,rfl,rfl,rfl,rfl,rfl,rfl,rfl,rfl,rfl,trivial⟩ rfl ⟨by omega,by omega⟩ (by omega)
    ·rw [if_neg (by rw [hc64]; exact Bool.false_ne_true)] at hup
     refine zae (T':=[(3,_),(4,_),(5,_),(6,_),(7,_),(10,_),(11,_),(12,_),(13,_),(15,.int .i64 (acrB S V x (bs.getD i.toNat default) back (n+1).toNat).way),(16,.int .i64 (acrB S V x (bs.getD i.toNat default) back (n+1).toNat).eff),(17,.bool (acrB S V x (bs.getD i.toNat default) back (n+1).toNat).some),(18,_),(19,_),(20,_),(64,_)]) ⟨rfl,rfl,rfl,rfl,rfl,rfl,rfl,rfl,rfl,(by show some (Value.int .i64 (acrB S V x (bs.getD i.toNat default) back n.toNat).way)=_; rw [hup]),(by show some (Value.int .i64 (acrB S V x (bs.getD i.toNat default) back n.toNat).eff)=_; rw [hup]),(by show some (Value.bool (acrB S V x (bs.getD i.toNat default) back n.toNat).some)=_; rw [hup]),rfl,rfl,rfl,rfl,trivial⟩ (zaq (zaa (gM rfl (gQ (zaY rfl rfl (by omega) (by omega)) (gA rfl (gN [3,4,5,6,7,10,11,12,13,15,16,17,18] rfl ?_))))))
     exact za1 (n+1) ⟨rfl,rfl,rfl,rfl,rfl,rfl,rfl,rfl,rfl,rfl,rfl,rfl,rfl,trivial⟩ rfl ⟨by omega,by omega⟩ (by omega)
   ·have hwn:=zGK n0 (of_decide_eq_false hc44)
    rw [hwn] at hup
    refine zaq (zac (zaa (gQ (zat 4 tf25 rfl rfl (vs:=[_,_]) rfl rfl) (gQ (zat 3 tf29 rfl rfl (vs:=[_,_]) rfl rfl) (gQ (zat 2 tf31 rfl rfl (vs:=[_,_,_,_,_]) rfl rfl) (gM rfl (gM rfl (gM rfl (gQ (zaJ en53 rfl (fun w hw=>zFz _ _ S _ _ V _ _ cs _ _ bs x i back n w (Rd.has (Has.rd hl) hw) hs hcS (Rd.has (Has.rd hlw) hw) hsw (fun z hz=>(Rd.has (Has.rd (hsh z hz)) hw)) hss (fun z hz=>(Rd.has (Has.rd (hwo z hz)) hw)) hsv hcp hkn (Rd.has (Has.rd hc) hw) hcs hcap (Rd.has (Has.rd hbd) hw) hbs hok i0 i1)) (gM rfl (gQ (zaB rfl rfl) (gQ (zaB rfl rfl) (gA rfl (gA rfl (gN [3,4,5,6,7,10,11,12,13,15,16,17,18,19,20,21] rfl (zac (zbb 10 (fun _=>mixed) (by kernel_rfl) (ph_y (zaf rfl) (ph_y (zaf rfl) (zaH rfl rfl (fun hgd=>by(try rw [hgd]); exact(zaf rfl)) (zaH rfl rfl (fun hgd=>by(try rw [hgd]); exact(zbR rfl)) (zaH rfl rfl (fun hgd=>by(try rw [hgd]); exact(zaf rfl)) (zc0 rfl rfl (fun hgd=>by(try rw [hgd]); exact(zaf rfl)) (zc0 rfl rfl (fun hgd=>by(try rw [hgd]); exact(zaf rfl)) (zc0 rfl rfl (fun hgd=>by(try rw [hgd]); exact(zbw rfl rfl)) (zaH rfl rfl (fun hgd=>by(try rw [hgd]); exact(zaR rfl rfl rfl)) (ph_y (zaX rfl rfl rfl) (gN [3,4,5,6,7,10,11,12,13,15,16,17,18,19,20,64] rfl (zap rfl (fun hc64=>?_) (fun hc64=>?_))))))))))))))))))))))))))))))
    ·rw [if_pos hc64] at hup
     refine zaa (gM rfl (gM rfl (gA rfl (gA rfl (gA rfl (gN [3,4,5,6,7,10,11,12,13,15,16,17,18] rfl (zae (T':=[(3,_),(4,_),(5,_),(6,_),(7,_),(10,_),(11,_),(12,_),(13,_),(15,.int .i64 (acrB S V x (bs.getD i.toNat default) back (n+1).toNat).way),(16,.int .i64 (acrB S V x (bs.getD i.toNat default) back (n+1).toNat).eff),(17,.bool (acrB S V x (bs.getD i.toNat default) back (n+1).toNat).some),(18,_)]) ⟨rfl,rfl,rfl,rfl,rfl,rfl,rfl,rfl,rfl,(by show some (Value.int .i64 n)=_; rw [hup]),(by show some (Value.int .i64 ((mayB S V x (bs.getD i.toNat default) back n).1))=_; rw [hup]),(by show some (Value.bool true)=_; rw [hup]),rfl,trivial⟩ (zaa (gM rfl (gQ (zaY rfl rfl (by omega) (by omega)) (gA rfl (gN [3,4,5,6,7,10,11,12,13,15,16,17,18] rfl ?_))))))))))))
     exact za1 (n+1) ⟨rfl,rfl,rfl,rfl,rfl,rfl,rfl,rfl,rfl,rfl,rfl,rfl,rfl,trivial⟩ rfl ⟨by omega,by omega⟩ (by omega)
    ·rw [if_neg (by rw [hc64]; exact Bool.false_ne_true)] at hup
     refine zae (T':=[(3,_),(4,_),(5,_),(6,_),(7,_),(10,_),(11,_),(12,_),(13,_),(15,.int .i64 (acrB S V x (bs.getD i.toNat default) back (n+1).toNat).way),(16,.int .i64 (acrB S V x (bs.getD i.toNat default) back (n+1).toNat).eff),(17,.bool (acrB S V x (bs.getD i.toNat default) back (n+1).toNat).some),(18,_),(19,_),(20,_),(64,_)]) ⟨rfl,rfl,rfl,rfl,rfl,rfl,rfl,rfl,rfl,(by show some (Value.int .i64 (acrB S V x (bs.getD i.toNat default) back n.toNat).way)=_; rw [hup]),(by show some (Value.int .i64 (acrB S V x (bs.getD i.toNat default) back n.toNat).eff)=_; rw [hup]),(by show some (Value.bool (acrB S V x (bs.getD i.toNat default) back n.toNat).some)=_; rw [hup]),rfl,rfl,rfl,rfl,trivial⟩ (zaq (zaa (gM rfl (gQ (zaY rfl rfl (by omega) (by omega)) (gA rfl (gN [3,4,5,6,7,10,11,12,13,15,16,17,18] rfl ?_))))))
     exact za1 (n+1) ⟨rfl,rfl,rfl,rfl,rfl,rfl,rfl,rfl,rfl,rfl,rfl,rfl,rfl,trivial⟩ rfl ⟨by omega,by omega⟩ (by omega)
  ·have hc36:=of_decide_eq_false hc36
   have hend:n.toNat=(zaN S V (bs.getD i.toNat default).wall).s.opens.length+1:=by omega
   refine za8 rfl (zac (zaa (gM rfl (gM rfl (gM rfl (gA rfl (gA rfl (gA rfl (gN [10,11,12] rfl (zaw (zay (zdh rfl (zau rfl) (zau rfl) (zau rfl)) ?_)))))))))))
   rw [hend]
theorem zEd (a:Option Addr) (cap:Nat) (S:List ShC) (b:Option Addr) (bcap:Nat) (V:List WlC) (ca:Option Addr) (ccap:Nat) (cs:List ByteArray) (ba:Option Addr) (bcp:Nat) (bs:List Bdr) (x:Anm) (w:World) (hl:Has w (zaW a 20 zbH S)) (hs:zaP S.length) (_hcS:S.length≤cap) (hlw:Has w (zaW b 4 zbS V)) (hsw:zaP V.length) (hsh:∀ z∈S,Has w (Ints z.a z.s.heights)) (hss:∀ z∈S,zaP z.s.heights.length) (hwo:∀ z∈V,Has w (zaW z.a 5 zba z.s.opens)) (hsv:∀ z∈V,zaP z.s.opens.length) (hcp:∀ z∈V,z.s.opens.length≤z.cap) (hkn:∀ z∈V,∀ o∈z.s.opens,Knd o) (hc:Has w (zaW ca 1 encS cs)) (hcs:zaP cs.length) (_hcap:cs.length≤ccap) (hbd:Has w (zaW ba 6 zyr bs)) (hbs:zaP bs.length) (hfS:∀ z∈S,Fits z.s.name.size) (hfV:∀ z∈V,Fits z.s.name.size) (hco:∀ z∈S,0≤z.s.cope) (hcf:∀ z∈cs,Fits z.size) :
  Calls Tryz.prog 51 #[.agg #[.slice a S.length cap,.slice b V.length bcap],.agg #[.slice ca cs.length ccap,.slice ba bs.length bcp],.agg #[.int .i64 x.wide,.int .i64 x.high,.int .i64 x.step,.int .i64 x.leap,.int .i64 x.reach]] w (Pure (.bool (zym S V cs bs x)) w):=by
 refine zan (vs:=[_,_,_]) Tryz.func51 rfl rfl (Nat.le_of_ble_eq_true rfl) (zac (zaa (zaG rfl rfl (za3 (vs:=[_,_]) rfl rfl) fun b3=>(zaG rfl rfl (za3 (vs:=[_,_]) rfl rfl) fun b4=>(zaG rfl rfl (za3 (vs:=[_,_,_,_,_]) rfl rfl) fun b5=>(gA rfl (gN [3,4,5,6] rfl (zac (zac (zbb 16 (fun _=>mixed) (by kernel_rfl) (ph_y (zat 2 tf25 rfl rfl (vs:=[_,_]) rfl rfl) (ph_y (zaJ en83 rfl (fun w hw=>zsf _ _ S _ _ V w (Rd.has (Has.rd hl) hw) hs (Rd.has (Has.rd hlw) hw) hsw (fun z hz=>(Rd.has (Has.rd (hsh z hz)) hw)) hss (fun z hz=>(Rd.has (Has.rd (hwo z hz)) hw)) hsv hcp hkn hfS hfV hco)) (ph_y (zbR rfl) (ph_y (zaf rfl) (zaz rfl rfl (fun hgd=>by(try rw [hgd]); exact(zab zAp rfl)) (zaz rfl rfl (fun hgd=>by(try rw [hgd]); exact(zah 1 tf26 rfl rfl rfl)) (zaz rfl rfl (fun hgd=>by(try rw [hgd]); exact(zaV (Tryz.underlying26) rfl)) (zaz rfl rfl (fun hgd=>by(try rw [hgd]); exact(zaJ (v:=.bool (inZ (cs.length:Int) 1 40)) en84 rfl (fun w hw=>zBU _ _ _ w))) (zaz rfl rfl (fun hgd=>by(try rw [hgd]); exact(zbR rfl)) (ph_y (zaR rfl rfl rfl) (ph_y (zaf rfl) (zaz rfl rfl (fun hgd=>by(try rw [hgd]); exact(zab zzL rfl)) (zaz rfl rfl (fun hgd=>by(try rw [hgd]); exact(zah 1 tf27 rfl rfl rfl)) (zaz rfl rfl (fun hgd=>by(try rw [hgd]); exact(zaV (Tryz.underlying27) rfl)) ?_))))))))))))))))))))))))
 refine zaz rfl rfl (fun hgd=>by(try rw [hgd]); exact(zc6 rfl rfl)) (ph_y (zaR rfl rfl rfl) (gN [3,4,5,6,26] rfl (zap rfl (fun hc26=>?_) (fun hc26=>?_))))
 ·have hno:zym S V cs bs x=false:=zGA hc26
  refine zac (zaa (gA rfl (gN [3,4,5,6] rfl (zaw (zay (zaC rfl (zau rfl)) ?_)))))
  rw [hno]
 ·
  refine zaq (zac (zac (zbb 28 (fun _=>mixed) (by kernel_rfl) (ph_y (zab zeo rfl) (ph_y (zah 0 tf3 rfl rfl rfl) (ph_y (zaJ en84 rfl (fun w hw=>zBU _ _ _ w)) (ph_y (zbR rfl) (ph_y (zaf rfl) (zaz rfl rfl (fun hgd=>by(try rw [hgd]); exact(zab zd7 rfl)) (zaz rfl rfl (fun hgd=>by(try rw [hgd]); exact(zah 0 tf3 rfl rfl rfl)) (zaz rfl rfl (fun hgd=>by(try rw [hgd]); exact(zaJ (v:=.bool (inZ x.high 0 10000)) en84 rfl (fun w hw=>zBU _ _ _ w))) (zaz rfl rfl (fun hgd=>by(try rw [hgd]); exact(zbR rfl)) (ph_y (zaR rfl rfl rfl) (ph_y (zaf rfl) (zaz rfl rfl (fun hgd=>by(try rw [hgd]); exact(zab zCQ rfl)) (zaz rfl rfl (fun hgd=>by(try rw [hgd]); exact(zah 0 tf3 rfl rfl rfl)) (zaz rfl rfl (fun hgd=>by(try rw [hgd]); exact(zaJ (v:=.bool (inZ x.step 0 10000)) en84 rfl (fun w hw=>zBU _ _ _ w))) (zaz rfl rfl (fun hgd=>by(try rw [hgd]); exact(zbR rfl)) (ph_y (zaR rfl rfl rfl) (ph_y (zaf rfl) (zaz rfl rfl (fun hgd=>by(try rw [hgd]); exact(zab zA6 rfl)) (zaz rfl rfl (fun hgd=>by(try rw [hgd]); exact(zah 0 tf3 rfl rfl rfl)) (zaz rfl rfl (fun hgd=>by(try rw [hgd]); exact(zaJ (v:=.bool (inZ x.leap 0 10000)) en84 rfl (fun w hw=>zBU _ _ _ w))) (zaz rfl rfl (fun hgd=>by(try rw [hgd]); exact(zbR rfl)) (ph_y (zaR rfl rfl rfl) (ph_y (zaf rfl) ?_))))))))))))))))))))))))))
  refine zaz rfl rfl (fun hgd=>by(try rw [hgd]); exact(zab zA7 rfl)) (zaz rfl rfl (fun hgd=>by(try rw [hgd]); exact(zah 0 tf3 rfl rfl rfl)) (zaz rfl rfl (fun hgd=>by(try rw [hgd]); exact(zaJ (v:=.bool (inZ x.reach 0 10000)) en84 rfl (fun w hw=>zBU _ _ _ w))) (zaz rfl rfl (fun hgd=>by(try rw [hgd]); exact(zbR rfl)) (ph_y (zaR rfl rfl rfl) (gN [3,4,6,54] rfl (zap rfl (fun hc54=>?_) (fun hc54=>?_)))))))
  ·have hno:zym S V cs bs x=false:=zGB hc54
   refine zac (zaa (gA rfl (gN [3,4,6] rfl (zaw (zay (zaC rfl (zau rfl)) ?_)))))
   rw [hno]
  ·obtain⟨hhead,hP⟩:=zE6 hc26 hc54
   refine zaq (zac (zac (zaa (gA rfl (gN [3,4,6,7] rfl (zas (zbf (X:=Int) (fun(i:Int)=>[(3,.pointer (some ⟨b3,0,none⟩)),(4,.pointer (some ⟨b4,0,none⟩)),(6,.bool false),(7,.int .i64 i)]) (fun(i:Int)=>[Box b5 [.int .i64 x.wide,.int .i64 x.high,.int .i64 x.step,.int .i64 x.leap,.int .i64 x.reach] 31,Box b4 [.slice ca cs.length ccap,.slice ba bs.length bcp] 29,Box b3 [.slice a S.length cap,.slice b V.length bcap] 25]) (fun(i:Int)=>(0≤i∧i≤cs.length∧∀ j:Nat,(j:Int) < i→zy0 cs j=true)) (fun(i:Int)=>(cs.length - i).toNat) 0 ⟨rfl,rfl,rfl,rfl,trivial⟩ rfl ?_ ?_)))))))
   ·exact⟨by omega,by omega,fun j hj=>by omega⟩
   ·rintro i hI
    obtain⟨g0,g1,g2⟩:=hI
    refine zac (zac (zaa (gM rfl (gQ (zab zAp rfl) (gQ (zah 1 tf26 rfl rfl rfl) (gQ (zaV (Tryz.underlying26) rfl) (gQ (zbw rfl rfl) (gN [3,4,6,7,59] rfl (zap rfl (fun hc59=>?_) (fun hc59=>?_))))))))))
    ·have hc59:=of_decide_eq_true hc59
     refine zaq (zac (zas (zac (zac (zaa (gQ (zab zAp rfl) (gQ (zah 1 tf26 rfl rfl rfl) (gM rfl (gQ (zaE se26 rfl rfl (fun _ hw=>(Rd.has (Has.rd hc) hw)) (by omega) (by omega)) (gQ (zcE tf9 rfl (fun _ hw=>(Rd.has (Has.rd hc) hw)) (by omega) (by omega) rfl) (gQ (zaJ en85 rfl (fun w hw=>znM (cs.getD i.toNat default) w (hcf _ (za0 (by omega))))) (gQ (zbR rfl) (gN [3,4,6,7,68] rfl (zap rfl (fun hc68=>?_) (fun hc68=>?_)))))))))))))))
     ·have hno:zym S V cs bs x=false:=zAf (i:=i.toNat) (by omega) (zDD hc68)
      refine zac (zaa (gA rfl (gN [3,4,6,7] rfl (zaw (zay (zaC rfl (zau rfl)) ?_)))))
      rw [hno]
     ·
      refine zaq (zac (zaa (gA rfl (gN [3,4,6,7,8] rfl (zas (zbf (X:=Int) (fun(k:Int)=>[(3,.pointer (some ⟨b3,0,none⟩)),(4,.pointer (some ⟨b4,0,none⟩)),(6,.bool false),(7,.int .i64 i),(8,.int .i64 k)]) (fun(k:Int)=>[Box b5 [.int .i64 x.wide,.int .i64 x.high,.int .i64 x.step,.int .i64 x.leap,.int .i64 x.reach] 31,Box b4 [.slice ca cs.length ccap,.slice ba bs.length bcp] 29,Box b3 [.slice a S.length cap,.slice b V.length bcap] 25]) (fun(k:Int)=>(0≤k∧k≤i∧∀ j:Nat,(j:Int) < k→((cs.getD i.toNat default).toList == (cs.getD j default).toList)=false)) (fun(k:Int)=>(i - k).toNat) 0 ⟨rfl,rfl,rfl,rfl,rfl,trivial⟩ rfl ?_ ?_))))))
      ·exact⟨by omega,by omega,fun j hj=>by omega⟩
      ·rintro k hI
       obtain⟨h0,h1,h2⟩:=hI
       refine zac (zac (zaa (gM rfl (gM rfl (gQ (zbw rfl rfl) (gN [3,4,6,7,8,71] rfl (zap rfl (fun hc71=>?_) (fun hc71=>?_))))))))
       ·have hc71:=of_decide_eq_true hc71
        refine zaq (zac (zas (zac (zbb 11 (fun _=>mixed) (by kernel_rfl) (ph_y (zab zAp rfl) (ph_y (zah 1 tf26 rfl rfl rfl) (ph_y (zaf rfl) (ph_y (zaE se26 rfl rfl (fun _ hw=>(Rd.has (Has.rd hc) hw)) (by omega) (by omega)) (ph_y (zcE tf9 rfl (fun _ hw=>(Rd.has (Has.rd hc) hw)) (by omega) (by omega) rfl) (ph_y (zab zAp rfl) (ph_y (zah 1 tf26 rfl rfl rfl) (ph_y (zaf rfl) (ph_y (zaE se26 rfl rfl (fun _ hw=>(Rd.has (Has.rd hc) hw)) (by omega) (by omega)) (ph_y (zcE tf9 rfl (fun _ hw=>(Rd.has (Has.rd hc) hw)) (by omega) (by omega) rfl) (ph_y (zge rfl rfl) (gN [3,4,6,7,8,84] rfl (zap rfl (fun hc84=>?_) (fun hc84=>?_))))))))))))))))))
        ·have hno:zym S V cs bs x=false:=zAf (i:=i.toNat) (by omega) (zDE (j:=k.toNat) (by omega) (by omega) hc84)
         refine zac (zaa (gA rfl (gN [3,4,6,7,8] rfl (zaw (zay (zaC rfl (zau rfl)) ?_)))))
         rw [hno]
        ·
         refine zaq (zaa (gM rfl (gQ (zaY rfl rfl (by omega) (by omega)) (gA rfl (gN [3,4,6,7,8] rfl ?_)))))
         exact za1 (k+1) ⟨rfl,rfl,rfl,rfl,rfl,trivial⟩ rfl ⟨by omega,by omega,fun j hj=>if h:(j:Int) < k then h2 j h else(by rw [show j=k.toNat from by omega]; exact hc84)⟩ (by omega)
       ·have hc71:=of_decide_eq_false hc71
        have hcell:zy0 cs i.toNat=true:=zDF (by omega) hc68 (fun j hj=>h2 j (by omega))
        refine za8 rfl (zaa (gM rfl (gQ (zaY rfl rfl (by omega) (by omega)) (gA rfl (gN [3,4,6,7] rfl ?_)))))
        exact za1 (i+1) ⟨rfl,rfl,rfl,rfl,trivial⟩ rfl ⟨by omega,by omega,fun j hj=>if h:(j:Int) < i then g2 j h else(by rw [show j=i.toNat from by omega]; exact hcell)⟩ (by omega)
    ·have hc59:=of_decide_eq_false hc59
     have hcl:∀ j:Nat,j < cs.length→zy0 cs j=true:=fun j hj=>g2 j (by omega)
     refine za8 rfl (zac (zac (zaa (gA rfl (gN [3,4,6,9] rfl (zas (zbf (X:=Int) (fun(i:Int)=>[(3,.pointer (some ⟨b3,0,none⟩)),(4,.pointer (some ⟨b4,0,none⟩)),(6,.bool false),(9,.int .i64 i)]) (fun(i:Int)=>[Box b5 [.int .i64 x.wide,.int .i64 x.high,.int .i64 x.step,.int .i64 x.leap,.int .i64 x.reach] 31,Box b4 [.slice ca cs.length ccap,.slice ba bs.length bcp] 29,Box b3 [.slice a S.length cap,.slice b V.length bcap] 25]) (fun(i:Int)=>(0≤i∧i≤bs.length∧∀ j:Nat,(j:Int) < i→zzp S V cs.length (bs.getD j default)=true)) (fun(i:Int)=>(bs.length - i).toNat) 0 ⟨rfl,rfl,rfl,rfl,trivial⟩ rfl ?_ ?_)))))))
     ·exact⟨by omega,by omega,fun j hj=>by omega⟩
     ·rintro i hI
      obtain⟨g0,g1,g2⟩:=hI
      refine zac (zac (zaa (gM rfl (gQ (zab zzL rfl) (gQ (zah 1 tf27 rfl rfl rfl) (gQ (zaV (Tryz.underlying27) rfl) (gQ (zbw rfl rfl) (gN [3,4,6,9,89] rfl (zap rfl (fun hc89=>?_) (fun hc89=>?_))))))))))
      ·have hc89:=of_decide_eq_true hc89
       refine zaq (zac (zas (zac (zaa (gQ (zab zzL rfl) (gQ (zah 1 tf27 rfl rfl rfl) (gM rfl (gQ (zaE se27 rfl rfl (fun _ hw=>(Rd.has (Has.rd hbd) hw)) (by omega) (by omega)) (gQ (zbv (vs:=[_,_,_,_,_,_]) zAU rfl (fun _ hw=>(Rd.has (Has.rd hbd) hw)) (by omega) (by omega) rfl) (zaG rfl rfl (zaL zAU (zs:=[_,_,_,_,_,_]) rfl) fun b10=>(zaA 0 zAU rfl rfl (vs:=[_,_,_,_,_,_]) rfl rfl rfl rfl rfl (gN [3,4,6,9,10] rfl (zac (zbb 38 (fun _=>mixed) (by kernel_rfl) (ph_y (zat 2 tf29 rfl rfl (vs:=[_,_]) rfl rfl) (ph_y (zab zCa rfl) (ph_y (zah 0 tf3 rfl rfl rfl) (ph_y (zaJ en20 rfl (fun w hw=>zEc _ _ cs _ _ bs ((bs.getD (i).toNat default).a) w)) (ph_y (zbR rfl) (ph_y (zaf rfl) (zaz rfl rfl (fun hgd=>by(try rw [hgd]); exact(zat 2 tf29 rfl rfl (vs:=[_,_]) rfl rfl)) (zaz rfl rfl (fun hgd=>by(try rw [hgd]); exact(zab zCb rfl)) (zaz rfl rfl (fun hgd=>by(try rw [hgd]); exact(zah 0 tf3 rfl rfl rfl)) (zaz rfl rfl (fun hgd=>by(try rw [hgd]); exact(zaJ (v:=.bool (zBG cs.length ((bs.getD (i).toNat default).b))) en20 rfl (fun w hw=>zEc _ _ cs _ _ bs ((bs.getD (i).toNat default).b) w))) (zaz rfl rfl (fun hgd=>by(try rw [hgd]); exact(zbR rfl)) (ph_y (zaR rfl rfl rfl) (ph_y (zaf rfl) ?_)))))))))))))))))))))))))))
       refine zaz rfl rfl (fun hgd=>by(try rw [hgd]); exact(zab zCa rfl)) (zaz rfl rfl (fun hgd=>by(try rw [hgd]); exact(zah 0 tf3 rfl rfl rfl)) (zaz rfl rfl (fun hgd=>by(try rw [hgd]); exact(zab zCb rfl)) (zaz rfl rfl (fun hgd=>by(try rw [hgd]); exact(zah 0 tf3 rfl rfl rfl)) (zaz rfl rfl (fun hgd=>by(try rw [hgd]); exact(zbL rfl rfl)) (ph_y (zaR rfl rfl rfl) (ph_y (zaf rfl) (zaz rfl rfl (fun hgd=>by(try rw [hgd]); exact(zat 3 tf25 rfl rfl (vs:=[_,_]) rfl rfl)) (zaz rfl rfl (fun hgd=>by(try rw [hgd]); exact(zab zCc rfl)) (zaz rfl rfl (fun hgd=>by(try rw [hgd]); exact(zah 0 tf9 rfl rfl rfl)) (zaz rfl rfl (fun hgd=>by(try rw [hgd]); exact(zaJ (v:=.int .i64 (zaM V ((bs.getD (i).toNat default).wall))) en86 rfl (fun w hw=>zf9 _ _ _ _ _ V ((bs.getD (i).toNat default).wall) w (Rd.has (Has.rd hlw) hw) hsw))) (zaz rfl rfl (fun hgd=>by(try rw [hgd]); exact(zbw rfl rfl)) (ph_y (zaR rfl rfl rfl) (ph_y (zaf rfl) (zaz rfl rfl (fun hgd=>by(try rw [hgd]); exact(zab zCd rfl)) (zaz rfl rfl (fun hgd=>by(try rw [hgd]); exact(zah 0 tf3 rfl rfl rfl)) (zaz rfl rfl (fun hgd=>by(try rw [hgd]); exact(zaJ (v:=.bool (inZ ((bs.getD (i).toNat default).gA) (-3000) 3000)) en84 rfl (fun w hw=>zBU _ _ _ w))) ?_))))))))))))))))
       refine zaz rfl rfl (fun hgd=>by(try rw [hgd]); exact(zbR rfl)) (ph_y (zaR rfl rfl rfl) (ph_y (zaf rfl) (zaz rfl rfl (fun hgd=>by(try rw [hgd]); exact(zab zCe rfl)) (zaz rfl rfl (fun hgd=>by(try rw [hgd]); exact(zah 0 tf3 rfl rfl rfl)) (zaz rfl rfl (fun hgd=>by(try rw [hgd]); exact(zaJ (v:=.bool (inZ ((bs.getD (i).toNat default).gB) (-3000) 3000)) en84 rfl (fun w hw=>zBU _ _ _ w))) (zaz rfl rfl (fun hgd=>by(try rw [hgd]); exact(zbR rfl)) (ph_y (zaR rfl rfl rfl) (gN [3,4,6,9,134] rfl (zap rfl (fun hc134=>?_) (fun hc134=>?_))))))))))
       ·rw [zDx hP] at hc134
        have hno:zym S V cs bs x=false:=zCT (i:=i.toNat) (by omega) (by simpa using hc134)
        refine zac (zaa (gA rfl (gN [3,4,6,9] rfl (zaw (zay (zaC rfl (zau rfl)) ?_)))))
        rw [hno]
       ·rw [zDx hP] at hc134
        have hbrd:zzp S V cs.length (bs.getD i.toNat default)=true:=by simpa using hc134
        refine zaq (zaa (gM rfl (gQ (zaY rfl rfl (by omega) (by omega)) (gA rfl (gN [3,4,6,9] rfl (zaK 0 rfl ?_))))))
        exact za1 (i+1) ⟨rfl,rfl,rfl,rfl,trivial⟩ rfl ⟨by omega,by omega,fun j hj=>if h:(j:Int) < i then g2 j h else(by rw [show j=i.toNat from by omega]; exact hbrd)⟩ (by omega)
      ·have hc89:=of_decide_eq_false hc89
       have hyes:zym S V cs bs x=true:=zCU hhead hcl (fun j hj=>g2 j (by omega))
       refine za8 rfl (zac (zaa (gA rfl (gN [6] rfl (zaw (zay (zaC rfl (zau rfl)) ?_))))))
       rw [hyes]
end Go.Proofs.YteepmmghanbllaaGreatDoor
namespace Go.Fld
open Go Go.K Go.Stn Go.Pln
def rchA (S:List ShC) (V:List WlC) (cs:List ByteArray) (bs:List Bdr) (x:Anm) (frm:Int):List Int:=if atE S V cs bs x [frm]=0 then zAs (zze (zyj S V bs x) (fun _=>true) frm) 40 else []
def smA (S:List ShC) (V:List WlC) (cs:List ByteArray) (bs:List Bdr) (x:Anm) (want:Bool):List (Int×Int):=if zym S V cs bs x=true then smN S V bs x want bs.length else []
def clA (S:List ShC) (V:List WlC) (cs:List ByteArray) (bs:List Bdr) (x:Anm) (frm to:Int):List Int:=if prtE S V cs bs x frm to=0 then clsB (zyj S V bs x) (clsA (zyj S V bs x) bs frm to).1 (clsA (zyj S V bs x) bs frm to).2 else []
def wkA (S:List ShC) (V:List WlC) (cs:List ByteArray) (bs:List Bdr) (x:Anm) (frm to:Int):List (List (Int×Int)):=if prtE S V cs bs x frm to=0 then(wksF (zyj S V bs x) frm to (clsB (zyj S V bs x) (clsA (zyj S V bs x) bs frm to).1 (clsA (zyj S V bs x) bs frm to).2).length (clsA (zyj S V bs x) bs frm to).1).map stpL else []
def smlF (S:List ShC) (V:List WlC) (cs:List ByteArray) (bs:List Bdr):Bool:=((zgI S V&&decide ((cs.length:Int)≤45))&&decide ((bs.length:Int)≤90))&&(decide ((bs.length:Int)≤20)||decide (80 < (bs.length:Int)))
theorem zEj {S:List ShC} {V:List WlC} {cs:List ByteArray} {bs:List Bdr} (h:smlF S V cs bs=true):zgI S V=true∧cs.length≤45∧bs.length≤90:=by
 unfold smlF at h
 simp only [Bool.and_eq_true,decide_eq_true_eq] at h
 exact⟨h.1.1.1,by omega,by omega⟩
theorem zDi {α:Type} [Inhabited α] {l:List α} {i:Int} (h0:0≤i) (h:i < (l.length:Int)):l.take i.toNat++[l.getD i.toNat default]=l.take (i+1).toNat:=by
 rw [show(i+1).toNat=i.toNat+1 from by omega,List.take_add_one,List.getElem?_eq_getElem (by omega),List.getD_eq_getElem?_getD,List.getElem?_eq_getElem (by omega)]; rfl
end Go.Fld
namespace Go.K
open Go
section
variable {XS:Nat→Type} {c:Cx} {ds:List Deferred} {pre:List Oper} {N:Nat} {rd:List (Nat×Nat)} {ms:List Nat} {T0:List (Nat×Value)} {H:List Res} {K:List (E3 XS)→Prop} {i d:Nat} {r:List Oper} {S:List (E3 XS)} {op:Op} {ty:TypeId} {ps:String} {af:Array Edge}
theorem zIa {V V0:((i:Nat)→XS i)→Value} {j:Nat} {q b:Bool} (hb:lk3 S j=some V0) (hb2:∀ ρ,V0 ρ=if q=true then .bool b else undef) (hj:zaT ⟨some d,op,ty,ps,af,some (j,false)⟩ j=true)
  (h:(q&&!b)=true→∀ ρ:(i:Nat)→XS i,Y c ds (zeS ρ (rcf ms i) S S++H) (zdA ρ (zaT ⟨some d,op,ty,ps,af,some (j,false)⟩) S++zcl pre i T0) ⟨some d,op,ty,ps,af,some (j,false)⟩ (V ρ))
  (hl:∀ ρ ρ':(i:Nat)→XS i,zkB XS ms i ρ ρ'→V ρ=V ρ') (k:PH5 N rd c ds pre ms T0 H K (i+1) r (⟨i,some d,none,fun ρ=>if (q&&!b)=true then V ρ else undef,fun _=>Emp⟩ :: S)) :
  PH5 N rd c ds pre ms T0 H K i (⟨some d,op,ty,ps,af,some (j,false)⟩ :: r) S:=
 ⟨_,rfl,rfl,fun ρ ρ' hs=>⟨by show(if (q&&!b)=true then V ρ else undef)=(if (q&&!b)=true then V ρ' else undef); rw [hl ρ ρ' (fun j hj=>hs j (.inl hj))],rfl⟩,.inr ⟨V0,_,q&&!b,V,hb,hb2,hj,by cases q <;> cases b <;> simp [undef],rfl,rfl,fun _=>rfl,h⟩,k⟩
end
end Go.K
namespace Go.K
open Go
theorem zAe {X:Type} {V:X→Value} {A:X→Res} {w w':World} {e:Ending} {v:Value} (x:X) (h:Pure v w e w') (hv:v=V x) (hA:∀ w,(A x).A (fun _=>False) w):zcU V A w e w':=
 ⟨x,by rw [h.1,hv],h.2,fun _=>False,fun _ h=>h.elim,hA w'⟩
theorem zEg {R1 R2:Res} {w:World} (h1:R1.A (fun _=>False) w) (h2:R2.A (fun _=>False) w):(SepR [R1,R2]).A (fun _=>False) w:=
 ⟨fun _=>False,fun _=>False,fun _ h=>h,fun _ h=>h.elim,h1,fun _=>False,fun _=>False,fun _ h=>h,fun _ h=>h.elim,h2,trivial⟩
theorem zEh {R1 R2 R3:Res} {w:World} (h1:R1.A (fun _=>False) w) (h2:R2.A (fun _=>False) w) (h3:R3.A (fun _=>False) w):(SepR [R1,R2,R3]).A (fun _=>False) w:=
 ⟨fun _=>False,fun _=>False,fun _ h=>h,fun _ h=>h.elim,h1,fun _=>False,fun _=>False,fun _ h=>h,fun _ h=>h.elim,h2,fun _=>False,fun _=>False,fun _ h=>h,fun _ h=>h.elim,h3,trivial⟩
end Go.K
namespace Go.Proofs.YteepmmghanbllaaGreatDoor
open Go.K Go.Stn Go.Pln Go.Fld Go.RowKit
theorem zEk (a:Option Addr) (cap:Nat) (S:List ShC) (b:Option Addr) (bcap:Nat) (V:List WlC) (ca:Option Addr) (ccap:Nat) (cs:List ByteArray) (ba:Option Addr) (bcp:Nat) (bs:List Bdr) (x:Anm) (w:World) (hl:Has w (zaW a 20 zbH S)) (hs:zaP S.length) (hcS:S.length≤cap) (hlw:Has w (zaW b 4 zbS V)) (hsw:zaP V.length) (hsh:∀ z∈S,Has w (Ints z.a z.s.heights)) (hss:∀ z∈S,zaP z.s.heights.length) (hwo:∀ z∈V,Has w (zaW z.a 5 zba z.s.opens)) (hsv:∀ z∈V,zaP z.s.opens.length) (hcp:∀ z∈V,z.s.opens.length≤z.cap) (hkn:∀ z∈V,∀ o∈z.s.opens,Knd o) (hc:Has w (zaW ca 1 encS cs)) (hcs:zaP cs.length) (hcap:cs.length≤ccap) (hbd:Has w (zaW ba 6 zyr bs)) (hbs:zaP bs.length) (hno:¬ (zym S V cs bs x)=true) :
  Calls Tryz.prog 16 #[.agg #[.slice a S.length cap,.slice b V.length bcap],.agg #[.slice ca cs.length ccap,.slice ba bs.length bcp],.agg #[.int .i64 x.wide,.int .i64 x.high,.int .i64 x.step,.int .i64 x.leap,.int .i64 x.reach]] w (Pure (.tuple #[.slice none 0 0,.slice none 0 0,.int .i64 2]) w):=by
 refine zan (vs:=[_,_,_]) Tryz.func16 rfl rfl (Nat.le_of_ble_eq_true rfl) (zac (zaa (zaG rfl rfl (za3 (vs:=[_,_]) rfl rfl) fun b3=>(zaG rfl rfl (za3 (vs:=[_,_]) rfl rfl) fun b4=>(zaG rfl rfl (za3 (vs:=[_,_,_,_,_]) rfl rfl) fun b5=>(gA rfl (gA rfl (gA rfl (gN [3,4,5,6,7,8] rfl (zac (zaa (gQ (zat 2 tf37 rfl rfl (vs:=[_,_]) rfl rfl) (gQ (zat 1 tf40 rfl rfl (vs:=[_,_]) rfl rfl) (gQ (zat 0 tf41 rfl rfl (vs:=[_,_,_,_,_]) rfl rfl) (zaG rfl rfl (zbm en49 rfl (fun w hw=>zz8 _ _ S _ _ V _ _ cs _ _ bs x w (Rd.has (Has.rd hl) hw) hs hcS (Rd.has (Has.rd hlw) hw) hsw (fun z hz=>(Rd.has (Has.rd (hsh z hz)) hw)) hss (fun z hz=>(Rd.has (Has.rd (hwo z hz)) hw)) hsv hcp hkn (Rd.has (Has.rd hc) hw) hcs hcap (Rd.has (Has.rd hbd) hw) hbs hno)) fun p21=>(gM rfl (gQ (zaB rfl rfl) (gQ (zaB rfl rfl) (gA rfl (gA rfl (gN [3,4,6,7,8,9] rfl (zac (zac (zaa (gM rfl (gQ (zcr rfl rfl) (gN [3,4,6,7,8,9,25] rfl (zdg rfl (zac (zaa (gM rfl (gA rfl (gA rfl (gA rfl (gN [3,4,6,7,8,9] rfl (zaw (zay (zdh rfl (zau rfl) (zau rfl) (zau rfl)) ?_)))))))))))))))))))))))))))))))))))))
 rfl
theorem zEG (a:Option Addr) (cap:Nat) (S:List ShC) (b:Option Addr) (bcap:Nat) (V:List WlC) (ca:Option Addr) (ccap:Nat) (cs:List ByteArray) (ba:Option Addr) (bcp:Nat) (bs:List Bdr) (x:Anm) (frm to:Int) (w:World) (hl:Has w (zaW a 20 zbH S)) (hs:zaP S.length) (hcS:S.length≤cap) (hlw:Has w (zaW b 4 zbS V)) (hsw:zaP V.length) (hsh:∀ z∈S,Has w (Ints z.a z.s.heights)) (hss:∀ z∈S,zaP z.s.heights.length) (hwo:∀ z∈V,Has w (zaW z.a 5 zba z.s.opens)) (hsv:∀ z∈V,zaP z.s.opens.length) (hcp:∀ z∈V,z.s.opens.length≤z.cap) (hkn:∀ z∈V,∀ o∈z.s.opens,Knd o) (hc:Has w (zaW ca 1 encS cs)) (hcs:zaP cs.length) (hcap:cs.length≤ccap) (hbd:Has w (zaW ba 6 zyr bs)) (hbs:zaP bs.length) (hpr:¬ prtE S V cs bs x frm to=0) :
  Calls Tryz.prog 23 #[.agg #[.slice a S.length cap,.slice b V.length bcap],.agg #[.slice ca cs.length ccap,.slice ba bs.length bcp],.agg #[.int .i64 x.wide,.int .i64 x.high,.int .i64 x.step,.int .i64 x.leap,.int .i64 x.reach],.int .i64 frm,.int .i64 to] w (Pure (.tuple #[.slice none 0 0,.slice none 0 0,.int .i64 (prtE S V cs bs x frm to)]) w):=by
 refine zan (vs:=[_,_,_,_,_]) Tryz.func23 rfl rfl (Nat.le_of_ble_eq_true rfl) (zac (zaa (zaG rfl rfl (za3 (vs:=[_,_]) rfl rfl) fun b5=>(zaG rfl rfl (za3 (vs:=[_,_]) rfl rfl) fun b6=>(zaG rfl rfl (za3 (vs:=[_,_,_,_,_]) rfl rfl) fun b7=>(zaG rfl rfl (za3 (vs:=[_]) rfl rfl) fun b9=>(gA rfl (gA rfl (gA rfl (gN [3,5,6,7,9,10,11,12] rfl (zac (zaa (gQ (zat 3 tf37 rfl rfl (vs:=[_,_]) rfl rfl) (gQ (zat 2 tf40 rfl rfl (vs:=[_,_]) rfl rfl) (gQ (zat 1 tf41 rfl rfl (vs:=[_,_,_,_,_]) rfl rfl) (gM rfl (gQ (zah 0 tf3 rfl rfl rfl) (gQ (zaJ en54 rfl (fun w hw=>zD7 _ _ S _ _ V _ _ cs _ _ bs x frm to w (Rd.has (Has.rd hl) hw) hs hcS (Rd.has (Has.rd hlw) hw) hsw (fun z hz=>(Rd.has (Has.rd (hsh z hz)) hw)) hss (fun z hz=>(Rd.has (Has.rd (hwo z hz)) hw)) hsv hcp hkn (Rd.has (Has.rd hc) hw) hcs hcap (Rd.has (Has.rd hbd) hw) hbs hpr)) (gM rfl (gQ (zaB rfl rfl) (gQ (zaB rfl rfl) (zaG rfl rfl (zaL zzI (zs:=[_]) rfl) fun b13=>(zaA 0 zzI rfl rfl (vs:=[_]) rfl rfl rfl rfl rfl (gA rfl (gN [3,6,9,10,11,12,13] rfl (zac (zac (zaa (gM rfl (gQ (zcr rfl rfl) (gN [3,6,9,10,11,12,13,36] rfl (zap rfl (fun hc36=>?_) (fun hc36=>?_)))))))))))))))))))))))))))))))))
 ·simp only [Bool.not_eq_true',decide_eq_false_iff_not] at hc36
  refine zac (zaa (gM rfl (gA rfl (gA rfl (gA rfl (gN [3,6,9,10,11,12,13] rfl (zaw (zay (zdh rfl (zau rfl) (zau rfl) (zau rfl)) ?_))))))))
  rfl
 ·exfalso; exact hpr (by simpa using hc36)
theorem zE5 (a:Option Addr) (cap:Nat) (S:List ShC) (b:Option Addr) (bcap:Nat) (V:List WlC) (ca:Option Addr) (ccap:Nat) (cs:List ByteArray) (ba:Option Addr) (bcp:Nat) (bs:List Bdr) (x:Anm) (frm:Int) (w:World) (hl:Has w (zaW a 20 zbH S)) (hs:zaP S.length) (hcS:S.length≤cap) (hlw:Has w (zaW b 4 zbS V)) (hsw:zaP V.length) (hsh:∀ z∈S,Has w (Ints z.a z.s.heights)) (hss:∀ z∈S,zaP z.s.heights.length) (hwo:∀ z∈V,Has w (zaW z.a 5 zba z.s.opens)) (hsv:∀ z∈V,zaP z.s.opens.length) (hcp:∀ z∈V,z.s.opens.length≤z.cap) (hkn:∀ z∈V,∀ o∈z.s.opens,Knd o) (hc:Has w (zaW ca 1 encS cs)) (hcs:zaP cs.length) (hcap:cs.length≤ccap) (hbd:Has w (zaW ba 6 zyr bs)) (hbs:zaP bs.length) :
  Calls Tryz.prog 15 #[.agg #[.slice a S.length cap,.slice b V.length bcap],.agg #[.slice ca cs.length ccap,.slice ba bs.length bcp],.agg #[.int .i64 x.wide,.int .i64 x.high,.int .i64 x.step,.int .i64 x.leap,.int .i64 x.reach],.int .i64 frm] w (zcU (fun z:Option Addr×Nat=>.tuple #[.slice z.1 (rchA S V cs bs x frm).length z.2,.int .i64 (atE S V cs bs x [frm])]) (fun z=>Row z.1 1 z.2 3 Go.Stn.encI (rchA S V cs bs x frm)) w):=by
 by_cases hat:atE S V cs bs x [frm]=0
 ·have h:=zDf a cap S b bcap V ca ccap cs ba bcp bs x frm w hl hs hcS hlw hsw hsh hss hwo hsv hcp hkn hc hcs hcap hbd hbs hat
  rw [show(rchA S V cs bs x frm)=_ from if_pos hat,hat]; exact h
 ·have h:=zDe a cap S b bcap V ca ccap cs ba bcp bs x frm w hl hs hcS hlw hsw hsh hss hwo hsv hcp hkn hc hcs hcap hbd hbs hat
  have e:(rchA S V cs bs x frm)=[]:=if_neg hat
  exact h.mono fun e' w' h=>zAe (none,0) h (by rw [e]; rfl) (fun _=>by rw [e]; exact zAR)
theorem zAz (a:Option Addr) (cap:Nat) (S:List ShC) (b:Option Addr) (bcap:Nat) (V:List WlC) (ca:Option Addr) (ccap:Nat) (cs:List ByteArray) (ba:Option Addr) (bcp:Nat) (bs:List Bdr) (x:Anm) (i:Int) (back:Bool) (w:World) (hl:Has w (zaW a 20 zbH S)) (hs:zaP S.length) (hcS:S.length≤cap) (hlw:Has w (zaW b 4 zbS V)) (hsw:zaP V.length) (hsh:∀ z∈S,Has w (Ints z.a z.s.heights)) (hss:∀ z∈S,zaP z.s.heights.length) (hwo:∀ z∈V,Has w (zaW z.a 5 zba z.s.opens)) (hsv:∀ z∈V,zaP z.s.opens.length) (hcp:∀ z∈V,z.s.opens.length≤z.cap) (hkn:∀ z∈V,∀ o∈z.s.opens,Knd o) (hc:Has w (zaW ca 1 encS cs)) (hcs:zaP cs.length) (hcap:cs.length≤ccap) (hbd:Has w (zaW ba 6 zyr bs)) (hbs:zaP bs.length) :
  Calls Tryz.prog 24 #[.agg #[.slice a S.length cap,.slice b V.length bcap],.agg #[.slice ca cs.length ccap,.slice ba bs.length bcp],.agg #[.int .i64 x.wide,.int .i64 x.high,.int .i64 x.step,.int .i64 x.leap,.int .i64 x.reach],.int .i64 i,.bool back] w (Pure (.tuple #[.int .i64 (zyv S V cs bs x i back).way,.int .i64 (zyv S V cs bs x i back).eff,.int .i64 (zyv S V cs bs x i back).err]) w):=by
 by_cases hok:(zym S V cs bs x)=true
 ·exact zC6 a cap S b bcap V ca ccap cs ba bcp bs x i back w hl hs hcS hlw hsw hsh hss hwo hsv hcp hkn hc hcs hcap hbd hbs hok
 ·exact zC5 a cap S b bcap V ca ccap cs ba bcp bs x i back w hl hs hcS hlw hsw hsh hss hwo hsv hcp hkn hc hcs hcap hbd hbs hok
theorem zCG (a:Option Addr) (cap:Nat) (S:List ShC) (b:Option Addr) (bcap:Nat) (V:List WlC) (ca:Option Addr) (ccap:Nat) (cs:List ByteArray) (ba:Option Addr) (bcp:Nat) (bs:List Bdr) (x:Anm) (w:World) (hl:Has w (zaW a 20 zbH S)) (hs:zaP S.length) (hcS:S.length≤cap) (hlw:Has w (zaW b 4 zbS V)) (hsw:zaP V.length) (hsh:∀ z∈S,Has w (Ints z.a z.s.heights)) (hss:∀ z∈S,zaP z.s.heights.length) (hwo:∀ z∈V,Has w (zaW z.a 5 zba z.s.opens)) (hsv:∀ z∈V,zaP z.s.opens.length) (hcp:∀ z∈V,z.s.opens.length≤z.cap) (hkn:∀ z∈V,∀ o∈z.s.opens,Knd o) (hc:Has w (zaW ca 1 encS cs)) (hcs:zaP cs.length) (hcap:cs.length≤ccap) (hbd:Has w (zaW ba 6 zyr bs)) (hbs:zaP bs.length) :
  Calls Tryz.prog 25 #[.agg #[.slice a S.length cap,.slice b V.length bcap],.agg #[.slice ca cs.length ccap,.slice ba bs.length bcp],.agg #[.int .i64 x.wide,.int .i64 x.high,.int .i64 x.step,.int .i64 x.leap,.int .i64 x.reach]] w (Pure (.int .i64 (zBP S V cs bs x)) w):=by
 by_cases hok:(zym S V cs bs x)=true
 ·rw [zBA hok]; exact zDL a cap S b bcap V ca ccap cs ba bcp bs x w hl hs hcS hlw hsw hsh hss hwo hsv hcp hkn hc hcs hcap hbd hbs hok
 ·rw [zBz hok]; exact zDK a cap S b bcap V ca ccap cs ba bcp bs x w hl hs hcS hlw hsw hsh hss hwo hsv hcp hkn hc hcs hcap hbd hbs hok
theorem zE7 (a:Option Addr) (cap:Nat) (S:List ShC) (b:Option Addr) (bcap:Nat) (V:List WlC) (ca:Option Addr) (ccap:Nat) (cs:List ByteArray) (ba:Option Addr) (bcp:Nat) (bs:List Bdr) (x:Anm) (w:World) (hl:Has w (zaW a 20 zbH S)) (hs:zaP S.length) (hcS:S.length≤cap) (hlw:Has w (zaW b 4 zbS V)) (hsw:zaP V.length) (hsh:∀ z∈S,Has w (Ints z.a z.s.heights)) (hss:∀ z∈S,zaP z.s.heights.length) (hwo:∀ z∈V,Has w (zaW z.a 5 zba z.s.opens)) (hsv:∀ z∈V,zaP z.s.opens.length) (hcp:∀ z∈V,z.s.opens.length≤z.cap) (hkn:∀ z∈V,∀ o∈z.s.opens,Knd o) (hc:Has w (zaW ca 1 encS cs)) (hcs:zaP cs.length) (hcap:cs.length≤ccap) (hbd:Has w (zaW ba 6 zyr bs)) (hbs:zaP bs.length) :
  Calls Tryz.prog 16 #[.agg #[.slice a S.length cap,.slice b V.length bcap],.agg #[.slice ca cs.length ccap,.slice ba bs.length bcp],.agg #[.int .i64 x.wide,.int .i64 x.high,.int .i64 x.step,.int .i64 x.leap,.int .i64 x.reach]] w (zcU (fun z:(Option Addr×Nat)×(Option Addr×Nat)=>.tuple #[.slice z.1.1 (smA S V cs bs x true).length z.1.2,.slice z.2.1 (smA S V cs bs x false).length z.2.2,.int .i64 (zBP S V cs bs x)]) (fun z=>SepR [Row z.1.1 2 z.1.2 130 zyQ (smA S V cs bs x true),Row z.2.1 2 z.2.2 130 zyQ (smA S V cs bs x false)]) w):=by
 by_cases hok:(zym S V cs bs x)=true
 ·have h:=zEl a cap S b bcap V ca ccap cs ba bcp bs x w hl hs hcS hlw hsw hsh hss hwo hsv hcp hkn hc hcs hcap hbd hbs hok
  rw [show(smA S V cs bs x true)=_ from if_pos hok,show(smA S V cs bs x false)=_ from if_pos hok,zBA hok]; exact h
 ·have h:=zEk a cap S b bcap V ca ccap cs ba bcp bs x w hl hs hcS hlw hsw hsh hss hwo hsv hcp hkn hc hcs hcap hbd hbs hok
  have e1:(smA S V cs bs x true)=[]:=if_neg hok
  have e2:(smA S V cs bs x false)=[]:=if_neg hok
  rw [zBz hok,e1,e2]
  exact h.mono fun e' w' h=>zAe ((none,0),(none,0)) h rfl (fun _=>zEg zAR zAR)
theorem zEF (a:Option Addr) (cap:Nat) (S:List ShC) (b:Option Addr) (bcap:Nat) (V:List WlC) (ca:Option Addr) (ccap:Nat) (cs:List ByteArray) (ba:Option Addr) (bcp:Nat) (bs:List Bdr) (x:Anm) (frm to:Int) (w:World) (hl:Has w (zaW a 20 zbH S)) (hs:zaP S.length) (hcS:S.length≤cap) (hlw:Has w (zaW b 4 zbS V)) (hsw:zaP V.length) (hsh:∀ z∈S,Has w (Ints z.a z.s.heights)) (hss:∀ z∈S,zaP z.s.heights.length) (hwo:∀ z∈V,Has w (zaW z.a 5 zba z.s.opens)) (hsv:∀ z∈V,zaP z.s.opens.length) (hcp:∀ z∈V,z.s.opens.length≤z.cap) (hkn:∀ z∈V,∀ o∈z.s.opens,Knd o) (hc:Has w (zaW ca 1 encS cs)) (hcs:zaP cs.length) (hcap:cs.length≤ccap) (hbd:Has w (zaW ba 6 zyr bs)) (hbs:zaP bs.length) :
  Calls Tryz.prog 23 #[.agg #[.slice a S.length cap,.slice b V.length bcap],.agg #[.slice ca cs.length ccap,.slice ba bs.length bcp],.agg #[.int .i64 x.wide,.int .i64 x.high,.int .i64 x.step,.int .i64 x.leap,.int .i64 x.reach],.int .i64 frm,.int .i64 to] w (zcU (fun z:(Option Addr×Nat)×(Option Addr×Nat)×List WkR=>.tuple #[.slice z.1.1 (clA S V cs bs x frm to).length z.1.2,.slice z.2.1.1 z.2.2.length z.2.1.2,.int .i64 (prtE S V cs bs x frm to)]) (fun z=>zDo (z.2.2.map (·.1)=(wkA S V cs bs x frm to)) (SepR [Row z.1.1 1 z.1.2 3 Go.Stn.encI (clA S V cs bs x frm to),Row z.2.1.1 1 z.2.1.2 78 zBI z.2.2,Go.K.Rows rowK z.2.2])) w):=by
 by_cases hpr:prtE S V cs bs x frm to=0
 ·have h:=zEH a cap S b bcap V ca ccap cs ba bcp bs x frm to w hl hs hcS hlw hsw hsh hss hwo hsv hcp hkn hc hcs hcap hbd hbs hpr
  rw [show(clA S V cs bs x frm to)=_ from if_pos hpr,show(wkA S V cs bs x frm to)=_ from if_pos hpr,hpr]; exact h
 ·have h:=zEG a cap S b bcap V ca ccap cs ba bcp bs x frm to w hl hs hcS hlw hsw hsh hss hwo hsv hcp hkn hc hcs hcap hbd hbs hpr
  have e1:(clA S V cs bs x frm to)=[]:=if_neg hpr
  have e2:(wkA S V cs bs x frm to)=[]:=if_neg hpr
  rw [e1,e2]
  exact h.mono fun e' w' h=>zAe ((none,0),(none,0),[]) h rfl (fun _=>⟨rfl,zEh zAR zAR zsb⟩)
end Go.Proofs.YteepmmghanbllaaGreatDoor
namespace Go.Proofs.YteepmmghanbllaaGreatDoor
open Go.K Go.Stn Go.Pln Go.Fld Go.RowKit
theorem zCR:FO Tryz.prog 33 0 0:=⟨by kernel_rfl⟩
theorem zz0:FO Tryz.prog 33 1 2:=⟨by kernel_rfl⟩
theorem zAL:FO Tryz.prog 33 2 4:=⟨by kernel_rfl⟩
theorem af26:AF Tryz.prog 26 9 1 16 [.string ⟨#[]⟩]:=⟨Tryz.underlying26,by kernel_rfl,rfl⟩
theorem af38:AF Tryz.prog 38 64 6 56 [.int IntKind.i64 0,.int IntKind.i64 0,.string ⟨#[]⟩,.int IntKind.i64 0,.int IntKind.i64 0,.bool false]:=⟨Tryz.underlying38,by kernel_rfl,rfl⟩
theorem en42:En Tryz.prog 42:=za7 Tryz.func42 (by kernel_rfl) (by kernel_rfl)
theorem en43:En Tryz.prog 43:=za7 Tryz.func43 (by kernel_rfl) (by kernel_rfl)
theorem en51:En Tryz.prog 51:=za7 Tryz.func51 (by kernel_rfl) (by kernel_rfl)
theorem zFL (x0a:Option Addr) (x0n x0c:Nat) (w:World):(Instr.build 40 #[(0,.slice x0a x0n x0c)]).run Tryz.prog w=.ok (.agg #[.slice x0a x0n x0c,.slice none 0 0]) w:=by kernel_rfl
theorem zyE (x0:Int) (x1:Int) (x2:Int) (x3:Int) (x4:Int) (w:World):(Instr.build 41 #[(0,.int .i64 x0),(1,.int .i64 x1),(2,.int .i64 x2),(3,.int .i64 x3),(4,.int .i64 x4)]).run Tryz.prog w=.ok (.agg #[.int .i64 x0,.int .i64 x1,.int .i64 x2,.int .i64 x3,.int .i64 x4]) w:=by kernel_rfl
theorem zzo (x0:Int) (x1:Int) (x2:ByteArray) (x3:Int) (x4:Int) (x5:Bool) (w:World):(Instr.build 64 #[(0,.int .i64 x0),(1,.int .i64 x1),(2,.string x2),(3,.int .i64 x3),(4,.int .i64 x4),(5,.bool x5)]).run Tryz.prog w=.ok (.agg #[.int .i64 x0,.int .i64 x1,.string x2,.int .i64 x3,.int .i64 x4,.bool x5]) w:=by kernel_rfl
theorem zsE (x0_0:Int) (x0_1:Int) (x0_2:ByteArray) (x0_3:Int) (x0_4:Int) (x0_5:Bool) (w:World):(Instr.buildSlice 38 1 #[(0,.agg #[.int .i64 x0_0,.int .i64 x0_1,.string x0_2,.int .i64 x0_3,.int .i64 x0_4,.bool x0_5])]).run Tryz.prog w=.ok (.slice (some ⟨w.heap.size,0,none⟩) 1 1) (w.alloc (.cells (([⟨x0_0,x0_1,x0_2,x0_3,x0_4,x0_5⟩]:List (Bdr)).flatMap zyr).toArray 64)):=by kernel_rfl
theorem zG1 (a:Option Addr) (cap:Nat) (S:List ShC) (b:Option Addr) (bcap:Nat) (V:List WlC) (ca:Option Addr) (ccap:Nat) (cs:List ByteArray) (ba:Option Addr) (bcp:Nat) (bs:List Bdr) (x:Anm) (w:World) (hl:Has w (zaW a 20 zbH S)) (hs:S.length≤764877654104) (hlw:Has w (zaW b 4 zbS V)) (hsw:V.length≤2199023255552) (hsh:∀ z∈S,Has w (Ints z.a z.s.heights)) (hss:∀ z∈S,z.s.heights.length≤17592186044416) (hwo:∀ z∈V,Has w (zaW z.a 5 zba z.s.opens)) (hsv:∀ z∈V,z.s.opens.length≤3518437208883) (hfS:∀ z∈S,Fits z.s.name.size) (hc:Has w (zaW ca 1 encS cs)) (hcn:cs.length≤8796093022208) (hbd:Has w (zaW ba 6 zyr bs)) (hbn:bs.length≤2513169434915) :
  Calls Tryz.prog 13 #[.agg #[.slice a S.length cap,.slice b V.length bcap,.slice ca cs.length ccap,.slice ba bs.length bcp,.int .i64 x.wide,.int .i64 x.high,.int .i64 x.step,.int .i64 x.leap,.int .i64 x.reach]] w (zcU (fun z:((Option Addr×Nat×List ShC)×(Option Addr×Nat×List WlC))×(Option Addr×Nat)×(Option Addr×Nat)=>.tuple #[.agg #[.slice z.1.1.1 z.1.1.2.2.length z.1.1.2.1,.slice z.1.2.1 z.1.2.2.2.length z.1.2.2.1],.agg #[.slice z.2.1.1 cs.length z.2.1.2,.slice z.2.2.1 bs.length z.2.2.2],.agg #[.int .i64 x.wide,.int .i64 x.high,.int .i64 x.step,.int .i64 x.leap,.int .i64 x.reach],.bool (smlF S V cs bs)]) (fun z=>SepR [PlR yP z.1 ⟨S.map (·.s),V.map (·.s)⟩,Row z.2.1.1 1 z.2.1.2 9 encS cs,Row z.2.2.1 6 z.2.2.2 64 zyr bs]) w):=by
 refine zan (vs:=[_]) Tryz.func13 rfl rfl (Nat.le_of_ble_eq_true rfl) (zac (zaa (zaG rfl rfl (za3 (vs:=[_,_,_,_,_,_,_,_,_]) rfl rfl) fun b1=>(zaG rfl rfl (zaL tf37 (zs:=[_,_]) rfl) fun b2=>(zaG rfl rfl (zaL tf40 (zs:=[_,_]) rfl) fun b3=>(zaG rfl rfl (zaL tf41 (zs:=[_,_,_,_,_]) rfl) fun b4=>(gA rfl (gN [1,2,3,4,5] rfl (zac (zaa (gQ (zab zz0 rfl) (gQ (zab zAp rfl) (gQ (zah 3 tf26 rfl rfl rfl) (zaG rfl rfl (zoJ (m:=cs) af26 ztJ rfl rfl (fun _ hw=>(Rd.has (Has.rd hc) hw)) (by omega) (by unfold maxLen; omega)) fun z13=>(gQ (zaI rfl (zFL _ _ _)) (zaG rfl rfl (zaL tf40 (zs:=[_,_]) rfl) fun b6=>(zaA 0 tf40 rfl rfl (vs:=[_,_]) rfl rfl rfl rfl rfl (gN [1,2,3,4,5,6] rfl (zac (zac (zaa (gA rfl (gN [1,2,3,4,5,6,7] rfl (zas (zbB 64 zyr 6 ?_)))))))))))))))))))))))))
 refine zbf (X:=Int×Option Addr×Nat×List Bdr) (fun⟨i,ra,rc,N⟩=>[(1,.pointer (some ⟨b1,0,none⟩)),(2,.pointer (some ⟨b2,0,none⟩)),(3,.pointer (some ⟨b3,0,none⟩)),(4,.pointer (some ⟨b4,0,none⟩)),(5,.bool false),(6,.pointer (some ⟨b6,0,none⟩)),(7,.int .i64 i)]) (fun⟨i,ra,rc,N⟩=>[Row ra 6 rc 64 zyr N,Box b6 [.slice z13.1 cs.length z13.2,.slice ra N.length rc] 40,Row z13.1 1 z13.2 9 encS cs,Box b4 [.int .i64 0,.int .i64 0,.int .i64 0,.int .i64 0,.int .i64 0] 41,Box b3 [.slice none 0 0,.slice none 0 0] 40,Box b2 [.slice none 0 0,.slice none 0 0] 37,Box b1 [.slice a S.length cap,.slice b V.length bcap,.slice ca cs.length ccap,.slice ba bs.length bcp,.int .i64 x.wide,.int .i64 x.high,.int .i64 x.step,.int .i64 x.leap,.int .i64 x.reach] 33]) (fun⟨i,ra,rc,N⟩=>(0≤i∧i≤bs.length∧N=bs.take i.toNat)) (fun⟨i,ra,rc,N⟩=>(bs.length - i).toNat) (0,none,0,[]) ⟨rfl,rfl,rfl,rfl,rfl,rfl,rfl,trivial⟩ rfl ?_ ?_
 ·exact⟨by omega,by omega,rfl⟩
 ·rintro ⟨i,ra,rc,N⟩ hI
  obtain⟨g0,g1,g2⟩:=hI
  have hnl:N.length≤i.toNat:=by rw [g2,List.length_take]; omega
  refine zac (zac (zaa (gM rfl (gQ (zab zz0 rfl) (gQ (zab zzL rfl) (gQ (zah 6 tf27 rfl rfl rfl) (gQ (zaV (Tryz.underlying27) rfl) (gQ (zbw rfl rfl) (gN [1,2,3,4,5,6,7,20] rfl (zap rfl (fun hc20=>?_) (fun hc20=>?_)))))))))))
  ·have hc20:=of_decide_eq_true hc20
   refine zaq (zac (zas (zac (zaa (gQ (zab zz0 rfl) (gQ (zab zzL rfl) (gQ (zah 6 tf27 rfl rfl rfl) (gM rfl (gQ (zaE se27 rfl rfl (fun _ hw=>(Rd.has (Has.rd hbd) hw)) (by omega) (by omega)) (gQ (zbv (vs:=[_,_,_,_,_,_]) zAU rfl (fun _ hw=>(Rd.has (Has.rd hbd) hw)) (by omega) (by omega) rfl) (zaG rfl rfl (zaL zAU (zs:=[_,_,_,_,_,_]) rfl) fun b8=>(zaA 0 zAU rfl rfl (vs:=[_,_,_,_,_,_]) rfl rfl rfl rfl rfl (gN [1,2,3,4,5,6,7,8] rfl (zaa (gQ (zab zz1 rfl) (gQ (zah 2 tf38 rfl rfl rfl) (gQ (zab zCa rfl) (gQ (zah 0 tf3 rfl rfl rfl) (gQ (zab zCb rfl) (gQ (zah 0 tf3 rfl rfl rfl) (gQ (zab zCc rfl) (gQ (zah 0 tf9 rfl rfl rfl) (gQ (zab zCd rfl) (gQ (zah 0 tf3 rfl rfl rfl) (gQ (zab zCe rfl) (gQ (zah 0 tf3 rfl rfl rfl) (gQ (zab zCf rfl) (gQ (zah 0 tf4 rfl rfl rfl) (gQ (zaI rfl (zzo _ _ _ _ _ _)) (zaG rfl rfl (zaD rfl (zsE _ _ _ _ _ _) zyx rfl) fun b44=>?_))))))))))))))))))))))))))))))
   refine zb4 (m:=[(bs.getD (i).toNat default)]) 2 af38 zyx rfl rfl rfl rfl (fun _ hw=>(zam zyx (hw.has (p:=0) rfl))) (by first | omega | (simp only [List.length_cons,List.length_nil]; omega)) (by first | (unfold maxLen; omega) | (simp only [List.length_cons,List.length_nil,maxLen]; omega)) fun a45 c45=>(gQ (zab zz1 rfl) (zaA 3 tf38 rfl rfl (vs:=[_]) rfl rfl rfl rfl rfl (gN [1,2,3,4,5,6,7] rfl (zaa (gM rfl (gQ (zaY rfl rfl (by omega) (by omega)) (gA rfl (gN [1,2,3,4,5,6,7] rfl (zaK 0 rfl (zaK 0 rfl ?_))))))))))
   exact za1 (i+1,_,_,_) ⟨rfl,rfl,rfl,rfl,rfl,rfl,rfl,trivial⟩ rfl ⟨by omega,by omega,by rw [g2,zDi g0 hc20]⟩ (by simp only []; omega)
  ·have hc20:=of_decide_eq_false hc20
   have hN:N=bs:=by rw [g2,List.take_of_length_le (by omega)]
   refine za8 rfl (zac (zaa (gQ (zab zAL rfl) (gQ (zab zeo rfl) (gQ (zah 6 tf3 rfl rfl rfl) (gQ (zab zAL rfl) (gQ (zab zd7 rfl) (gQ (zah 6 tf3 rfl rfl rfl) (gQ (zab zAL rfl) (gQ (zab zCQ rfl) (gQ (zah 6 tf3 rfl rfl rfl) (gQ (zab zAL rfl) (gQ (zab zA6 rfl) (gQ (zah 6 tf3 rfl rfl rfl) (gQ (zab zAL rfl) (gQ (zab zA7 rfl) (gQ (zah 6 tf3 rfl rfl rfl) (gQ (zaI rfl (zyE _ _ _ _ _)) (zaG rfl rfl (zaL tf41 (zs:=[_,_,_,_,_]) rfl) fun b9=>(zaA 0 tf41 rfl rfl (vs:=[_,_,_,_,_]) rfl rfl rfl rfl rfl (gN [1,2,3,4,5,6,9] rfl (zac (zao 4 rfl (zao 5 rfl (zao 6 rfl (zCs [_,_,_] (ch [(2,((Option Addr×Nat×List ShC)×(Option Addr×Nat×List WlC)))]) 1000 40 [0,1,3,0,0,0,32,103,231,487,999,2023,4071,8167,16359,32743,65511,131047,262119,524263,1048551,2097127,4194279,8388583,16777191,33554407,67108839,134217703,268435431,536870887,1073741799,2147483623,4294967271,8589934567,17179869159,34359738343,536870887,69256347631,206695301119,549755813887] [] rfl (fun _=>mixed) (by kernel_rfl) (zjK _ ⟨inferInstance,trivial⟩) ?_))))))))))))))))))))))))))
   refine zAr (fun ρ=>zab zCR rfl) (fun ρ ρ' h=>by rfl) (zAr (fun ρ=>zat (b:=b1) (cs:=[.slice a S.length cap,.slice b V.length bcap,.slice ca cs.length ccap,.slice ba bs.length bcp,.int .i64 x.wide,.int .i64 x.high,.int .i64 x.step,.int .i64 x.leap,.int .i64 x.reach]) (e:=33) 4 tf25 rfl (by kernel_rfl) (vs:=[_,_]) rfl rfl) (fun ρ ρ' h=>by rfl) (zFy (fun ρ=>zbm en42 rfl (fun w hw=>zue _ _ S _ _ V w (Rd.has (Has.rd hl) hw) (Rd.has (Has.rd hlw) hw) (fun z hz=>(Rd.has (Has.rd (hsh z hz)) hw)) hss (fun z hz=>(Rd.has (Has.rd (hwo z hz)) hw)) hsv hs hsw)) (fun ρ ρ' h=>⟨by rfl,by rfl⟩) (zAr (fun ρ=>zat (b:=b6) (cs:=[.slice z13.1 cs.length z13.2,.slice ra N.length rc]) (e:=40) 2 tf40 rfl (by kernel_rfl) (vs:=[_,_]) rfl rfl) (fun ρ ρ' h=>by rfl) (zAr (fun ρ=>zat (b:=b9) (cs:=[.int .i64 x.wide,.int .i64 x.high,.int .i64 x.step,.int .i64 x.leap,.int .i64 x.reach]) (e:=41) 0 tf41 rfl (by kernel_rfl) (vs:=[_,_,_,_,_]) rfl rfl) (fun ρ ρ' h=>by rfl) (zAr (fun ρ=>zab zCR rfl) (fun ρ ρ' h=>by rfl) (zAr (fun ρ=>zat (b:=b1) (cs:=[.slice a S.length cap,.slice b V.length bcap,.slice ca cs.length ccap,.slice ba bs.length bcp,.int .i64 x.wide,.int .i64 x.high,.int .i64 x.step,.int .i64 x.leap,.int .i64 x.reach]) (e:=33) 4 tf25 rfl (by kernel_rfl) (vs:=[_,_]) rfl rfl) (fun ρ ρ' h=>by rfl) ?_))))))
   refine zAr (fun ρ=>zaJ en43 rfl (fun w hw=>zuI _ _ S _ _ V w (Rd.has (Has.rd hl) hw) (by unfold zaP; omega) (Rd.has (Has.rd hlw) hw) (by omega) hfS)) (fun ρ ρ' h=>by rfl) (zAr (fun ρ=>zaf rfl) (fun ρ ρ' h=>by rfl) (zH9 rfl (fun _=>rfl) rfl (fun hgd ρ=>by(try rw [hgd]); exact(zab zz0 rfl)) (fun ρ ρ' h=>by rfl) (zH9 rfl (fun _=>rfl) rfl (fun hgd ρ=>by(try rw [hgd]); exact(zab zAp rfl)) (fun ρ ρ' h=>by rfl) (zH9 rfl (fun _=>rfl) rfl (fun hgd ρ=>by(try rw [hgd]); exact(zah (b:=b1) (cs:=[.slice a S.length cap,.slice b V.length bcap,.slice ca cs.length ccap,.slice ba bs.length bcp,.int .i64 x.wide,.int .i64 x.high,.int .i64 x.step,.int .i64 x.leap,.int .i64 x.reach]) (e:=33) 5 tf26 rfl (by kernel_rfl) rfl)) (fun ρ ρ' h=>by rfl) (zH9 rfl (fun _=>rfl) rfl (fun hgd ρ=>by(try rw [hgd]); exact(zaV (Tryz.underlying26) rfl)) (fun ρ ρ' h=>by rfl) (zH9 rfl (fun _=>rfl) rfl (fun hgd ρ=>by(try rw [hgd]); exact(zeT rfl rfl)) (fun ρ ρ' h=>by rfl) (zAr (fun ρ=>zaX rfl rfl rfl) (fun ρ ρ' h=>by rfl) (zAr (fun ρ=>zaf rfl) (fun ρ ρ' h=>by rfl) (zH9 rfl (fun _=>rfl) rfl (fun hgd ρ=>by(try rw [hgd]); exact(zab zz0 rfl)) (fun ρ ρ' h=>by rfl) (zH9 rfl (fun _=>rfl) rfl (fun hgd ρ=>by(try rw [hgd]); exact(zab zzL rfl)) (fun ρ ρ' h=>by rfl) ?_))))))))))
   refine zH9 rfl (fun _=>rfl) rfl (fun hgd ρ=>by(try rw [hgd]); exact(zah (b:=b1) (cs:=[.slice a S.length cap,.slice b V.length bcap,.slice ca cs.length ccap,.slice ba bs.length bcp,.int .i64 x.wide,.int .i64 x.high,.int .i64 x.step,.int .i64 x.leap,.int .i64 x.reach]) (e:=33) 5 tf27 rfl (by kernel_rfl) rfl)) (fun ρ ρ' h=>by rfl) (zH9 rfl (fun _=>rfl) rfl (fun hgd ρ=>by(try rw [hgd]); exact(zaV (Tryz.underlying27) rfl)) (fun ρ ρ' h=>by rfl) (zH9 rfl (fun _=>rfl) rfl (fun hgd ρ=>by(try rw [hgd]); exact(zeT rfl rfl)) (fun ρ ρ' h=>by rfl) (zAr (fun ρ=>zaX rfl rfl rfl) (fun ρ ρ' h=>by rfl) (zAr (fun ρ=>zaf rfl) (fun ρ ρ' h=>by rfl) (zH9 rfl (fun _=>rfl) rfl (fun hgd ρ=>by(try rw [hgd]); exact(zab zz0 rfl)) (fun ρ ρ' h=>by rfl) (zH9 rfl (fun _=>rfl) rfl (fun hgd ρ=>by(try rw [hgd]); exact(zab zzL rfl)) (fun ρ ρ' h=>by rfl) (zH9 rfl (fun _=>rfl) rfl (fun hgd ρ=>by(try rw [hgd]); exact(zah (b:=b1) (cs:=[.slice a S.length cap,.slice b V.length bcap,.slice ca cs.length ccap,.slice ba bs.length bcp,.int .i64 x.wide,.int .i64 x.high,.int .i64 x.step,.int .i64 x.leap,.int .i64 x.reach]) (e:=33) 5 tf27 rfl (by kernel_rfl) rfl)) (fun ρ ρ' h=>by rfl) (zH9 rfl (fun _=>rfl) rfl (fun hgd ρ=>by(try rw [hgd]); exact(zaV (Tryz.underlying27) rfl)) (fun ρ ρ' h=>by rfl) ?_))))))))
   refine zH9 rfl (fun _=>rfl) rfl (fun hgd ρ=>by(try rw [hgd]); exact(zeT rfl rfl)) (fun ρ ρ' h=>by rfl) (zH9 rfl (fun _=>rfl) rfl (fun hgd ρ=>by(try rw [hgd]); exact(zaf rfl)) (fun ρ ρ' h=>by rfl) (zIa rfl (fun _=>rfl) rfl (fun hgd ρ=>by(try rw [hgd]); exact(zab zz0 rfl)) (fun ρ ρ' h=>by rfl) (zIa rfl (fun _=>rfl) rfl (fun hgd ρ=>by(try rw [hgd]); exact(zab zzL rfl)) (fun ρ ρ' h=>by rfl) (zIa rfl (fun _=>rfl) rfl (fun hgd ρ=>by(try rw [hgd]); exact(zah (b:=b1) (cs:=[.slice a S.length cap,.slice b V.length bcap,.slice ca cs.length ccap,.slice ba bs.length bcp,.int .i64 x.wide,.int .i64 x.high,.int .i64 x.step,.int .i64 x.leap,.int .i64 x.reach]) (e:=33) 5 tf27 rfl (by kernel_rfl) rfl)) (fun ρ ρ' h=>by rfl) (zIa rfl (fun _=>rfl) rfl (fun hgd ρ=>by(try rw [hgd]); exact(zaV (Tryz.underlying27) rfl)) (fun ρ ρ' h=>by rfl) (zIa rfl (fun _=>rfl) rfl (fun hgd ρ=>by(try rw [hgd]); exact(zc6 rfl rfl)) (fun ρ ρ' h=>by rfl) (zH9 rfl (fun _=>rfl) rfl (fun hgd ρ=>by(try rw [hgd]); exact(zaR rfl rfl rfl)) (fun ρ ρ' h=>by rfl) (zAr (fun ρ=>zaX rfl rfl rfl) (fun ρ ρ' h=>by rfl) ?_))))))))
   refine zBT (R:=fun ρ=>Box b2 [.slice none 0 0,.slice none 0 0] 37) (A:=fun ρ=>Box b2 [.slice (ρ 2).1.1 (ρ 2).1.2.2.length (ρ 2).1.2.1,.slice (ρ 2).2.1 (ρ 2).2.2.2.length (ρ 2).2.2.1] 37) 1000 rfl (by kernel_rfl) (by kernel_rfl) (fun _=>by kernel_rfl) (fun ρ=>zex tf37 rfl rfl (vs:=[_,_]) rfl rfl rfl rfl rfl) (fun ρ ρ' h=>by(first | rfl | (simp only [h 2 rfl]; done) | (simp only [h 2 rfl]; rfl))) (zBT (R:=fun ρ=>Box b3 [.slice none 0 0,.slice none 0 0] 40) (A:=fun ρ=>Box b3 [.slice z13.1 cs.length z13.2,.slice ra N.length rc] 40) 1001 rfl (by kernel_rfl) (by kernel_rfl) (fun _=>by kernel_rfl) (fun ρ=>zex tf40 rfl rfl (vs:=[_,_]) rfl rfl rfl rfl rfl) (fun ρ ρ' h=>by rfl) (zBT (R:=fun ρ=>Box b4 [.int .i64 0,.int .i64 0,.int .i64 0,.int .i64 0,.int .i64 0] 41) (A:=fun ρ=>Box b4 [.int .i64 x.wide,.int .i64 x.high,.int .i64 x.step,.int .i64 x.leap,.int .i64 x.reach] 41) 1002 rfl (by kernel_rfl) (by kernel_rfl) (fun _=>by kernel_rfl) (fun ρ=>zex tf41 rfl rfl (vs:=[_,_,_,_,_]) rfl rfl rfl rfl rfl) (fun ρ ρ' h=>by rfl) (zAr (fun ρ=>zad rfl) (fun ρ ρ' h=>by rfl) ?_)))
   refine fun ρ=>zag (zf4 (X:=((Option Addr×Nat×List ShC)×(Option Addr×Nat×List WlC))) (ρ 2) (fun p65=>[(2,.pointer (some ⟨b2,0,none⟩)),(3,.pointer (some ⟨b3,0,none⟩)),(4,.pointer (some ⟨b4,0,none⟩)),(5,.bool ((((zgI S V)&&(decide ((cs.length:Int)≤45)))&&(decide ((bs.length:Int)≤90)))&&((decide ((bs.length:Int)≤20))||(decide (80 < (bs.length:Int))))))]) (fun p65=>[PlR yP p65 ⟨S.map (·.s),V.map (·.s)⟩,Box b2 [.slice p65.1.1 p65.1.2.2.length p65.1.2.1,.slice p65.2.1 p65.2.2.2.length p65.2.2.1] 37,Box b3 [.slice z13.1 cs.length z13.2,.slice ra N.length rc] 40,Box b4 [.int .i64 x.wide,.int .i64 x.high,.int .i64 x.step,.int .i64 x.leap,.int .i64 x.reach] 41,Box b9 [.int .i64 x.wide,.int .i64 x.high,.int .i64 x.step,.int .i64 x.leap,.int .i64 x.reach] 41,Row ra 6 rc 64 zyr N,Box b6 [.slice z13.1 cs.length z13.2,.slice ra N.length rc] 40,Row z13.1 1 z13.2 9 encS cs,Box b1 [.slice a S.length cap,.slice b V.length bcap,.slice ca cs.length ccap,.slice ba bs.length bcp,.int .i64 x.wide,.int .i64 x.high,.int .i64 x.step,.int .i64 x.leap,.int .i64 x.reach] 33]) ⟨rfl,rfl,rfl,rfl,trivial⟩ rfl ?_)
   rintro p65
   refine zaw (zao 5 rfl (zao 7 rfl (zao 2 rfl (zbT 3 (zbd (p65,(z13.1,z13.2),(ra,rc)) 0 (zGD rfl (zbU (i:=1) (vs:=[_,_]) tf37 rfl rfl rfl rfl) (zbU (i:=2) (vs:=[_,_]) tf40 rfl rfl rfl rfl) (zbU (i:=3) (vs:=[_,_,_,_,_]) tf41 rfl rfl rfl rfl) (zau rfl)) ?_ (by rw [hN]; rfl))))))
   rw [hN]; rfl
theorem zEO (a:Option Addr) (cap:Nat) (S:List ShC) (b:Option Addr) (bcap:Nat) (V:List WlC) (ca:Option Addr) (ccap:Nat) (cs:List ByteArray) (ba:Option Addr) (bcp:Nat) (bs:List Bdr) (x:Anm) (w:World) (hl:Has w (zaW a 20 zbH S)) (hs:zaP S.length) (hcS:S.length≤cap) (hlw:Has w (zaW b 4 zbS V)) (hsw:zaP V.length) (hsh:∀ z∈S,Has w (Ints z.a z.s.heights)) (hss:∀ z∈S,zaP z.s.heights.length) (hwo:∀ z∈V,Has w (zaW z.a 5 zba z.s.opens)) (hsv:∀ z∈V,zaP z.s.opens.length) (hcp:∀ z∈V,z.s.opens.length≤z.cap) (hkn:∀ z∈V,∀ o∈z.s.opens,Knd o) (hc:Has w (zaW ca 1 encS cs)) (hcs:zaP cs.length) (hcap:cs.length≤ccap) (hbd:Has w (zaW ba 6 zyr bs)) (hbs:zaP bs.length) (hfS:∀ z∈S,Fits z.s.name.size) (hfV:∀ z∈V,Fits z.s.name.size) (hco:∀ z∈S,0≤z.s.cope) (hcf:∀ z∈cs,Fits z.size) :
  Calls Tryz.prog 17 #[.agg #[.slice a S.length cap,.slice b V.length bcap,.slice ca cs.length ccap,.slice ba bs.length bcp,.int .i64 x.wide,.int .i64 x.high,.int .i64 x.step,.int .i64 x.leap,.int .i64 x.reach]] w (Pure (.bool (zym S V cs bs x)) w):=by
 refine zan (vs:=[_]) Tryz.func17 rfl rfl (Nat.le_of_ble_eq_true rfl) (zac (zaa (zaG rfl rfl (za3 (vs:=[_,_,_,_,_,_,_,_,_]) rfl rfl) fun b1=>(gA rfl (gN [1,2] rfl (zac (zaa (gQ (zab zCR rfl) (gQ (zat 0 tf25 rfl rfl (vs:=[_,_]) rfl rfl) (gQ (zab zz0 rfl) (gQ (zat 0 tf29 rfl rfl (vs:=[_,_]) rfl rfl) (gQ (zab zAL rfl) (gQ (zat 0 tf31 rfl rfl (vs:=[_,_,_,_,_]) rfl rfl) (gQ (zaJ en51 rfl (fun w hw=>zEd _ _ S _ _ V _ _ cs _ _ bs x w (Rd.has (Has.rd hl) hw) hs hcS (Rd.has (Has.rd hlw) hw) hsw (fun z hz=>(Rd.has (Has.rd (hsh z hz)) hw)) hss (fun z hz=>(Rd.has (Has.rd (hwo z hz)) hw)) hsv hcp hkn (Rd.has (Has.rd hc) hw) hcs hcap (Rd.has (Has.rd hbd) hw) hbs hfS hfV hco hcf)) (gA rfl (gN [2] rfl (zaw (zay (zaC rfl (zau rfl)) ?_))))))))))))))))))
 rfl
end Go.Proofs.YteepmmghanbllaaGreatDoor
namespace Go.Proofs.YteepmmghanbllaaGreatDoor
open Go Go.K Go.Stn Go.Pln Go.RowKit Go.Txt
theorem zkC {c:UInt8} {l:List UInt8} (h:l.all (fun x=>!(x == c))=true):∀ x∈l,x≠c:=fun x hx=>by
 have:=List.all_eq_true.1 h x hx
 simpa using this
theorem zbk {c:UInt8} {L:List UInt8} (k n:Nat) (h0:((L.drop k).take n).all (fun x=>!(x == c))=true) (h1:(L.drop k)[n]?=some c):cutL c (L.drop k)=(L.drop k).take n :: cutL c (L.drop (k+n+1)):=by
 obtain⟨h,h2⟩:=List.getElem?_eq_some_iff.1 h1
 have e:L.drop k=(L.drop k).take n++c :: L.drop (k+n+1):=by
  rw [←h2,show k+n+1=k+(n+1) from rfl,←List.drop_drop,←List.drop_eq_getElem_cons h,List.take_append_drop]
 conv=>lhs; rw [e]
 exact zhx (zkC h0)
theorem zui {W:List ByteArray} (h:0 < W.length):zdp W=.ok (W.getD 0 default,W.drop 1):=by
 cases W with
 | nil=>simp at h
 | cons x r=>rfl
theorem znw {W:List ByteArray} {k:Nat} (h:k < W.length):zdp (W.drop k)=.ok (W.getD k default,W.drop (k+1)):=by
 rw [List.drop_eq_getElem_cons h,List.getD_eq_getElem?_getD,List.getElem?_eq_getElem h]; rfl
theorem zuh {W:List ByteArray} {k:Nat} (h:k < W.length) (h1:zgx (W.getD k default)=true):zes (W.drop k)=.ok (W.getD k default,W.drop (k+1)):=by
 rw [zes,znw h,zak]; exact if_pos h1
theorem sayD {W:List ByteArray} {u:ByteArray} {k:Nat} (h:k < W.length) (h1:((W.getD k default).toList == u.toList)=true):sayE u (W.drop k)=.ok ((),W.drop (k+1)):=by
 rw [sayE,znw h,zak]; exact if_pos h1
theorem numD {W:List ByteArray} {k:Nat} {n:Int} (h:k < W.length) (h1:numW (W.getD k default)=true) (h2:zdO (W.getD k default)=n):numE (W.drop k)=.ok (n,W.drop (k+1)):=by
 rw [numE,znw h,zak,←h2]; exact if_pos h1
theorem zqd {W:List ByteArray} {k:Nat} {n:Int} (h:k < W.length) (h1:numW (W.getD k default)=true) (h2:zdO (W.getD k default)=n):zco 1 (W.drop k)=.ok ([n],W.drop (k+1)):=by
 rw [zco,numD h h1 h2]; rfl
theorem zqe {W:List ByteArray} {k m:Nat} {n:Int} {l:List Int} {r:List ByteArray} (h:k < W.length) (h1:numW (W.getD k default)=true) (h2:zdO (W.getD k default)=n) (h3:zco m (W.drop (k+1))=.ok (l,r)):zco (m+1) (W.drop k)=.ok (n :: l,r):=by
 rw [zco,numD h h1 h2,zak]
 show(zco m (W.drop (k+1)) >>= _)=_
 rw [h3]; rfl
theorem zs3 {W:List ByteArray} {k:Nat} {n n2:Int} (h:k+1 < W.length) (h1:numW (W.getD k default)=true) (h2:zdO (W.getD k default)=n) (h3:numW (W.getD (k+1) default)=true) (h4:zdO (W.getD (k+1) default)=n2):zco 2 (W.drop k)=.ok ([n,n2],W.drop (k+2)):=
 zqe (by omega) h1 h2 (zqd h h3 h4)
theorem zs4 {W:List ByteArray} {k:Nat} {n n2 n3:Int} (h:k+2 < W.length) (h1:numW (W.getD k default)=true) (h2:zdO (W.getD k default)=n) (h3:numW (W.getD (k+1) default)=true) (h4:zdO (W.getD (k+1) default)=n2) (h5:numW (W.getD (k+1+1) default)=true) (h6:zdO (W.getD (k+1+1) default)=n3):zco 3 (W.drop k)=.ok ([n,n2,n3],W.drop (k+3)):=
 zqe (by omega) h1 h2 (zs3 h h3 h4 h5 h6)
theorem zv9 {W:List ByteArray} {k:Nat} {n n2 n3 n4:Int} (h:k+3 < W.length) (h1:numW (W.getD k default)=true) (h2:zdO (W.getD k default)=n) (h3:numW (W.getD (k+1) default)=true) (h4:zdO (W.getD (k+1) default)=n2) (h5:numW (W.getD (k+1+1) default)=true) (h6:zdO (W.getD (k+1+1) default)=n3) (h7:numW (W.getD (k+1+1+1) default)=true) (h8:zdO (W.getD (k+1+1+1) default)=n4):zco 4 (W.drop k)=.ok ([n,n2,n3,n4],W.drop (k+4)):=
 zqe (by omega) h1 h2 (zs4 (by omega) h3 h4 h5 h6 h7 h8)
theorem zlm {W:List ByteArray} {u:ByteArray} {k:Nat} {n:Int} (h:k+1 < W.length) (h0:((W.getD k default).toList == u.toList)=true) (h1:numW (W.getD (k+1) default)=true) (h2:zdO (W.getD (k+1) default)=n):oneE u 1 (W.drop k)=.ok ([n],W.drop (k+2)):=by
 rw [oneE,sayD (by omega) h0,zak]; exact zqd h h1 h2
theorem zur {W:List ByteArray} {u:ByteArray} {k:Nat} {n n2:Int} (h:k+2 < W.length) (h0:((W.getD k default).toList == u.toList)=true) (h1:numW (W.getD (k+1) default)=true) (h2:zdO (W.getD (k+1) default)=n) (h3:numW (W.getD (k+1+1) default)=true) (h4:zdO (W.getD (k+1+1) default)=n2):oneE u 2 (W.drop k)=.ok ([n,n2],W.drop (k+3)):=by
 rw [oneE,sayD (by omega) h0,zak]; exact zs3 h h1 h2 h3 h4
theorem zpU {W:List ByteArray} {acc acc2:List Int} {k:Nat} (h:k < W.length) (h1:((W.getD k default).toList == wLeast.toList)=false) (h2:numW (W.getD k default)=true) (h3:acc++[zdO (W.getD k default)]=acc2):zbF acc (W.drop k)=zbF acc2 (W.drop (k+1)):=by
 rw [List.getD_eq_getElem?_getD,List.getElem?_eq_getElem h,Option.getD_some] at h1 h2 h3
 rw [List.drop_eq_getElem_cons h,zbF,if_neg (by rw [show(W[k].toList == wLeast.toList)=false from h1]; exact Bool.false_ne_true),if_pos h2,←h3]
theorem zt1 {W:List ByteArray} {acc:List Int} {k:Nat} (h:k < W.length) (h1:((W.getD k default).toList == wLeast.toList)=true):zbF acc (W.drop k)=.ok (acc,W.drop k):=by
 rw [List.getD_eq_getElem?_getD,List.getElem?_eq_getElem h,Option.getD_some] at h1
 rw [List.drop_eq_getElem_cons h,zbF,if_pos h1]
theorem zv4 {W l:List ByteArray} {f k:Nat} {n:Int} (h:k < W.length) (h1:¬ zbJ (fun y=>(W.getD k default).toList == y.toList) (l.drop f) < 0∧zbJ (fun y=>(W.getD k default).toList == y.toList) (l.drop f)+f=n):zfk l f (W.drop k)=.ok (n,W.drop (k+1)):=by
 rw [zfk,znw h,zak,←h1.2]; exact if_neg h1.1
noncomputable def dB:List UInt8:=daleT.data.toList
noncomputable def dQ0:List UInt8:=(dB.drop 0).take 170
theorem dct0:cutL 10 (dB.drop 0)=dQ0 :: cutL 10 (dB.drop 171):=zbk 0 170 (by decide +kernel) (by decide +kernel)
noncomputable def dQ1:List UInt8:=(dB.drop 171).take 20
theorem dct1:cutL 10 (dB.drop 171)=dQ1 :: cutL 10 (dB.drop 192):=zbk 171 20 (by decide +kernel) (by decide +kernel)
noncomputable def dQ2:List UInt8:=(dB.drop 192).take 25
theorem dct2:cutL 10 (dB.drop 192)=dQ2 :: cutL 10 (dB.drop 218):=zbk 192 25 (by decide +kernel) (by decide +kernel)
theorem dct3:cutL 10 (dB.drop 218)=[dB.drop 218]:=zeD (zkC (by decide +kernel))
theorem zob:zcb daleT=[mkB dQ0,mkB dQ1,mkB dQ2]:=by
 unfold zcb
 rw [zcT]
 show zfN ((cutL 10 (dB.drop 0)).map mkB)=_
 rw [dct0,dct1,dct2,dct3]
 show zfN [mkB dQ0,mkB dQ1,mkB dQ2,mkB (dB.drop 218)]=_
 rw [zfN,zfN,zfN,zfN,if_pos (by decide +kernel)]
theorem zwD:cutL 32 (dQ0.drop 0)=(dQ0.drop 0).take 5 :: cutL 32 (dQ0.drop 6):=zbk 0 5 (by decide +kernel) (by decide +kernel)
theorem zwE:cutL 32 (dQ0.drop 6)=(dQ0.drop 6).take 4 :: cutL 32 (dQ0.drop 11):=zbk 6 4 (by decide +kernel) (by decide +kernel)
theorem zwF:cutL 32 (dQ0.drop 11)=(dQ0.drop 11).take 4 :: cutL 32 (dQ0.drop 16):=zbk 11 4 (by decide +kernel) (by decide +kernel)
theorem zwG:cutL 32 (dQ0.drop 16)=(dQ0.drop 16).take 3 :: cutL 32 (dQ0.drop 20):=zbk 16 3 (by decide +kernel) (by decide +kernel)
theorem zwH:cutL 32 (dQ0.drop 20)=(dQ0.drop 20).take 6 :: cutL 32 (dQ0.drop 27):=zbk 20 6 (by decide +kernel) (by decide +kernel)
theorem zwI:cutL 32 (dQ0.drop 27)=(dQ0.drop 27).take 3 :: cutL 32 (dQ0.drop 31):=zbk 27 3 (by decide +kernel) (by decide +kernel)
theorem zwJ:cutL 32 (dQ0.drop 31)=(dQ0.drop 31).take 6 :: cutL 32 (dQ0.drop 38):=zbk 31 6 (by decide +kernel) (by decide +kernel)
theorem zwK:cutL 32 (dQ0.drop 38)=(dQ0.drop 38).take 4 :: cutL 32 (dQ0.drop 43):=zbk 38 4 (by decide +kernel) (by decide +kernel)
theorem zwL:cutL 32 (dQ0.drop 43)=(dQ0.drop 43).take 4 :: cutL 32 (dQ0.drop 48):=zbk 43 4 (by decide +kernel) (by decide +kernel)
theorem zwM:cutL 32 (dQ0.drop 48)=(dQ0.drop 48).take 3 :: cutL 32 (dQ0.drop 52):=zbk 48 3 (by decide +kernel) (by decide +kernel)
theorem zvr:cutL 32 (dQ0.drop 52)=(dQ0.drop 52).take 7 :: cutL 32 (dQ0.drop 60):=zbk 52 7 (by decide +kernel) (by decide +kernel)
theorem zvs:cutL 32 (dQ0.drop 60)=(dQ0.drop 60).take 3 :: cutL 32 (dQ0.drop 64):=zbk 60 3 (by decide +kernel) (by decide +kernel)
theorem zvt:cutL 32 (dQ0.drop 64)=(dQ0.drop 64).take 3 :: cutL 32 (dQ0.drop 68):=zbk 64 3 (by decide +kernel) (by decide +kernel)
theorem zvu:cutL 32 (dQ0.drop 68)=(dQ0.drop 68).take 5 :: cutL 32 (dQ0.drop 74):=zbk 68 5 (by decide +kernel) (by decide +kernel)
theorem zvv:cutL 32 (dQ0.drop 74)=(dQ0.drop 74).take 2 :: cutL 32 (dQ0.drop 77):=zbk 74 2 (by decide +kernel) (by decide +kernel)
theorem zvw:cutL 32 (dQ0.drop 77)=(dQ0.drop 77).take 3 :: cutL 32 (dQ0.drop 81):=zbk 77 3 (by decide +kernel) (by decide +kernel)
theorem zvx:cutL 32 (dQ0.drop 81)=(dQ0.drop 81).take 2 :: cutL 32 (dQ0.drop 84):=zbk 81 2 (by decide +kernel) (by decide +kernel)
theorem zvy:cutL 32 (dQ0.drop 84)=(dQ0.drop 84).take 3 :: cutL 32 (dQ0.drop 88):=zbk 84 3 (by decide +kernel) (by decide +kernel)
theorem zvz:cutL 32 (dQ0.drop 88)=(dQ0.drop 88).take 1 :: cutL 32 (dQ0.drop 90):=zbk 88 1 (by decide +kernel) (by decide +kernel)
theorem zvA:cutL 32 (dQ0.drop 90)=(dQ0.drop 90).take 7 :: cutL 32 (dQ0.drop 98):=zbk 90 7 (by decide +kernel) (by decide +kernel)
theorem zvB:cutL 32 (dQ0.drop 98)=(dQ0.drop 98).take 3 :: cutL 32 (dQ0.drop 102):=zbk 98 3 (by decide +kernel) (by decide +kernel)
theorem zvC:cutL 32 (dQ0.drop 102)=(dQ0.drop 102).take 3 :: cutL 32 (dQ0.drop 106):=zbk 102 3 (by decide +kernel) (by decide +kernel)
theorem zvD:cutL 32 (dQ0.drop 106)=(dQ0.drop 106).take 7 :: cutL 32 (dQ0.drop 114):=zbk 106 7 (by decide +kernel) (by decide +kernel)
theorem zvE:cutL 32 (dQ0.drop 114)=(dQ0.drop 114).take 3 :: cutL 32 (dQ0.drop 118):=zbk 114 3 (by decide +kernel) (by decide +kernel)
theorem zvF:cutL 32 (dQ0.drop 118)=(dQ0.drop 118).take 3 :: cutL 32 (dQ0.drop 122):=zbk 118 3 (by decide +kernel) (by decide +kernel)
theorem zvG:cutL 32 (dQ0.drop 122)=(dQ0.drop 122).take 4 :: cutL 32 (dQ0.drop 127):=zbk 122 4 (by decide +kernel) (by decide +kernel)
theorem zvH:cutL 32 (dQ0.drop 127)=(dQ0.drop 127).take 4 :: cutL 32 (dQ0.drop 132):=zbk 127 4 (by decide +kernel) (by decide +kernel)
theorem zvI:cutL 32 (dQ0.drop 132)=(dQ0.drop 132).take 3 :: cutL 32 (dQ0.drop 136):=zbk 132 3 (by decide +kernel) (by decide +kernel)
theorem zvJ:cutL 32 (dQ0.drop 136)=(dQ0.drop 136).take 3 :: cutL 32 (dQ0.drop 140):=zbk 136 3 (by decide +kernel) (by decide +kernel)
theorem zvK:cutL 32 (dQ0.drop 140)=(dQ0.drop 140).take 3 :: cutL 32 (dQ0.drop 144):=zbk 140 3 (by decide +kernel) (by decide +kernel)
theorem zvL:cutL 32 (dQ0.drop 144)=(dQ0.drop 144).take 8 :: cutL 32 (dQ0.drop 153):=zbk 144 8 (by decide +kernel) (by decide +kernel)
theorem zvM:cutL 32 (dQ0.drop 153)=(dQ0.drop 153).take 3 :: cutL 32 (dQ0.drop 157):=zbk 153 3 (by decide +kernel) (by decide +kernel)
theorem zvN:cutL 32 (dQ0.drop 157)=(dQ0.drop 157).take 3 :: cutL 32 (dQ0.drop 161):=zbk 157 3 (by decide +kernel) (by decide +kernel)
theorem zvO:cutL 32 (dQ0.drop 161)=(dQ0.drop 161).take 4 :: cutL 32 (dQ0.drop 166):=zbk 161 4 (by decide +kernel) (by decide +kernel)
theorem zvP:cutL 32 (dQ0.drop 166)=[dQ0.drop 166]:=zeD (zkC (by decide +kernel))
noncomputable def dW0:List ByteArray:=[mkB ((dQ0.drop 0).take 5),mkB ((dQ0.drop 6).take 4),mkB ((dQ0.drop 11).take 4),mkB ((dQ0.drop 16).take 3),mkB ((dQ0.drop 20).take 6),mkB ((dQ0.drop 27).take 3),mkB ((dQ0.drop 31).take 6),mkB ((dQ0.drop 38).take 4),mkB ((dQ0.drop 43).take 4),mkB ((dQ0.drop 48).take 3),mkB ((dQ0.drop 52).take 7),mkB ((dQ0.drop 60).take 3),mkB ((dQ0.drop 64).take 3),mkB ((dQ0.drop 68).take 5),mkB ((dQ0.drop 74).take 2),mkB ((dQ0.drop 77).take 3),mkB ((dQ0.drop 81).take 2),mkB ((dQ0.drop 84).take 3),mkB ((dQ0.drop 88).take 1),mkB ((dQ0.drop 90).take 7),mkB ((dQ0.drop 98).take 3),mkB ((dQ0.drop 102).take 3),mkB ((dQ0.drop 106).take 7),mkB ((dQ0.drop 114).take 3),mkB ((dQ0.drop 118).take 3),mkB ((dQ0.drop 122).take 4),mkB ((dQ0.drop 127).take 4),mkB ((dQ0.drop 132).take 3),mkB ((dQ0.drop 136).take 3),mkB ((dQ0.drop 140).take 3),mkB ((dQ0.drop 144).take 8),mkB ((dQ0.drop 153).take 3),mkB ((dQ0.drop 157).take 3),mkB ((dQ0.drop 161).take 4),mkB (dQ0.drop 166)]
theorem zvh:zcn (mkB dQ0) 32=dW0:=by
 rw [zcT]
 show(cutL 32 (dQ0.drop 0)).map mkB=_
 rw [zwD,zwE,zwF,zwG,zwH,zwI,zwJ,zwK,zwL,zwM,zvr,zvs,zvt,zvu,zvv,zvw,zvx,zvy,zvz,zvA,zvB,zvC,zvD,zvE,zvF,zvG,zvH,zvI,zvJ,zvK,zvL,zvM,zvN,zvO,zvP]
 rfl
theorem zxn:idle (mkB dQ0)=false:=by decide +kernel
theorem zwN:cutL 32 (dQ1.drop 0)=(dQ1.drop 0).take 4 :: cutL 32 (dQ1.drop 5):=zbk 0 4 (by decide +kernel) (by decide +kernel)
theorem zwO:cutL 32 (dQ1.drop 5)=(dQ1.drop 5).take 5 :: cutL 32 (dQ1.drop 11):=zbk 5 5 (by decide +kernel) (by decide +kernel)
theorem zwP:cutL 32 (dQ1.drop 11)=(dQ1.drop 11).take 4 :: cutL 32 (dQ1.drop 16):=zbk 11 4 (by decide +kernel) (by decide +kernel)
theorem zwQ:cutL 32 (dQ1.drop 16)=[dQ1.drop 16]:=zeD (zkC (by decide +kernel))
noncomputable def dW1:List ByteArray:=[mkB ((dQ1.drop 0).take 4),mkB ((dQ1.drop 5).take 5),mkB ((dQ1.drop 11).take 4),mkB (dQ1.drop 16)]
theorem zvi:zcn (mkB dQ1) 32=dW1:=by
 rw [zcT]
 show(cutL 32 (dQ1.drop 0)).map mkB=_
 rw [zwN,zwO,zwP,zwQ]
 rfl
theorem zxo:idle (mkB dQ1)=false:=by decide +kernel
theorem zwR:cutL 32 (dQ2.drop 0)=(dQ2.drop 0).take 4 :: cutL 32 (dQ2.drop 5):=zbk 0 4 (by decide +kernel) (by decide +kernel)
theorem zwS:cutL 32 (dQ2.drop 5)=(dQ2.drop 5).take 5 :: cutL 32 (dQ2.drop 11):=zbk 5 5 (by decide +kernel) (by decide +kernel)
theorem zwT:cutL 32 (dQ2.drop 11)=(dQ2.drop 11).take 4 :: cutL 32 (dQ2.drop 16):=zbk 11 4 (by decide +kernel) (by decide +kernel)
theorem zwU:cutL 32 (dQ2.drop 16)=(dQ2.drop 16).take 3 :: cutL 32 (dQ2.drop 20):=zbk 16 3 (by decide +kernel) (by decide +kernel)
theorem zwV:cutL 32 (dQ2.drop 20)=(dQ2.drop 20).take 1 :: cutL 32 (dQ2.drop 22):=zbk 20 1 (by decide +kernel) (by decide +kernel)
theorem zwW:cutL 32 (dQ2.drop 22)=[dQ2.drop 22]:=zeD (zkC (by decide +kernel))
noncomputable def dW2:List ByteArray:=[mkB ((dQ2.drop 0).take 4),mkB ((dQ2.drop 5).take 5),mkB ((dQ2.drop 11).take 4),mkB ((dQ2.drop 16).take 3),mkB ((dQ2.drop 20).take 1),mkB (dQ2.drop 22)]
theorem zvj:zcn (mkB dQ2) 32=dW2:=by
 rw [zcT]
 show(cutL 32 (dQ2.drop 0)).map mkB=_
 rw [zwR,zwS,zwT,zwU,zwV,zwW]
 rfl
theorem zxp:idle (mkB dQ2)=false:=by decide +kernel
theorem dn0:zes (dW0.drop 1)=.ok ((mkB ((dQ0.drop 6).take 4)),dW0.drop 2):=zuh (by decide) (by decide +kernel)
theorem zwz:oneE ⟨#[98,97,115,101]⟩ 1 (dW0.drop 2)=.ok ([700],dW0.drop 4):=zlm (by decide) (by decide +kernel) (by decide +kernel) (by decide +kernel)
theorem ztC:oneE ⟨#[98,97,116,116,101,114]⟩ 1 (dW0.drop 4)=.ok ([100],dW0.drop 6):=zlm (by decide) (by decide +kernel) (by decide +kernel) (by decide +kernel)
theorem ztD:oneE ⟨#[104,101,105,103,104,116]⟩ 1 (dW0.drop 6)=.ok ([1200],dW0.drop 8):=zlm (by decide) (by decide +kernel) (by decide +kernel) (by decide +kernel)
theorem zwX:oneE ⟨#[115,107,105,110]⟩ 1 (dW0.drop 8)=.ok ([250],dW0.drop 10):=zlm (by decide) (by decide +kernel) (by decide +kernel) (by decide +kernel)
theorem zrm:sayE ⟨#[104,101,105,103,104,116,115]⟩ (dW0.drop 10)=.ok ((),dW0.drop 11):=sayD (by decide) (by decide +kernel)
theorem dh0:zbF [] (dW0.drop 11)=zbF [200] (dW0.drop 12):=zpU (by decide) (by decide +kernel) (by decide +kernel) (by decide +kernel)
theorem dh1:zbF [200] (dW0.drop 12)=zbF [200,180] (dW0.drop 13):=zpU (by decide) (by decide +kernel) (by decide +kernel) (by decide +kernel)
theorem dhe:zbF [200,180] (dW0.drop 13)=.ok ([200,180],dW0.drop 13):=zt1 (by decide) (by decide +kernel)
theorem dhs:zbF [] (dW0.drop 11)=.ok ([200,180],dW0.drop 13):=by rw [dh0,dh1,dhe]
theorem zvm:oneE ⟨#[108,101,97,115,116]⟩ 1 (dW0.drop 13)=.ok ([60],dW0.drop 15):=zlm (by decide) (by decide +kernel) (by decide +kernel) (by decide +kernel)
theorem dlap:oneE ⟨#[108,97,112]⟩ 1 (dW0.drop 15)=.ok ([60],dW0.drop 17):=zlm (by decide) (by decide +kernel) (by decide +kernel) (by decide +kernel)
theorem drun:oneE ⟨#[114,117,110]⟩ 1 (dW0.drop 17)=.ok ([2],dW0.drop 19):=zlm (by decide) (by decide +kernel) (by decide +kernel) (by decide +kernel)
theorem zrn:oneE ⟨#[116,104,114,111,117,103,104]⟩ 2 (dW0.drop 19)=.ok ([900,500],dW0.drop 22):=zur (by decide) (by decide +kernel) (by decide +kernel) (by decide +kernel) (by decide +kernel) (by decide +kernel)
theorem zrl:oneE ⟨#[102,111,111,116,105,110,103]⟩ 2 (dW0.drop 22)=.ok ([200,100],dW0.drop 25):=zur (by decide) (by decide +kernel) (by decide +kernel) (by decide +kernel) (by decide +kernel) (by decide +kernel)
theorem zwA:sayE ⟨#[99,111,112,101]⟩ (dW0.drop 25)=.ok ((),dW0.drop 26):=sayD (by decide) (by decide +kernel)
theorem zwB:zfk zeZ 0 (dW0.drop 26)=.ok (3,dW0.drop 27):=zv4 (by decide) (by decide +kernel)
theorem dc3:zco 3 (dW0.drop 27)=.ok ([300,200,150],dW0.drop 30):=zs4 (by decide) (by decide +kernel) (by decide +kernel) (by decide +kernel) (by decide +kernel) (by decide +kernel) (by decide +kernel)
theorem zpg:oneE ⟨#[102,114,105,99,116,105,111,110]⟩ 2 (dW0.drop 30)=.ok ([500,700],dW0.drop 33):=zur (by decide) (by decide +kernel) (by decide +kernel) (by decide +kernel) (by decide +kernel) (by decide +kernel)
theorem zwC:oneE ⟨#[114,111,111,100]⟩ 1 (dW0.drop 33)=.ok ([6000],dW0.drop 35):=zlm (by decide) (by decide +kernel) (by decide +kernel) (by decide +kernel)
noncomputable def dSh:Sht:=⟨(mkB ((dQ0.drop 6).take 4)),700,100,1200,250,[200,180],60,60,2,900,500,200,100,3,300,200,150,500,700,6000⟩
theorem zvQ:zci (dW0.drop 1)=.ok (dSh,dW0.drop 35):=by
 unfold zci
 simp only [dn0,zwz,ztC,ztD,zwX,zrm,dhs,zvm,dlap,drun,zrn,zrl,zwA,zwB,dc3,zpg,zwC,zak]
 rfl
theorem zpj:za4 dSh=true:=by decide +kernel
theorem zvn:zcu ⟨[],[]⟩ ((mkB dQ0))=.ok ⟨[dSh],[]⟩:=by
 have h1:zff ⟨[],[]⟩ (mkB ((dQ0.drop 0).take 5)) (dW0.drop 1)=zb3 ⟨[],[]⟩ (dW0.drop 1):=if_pos (by decide +kernel)
 have h2:endE (dW0.drop 35)=.ok ((),dW0.drop 35):=if_pos (by decide)
 unfold zcu
 rw [zvh,zui (W:=dW0) (by decide),zak]
 show zff ⟨[],[]⟩ (mkB ((dQ0.drop 0).take 5)) (dW0.drop 1)=_
 rw [h1]
 unfold zb3
 simp only [zvQ,zak,h2]
 rw [if_neg (by decide),if_pos zpj]
 rfl
noncomputable def dWl0:Wll:=⟨(mkB ((dQ1.drop 5).take 5)),(mkB ((dQ1.drop 11).take 4)),3000,[]⟩
theorem zvo:zcu ⟨[dSh],[]⟩ ((mkB dQ1))=.ok ⟨[dSh],[dWl0]⟩:=by
 have h1:zff ⟨[dSh],[]⟩ (mkB ((dQ1.drop 0).take 4)) (dW1.drop 1)=zb1 ⟨[dSh],[]⟩ (dW1.drop 1):=(if_neg (by decide +kernel)).trans (if_pos (by decide +kernel))
 have h2:zes (dW1.drop 1)=.ok ((mkB ((dQ1.drop 5).take 5)),dW1.drop 2):=zuh (by decide) (by decide +kernel)
 have h3:zes (dW1.drop 2)=.ok ((mkB ((dQ1.drop 11).take 4)),dW1.drop 3):=zuh (by decide) (by decide +kernel)
 have h4:zco 1 (dW1.drop 3)=.ok ([3000],dW1.drop 4):=zqd (by decide) (by decide +kernel) (by decide +kernel)
 have h5:endE (dW1.drop 4)=.ok ((),dW1.drop 4):=if_pos (by decide)
 unfold zcu
 rw [zvi,zui (W:=dW1) (by decide),zak]
 show zff ⟨[dSh],[]⟩ (mkB ((dQ1.drop 0).take 4)) (dW1.drop 1)=_
 rw [h1]
 unfold zb1
 simp only [h2,h3,h4,h5,zak]
 rw [if_neg (by decide),if_pos (by decide +kernel),if_pos (by decide +kernel)]
 rfl
def dOp:Opn:=⟨1,1000,250,0,220⟩
noncomputable def dWl:Wll:=more dWl0 dOp
theorem zvp:zcu ⟨[dSh],[dWl0]⟩ ((mkB dQ2))=.ok ⟨[dSh],[dWl]⟩:=by
 have h1:zff ⟨[dSh],[dWl0]⟩ (mkB ((dQ2.drop 0).take 4)) (dW2.drop 1)=zch ⟨[dSh],[dWl0]⟩ (dW2.drop 1):=(if_neg (by decide +kernel)).trans ((if_neg (by decide +kernel)).trans (if_pos (by decide +kernel)))
 have h2:zfk opensW 1 (dW2.drop 1)=.ok (1,dW2.drop 2):=zv4 (by decide) (by decide +kernel)
 have h3:zco 4 (dW2.drop 2)=.ok ([1000,250,0,220],dW2.drop 6):=zv9 (by decide) (by decide +kernel) (by decide +kernel) (by decide +kernel) (by decide +kernel) (by decide +kernel) (by decide +kernel) (by decide +kernel) (by decide +kernel)
 have h5:endE (dW2.drop 6)=.ok ((),dW2.drop 6):=if_pos (by decide)
 have h6:zd1 (getS [dSh] dWl0.sheet).height (more dWl0 dOp)=true:=by decide +kernel
 unfold zcu
 rw [zvj,zui (W:=dW2) (by decide),zak]
 show zff ⟨[dSh],[dWl0]⟩ (mkB ((dQ2.drop 0).take 4)) (dW2.drop 1)=_
 rw [h1]
 unfold zch
 simp only [h2,h3,h5,zak]
 exact(if_neg (by decide)).trans (if_pos h6)
theorem zgT:zgA daleT=(⟨[dSh],[dWl]⟩,0,0):=by
 refine zkf (by have:=zpe; omega) ?_
 rw [zob,zhB zxn zvn,zhB zxo zvo,zhB zxp zvp]
 rfl
end Go.Proofs.YteepmmghanbllaaGreatDoor
namespace Go.Proofs.YteepmmghanbllaaGreatDoor
open Go.K Go.Stn Go.Pln Go.Fld Go.RowKit
theorem zjk {c:Cx} {ds:List Deferred} {T:List (Nat×Value)} {H:List Res} {K:Act→World→Prop} {y:PTy} {ra:Option Addr} {rc:Nat} {S:List ShC} {rb:Option Addr} {rd:Nat} {V:List WlC} {q:Plan}
  (h:S.map (·.s)=q.S→V.map (·.s)=q.V→GK c ds K T (Row ra 20 rc y.s zbH S :: Go.K.Rows (rowH y.i) S :: Row rb 4 rd y.w zbS V :: Go.K.Rows (rowO y.o) V :: H)):GK c ds K T (PlR y ((ra,rc,S),(rb,rd,V)) q :: H):=by
 intro a w ha hw
 obtain⟨hb,B,hB,⟨h1,h2,h3⟩,hr⟩:=hw
 exact h h1 h2 a w ha (Hp.split (L:=[_,_,_,_]) ⟨hb,B,hB,h3,hr⟩)
theorem zp7 {α β:Type} {f:α→β} {l:List α} {x:β} (h:l.map f=[x]):∃ y,l=[y]∧f y=x:=by
 cases l with
 | nil=>cases h
 | cons y r=>
  cases r with
  | nil=>rw [List.map_cons,List.map_nil,List.cons.injEq] at h; exact⟨y,rfl,h.1⟩
  | cons z t=>rw [List.map_cons,List.map_cons] at h; cases h
abbrev wkC:List ByteArray:=[⟨#[109,111,111,114]⟩,⟨#[99,114,111,102,116]⟩]
abbrev wkB:List Bdr:=[⟨0,1,⟨#[110,111,114,116,104]⟩,0,0,false⟩]
abbrev wkH:Anm:=⟨150,200,100,600,300⟩
abbrev wkE:Anm:=⟨400,700,250,1100,600⟩
section
variable {z0:ShC} {v0:WlC} (hz:z0.s=dSh) (hv:v0.s=dWl)
include hz hv
theorem zBC:zym [z0] [v0] wkC wkB wkH=true∧zym [z0] [v0] wkC wkB wkE=true:=by
 obtain⟨s,a,c⟩:=z0; obtain⟨v,b,d⟩:=v0
 simp only at hz hv; subst hz hv
 exact⟨by kernel_rfl,by kernel_rfl⟩
theorem zGL:zyj [z0] [v0] wkB wkH=[(⟨0,1,0,0,1⟩,⟨1,0,0,0,1⟩)]:=by
 obtain⟨s,a,c⟩:=z0; obtain⟨v,b,d⟩:=v0
 simp only at hz hv; subst hz hv
 kernel_rfl
theorem zHq:zyj [z0] [v0] wkB wkE=[(⟨0,1,0,-2,0⟩,⟨1,0,0,-2,0⟩)]:=by
 obtain⟨s,a,c⟩:=z0; obtain⟨v,b,d⟩:=v0
 simp only at hz hv; subst hz hv
 kernel_rfl
theorem zH7:smN [z0] [v0] wkB wkH true 1=[(0,0)]∧smN [z0] [v0] wkB wkH false 1=[]:=by
 obtain⟨s,a,c⟩:=z0; obtain⟨v,b,d⟩:=v0
 simp only at hz hv; subst hz hv
 exact⟨by kernel_rfl,by kernel_rfl⟩
theorem zEt:zyv [z0] [v0] wkC wkB wkH 0 false=⟨0,1,0⟩∧zyv [z0] [v0] wkC wkB wkE 0 false=⟨0,0,8⟩:=by
 obtain⟨l1,l2⟩:=zBC hz hv
 unfold zyv wayI
 rw [if_pos l1,if_pos l2,zGL hz hv,zHq hz hv]
 exact⟨by kernel_rfl,by kernel_rfl⟩
theorem zFj:atE [z0] [v0] wkC wkB wkE [1]=0∧rchA [z0] [v0] wkC wkB wkE 1=[1]:=by
 obtain⟨l1,l2⟩:=zBC hz hv
 have h:atE [z0] [v0] wkC wkB wkE [1]=0:=zFF l2 (by kernel_rfl)
 refine⟨h,?_⟩
 unfold rchA
 rw [if_pos h,zHq hz hv]
 kernel_rfl
theorem zFi:prtE [z0] [v0] wkC wkB wkH 0 1=0∧(clA [z0] [v0] wkC wkB wkH 0 1).length=1∧(wkA [z0] [v0] wkC wkB wkH 0 1).length=1:=by
 obtain⟨l1,l2⟩:=zBC hz hv
 have h0:atE [z0] [v0] wkC wkB wkH [0,1]=0:=zFF l1 (by kernel_rfl)
 have h:prtE [z0] [v0] wkC wkB wkH 0 1=0:=by unfold prtE; rw [if_pos h0,if_neg (by decide)]
 refine⟨h,?_,?_⟩
 ·unfold clA
  rw [if_pos h,zGL hz hv]
  kernel_rfl
 ·unfold wkA
  rw [if_pos h,zGL hz hv]
  kernel_rfl
theorem zFk:zBP [z0] [v0] wkC wkB wkH=0∧(smA [z0] [v0] wkC wkB wkH true).length=1∧(smA [z0] [v0] wkC wkB wkH false).length=0:=by
 obtain⟨l1,l2⟩:=zBC hz hv
 obtain⟨s1,s2⟩:=zH7 hz hv
 refine⟨if_pos l1,?_,?_⟩
 ·unfold smA; rw [if_pos l1]; show(smN [z0] [v0] wkB wkH true 1).length=1; rw [s1]; rfl
 ·unfold smA; rw [if_pos l1]; show(smN [z0] [v0] wkB wkH false 1).length=0; rw [s2]; rfl
end
section
variable {z0:ShC} (hz:z0.s=dSh)
include hz
theorem zjy:∀ z∈[z0],zaP z.s.heights.length:=fun z h=>by rw [List.mem_singleton.1 h,hz]; decide +kernel
end
theorem zn2 {v0:WlC} (hv:v0.s=dWl):∀ z∈[v0],zaP z.s.opens.length:=fun z h=>by rw [List.mem_singleton.1 h,hv]; decide +kernel
theorem zsv {v0:WlC} (hv:v0.s=dWl):∀ z∈[v0],∀ o∈z.s.opens,Knd o:=fun z h o ho=>by
 rw [List.mem_singleton.1 h,hv] at ho
 have:o=dOp:=List.mem_singleton.1 (show o∈[dOp] from ho)
 rw [this]; decide
end Go.Proofs.YteepmmghanbllaaGreatDoor
namespace Go.Proofs.YteepmmghanbllaaGreatDoor
open Go.K Go.Stn Go.Pln Go.Fld Go.RowKit
theorem en15:En Tryz.prog 15:=za7 Tryz.func15 (by kernel_rfl) (by kernel_rfl)
theorem en16:En Tryz.prog 16:=za7 Tryz.func16 (by kernel_rfl) (by kernel_rfl)
theorem en23:En Tryz.prog 23:=za7 Tryz.func23 (by kernel_rfl) (by kernel_rfl)
theorem en24:En Tryz.prog 24:=za7 Tryz.func24 (by kernel_rfl) (by kernel_rfl)
theorem en44:En Tryz.prog 44:=za7 Tryz.func44 (by kernel_rfl) (by kernel_rfl)
theorem en45:En Tryz.prog 45:=za7 Tryz.func45 (by kernel_rfl) (by kernel_rfl)
theorem zC9 (x0a:Option Addr) (x0n x0c:Nat) (x1a:Option Addr) (x1n x1c:Nat) (w:World):(Instr.build 40 #[(0,.slice x0a x0n x0c),(1,.slice x1a x1n x1c)]).run Tryz.prog w=.ok (.agg #[.slice x0a x0n x0c,.slice x1a x1n x1c]) w:=by kernel_rfl
theorem zDa (x0:Int) (x1:ByteArray) (w:World):(Instr.build 64 #[(1,.int .i64 x0),(2,.string x1)]).run Tryz.prog w=.ok (.agg #[.int IntKind.i64 0,.int .i64 x0,.string x1,.int IntKind.i64 0,.int IntKind.i64 0,.bool false]) w:=by kernel_rfl
theorem zG3 (x0_0:ByteArray) (x1_0:ByteArray) (w:World):(Instr.buildSlice 26 2 #[(0,.string x0_0),(1,.string x1_0)]).run Tryz.prog w=.ok (.slice (some ⟨w.heap.size,0,none⟩) 2 2) (w.alloc (.cells (([x0_0,x1_0]:List (ByteArray)).flatMap encS).toArray 9)):=by kernel_rfl
theorem zz3  (w:World) (hmx:Has w (IntV 2)) (hcp:Has w (zaW (some ⟨1,0,none⟩) 1 encS zeZ)) (hop:Has w (zaW (some ⟨0,0,none⟩) 1 encS opensW)) :
  Calls Tryz.prog 14 #[] w (Pure (.bool true) w):=by
 refine zan (vs:=[]) Tryz.func14 rfl rfl (Nat.le_of_ble_eq_true rfl) (zac (zaa (gA rfl (gN [0] rfl (zac (zaa (gQ (zaJ en45 rfl (fun w hw=>zvl w)) (zaG rfl rfl (zbm en44 rfl (fun w hw=>zus daleT w (Rd.has (Has.rd hmx) hw) (Rd.has (Has.rd hcp) hw) (Rd.has (Has.rd hop) hw))) fun p23=>(gM rfl (gQ (zaB rfl rfl) (gQ (zaB rfl rfl) (gQ (zaB rfl rfl) (zaG rfl rfl (zaL tf37 (zs:=[_,_]) rfl) fun b1=>(zaA 0 tf37 rfl rfl (vs:=[_,_]) rfl rfl rfl rfl rfl (gA rfl (gA rfl (gN [0,1,3] rfl (zao 1 rfl ?_))))))))))))))))))
 obtain⟨⟨ra,rc,S⟩,⟨rb,rd,V⟩⟩:=p23
 refine za2 (R':=PlR yP ((ra,rc,S),(rb,rd,V)) ⟨[dSh],[dWl]⟩) 0 rfl (fun B w hA=>by rw [zgT] at hA; exact hA) (zjk fun hS hV=>?_)
 obtain⟨z0,rfl,hz⟩:=zp7 hS
 obtain⟨v0,rfl,hv⟩:=zp7 hV
 have hl1:([z0]:List ShC).length=1:=rfl
 have hl2:([v0]:List WlC).length=1:=rfl
 obtain⟨hA1,hA2⟩:=zEt hz hv
 obtain⟨hR1,hR2⟩:=zFj hz hv
 obtain⟨hC1,hC2,hC3⟩:=zFi hz hv
 obtain⟨hS1,hS2,hS3⟩:=zFk hz hv
 have hRl:(rchA [z0] [v0] wkC wkB wkE 1).length=1:=by rw [hR2]; rfl
 refine za2 (R':=Box b1 [.slice ra 1 rc,.slice rb 1 rd] 37) 4 rfl (fun B w hA=>hA) (zae (T':=[(0,_),(1,_),(3,.int .i64 0)]) ⟨rfl,rfl,(by rw [zgT]; rfl),trivial⟩ (zac (zaa (zaG rfl rfl (zaD rfl (zG3 _ _) ztJ rfl) fun b27=>(gQ (zaI rfl (zDa _ _)) (zaG rfl rfl (zaD rfl (zsE _ _ _ _ _ _) zyx rfl) fun b29=>(gQ (zaI rfl (zC9 _ _ _ _ _ _)) (zaG rfl rfl (zaL tf40 (zs:=[_,_]) rfl) fun b4=>(zaA 0 tf40 rfl rfl (vs:=[_,_]) rfl rfl rfl rfl rfl (gN [0,1,3,4] rfl (zac (zaa (gQ (zaI rfl (zyE _ _ _ _ _)) (zaG rfl rfl (zaL tf41 (zs:=[_,_,_,_,_]) rfl) fun b5=>(zaA 0 tf41 rfl rfl (vs:=[_,_,_,_,_]) rfl rfl rfl rfl rfl (gN [0,1,3,4,5] rfl (zac (zaa (gQ (zaI rfl (zyE _ _ _ _ _)) (zaG rfl rfl (zaL tf41 (zs:=[_,_,_,_,_]) rfl) fun b6=>(zaA 0 tf41 rfl rfl (vs:=[_,_,_,_,_]) rfl rfl rfl rfl rfl (gN [0,1,3,4,5,6] rfl (zac (zaa (gQ (zat 9 tf37 rfl rfl (vs:=[_,_]) rfl rfl) (gQ (zat 2 tf40 rfl rfl (vs:=[_,_]) rfl rfl) (gQ (zat 1 tf41 rfl rfl (vs:=[_,_,_,_,_]) rfl rfl) ?_)))))))))))))))))))))))))))
 refine gQ (zaJ en24 rfl (fun w hw=>zAz _ _ [z0] _ _ [v0] _ _ wkC _ _ wkB wkH 0 false w (zam zbI (hw.has (p:=5) rfl)) (show zaP 1 by decide) (zcM (hw.has (p:=5) rfl)) (zam zbo (hw.has (p:=7) rfl)) (show zaP 1 by decide) (fun z hz2=>zam Go.Stn.encI_ok (zbV (f:=rowH 3) (hw.has (p:=6) rfl) hz2)) (zjy hz) (fun z hz2=>zam zyn (zbV (f:=rowO 122) (hw.has (p:=8) rfl) hz2)) (zn2 hv) (fun z hz2=>zcM (zbV (f:=rowO 122) (hw.has (p:=8) rfl) hz2)) (zsv hv) (zam ztJ (hw.has (p:=4) rfl)) (show zaP 2 by decide) (show 2≤2 by decide) (zam zyx (hw.has (p:=3) rfl)) (show zaP 1 by decide))) (gM rfl (gQ (zaB rfl rfl) (gQ (zaB rfl rfl) (gQ (zaB rfl rfl) (gA rfl (gA rfl (gA rfl (gN [0,1,3,4,5,6,7,8,9] rfl (zac (zaa (gQ (zat 9 tf37 rfl rfl (vs:=[_,_]) rfl rfl) (gQ (zat 2 tf40 rfl rfl (vs:=[_,_]) rfl rfl) (gQ (zat 0 tf41 rfl rfl (vs:=[_,_,_,_,_]) rfl rfl) ?_)))))))))))))
 refine gQ (zaJ en24 rfl (fun w hw=>zAz _ _ [z0] _ _ [v0] _ _ wkC _ _ wkB wkE 0 false w (zam zbI (hw.has (p:=5) rfl)) (show zaP 1 by decide) (zcM (hw.has (p:=5) rfl)) (zam zbo (hw.has (p:=7) rfl)) (show zaP 1 by decide) (fun z hz2=>zam Go.Stn.encI_ok (zbV (f:=rowH 3) (hw.has (p:=6) rfl) hz2)) (zjy hz) (fun z hz2=>zam zyn (zbV (f:=rowO 122) (hw.has (p:=8) rfl) hz2)) (zn2 hv) (fun z hz2=>zcM (zbV (f:=rowO 122) (hw.has (p:=8) rfl) hz2)) (zsv hv) (zam ztJ (hw.has (p:=4) rfl)) (show zaP 2 by decide) (show 2≤2 by decide) (zam zyx (hw.has (p:=3) rfl)) (show zaP 1 by decide))) (gM rfl (gQ (zaB rfl rfl) (gQ (zaB rfl rfl) (gQ (zaB rfl rfl) (gA rfl (gA rfl (gA rfl (gN [0,1,3,4,5,6,7,8,9,12] rfl (zac (zaa (gQ (zat 9 tf37 rfl rfl (vs:=[_,_]) rfl rfl) (gQ (zat 2 tf40 rfl rfl (vs:=[_,_]) rfl rfl) (gQ (zat 0 tf41 rfl rfl (vs:=[_,_,_,_,_]) rfl rfl) ?_)))))))))))))
 refine zaG rfl rfl (zbm en15 rfl (fun w hw=>zE5 _ _ [z0] _ _ [v0] _ _ wkC _ _ wkB wkE 1 w (zam zbI (hw.has (p:=5) rfl)) (show zaP 1 by decide) (zcM (hw.has (p:=5) rfl)) (zam zbo (hw.has (p:=7) rfl)) (show zaP 1 by decide) (fun z hz2=>zam Go.Stn.encI_ok (zbV (f:=rowH 3) (hw.has (p:=6) rfl) hz2)) (zjy hz) (fun z hz2=>zam zyn (zbV (f:=rowO 122) (hw.has (p:=8) rfl) hz2)) (zn2 hv) (fun z hz2=>zcM (zbV (f:=rowO 122) (hw.has (p:=8) rfl) hz2)) (zsv hv) (zam ztJ (hw.has (p:=4) rfl)) (show zaP 2 by decide) (show 2≤2 by decide) (zam zyx (hw.has (p:=3) rfl)) (show zaP 1 by decide))) fun p53=>(gM rfl (gQ (zaB rfl rfl) (gQ (zaB rfl rfl) (gA rfl (gA rfl (gN [0,1,3,4,5,7,8,9,12,13,14] rfl (zac (zaa (gQ (zat 10 tf37 rfl rfl (vs:=[_,_]) rfl rfl) (gQ (zat 3 tf40 rfl rfl (vs:=[_,_]) rfl rfl) (gQ (zat 2 tf41 rfl rfl (vs:=[_,_,_,_,_]) rfl rfl) ?_)))))))))))
 refine zaG rfl rfl (zbm en23 rfl (fun w hw=>zEF _ _ [z0] _ _ [v0] _ _ wkC _ _ wkB wkH 0 1 w (zam zbI (hw.has (p:=6) rfl)) (show zaP 1 by decide) (zcM (hw.has (p:=6) rfl)) (zam zbo (hw.has (p:=8) rfl)) (show zaP 1 by decide) (fun z hz2=>zam Go.Stn.encI_ok (zbV (f:=rowH 3) (hw.has (p:=7) rfl) hz2)) (zjy hz) (fun z hz2=>zam zyn (zbV (f:=rowO 122) (hw.has (p:=9) rfl) hz2)) (zn2 hv) (fun z hz2=>zcM (zbV (f:=rowO 122) (hw.has (p:=9) rfl) hz2)) (zsv hv) (zam ztJ (hw.has (p:=5) rfl)) (show zaP 2 by decide) (show 2≤2 by decide) (zam zyx (hw.has (p:=4) rfl)) (show zaP 1 by decide))) fun p60=>(gM rfl (gQ (zaB rfl rfl) (gQ (zaB rfl rfl) (gQ (zaB rfl rfl) (gA rfl (gA rfl (gA rfl (gN [0,1,3,4,5,7,8,9,12,13,14,15,16,17] rfl (zz4 fun hWK=>?_)))))))))
 have hKl:p60.2.2.length=1:=by have h:=congrArg List.length hWK; rw [List.length_map] at h; rw [h]; exact hC3
 refine zac (zaa (gQ (zat 11 tf37 rfl rfl (vs:=[_,_]) rfl rfl) (gQ (zat 4 tf40 rfl rfl (vs:=[_,_]) rfl rfl) (gQ (zat 3 tf41 rfl rfl (vs:=[_,_,_,_,_]) rfl rfl) (zaG rfl rfl (zbm en16 rfl (fun w hw=>zE7 _ _ [z0] _ _ [v0] _ _ wkC _ _ wkB wkH w (zam zbI (hw.has (p:=7) rfl)) (show zaP 1 by decide) (zcM (hw.has (p:=7) rfl)) (zam zbo (hw.has (p:=9) rfl)) (show zaP 1 by decide) (fun z hz2=>zam Go.Stn.encI_ok (zbV (f:=rowH 3) (hw.has (p:=8) rfl) hz2)) (zjy hz) (fun z hz2=>zam zyn (zbV (f:=rowO 122) (hw.has (p:=10) rfl) hz2)) (zn2 hv) (fun z hz2=>zcM (zbV (f:=rowO 122) (hw.has (p:=10) rfl) hz2)) (zsv hv) (zam ztJ (hw.has (p:=6) rfl)) (show zaP 2 by decide) (show 2≤2 by decide) (zam zyx (hw.has (p:=5) rfl)) (show zaP 1 by decide))) fun p68=>(gM rfl (gQ (zaB rfl rfl) (gQ (zaB rfl rfl) (gQ (zaB rfl rfl) (gA rfl (gA rfl (gA rfl (gN [0,3,7,8,9,12,13,14,15,16,17,18,19,20] rfl (zac (zaa (gM rfl (gQ (zbL rfl rfl) (gM rfl (gT rfl rfl rfl (gM rfl (gT rfl rfl rfl (gQ (zbQ (zbL rfl rfl) (by rw [hA1]; rfl)) (gQ (za5 rfl rfl rfl) (gM rfl (gT rfl rfl rfl (gM rfl (gT rfl rfl rfl (gQ (zbQ (zbL rfl rfl) (by rw [hA1]; rfl)) ?_))))))))))))))))))))))))))))
 refine gQ (za5 rfl rfl rfl) (gM rfl (gT rfl rfl rfl (gM rfl (gT rfl rfl rfl (gQ (zbQ (zbL rfl rfl) (by rw [hA1]; rfl)) (gQ (za5 rfl rfl rfl) (gM rfl (gT rfl rfl rfl (gM rfl (gT rfl rfl rfl (gQ (zbQ (zbL rfl rfl) (by rw [hA2]; rfl)) (gQ (za5 rfl rfl rfl) (gM rfl (gT rfl rfl rfl (gM rfl (gT rfl rfl rfl (gQ (zbQ (zbL rfl rfl) (by exact decide_eq_true hR1)) (gQ (za5 rfl rfl rfl) (gM rfl (gT rfl rfl rfl (gM rfl (gT rfl rfl rfl (gQ (zaV (Tryz.underlying45) rfl) (gT rfl rfl rfl (gQ (zbQ (zbL rfl rfl) (by rw [hRl]; rfl)) (gQ (za5 rfl rfl rfl) (gM rfl (gT rfl rfl rfl (gM rfl (gT rfl rfl rfl (gQ (zaE se45 rfl rfl (fun _ hw=>(zam Go.Stn.encI_ok (hw.has (p:=2) rfl))) (by omega) (by omega)) (gT rfl rfl rfl (gQ (zcE tf3 rfl (fun _ hw=>(zam Go.Stn.encI_ok (hw.has (p:=2) rfl))) (by omega) (by omega) rfl) (gT rfl rfl rfl (gQ (zbQ (zbL rfl rfl) (by rw [show(0:Int).toNat=0 from rfl,hR2]; rfl)) (gQ (za5 rfl rfl rfl) (gM rfl (gT rfl rfl rfl (gM rfl (gT rfl rfl rfl ?_))))))))))))))))))))))))))))))))))))))))
 refine gQ (zbQ (zbL rfl rfl) (by exact decide_eq_true hC1)) (gQ (za5 rfl rfl rfl) (gM rfl (gT rfl rfl rfl (gM rfl (gT rfl rfl rfl (gQ (zaV (Tryz.underlying45) rfl) (gT rfl rfl rfl (gQ (zbQ (zbL rfl rfl) (by rw [hC2]; rfl)) (gQ (za5 rfl rfl rfl) (gM rfl (gT rfl rfl rfl (gM rfl (gT rfl rfl rfl (gQ (zaV (Tryz.underlying60) rfl) (gT rfl rfl rfl (gQ (zbQ (zbL rfl rfl) (by rw [hKl]; rfl)) (gQ (za5 rfl rfl rfl) (gM rfl (gT rfl rfl rfl (gM rfl (gT rfl rfl rfl (gQ (zbQ (zbL rfl rfl) (by exact decide_eq_true hS1)) (gQ (za5 rfl rfl rfl) (gM rfl (gT rfl rfl rfl (gM rfl (gT rfl rfl rfl (gQ (zaV (Tryz.underlying49) rfl) (gT rfl rfl rfl (gQ (zbQ (zbL rfl rfl) (by rw [hS2]; rfl)) (gQ (za5 rfl rfl rfl) (gM rfl (gT rfl rfl rfl (gM rfl (gT rfl rfl rfl (gQ (zaV (Tryz.underlying49) rfl) (gT rfl rfl rfl (gQ (zbQ (zbL rfl rfl) (by rw [hS3]; rfl)) (gQ (za5 rfl rfl rfl) (gA rfl ?_))))))))))))))))))))))))))))))))))))))))
 refine gN [0] rfl (zaw (zay (zaC rfl (zau rfl)) ?_))
 rfl
end Go.Proofs.YteepmmghanbllaaGreatDoor
namespace Go.Fld
open Go Go.K Go.Stn Go.Pln
section
variable {s:Sht} {shut:Bool} {g h:Int} {l:List Opn} {x:Anm}
theorem zDp:∀ n,(acrN s shut g h l x n).some=true→mayR s shut g h l x (acrN s shut g h l x n).way=((acrN s shut g h l x n).eff,true)
 | 0,hs=>by cases hs
 | n+1,hs=>by
  have ih:=zDp n
  unfold acrN at hs ⊢
  simp only at hs ⊢
  split
  ·rename_i hc
   simp only [Bool.and_eq_true] at hc
   exact Prod.ext rfl hc.1
  ·rename_i hc
   rw [if_neg hc] at hs
   exact ih hs
theorem zHM {way:Int} (hm:(mayR s shut g h l x way).2=true):∃ k,k < l.length+1∧wayN l k=way:=by
 by_cases e:way = -1
 ·exact⟨l.length,by omega,by rw [e]; exact if_pos rfl⟩
 ·by_cases e2:way < 0∨(l.length:Int)≤way
  ·rw [zCv e e2] at hm; cases hm
  ·exact⟨way.toNat,by omega,by rw [wayN,if_neg (by omega)]; omega⟩
end
end Go.Fld
namespace Go.Fld
open Go Go.K Go.Stn Go.Pln
section
variable {S S2:List ShC} {V V2:List WlC} {cs:List ByteArray} {bs:List Bdr} {x:Anm} (h:S2.map (·.s)=S.map (·.s)) (h2:V2.map (·.s)=V.map (·.s))
include h h2
theorem zAq:zym S2 V2 cs bs x=zym S V cs bs x:=by
 have hb:∀ n b,zzp S2 V2 n b=zzp S V n b:=fun n b=>by unfold zzp; rw [zcK h h2]
 unfold zym zy1
 rw [zmw h h2]
 simp only [hb]
theorem zCu:zyj S2 V2 bs x=zyj S V bs x:=by
 unfold zyj wayB
 simp only [zgc h h2,zeN h h2]
theorem zAM:zBP S2 V2 cs bs x=zBP S V cs bs x:=by unfold zBP; rw [zAq h h2]
theorem zy7 (i:Int) (back:Bool):zyv S2 V2 cs bs x i back=zyv S V cs bs x i back:=by unfold zyv wayI; rw [zAq h h2,zCu h h2]
end
section
variable {S:List ShC} {V:List WlC} {cs:List ByteArray} {bs:List Bdr} {x:Anm}
abbrev acrE (S:List ShC) (V:List WlC) (bs:List Bdr) (x:Anm) (i:Int) (back:Bool):Acr:=acrB S V x (bs.getD i.toNat default) back ((zaN S V (bs.getD i.toNat default).wall).s.opens.length+1)
theorem zGQ {i:Int} {back:Bool} (hs:(acrE S V bs x i back).some=true):-1≤(acrE S V bs x i back).way:=by
 have l3:=zDp _ hs
 obtain⟨q,_,hq⟩:=zHM (s:=(zar S V (bs.getD i.toNat default).wall).s) (shut:=(bs.getD i.toNat default).shut) (g:=gOf (bs.getD i.toNat default) back) (h:=hOf (bs.getD i.toNat default) back) (l:=(zaN S V (bs.getD i.toNat default).wall).s.opens) (x:=x) (way:=(acrE S V bs x i back).way) (congrArg Prod.snd l3)
 rw [←hq]
 unfold wayN
 split <;> omega
theorem zFu {i:Int} {n:Nat} (h0:0≤i) (h1:i < (n:Int)):(!inZ i 0 ((n:Int) - 1))=false:=by
 unfold inZ
 rw [decide_eq_true h0,decide_eq_true (by omega:i≤(n:Int) - 1)]; rfl
theorem zGx {i:Int} {n:Nat} (h:i < 0∨(n:Int)≤i):(!inZ i 0 ((n:Int) - 1))=true:=by
 unfold inZ
 rcases h with h | h
 ·rw [decide_eq_false (by omega:¬ 0≤i)]; rfl
 ·rw [decide_eq_false (by omega:¬ i≤(n:Int) - 1)]; simp
theorem zC7 (h:zym S V cs bs x=true) {i:Int} (h0:0≤i) (h1:i < bs.length) (back:Bool) :
  ((acrE S V bs x i back).some=false→zyv S V cs bs x i back=⟨0,0,8⟩∧(wayI S V bs x i back).way = -2)∧((acrE S V bs x i back).some=true→zyv S V cs bs x i back=⟨(acrE S V bs x i back).way,(acrE S V bs x i back).eff,0⟩∧(wayI S V bs x i back).way=(acrE S V bs x i back).way∧(wayI S V bs x i back).eff=(acrE S V bs x i back).eff):=by
 have ha:=zFB h h0 h1 back
 unfold zAN at ha
 constructor
 ·intro hs
  rw [if_neg (by rw [hs]; exact Bool.false_ne_true)] at ha
  simp only [Prod.mk.injEq] at ha
  exact⟨zzM h (zFu h0 h1) (by omega),ha.1.symm⟩
 ·intro hs
  rw [if_pos hs] at ha
  simp only [Prod.mk.injEq] at ha
  have:=zGQ hs
  refine⟨?_,ha.1.symm,ha.2.symm⟩
  rw [zzN h (zFu h0 h1) (by rw [←ha.1]; exact Int.not_lt.2 this),←ha.1,←ha.2]
end
end Go.Fld
namespace Go.Proofs.YteepmmghanbllaaGreatDoor
open Go.K Go.Stn Go.Pln Go.Fld Go.RowKit
theorem tf33:TF Tryz.prog 33 true 9 (.agg #[.slice none 0 0,.slice none 0 0,.slice none 0 0,.slice none 0 0,.int IntKind.i64 0,.int IntKind.i64 0,.int IntKind.i64 0,.int IntKind.i64 0,.int IntKind.i64 0]):=⟨by kernel_rfl,by kernel_rfl⟩
theorem en13:En Tryz.prog 13:=za7 Tryz.func13 (by kernel_rfl) (by kernel_rfl)
theorem en14:En Tryz.prog 14:=za7 Tryz.func14 (by kernel_rfl) (by kernel_rfl)
theorem en17:En Tryz.prog 17:=za7 Tryz.func17 (by kernel_rfl) (by kernel_rfl)
theorem en25:En Tryz.prog 25:=za7 Tryz.func25 (by kernel_rfl) (by kernel_rfl)
theorem en26:En Tryz.prog 26:=za7 Tryz.func26 (by kernel_rfl) (by kernel_rfl)
theorem FieldCrosses_c (a:Option Addr) (cap:Nat) (S:List ShC) (b:Option Addr) (bcap:Nat) (V:List WlC) (ca:Option Addr) (ccap:Nat) (cs:List ByteArray) (ba:Option Addr) (bcp:Nat) (bs:List Bdr) (x:Anm) (i:Int) (back:Bool) (w:World) (hl:Has w (zaW a 20 zbH S)) (hs:S.length≤764877654104) (hlw:Has w (zaW b 4 zbS V)) (hsw:V.length≤2199023255552) (hsh:∀ z∈S,Has w (Ints z.a z.s.heights)) (hss:∀ z∈S,z.s.heights.length≤17592186044416) (hwo:∀ z∈V,Has w (zaW z.a 5 zba z.s.opens)) (hsv:∀ z∈V,z.s.opens.length≤3518437208883) (hfS:∀ z∈S,Fits z.s.name.size) (hc:Has w (zaW ca 1 encS cs)) (hcn:cs.length≤8796093022208) (hbd:Has w (zaW ba 6 zyr bs)) (hbn:bs.length≤2513169434915) (hcS:S.length≤cap) (hcpw:∀ z∈V,z.s.opens.length≤z.cap) (hkn:∀ z∈V,∀ o∈z.s.opens,Knd o) (hfV:∀ z∈V,Fits z.s.name.size) (hco:∀ z∈S,0≤z.s.cope) (hcf:∀ z∈cs,Fits z.size) (hcap:cs.length≤ccap) (hmx:Has w (IntV 2)) (hcp:Has w (zaW (some ⟨1,0,none⟩) 1 encS zeZ)) (hop:Has w (zaW (some ⟨0,0,none⟩) 1 encS opensW)) :
  Calls Tryz.prog 5 #[.agg #[.slice a S.length cap,.slice b V.length bcap,.slice ca cs.length ccap,.slice ba bs.length bcp,.int .i64 x.wide,.int .i64 x.high,.int .i64 x.step,.int .i64 x.leap,.int .i64 x.reach],.int .i64 i,.bool back] w (Pure (.bool true) w):=by
 refine zan (vs:=[_,_,_]) Tryz.func5 rfl rfl (Nat.le_of_ble_eq_true rfl) (zac (zaa (zaG rfl rfl (za3 (vs:=[_,_,_,_,_,_,_,_,_]) rfl rfl) fun b3=>(gA rfl (gN [1,2,3,6] rfl (zac (zaa (gQ (zat 0 tf33 rfl rfl (vs:=[_,_,_,_,_,_,_,_,_]) rfl rfl) (zaG rfl rfl (zbm en13 rfl (fun w hw=>zG1 _ _ S _ _ V _ _ cs _ _ bs x w (Rd.has (Has.rd hl) hw) hs (Rd.has (Has.rd hlw) hw) hsw (fun z hz=>(Rd.has (Has.rd (hsh z hz)) hw)) hss (fun z hz=>(Rd.has (Has.rd (hwo z hz)) hw)) hsv hfS (Rd.has (Has.rd hc) hw) hcn (Rd.has (Has.rd hbd) hw) hbn)) fun p19=>(gM rfl (gQ (zaB rfl rfl) (gQ (zaB rfl rfl) (gQ (zaB rfl rfl) (gQ (zaB rfl rfl) (zaG rfl rfl (zaL tf37 (zs:=[_,_]) rfl) fun b7=>(zaG rfl rfl (zaL tf40 (zs:=[_,_]) rfl) fun b8=>(zaG rfl rfl (zaL tf41 (zs:=[_,_,_,_,_]) rfl) fun b9=>(zaA 2 tf37 rfl rfl (vs:=[_,_]) rfl rfl rfl rfl rfl (zaA 1 tf40 rfl rfl (vs:=[_,_]) rfl rfl rfl rfl rfl (zaA 0 tf41 rfl rfl (vs:=[_,_,_,_,_]) rfl rfl rfl rfl rfl (gA rfl (gN [1,2,3,6,7,8,9,10] rfl (zao 3 rfl (zbP (zac (zac (zaa (gM rfl (gQ (zbR rfl) (gN [1,2,3,6,7,8,9,25] rfl (zap rfl (fun hc25=>?_) (fun hc25=>?_))))))))))))))))))))))))))))))))
 ·
  refine zac (zaa (gQ (zaJ en14 rfl (fun w hw=>zz3 w (Rd.has (Has.rd hmx) hw) (Rd.has (Has.rd hcp) hw) (Rd.has (Has.rd hop) hw))) (gA rfl (gN [1,2,3,6,7,8,9] rfl (zaw (zay (zaC rfl (zau rfl)) ?_))))))
  rfl
 ·
  obtain⟨⟨⟨ra,rc,S2⟩,⟨rb,rd,V2⟩⟩,⟨rca,rcc⟩,⟨rba,rbc⟩⟩:=p19
  refine zjk fun hS2 hV2=>?_
  have hS2:S2.map (·.s)=S.map (·.s):=hS2
  have hV2:V2.map (·.s)=V.map (·.s):=hV2
  obtain⟨hsmp,hcs45,hbs90⟩:=zEj (by simpa using hc25)
  have hsm:=zmC (S:=S) (V:=V) hsmp
  obtain⟨hss2,hsv2,hsw2,hS1,hV1⟩:=zjv hsm
  have hs2:zaP S.length:=by have:=hsm.ls; unfold zaP; omega
  have hcs2:zaP cs.length:=by unfold zaP; omega
  have hbs2:zaP bs.length:=by unfold zaP; omega
  obtain⟨l1,l2,y1,y2,y3,y4,ykn⟩:=zxG hsm hkn hS2 hV2
  refine za2 (R':=Box b7 [.slice ra S2.length rc,.slice rb V2.length rd] 37) 8 rfl (fun B w hA=>hA) (za2 (R':=Box b8 [.slice rca cs.length rcc,.slice rba bs.length rbc] 40) 7 rfl (fun B w hA=>hA) (zaq (zac (zaa (gQ (zat 8 tf37 rfl rfl (vs:=[_,_]) rfl rfl) (gQ (zat 7 tf40 rfl rfl (vs:=[_,_]) rfl rfl) (gQ (zat 6 tf41 rfl rfl (vs:=[_,_,_,_,_]) rfl rfl) (gM rfl (gM rfl (gQ (zaJ en24 rfl (fun w hw=>zAz _ _ S2 _ _ V2 _ _ cs _ _ bs x i back w (zam zbI (hw.has (p:=0) rfl)) y1 (zcM (hw.has (p:=0) rfl)) (zam zbo (hw.has (p:=2) rfl)) y2 (fun z hz2=>zam Go.Stn.encI_ok (zbV (f:=rowH 3) (hw.has (p:=1) rfl) hz2)) y3 (fun z hz2=>zam zyn (zbV (f:=rowO 122) (hw.has (p:=3) rfl) hz2)) y4 (fun z hz2=>zcM (zbV (f:=rowO 122) (hw.has (p:=3) rfl) hz2)) ykn (zam ztJ (hw.has (p:=4) rfl)) hcs2 (zcM (hw.has (p:=4) rfl)) (zam zyx (hw.has (p:=5) rfl)) hbs2)) (gM rfl (gQ (zaB rfl rfl) (gQ (zaB rfl rfl) (gQ (zaB rfl rfl) (gA rfl (gA rfl (gA rfl (gN [1,2,3,6,7,8,9,11,12,13] rfl (zac (zac (zaa (gQ (zat 9 tf33 rfl rfl (vs:=[_,_,_,_,_,_,_,_,_]) rfl rfl) ?_))))))))))))))))))))))
  refine gQ (zaJ en17 rfl (fun w hw=>zEO _ _ S _ _ V _ _ cs _ _ bs x w (Rd.has (Has.rd hl) hw) hs2 hcS (Rd.has (Has.rd hlw) hw) hsw2 (fun z hz=>(Rd.has (Has.rd (hsh z hz)) hw)) hss2 (fun z hz=>(Rd.has (Has.rd (hwo z hz)) hw)) hsv2 hcpw hkn (Rd.has (Has.rd hc) hw) hcs2 hcap (Rd.has (Has.rd hbd) hw) hbs2 hfS hfV hco hcf)) (gQ (zbR rfl) (gN [1,2,3,6,7,8,9,11,12,13,39] rfl (zap rfl (fun hc39=>?_) (fun hc39=>?_))))
  ·have hno:¬ zym S V cs bs x=true:=by simpa using hc39
   have hA:=(zy7 (cs:=cs) (bs:=bs) (x:=x) hS2 hV2 i back).trans (zBD hno i back)
   have hE:=(zAM (cs:=cs) (bs:=bs) (x:=x) hS2 hV2).trans (zBz hno)
   refine zac (zaa (gQ (zat 8 tf37 rfl rfl (vs:=[_,_]) rfl rfl) (gQ (zat 7 tf40 rfl rfl (vs:=[_,_]) rfl rfl) (gQ (zat 6 tf41 rfl rfl (vs:=[_,_,_,_,_]) rfl rfl) (gQ (zaJ en25 rfl (fun w hw=>zCG _ _ S2 _ _ V2 _ _ cs _ _ bs x w (zam zbI (hw.has (p:=0) rfl)) y1 (zcM (hw.has (p:=0) rfl)) (zam zbo (hw.has (p:=2) rfl)) y2 (fun z hz2=>zam Go.Stn.encI_ok (zbV (f:=rowH 3) (hw.has (p:=1) rfl) hz2)) y3 (fun z hz2=>zam zyn (zbV (f:=rowO 122) (hw.has (p:=3) rfl) hz2)) y4 (fun z hz2=>zcM (zbV (f:=rowO 122) (hw.has (p:=3) rfl) hz2)) ykn (zam ztJ (hw.has (p:=4) rfl)) hcs2 (zcM (hw.has (p:=4) rfl)) (zam zyx (hw.has (p:=5) rfl)) hbs2)) (gQ (zbQ (zbL rfl rfl) (by rw [hE]; rfl)) (gM rfl (gT rfl rfl rfl (gM rfl (gT rfl rfl rfl (gQ (zbQ (zbL rfl rfl) (by rw [hA]; rfl)) (gQ (za5 rfl rfl rfl) (gM rfl (gT rfl rfl rfl (gM rfl (gT rfl rfl rfl (gQ (zbQ (zbL rfl rfl) (by rw [hA]; rfl)) (gQ (za5 rfl rfl rfl) (gM rfl (gT rfl rfl rfl (gM rfl (gT rfl rfl rfl (gQ (zbQ (zbL rfl rfl) (by rw [hA]; rfl)) (gQ (za5 rfl rfl rfl) (gM rfl (gT rfl rfl rfl ?_))))))))))))))))))))))))))
   refine gQ (zaJ en14 rfl (fun w hw=>zz3 w (Rd.has (Has.rd hmx) hw) (Rd.has (Has.rd hcp) hw) (Rd.has (Has.rd hop) hw))) (gQ (za5 rfl rfl rfl) (gA rfl (gN [1,2,3,6,7,8,9,11,12,13] rfl (zaw (zay (zaC rfl (zau rfl)) ?_)))))
   rfl
  ·have hok:zym S V cs bs x=true:=by simpa using hc39
   have hE:=(zAM (cs:=cs) (bs:=bs) (x:=x) hS2 hV2).trans (zBA hok)
   refine zaq (zac (zac (zaa (gQ (zat 8 tf37 rfl rfl (vs:=[_,_]) rfl rfl) (gQ (zat 7 tf40 rfl rfl (vs:=[_,_]) rfl rfl) (gQ (zat 6 tf41 rfl rfl (vs:=[_,_,_,_,_]) rfl rfl) (gQ (zaJ en25 rfl (fun w hw=>zCG _ _ S2 _ _ V2 _ _ cs _ _ bs x w (zam zbI (hw.has (p:=0) rfl)) y1 (zcM (hw.has (p:=0) rfl)) (zam zbo (hw.has (p:=2) rfl)) y2 (fun z hz2=>zam Go.Stn.encI_ok (zbV (f:=rowH 3) (hw.has (p:=1) rfl) hz2)) y3 (fun z hz2=>zam zyn (zbV (f:=rowO 122) (hw.has (p:=3) rfl) hz2)) y4 (fun z hz2=>zcM (zbV (f:=rowO 122) (hw.has (p:=3) rfl) hz2)) ykn (zam ztJ (hw.has (p:=4) rfl)) hcs2 (zcM (hw.has (p:=4) rfl)) (zam zyx (hw.has (p:=5) rfl)) hbs2)) (gQ (zcr rfl rfl) (gN [1,2,3,6,8,11,12,13,64] rfl (zap rfl (fun hc64=>?_) (fun hc64=>?_)))))))))))
   ·exfalso; rw [hE] at hc64; simp at hc64
   ·simp only [Bool.not_eq_false',decide_eq_true_eq] at hc64
    refine zaq (zac (zac (zbb 9 (fun _=>mixed) (by kernel_rfl) (ph_y (zaf rfl) (ph_y (zbw rfl rfl) (ph_y (zaf rfl) (zaz rfl rfl (fun hgd=>by(try rw [hgd]); exact(zaf rfl)) (zaz rfl rfl (fun hgd=>by(try rw [hgd]); exact(zab zz1 rfl)) (zaz rfl rfl (fun hgd=>by(try rw [hgd]); exact(zah 7 tf38 rfl rfl rfl)) (zaz rfl rfl (fun hgd=>by(try rw [hgd]); exact(zaV (Tryz.underlying38) rfl)) (zaz rfl rfl (fun hgd=>by(try rw [hgd]); exact(zfx rfl rfl)) (ph_y (zaR rfl rfl rfl) (gN [1,2,3,6,11,12,13,73] rfl (zap rfl (fun hc73=>?_) (fun hc73=>?_)))))))))))))))
    ·have hA:=(zy7 (cs:=cs) (bs:=bs) (x:=x) hS2 hV2 i back).trans (zA2 hok (zGx (by simpa using hc73)))
     refine zac (zaa (gM rfl (gQ (zbQ (zbL rfl rfl) (by rw [hA]; rfl)) (gM rfl (gT rfl rfl rfl (gM rfl (gT rfl rfl rfl (gQ (zbQ (zbL rfl rfl) (by rw [hA]; rfl)) (gQ (za5 rfl rfl rfl) (gM rfl (gT rfl rfl rfl (gM rfl (gT rfl rfl rfl (gQ (zbQ (zbL rfl rfl) (by rw [hA]; rfl)) (gQ (za5 rfl rfl rfl) (gM rfl (gT rfl rfl rfl (gQ (zaJ en14 rfl (fun w hw=>zz3 w (Rd.has (Has.rd hmx) hw) (Rd.has (Has.rd hcp) hw) (Rd.has (Has.rd hop) hw))) (gQ (za5 rfl rfl rfl) (gA rfl (gN [1,2,3,6,11,12,13] rfl (zaw (zay (zaC rfl (zau rfl)) ?_)))))))))))))))))))))))
     rfl
    ·have hrg:¬ (i < 0∨(bs.length:Int)≤i):=by simpa using hc73
     have i0:0≤i:=by omega
     have i1:i < bs.length:=by omega
     obtain⟨hr1,hr2⟩:=zC7 hok i0 i1 back
     refine zaq (zac (zaa (gQ (zab zCR rfl) (gQ (zat 9 tf25 rfl rfl (vs:=[_,_]) rfl rfl) (gQ (zab zz0 rfl) (gQ (zat 9 tf29 rfl rfl (vs:=[_,_]) rfl rfl) (gQ (zab zAL rfl) (gQ (zat 9 tf31 rfl rfl (vs:=[_,_,_,_,_]) rfl rfl) (gM rfl (gM rfl (gQ (zaJ en26 rfl (fun w hw=>zEb _ _ S _ _ V _ _ cs _ _ bs x i back w (Rd.has (Has.rd hl) hw) hs2 hcS (Rd.has (Has.rd hlw) hw) hsw2 (fun z hz=>(Rd.has (Has.rd (hsh z hz)) hw)) hss2 (fun z hz=>(Rd.has (Has.rd (hwo z hz)) hw)) hsv2 hcpw hkn (Rd.has (Has.rd hc) hw) hcs2 hcap (Rd.has (Has.rd hbd) hw) hbs2 hok i0 i1)) (gM rfl (gQ (zaB rfl rfl) (gQ (zaB rfl rfl) (gQ (zaB rfl rfl) (gA rfl (gA rfl (gA rfl (gN [6,11,12,13,14,15,16] rfl (zac (zac (zaa (gM rfl (gQ (zbR rfl) (gN [6,11,12,13,14,15,101] rfl (zap rfl (fun hc101=>?_) (fun hc101=>?_)))))))))))))))))))))))))))
     ·have hsn:(acrE S V bs x i back).some=false:=by rw [Bool.not_eq_true'] at hc101; exact hc101
      have hA:=(zy7 (cs:=cs) (bs:=bs) (x:=x) hS2 hV2 i back).trans (hr1 hsn).1
      refine zac (zaa (gM rfl (gQ (zbQ (zbL rfl rfl) (by rw [hA]; rfl)) (gM rfl (gT rfl rfl rfl (gM rfl (gT rfl rfl rfl (gQ (zbQ (zbL rfl rfl) (by rw [hA]; rfl)) (gQ (za5 rfl rfl rfl) (gM rfl (gT rfl rfl rfl (gM rfl (gT rfl rfl rfl (gQ (zbQ (zbL rfl rfl) (by rw [hA]; rfl)) (gQ (za5 rfl rfl rfl) (gM rfl (gT rfl rfl rfl (gQ (zaJ en14 rfl (fun w hw=>zz3 w (Rd.has (Has.rd hmx) hw) (Rd.has (Has.rd hcp) hw) (Rd.has (Has.rd hop) hw))) (gQ (za5 rfl rfl rfl) (gA rfl (gN [6,11,12,13,14,15] rfl (zaw (zay (zaC rfl (zau rfl)) ?_)))))))))))))))))))))))
      rfl
     ·have hsn:(acrE S V bs x i back).some=true:=by rw [Bool.not_eq_false'] at hc101; exact hc101
      have hA:=(zy7 (cs:=cs) (bs:=bs) (x:=x) hS2 hV2 i back).trans (hr2 hsn).1
      refine zaq (zac (zaa (gM rfl (gQ (zbQ (zbL rfl rfl) (by rw [hA]; rfl)) (gM rfl (gT rfl rfl rfl (gM rfl (gT rfl rfl rfl (gM rfl (gT rfl rfl rfl (gQ (zbQ (zbL rfl rfl) (by rw [hA]; exact decide_eq_true rfl)) (gQ (za5 rfl rfl rfl) (gM rfl (gT rfl rfl rfl (gM rfl (gT rfl rfl rfl (gM rfl (gT rfl rfl rfl (gQ (zbQ (zbL rfl rfl) (by rw [hA]; exact decide_eq_true rfl)) (gQ (za5 rfl rfl rfl) (gM rfl (gT rfl rfl rfl (gQ (zaJ en14 rfl (fun w hw=>zz3 w (Rd.has (Has.rd hmx) hw) (Rd.has (Has.rd hcp) hw) (Rd.has (Has.rd hop) hw))) (gQ (za5 rfl rfl rfl) (gA rfl (gN [6] rfl (zaw (zay (zaC rfl (zau rfl)) ?_))))))))))))))))))))))))))))
      rfl
end Go.Proofs.YteepmmghanbllaaGreatDoor
namespace Go.K
open Go Go.Stn Go.ChangeShapes Go.WideShapes Go.ChangeAt Go.WideElems Go.RowKit
def I64 (n:Int):Prop:=-9223372036854775808≤n∧n≤9223372036854775807
theorem zp6 {α:Type} {Q:Nat→α→Prop}:∀ n,(∀ i,i < n→∃ x,Q i x)→∃ l:List α,l.length=n∧∀ i x,l[i]?=some x→Q i x
 | 0,_=>⟨[],rfl,fun i x h=>by simp at h⟩
 | n+1,h=>by
  obtain⟨l,hl,hq⟩:=zp6 n (fun i hi=>h i (by omega))
  obtain⟨x,hx⟩:=h n (by omega)
  refine⟨l++[x],by simp [hl],fun i y hy=>?_⟩
  rcases Nat.lt_or_ge i n with hi | hi
  ·rw [List.getElem?_append_left (by omega)] at hy; exact hq i y hy
  ·rw [List.getElem?_append_right (by omega),hl] at hy
   have:i=n:=by
    rcases Nat.lt_or_ge n i with g | g
    ·rw [List.getElem?_eq_none (by simp; omega)] at hy; cases hy
    ·omega
   subst this
   simp at hy
   subst hy; exact hx
section
variable {H:Type} {enc:TypeId×Value→H} {P:Program}
theorem zgK (hl:laidOutB P=true) {W W':World} {sp':Nat→Bool}:∀ (ts:List TypeId) (vs:List Value) (ds:List (DataW H)) (ps:List MemPlace),(∀ t∈ts,P.readableRec t=true∧t < P.types.size) →
  DataW.TrodAll enc P W 0 (fun _=>true) true ts vs ds ps→(∀ p∈ps,W.sameAt W' p)→(∀ p∈ps,sp' p.block=true)→DataW.TrodAll enc P W' 0 sp' true ts vs ds ps
 | [],[],[],ps,_,h,_,_=>h
 | t :: ts,v :: vs,d :: ds,ps,hr,⟨p,q,h1,h2,he⟩,hs,hsp=>by
  subst he
  exact⟨p,q,Trod_stays hl (hr t (List.mem_cons_self ..)).1 (hr t (List.mem_cons_self ..)).2 h1 (fun x hx=>hs x (List.mem_append_left _ hx)) (fun x hx=>hsp x (List.mem_append_left _ hx)),
   zgK hl ts vs ds q (fun x hx=>hr x (List.mem_cons_of_mem _ hx)) h2 (fun x hx=>hs x (List.mem_append_right _ hx)) (fun x hx=>hsp x (List.mem_append_right _ hx)),rfl⟩
 | [],[],_ :: _,_,_,h,_,_=>h.elim
 | [],_ :: _,_,_,_,h,_,_=>h.elim
 | _ :: _,[],_,_,_,h,_,_=>h.elim
 | _ :: _,_ :: _,[],_,_,h,_,_=>h.elim
theorem law_post {f:Func} {s:ChangeSpec} {apart fresh handsOn again:Bool} {W W':World} {args:Array Value} {ds:List (DataW H)} {before:List MemPlace} {tb:TypeId} (hl:laidOutB P=true)
  (hW:DataW.Whole enc P f.params.toList s.vars apart W args.toList ds [] before) (hvars:s.vars=[]) (hread:f.params.toList.all (fun t=>P.readableRec t&&decide (t < P.types.size))=true)
  (hfn:s.fn H (ds++[])={ results:=[.lit (.bool true)],args:=ds }) (hrt:f.resultTypes=#[tb]) (htb:P.underlying tb=some .bool) (hb:Ext W W'):s.post enc P f apart fresh handsOn again W args (.bool true) W':=by
 have hlt:∀ p∈before,p.block < W.heap.size:=fun p hp=>hW.lt p hp
 have hold:∀ p∈before,(fun b=>decide (b < W.heap.size)) p.block=true:=fun p hp=>by simpa using hlt p hp
 have hW0:=hW
 obtain⟨p,q,hA,hV,hpq,hz,hn⟩:=hW
 rw [hvars] at hV
 obtain⟨_,rfl⟩:=trodVars_none hV
 rw [List.append_nil] at hpq
 subst hpq
 have hr:∀ t∈f.params.toList,P.readableRec t=true∧t < P.types.size:=fun t ht=>by
  have:=List.all_eq_true.1 hread t ht
  simpa using this
 have hsame:∀ x∈before,W.sameAt W' x:=fun x hx=>by
  have hlx:=hlt x hx
  cases x with
  | cell b off=>exact hb.below.cell (p:=⟨b,off,none⟩) hlx
  | map b=>exact hb.block b hlx
 have hargs:∀ sp:Nat→Bool,(∀ p∈before,sp p.block=true)→DataW.TrodAll enc P W' 0 sp true f.params.toList args.toList ds before:=fun sp hsp=>zgK hl _ _ _ _ hr hA hsame hsp
 have hres:∀ (b:Nat) (sp:Nat→Bool) (hd:Bool),DataW.TrodAll enc P W' b sp hd f.resultTypes.toList ((Value.bool true).resultList f.resultTypes.size) [.lit (.bool true)] []:=fun b sp hd=>by
  rw [hrt]
  exact⟨[],[],⟨1,by simp [DataW.trod,Value.cells,htb]⟩,rfl,rfl⟩
 refine⟨ds,[],before,[],before,[],hW0,?_,?_,?_,World.keptBut_mono (fun p hp=>⟨hp,Or.inr (Or.inl hp)⟩) (hb.below.frame (·∈before)),fun _=>?_⟩
 ·rw [hfn]; exact hres _ _ _
 ·rw [hfn]; exact hargs _ hold
 ·rw [hfn,hvars]; rfl
 ·refine⟨fun j t r ht hrr=>?_,ds.cons (.lit (.bool true)),[],before,⟨before,[],?_,by rw [hvars]; rfl,by simp,?_,?_⟩,fun x hx _=>hx⟩
  ·rw [hrt] at ht hrr
   have h0:t=tb:=by
    rcases j with _ | j
    ·simpa using ht.symm
    ·simp at ht
   have h1:r=.bool true:=by
    rcases j with _ | j
    ·simpa [Value.resultList] using hrr.symm
    ·simp at ht
   subst h0; subst h1
   exact okWide_bool_mk htb true
  ·have h1:=trodAll_append (hargs (fun _=>true) (fun _ _=>rfl)) (hres 0 (fun _=>true) true)
   simpa using h1
  ·intro b off hp
   rw [hb.below.frozen (hlt _ hp)]
   exact hz b off (by simpa using hp)
  ·intro ha
   have:=hn ha
   simpa using this
end
end Go.K
namespace Go.Proofs.YteepmmghanbllaaGreatDoor
open Go Go.K Go.Stn Go.Pln Go.ChangeShapes Go.WideShapes Go.ChangeAt Go.RowKit
theorem own:ownKnob Tryz.prog.godebug=none:=by kernel_rfl
theorem laidOut:laidOutB Tryz.prog=true:=by kernel_rfl
abbrev laidR:List (String×DataW Unit):=Rows.fieldCrossesRow.laid
noncomputable def worldR (os:Os):World:=(World.doorLaid Tryz.prog 400 os).layVars Tryz.prog [("unicode/utf8.first",Go.Pinned.utf8First)]
theorem worldR_os (os:Os):(worldR os).os=os:=World.layVars_os _ _ _
theorem door_metR (os:Os) (args:Array Value):laidMetH Tryz.prog laidR ((worldR os).forCall (fun _ _=>0) ⟨#[],args,[]⟩).memory:=
 laidMetH_of_parts3 (fuel:=8) (laidMet_of_run' 8 (by kernel_rfl) (by kernel_rfl)) (by kernel_rfl) (by kernel_rfl)
section
variable {H:Type} {enc:TypeId×Value→H}
theorem returnsInHanded_of_change_and_shaped {a:Assume} {C:Checked} {os:Os} {f:FuncId} {fn:Func} {s:ChangeSpec} {conds:List PathCond} {apart fresh handsOn again:Bool} {X:World→Array Value→Prop}
  (hX:∀ (w w':World) (args:Array Value),w.heap=w'.heap→X w args→X w' args)
  (own:ownKnob C.prog.godebug=none) (started:os.Started) (noInit:C.prog.inits.idxOf? f=none) (hfn:C.prog.funcs[f]?=some fn)
  (witness:∃ (w:World) (tape:Tape) (i:Input),w.os=os∧(w.forCall tape i).Shaped C.prog∧i.vars=[]∧Input.okWide C.prog (w.forCall tape i) .any w.heap.size f i ∧
   ((s.pre enc C.prog fn conds apart (w.forCall tape i).memory i.args∧X (w.forCall tape i).memory i.args)∧sizedMet enc C.prog fn (OpenSpec.ofChange s) apart (w.forCall tape i).memory i.args)∧a.holds C.prog (lone (Frame.enter C.prog f i.args .normal) [] (w.forCall tape i)))
  (contract:∀ (W:World) (base:Nat) (args:Array Value) (ds gs:List (DataW H)) (before:List MemPlace),
   (∀ (j:Nat) t v,fn.params[j]?=some t→args[j]?=some v→Value.okWide C.prog W .any base t v) →
   DataW.Whole enc C.prog fn.params.toList s.vars apart W args.toList ds gs before →
   conds.all (PathCond.test C.prog ⟨fn.params.toList,ds,s.plain.varTypes C.prog,gs⟩)=true →
   (DataW.weightsEach C.prog (fn.params.toList++s.plain.varTypes C.prog) (ds++gs)).all (·≤reachBytes)=true→X W args →
   W.ShapedOpen C.prog →
   Calls C.prog f args W fun e W'=>∃ v,e=.returned v∧s.post enc C.prog fn apart fresh handsOn again W args v W') :
  ReturnsInHanded a C os f .any (fun w args=>(s.pre enc C.prog fn conds apart w args∧X w args)∧sizedMet enc C.prog fn (OpenSpec.ofChange s) apart w args) (s.post enc C.prog fn apart fresh handsOn again):=by
 refine returnsInHanded_of_calls own started noInit witness ?_
 intro w tape i _ hsh _ hok hpre _
 obtain⟨_,_,_,fn',hfn',_,_,_,_,hval⟩:=hok
 have e:fn' = fn:=Option.some.inj (hfn'.symm.trans hfn)
 subst e
 obtain⟨⟨⟨ds,gs,before,hw,hc⟩,hx⟩,hz⟩:=hpre
 have hw':=DataW.Whole.of_heap (w':=w.forCall tape i) (by rfl) hw
 refine(contract (w.forCall tape i) w.heap.size i.args ds gs before hval hw' hc (hz.weights hw) (hX _ _ _ (by rfl) hx) hsh).mono fun e W' ⟨v,he,hp⟩=>?_
 subst he
 exact ChangeSpec.post_blind hp
end
theorem zo3 {W:World} {b o:Nat} {v:Value} (h:W.cell? ⟨b,o,none⟩=some v):b < W.heap.size:=by
 rcases Nat.lt_or_ge b W.heap.size with g | g
 ·exact g
 ·exfalso
  simp [World.cell?,Array.getElem?_eq_none g] at h
theorem int_of_shape {W:World} (h:W.ShapedOpen Tryz.prog):Has W (IntV 2):=by
 obtain⟨m,hm⟩:=cell_of_shapedOpen_int (P:=Tryz.prog) (g:=2) (t:=3) (zero:=#[.int .i64 0]) (k:=.i64) h (of_decide_eq_true (by kernel_rfl)) (by kernel_rfl) rfl (by kernel_rfl) (by kernel_rfl) Tryz.underlying3
 exact⟨(· = 2),fun k hk=>by rw [hk]; exact zo3 hm,fun _=>Iff.rfl,m,hm⟩
theorem zok {W:World} {l:List (String×DataW Unit)} (h:laidMetH Tryz.prog l W) {n:String} {d:DataW Unit} (hm:(n,d)∈l) (hd:d.handleName?.isNone=true):Lib.VarReads Tryz.prog W n d:=by
 unfold laidMetH at h
 split at h
 ·exact Lib.laidMet.reads h hm
 ·exact Lib.laidMet.reads h.1 (List.mem_filter.2 ⟨hm,hd⟩)
theorem zlF {t:TypeId} {k:Nat} {W:World} {fuel:Nat} {l:List Value} {L:List ByteArray} {p:List MemPlace} (ht:Tryz.prog.underlying t=some (.array k 9)) (hct:Tryz.prog.cellsOf t=k) (hk:k=L.length)
  (h:DataW.trod (fun _=>()) Tryz.prog W 0 (fun _=>true) false fuel t l=some (.agg (L.map fun s=>.lit (.string s.data.toList)),p)):l=L.map fun s=>.string s:=by
 obtain⟨xs,m,_,hx,hlen,hn,hel⟩:=DataW.trod_array ht h
 have c9:Tryz.prog.cellsOf 9=1:=by kernel_rfl
 rw [c9] at hel
 simp only [Prod.mk.injEq,DataW.agg.injEq] at hx
 have hc:l.length=k:=by rw [hlen,hct]
 refine List.ext_getElem? fun i=>?_
 rw [List.getElem?_map]
 rcases Nat.lt_or_ge i k with hi | hi
 ·have he:=hel i hi
  have hli:i < l.length:=by omega
  have hLi:i < L.length:=by omega
  have hxi:i < xs.length:=by omega
  rw [Nat.mul_one,List.drop_eq_getElem_cons hli,List.getElem?_eq_getElem hxi] at he
  have he1:DataW.trod (fun _=>()) Tryz.prog W 0 (fun _=>true) false m 9 [l[i]]=some xs[i]:=he
  obtain⟨s,e0,ey,_⟩:=DataW.trod_string Tryz.underlying9 he1
  have h1:(L.map fun s=>(DataW.lit (Lit.string s.data.toList):DataW Unit))[i]?=(xs.map (·.1))[i]?:=by rw [hx.1]
  rw [List.getElem?_map,List.getElem?_map,List.getElem?_eq_getElem hLi,List.getElem?_eq_getElem hxi,ey] at h1
  simp only [Option.map_some,Option.some.injEq,DataW.lit.injEq,Lit.string.injEq] at h1
  have h2:L[i]=s:=by
   have:=Array.toList_inj.1 h1
   exact ByteArray.ext this
  simp only [List.cons.injEq,and_true] at e0
  rw [List.getElem?_eq_getElem hli,List.getElem?_eq_getElem hLi,e0,h2]
  rfl
 ·rw [List.getElem?_eq_none (by omega),List.getElem?_eq_none (by omega)]; rfl
theorem znT {W:World} {g:Nat} {nm:String} {t:TypeId} {k:Nat} {L:List ByteArray} {l:List (String×DataW Unit)} (h:laidMetH Tryz.prog l W) (hm:(nm,.agg (L.map fun s=>.lit (.string s.data.toList)))∈l)
  (hd:(DataW.agg (L.map fun s=>.lit (.string s.data.toList)):DataW Unit).handleName?.isNone=true)
  (hg:Tryz.prog.globalNamed nm=some g) (htg:(Tryz.prog.globals[g]?).map (·.type)=some t) (ht:Tryz.prog.underlying t=some (.array k 9)) (hct:Tryz.prog.cellsOf t=k) (hk:k=L.length) (h0:0 < k):Has W (zaW (some ⟨g,0,none⟩) 1 encS L):=by
 obtain⟨g',t',cs,fuel,p,hg',ht',hv,hd'⟩:=zok h hm hd
 obtain rfl:=Option.some.inj (hg.symm.trans hg')
 obtain rfl:=Option.some.inj (htg.symm.trans ht')
 have hcs:=zlF ht hct hk hd'
 have hc:=World.var?_cell hg hv
 have hcell:∀ i x,L[i]?=some x→W.cell? ⟨g,i,none⟩=some (.string x):=fun i x hi=>by
  rw [hc i]
  obtain⟨lc⟩:=cs
  have h1:lc=_:=hcs
  rw [h1]
  simp [hi]
 refine⟨(· = g),fun b hb=>?_,.inr ⟨g,0,rfl,fun _=>Iff.rfl,fun i x hi=>⟨?_,trivial⟩⟩⟩
 ·rw [hb]
  match L,hk with
  | x :: r,_=>exact zo3 (hcell 0 x rfl)
  | [],hk=>exact absurd hk (by simp; omega)
 ·rw [Nat.zero_add,Nat.mul_one]; exact hcell i x hi
theorem copes_of_laid {W:World} {l:List (String×DataW Unit)} (h:laidMetH Tryz.prog l W) (hm:("copestone/plan.copes",Rows.laid_copestone_plan_copes)∈l):Has W (zaW (some ⟨1,0,none⟩) 1 encS zeZ):=
 znT (t:=252) (k:=4) h hm (by kernel_rfl) (by kernel_rfl) (by kernel_rfl) Tryz.underlying252 (by kernel_rfl) rfl (by decide)
theorem opens_of_laid {W:World} {l:List (String×DataW Unit)} (h:laidMetH Tryz.prog l W) (hm:("copestone/plan.openings",Rows.laid_copestone_plan_openings)∈l):Has W (zaW (some ⟨0,0,none⟩) 1 encS opensW):=
 znT (t:=231) (k:=5) h hm (by kernel_rfl) (by kernel_rfl) (by kernel_rfl) Tryz.underlying231 (by kernel_rfl) rfl (by decide)
end Go.Proofs.YteepmmghanbllaaGreatDoor